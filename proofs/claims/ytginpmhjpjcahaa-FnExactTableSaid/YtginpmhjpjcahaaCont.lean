/- slices.Contains at the program's own element types. -/
import Derived.Test.YtginpmhjpjcahaaNeedP
import Derived.Test.YtginpmhjpjcahaaApp
import Derived.Test.YtginpmhjpjcahaaSig
import Derived.BigRegion
namespace Go.Proofs.Ytginpmhjpjcahaa.L
open Go.RowKit
set_option linter.unusedVariables false
set_option linter.unusedSimpArgs false
/-- An index where the element is, -1 where it is not. -/
def RetIdx {α : Type} (xs : List α) (x : α) (w : World) (e : Ending) (w' : World) : Prop := ∃ j : Int, e = .returned (.int .i64 j) ∧ ((x ∈ xs ∧ 0 ≤ j) ∨ (¬ x ∈ xs ∧ j < 0)) ∧ Below w.heap.size w w'
set_option maxHeartbeats 2000000 in
theorem indexLie {ok : Nat → Prop} (A : Option Addr) (c : Nat) (xs : List Lie) (x : Lie) (w : World) (hx : lieK.C w ok A xs) :
    Calls Try.prog 161 #[.slice A xs.length c, x.v] w (RetIdx xs x w) := by
  have hm := hx.1
  obtain ⟨x0, x1⟩ := x
  go_enter Try.func161, Try.ntmps161
  go_wp2
  obtain ⟨W0, hW0, hB0, hs0, f0, f1⟩ : ∃ W0, W0 = w.alloc (.cells #[.int .i64 x0, .int .i64 x1] 65) ∧ Below w.heap.size w W0 ∧ w.heap.size < W0.heap.size ∧
    W0.cell? ⟨w.heap.size, 0, none⟩ = some (.int .i64 x0) ∧ W0.cell? ⟨w.heap.size, 1, none⟩ = some (.int .i64 x1) := ⟨_, rfl, below_alloc _ _, by simp, by simp, by simp⟩
  rw [← hW0]
  clear hW0
  go_loopw [8] (fun i wr => ∃ k : Nat, k ≤ xs.length ∧ i = .int .i64 k ∧ Hid (¬ inTo xs k ⟨x0, x1⟩) ∧ Below W0.heap.size W0 wr) (fun i _ => xs.length - (intOf i).toNat)
  case atStart => exact ⟨0, Nat.zero_le _, rfl, Lib.hid inTo_zero, Below.refl _ _⟩
  case round =>
    obtain ⟨k, hk, rfl, HT, hb⟩ := hrel
    obtain ⟨hc, hf⟩ := bcell hb
    have hs2 : w.heap.size < wr.heap.size := by have := hb.size; omega
    have hbw := hB0.trans (hb.mono hB0.size)
    by_cases hlt : k < xs.length
    · obtain ⟨a0, rfl, y0, y1, E, g0, g1⟩ := lieK_at (Kn.C_below hbw hx) k hlt
      have i0 : (0 : Int) ≤ (k : Int) := Int.natCast_nonneg _
      have i1 : (k : Int) < (xs.length : Int) := by omega
      have k0 := cell_below hb f0
      have k1 := cell_below hb f1
      by_cases e0 : x0 = y0
      rotate_left
      · have d : (x0 == y0) = false := int_eqf e0
        have HN := Lib.hid (inTo_snoc HT.out E.out (fun h => e0 (by injection h with h1 h2; exact h1.symm)))
        clear e0 HT
        go_wp2
        go_quiet (fail)
        go_wp2
        go_roundw
        case rel => exact ⟨k + 1, by omega, by go_num, HN, below_drewN hb _⟩
        case measure => simp [intOf]; omega
      subst e0
      by_cases e1 : x1 = y1
      rotate_left
      · have d : (x1 == y1) = false := int_eqf e1
        have HN := Lib.hid (inTo_snoc HT.out E.out (fun h => e1 (by injection h with h1 h2; exact h2.symm)))
        clear e1 HT
        go_wp2
        go_quiet (fail)
        go_wp2
        go_roundw
        case rel => exact ⟨k + 1, by omega, by go_num, HN, below_drewN hb _⟩
        case measure => simp [intOf]; omega
      subst e1
      have HN := Lib.hid (mem_of_get E.out)
      clear HT
      go_wp2
      go_quiet (fail)
      go_wp2
      go_ret
      exact ⟨_, rfl, .inl ⟨HN.out, i0⟩, below_drewN hbw _⟩
    · obtain rfl : k = xs.length := by omega
      have HN := Lib.hid (inTo_all HT.out)
      go_wp2
      go_ret
      exact ⟨_, rfl, .inr ⟨HN.out, by decide⟩, hbw⟩
set_option maxHeartbeats 1000000 in
theorem containsLie {ok : Nat → Prop} (A : Option Addr) (c : Nat) (xs : List Lie) (x : Lie) (w : World) (hx : lieK.C w ok A xs) :
    Calls Try.prog 102 #[.slice A xs.length c, x.v] w (RetB (pv (x ∈ xs)) w) := by
  obtain ⟨x0, x1⟩ := x
  go_enter Try.func102, Try.ntmps102
  go_wp2_with fail
  refine (indexLie _ _ xs ⟨x0, x1⟩ _ (Kn.C_below (below_alloc _ _) hx)).mono ?_
  rintro e w1 ⟨j, rfl, h, hb⟩
  have hB := (below_alloc w (.cells #[.int .i64 x0, .int .i64 x1] 65)).trans (hb.mono (by simp))
  rcases h with ⟨h1, h2⟩ | ⟨h1, h2⟩
  · have HN : Hid (pv (⟨x0, x1⟩ ∈ xs) = true) := Lib.hid (pv_true h1)
    clear h1
    go_wp2
    go_ret
    exact ⟨by rw [HN.out]; rfl, hB⟩
  · have HN : Hid (pv (⟨x0, x1⟩ ∈ xs) = false) := Lib.hid (pv_false h1)
    clear h1
    have h3 : decide (0 ≤ j) = false := decide_eq_false (by omega)
    go_wp2
    go_ret
    exact ⟨by rw [HN.out]; rfl, hB⟩
set_option maxHeartbeats 2000000 in
theorem indexStep {ok : Nat → Prop} (A : Option Addr) (c : Nat) (xs : List Step) (x : Step) (w : World) (hx : stepK.C w ok A xs) :
    Calls Try.prog 186 #[.slice A xs.length c, x.v] w (RetIdx xs x w) := by
  have hm := hx.1
  obtain ⟨x0, x1⟩ := x
  go_enter Try.func186, Try.ntmps186
  go_wp2
  obtain ⟨W0, hW0, hB0, hs0, f0, f1⟩ : ∃ W0, W0 = w.alloc (.cells #[.int .i64 x0, .int .i64 x1] 59) ∧ Below w.heap.size w W0 ∧ w.heap.size < W0.heap.size ∧
    W0.cell? ⟨w.heap.size, 0, none⟩ = some (.int .i64 x0) ∧ W0.cell? ⟨w.heap.size, 1, none⟩ = some (.int .i64 x1) := ⟨_, rfl, below_alloc _ _, by simp, by simp, by simp⟩
  rw [← hW0]
  clear hW0
  go_loopw [8] (fun i wr => ∃ k : Nat, k ≤ xs.length ∧ i = .int .i64 k ∧ Hid (¬ inTo xs k ⟨x0, x1⟩) ∧ Below W0.heap.size W0 wr) (fun i _ => xs.length - (intOf i).toNat)
  case atStart => exact ⟨0, Nat.zero_le _, rfl, Lib.hid inTo_zero, Below.refl _ _⟩
  case round =>
    obtain ⟨k, hk, rfl, HT, hb⟩ := hrel
    obtain ⟨hc, hf⟩ := bcell hb
    have hs2 : w.heap.size < wr.heap.size := by have := hb.size; omega
    have hbw := hB0.trans (hb.mono hB0.size)
    by_cases hlt : k < xs.length
    · obtain ⟨a0, rfl, y0, y1, E, g0, g1⟩ := stepK_at (Kn.C_below hbw hx) k hlt
      have i0 : (0 : Int) ≤ (k : Int) := Int.natCast_nonneg _
      have i1 : (k : Int) < (xs.length : Int) := by omega
      have k0 := cell_below hb f0
      have k1 := cell_below hb f1
      by_cases e0 : x0 = y0
      rotate_left
      · have d : (x0 == y0) = false := int_eqf e0
        have HN := Lib.hid (inTo_snoc HT.out E.out (fun h => e0 (by injection h with h1 h2; exact h1.symm)))
        clear e0 HT
        go_wp2
        go_quiet (fail)
        go_wp2
        go_roundw
        case rel => exact ⟨k + 1, by omega, by go_num, HN, below_drewN hb _⟩
        case measure => simp [intOf]; omega
      subst e0
      by_cases e1 : x1 = y1
      rotate_left
      · have d : (x1 == y1) = false := int_eqf e1
        have HN := Lib.hid (inTo_snoc HT.out E.out (fun h => e1 (by injection h with h1 h2; exact h2.symm)))
        clear e1 HT
        go_wp2
        go_quiet (fail)
        go_wp2
        go_roundw
        case rel => exact ⟨k + 1, by omega, by go_num, HN, below_drewN hb _⟩
        case measure => simp [intOf]; omega
      subst e1
      have HN := Lib.hid (mem_of_get E.out)
      clear HT
      go_wp2
      go_quiet (fail)
      go_wp2
      go_ret
      exact ⟨_, rfl, .inl ⟨HN.out, i0⟩, below_drewN hbw _⟩
    · obtain rfl : k = xs.length := by omega
      have HN := Lib.hid (inTo_all HT.out)
      go_wp2
      go_ret
      exact ⟨_, rfl, .inr ⟨HN.out, by decide⟩, hbw⟩
set_option maxHeartbeats 1000000 in
theorem containsStep {ok : Nat → Prop} (A : Option Addr) (c : Nat) (xs : List Step) (x : Step) (w : World) (hx : stepK.C w ok A xs) :
    Calls Try.prog 173 #[.slice A xs.length c, x.v] w (RetB (pv (x ∈ xs)) w) := by
  obtain ⟨x0, x1⟩ := x
  go_enter Try.func173, Try.ntmps173
  go_wp2_with fail
  refine (indexStep _ _ xs ⟨x0, x1⟩ _ (Kn.C_below (below_alloc _ _) hx)).mono ?_
  rintro e w1 ⟨j, rfl, h, hb⟩
  have hB := (below_alloc w (.cells #[.int .i64 x0, .int .i64 x1] 59)).trans (hb.mono (by simp))
  rcases h with ⟨h1, h2⟩ | ⟨h1, h2⟩
  · have HN : Hid (pv (⟨x0, x1⟩ ∈ xs) = true) := Lib.hid (pv_true h1)
    clear h1
    go_wp2
    go_ret
    exact ⟨by rw [HN.out]; rfl, hB⟩
  · have HN : Hid (pv (⟨x0, x1⟩ ∈ xs) = false) := Lib.hid (pv_false h1)
    clear h1
    have h3 : decide (0 ≤ j) = false := decide_eq_false (by omega)
    go_wp2
    go_ret
    exact ⟨by rw [HN.out]; rfl, hB⟩
set_option maxHeartbeats 2000000 in
theorem indexInt {ok : Nat → Prop} (A : Option Addr) (c : Nat) (xs : List Int) (x : Int) (w : World) (hx : Kn.int.C w ok A xs) :
    Calls Try.prog 157 #[.slice A xs.length c, .int .i64 x] w (RetIdx xs x w) := by
  have hm := hx.1
  obtain ⟨x0, rfl⟩ : ∃ y, y = x := ⟨_, rfl⟩
  go_enter Try.func157, Try.ntmps157
  go_wp2
  obtain ⟨W0, hW0, hB0⟩ : ∃ W0, W0 = w ∧ Below w.heap.size w W0 := ⟨_, rfl, Below.refl _ _⟩
  rw [← hW0]
  clear hW0
  go_loopw [8] (fun i wr => ∃ k : Nat, k ≤ xs.length ∧ i = .int .i64 k ∧ Hid (¬ inTo xs k x0) ∧ Below W0.heap.size W0 wr) (fun i _ => xs.length - (intOf i).toNat)
  case atStart => exact ⟨0, Nat.zero_le _, rfl, Lib.hid inTo_zero, Below.refl _ _⟩
  case round =>
    obtain ⟨k, hk, rfl, HT, hb⟩ := hrel
    obtain ⟨hc, hf⟩ := bcell hb
    have hbw := hB0.trans (hb.mono hB0.size)
    by_cases hlt : k < xs.length
    · obtain ⟨a0, rfl, y0, E, g0⟩ := int_at (Kn.C_below hbw hx) k hlt
      have i0 : (0 : Int) ≤ (k : Int) := Int.natCast_nonneg _
      have i1 : (k : Int) < (xs.length : Int) := by omega
      by_cases e0 : x0 = y0
      rotate_left
      · have d : (x0 == y0) = false := int_eqf e0
        have HN := Lib.hid (inTo_snoc HT.out E.out (fun h => e0 (by exact h.symm)))
        clear e0 HT
        go_wp2
        go_roundw
        case rel => exact ⟨k + 1, by omega, by go_num, HN, hb⟩
        case measure => simp [intOf]; omega
      subst e0
      have HN := Lib.hid (mem_of_get E.out)
      clear HT
      go_wp2
      go_ret
      exact ⟨_, rfl, .inl ⟨HN.out, i0⟩, by first | exact hb | exact hbw⟩
    · obtain rfl : k = xs.length := by omega
      have HN := Lib.hid (inTo_all HT.out)
      go_wp2
      go_ret
      exact ⟨_, rfl, .inr ⟨HN.out, by decide⟩, by first | exact hb | exact hbw⟩
set_option maxHeartbeats 1000000 in
theorem containsInt {ok : Nat → Prop} (A : Option Addr) (c : Nat) (xs : List Int) (x : Int) (w : World) (hx : Kn.int.C w ok A xs) :
    Calls Try.prog 96 #[.slice A xs.length c, .int .i64 x] w (RetB (pv (x ∈ xs)) w) := by
  obtain ⟨x0, rfl⟩ : ∃ y, y = x := ⟨_, rfl⟩
  go_enter Try.func96, Try.ntmps96
  go_wp2_with fail
  refine (indexInt _ _ xs x0 _ hx).mono ?_
  rintro e w1 ⟨j, rfl, h, hb⟩
  have hB := hb
  rcases h with ⟨h1, h2⟩ | ⟨h1, h2⟩
  · have HN : Hid (pv (x0 ∈ xs) = true) := Lib.hid (pv_true h1)
    clear h1
    go_wp2
    go_ret
    exact ⟨by rw [HN.out]; rfl, hB⟩
  · have HN : Hid (pv (x0 ∈ xs) = false) := Lib.hid (pv_false h1)
    clear h1
    have h3 : decide (0 ≤ j) = false := decide_eq_false (by omega)
    go_wp2
    go_ret
    exact ⟨by rw [HN.out]; rfl, hB⟩
end Go.Proofs.Ytginpmhjpjcahaa.L
