/- A route in memory, told in one word: its slices read as its lists. The contracts of the copiers, counters and comparers in these words. -/
import Derived.Test.YtamhkgphbpbhfaaVc
import Derived.BigRegion
import Derived.OneCell
import Derived.StillTailTactics
namespace Go.Proofs.Ytamhkgphbpbhfaa.L
open Go.RowKit
set_option linter.unusedVariables false
set_option linter.unusedSimpArgs false
theorem new_cells (W : World) (cs : List Value) (t : TypeId) {g : Nat} (hg : g = W.heap.size) : ∀ (i : Nat) (u : Value), cs[i]? = some u → (W.alloc (.cells cs.toArray t)).cell? ((⟨g, 0, none⟩ : Addr).add i) = some u := by
  intro i u hu
  subst hg
  rw [add_zero, cell_of_row _ _ _ _ _ _ (heap_alloc_new W _)]
  simpa using hu
theorem own_next {v v' : Value} {B s : Nat} (h : ∀ b, v.ownBlock = some b → B ≤ b) (ha : v'.ownBlock = v.ownBlock ∨ v'.ownBlock = some s) (hs : B ≤ s) : ∀ b, v'.ownBlock = some b → B ≤ b := by
  intro b hb
  rcases ha with ha | ha
  · exact h b (ha ▸ hb)
  · rw [ha] at hb
    injection hb with hb
    omega
theorem below_push {B : Nat} {W w1 w2 : World} {v : Value} (hb : Below B W w1) (hg : w1.grownBy w2 v.ownBlock) (ho : ∀ b, v.ownBlock = some b → B ≤ b) (hs : B ≤ w1.heap.size) : Below B W w2 := hb.grown hg hs (fun k hk => ho k hk)
end Go.Proofs.Ytamhkgphbpbhfaa.L
namespace Go.Proofs.Ytamhkgphbpbhfaa.L
open Go.RowKit
set_option linter.unusedVariables false
set_option linter.unusedSimpArgs false
def RetIdx {α : Type} (xs : List α) (x : α) (w : World) (e : Ending) (w' : World) : Prop := ∃ j : Int, e = .returned (.int .i64 j) ∧ ((x ∈ xs ∧ 0 ≤ j) ∨ (¬ x ∈ xs ∧ j < 0)) ∧ Below w.heap.size w w'
set_option maxHeartbeats 2000000 in
theorem indexLie {ok : Nat → Prop} (A : Option Addr) (c : Nat) (xs : List Lie) (x : Lie) (w : World) (hx : lieK.C w ok A xs) :
    Calls Try.prog 82 #[.slice A xs.length c, x.v] w (RetIdx xs x w) := by
  have hm := hx.1
  obtain ⟨x0, x1⟩ := x
  go_enter Try.func82, Try.ntmps82
  go_wp2
  obtain ⟨W0, hW0, hB0, hs0, f0, f1⟩ : ∃ W0, W0 = w.alloc (.cells #[.int .i64 x0, .int .i64 x1] 52) ∧ Below w.heap.size w W0 ∧ w.heap.size < W0.heap.size ∧
    W0.cell? ⟨w.heap.size, 0, none⟩ = some (.int .i64 x0) ∧ W0.cell? ⟨w.heap.size, 1, none⟩ = some (.int .i64 x1) := ⟨_, rfl, below_alloc _ _, by simp, by simp, by simp⟩
  rw [← hW0]
  clear hW0
  go_loopw [8] (fun i wr => ∃ k : Nat, k ≤ xs.length ∧ i = .int .i64 k ∧ Hid (¬ inTo xs k ⟨x0, x1⟩) ∧ Below W0.heap.size W0 wr) (fun i _ => xs.length - (intOf i).toNat)
  case atStart => exact ⟨0, Nat.zero_le _, rfl, Lib.hid inTo_zero, Below.refl _ _⟩
  case round =>
    obtain ⟨k, hk, rfl, HT, hb⟩ := hrel
    obtain ⟨hc, hf⟩ := bcell hb
    have hs2 : w.heap.size < wr.heap.size := by have := hb.size; omega
    have hbw := hB0.trans (hb.mono hB0.size)
    by_cases hlt : k < xs.length
    · obtain ⟨a0, rfl, y0, y1, E, g0, g1⟩ := lieK_at (Kn.C_below hbw hx) k hlt
      have i0 : (0 : Int) ≤ (k : Int) := Int.natCast_nonneg _
      have i1 : (k : Int) < (xs.length : Int) := by omega
      have k0 := cell_below hb f0
      have k1 := cell_below hb f1
      by_cases e0 : x0 = y0
      rotate_left
      · have d : (x0 == y0) = false := int_eqf e0
        have HN := Lib.hid (inTo_snoc HT.out E.out (fun h => e0 (by injection h with h1 h2; exact h1.symm)))
        clear e0 HT
        go_wp2
        go_quiet (fail)
        go_wp2
        go_roundw
        case rel => exact ⟨k + 1, by omega, by go_num, HN, below_drewN hb _⟩
        case measure => simp [intOf]; omega
      subst e0
      by_cases e1 : x1 = y1
      rotate_left
      · have d : (x1 == y1) = false := int_eqf e1
        have HN := Lib.hid (inTo_snoc HT.out E.out (fun h => e1 (by injection h with h1 h2; exact h2.symm)))
        clear e1 HT
        go_wp2
        go_quiet (fail)
        go_wp2
        go_roundw
        case rel => exact ⟨k + 1, by omega, by go_num, HN, below_drewN hb _⟩
        case measure => simp [intOf]; omega
      subst e1
      have HN := Lib.hid (mem_of_get E.out)
      clear HT
      go_wp2
      go_quiet (fail)
      go_wp2
      go_ret
      exact ⟨_, rfl, .inl ⟨HN.out, i0⟩, below_drewN hbw _⟩
    · obtain rfl : k = xs.length := by omega
      have HN := Lib.hid (inTo_all HT.out)
      go_wp2
      go_ret
      exact ⟨_, rfl, .inr ⟨HN.out, by decide⟩, hbw⟩
set_option maxHeartbeats 1000000 in
theorem containsLie {ok : Nat → Prop} (A : Option Addr) (c : Nat) (xs : List Lie) (x : Lie) (w : World) (hx : lieK.C w ok A xs) :
    Calls Try.prog 46 #[.slice A xs.length c, x.v] w (RetB (pv (x ∈ xs)) w) := by
  obtain ⟨x0, x1⟩ := x
  go_enter Try.func46, Try.ntmps46
  go_wp2_with fail
  refine (indexLie _ _ xs ⟨x0, x1⟩ _ (Kn.C_below (below_alloc _ _) hx)).mono ?_
  rintro e w1 ⟨j, rfl, h, hb⟩
  have hB := (below_alloc w (.cells #[.int .i64 x0, .int .i64 x1] 52)).trans (hb.mono (by simp))
  rcases h with ⟨h1, h2⟩ | ⟨h1, h2⟩
  · have HN : Hid (pv (⟨x0, x1⟩ ∈ xs) = true) := Lib.hid (pv_true h1)
    clear h1
    go_wp2
    go_ret
    exact ⟨by rw [HN.out]; rfl, hB⟩
  · have HN : Hid (pv (⟨x0, x1⟩ ∈ xs) = false) := Lib.hid (pv_false h1)
    clear h1
    have h3 : decide (0 ≤ j) = false := decide_eq_false (by omega)
    go_wp2
    go_ret
    exact ⟨by rw [HN.out]; rfl, hB⟩
set_option maxHeartbeats 2000000 in
theorem indexStep {ok : Nat → Prop} (A : Option Addr) (c : Nat) (xs : List Step) (x : Step) (w : World) (hx : stepK.C w ok A xs) :
    Calls Try.prog 108 #[.slice A xs.length c, x.v] w (RetIdx xs x w) := by
  have hm := hx.1
  obtain ⟨x0, x1⟩ := x
  go_enter Try.func108, Try.ntmps108
  go_wp2
  obtain ⟨W0, hW0, hB0, hs0, f0, f1⟩ : ∃ W0, W0 = w.alloc (.cells #[.int .i64 x0, .int .i64 x1] 46) ∧ Below w.heap.size w W0 ∧ w.heap.size < W0.heap.size ∧
    W0.cell? ⟨w.heap.size, 0, none⟩ = some (.int .i64 x0) ∧ W0.cell? ⟨w.heap.size, 1, none⟩ = some (.int .i64 x1) := ⟨_, rfl, below_alloc _ _, by simp, by simp, by simp⟩
  rw [← hW0]
  clear hW0
  go_loopw [8] (fun i wr => ∃ k : Nat, k ≤ xs.length ∧ i = .int .i64 k ∧ Hid (¬ inTo xs k ⟨x0, x1⟩) ∧ Below W0.heap.size W0 wr) (fun i _ => xs.length - (intOf i).toNat)
  case atStart => exact ⟨0, Nat.zero_le _, rfl, Lib.hid inTo_zero, Below.refl _ _⟩
  case round =>
    obtain ⟨k, hk, rfl, HT, hb⟩ := hrel
    obtain ⟨hc, hf⟩ := bcell hb
    have hs2 : w.heap.size < wr.heap.size := by have := hb.size; omega
    have hbw := hB0.trans (hb.mono hB0.size)
    by_cases hlt : k < xs.length
    · obtain ⟨a0, rfl, y0, y1, E, g0, g1⟩ := stepK_at (Kn.C_below hbw hx) k hlt
      have i0 : (0 : Int) ≤ (k : Int) := Int.natCast_nonneg _
      have i1 : (k : Int) < (xs.length : Int) := by omega
      have k0 := cell_below hb f0
      have k1 := cell_below hb f1
      by_cases e0 : x0 = y0
      rotate_left
      · have d : (x0 == y0) = false := int_eqf e0
        have HN := Lib.hid (inTo_snoc HT.out E.out (fun h => e0 (by injection h with h1 h2; exact h1.symm)))
        clear e0 HT
        go_wp2
        go_quiet (fail)
        go_wp2
        go_roundw
        case rel => exact ⟨k + 1, by omega, by go_num, HN, below_drewN hb _⟩
        case measure => simp [intOf]; omega
      subst e0
      by_cases e1 : x1 = y1
      rotate_left
      · have d : (x1 == y1) = false := int_eqf e1
        have HN := Lib.hid (inTo_snoc HT.out E.out (fun h => e1 (by injection h with h1 h2; exact h2.symm)))
        clear e1 HT
        go_wp2
        go_quiet (fail)
        go_wp2
        go_roundw
        case rel => exact ⟨k + 1, by omega, by go_num, HN, below_drewN hb _⟩
        case measure => simp [intOf]; omega
      subst e1
      have HN := Lib.hid (mem_of_get E.out)
      clear HT
      go_wp2
      go_quiet (fail)
      go_wp2
      go_ret
      exact ⟨_, rfl, .inl ⟨HN.out, i0⟩, below_drewN hbw _⟩
    · obtain rfl : k = xs.length := by omega
      have HN := Lib.hid (inTo_all HT.out)
      go_wp2
      go_ret
      exact ⟨_, rfl, .inr ⟨HN.out, by decide⟩, hbw⟩
set_option maxHeartbeats 1000000 in
theorem containsStep {ok : Nat → Prop} (A : Option Addr) (c : Nat) (xs : List Step) (x : Step) (w : World) (hx : stepK.C w ok A xs) :
    Calls Try.prog 95 #[.slice A xs.length c, x.v] w (RetB (pv (x ∈ xs)) w) := by
  obtain ⟨x0, x1⟩ := x
  go_enter Try.func95, Try.ntmps95
  go_wp2_with fail
  refine (indexStep _ _ xs ⟨x0, x1⟩ _ (Kn.C_below (below_alloc _ _) hx)).mono ?_
  rintro e w1 ⟨j, rfl, h, hb⟩
  have hB := (below_alloc w (.cells #[.int .i64 x0, .int .i64 x1] 46)).trans (hb.mono (by simp))
  rcases h with ⟨h1, h2⟩ | ⟨h1, h2⟩
  · have HN : Hid (pv (⟨x0, x1⟩ ∈ xs) = true) := Lib.hid (pv_true h1)
    clear h1
    go_wp2
    go_ret
    exact ⟨by rw [HN.out]; rfl, hB⟩
  · have HN : Hid (pv (⟨x0, x1⟩ ∈ xs) = false) := Lib.hid (pv_false h1)
    clear h1
    have h3 : decide (0 ≤ j) = false := decide_eq_false (by omega)
    go_wp2
    go_ret
    exact ⟨by rw [HN.out]; rfl, hB⟩
end Go.Proofs.Ytamhkgphbpbhfaa.L
namespace Go.Proofs.Ytamhkgphbpbhfaa.L
open Go.RowKit
set_option linter.unusedVariables false
set_option linter.unusedSimpArgs false
def Box {α : Type} (d : Kn α) (e tS : Nat) (w : World) (g : Nat) (xs : List α) (v : Value) : Prop := w.heap[g]? = some (.cells #[v] tS (0, 0)) ∧ d.Rw e w nobody v xs ∧ ∀ b, v.ownBlock = some b → g < b
def RetBox {α : Type} (d : Kn α) (e tS : Nat) (B g : Nat) (xs : List α) (w : World) (en : Ending) (w' : World) : Prop := ∃ v, en = .returned (.tuple #[]) ∧ Box d e tS w' g xs v ∧ Below B w w'
set_option maxRecDepth 100000 in
set_option maxHeartbeats 4000000 in
theorem put (g : Nat) (xs : List Lie) (x : Lie) (v : Value) (w : World) (hb : Box lieK 52 39 w g xs v) (hl : xs.length ≤ 4194304) :
    Calls Try.prog 45 #[x.v, .pointer (some ⟨g, 0, none⟩)] w (RetBox lieK 52 39 g g (if pv (x ∈ xs) = true then xs else xs ++ [x]) w) := by
  obtain ⟨i0, hi, hz0, hz1, hz2⟩ := info_parts info52
  obtain ⟨x0, x1⟩ := x
  obtain ⟨hv, HR, HO⟩ := hb
  obtain ⟨A, c, rfl, hc, HC⟩ := HR.C
  have f0 := cell_of_one hv
  have f1 := free_of_one hv
  have hg := lt_of_get hv
  have HR := Lib.hid HR
  have HO := Lib.hid HO
  have HV := Lib.hid hv
  clear hv
  by_cases q : (⟨x0, x1⟩ : Lie) ∈ xs
  · have E : Hid (pv ((⟨x0, x1⟩ : Lie) ∈ xs) = true) := Lib.hid (pv_true q)
    rw [if_pos E.out]
    clear q
    go_enter Try.func45, Try.ntmps45
    go_wp2_with fail
    refine (containsLie _ _ xs ⟨x0, x1⟩ _ (Kn.C_below (below_alloc _ _) HC)).mono ?_
    rintro e w1 ⟨rfl, hb1⟩
    rw [E.out]
    have hbw := (below_alloc _ _).trans (hb1.mono (by simp))
    go_wp2
    go_end0
    exact ⟨_, rfl, ⟨(hbw.block _ hg).trans HV.out, HR.out.below hbw, HO.out⟩, hbw.mono (by omega)⟩
  · have E : Hid (pv ((⟨x0, x1⟩ : Lie) ∈ xs) = false) := Lib.hid (pv_false q)
    rw [if_neg (by rw [E.out]; simp)]
    clear q
    go_enter Try.func45, Try.ntmps45
    go_wp2_with fail
    refine (containsLie _ _ xs ⟨x0, x1⟩ _ (Kn.C_below (below_alloc _ _) HC)).mono ?_
    rintro e w1 ⟨rfl, hb1⟩
    rw [E.out]
    have hbw := (below_alloc _ _).trans (hb1.mono (by simp))
    have HV1 : Hid (w1.heap[g]? = some (.cells #[.slice A xs.length c] 39 (0, 0))) := Lib.hid ((hbw.block _ hg).trans HV.out)
    have k0 := cell_of_one HV1.out
    have hs1 : w.heap.size < w1.heap.size := by have := hb1.size; simp at this; omega
    have kx0 : w1.cell? ⟨w.heap.size, 0, none⟩ = some (.int .i64 x0) := cell_below hb1 (by simp)
    have kx1 : w1.cell? ⟨w.heap.size, 1, none⟩ = some (.int .i64 x1) := cell_below hb1 (by simp)
    go_wp2_with (at_builtin; refine wpList_append_rw _ rfl (.tmp 7) (.tmp 9) 39 rfl 52 i0 _ 16 Try.underlying39 hi hz0 hz1 hz2 rfl (by decide) (.slice A xs.length c) xs [⟨x0, x1⟩] rfl ((HR.out.below hbw).below (below_alloc _ _)) (fun _ h => h.elim) (some ⟨w1.heap.size, 0, none⟩) 1 1 rfl rfl (Kn.Src.one (lieK_mk _ _ _) (new_cells _ _ _ rfl)) (by simp only [maxLen]; omega) (by omega) ?_; intro v' w2 HR2 hg2 hat2; obtain ⟨A2, c2, rfl, hc2⟩ := HR2.form1; have HV2 := Lib.hid ((hg2.block g (by simp; omega) (fun e => by have := HO.out g e.symm; omega)).trans ((below_alloc _ _).block g (by omega) |>.trans HV1.out)); have k2 := cell_of_one HV2.out; have k3 := free_of_one HV2.out)
    go_end0
    have hs2 := hg2.size
    simp at hs2
    refine ⟨_, rfl, ⟨one_setCell HV2.out, ?_, ?_⟩, ?_⟩
    · refine Kn.Rw.move (fun k hk => Below.heap_setCell _ _ _ _ ?_) (fun _ h => h.elim) HR2
      have := own_next (B := g + 1) (fun b h => HO.out b h) hat2 (by simp; omega) k hk
      show k ≠ g
      omega
    · exact fun b h => own_next (B := g + 1) (fun b h => HO.out b h) hat2 (by simp; omega) b h
    · exact ((below_push ((hbw.mono (by omega : g ≤ w.heap.size)).alloc (by omega) _) hg2 (fun b h => by have := HO.out b h; omega) (by simp; omega))).setCell (Nat.le_refl _) _
theorem lieK_flat : ∀ (w : World) (ok ok' : Nat → Prop) (x : Lie) (cs : List Value), lieK.K w ok x cs → lieK.K w ok' x cs := fun _ _ _ _ _ h => h
end Go.Proofs.Ytamhkgphbpbhfaa.L
namespace Go.Proofs.Ytamhkgphbpbhfaa.L
open Go.RowKit
set_option linter.unusedVariables false
set_option linter.unusedSimpArgs false
abbrev finder (n : Net) (A0 A1 : Option Addr) (c0 c1 : Nat) (sv : Value) (ov : Int) (vout : Value) (tr : Int) (vseen : Value) : List Value := [.slice A0 n.pieces.length c0, .slice A1 n.joints.length c1, sv, .int .i64 ov, vout, .int .i64 tr, vseen]
theorem beyond_spl {n : Net} {m : Nat} {p way far left : Int} {acc goal : List Part} {x : Joint} {j k : Nat} (h : acc ++ beyond n m p way far left = goal) (hm : left.toNat < m) (hl : ¬ left ≤ 0) (ha : atJ n (headE p way) = (j, k)) (hx : jt n j = x) (hs : x.kind = 2) :
    ∃ m', m = m' + 1 ∧ acc ++ [partN n p way far (tilOf n p far left)] ++ beyond n m' (en x (1 - k)).piece (wayOf (en x (1 - k))) 0 (left - (tilOf n p far left - far)) = goal := by
  obtain ⟨m', rfl⟩ : ∃ m', m = m' + 1 := ⟨m - 1, by omega⟩
  rw [beyond_plain hl ha hx hs] at h
  exact ⟨m', rfl, by rw [← h]; simp⟩
theorem beyond_end {n : Net} {m : Nat} {p way far left : Int} {acc goal : List Part} {x : Joint} {j k : Nat} (h : acc ++ beyond n m p way far left = goal) (hm : left.toNat < m) (hl : ¬ left ≤ 0) (ha : atJ n (headE p way) = (j, k)) (hx : jt n j = x) (hs : left - (tilOf n p far left - far) = 0 ∨ ¬ x.kind = 2) :
    acc ++ [partN n p way far (tilOf n p far left)] = goal := by
  obtain ⟨m', rfl⟩ : ∃ m', m = m' + 1 := ⟨m - 1, by omega⟩
  rw [beyond_last hl ha hx hs] at h
  exact h
set_option maxRecDepth 100000 in
set_option maxHeartbeats 8000000 in
theorem specBeyond {ok : Nat → Prop} (n : Net) (A0 A1 : Option Addr) (c0 c1 : Nat) (sv vout vseen : Value) (ov tr : Int) (g u : Nat) (way far : Int) (w : World) (hf : Blk w g 84 (finder n A0 A1 c0 c1 sv ov vout tr vseen)) (h : NC 102 w ok n A0 A1) (hg : Hid (Good n)) (hu : u < n.pieces.length) (hway : Hid (way = 1 ∨ way = -1)) (h0 : Hid (0 ≤ far ∧ far < pl n u)) (ho0 : 0 ≤ ov) (ho1 : ov ≤ 100000) :
    Calls Try.prog 65 #[.pointer (some ⟨g, 0, none⟩), .int .i64 u, .int .i64 way, .int .i64 far] w (RetW 48 partK nobody (beyond n (ov.toNat + 1) u way far ov) w) := by
  obtain ⟨i0, hi, hz0, hz1, hz2⟩ := info_parts info48
  have hgl := hf.lt
  have k0 := hf.cell 0 rfl
  have k1 := hf.cell 1 rfl
  have k3 := hf.cell 3 rfl
  have hmp := h.p.1
  have hmj := h.j.1
  obtain ⟨goal, HG⟩ : ∃ goal, Hid (beyond n (ov.toNat + 1) u way far ov = goal) := ⟨_, Lib.hid rfl⟩
  rw [HG.out]
  go_enter Try.func65, Try.ntmps65
  go_wp2
  go_loopw [1, 2, 3, 9, 10] (fun pv wv fv o lv wr => ∃ (m u : Nat) (way far left : Int) (acc : List Part), pv = .int .i64 u ∧ wv = .int .i64 way ∧ fv = .int .i64 far ∧ lv = .int .i64 left ∧ u < n.pieces.length ∧ 0 ≤ far ∧ left ≤ 100000 ∧ Hid (way = 1 ∨ way = -1) ∧ Hid (far < pl n u) ∧ Hid (acc ++ beyond n m u way far left = goal) ∧ Hid (left.toNat < m) ∧ Hid (partK.Rw 48 wr nobody o acc) ∧ Hid (∀ b, o.ownBlock = some b → w.heap.size ≤ b) ∧ Hid (0 ≤ left ∧ acc.length + left ≤ ov) ∧ Below w.heap.size w wr) (fun _ _ _ _ lv _ => (intOf lv).toNat)
  case atStart => exact ⟨ov.toNat + 1, u, way, far, ov, [], rfl, rfl, rfl, rfl, hu, h0.out.1, ho1, hway, Lib.hid h0.out.2, Lib.hid HG.out, Lib.hid (by omega), Lib.hid Kn.Rw.nil, Lib.hid (by simp [Value.ownBlock]), Lib.hid ⟨ho0, by simp⟩, Below.refl _ _⟩
  case round =>
    clear h0 hway
    obtain ⟨m, u, way, far, left, acc, rfl, rfl, rfl, rfl, hu, hf0, hl1, HW, HF, HB, HM, HR, HO, HL, hb⟩ := hrel
    obtain ⟨Ao, co, rfl, hco, _⟩ := HR.out.form
    by_cases hl : left ≤ 0
    · have HE : Hid (acc = goal) := Lib.hid (by have := HB.out; rw [beyond_none hl, List.append_nil] at this; exact this)
      go_wp2
      go_ret
      exact ⟨_, rfl, by rw [← HE.out]; exact HR.out, HO.out, hb⟩
    have hl0 : 0 < left := by omega
    clear hl
    obtain ⟨ad, rfl, z0, z1, z2, z3, E, g0, g1, g2, g3⟩ := pieceK_at (Kn.C_below hb h.p) u hu
    have j0 : (0 : Int) ≤ (u : Int) := Int.natCast_nonneg _
    have j1 : (u : Int) < (n.pieces.length : Int) := by omega
    have HP : Hid (pl n u = z1) := Lib.hid (pl_get E.out)
    obtain ⟨x1, x2⟩ : 1 ≤ z1 ∧ z1 ≤ 10000000 := by have := hg.out.piece _ (mem_of_get E.out); exact ⟨this.2.1, this.2.2.1⟩
    have x3 : far < z1 := by have := HF.out; rw [HP.out] at this; exact this
    have q0 := (hf.below hb hgl).cell 0 rfl
    have q1 := (hf.below hb hgl).cell 1 rfl
    have hgs : g < wr.heap.size := by have := hb.size; omega
    have HEP : Hid (stepP n.pieces.length ⟨u, way⟩) := Lib.hid ⟨⟨by show (0 : Int) ≤ u; omega, by show (u : Int) ≤ _; omega⟩, HW.out⟩
    obtain ⟨e0, HE⟩ : ∃ e0, Hid (headE u way = e0) := ⟨_, Lib.hid rfl⟩
    have HEO : Hid (endP n.pieces.length e0) := Lib.hid (by rw [← HE.out]; exact head_ok HEP.out)
    obtain ⟨j, k, x, hat, hjk, hx, hP, hjl, hkl⟩ := at_get hg.out HEO.out
    have HA := Lib.hid hjk
    have HX := Lib.hid hx
    have HAT := Lib.hid hat
    have HAH : Hid (atJ n (headE u way) = (j, k)) := Lib.hid (by rw [HE.out]; exact hjk)
    have HJP := Lib.hid hP
    clear hjk hx hat hP
    have hlen := HL.out
    have a63 : acc.length + 1 ≤ maxLen := by simp only [maxLen]; omega
    have aby : (acc.length + 1) * 24 ≤ 140737488355328 := by omega
    have m0 : (0 : Int) ≤ (j : Int) := Int.natCast_nonneg _
    have m1 : (j : Int) < (n.joints.length : Int) := by omega
    by_cases hq : z1 < far + left
    · have d0 : decide (z1 < far + left) = true := decide_eq_true hq
      have d1 : decide (far < z1) = true := decide_eq_true (by omega)
      have HT : Hid (tilOf n u far left = z1) := Lib.hid (by unfold tilOf; rw [HP.out, if_neg (by omega)])
      obtain ⟨P, HPt⟩ : ∃ P, Hid (partN n u way far (z1) = P) := ⟨_, Lib.hid rfl⟩
      go_wp2_with fail
      refine (specPart n _ (some ad) c0 u way far (z1) _ (Kn.C_below hb h.p) hg hu HW.out (by omega) (by omega)).mono ?_
      rintro e w1 ⟨rfl, hb1⟩
      rw [HPt.out]
      have hbx := hb.trans (hb1.mono hb.size)
      have HR1 := Lib.hid ((HR.out.below hb1).below (below_alloc w1 (.cells #[.int .i64 P.piece, .int .i64 P.frm, .int .i64 P.til] 48)))
      clear g0 g1 g2 g3 HR
      go_wp2_with (at_builtin; refine wpList_append_rw _ rfl (.tmp 47) (.tmp 57) 41 rfl 48 i0 _ 24 Try.underlying41 hi hz0 hz1 hz2 rfl (by decide) (.slice Ao acc.length co) acc [P] rfl HR1.out (fun _ h => h.elim) (some ⟨w1.heap.size, 0, none⟩) 1 1 rfl rfl (Kn.Src.one (partK_mk _ _ P) (new_cells _ _ _ rfl)) a63 aby ?_; intro v' w2 HR2 hg2 hat2; obtain ⟨A2, c2, rfl, hc2⟩ := HR2.form1)
      have hbA := below_push (hbx.alloc hbx.size _) hg2 HO.out (by have := hbx.size; simp; omega)
      have HO2 := Lib.hid (own_next HO.out hat2 (by have := hbx.size; simp; omega))
      have HR2 := Lib.hid HR2
      have s0 := (hf.below hbA hgl).cell 0 rfl
      have s1 := (hf.below hbA hgl).cell 1 rfl
      have hgs2 : g < w2.heap.size := by have := hbA.size; omega
      clear hg2 hat2 hbx HR1 hb1 q0 q1 HO hb hgs
      go_region_held3 (fun w' => Below w2.heap.size w2 w' ∧ w'.cell? ⟨g, 0, none⟩ = some (.slice (some ad) n.pieces.length c0) ∧ w'.cell? ⟨g, 1, none⟩ = some (.slice A1 n.joints.length c1))
        (first | exact ⟨(Below.refl _ _).drew, s0, s1⟩ | exact ⟨hbS.trans (hbc.mono hbS.size), cell_below (hbS.trans (hbc.mono hbS.size)) s0, cell_below (hbS.trans (hbc.mono hbS.size)) s1⟩)
        (first | (go_at_call 51; obtain ⟨hbS, _⟩ := ‹Below w2.heap.size w2 _ ∧ _›; (with_reducible refine (specHead _ _ _).mono ?_); rintro e wz ⟨rfl, hbc⟩; rw [HE.out]) | (go_at_call 50; obtain ⟨hbS, _⟩ := ‹Below w2.heap.size w2 _ ∧ _›; (with_reducible refine (specAt n (some ad) A1 c0 c1 e0 _ (h.below (hbA.trans (hbS.mono hbA.size))) hg HEO).mono ?_); rintro e wz ⟨rfl, hbc⟩; rw [HA.out]))
      obtain ⟨hbF, _⟩ := ‹Below w2.heap.size w2 _ ∧ _›
      have hbZ := hbA.trans (hbF.mono hbA.size)
      have HRZ := Lib.hid (HR2.out.below hbF)
      have t0 := cell_below hbF s0
      have t1 := cell_below hbF s1
      clear s0 s1 HR2 hbA hgs2
      have hgs3 : g < wz.heap.size := by have := hbZ.size; omega
      have d2 : (left - (z1 - far) == 0) = false := int_eqf (by omega)
      obtain ⟨a1, rfl, y, E1, A3, c3, r0, r1, r2, l2, C2⟩ := jointK_at (Kn.C_below hbZ h.j) j hjl
      have hy := HAT.out.1.symm.trans E1.out
      injection hy with hy
      subst hy
      have hme := C2.1
      by_cases hk : x.kind = 2
      rotate_left
      · have d3 : (x.kind != 2) = true := int_net hk
        have HEN : Hid (acc ++ [P] = goal) := Lib.hid (by have := beyond_end HB.out HM.out (by omega) HAH.out HX.out (.inr hk); rw [HT.out, HPt.out] at this; exact this)
        clear hk
        go_wp2
        go_ret
        exact ⟨_, rfl, by rw [← HEN.out]; exact HRZ.out, HO2.out, hbZ⟩
      have d3 : (x.kind != 2) = false := int_nef hk
      have hlen2 : x.ends.length = 2 := by have := HJP.out.2.1; omega
      have HL2 := Lib.hid hlen2
      have l0 : (0 : Int) < (x.ends.length : Int) := by omega
      have l1 : (1 : Int) < (x.ends.length : Int) := by omega
      obtain ⟨m', hmm, hsp⟩ := beyond_spl HB.out HM.out (by omega) HAH.out HX.out hk
      rw [HT.out, HPt.out] at hsp
      have HSP := Lib.hid hsp
      have HMM := Lib.hid hmm
      have HEK : Hid (endP n.pieces.length (en x (1 - k))) := Lib.hid (en_ok HJP.out (by omega))
      obtain ⟨u', s', HEN⟩ : ∃ (u' : Nat) (s' : Int), Hid (en x (1 - k) = ⟨u', s'⟩) := ⟨(en x (1 - k)).piece.toNat, (en x (1 - k)).side, Lib.hid (by have := HEK.out.1.1; rw [Int.toNat_of_nonneg this])⟩
      have hue : u' < n.pieces.length ∧ (s' = 0 ∨ s' = 1) := by have := HEK.out; rw [HEN.out] at this; obtain ⟨⟨b1, b2⟩, b3, b4⟩ := this; simp only at b1 b2 b3 b4; omega
      obtain ⟨hu', hs'⟩ := hue
      have HPL : Hid (0 < pl n u') := Lib.hid (by have := pl_in hg.out (p := (u' : Int)) (by omega) (by omega); omega)
      have hk2 : k = 0 ∨ k = 1 := by omega
      clear hk hlen2 hmm hsp
      rcases hk2 with rfl | rfl
      · obtain ⟨a3, rfl, v0, v1⟩ := en_pos (k := 1) (m := 2) C2 (by omega) (by omega) rfl
        rw [HEN.out] at v0 v1
        rcases hs' with rfl | rfl
        · go_wp2
          go_roundw
          case rel => exact ⟨m', u', 1, 0, left - (z1 - far), acc ++ [P], rfl, rfl, rfl, rfl, hu', by omega, by omega, Lib.hid (.inl rfl), HPL, Lib.hid (by have := HSP.out; rw [HEN.out] at this; exact this), Lib.hid (by have := HM.out; have := HMM.out; omega), Lib.hid (HRZ.out.below (below_alloc _ _)), HO2, Lib.hid ⟨by omega, by rw [List.length_append, List.length_singleton]; omega⟩, hbZ.alloc hbZ.size _⟩
          case measure => simp [intOf]; omega
        · go_wp2
          go_roundw
          case rel => exact ⟨m', u', -1, 0, left - (z1 - far), acc ++ [P], rfl, rfl, rfl, rfl, hu', by omega, by omega, Lib.hid (.inr rfl), HPL, Lib.hid (by have := HSP.out; rw [HEN.out] at this; exact this), Lib.hid (by have := HM.out; have := HMM.out; omega), Lib.hid (HRZ.out.below (below_alloc _ _)), HO2, Lib.hid ⟨by omega, by rw [List.length_append, List.length_singleton]; omega⟩, hbZ.alloc hbZ.size _⟩
          case measure => simp [intOf]; omega
      · obtain ⟨a3, rfl, v0, v1⟩ := en_zero C2 (by omega)
        rw [HEN.out] at v0 v1
        rcases hs' with rfl | rfl
        · go_wp2
          go_roundw
          case rel => exact ⟨m', u', 1, 0, left - (z1 - far), acc ++ [P], rfl, rfl, rfl, rfl, hu', by omega, by omega, Lib.hid (.inl rfl), HPL, Lib.hid (by have := HSP.out; rw [HEN.out] at this; exact this), Lib.hid (by have := HM.out; have := HMM.out; omega), Lib.hid (HRZ.out.below (below_alloc _ _)), HO2, Lib.hid ⟨by omega, by rw [List.length_append, List.length_singleton]; omega⟩, hbZ.alloc hbZ.size _⟩
          case measure => simp [intOf]; omega
        · go_wp2
          go_roundw
          case rel => exact ⟨m', u', -1, 0, left - (z1 - far), acc ++ [P], rfl, rfl, rfl, rfl, hu', by omega, by omega, Lib.hid (.inr rfl), HPL, Lib.hid (by have := HSP.out; rw [HEN.out] at this; exact this), Lib.hid (by have := HM.out; have := HMM.out; omega), Lib.hid (HRZ.out.below (below_alloc _ _)), HO2, Lib.hid ⟨by omega, by rw [List.length_append, List.length_singleton]; omega⟩, hbZ.alloc hbZ.size _⟩
          case measure => simp [intOf]; omega
    · have d0 : decide (z1 < far + left) = false := decide_eq_false hq
      have d1 : decide (far < far + left) = true := decide_eq_true (by omega)
      have HT : Hid (tilOf n u far left = far + left) := Lib.hid (by unfold tilOf; rw [HP.out, if_pos (by omega)])
      obtain ⟨P, HPt⟩ : ∃ P, Hid (partN n u way far (far + left) = P) := ⟨_, Lib.hid rfl⟩
      go_wp2_with fail
      refine (specPart n _ (some ad) c0 u way far (far + left) _ (Kn.C_below hb h.p) hg hu HW.out (by omega) (by omega)).mono ?_
      rintro e w1 ⟨rfl, hb1⟩
      rw [HPt.out]
      have hbx := hb.trans (hb1.mono hb.size)
      have HR1 := Lib.hid ((HR.out.below hb1).below (below_alloc w1 (.cells #[.int .i64 P.piece, .int .i64 P.frm, .int .i64 P.til] 48)))
      clear g0 g1 g2 g3 HR
      go_wp2_with (at_builtin; refine wpList_append_rw _ rfl (.tmp 47) (.tmp 57) 41 rfl 48 i0 _ 24 Try.underlying41 hi hz0 hz1 hz2 rfl (by decide) (.slice Ao acc.length co) acc [P] rfl HR1.out (fun _ h => h.elim) (some ⟨w1.heap.size, 0, none⟩) 1 1 rfl rfl (Kn.Src.one (partK_mk _ _ P) (new_cells _ _ _ rfl)) a63 aby ?_; intro v' w2 HR2 hg2 hat2; obtain ⟨A2, c2, rfl, hc2⟩ := HR2.form1)
      have hbA := below_push (hbx.alloc hbx.size _) hg2 HO.out (by have := hbx.size; simp; omega)
      have HO2 := Lib.hid (own_next HO.out hat2 (by have := hbx.size; simp; omega))
      have HR2 := Lib.hid HR2
      have s0 := (hf.below hbA hgl).cell 0 rfl
      have s1 := (hf.below hbA hgl).cell 1 rfl
      have hgs2 : g < w2.heap.size := by have := hbA.size; omega
      clear hg2 hat2 hbx HR1 hb1 q0 q1 HO hb hgs
      go_region_held3 (fun w' => Below w2.heap.size w2 w' ∧ w'.cell? ⟨g, 0, none⟩ = some (.slice (some ad) n.pieces.length c0) ∧ w'.cell? ⟨g, 1, none⟩ = some (.slice A1 n.joints.length c1))
        (first | exact ⟨(Below.refl _ _).drew, s0, s1⟩ | exact ⟨hbS.trans (hbc.mono hbS.size), cell_below (hbS.trans (hbc.mono hbS.size)) s0, cell_below (hbS.trans (hbc.mono hbS.size)) s1⟩)
        (first | (go_at_call 51; obtain ⟨hbS, _⟩ := ‹Below w2.heap.size w2 _ ∧ _›; (with_reducible refine (specHead _ _ _).mono ?_); rintro e wz ⟨rfl, hbc⟩; rw [HE.out]) | (go_at_call 50; obtain ⟨hbS, _⟩ := ‹Below w2.heap.size w2 _ ∧ _›; (with_reducible refine (specAt n (some ad) A1 c0 c1 e0 _ (h.below (hbA.trans (hbS.mono hbA.size))) hg HEO).mono ?_); rintro e wz ⟨rfl, hbc⟩; rw [HA.out]))
      obtain ⟨hbF, _⟩ := ‹Below w2.heap.size w2 _ ∧ _›
      have hbZ := hbA.trans (hbF.mono hbA.size)
      have HRZ := Lib.hid (HR2.out.below hbF)
      have t0 := cell_below hbF s0
      have t1 := cell_below hbF s1
      clear s0 s1 HR2 hbA hgs2
      have hgs3 : g < wz.heap.size := by have := hbZ.size; omega
      have d2 : (left - (far + left - far) == 0) = true := int_eqt (by omega)
      have HEN : Hid (acc ++ [P] = goal) := Lib.hid (by have := beyond_end HB.out HM.out (by omega) HAH.out HX.out (.inl (by rw [HT.out]; omega)); rw [HT.out, HPt.out] at this; exact this)
      go_wp2
      go_ret
      exact ⟨_, rfl, by rw [← HEN.out]; exact HRZ.out, HO2.out, hbZ⟩
end Go.Proofs.Ytamhkgphbpbhfaa.L
namespace Go.Proofs.Ytamhkgphbpbhfaa.L
open Go.RowKit
set_option linter.unusedVariables false
set_option linter.unusedSimpArgs false
section
variable {a b : Route}
end
theorem RetW.open {α : Type} {e : Nat} {d : Kn α} {ok : Nat → Prop} {xs : List α} {w w' : World} {en : Ending} (h : RetW e d ok xs w en w') : ∃ A c, en = .returned (.slice A xs.length c) ∧ xs.length ≤ c ∧ Hid (d.C w' (fun _ => True) A xs) ∧ Below w.heap.size w w' := by
  obtain ⟨v, rfl, h1, h2, h3⟩ := h
  obtain ⟨A, c, rfl, hc, hC⟩ := h1.C
  exact ⟨A, c, rfl, hc, Lib.hid (Kn.C_mono (fun _ _ => trivial) hC), h3⟩
end Go.Proofs.Ytamhkgphbpbhfaa.L
namespace Go.Proofs.Ytamhkgphbpbhfaa.L
open Go.RowKit
set_option linter.unusedVariables false
theorem C_dr {α : Type} {d : Kn α} {w : World} {ok : Nat → Prop} {A : Option Addr} {xs : List α} (h : d.C w ok A xs) : d.C w.drew ok A xs := Kn.C_move (w := w) (fun _ _ => rfl) h
structure RC (w : World) (ok : Nat → Prop) (x : Route) (A2 A3 A4 A5 A6 A7 : Option Addr) : Prop where
  h2 : stepK.C w ok A2 x.steps
  h3 : lieK.C w ok A3 x.lies
  h4 : Kn.int.C w ok A4 x.crosses
  h5 : partK.C w ok A5 x.parts
  h6 : partK.C w ok A6 x.over
  h7 : flankK.C w ok A7 x.flanks
section
variable {w w1 : World} {ok ok' : Nat → Prop} {x : Route} {A2 A3 A4 A5 A6 A7 : Option Addr}
theorem RC.below (hb : Below w.heap.size w w1) (h : RC w ok x A2 A3 A4 A5 A6 A7) : RC w1 ok x A2 A3 A4 A5 A6 A7 := ⟨Kn.C_below hb h.h2, Kn.C_below hb h.h3, Kn.C_below hb h.h4, Kn.C_below hb h.h5, Kn.C_below hb h.h6, Kn.C_below hb h.h7⟩
theorem RC.mono (hm : ∀ b, ok b → ok' b) (h : RC w ok x A2 A3 A4 A5 A6 A7) : RC w ok' x A2 A3 A4 A5 A6 A7 := ⟨Kn.C_mono hm h.h2, Kn.C_mono hm h.h3, Kn.C_mono hm h.h4, Kn.C_mono hm h.h5, Kn.C_mono hm h.h6, Kn.C_mono hm h.h7⟩
theorem RC.drew (h : RC w ok x A2 A3 A4 A5 A6 A7) : RC w.drew ok x A2 A3 A4 A5 A6 A7 := ⟨C_dr h.h2, C_dr h.h3, C_dr h.h4, C_dr h.h5, C_dr h.h6, C_dr h.h7⟩
theorem RC.keep {S S' : Nat → Prop} (hk : Keep S w w1) (hs : ∀ x, x < w.heap.size → S' x → S x) (h : RC w (Out w S) x A2 A3 A4 A5 A6 A7) : RC w1 (Out w1 S') x A2 A3 A4 A5 A6 A7 := ⟨Kn.C_keep hk hs h.h2, Kn.C_keep hk hs h.h3, Kn.C_keep hk hs h.h4, Kn.C_keep hk hs h.h5, Kn.C_keep hk hs h.h6, Kn.C_keep hk hs h.h7⟩
end
end Go.Proofs.Ytamhkgphbpbhfaa.L
