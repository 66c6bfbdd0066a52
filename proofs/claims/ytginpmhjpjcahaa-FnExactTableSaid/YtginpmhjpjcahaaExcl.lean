/- Exclude of the reference and of the program answer why two routes exclude each other. -/
import Derived.Test.YtginpmhjpjcahaaNeed2
namespace Go.Proofs.Ytginpmhjpjcahaa.L
open Go.RowKit
set_option linter.unusedVariables false
set_option linter.unusedSimpArgs false
/-- None of the first k. -/
def noneTo {α : Type} (xs : List α) (k : Nat) (P : α → Prop) : Prop := ∀ j x, j < k → xs[j]? = some x → ¬ P x
theorem noneTo_zero {α : Type} {xs : List α} {P : α → Prop} : noneTo xs 0 P := fun j x h => absurd h (by omega)
theorem noneTo_snoc {α : Type} {xs : List α} {k : Nat} {P : α → Prop} {x : α} (h : noneTo xs k P) (hx : xs[k]? = some x) (hp : ¬ P x) : noneTo xs (k + 1) P := fun j y hj hy => by
  by_cases e : j = k
  · subst e
    rw [hx] at hy
    obtain rfl := Option.some.inj hy
    exact hp
  · exact h j y (by omega) hy
theorem noneTo_all {α : Type} {xs : List α} {P : α → Prop} (h : noneTo xs xs.length P) : ¬ ∃ x, x ∈ xs ∧ P x := fun ⟨x, hx, hp⟩ => by
  obtain ⟨j, hj⟩ := List.mem_iff_getElem?.1 hx
  exact h j x (List.getElem?_eq_some_iff.1 hj).1 hj hp
section
variable {a b : Route}
theorem excl_1 (h : touch a.parts b.parts) : excl a b = 1 := by unfold excl; rw [if_pos h]
theorem excl_2 (h1 : ¬ touch a.parts b.parts) (h : crossP a.crosses b.crosses) : excl a b = 2 := by unfold excl; rw [if_neg h1, if_pos h]
theorem excl_3 (h1 : ¬ touch a.parts b.parts) (h2 : ¬ crossP a.crosses b.crosses) (h : needP a b) : excl a b = 3 := by unfold excl; rw [if_neg h1, if_neg h2, if_pos h]
theorem excl_4 (h1 : ¬ touch a.parts b.parts) (h2 : ¬ crossP a.crosses b.crosses) (h3 : ¬ needP a b) (h : touch a.over b.parts ∨ touch a.parts b.over) : excl a b = 4 := by unfold excl; rw [if_neg h1, if_neg h2, if_neg h3, if_pos h]
theorem excl_0 (h1 : ¬ touch a.parts b.parts) (h2 : ¬ crossP a.crosses b.crosses) (h3 : ¬ needP a b) (h : ¬ (touch a.over b.parts ∨ touch a.parts b.over)) : excl a b = 0 := by unfold excl; rw [if_neg h1, if_neg h2, if_neg h3, if_neg h]
end
theorem RetW.open {α : Type} {e : Nat} {d : Kn α} {ok : Nat → Prop} {xs : List α} {w w' : World} {en : Ending} (h : RetW e d ok xs w en w') : ∃ A c, en = .returned (.slice A xs.length c) ∧ xs.length ≤ c ∧ Hid (d.C w' (fun _ => True) A xs) ∧ Below w.heap.size w w' := by
  obtain ⟨v, rfl, h1, h2, h3⟩ := h
  obtain ⟨A, c, rfl, hc, hC⟩ := h1.C
  exact ⟨A, c, rfl, hc, Lib.hid (Kn.C_mono (fun _ _ => trivial) hC), h3⟩
set_option maxHeartbeats 4000000 in
theorem specTouch {ok ok' : Nat → Prop} (A B : Option Addr) (c c' : Nat) (a b : List Part) (w : World) (ha : partK.C w ok A a) (hb : partK.C w ok' B b) :
    Calls Try.prog 89 #[.slice A a.length c, .slice B b.length c'] w (RetB (pv (touch a b)) w) := by
  have hma := ha.1
  have hmb := hb.1
  go_enter Try.func89, Try.ntmps89
  go_wp2
  go_loopw [11] (fun i wr => ∃ k : Nat, k ≤ a.length ∧ i = .int .i64 k ∧ Hid (noneTo a k (fun x => ∃ y, y ∈ b ∧ meets x y)) ∧ Below w.heap.size w wr) (fun i _ => a.length - (intOf i).toNat)
  case atStart => exact ⟨0, Nat.zero_le _, rfl, Lib.hid noneTo_zero, Below.refl _ _⟩
  case round =>
    obtain ⟨k, hk, rfl, HN, hbw⟩ := hrel
    obtain ⟨wo, rfl⟩ : ∃ wo : World, wo = wr := ⟨_, rfl⟩
    by_cases hlt : k < a.length
    · obtain ⟨ad, rfl, y0, y1, y2, E, g0, g1, g2⟩ := partK_at (Kn.C_below hbw ha) k hlt
      have i0 : (0 : Int) ≤ (k : Int) := Int.natCast_nonneg _
      have i1 : (k : Int) < (a.length : Int) := by omega
      go_wp2
      obtain ⟨W1, hW1, hB1, hs1, f0, f1, f2⟩ : ∃ W1, W1 = wo.alloc (.cells #[.int .i64 y0, .int .i64 y1, .int .i64 y2] 61) ∧ Below wo.heap.size wo W1 ∧ wo.heap.size < W1.heap.size ∧
        W1.cell? ⟨wo.heap.size, 0, none⟩ = some (.int .i64 y0) ∧ W1.cell? ⟨wo.heap.size, 1, none⟩ = some (.int .i64 y1) ∧ W1.cell? ⟨wo.heap.size, 2, none⟩ = some (.int .i64 y2) := ⟨_, rfl, below_alloc _ _, by simp, by simp, by simp, by simp⟩
      rw [← hW1]
      clear hW1
      have hb1 := hbw.trans (hB1.mono hbw.size)
      go_loopw [17] (fun i wr => ∃ m : Nat, m ≤ b.length ∧ i = .int .i64 m ∧ Hid (noneTo b m (fun y => meets ⟨y0, y1, y2⟩ y)) ∧ Below W1.heap.size W1 wr) (fun i _ => b.length - (intOf i).toNat)
      case atStart => exact ⟨0, Nat.zero_le _, rfl, Lib.hid noneTo_zero, Below.refl _ _⟩
      case round =>
        obtain ⟨m, hm, rfl, HM, hbi⟩ := hrel
        have k0 := cell_below hbi f0
        have k1 := cell_below hbi f1
        have k2 := cell_below hbi f2
        have hbj := hb1.trans (hbi.mono hb1.size)
        have hsx : wo.heap.size < wr.heap.size := by have := hbi.size; omega
        by_cases hlm : m < b.length
        · obtain ⟨ae, rfl, z0, z1, z2, E1, p0, p1, p2⟩ := partK_at (Kn.C_below hbj hb) m hlm
          have m0 : (0 : Int) ≤ (m : Int) := Int.natCast_nonneg _
          have m1 : (m : Int) < (b.length : Int) := by omega
          by_cases e0 : y0 = z0
          rotate_left
          · have d0 : (y0 == z0) = false := int_eqf e0
            have HN2 := Lib.hid (noneTo_snoc HM.out E1.out (fun h => e0 h.1))
            clear e0
            go_wp2
            go_roundw
            case rel => exact ⟨m + 1, by omega, by go_num, HN2, hbi.alloc hbi.size _⟩
            case measure => simp [intOf]; omega
          have d0 : (y0 == z0) = true := int_eqt e0
          by_cases e1 : y1 ≤ z2
          rotate_left
          · have d1 : decide (y1 ≤ z2) = false := decide_eq_false e1
            have HN2 := Lib.hid (noneTo_snoc HM.out E1.out (fun h => e1 h.2.1))
            clear e1 e0
            go_wp2
            go_roundw
            case rel => exact ⟨m + 1, by omega, by go_num, HN2, hbi.alloc hbi.size _⟩
            case measure => simp [intOf]; omega
          have d1 : decide (y1 ≤ z2) = true := decide_eq_true e1
          by_cases e2 : z1 ≤ y2
          rotate_left
          · have d2 : decide (z1 ≤ y2) = false := decide_eq_false e2
            have HN2 := Lib.hid (noneTo_snoc HM.out E1.out (fun h => e2 h.2.2))
            clear e2 e0 e1
            go_wp2
            go_roundw
            case rel => exact ⟨m + 1, by omega, by go_num, HN2, hbi.alloc hbi.size _⟩
            case measure => simp [intOf]; omega
          have d2 : decide (z1 ≤ y2) = true := decide_eq_true e2
          have HT : Hid (pv (touch a b) = true) := Lib.hid (pv_true ⟨_, mem_of_get E.out, _, mem_of_get E1.out, e0, e1, e2⟩)
          clear e0 e1 e2
          go_wp2
          go_ret
          exact ⟨by rw [HT.out]; rfl, hbj.alloc hbj.size _⟩
        · obtain rfl : m = b.length := by omega
          have HN2 := Lib.hid (noneTo_snoc HN.out E.out (noneTo_all HM.out))
          go_wp2
          go_roundw
          case rel => exact ⟨k + 1, by omega, by go_num, HN2, hbj⟩
          case measure => simp [intOf]; omega
    · obtain rfl : k = a.length := by omega
      have HT : Hid (pv (touch a b) = false) := Lib.hid (pv_false (noneTo_all HN.out))
      go_wp2
      go_ret
      exact ⟨by rw [HT.out]; rfl, hbw⟩
set_option maxHeartbeats 4000000 in
theorem implTouch {ok ok' : Nat → Prop} (A B : Option Addr) (c c' : Nat) (a b : List Part) (w : World) (ha : partK.C w ok A a) (hb : partK.C w ok' B b) :
    Calls Try.prog 95 #[.slice A a.length c, .slice B b.length c'] w (RetB (pv (touch a b)) w) := by
  have hma := ha.1
  have hmb := hb.1
  go_enter Try.func95, Try.ntmps95
  go_wp2
  go_loopw [11] (fun i wr => ∃ k : Nat, k ≤ a.length ∧ i = .int .i64 k ∧ Hid (noneTo a k (fun x => ∃ y, y ∈ b ∧ meets x y)) ∧ Below w.heap.size w wr) (fun i _ => a.length - (intOf i).toNat)
  case atStart => exact ⟨0, Nat.zero_le _, rfl, Lib.hid noneTo_zero, Below.refl _ _⟩
  case round =>
    obtain ⟨k, hk, rfl, HN, hbw⟩ := hrel
    obtain ⟨wo, rfl⟩ : ∃ wo : World, wo = wr := ⟨_, rfl⟩
    by_cases hlt : k < a.length
    · obtain ⟨ad, rfl, y0, y1, y2, E, g0, g1, g2⟩ := partK_at (Kn.C_below hbw ha) k hlt
      have i0 : (0 : Int) ≤ (k : Int) := Int.natCast_nonneg _
      have i1 : (k : Int) < (a.length : Int) := by omega
      go_wp2
      obtain ⟨W1, hW1, hB1, hs1, f0, f1, f2⟩ : ∃ W1, W1 = wo.alloc (.cells #[.int .i64 y0, .int .i64 y1, .int .i64 y2] 61) ∧ Below wo.heap.size wo W1 ∧ wo.heap.size < W1.heap.size ∧
        W1.cell? ⟨wo.heap.size, 0, none⟩ = some (.int .i64 y0) ∧ W1.cell? ⟨wo.heap.size, 1, none⟩ = some (.int .i64 y1) ∧ W1.cell? ⟨wo.heap.size, 2, none⟩ = some (.int .i64 y2) := ⟨_, rfl, below_alloc _ _, by simp, by simp, by simp, by simp⟩
      rw [← hW1]
      clear hW1
      have hb1 := hbw.trans (hB1.mono hbw.size)
      go_loopw [17] (fun i wr => ∃ m : Nat, m ≤ b.length ∧ i = .int .i64 m ∧ Hid (noneTo b m (fun y => meets ⟨y0, y1, y2⟩ y)) ∧ Below W1.heap.size W1 wr) (fun i _ => b.length - (intOf i).toNat)
      case atStart => exact ⟨0, Nat.zero_le _, rfl, Lib.hid noneTo_zero, Below.refl _ _⟩
      case round =>
        obtain ⟨m, hm, rfl, HM, hbi⟩ := hrel
        have k0 := cell_below hbi f0
        have k1 := cell_below hbi f1
        have k2 := cell_below hbi f2
        have hbj := hb1.trans (hbi.mono hb1.size)
        have hsx : wo.heap.size < wr.heap.size := by have := hbi.size; omega
        by_cases hlm : m < b.length
        · obtain ⟨ae, rfl, z0, z1, z2, E1, p0, p1, p2⟩ := partK_at (Kn.C_below hbj hb) m hlm
          have m0 : (0 : Int) ≤ (m : Int) := Int.natCast_nonneg _
          have m1 : (m : Int) < (b.length : Int) := by omega
          by_cases e0 : y0 = z0
          rotate_left
          · have d0 : (y0 == z0) = false := int_eqf e0
            have HN2 := Lib.hid (noneTo_snoc HM.out E1.out (fun h => e0 h.1))
            clear e0
            go_wp2
            go_roundw
            case rel => exact ⟨m + 1, by omega, by go_num, HN2, hbi.alloc hbi.size _⟩
            case measure => simp [intOf]; omega
          have d0 : (y0 == z0) = true := int_eqt e0
          by_cases e1 : y1 ≤ z2
          rotate_left
          · have d1 : decide (y1 ≤ z2) = false := decide_eq_false e1
            have HN2 := Lib.hid (noneTo_snoc HM.out E1.out (fun h => e1 h.2.1))
            clear e1 e0
            go_wp2
            go_roundw
            case rel => exact ⟨m + 1, by omega, by go_num, HN2, hbi.alloc hbi.size _⟩
            case measure => simp [intOf]; omega
          have d1 : decide (y1 ≤ z2) = true := decide_eq_true e1
          by_cases e2 : z1 ≤ y2
          rotate_left
          · have d2 : decide (z1 ≤ y2) = false := decide_eq_false e2
            have HN2 := Lib.hid (noneTo_snoc HM.out E1.out (fun h => e2 h.2.2))
            clear e2 e0 e1
            go_wp2
            go_roundw
            case rel => exact ⟨m + 1, by omega, by go_num, HN2, hbi.alloc hbi.size _⟩
            case measure => simp [intOf]; omega
          have d2 : decide (z1 ≤ y2) = true := decide_eq_true e2
          have HT : Hid (pv (touch a b) = true) := Lib.hid (pv_true ⟨_, mem_of_get E.out, _, mem_of_get E1.out, e0, e1, e2⟩)
          clear e0 e1 e2
          go_wp2
          go_ret
          exact ⟨by rw [HT.out]; rfl, hbj.alloc hbj.size _⟩
        · obtain rfl : m = b.length := by omega
          have HN2 := Lib.hid (noneTo_snoc HN.out E.out (noneTo_all HM.out))
          go_wp2
          go_roundw
          case rel => exact ⟨k + 1, by omega, by go_num, HN2, hbj⟩
          case measure => simp [intOf]; omega
    · obtain rfl : k = a.length := by omega
      have HT : Hid (pv (touch a b) = false) := Lib.hid (pv_false (noneTo_all HN.out))
      go_wp2
      go_ret
      exact ⟨by rw [HT.out]; rfl, hbw⟩
set_option maxRecDepth 100000 in
set_option maxHeartbeats 16000000 in
theorem specExclude {ok : Nat → Prop} (a b : Route) (p0 p1 p2 q0 q1 q2 : Value) (P3 P4 P5 P6 P7 Q3 Q4 Q5 Q6 Q7 : Option Addr) (cp3 cp4 cp5 cp6 cp7 cq3 cq4 cq5 cq6 cq7 : Nat) (w : World) (hp3 : lieK.C w ok P3 a.lies) (hp4 : Kn.int.C w ok P4 a.crosses) (hp5 : partK.C w ok P5 a.parts) (hp6 : partK.C w ok P6 a.over) (hp7 : flankK.C w ok P7 a.flanks) (hq3 : lieK.C w ok Q3 b.lies) (hq4 : Kn.int.C w ok Q4 b.crosses) (hq5 : partK.C w ok Q5 b.parts) (hq6 : partK.C w ok Q6 b.over) (hq7 : flankK.C w ok Q7 b.flanks) (la : a.lies.length ≤ 1048576) (fa : a.flanks.length ≤ 1048576) (lb : b.lies.length ≤ 1048576) (fb : b.flanks.length ≤ 1048576) :
    Calls Try.prog 29 #[.agg #[p0, p1, p2, .slice P3 a.lies.length cp3, .slice P4 a.crosses.length cp4, .slice P5 a.parts.length cp5, .slice P6 a.over.length cp6, .slice P7 a.flanks.length cp7], .agg #[q0, q1, q2, .slice Q3 b.lies.length cq3, .slice Q4 b.crosses.length cq4, .slice Q5 b.parts.length cq5, .slice Q6 b.over.length cq6, .slice Q7 b.flanks.length cq7]] w (RetI (excl a b) w) := by
  have mp4 := hp4.1
  have mq4 := hq4.1
  go_enter Try.func29, Try.ntmps29
  go_wp2_with fail
  obtain ⟨W0, hW0, hB0, hs0, hs1, fp0, fp1, fp2, fp3, fp4, fp5, fp6, fp7, fq0, fq1, fq2, fq3, fq4, fq5, fq6, fq7⟩ : ∃ W0, W0 = (w.alloc (.cells #[p0, p1, p2, .slice P3 a.lies.length cp3, .slice P4 a.crosses.length cp4, .slice P5 a.parts.length cp5, .slice P6 a.over.length cp6, .slice P7 a.flanks.length cp7] 57)).alloc (.cells #[q0, q1, q2, .slice Q3 b.lies.length cq3, .slice Q4 b.crosses.length cq4, .slice Q5 b.parts.length cq5, .slice Q6 b.over.length cq6, .slice Q7 b.flanks.length cq7] 57) ∧ Below w.heap.size w W0 ∧ w.heap.size < W0.heap.size ∧ w.heap.size + 1 < W0.heap.size ∧
    W0.cell? ⟨w.heap.size, 0, none⟩ = some p0 ∧ W0.cell? ⟨w.heap.size, 1, none⟩ = some p1 ∧ W0.cell? ⟨w.heap.size, 2, none⟩ = some p2 ∧ W0.cell? ⟨w.heap.size, 3, none⟩ = some (.slice P3 a.lies.length cp3) ∧ W0.cell? ⟨w.heap.size, 4, none⟩ = some (.slice P4 a.crosses.length cp4) ∧ W0.cell? ⟨w.heap.size, 5, none⟩ = some (.slice P5 a.parts.length cp5) ∧ W0.cell? ⟨w.heap.size, 6, none⟩ = some (.slice P6 a.over.length cp6) ∧ W0.cell? ⟨w.heap.size, 7, none⟩ = some (.slice P7 a.flanks.length cp7) ∧ W0.cell? ⟨w.heap.size + 1, 0, none⟩ = some q0 ∧ W0.cell? ⟨w.heap.size + 1, 1, none⟩ = some q1 ∧ W0.cell? ⟨w.heap.size + 1, 2, none⟩ = some q2 ∧ W0.cell? ⟨w.heap.size + 1, 3, none⟩ = some (.slice Q3 b.lies.length cq3) ∧ W0.cell? ⟨w.heap.size + 1, 4, none⟩ = some (.slice Q4 b.crosses.length cq4) ∧ W0.cell? ⟨w.heap.size + 1, 5, none⟩ = some (.slice Q5 b.parts.length cq5) ∧ W0.cell? ⟨w.heap.size + 1, 6, none⟩ = some (.slice Q6 b.over.length cq6) ∧ W0.cell? ⟨w.heap.size + 1, 7, none⟩ = some (.slice Q7 b.flanks.length cq7) := ⟨_, rfl, (below_alloc _ _).alloc (by simp) _, by simp; omega, by simp, by simp, by simp, by simp, by simp, by simp, by simp, by simp, by simp, by simp, by simp, by simp, by simp, by simp, by simp, by simp, by simp⟩
  rw [← hW0]
  clear hW0
  refine (specTouch _ _ _ _ _ _ _ (Kn.C_below hB0 hp5) (Kn.C_below hB0 hq5)).mono ?_
  rintro e w1 ⟨rfl, hb1⟩
  have hbw1 := hB0.trans (hb1.mono hB0.size)
  have hz1 : w.heap.size < w1.heap.size := by have := hb1.size; omega
  have hz2 : w.heap.size + 1 < w1.heap.size := by have := hb1.size; omega
  have kp0 := cell_below hb1 fp0
  have kp1 := cell_below hb1 fp1
  have kp2 := cell_below hb1 fp2
  have kp3 := cell_below hb1 fp3
  have kp4 := cell_below hb1 fp4
  have kp5 := cell_below hb1 fp5
  have kp6 := cell_below hb1 fp6
  have kp7 := cell_below hb1 fp7
  have kq0 := cell_below hb1 fq0
  have kq1 := cell_below hb1 fq1
  have kq2 := cell_below hb1 fq2
  have kq3 := cell_below hb1 fq3
  have kq4 := cell_below hb1 fq4
  have kq5 := cell_below hb1 fq5
  have kq6 := cell_below hb1 fq6
  have kq7 := cell_below hb1 fq7
  clear fp0 fp1 fp2 fp3 fp4 fp5 fp6 fp7 fq0 fq1 fq2 fq3 fq4 fq5 fq6 fq7 hb1 hs0 hs1 hB0
  by_cases t1 : touch a.parts b.parts
  · have HE : Hid (excl a b = 1) := Lib.hid (excl_1 t1)
    have HT : Hid (pv (touch a.parts b.parts) = true) := Lib.hid (pv_true t1)
    clear t1
    rw [HT.out]
    go_wp2
    go_ret
    exact ⟨by rw [HE.out]; rfl, hbw1⟩
  have T1 := Lib.hid t1
  have HT : Hid (pv (touch a.parts b.parts) = false) := Lib.hid (pv_false t1)
  clear t1
  rw [HT.out]
  clear HT
  go_wp2
  go_loopw [21] (fun i wr => ∃ k : Nat, k ≤ a.crosses.length ∧ i = .int .i64 k ∧ Hid (noneTo a.crosses k (fun x => x ∈ b.crosses)) ∧ wr = w1) (fun i _ => a.crosses.length - (intOf i).toNat)
  case atStart => exact ⟨0, Nat.zero_le _, rfl, Lib.hid noneTo_zero, rfl⟩
  case round =>
    obtain ⟨k, hk, rfl, HN, rfl⟩ := hrel
    have hbw := hbw1
    clear hbw1
    by_cases hlt : k < a.crosses.length
    · obtain ⟨ad, rfl, y0, E, g0⟩ := int_at (Kn.C_below hbw hp4) k hlt
      have i0 : (0 : Int) ≤ (k : Int) := Int.natCast_nonneg _
      have i1 : (k : Int) < (a.crosses.length : Int) := by omega
      obtain ⟨wo, rfl⟩ : ∃ wo : World, wo = wr := ⟨_, rfl⟩
      go_wp2
      go_loopw [28] (fun i wr => ∃ m : Nat, m ≤ b.crosses.length ∧ i = .int .i64 m ∧ Hid (noneTo b.crosses m (fun y => y0 = y)) ∧ wr = wo) (fun i _ => b.crosses.length - (intOf i).toNat)
      case atStart => exact ⟨0, Nat.zero_le _, rfl, Lib.hid noneTo_zero, rfl⟩
      case round =>
        obtain ⟨m, hm, rfl, HM, rfl⟩ := hrel
        by_cases hlm : m < b.crosses.length
        · obtain ⟨ae, rfl, z0, E1, r0⟩ := int_at (Kn.C_below hbw hq4) m hlm
          have m0 : (0 : Int) ≤ (m : Int) := Int.natCast_nonneg _
          have m1 : (m : Int) < (b.crosses.length : Int) := by omega
          by_cases e0 : y0 = z0
          rotate_left
          · have d0 : (y0 == z0) = false := int_eqf e0
            have HN2 := Lib.hid (noneTo_snoc HM.out E1.out e0)
            clear e0
            go_wp2
            go_roundw
            case rel => exact ⟨m + 1, by omega, by go_num, HN2, by first | rfl | trivial⟩
            case measure => simp [intOf]; omega
          have d0 : (y0 == z0) = true := int_eqt e0
          have HE : Hid (excl a b = 2) := Lib.hid (excl_2 T1.out ⟨y0, mem_of_get E.out, by rw [e0]; exact mem_of_get E1.out⟩)
          clear e0
          go_wp2
          go_ret
          exact ⟨by rw [HE.out]; rfl, hbw⟩
        · obtain rfl : m = b.crosses.length := by omega
          have HN2 := Lib.hid (noneTo_snoc HN.out E.out (fun h => noneTo_all HM.out ⟨_, h, rfl⟩))
          go_wp2
          go_roundw
          case rel => exact ⟨k + 1, by omega, by go_num, HN2, by first | rfl | trivial⟩
          case measure => simp [intOf]; omega
    · obtain rfl : k = a.crosses.length := by omega
      have T2 : Hid (¬ crossP a.crosses b.crosses) := Lib.hid (noneTo_all HN.out)
      clear HN
      go_wp2_with fail
      clear hlt hk
      refine (specNeeds a p0 p1 p2 (.slice P4 a.crosses.length cp4) (.slice P5 a.parts.length cp5) (.slice P6 a.over.length cp6) P3 P7 cp3 cp7 _ (Kn.C_below hbw hp3) (Kn.C_below hbw hp7) la fa).mono ?_
      intro e w2 hr
      obtain ⟨NA, nc, rfl, hnc, HC, hb2⟩ := RetW.open hr
      clear hr
      have hbw2 := hbw.trans (hb2.mono hbw.size)
      have hz3 : w.heap.size < w2.heap.size := by have := hb2.size; omega
      have hz4 : w.heap.size + 1 < w2.heap.size := by have := hb2.size; omega
      have hnm := HC.out.1
      have hnm2 := (Nat.le_refl (needs a).length)
      have op0 := cell_below hb2 kp0
      have op1 := cell_below hb2 kp1
      have op2 := cell_below hb2 kp2
      have op3 := cell_below hb2 kp3
      have op4 := cell_below hb2 kp4
      have op5 := cell_below hb2 kp5
      have op6 := cell_below hb2 kp6
      have op7 := cell_below hb2 kp7
      have oq0 := cell_below hb2 kq0
      have oq1 := cell_below hb2 kq1
      have oq2 := cell_below hb2 kq2
      have oq3 := cell_below hb2 kq3
      have oq4 := cell_below hb2 kq4
      have oq5 := cell_below hb2 kq5
      have oq6 := cell_below hb2 kq6
      have oq7 := cell_below hb2 kq7
      clear hbw hb2 kp0 kp1 kp2 kp3 kp4 kp5 kp6 kp7 kq0 kq1 kq2 kq3 kq4 kq5 kq6 kq7
      go_wp2
      go_loopw [40] (fun i wr => ∃ k : Nat, k ≤ (needs a).length ∧ i = .int .i64 k ∧ Hid (noneTo (needs a) k (fun x => ∃ y, y ∈ needs b ∧ against x y)) ∧ Below w2.heap.size w2 wr) (fun i _ => (needs a).length - (intOf i).toNat)
      case atStart => exact ⟨0, Nat.zero_le _, rfl, Lib.hid noneTo_zero, Below.refl _ _⟩
      case round =>
        obtain ⟨k, hk, rfl, HN, hbr⟩ := hrel
        obtain ⟨wo, rfl⟩ : ∃ wo : World, wo = wr := ⟨_, rfl⟩
        have hbw := hbw2.trans (hbr.mono hbw2.size)
        have hz5 : w.heap.size < wo.heap.size := by have := hbr.size; omega
        have hz6 : w.heap.size + 1 < wo.heap.size := by have := hbr.size; omega
        by_cases hlt : k < (needs a).length
        · obtain ⟨ad, rfl, y0, y1, E, g0, g1⟩ := lieK_at (Kn.C_below hbr HC.out) k hlt
          have i0 : (0 : Int) ≤ (k : Int) := Int.natCast_nonneg _
          have i1 : (k : Int) < ((needs a).length : Int) := by omega
          obtain ⟨W1, hW1, hB1, hs1, u0, u1⟩ : ∃ W1, W1 = wo.alloc (.cells #[.int .i64 y0, .int .i64 y1] 65) ∧ Below wo.heap.size wo W1 ∧ wo.heap.size < W1.heap.size ∧
            W1.cell? ⟨wo.heap.size, 0, none⟩ = some (.int .i64 y0) ∧ W1.cell? ⟨wo.heap.size, 1, none⟩ = some (.int .i64 y1) := ⟨_, rfl, below_alloc _ _, by simp, by simp, by simp⟩
          have hb1 := hbr.trans (hB1.mono hbr.size)
          have hbw1 := hbw.trans (hB1.mono hbw.size)
          have tp0 := cell_below hbr op0
          have tp1 := cell_below hbr op1
          have tp2 := cell_below hbr op2
          have tp3 := cell_below hbr op3
          have tp4 := cell_below hbr op4
          have tp5 := cell_below hbr op5
          have tp6 := cell_below hbr op6
          have tp7 := cell_below hbr op7
          have tq0 := cell_below hbr oq0
          have tq1 := cell_below hbr oq1
          have tq2 := cell_below hbr oq2
          have tq3 := cell_below hbr oq3
          have tq4 := cell_below hbr oq4
          have tq5 := cell_below hbr oq5
          have tq6 := cell_below hbr oq6
          have tq7 := cell_below hbr oq7
          go_wp2_with fail
          rw [← hW1]
          clear hW1 
          refine (specNeeds b q0 q1 q2 (.slice Q4 b.crosses.length cq4) (.slice Q5 b.parts.length cq5) (.slice Q6 b.over.length cq6) Q3 Q7 cq3 cq7 _ (Kn.C_below hbw1 hq3) (Kn.C_below hbw1 hq7) lb fb).mono ?_
          intro e w3 hr
          obtain ⟨NB, mc, rfl, hmc, HD, hb3⟩ := RetW.open hr
          clear hr
          have hmm := HD.out.1
          have v0 := cell_below hb3 u0
          have v1 := cell_below hb3 u1
          have hs3 : wo.heap.size < w3.heap.size := by have := hb3.size; omega
          have hbr3 := hb1.trans (hb3.mono hb1.size)
          have hbw3 := hbw1.trans (hb3.mono hbw1.size)
          clear u0 u1 hs1 hb3 hb1 hbw1 hbw hbr
          go_wp2
          go_loopw [47] (fun i wr => ∃ m : Nat, m ≤ (needs b).length ∧ i = .int .i64 m ∧ Hid (noneTo (needs b) m (fun y => against ⟨y0, y1⟩ y)) ∧ Below w3.heap.size w3 wr) (fun i _ => (needs b).length - (intOf i).toNat)
          case atStart => exact ⟨0, Nat.zero_le _, rfl, Lib.hid noneTo_zero, Below.refl _ _⟩
          case round =>
            obtain ⟨m, hm, rfl, HM, hbi⟩ := hrel
            have x0 := cell_below hbi v0
            have x1 := cell_below hbi v1
            have hsx : wo.heap.size < wr.heap.size := by have := hbi.size; omega
            have hbri := hbr3.trans (hbi.mono hbr3.size)
            have hbwi := hbw3.trans (hbi.mono hbw3.size)
            by_cases hlm : m < (needs b).length
            · obtain ⟨ae, rfl, z0, z1, E1, r0, r1⟩ := lieK_at (Kn.C_below hbi HD.out) m hlm
              have m0 : (0 : Int) ≤ (m : Int) := Int.natCast_nonneg _
              have m1 : (m : Int) < ((needs b).length : Int) := by omega
              by_cases e0 : y0 = z0
              rotate_left
              · have d0 : (y0 == z0) = false := int_eqf e0
                have HN2 := Lib.hid (noneTo_snoc HM.out E1.out (fun h => e0 h.1))
                clear e0
                go_wp2
                go_roundw
                case rel => exact ⟨m + 1, by omega, by go_num, HN2, hbi.alloc hbi.size _⟩
                case measure => simp [intOf]; omega
              have d0 : (y0 == z0) = true := int_eqt e0
              by_cases e1 : y1 = z1
              · have d1 : (y1 != z1) = false := by simpa using e1
                have HN2 := Lib.hid (noneTo_snoc HM.out E1.out (fun h => h.2 e1))
                clear e0 e1
                go_wp2
                go_roundw
                case rel => exact ⟨m + 1, by omega, by go_num, HN2, hbi.alloc hbi.size _⟩
                case measure => simp [intOf]; omega
              have d1 : (y1 != z1) = true := int_ne e1
              have HE : Hid (excl a b = 3) := Lib.hid (excl_3 T1.out T2.out ⟨_, mem_of_get E.out, _, mem_of_get E1.out, e0, e1⟩)
              clear e0 e1
              go_wp2
              go_ret
              exact ⟨by rw [HE.out]; rfl, hbwi.alloc hbwi.size _⟩
            · obtain rfl : m = (needs b).length := by omega
              have HN2 := Lib.hid (noneTo_snoc HN.out E.out (noneTo_all HM.out))
              go_wp2
              go_roundw
              case rel => exact ⟨k + 1, by omega, by go_num, HN2, hbri⟩
              case measure => simp [intOf]; omega
        · obtain rfl : k = (needs a).length := by omega
          have T3 : Hid (¬ needP a b) := Lib.hid (noneTo_all HN.out)
          have tp0 := cell_below hbr op0
          have tp1 := cell_below hbr op1
          have tp2 := cell_below hbr op2
          have tp3 := cell_below hbr op3
          have tp4 := cell_below hbr op4
          have tp5 := cell_below hbr op5
          have tp6 := cell_below hbr op6
          have tp7 := cell_below hbr op7
          have tq0 := cell_below hbr oq0
          have tq1 := cell_below hbr oq1
          have tq2 := cell_below hbr oq2
          have tq3 := cell_below hbr oq3
          have tq4 := cell_below hbr oq4
          have tq5 := cell_below hbr oq5
          have tq6 := cell_below hbr oq6
          have tq7 := cell_below hbr oq7
          clear HN 
          go_wp2_with fail
          refine (specTouch _ _ _ _ _ _ _ (Kn.C_below hbw hp6) (Kn.C_below hbw hq5)).mono ?_
          rintro e w4 ⟨rfl, hb4⟩
          have hbw4 := hbw.trans (hb4.mono hbw.size)
          have hz7 : w.heap.size < w4.heap.size := by have := hb4.size; omega
          have hz8 : w.heap.size + 1 < w4.heap.size := by have := hb4.size; omega
          have sp0 := cell_below hb4 tp0
          have sp1 := cell_below hb4 tp1
          have sp2 := cell_below hb4 tp2
          have sp3 := cell_below hb4 tp3
          have sp4 := cell_below hb4 tp4
          have sp5 := cell_below hb4 tp5
          have sp6 := cell_below hb4 tp6
          have sp7 := cell_below hb4 tp7
          have sq0 := cell_below hb4 tq0
          have sq1 := cell_below hb4 tq1
          have sq2 := cell_below hb4 tq2
          have sq3 := cell_below hb4 tq3
          have sq4 := cell_below hb4 tq4
          have sq5 := cell_below hb4 tq5
          have sq6 := cell_below hb4 tq6
          have sq7 := cell_below hb4 tq7
          by_cases t4 : touch a.over b.parts
          · have HE : Hid (excl a b = 4) := Lib.hid (excl_4 T1.out T2.out T3.out (.inl t4))
            have HT : Hid (pv (touch a.over b.parts) = true) := Lib.hid (pv_true t4)
            clear t4 tp0 tp1 tp2 tp3 tp4 tp5 tp6 tp7 tq0 tq1 tq2 tq3 tq4 tq5 tq6 tq7
            rw [HT.out]
            go_wp2
            go_ret
            exact ⟨by rw [HE.out]; rfl, hbw4⟩
          have T4 := Lib.hid t4
          have HT : Hid (pv (touch a.over b.parts) = false) := Lib.hid (pv_false t4)
          clear t4 tp0 tp1 tp2 tp3 tp4 tp5 tp6 tp7 tq0 tq1 tq2 tq3 tq4 tq5 tq6 tq7
          rw [HT.out]
          go_wp2_with fail
          refine (specTouch _ _ _ _ _ _ _ (Kn.C_below hbw4 hp5) (Kn.C_below hbw4 hq6)).mono ?_
          rintro e w5 ⟨rfl, hb5⟩
          have hbw5 := hbw4.trans (hb5.mono hbw4.size)
          by_cases t5 : touch a.parts b.over
          · have HE : Hid (excl a b = 4) := Lib.hid (excl_4 T1.out T2.out T3.out (.inr t5))
            have HT : Hid (pv (touch a.parts b.over) = true) := Lib.hid (pv_true t5)
            clear t5
            rw [HT.out]
            go_wp2
            go_ret
            exact ⟨by rw [HE.out]; rfl, hbw5⟩
          · have HE : Hid (excl a b = 0) := Lib.hid (excl_0 T1.out T2.out T3.out (fun h => by rcases h with h | h; exact T4.out h; exact t5 h))
            have HT : Hid (pv (touch a.parts b.over) = false) := Lib.hid (pv_false t5)
            clear t5
            rw [HT.out]
            go_wp2
            go_ret
            exact ⟨by rw [HE.out]; rfl, hbw5⟩
set_option maxRecDepth 100000 in
set_option maxHeartbeats 16000000 in
theorem implExclude {ok : Nat → Prop} (a b : Route) (p0 p1 p2 q0 q1 q2 : Value) (P3 P4 P5 P6 P7 Q3 Q4 Q5 Q6 Q7 : Option Addr) (cp3 cp4 cp5 cp6 cp7 cq3 cq4 cq5 cq6 cq7 : Nat) (w : World) (hp3 : lieK.C w ok P3 a.lies) (hp4 : Kn.int.C w ok P4 a.crosses) (hp5 : partK.C w ok P5 a.parts) (hp6 : partK.C w ok P6 a.over) (hp7 : flankK.C w ok P7 a.flanks) (hq3 : lieK.C w ok Q3 b.lies) (hq4 : Kn.int.C w ok Q4 b.crosses) (hq5 : partK.C w ok Q5 b.parts) (hq6 : partK.C w ok Q6 b.over) (hq7 : flankK.C w ok Q7 b.flanks) (la : a.lies.length ≤ 1048576) (fa : a.flanks.length ≤ 1048576) (lb : b.lies.length ≤ 1048576) (fb : b.flanks.length ≤ 1048576) :
    Calls Try.prog 31 #[.agg #[p0, p1, p2, .slice P3 a.lies.length cp3, .slice P4 a.crosses.length cp4, .slice P5 a.parts.length cp5, .slice P6 a.over.length cp6, .slice P7 a.flanks.length cp7], .agg #[q0, q1, q2, .slice Q3 b.lies.length cq3, .slice Q4 b.crosses.length cq4, .slice Q5 b.parts.length cq5, .slice Q6 b.over.length cq6, .slice Q7 b.flanks.length cq7]] w (RetI (excl a b) w) := by
  have mp4 := hp4.1
  have mq4 := hq4.1
  go_enter Try.func31, Try.ntmps31
  go_wp2_with fail
  obtain ⟨W0, hW0, hB0, hs0, hs1, fp0, fp1, fp2, fp3, fp4, fp5, fp6, fp7, fq0, fq1, fq2, fq3, fq4, fq5, fq6, fq7⟩ : ∃ W0, W0 = (w.alloc (.cells #[p0, p1, p2, .slice P3 a.lies.length cp3, .slice P4 a.crosses.length cp4, .slice P5 a.parts.length cp5, .slice P6 a.over.length cp6, .slice P7 a.flanks.length cp7] 57)).alloc (.cells #[q0, q1, q2, .slice Q3 b.lies.length cq3, .slice Q4 b.crosses.length cq4, .slice Q5 b.parts.length cq5, .slice Q6 b.over.length cq6, .slice Q7 b.flanks.length cq7] 57) ∧ Below w.heap.size w W0 ∧ w.heap.size < W0.heap.size ∧ w.heap.size + 1 < W0.heap.size ∧
    W0.cell? ⟨w.heap.size, 0, none⟩ = some p0 ∧ W0.cell? ⟨w.heap.size, 1, none⟩ = some p1 ∧ W0.cell? ⟨w.heap.size, 2, none⟩ = some p2 ∧ W0.cell? ⟨w.heap.size, 3, none⟩ = some (.slice P3 a.lies.length cp3) ∧ W0.cell? ⟨w.heap.size, 4, none⟩ = some (.slice P4 a.crosses.length cp4) ∧ W0.cell? ⟨w.heap.size, 5, none⟩ = some (.slice P5 a.parts.length cp5) ∧ W0.cell? ⟨w.heap.size, 6, none⟩ = some (.slice P6 a.over.length cp6) ∧ W0.cell? ⟨w.heap.size, 7, none⟩ = some (.slice P7 a.flanks.length cp7) ∧ W0.cell? ⟨w.heap.size + 1, 0, none⟩ = some q0 ∧ W0.cell? ⟨w.heap.size + 1, 1, none⟩ = some q1 ∧ W0.cell? ⟨w.heap.size + 1, 2, none⟩ = some q2 ∧ W0.cell? ⟨w.heap.size + 1, 3, none⟩ = some (.slice Q3 b.lies.length cq3) ∧ W0.cell? ⟨w.heap.size + 1, 4, none⟩ = some (.slice Q4 b.crosses.length cq4) ∧ W0.cell? ⟨w.heap.size + 1, 5, none⟩ = some (.slice Q5 b.parts.length cq5) ∧ W0.cell? ⟨w.heap.size + 1, 6, none⟩ = some (.slice Q6 b.over.length cq6) ∧ W0.cell? ⟨w.heap.size + 1, 7, none⟩ = some (.slice Q7 b.flanks.length cq7) := ⟨_, rfl, (below_alloc _ _).alloc (by simp) _, by simp; omega, by simp, by simp, by simp, by simp, by simp, by simp, by simp, by simp, by simp, by simp, by simp, by simp, by simp, by simp, by simp, by simp, by simp⟩
  rw [← hW0]
  clear hW0
  refine (implTouch _ _ _ _ _ _ _ (Kn.C_below hB0 hp5) (Kn.C_below hB0 hq5)).mono ?_
  rintro e w1 ⟨rfl, hb1⟩
  have hbw1 := hB0.trans (hb1.mono hB0.size)
  have hz1 : w.heap.size < w1.heap.size := by have := hb1.size; omega
  have hz2 : w.heap.size + 1 < w1.heap.size := by have := hb1.size; omega
  have kp0 := cell_below hb1 fp0
  have kp1 := cell_below hb1 fp1
  have kp2 := cell_below hb1 fp2
  have kp3 := cell_below hb1 fp3
  have kp4 := cell_below hb1 fp4
  have kp5 := cell_below hb1 fp5
  have kp6 := cell_below hb1 fp6
  have kp7 := cell_below hb1 fp7
  have kq0 := cell_below hb1 fq0
  have kq1 := cell_below hb1 fq1
  have kq2 := cell_below hb1 fq2
  have kq3 := cell_below hb1 fq3
  have kq4 := cell_below hb1 fq4
  have kq5 := cell_below hb1 fq5
  have kq6 := cell_below hb1 fq6
  have kq7 := cell_below hb1 fq7
  clear fp0 fp1 fp2 fp3 fp4 fp5 fp6 fp7 fq0 fq1 fq2 fq3 fq4 fq5 fq6 fq7 hb1 hs0 hs1 hB0
  by_cases t1 : touch a.parts b.parts
  · have HE : Hid (excl a b = 1) := Lib.hid (excl_1 t1)
    have HT : Hid (pv (touch a.parts b.parts) = true) := Lib.hid (pv_true t1)
    clear t1
    rw [HT.out]
    go_wp2
    go_ret
    exact ⟨by rw [HE.out]; rfl, hbw1⟩
  have T1 := Lib.hid t1
  have HT : Hid (pv (touch a.parts b.parts) = false) := Lib.hid (pv_false t1)
  clear t1
  rw [HT.out]
  clear HT
  go_wp2
  go_loopw [19] (fun i wr => ∃ k : Nat, k ≤ a.crosses.length ∧ i = .int .i64 k ∧ Hid (noneTo a.crosses k (fun x => x ∈ b.crosses)) ∧ Below w1.heap.size w1 wr) (fun i _ => a.crosses.length - (intOf i).toNat)
  case atStart => exact ⟨0, Nat.zero_le _, rfl, Lib.hid noneTo_zero, Below.refl _ _⟩
  case round =>
    obtain ⟨k, hk, rfl, HN, hbr⟩ := hrel
    have hbw := hbw1.trans (hbr.mono hbw1.size)
    have hz9 : w.heap.size < wr.heap.size := by have := hbr.size; omega
    have hz10 : w.heap.size + 1 < wr.heap.size := by have := hbr.size; omega
    have jp0 := cell_below hbr kp0
    have jp1 := cell_below hbr kp1
    have jp2 := cell_below hbr kp2
    have jp3 := cell_below hbr kp3
    have jp4 := cell_below hbr kp4
    have jp5 := cell_below hbr kp5
    have jp6 := cell_below hbr kp6
    have jp7 := cell_below hbr kp7
    have jq0 := cell_below hbr kq0
    have jq1 := cell_below hbr kq1
    have jq2 := cell_below hbr kq2
    have jq3 := cell_below hbr kq3
    have jq4 := cell_below hbr kq4
    have jq5 := cell_below hbr kq5
    have jq6 := cell_below hbr kq6
    have jq7 := cell_below hbr kq7
    have HBR := Lib.hid hbr
    clear hbw1 hbr hz1 hz2 kp0 kp1 kp2 kp3 kp4 kp5 kp6 kp7 kq0 kq1 kq2 kq3 kq4 kq5 kq6 kq7
    by_cases hlt : k < a.crosses.length
    · obtain ⟨ad, rfl, y0, E, g0⟩ := int_at (Kn.C_below hbw hp4) k hlt
      have i0 : (0 : Int) ≤ (k : Int) := Int.natCast_nonneg _
      have i1 : (k : Int) < (a.crosses.length : Int) := by omega
      go_wp2_with fail
      refine (containsInt _ _ _ _ _ (Kn.C_below hbw hq4)).mono ?_
      rintro e w2 ⟨rfl, hb2⟩
      have hbw2 := hbw.trans (hb2.mono hbw.size)
      by_cases e0 : y0 ∈ b.crosses
      · have HE : Hid (excl a b = 2) := Lib.hid (excl_2 T1.out ⟨y0, mem_of_get E.out, e0⟩)
        have HT : Hid (pv (y0 ∈ b.crosses) = true) := Lib.hid (pv_true e0)
        clear e0
        rw [HT.out]
        go_wp2
        go_ret
        exact ⟨by rw [HE.out]; rfl, hbw2⟩
      · have HT : Hid (pv (y0 ∈ b.crosses) = false) := Lib.hid (pv_false e0)
        have HN2 := Lib.hid (noneTo_snoc HN.out E.out e0)
        clear e0
        rw [HT.out]
        go_wp2
        go_roundw
        case rel => exact ⟨k + 1, by omega, by go_num, HN2, HBR.out.trans (hb2.mono HBR.out.size)⟩
        case measure => simp [intOf]; omega
    · obtain rfl : k = a.crosses.length := by omega
      have T2 : Hid (¬ crossP a.crosses b.crosses) := Lib.hid (noneTo_all HN.out)
      clear HN
      go_wp2_with fail
      clear hlt hk
      refine (implNeeds a p0 p1 p2 (.slice P4 a.crosses.length cp4) (.slice P5 a.parts.length cp5) (.slice P6 a.over.length cp6) P3 P7 cp3 cp7 _ (Kn.C_below hbw hp3) (Kn.C_below hbw hp7) la fa).mono ?_
      intro e w2 hr
      obtain ⟨NA, nc, rfl, hnc, HC, hb2⟩ := RetW.open hr
      clear hr
      have hbw2 := hbw.trans (hb2.mono hbw.size)
      have hz3 : w.heap.size < w2.heap.size := by have := hb2.size; omega
      have hz4 : w.heap.size + 1 < w2.heap.size := by have := hb2.size; omega
      have hnm := HC.out.1
      have hnm2 := (Nat.le_refl (needs a).length)
      have op0 := cell_below hb2 jp0
      have op1 := cell_below hb2 jp1
      have op2 := cell_below hb2 jp2
      have op3 := cell_below hb2 jp3
      have op4 := cell_below hb2 jp4
      have op5 := cell_below hb2 jp5
      have op6 := cell_below hb2 jp6
      have op7 := cell_below hb2 jp7
      have oq0 := cell_below hb2 jq0
      have oq1 := cell_below hb2 jq1
      have oq2 := cell_below hb2 jq2
      have oq3 := cell_below hb2 jq3
      have oq4 := cell_below hb2 jq4
      have oq5 := cell_below hb2 jq5
      have oq6 := cell_below hb2 jq6
      have oq7 := cell_below hb2 jq7
      clear hbw hb2 jp0 jp1 jp2 jp3 jp4 jp5 jp6 jp7 jq0 jq1 jq2 jq3 jq4 jq5 jq6 jq7
      go_wp2
      go_loopw [31] (fun i wr => ∃ k : Nat, k ≤ (needs a).length ∧ i = .int .i64 k ∧ Hid (noneTo (needs a) k (fun x => ∃ y, y ∈ needs b ∧ against x y)) ∧ Below w2.heap.size w2 wr) (fun i _ => (needs a).length - (intOf i).toNat)
      case atStart => exact ⟨0, Nat.zero_le _, rfl, Lib.hid noneTo_zero, Below.refl _ _⟩
      case round =>
        obtain ⟨k, hk, rfl, HN, hbr⟩ := hrel
        obtain ⟨wo, rfl⟩ : ∃ wo : World, wo = wr := ⟨_, rfl⟩
        have hbw := hbw2.trans (hbr.mono hbw2.size)
        have hz5 : w.heap.size < wo.heap.size := by have := hbr.size; omega
        have hz6 : w.heap.size + 1 < wo.heap.size := by have := hbr.size; omega
        by_cases hlt : k < (needs a).length
        · obtain ⟨ad, rfl, y0, y1, E, g0, g1⟩ := lieK_at (Kn.C_below hbr HC.out) k hlt
          have i0 : (0 : Int) ≤ (k : Int) := Int.natCast_nonneg _
          have i1 : (k : Int) < ((needs a).length : Int) := by omega
          obtain ⟨W1, hW1, hB1, hs1, u0, u1⟩ : ∃ W1, W1 = wo.alloc (.cells #[.int .i64 y0, .int .i64 y1] 65) ∧ Below wo.heap.size wo W1 ∧ wo.heap.size < W1.heap.size ∧
            W1.cell? ⟨wo.heap.size, 0, none⟩ = some (.int .i64 y0) ∧ W1.cell? ⟨wo.heap.size, 1, none⟩ = some (.int .i64 y1) := ⟨_, rfl, below_alloc _ _, by simp, by simp, by simp⟩
          have hb1 := hbr.trans (hB1.mono hbr.size)
          have hbw1 := hbw.trans (hB1.mono hbw.size)
          have tp0 := cell_below hbr op0
          have tp1 := cell_below hbr op1
          have tp2 := cell_below hbr op2
          have tp3 := cell_below hbr op3
          have tp4 := cell_below hbr op4
          have tp5 := cell_below hbr op5
          have tp6 := cell_below hbr op6
          have tp7 := cell_below hbr op7
          have tq0 := cell_below hbr oq0
          have tq1 := cell_below hbr oq1
          have tq2 := cell_below hbr oq2
          have tq3 := cell_below hbr oq3
          have tq4 := cell_below hbr oq4
          have tq5 := cell_below hbr oq5
          have tq6 := cell_below hbr oq6
          have tq7 := cell_below hbr oq7
          go_wp2_with fail
          rw [← hW1]
          clear hW1 
          refine (implNeeds b q0 q1 q2 (.slice Q4 b.crosses.length cq4) (.slice Q5 b.parts.length cq5) (.slice Q6 b.over.length cq6) Q3 Q7 cq3 cq7 _ (Kn.C_below hbw1 hq3) (Kn.C_below hbw1 hq7) lb fb).mono ?_
          intro e w3 hr
          obtain ⟨NB, mc, rfl, hmc, HD, hb3⟩ := RetW.open hr
          clear hr
          have hmm := HD.out.1
          have v0 := cell_below hb3 u0
          have v1 := cell_below hb3 u1
          have hs3 : wo.heap.size < w3.heap.size := by have := hb3.size; omega
          have hbr3 := hb1.trans (hb3.mono hb1.size)
          have hbw3 := hbw1.trans (hb3.mono hbw1.size)
          clear u0 u1 hs1 hb3 hb1 hbw1 hbw hbr
          go_wp2
          go_loopw [38] (fun i wr => ∃ m : Nat, m ≤ (needs b).length ∧ i = .int .i64 m ∧ Hid (noneTo (needs b) m (fun y => against ⟨y0, y1⟩ y)) ∧ Below w3.heap.size w3 wr) (fun i _ => (needs b).length - (intOf i).toNat)
          case atStart => exact ⟨0, Nat.zero_le _, rfl, Lib.hid noneTo_zero, Below.refl _ _⟩
          case round =>
            obtain ⟨m, hm, rfl, HM, hbi⟩ := hrel
            have x0 := cell_below hbi v0
            have x1 := cell_below hbi v1
            have hsx : wo.heap.size < wr.heap.size := by have := hbi.size; omega
            have hbri := hbr3.trans (hbi.mono hbr3.size)
            have hbwi := hbw3.trans (hbi.mono hbw3.size)
            by_cases hlm : m < (needs b).length
            · obtain ⟨ae, rfl, z0, z1, E1, r0, r1⟩ := lieK_at (Kn.C_below hbi HD.out) m hlm
              have m0 : (0 : Int) ≤ (m : Int) := Int.natCast_nonneg _
              have m1 : (m : Int) < ((needs b).length : Int) := by omega
              by_cases e0 : y0 = z0
              rotate_left
              · have d0 : (y0 == z0) = false := int_eqf e0
                have HN2 := Lib.hid (noneTo_snoc HM.out E1.out (fun h => e0 h.1))
                clear e0
                go_wp2
                go_roundw
                case rel => exact ⟨m + 1, by omega, by go_num, HN2, hbi.alloc hbi.size _⟩
                case measure => simp [intOf]; omega
              have d0 : (y0 == z0) = true := int_eqt e0
              by_cases e1 : y1 = z1
              · have d1 : (y1 != z1) = false := by simpa using e1
                have HN2 := Lib.hid (noneTo_snoc HM.out E1.out (fun h => h.2 e1))
                clear e0 e1
                go_wp2
                go_roundw
                case rel => exact ⟨m + 1, by omega, by go_num, HN2, hbi.alloc hbi.size _⟩
                case measure => simp [intOf]; omega
              have d1 : (y1 != z1) = true := int_ne e1
              have HE : Hid (excl a b = 3) := Lib.hid (excl_3 T1.out T2.out ⟨_, mem_of_get E.out, _, mem_of_get E1.out, e0, e1⟩)
              clear e0 e1
              go_wp2
              go_ret
              exact ⟨by rw [HE.out]; rfl, hbwi.alloc hbwi.size _⟩
            · obtain rfl : m = (needs b).length := by omega
              have HN2 := Lib.hid (noneTo_snoc HN.out E.out (noneTo_all HM.out))
              go_wp2
              go_roundw
              case rel => exact ⟨k + 1, by omega, by go_num, HN2, hbri⟩
              case measure => simp [intOf]; omega
        · obtain rfl : k = (needs a).length := by omega
          have T3 : Hid (¬ needP a b) := Lib.hid (noneTo_all HN.out)
          have tp0 := cell_below hbr op0
          have tp1 := cell_below hbr op1
          have tp2 := cell_below hbr op2
          have tp3 := cell_below hbr op3
          have tp4 := cell_below hbr op4
          have tp5 := cell_below hbr op5
          have tp6 := cell_below hbr op6
          have tp7 := cell_below hbr op7
          have tq0 := cell_below hbr oq0
          have tq1 := cell_below hbr oq1
          have tq2 := cell_below hbr oq2
          have tq3 := cell_below hbr oq3
          have tq4 := cell_below hbr oq4
          have tq5 := cell_below hbr oq5
          have tq6 := cell_below hbr oq6
          have tq7 := cell_below hbr oq7
          clear HN 
          go_wp2_with fail
          refine (implTouch _ _ _ _ _ _ _ (Kn.C_below hbw hp6) (Kn.C_below hbw hq5)).mono ?_
          rintro e w4 ⟨rfl, hb4⟩
          have hbw4 := hbw.trans (hb4.mono hbw.size)
          have hz7 : w.heap.size < w4.heap.size := by have := hb4.size; omega
          have hz8 : w.heap.size + 1 < w4.heap.size := by have := hb4.size; omega
          have sp0 := cell_below hb4 tp0
          have sp1 := cell_below hb4 tp1
          have sp2 := cell_below hb4 tp2
          have sp3 := cell_below hb4 tp3
          have sp4 := cell_below hb4 tp4
          have sp5 := cell_below hb4 tp5
          have sp6 := cell_below hb4 tp6
          have sp7 := cell_below hb4 tp7
          have sq0 := cell_below hb4 tq0
          have sq1 := cell_below hb4 tq1
          have sq2 := cell_below hb4 tq2
          have sq3 := cell_below hb4 tq3
          have sq4 := cell_below hb4 tq4
          have sq5 := cell_below hb4 tq5
          have sq6 := cell_below hb4 tq6
          have sq7 := cell_below hb4 tq7
          by_cases t4 : touch a.over b.parts
          · have HE : Hid (excl a b = 4) := Lib.hid (excl_4 T1.out T2.out T3.out (.inl t4))
            have HT : Hid (pv (touch a.over b.parts) = true) := Lib.hid (pv_true t4)
            clear t4 tp0 tp1 tp2 tp3 tp4 tp5 tp6 tp7 tq0 tq1 tq2 tq3 tq4 tq5 tq6 tq7
            rw [HT.out]
            go_wp2
            go_ret
            exact ⟨by rw [HE.out]; rfl, hbw4⟩
          have T4 := Lib.hid t4
          have HT : Hid (pv (touch a.over b.parts) = false) := Lib.hid (pv_false t4)
          clear t4 tp0 tp1 tp2 tp3 tp4 tp5 tp6 tp7 tq0 tq1 tq2 tq3 tq4 tq5 tq6 tq7
          rw [HT.out]
          go_wp2_with fail
          refine (implTouch _ _ _ _ _ _ _ (Kn.C_below hbw4 hp5) (Kn.C_below hbw4 hq6)).mono ?_
          rintro e w5 ⟨rfl, hb5⟩
          have hbw5 := hbw4.trans (hb5.mono hbw4.size)
          by_cases t5 : touch a.parts b.over
          · have HE : Hid (excl a b = 4) := Lib.hid (excl_4 T1.out T2.out T3.out (.inr t5))
            have HT : Hid (pv (touch a.parts b.over) = true) := Lib.hid (pv_true t5)
            clear t5
            rw [HT.out]
            go_wp2
            go_ret
            exact ⟨by rw [HE.out]; rfl, hbw5⟩
          · have HE : Hid (excl a b = 0) := Lib.hid (excl_0 T1.out T2.out T3.out (fun h => by rcases h with h | h; exact T4.out h; exact t5 h))
            have HT : Hid (pv (touch a.parts b.over) = false) := Lib.hid (pv_false t5)
            clear t5
            rw [HT.out]
            go_wp2
            go_ret
            exact ⟨by rw [HE.out]; rfl, hbw5⟩
end Go.Proofs.Ytginpmhjpjcahaa.L
