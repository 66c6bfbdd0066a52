/- The one who looks for flanks, in memory: what he has seen, and what he has found. Lemmas alone. -/
import Derived.Test.YtpggopdojhodaaaGreatVd
namespace Go.Proofs.YtpggopdojhodaaaGreat.L
open Go.RowKit
set_option linter.unusedVariables false
set_option linter.unusedSimpArgs false
def noneTo {α : Type} (xs : List α) (k : Nat) (P : α → Prop) : Prop := ∀ j x, j < k → xs[j]? = some x → ¬ P x
theorem noneTo_zero {α : Type} {xs : List α} {P : α → Prop} : noneTo xs 0 P := fun j x h => absurd h (by omega)
theorem noneTo_snoc {α : Type} {xs : List α} {k : Nat} {P : α → Prop} {x : α} (h : noneTo xs k P) (hx : xs[k]? = some x) (hp : ¬ P x) : noneTo xs (k + 1) P := fun j y hj hy => by
  by_cases e : j = k
  · subst e
    rw [hx] at hy
    obtain rfl := Option.some.inj hy
    exact hp
  · exact h j y (by omega) hy
theorem noneTo_all {α : Type} {xs : List α} {P : α → Prop} (h : noneTo xs xs.length P) : ¬ ∃ x, x ∈ xs ∧ P x := fun ⟨x, hx, hp⟩ => by
  obtain ⟨j, hj⟩ := List.mem_iff_getElem?.1 hx
  exact h j x (List.getElem?_eq_some_iff.1 hj).1 hj hp
section
variable {a b : Route}
theorem excl_1 (h : touch a.parts b.parts) : excl a b = 1 := by unfold excl; rw [if_pos h]
theorem excl_2 (h1 : ¬ touch a.parts b.parts) (h : crossP a.crosses b.crosses) : excl a b = 2 := by unfold excl; rw [if_neg h1, if_pos h]
theorem excl_3 (h1 : ¬ touch a.parts b.parts) (h2 : ¬ crossP a.crosses b.crosses) (h : needP a b) : excl a b = 3 := by unfold excl; rw [if_neg h1, if_neg h2, if_pos h]
theorem excl_4 (h1 : ¬ touch a.parts b.parts) (h2 : ¬ crossP a.crosses b.crosses) (h3 : ¬ needP a b) (h : touch a.over b.parts ∨ touch a.parts b.over) : excl a b = 4 := by unfold excl; rw [if_neg h1, if_neg h2, if_neg h3, if_pos h]
theorem excl_0 (h1 : ¬ touch a.parts b.parts) (h2 : ¬ crossP a.crosses b.crosses) (h3 : ¬ needP a b) (h : ¬ (touch a.over b.parts ∨ touch a.parts b.over)) : excl a b = 0 := by unfold excl; rw [if_neg h1, if_neg h2, if_neg h3, if_neg h]
end
theorem RetW.open {α : Type} {e : Nat} {d : Kn α} {ok : Nat → Prop} {xs : List α} {w w' : World} {en : Ending} (h : RetW e d ok xs w en w') : ∃ A c, en = .returned (.slice A xs.length c) ∧ xs.length ≤ c ∧ Hid (d.C w' (fun _ => True) A xs) ∧ Below w.heap.size w w' := by
  obtain ⟨v, rfl, h1, h2, h3⟩ := h
  obtain ⟨A, c, rfl, hc, hC⟩ := h1.C
  exact ⟨A, c, rfl, hc, Lib.hid (Kn.C_mono (fun _ _ => trivial) hC), h3⟩
set_option maxHeartbeats 4000000 in
theorem specTouch {ok ok' : Nat → Prop} (A B : Option Addr) (c c' : Nat) (a b : List Part) (w : World) (ha : partK.C w ok A a) (hb : partK.C w ok' B b) :
    Calls Tryz.prog 108 #[.slice A a.length c, .slice B b.length c'] w (RetB (pv (touch a b)) w) := by
  have hma := ha.1
  have hmb := hb.1
  go_enter Tryz.func108, Tryz.ntmps108
  go_wp2
  go_loopw [11] (fun i wr => ∃ k : Nat, k ≤ a.length ∧ i = .int .i64 k ∧ Hid (noneTo a k (fun x => ∃ y, y ∈ b ∧ meets x y)) ∧ Below w.heap.size w wr) (fun i _ => a.length - (intOf i).toNat)
  case atStart => exact ⟨0, Nat.zero_le _, rfl, Lib.hid noneTo_zero, Below.refl _ _⟩
  case round =>
    obtain ⟨k, hk, rfl, HN, hbw⟩ := hrel
    obtain ⟨wo, rfl⟩ : ∃ wo : World, wo = wr := ⟨_, rfl⟩
    by_cases hlt : k < a.length
    · obtain ⟨ad, rfl, y0, y1, y2, E, g0, g1, g2⟩ := partK_at (Kn.C_below hbw ha) k hlt
      have i0 : (0 : Int) ≤ (k : Int) := Int.natCast_nonneg _
      have i1 : (k : Int) < (a.length : Int) := by omega
      go_wp2
      obtain ⟨W1, hW1, hB1, hs1, f0, f1, f2⟩ : ∃ W1, W1 = wo.alloc (.cells #[.int .i64 y0, .int .i64 y1, .int .i64 y2] 128) ∧ Below wo.heap.size wo W1 ∧ wo.heap.size < W1.heap.size ∧
        W1.cell? ⟨wo.heap.size, 0, none⟩ = some (.int .i64 y0) ∧ W1.cell? ⟨wo.heap.size, 1, none⟩ = some (.int .i64 y1) ∧ W1.cell? ⟨wo.heap.size, 2, none⟩ = some (.int .i64 y2) := ⟨_, rfl, below_alloc _ _, by simp, by simp, by simp, by simp⟩
      rw [← hW1]
      clear hW1
      have hb1 := hbw.trans (hB1.mono hbw.size)
      go_loopw [17] (fun i wr => ∃ m : Nat, m ≤ b.length ∧ i = .int .i64 m ∧ Hid (noneTo b m (fun y => meets ⟨y0, y1, y2⟩ y)) ∧ Below W1.heap.size W1 wr) (fun i _ => b.length - (intOf i).toNat)
      case atStart => exact ⟨0, Nat.zero_le _, rfl, Lib.hid noneTo_zero, Below.refl _ _⟩
      case round =>
        obtain ⟨m, hm, rfl, HM, hbi⟩ := hrel
        have k0 := cell_below hbi f0
        have k1 := cell_below hbi f1
        have k2 := cell_below hbi f2
        have hbj := hb1.trans (hbi.mono hb1.size)
        have hsx : wo.heap.size < wr.heap.size := by have := hbi.size; omega
        by_cases hlm : m < b.length
        · obtain ⟨ae, rfl, z0, z1, z2, E1, p0, p1, p2⟩ := partK_at (Kn.C_below hbj hb) m hlm
          have m0 : (0 : Int) ≤ (m : Int) := Int.natCast_nonneg _
          have m1 : (m : Int) < (b.length : Int) := by omega
          by_cases e0 : y0 = z0
          rotate_left
          · have d0 : (y0 == z0) = false := int_eqf e0
            have HN2 := Lib.hid (noneTo_snoc HM.out E1.out (fun h => e0 h.1))
            clear e0
            go_wp2
            go_roundw
            case rel => exact ⟨m + 1, by omega, by go_num, HN2, hbi.alloc hbi.size _⟩
            case measure => simp [intOf]; omega
          have d0 : (y0 == z0) = true := int_eqt e0
          by_cases e1 : y1 ≤ z2
          rotate_left
          · have d1 : decide (y1 ≤ z2) = false := decide_eq_false e1
            have HN2 := Lib.hid (noneTo_snoc HM.out E1.out (fun h => e1 h.2.1))
            clear e1 e0
            go_wp2
            go_roundw
            case rel => exact ⟨m + 1, by omega, by go_num, HN2, hbi.alloc hbi.size _⟩
            case measure => simp [intOf]; omega
          have d1 : decide (y1 ≤ z2) = true := decide_eq_true e1
          by_cases e2 : z1 ≤ y2
          rotate_left
          · have d2 : decide (z1 ≤ y2) = false := decide_eq_false e2
            have HN2 := Lib.hid (noneTo_snoc HM.out E1.out (fun h => e2 h.2.2))
            clear e2 e0 e1
            go_wp2
            go_roundw
            case rel => exact ⟨m + 1, by omega, by go_num, HN2, hbi.alloc hbi.size _⟩
            case measure => simp [intOf]; omega
          have d2 : decide (z1 ≤ y2) = true := decide_eq_true e2
          have HT : Hid (pv (touch a b) = true) := Lib.hid (pv_true ⟨_, mem_of_get E.out, _, mem_of_get E1.out, e0, e1, e2⟩)
          clear e0 e1 e2
          go_wp2
          go_ret
          exact ⟨by rw [HT.out]; rfl, hbj.alloc hbj.size _⟩
        · obtain rfl : m = b.length := by omega
          have HN2 := Lib.hid (noneTo_snoc HN.out E.out (noneTo_all HM.out))
          go_wp2
          go_roundw
          case rel => exact ⟨k + 1, by omega, by go_num, HN2, hbj⟩
          case measure => simp [intOf]; omega
    · obtain rfl : k = a.length := by omega
      have HT : Hid (pv (touch a b) = false) := Lib.hid (pv_false (noneTo_all HN.out))
      go_wp2
      go_ret
      exact ⟨by rw [HT.out]; rfl, hbw⟩
set_option maxHeartbeats 4000000 in
theorem implTouch {ok ok' : Nat → Prop} (A B : Option Addr) (c c' : Nat) (a b : List Part) (w : World) (ha : partK.C w ok A a) (hb : partK.C w ok' B b) :
    Calls Tryz.prog 143 #[.slice A a.length c, .slice B b.length c'] w (RetB (pv (touch a b)) w) := by
  have hma := ha.1
  have hmb := hb.1
  go_enter Tryz.func143, Tryz.ntmps143
  go_wp2
  go_loopw [11] (fun i wr => ∃ k : Nat, k ≤ a.length ∧ i = .int .i64 k ∧ Hid (noneTo a k (fun x => ∃ y, y ∈ b ∧ meets x y)) ∧ Below w.heap.size w wr) (fun i _ => a.length - (intOf i).toNat)
  case atStart => exact ⟨0, Nat.zero_le _, rfl, Lib.hid noneTo_zero, Below.refl _ _⟩
  case round =>
    obtain ⟨k, hk, rfl, HN, hbw⟩ := hrel
    obtain ⟨wo, rfl⟩ : ∃ wo : World, wo = wr := ⟨_, rfl⟩
    by_cases hlt : k < a.length
    · obtain ⟨ad, rfl, y0, y1, y2, E, g0, g1, g2⟩ := partK_at (Kn.C_below hbw ha) k hlt
      have i0 : (0 : Int) ≤ (k : Int) := Int.natCast_nonneg _
      have i1 : (k : Int) < (a.length : Int) := by omega
      go_wp2
      obtain ⟨W1, hW1, hB1, hs1, f0, f1, f2⟩ : ∃ W1, W1 = wo.alloc (.cells #[.int .i64 y0, .int .i64 y1, .int .i64 y2] 128) ∧ Below wo.heap.size wo W1 ∧ wo.heap.size < W1.heap.size ∧
        W1.cell? ⟨wo.heap.size, 0, none⟩ = some (.int .i64 y0) ∧ W1.cell? ⟨wo.heap.size, 1, none⟩ = some (.int .i64 y1) ∧ W1.cell? ⟨wo.heap.size, 2, none⟩ = some (.int .i64 y2) := ⟨_, rfl, below_alloc _ _, by simp, by simp, by simp, by simp⟩
      rw [← hW1]
      clear hW1
      have hb1 := hbw.trans (hB1.mono hbw.size)
      go_loopw [17] (fun i wr => ∃ m : Nat, m ≤ b.length ∧ i = .int .i64 m ∧ Hid (noneTo b m (fun y => meets ⟨y0, y1, y2⟩ y)) ∧ Below W1.heap.size W1 wr) (fun i _ => b.length - (intOf i).toNat)
      case atStart => exact ⟨0, Nat.zero_le _, rfl, Lib.hid noneTo_zero, Below.refl _ _⟩
      case round =>
        obtain ⟨m, hm, rfl, HM, hbi⟩ := hrel
        have k0 := cell_below hbi f0
        have k1 := cell_below hbi f1
        have k2 := cell_below hbi f2
        have hbj := hb1.trans (hbi.mono hb1.size)
        have hsx : wo.heap.size < wr.heap.size := by have := hbi.size; omega
        by_cases hlm : m < b.length
        · obtain ⟨ae, rfl, z0, z1, z2, E1, p0, p1, p2⟩ := partK_at (Kn.C_below hbj hb) m hlm
          have m0 : (0 : Int) ≤ (m : Int) := Int.natCast_nonneg _
          have m1 : (m : Int) < (b.length : Int) := by omega
          by_cases e0 : y0 = z0
          rotate_left
          · have d0 : (y0 == z0) = false := int_eqf e0
            have HN2 := Lib.hid (noneTo_snoc HM.out E1.out (fun h => e0 h.1))
            clear e0
            go_wp2
            go_roundw
            case rel => exact ⟨m + 1, by omega, by go_num, HN2, hbi.alloc hbi.size _⟩
            case measure => simp [intOf]; omega
          have d0 : (y0 == z0) = true := int_eqt e0
          by_cases e1 : y1 ≤ z2
          rotate_left
          · have d1 : decide (y1 ≤ z2) = false := decide_eq_false e1
            have HN2 := Lib.hid (noneTo_snoc HM.out E1.out (fun h => e1 h.2.1))
            clear e1 e0
            go_wp2
            go_roundw
            case rel => exact ⟨m + 1, by omega, by go_num, HN2, hbi.alloc hbi.size _⟩
            case measure => simp [intOf]; omega
          have d1 : decide (y1 ≤ z2) = true := decide_eq_true e1
          by_cases e2 : z1 ≤ y2
          rotate_left
          · have d2 : decide (z1 ≤ y2) = false := decide_eq_false e2
            have HN2 := Lib.hid (noneTo_snoc HM.out E1.out (fun h => e2 h.2.2))
            clear e2 e0 e1
            go_wp2
            go_roundw
            case rel => exact ⟨m + 1, by omega, by go_num, HN2, hbi.alloc hbi.size _⟩
            case measure => simp [intOf]; omega
          have d2 : decide (z1 ≤ y2) = true := decide_eq_true e2
          have HT : Hid (pv (touch a b) = true) := Lib.hid (pv_true ⟨_, mem_of_get E.out, _, mem_of_get E1.out, e0, e1, e2⟩)
          clear e0 e1 e2
          go_wp2
          go_ret
          exact ⟨by rw [HT.out]; rfl, hbj.alloc hbj.size _⟩
        · obtain rfl : m = b.length := by omega
          have HN2 := Lib.hid (noneTo_snoc HN.out E.out (noneTo_all HM.out))
          go_wp2
          go_roundw
          case rel => exact ⟨k + 1, by omega, by go_num, HN2, hbj⟩
          case measure => simp [intOf]; omega
    · obtain rfl : k = a.length := by omega
      have HT : Hid (pv (touch a b) = false) := Lib.hid (pv_false (noneTo_all HN.out))
      go_wp2
      go_ret
      exact ⟨by rw [HT.out]; rfl, hbw⟩
set_option maxRecDepth 100000 in
set_option maxHeartbeats 16000000 in
theorem specExclude {ok : Nat → Prop} (a b : Route) (p0 p1 p2 q0 q1 q2 : Value) (P3 P4 P5 P6 P7 Q3 Q4 Q5 Q6 Q7 : Option Addr) (cp3 cp4 cp5 cp6 cp7 cq3 cq4 cq5 cq6 cq7 : Nat) (w : World) (hp3 : lieK.C w ok P3 a.lies) (hp4 : Kn.int.C w ok P4 a.crosses) (hp5 : partK.C w ok P5 a.parts) (hp6 : partK.C w ok P6 a.over) (hp7 : flankK.C w ok P7 a.flanks) (hq3 : lieK.C w ok Q3 b.lies) (hq4 : Kn.int.C w ok Q4 b.crosses) (hq5 : partK.C w ok Q5 b.parts) (hq6 : partK.C w ok Q6 b.over) (hq7 : flankK.C w ok Q7 b.flanks) (la : a.lies.length ≤ 1048576) (fa : a.flanks.length ≤ 1048576) (lb : b.lies.length ≤ 1048576) (fb : b.flanks.length ≤ 1048576) :
    Calls Tryz.prog 66 #[.agg #[p0, p1, p2, .slice P3 a.lies.length cp3, .slice P4 a.crosses.length cp4, .slice P5 a.parts.length cp5, .slice P6 a.over.length cp6, .slice P7 a.flanks.length cp7], .agg #[q0, q1, q2, .slice Q3 b.lies.length cq3, .slice Q4 b.crosses.length cq4, .slice Q5 b.parts.length cq5, .slice Q6 b.over.length cq6, .slice Q7 b.flanks.length cq7]] w (RetI (excl a b) w) := by
  have mp4 := hp4.1
  have mq4 := hq4.1
  go_enter Tryz.func66, Tryz.ntmps66
  go_wp2_with fail
  obtain ⟨W0, hW0, hB0, hs0, hs1, fp0, fp1, fp2, fp3, fp4, fp5, fp6, fp7, fq0, fq1, fq2, fq3, fq4, fq5, fq6, fq7⟩ : ∃ W0, W0 = (w.alloc (.cells #[p0, p1, p2, .slice P3 a.lies.length cp3, .slice P4 a.crosses.length cp4, .slice P5 a.parts.length cp5, .slice P6 a.over.length cp6, .slice P7 a.flanks.length cp7] 80)).alloc (.cells #[q0, q1, q2, .slice Q3 b.lies.length cq3, .slice Q4 b.crosses.length cq4, .slice Q5 b.parts.length cq5, .slice Q6 b.over.length cq6, .slice Q7 b.flanks.length cq7] 80) ∧ Below w.heap.size w W0 ∧ w.heap.size < W0.heap.size ∧ w.heap.size + 1 < W0.heap.size ∧
    W0.cell? ⟨w.heap.size, 0, none⟩ = some p0 ∧ W0.cell? ⟨w.heap.size, 1, none⟩ = some p1 ∧ W0.cell? ⟨w.heap.size, 2, none⟩ = some p2 ∧ W0.cell? ⟨w.heap.size, 3, none⟩ = some (.slice P3 a.lies.length cp3) ∧ W0.cell? ⟨w.heap.size, 4, none⟩ = some (.slice P4 a.crosses.length cp4) ∧ W0.cell? ⟨w.heap.size, 5, none⟩ = some (.slice P5 a.parts.length cp5) ∧ W0.cell? ⟨w.heap.size, 6, none⟩ = some (.slice P6 a.over.length cp6) ∧ W0.cell? ⟨w.heap.size, 7, none⟩ = some (.slice P7 a.flanks.length cp7) ∧ W0.cell? ⟨w.heap.size + 1, 0, none⟩ = some q0 ∧ W0.cell? ⟨w.heap.size + 1, 1, none⟩ = some q1 ∧ W0.cell? ⟨w.heap.size + 1, 2, none⟩ = some q2 ∧ W0.cell? ⟨w.heap.size + 1, 3, none⟩ = some (.slice Q3 b.lies.length cq3) ∧ W0.cell? ⟨w.heap.size + 1, 4, none⟩ = some (.slice Q4 b.crosses.length cq4) ∧ W0.cell? ⟨w.heap.size + 1, 5, none⟩ = some (.slice Q5 b.parts.length cq5) ∧ W0.cell? ⟨w.heap.size + 1, 6, none⟩ = some (.slice Q6 b.over.length cq6) ∧ W0.cell? ⟨w.heap.size + 1, 7, none⟩ = some (.slice Q7 b.flanks.length cq7) := ⟨_, rfl, (below_alloc _ _).alloc (by simp) _, by simp; omega, by simp, by simp, by simp, by simp, by simp, by simp, by simp, by simp, by simp, by simp, by simp, by simp, by simp, by simp, by simp, by simp, by simp⟩
  rw [← hW0]
  clear hW0
  refine (specTouch _ _ _ _ _ _ _ (Kn.C_below hB0 hp5) (Kn.C_below hB0 hq5)).mono ?_
  rintro e w1 ⟨rfl, hb1⟩
  have hbw1 := hB0.trans (hb1.mono hB0.size)
  have hz1 : w.heap.size < w1.heap.size := by have := hb1.size; omega
  have hz2 : w.heap.size + 1 < w1.heap.size := by have := hb1.size; omega
  have kp0 := cell_below hb1 fp0
  have kp1 := cell_below hb1 fp1
  have kp2 := cell_below hb1 fp2
  have kp3 := cell_below hb1 fp3
  have kp4 := cell_below hb1 fp4
  have kp5 := cell_below hb1 fp5
  have kp6 := cell_below hb1 fp6
  have kp7 := cell_below hb1 fp7
  have kq0 := cell_below hb1 fq0
  have kq1 := cell_below hb1 fq1
  have kq2 := cell_below hb1 fq2
  have kq3 := cell_below hb1 fq3
  have kq4 := cell_below hb1 fq4
  have kq5 := cell_below hb1 fq5
  have kq6 := cell_below hb1 fq6
  have kq7 := cell_below hb1 fq7
  clear fp0 fp1 fp2 fp3 fp4 fp5 fp6 fp7 fq0 fq1 fq2 fq3 fq4 fq5 fq6 fq7 hb1 hs0 hs1 hB0
  by_cases t1 : touch a.parts b.parts
  · have HE : Hid (excl a b = 1) := Lib.hid (excl_1 t1)
    have HT : Hid (pv (touch a.parts b.parts) = true) := Lib.hid (pv_true t1)
    clear t1
    rw [HT.out]
    go_wp2
    go_ret
    exact ⟨by rw [HE.out]; rfl, hbw1⟩
  have T1 := Lib.hid t1
  have HT : Hid (pv (touch a.parts b.parts) = false) := Lib.hid (pv_false t1)
  clear t1
  rw [HT.out]
  clear HT
  go_wp2
  go_loopw [21] (fun i wr => ∃ k : Nat, k ≤ a.crosses.length ∧ i = .int .i64 k ∧ Hid (noneTo a.crosses k (fun x => x ∈ b.crosses)) ∧ wr = w1) (fun i _ => a.crosses.length - (intOf i).toNat)
  case atStart => exact ⟨0, Nat.zero_le _, rfl, Lib.hid noneTo_zero, rfl⟩
  case round =>
    obtain ⟨k, hk, rfl, HN, rfl⟩ := hrel
    have hbw := hbw1
    clear hbw1
    by_cases hlt : k < a.crosses.length
    · obtain ⟨ad, rfl, y0, E, g0⟩ := int_at (Kn.C_below hbw hp4) k hlt
      have i0 : (0 : Int) ≤ (k : Int) := Int.natCast_nonneg _
      have i1 : (k : Int) < (a.crosses.length : Int) := by omega
      obtain ⟨wo, rfl⟩ : ∃ wo : World, wo = wr := ⟨_, rfl⟩
      go_wp2
      go_loopw [28] (fun i wr => ∃ m : Nat, m ≤ b.crosses.length ∧ i = .int .i64 m ∧ Hid (noneTo b.crosses m (fun y => y0 = y)) ∧ wr = wo) (fun i _ => b.crosses.length - (intOf i).toNat)
      case atStart => exact ⟨0, Nat.zero_le _, rfl, Lib.hid noneTo_zero, rfl⟩
      case round =>
        obtain ⟨m, hm, rfl, HM, rfl⟩ := hrel
        by_cases hlm : m < b.crosses.length
        · obtain ⟨ae, rfl, z0, E1, r0⟩ := int_at (Kn.C_below hbw hq4) m hlm
          have m0 : (0 : Int) ≤ (m : Int) := Int.natCast_nonneg _
          have m1 : (m : Int) < (b.crosses.length : Int) := by omega
          by_cases e0 : y0 = z0
          rotate_left
          · have d0 : (y0 == z0) = false := int_eqf e0
            have HN2 := Lib.hid (noneTo_snoc HM.out E1.out e0)
            clear e0
            go_wp2
            go_roundw
            case rel => exact ⟨m + 1, by omega, by go_num, HN2, by first | rfl | trivial⟩
            case measure => simp [intOf]; omega
          have d0 : (y0 == z0) = true := int_eqt e0
          have HE : Hid (excl a b = 2) := Lib.hid (excl_2 T1.out ⟨y0, mem_of_get E.out, by rw [e0]; exact mem_of_get E1.out⟩)
          clear e0
          go_wp2
          go_ret
          exact ⟨by rw [HE.out]; rfl, hbw⟩
        · obtain rfl : m = b.crosses.length := by omega
          have HN2 := Lib.hid (noneTo_snoc HN.out E.out (fun h => noneTo_all HM.out ⟨_, h, rfl⟩))
          go_wp2
          go_roundw
          case rel => exact ⟨k + 1, by omega, by go_num, HN2, by first | rfl | trivial⟩
          case measure => simp [intOf]; omega
    · obtain rfl : k = a.crosses.length := by omega
      have T2 : Hid (¬ crossP a.crosses b.crosses) := Lib.hid (noneTo_all HN.out)
      clear HN
      go_wp2_with fail
      clear hlt hk
      refine (specNeeds a p0 p1 p2 (.slice P4 a.crosses.length cp4) (.slice P5 a.parts.length cp5) (.slice P6 a.over.length cp6) P3 P7 cp3 cp7 _ (Kn.C_below hbw hp3) (Kn.C_below hbw hp7) la fa).mono ?_
      intro e w2 hr
      obtain ⟨NA, nc, rfl, hnc, HC, hb2⟩ := RetW.open hr
      clear hr
      have hbw2 := hbw.trans (hb2.mono hbw.size)
      have hz3 : w.heap.size < w2.heap.size := by have := hb2.size; omega
      have hz4 : w.heap.size + 1 < w2.heap.size := by have := hb2.size; omega
      have hnm := HC.out.1
      have hnm2 := (Nat.le_refl (needs a).length)
      have op0 := cell_below hb2 kp0
      have op1 := cell_below hb2 kp1
      have op2 := cell_below hb2 kp2
      have op3 := cell_below hb2 kp3
      have op4 := cell_below hb2 kp4
      have op5 := cell_below hb2 kp5
      have op6 := cell_below hb2 kp6
      have op7 := cell_below hb2 kp7
      have oq0 := cell_below hb2 kq0
      have oq1 := cell_below hb2 kq1
      have oq2 := cell_below hb2 kq2
      have oq3 := cell_below hb2 kq3
      have oq4 := cell_below hb2 kq4
      have oq5 := cell_below hb2 kq5
      have oq6 := cell_below hb2 kq6
      have oq7 := cell_below hb2 kq7
      clear hbw hb2 kp0 kp1 kp2 kp3 kp4 kp5 kp6 kp7 kq0 kq1 kq2 kq3 kq4 kq5 kq6 kq7
      go_wp2
      go_loopw [40] (fun i wr => ∃ k : Nat, k ≤ (needs a).length ∧ i = .int .i64 k ∧ Hid (noneTo (needs a) k (fun x => ∃ y, y ∈ needs b ∧ against x y)) ∧ Below w2.heap.size w2 wr) (fun i _ => (needs a).length - (intOf i).toNat)
      case atStart => exact ⟨0, Nat.zero_le _, rfl, Lib.hid noneTo_zero, Below.refl _ _⟩
      case round =>
        obtain ⟨k, hk, rfl, HN, hbr⟩ := hrel
        obtain ⟨wo, rfl⟩ : ∃ wo : World, wo = wr := ⟨_, rfl⟩
        have hbw := hbw2.trans (hbr.mono hbw2.size)
        have hz5 : w.heap.size < wo.heap.size := by have := hbr.size; omega
        have hz6 : w.heap.size + 1 < wo.heap.size := by have := hbr.size; omega
        by_cases hlt : k < (needs a).length
        · obtain ⟨ad, rfl, y0, y1, E, g0, g1⟩ := lieK_at (Kn.C_below hbr HC.out) k hlt
          have i0 : (0 : Int) ≤ (k : Int) := Int.natCast_nonneg _
          have i1 : (k : Int) < ((needs a).length : Int) := by omega
          obtain ⟨W1, hW1, hB1, hs1, u0, u1⟩ : ∃ W1, W1 = wo.alloc (.cells #[.int .i64 y0, .int .i64 y1] 109) ∧ Below wo.heap.size wo W1 ∧ wo.heap.size < W1.heap.size ∧
            W1.cell? ⟨wo.heap.size, 0, none⟩ = some (.int .i64 y0) ∧ W1.cell? ⟨wo.heap.size, 1, none⟩ = some (.int .i64 y1) := ⟨_, rfl, below_alloc _ _, by simp, by simp, by simp⟩
          have hb1 := hbr.trans (hB1.mono hbr.size)
          have hbw1 := hbw.trans (hB1.mono hbw.size)
          have tp0 := cell_below hbr op0
          have tp1 := cell_below hbr op1
          have tp2 := cell_below hbr op2
          have tp3 := cell_below hbr op3
          have tp4 := cell_below hbr op4
          have tp5 := cell_below hbr op5
          have tp6 := cell_below hbr op6
          have tp7 := cell_below hbr op7
          have tq0 := cell_below hbr oq0
          have tq1 := cell_below hbr oq1
          have tq2 := cell_below hbr oq2
          have tq3 := cell_below hbr oq3
          have tq4 := cell_below hbr oq4
          have tq5 := cell_below hbr oq5
          have tq6 := cell_below hbr oq6
          have tq7 := cell_below hbr oq7
          go_wp2_with fail
          rw [← hW1]
          clear hW1 
          refine (specNeeds b q0 q1 q2 (.slice Q4 b.crosses.length cq4) (.slice Q5 b.parts.length cq5) (.slice Q6 b.over.length cq6) Q3 Q7 cq3 cq7 _ (Kn.C_below hbw1 hq3) (Kn.C_below hbw1 hq7) lb fb).mono ?_
          intro e w3 hr
          obtain ⟨NB, mc, rfl, hmc, HD, hb3⟩ := RetW.open hr
          clear hr
          have hmm := HD.out.1
          have v0 := cell_below hb3 u0
          have v1 := cell_below hb3 u1
          have hs3 : wo.heap.size < w3.heap.size := by have := hb3.size; omega
          have hbr3 := hb1.trans (hb3.mono hb1.size)
          have hbw3 := hbw1.trans (hb3.mono hbw1.size)
          clear u0 u1 hs1 hb3 hb1 hbw1 hbw hbr
          go_wp2
          go_loopw [47] (fun i wr => ∃ m : Nat, m ≤ (needs b).length ∧ i = .int .i64 m ∧ Hid (noneTo (needs b) m (fun y => against ⟨y0, y1⟩ y)) ∧ Below w3.heap.size w3 wr) (fun i _ => (needs b).length - (intOf i).toNat)
          case atStart => exact ⟨0, Nat.zero_le _, rfl, Lib.hid noneTo_zero, Below.refl _ _⟩
          case round =>
            obtain ⟨m, hm, rfl, HM, hbi⟩ := hrel
            have x0 := cell_below hbi v0
            have x1 := cell_below hbi v1
            have hsx : wo.heap.size < wr.heap.size := by have := hbi.size; omega
            have hbri := hbr3.trans (hbi.mono hbr3.size)
            have hbwi := hbw3.trans (hbi.mono hbw3.size)
            by_cases hlm : m < (needs b).length
            · obtain ⟨ae, rfl, z0, z1, E1, r0, r1⟩ := lieK_at (Kn.C_below hbi HD.out) m hlm
              have m0 : (0 : Int) ≤ (m : Int) := Int.natCast_nonneg _
              have m1 : (m : Int) < ((needs b).length : Int) := by omega
              by_cases e0 : y0 = z0
              rotate_left
              · have d0 : (y0 == z0) = false := int_eqf e0
                have HN2 := Lib.hid (noneTo_snoc HM.out E1.out (fun h => e0 h.1))
                clear e0
                go_wp2
                go_roundw
                case rel => exact ⟨m + 1, by omega, by go_num, HN2, hbi.alloc hbi.size _⟩
                case measure => simp [intOf]; omega
              have d0 : (y0 == z0) = true := int_eqt e0
              by_cases e1 : y1 = z1
              · have d1 : (y1 != z1) = false := by simpa using e1
                have HN2 := Lib.hid (noneTo_snoc HM.out E1.out (fun h => h.2 e1))
                clear e0 e1
                go_wp2
                go_roundw
                case rel => exact ⟨m + 1, by omega, by go_num, HN2, hbi.alloc hbi.size _⟩
                case measure => simp [intOf]; omega
              have d1 : (y1 != z1) = true := int_ne e1
              have HE : Hid (excl a b = 3) := Lib.hid (excl_3 T1.out T2.out ⟨_, mem_of_get E.out, _, mem_of_get E1.out, e0, e1⟩)
              clear e0 e1
              go_wp2
              go_ret
              exact ⟨by rw [HE.out]; rfl, hbwi.alloc hbwi.size _⟩
            · obtain rfl : m = (needs b).length := by omega
              have HN2 := Lib.hid (noneTo_snoc HN.out E.out (noneTo_all HM.out))
              go_wp2
              go_roundw
              case rel => exact ⟨k + 1, by omega, by go_num, HN2, hbri⟩
              case measure => simp [intOf]; omega
        · obtain rfl : k = (needs a).length := by omega
          have T3 : Hid (¬ needP a b) := Lib.hid (noneTo_all HN.out)
          have tp0 := cell_below hbr op0
          have tp1 := cell_below hbr op1
          have tp2 := cell_below hbr op2
          have tp3 := cell_below hbr op3
          have tp4 := cell_below hbr op4
          have tp5 := cell_below hbr op5
          have tp6 := cell_below hbr op6
          have tp7 := cell_below hbr op7
          have tq0 := cell_below hbr oq0
          have tq1 := cell_below hbr oq1
          have tq2 := cell_below hbr oq2
          have tq3 := cell_below hbr oq3
          have tq4 := cell_below hbr oq4
          have tq5 := cell_below hbr oq5
          have tq6 := cell_below hbr oq6
          have tq7 := cell_below hbr oq7
          clear HN 
          go_wp2_with fail
          refine (specTouch _ _ _ _ _ _ _ (Kn.C_below hbw hp6) (Kn.C_below hbw hq5)).mono ?_
          rintro e w4 ⟨rfl, hb4⟩
          have hbw4 := hbw.trans (hb4.mono hbw.size)
          have hz7 : w.heap.size < w4.heap.size := by have := hb4.size; omega
          have hz8 : w.heap.size + 1 < w4.heap.size := by have := hb4.size; omega
          have sp0 := cell_below hb4 tp0
          have sp1 := cell_below hb4 tp1
          have sp2 := cell_below hb4 tp2
          have sp3 := cell_below hb4 tp3
          have sp4 := cell_below hb4 tp4
          have sp5 := cell_below hb4 tp5
          have sp6 := cell_below hb4 tp6
          have sp7 := cell_below hb4 tp7
          have sq0 := cell_below hb4 tq0
          have sq1 := cell_below hb4 tq1
          have sq2 := cell_below hb4 tq2
          have sq3 := cell_below hb4 tq3
          have sq4 := cell_below hb4 tq4
          have sq5 := cell_below hb4 tq5
          have sq6 := cell_below hb4 tq6
          have sq7 := cell_below hb4 tq7
          by_cases t4 : touch a.over b.parts
          · have HE : Hid (excl a b = 4) := Lib.hid (excl_4 T1.out T2.out T3.out (.inl t4))
            have HT : Hid (pv (touch a.over b.parts) = true) := Lib.hid (pv_true t4)
            clear t4 tp0 tp1 tp2 tp3 tp4 tp5 tp6 tp7 tq0 tq1 tq2 tq3 tq4 tq5 tq6 tq7
            rw [HT.out]
            go_wp2
            go_ret
            exact ⟨by rw [HE.out]; rfl, hbw4⟩
          have T4 := Lib.hid t4
          have HT : Hid (pv (touch a.over b.parts) = false) := Lib.hid (pv_false t4)
          clear t4 tp0 tp1 tp2 tp3 tp4 tp5 tp6 tp7 tq0 tq1 tq2 tq3 tq4 tq5 tq6 tq7
          rw [HT.out]
          go_wp2_with fail
          refine (specTouch _ _ _ _ _ _ _ (Kn.C_below hbw4 hp5) (Kn.C_below hbw4 hq6)).mono ?_
          rintro e w5 ⟨rfl, hb5⟩
          have hbw5 := hbw4.trans (hb5.mono hbw4.size)
          by_cases t5 : touch a.parts b.over
          · have HE : Hid (excl a b = 4) := Lib.hid (excl_4 T1.out T2.out T3.out (.inr t5))
            have HT : Hid (pv (touch a.parts b.over) = true) := Lib.hid (pv_true t5)
            clear t5
            rw [HT.out]
            go_wp2
            go_ret
            exact ⟨by rw [HE.out]; rfl, hbw5⟩
          · have HE : Hid (excl a b = 0) := Lib.hid (excl_0 T1.out T2.out T3.out (fun h => by rcases h with h | h; exact T4.out h; exact t5 h))
            have HT : Hid (pv (touch a.parts b.over) = false) := Lib.hid (pv_false t5)
            clear t5
            rw [HT.out]
            go_wp2
            go_ret
            exact ⟨by rw [HE.out]; rfl, hbw5⟩
set_option maxRecDepth 100000 in
set_option maxHeartbeats 16000000 in
theorem implExclude {ok : Nat → Prop} (a b : Route) (p0 p1 p2 q0 q1 q2 : Value) (P3 P4 P5 P6 P7 Q3 Q4 Q5 Q6 Q7 : Option Addr) (cp3 cp4 cp5 cp6 cp7 cq3 cq4 cq5 cq6 cq7 : Nat) (w : World) (hp3 : lieK.C w ok P3 a.lies) (hp4 : Kn.int.C w ok P4 a.crosses) (hp5 : partK.C w ok P5 a.parts) (hp6 : partK.C w ok P6 a.over) (hp7 : flankK.C w ok P7 a.flanks) (hq3 : lieK.C w ok Q3 b.lies) (hq4 : Kn.int.C w ok Q4 b.crosses) (hq5 : partK.C w ok Q5 b.parts) (hq6 : partK.C w ok Q6 b.over) (hq7 : flankK.C w ok Q7 b.flanks) (la : a.lies.length ≤ 1048576) (fa : a.flanks.length ≤ 1048576) (lb : b.lies.length ≤ 1048576) (fb : b.flanks.length ≤ 1048576) :
    Calls Tryz.prog 115 #[.agg #[p0, p1, p2, .slice P3 a.lies.length cp3, .slice P4 a.crosses.length cp4, .slice P5 a.parts.length cp5, .slice P6 a.over.length cp6, .slice P7 a.flanks.length cp7], .agg #[q0, q1, q2, .slice Q3 b.lies.length cq3, .slice Q4 b.crosses.length cq4, .slice Q5 b.parts.length cq5, .slice Q6 b.over.length cq6, .slice Q7 b.flanks.length cq7]] w (RetI (excl a b) w) := by
  have mp4 := hp4.1
  have mq4 := hq4.1
  go_enter Tryz.func115, Tryz.ntmps115
  go_wp2_with fail
  obtain ⟨W0, hW0, hB0, hs0, hs1, fp0, fp1, fp2, fp3, fp4, fp5, fp6, fp7, fq0, fq1, fq2, fq3, fq4, fq5, fq6, fq7⟩ : ∃ W0, W0 = (w.alloc (.cells #[p0, p1, p2, .slice P3 a.lies.length cp3, .slice P4 a.crosses.length cp4, .slice P5 a.parts.length cp5, .slice P6 a.over.length cp6, .slice P7 a.flanks.length cp7] 80)).alloc (.cells #[q0, q1, q2, .slice Q3 b.lies.length cq3, .slice Q4 b.crosses.length cq4, .slice Q5 b.parts.length cq5, .slice Q6 b.over.length cq6, .slice Q7 b.flanks.length cq7] 80) ∧ Below w.heap.size w W0 ∧ w.heap.size < W0.heap.size ∧ w.heap.size + 1 < W0.heap.size ∧
    W0.cell? ⟨w.heap.size, 0, none⟩ = some p0 ∧ W0.cell? ⟨w.heap.size, 1, none⟩ = some p1 ∧ W0.cell? ⟨w.heap.size, 2, none⟩ = some p2 ∧ W0.cell? ⟨w.heap.size, 3, none⟩ = some (.slice P3 a.lies.length cp3) ∧ W0.cell? ⟨w.heap.size, 4, none⟩ = some (.slice P4 a.crosses.length cp4) ∧ W0.cell? ⟨w.heap.size, 5, none⟩ = some (.slice P5 a.parts.length cp5) ∧ W0.cell? ⟨w.heap.size, 6, none⟩ = some (.slice P6 a.over.length cp6) ∧ W0.cell? ⟨w.heap.size, 7, none⟩ = some (.slice P7 a.flanks.length cp7) ∧ W0.cell? ⟨w.heap.size + 1, 0, none⟩ = some q0 ∧ W0.cell? ⟨w.heap.size + 1, 1, none⟩ = some q1 ∧ W0.cell? ⟨w.heap.size + 1, 2, none⟩ = some q2 ∧ W0.cell? ⟨w.heap.size + 1, 3, none⟩ = some (.slice Q3 b.lies.length cq3) ∧ W0.cell? ⟨w.heap.size + 1, 4, none⟩ = some (.slice Q4 b.crosses.length cq4) ∧ W0.cell? ⟨w.heap.size + 1, 5, none⟩ = some (.slice Q5 b.parts.length cq5) ∧ W0.cell? ⟨w.heap.size + 1, 6, none⟩ = some (.slice Q6 b.over.length cq6) ∧ W0.cell? ⟨w.heap.size + 1, 7, none⟩ = some (.slice Q7 b.flanks.length cq7) := ⟨_, rfl, (below_alloc _ _).alloc (by simp) _, by simp; omega, by simp, by simp, by simp, by simp, by simp, by simp, by simp, by simp, by simp, by simp, by simp, by simp, by simp, by simp, by simp, by simp, by simp⟩
  rw [← hW0]
  clear hW0
  refine (implTouch _ _ _ _ _ _ _ (Kn.C_below hB0 hp5) (Kn.C_below hB0 hq5)).mono ?_
  rintro e w1 ⟨rfl, hb1⟩
  have hbw1 := hB0.trans (hb1.mono hB0.size)
  have hz1 : w.heap.size < w1.heap.size := by have := hb1.size; omega
  have hz2 : w.heap.size + 1 < w1.heap.size := by have := hb1.size; omega
  have kp0 := cell_below hb1 fp0
  have kp1 := cell_below hb1 fp1
  have kp2 := cell_below hb1 fp2
  have kp3 := cell_below hb1 fp3
  have kp4 := cell_below hb1 fp4
  have kp5 := cell_below hb1 fp5
  have kp6 := cell_below hb1 fp6
  have kp7 := cell_below hb1 fp7
  have kq0 := cell_below hb1 fq0
  have kq1 := cell_below hb1 fq1
  have kq2 := cell_below hb1 fq2
  have kq3 := cell_below hb1 fq3
  have kq4 := cell_below hb1 fq4
  have kq5 := cell_below hb1 fq5
  have kq6 := cell_below hb1 fq6
  have kq7 := cell_below hb1 fq7
  clear fp0 fp1 fp2 fp3 fp4 fp5 fp6 fp7 fq0 fq1 fq2 fq3 fq4 fq5 fq6 fq7 hb1 hs0 hs1 hB0
  by_cases t1 : touch a.parts b.parts
  · have HE : Hid (excl a b = 1) := Lib.hid (excl_1 t1)
    have HT : Hid (pv (touch a.parts b.parts) = true) := Lib.hid (pv_true t1)
    clear t1
    rw [HT.out]
    go_wp2
    go_ret
    exact ⟨by rw [HE.out]; rfl, hbw1⟩
  have T1 := Lib.hid t1
  have HT : Hid (pv (touch a.parts b.parts) = false) := Lib.hid (pv_false t1)
  clear t1
  rw [HT.out]
  clear HT
  go_wp2
  go_loopw [19] (fun i wr => ∃ k : Nat, k ≤ a.crosses.length ∧ i = .int .i64 k ∧ Hid (noneTo a.crosses k (fun x => x ∈ b.crosses)) ∧ Below w1.heap.size w1 wr) (fun i _ => a.crosses.length - (intOf i).toNat)
  case atStart => exact ⟨0, Nat.zero_le _, rfl, Lib.hid noneTo_zero, Below.refl _ _⟩
  case round =>
    obtain ⟨k, hk, rfl, HN, hbr⟩ := hrel
    have hbw := hbw1.trans (hbr.mono hbw1.size)
    have hz9 : w.heap.size < wr.heap.size := by have := hbr.size; omega
    have hz10 : w.heap.size + 1 < wr.heap.size := by have := hbr.size; omega
    have jp0 := cell_below hbr kp0
    have jp1 := cell_below hbr kp1
    have jp2 := cell_below hbr kp2
    have jp3 := cell_below hbr kp3
    have jp4 := cell_below hbr kp4
    have jp5 := cell_below hbr kp5
    have jp6 := cell_below hbr kp6
    have jp7 := cell_below hbr kp7
    have jq0 := cell_below hbr kq0
    have jq1 := cell_below hbr kq1
    have jq2 := cell_below hbr kq2
    have jq3 := cell_below hbr kq3
    have jq4 := cell_below hbr kq4
    have jq5 := cell_below hbr kq5
    have jq6 := cell_below hbr kq6
    have jq7 := cell_below hbr kq7
    have HBR := Lib.hid hbr
    clear hbw1 hbr hz1 hz2 kp0 kp1 kp2 kp3 kp4 kp5 kp6 kp7 kq0 kq1 kq2 kq3 kq4 kq5 kq6 kq7
    by_cases hlt : k < a.crosses.length
    · obtain ⟨ad, rfl, y0, E, g0⟩ := int_at (Kn.C_below hbw hp4) k hlt
      have i0 : (0 : Int) ≤ (k : Int) := Int.natCast_nonneg _
      have i1 : (k : Int) < (a.crosses.length : Int) := by omega
      go_wp2_with fail
      refine (containsInt _ _ _ _ _ (Kn.C_below hbw hq4)).mono ?_
      rintro e w2 ⟨rfl, hb2⟩
      have hbw2 := hbw.trans (hb2.mono hbw.size)
      by_cases e0 : y0 ∈ b.crosses
      · have HE : Hid (excl a b = 2) := Lib.hid (excl_2 T1.out ⟨y0, mem_of_get E.out, e0⟩)
        have HT : Hid (pv (y0 ∈ b.crosses) = true) := Lib.hid (pv_true e0)
        clear e0
        rw [HT.out]
        go_wp2
        go_ret
        exact ⟨by rw [HE.out]; rfl, hbw2⟩
      · have HT : Hid (pv (y0 ∈ b.crosses) = false) := Lib.hid (pv_false e0)
        have HN2 := Lib.hid (noneTo_snoc HN.out E.out e0)
        clear e0
        rw [HT.out]
        go_wp2
        go_roundw
        case rel => exact ⟨k + 1, by omega, by go_num, HN2, HBR.out.trans (hb2.mono HBR.out.size)⟩
        case measure => simp [intOf]; omega
    · obtain rfl : k = a.crosses.length := by omega
      have T2 : Hid (¬ crossP a.crosses b.crosses) := Lib.hid (noneTo_all HN.out)
      clear HN
      go_wp2_with fail
      clear hlt hk
      refine (implNeeds a p0 p1 p2 (.slice P4 a.crosses.length cp4) (.slice P5 a.parts.length cp5) (.slice P6 a.over.length cp6) P3 P7 cp3 cp7 _ (Kn.C_below hbw hp3) (Kn.C_below hbw hp7) la fa).mono ?_
      intro e w2 hr
      obtain ⟨NA, nc, rfl, hnc, HC, hb2⟩ := RetW.open hr
      clear hr
      have hbw2 := hbw.trans (hb2.mono hbw.size)
      have hz3 : w.heap.size < w2.heap.size := by have := hb2.size; omega
      have hz4 : w.heap.size + 1 < w2.heap.size := by have := hb2.size; omega
      have hnm := HC.out.1
      have hnm2 := (Nat.le_refl (needs a).length)
      have op0 := cell_below hb2 jp0
      have op1 := cell_below hb2 jp1
      have op2 := cell_below hb2 jp2
      have op3 := cell_below hb2 jp3
      have op4 := cell_below hb2 jp4
      have op5 := cell_below hb2 jp5
      have op6 := cell_below hb2 jp6
      have op7 := cell_below hb2 jp7
      have oq0 := cell_below hb2 jq0
      have oq1 := cell_below hb2 jq1
      have oq2 := cell_below hb2 jq2
      have oq3 := cell_below hb2 jq3
      have oq4 := cell_below hb2 jq4
      have oq5 := cell_below hb2 jq5
      have oq6 := cell_below hb2 jq6
      have oq7 := cell_below hb2 jq7
      clear hbw hb2 jp0 jp1 jp2 jp3 jp4 jp5 jp6 jp7 jq0 jq1 jq2 jq3 jq4 jq5 jq6 jq7
      go_wp2
      go_loopw [31] (fun i wr => ∃ k : Nat, k ≤ (needs a).length ∧ i = .int .i64 k ∧ Hid (noneTo (needs a) k (fun x => ∃ y, y ∈ needs b ∧ against x y)) ∧ Below w2.heap.size w2 wr) (fun i _ => (needs a).length - (intOf i).toNat)
      case atStart => exact ⟨0, Nat.zero_le _, rfl, Lib.hid noneTo_zero, Below.refl _ _⟩
      case round =>
        obtain ⟨k, hk, rfl, HN, hbr⟩ := hrel
        obtain ⟨wo, rfl⟩ : ∃ wo : World, wo = wr := ⟨_, rfl⟩
        have hbw := hbw2.trans (hbr.mono hbw2.size)
        have hz5 : w.heap.size < wo.heap.size := by have := hbr.size; omega
        have hz6 : w.heap.size + 1 < wo.heap.size := by have := hbr.size; omega
        by_cases hlt : k < (needs a).length
        · obtain ⟨ad, rfl, y0, y1, E, g0, g1⟩ := lieK_at (Kn.C_below hbr HC.out) k hlt
          have i0 : (0 : Int) ≤ (k : Int) := Int.natCast_nonneg _
          have i1 : (k : Int) < ((needs a).length : Int) := by omega
          obtain ⟨W1, hW1, hB1, hs1, u0, u1⟩ : ∃ W1, W1 = wo.alloc (.cells #[.int .i64 y0, .int .i64 y1] 109) ∧ Below wo.heap.size wo W1 ∧ wo.heap.size < W1.heap.size ∧
            W1.cell? ⟨wo.heap.size, 0, none⟩ = some (.int .i64 y0) ∧ W1.cell? ⟨wo.heap.size, 1, none⟩ = some (.int .i64 y1) := ⟨_, rfl, below_alloc _ _, by simp, by simp, by simp⟩
          have hb1 := hbr.trans (hB1.mono hbr.size)
          have hbw1 := hbw.trans (hB1.mono hbw.size)
          have tp0 := cell_below hbr op0
          have tp1 := cell_below hbr op1
          have tp2 := cell_below hbr op2
          have tp3 := cell_below hbr op3
          have tp4 := cell_below hbr op4
          have tp5 := cell_below hbr op5
          have tp6 := cell_below hbr op6
          have tp7 := cell_below hbr op7
          have tq0 := cell_below hbr oq0
          have tq1 := cell_below hbr oq1
          have tq2 := cell_below hbr oq2
          have tq3 := cell_below hbr oq3
          have tq4 := cell_below hbr oq4
          have tq5 := cell_below hbr oq5
          have tq6 := cell_below hbr oq6
          have tq7 := cell_below hbr oq7
          go_wp2_with fail
          rw [← hW1]
          clear hW1 
          refine (implNeeds b q0 q1 q2 (.slice Q4 b.crosses.length cq4) (.slice Q5 b.parts.length cq5) (.slice Q6 b.over.length cq6) Q3 Q7 cq3 cq7 _ (Kn.C_below hbw1 hq3) (Kn.C_below hbw1 hq7) lb fb).mono ?_
          intro e w3 hr
          obtain ⟨NB, mc, rfl, hmc, HD, hb3⟩ := RetW.open hr
          clear hr
          have hmm := HD.out.1
          have v0 := cell_below hb3 u0
          have v1 := cell_below hb3 u1
          have hs3 : wo.heap.size < w3.heap.size := by have := hb3.size; omega
          have hbr3 := hb1.trans (hb3.mono hb1.size)
          have hbw3 := hbw1.trans (hb3.mono hbw1.size)
          clear u0 u1 hs1 hb3 hb1 hbw1 hbw hbr
          go_wp2
          go_loopw [38] (fun i wr => ∃ m : Nat, m ≤ (needs b).length ∧ i = .int .i64 m ∧ Hid (noneTo (needs b) m (fun y => against ⟨y0, y1⟩ y)) ∧ Below w3.heap.size w3 wr) (fun i _ => (needs b).length - (intOf i).toNat)
          case atStart => exact ⟨0, Nat.zero_le _, rfl, Lib.hid noneTo_zero, Below.refl _ _⟩
          case round =>
            obtain ⟨m, hm, rfl, HM, hbi⟩ := hrel
            have x0 := cell_below hbi v0
            have x1 := cell_below hbi v1
            have hsx : wo.heap.size < wr.heap.size := by have := hbi.size; omega
            have hbri := hbr3.trans (hbi.mono hbr3.size)
            have hbwi := hbw3.trans (hbi.mono hbw3.size)
            by_cases hlm : m < (needs b).length
            · obtain ⟨ae, rfl, z0, z1, E1, r0, r1⟩ := lieK_at (Kn.C_below hbi HD.out) m hlm
              have m0 : (0 : Int) ≤ (m : Int) := Int.natCast_nonneg _
              have m1 : (m : Int) < ((needs b).length : Int) := by omega
              by_cases e0 : y0 = z0
              rotate_left
              · have d0 : (y0 == z0) = false := int_eqf e0
                have HN2 := Lib.hid (noneTo_snoc HM.out E1.out (fun h => e0 h.1))
                clear e0
                go_wp2
                go_roundw
                case rel => exact ⟨m + 1, by omega, by go_num, HN2, hbi.alloc hbi.size _⟩
                case measure => simp [intOf]; omega
              have d0 : (y0 == z0) = true := int_eqt e0
              by_cases e1 : y1 = z1
              · have d1 : (y1 != z1) = false := by simpa using e1
                have HN2 := Lib.hid (noneTo_snoc HM.out E1.out (fun h => h.2 e1))
                clear e0 e1
                go_wp2
                go_roundw
                case rel => exact ⟨m + 1, by omega, by go_num, HN2, hbi.alloc hbi.size _⟩
                case measure => simp [intOf]; omega
              have d1 : (y1 != z1) = true := int_ne e1
              have HE : Hid (excl a b = 3) := Lib.hid (excl_3 T1.out T2.out ⟨_, mem_of_get E.out, _, mem_of_get E1.out, e0, e1⟩)
              clear e0 e1
              go_wp2
              go_ret
              exact ⟨by rw [HE.out]; rfl, hbwi.alloc hbwi.size _⟩
            · obtain rfl : m = (needs b).length := by omega
              have HN2 := Lib.hid (noneTo_snoc HN.out E.out (noneTo_all HM.out))
              go_wp2
              go_roundw
              case rel => exact ⟨k + 1, by omega, by go_num, HN2, hbri⟩
              case measure => simp [intOf]; omega
        · obtain rfl : k = (needs a).length := by omega
          have T3 : Hid (¬ needP a b) := Lib.hid (noneTo_all HN.out)
          have tp0 := cell_below hbr op0
          have tp1 := cell_below hbr op1
          have tp2 := cell_below hbr op2
          have tp3 := cell_below hbr op3
          have tp4 := cell_below hbr op4
          have tp5 := cell_below hbr op5
          have tp6 := cell_below hbr op6
          have tp7 := cell_below hbr op7
          have tq0 := cell_below hbr oq0
          have tq1 := cell_below hbr oq1
          have tq2 := cell_below hbr oq2
          have tq3 := cell_below hbr oq3
          have tq4 := cell_below hbr oq4
          have tq5 := cell_below hbr oq5
          have tq6 := cell_below hbr oq6
          have tq7 := cell_below hbr oq7
          clear HN 
          go_wp2_with fail
          refine (implTouch _ _ _ _ _ _ _ (Kn.C_below hbw hp6) (Kn.C_below hbw hq5)).mono ?_
          rintro e w4 ⟨rfl, hb4⟩
          have hbw4 := hbw.trans (hb4.mono hbw.size)
          have hz7 : w.heap.size < w4.heap.size := by have := hb4.size; omega
          have hz8 : w.heap.size + 1 < w4.heap.size := by have := hb4.size; omega
          have sp0 := cell_below hb4 tp0
          have sp1 := cell_below hb4 tp1
          have sp2 := cell_below hb4 tp2
          have sp3 := cell_below hb4 tp3
          have sp4 := cell_below hb4 tp4
          have sp5 := cell_below hb4 tp5
          have sp6 := cell_below hb4 tp6
          have sp7 := cell_below hb4 tp7
          have sq0 := cell_below hb4 tq0
          have sq1 := cell_below hb4 tq1
          have sq2 := cell_below hb4 tq2
          have sq3 := cell_below hb4 tq3
          have sq4 := cell_below hb4 tq4
          have sq5 := cell_below hb4 tq5
          have sq6 := cell_below hb4 tq6
          have sq7 := cell_below hb4 tq7
          by_cases t4 : touch a.over b.parts
          · have HE : Hid (excl a b = 4) := Lib.hid (excl_4 T1.out T2.out T3.out (.inl t4))
            have HT : Hid (pv (touch a.over b.parts) = true) := Lib.hid (pv_true t4)
            clear t4 tp0 tp1 tp2 tp3 tp4 tp5 tp6 tp7 tq0 tq1 tq2 tq3 tq4 tq5 tq6 tq7
            rw [HT.out]
            go_wp2
            go_ret
            exact ⟨by rw [HE.out]; rfl, hbw4⟩
          have T4 := Lib.hid t4
          have HT : Hid (pv (touch a.over b.parts) = false) := Lib.hid (pv_false t4)
          clear t4 tp0 tp1 tp2 tp3 tp4 tp5 tp6 tp7 tq0 tq1 tq2 tq3 tq4 tq5 tq6 tq7
          rw [HT.out]
          go_wp2_with fail
          refine (implTouch _ _ _ _ _ _ _ (Kn.C_below hbw4 hp5) (Kn.C_below hbw4 hq6)).mono ?_
          rintro e w5 ⟨rfl, hb5⟩
          have hbw5 := hbw4.trans (hb5.mono hbw4.size)
          by_cases t5 : touch a.parts b.over
          · have HE : Hid (excl a b = 4) := Lib.hid (excl_4 T1.out T2.out T3.out (.inr t5))
            have HT : Hid (pv (touch a.parts b.over) = true) := Lib.hid (pv_true t5)
            clear t5
            rw [HT.out]
            go_wp2
            go_ret
            exact ⟨by rw [HE.out]; rfl, hbw5⟩
          · have HE : Hid (excl a b = 0) := Lib.hid (excl_0 T1.out T2.out T3.out (fun h => by rcases h with h | h; exact T4.out h; exact t5 h))
            have HT : Hid (pv (touch a.parts b.over) = false) := Lib.hid (pv_false t5)
            clear t5
            rw [HT.out]
            go_wp2
            go_ret
            exact ⟨by rw [HE.out]; rfl, hbw5⟩
end Go.Proofs.YtpggopdojhodaaaGreat.L
namespace Go.Proofs.YtpggopdojhodaaaGreat.L
open Go.RowKit
set_option linter.unusedVariables false
theorem C_dr {α : Type} {d : Kn α} {w : World} {ok : Nat → Prop} {A : Option Addr} {xs : List α} (h : d.C w ok A xs) : d.C w.drew ok A xs := Kn.C_move (w := w) (fun _ _ => rfl) h
structure RC (w : World) (ok : Nat → Prop) (x : Route) (A2 A3 A4 A5 A6 A7 : Option Addr) : Prop where
  h2 : stepK.C w ok A2 x.steps
  h3 : lieK.C w ok A3 x.lies
  h4 : Kn.int.C w ok A4 x.crosses
  h5 : partK.C w ok A5 x.parts
  h6 : partK.C w ok A6 x.over
  h7 : flankK.C w ok A7 x.flanks
section
variable {w w1 : World} {ok ok' : Nat → Prop} {x : Route} {A2 A3 A4 A5 A6 A7 : Option Addr}
theorem RC.below (hb : Below w.heap.size w w1) (h : RC w ok x A2 A3 A4 A5 A6 A7) : RC w1 ok x A2 A3 A4 A5 A6 A7 := ⟨Kn.C_below hb h.h2, Kn.C_below hb h.h3, Kn.C_below hb h.h4, Kn.C_below hb h.h5, Kn.C_below hb h.h6, Kn.C_below hb h.h7⟩
theorem RC.mono (hm : ∀ b, ok b → ok' b) (h : RC w ok x A2 A3 A4 A5 A6 A7) : RC w ok' x A2 A3 A4 A5 A6 A7 := ⟨Kn.C_mono hm h.h2, Kn.C_mono hm h.h3, Kn.C_mono hm h.h4, Kn.C_mono hm h.h5, Kn.C_mono hm h.h6, Kn.C_mono hm h.h7⟩
theorem RC.drew (h : RC w ok x A2 A3 A4 A5 A6 A7) : RC w.drew ok x A2 A3 A4 A5 A6 A7 := ⟨C_dr h.h2, C_dr h.h3, C_dr h.h4, C_dr h.h5, C_dr h.h6, C_dr h.h7⟩
theorem RC.keep {S S' : Nat → Prop} (hk : Keep S w w1) (hs : ∀ x, x < w.heap.size → S' x → S x) (h : RC w (Out w S) x A2 A3 A4 A5 A6 A7) : RC w1 (Out w1 S') x A2 A3 A4 A5 A6 A7 := ⟨Kn.C_keep hk hs h.h2, Kn.C_keep hk hs h.h3, Kn.C_keep hk hs h.h4, Kn.C_keep hk hs h.h5, Kn.C_keep hk hs h.h6, Kn.C_keep hk hs h.h7⟩
end
theorem RetRoute.opened {x : Route} {w w' : World} {e : Ending} (h : RetRoute x w e w') :
    ∃ A2 A3 A4 A5 A6 A7 c2 c3 c4 c5 c6 c7, e = .returned (.agg #[.int .i64 x.frm, .int .i64 x.til, .slice A2 x.steps.length c2, .slice A3 x.lies.length c3, .slice A4 x.crosses.length c4, .slice A5 x.parts.length c5, .slice A6 x.over.length c6, .slice A7 x.flanks.length c7]) ∧ Hid (RC w' (fun _ => True) x A2 A3 A4 A5 A6 A7) ∧ Below w.heap.size w w' := by
  obtain ⟨A2, c2, A3, c3, A4, c4, A5, c5, A6, c6, A7, c7, F, rfl, o, hf, hb⟩ := h
  obtain ⟨D2, d2, D3, d3, D4, d4, D5, d5, D6, d6, D7, d7, he, l2, q2, l3, q3, l4, q4, l5, q5, l6, q6, l7, q7⟩ := routeK_open (rK.K_of o)
  injection he with _ he
  injection he with _ he
  injection he with e2 he
  injection e2 with e2 _ _
  subst e2
  injection he with e3 he
  injection e3 with e3 _ _
  subst e3
  injection he with e4 he
  injection e4 with e4 _ _
  subst e4
  injection he with e5 he
  injection e5 with e5 _ _
  subst e5
  injection he with e6 he
  injection e6 with e6 _ _
  subst e6
  injection he with e7 he
  injection e7 with e7 _ _
  subst e7
  exact ⟨_, _, _, _, _, _, _, _, _, _, _, _, rfl, Lib.hid ⟨Kn.C_mono (fun _ _ => trivial) q2, Kn.C_mono (fun _ _ => trivial) q3, Kn.C_mono (fun _ _ => trivial) q4, Kn.C_mono (fun _ _ => trivial) q5, Kn.C_mono (fun _ _ => trivial) q6, Kn.C_mono (fun _ _ => trivial) q7⟩, hb⟩
theorem eqRouteC {ok ok' : Nat → Prop} (x y : Route) (A2 A3 A4 A5 A6 A7 : Option Addr) (c2 c3 c4 c5 c6 c7 : Nat) (B2 B3 B4 B5 B6 B7 : Option Addr) (d2 d3 d4 d5 d6 d7 : Nat) (w : World) (h : RC w ok x A2 A3 A4 A5 A6 A7) (h' : RC w ok' y B2 B3 B4 B5 B6 B7) :
    Calls Tryz.prog 43 #[.agg #[.int .i64 x.frm, .int .i64 x.til, .slice A2 x.steps.length c2, .slice A3 x.lies.length c3, .slice A4 x.crosses.length c4, .slice A5 x.parts.length c5, .slice A6 x.over.length c6, .slice A7 x.flanks.length c7], .agg #[.int .i64 y.frm, .int .i64 y.til, .slice B2 y.steps.length d2, .slice B3 y.lies.length d3, .slice B4 y.crosses.length d4, .slice B5 y.parts.length d5, .slice B6 y.over.length d6, .slice B7 y.flanks.length d7]] w (RetB (eqv x y) w) := eqRoute x y A2 A3 A4 A5 A6 A7 B2 B3 B4 B5 B6 B7 c2 c3 c4 c5 c6 c7 d2 d3 d4 d5 d6 d7 w h.h2 h.h3 h.h4 h.h5 h.h6 h.h7 h'.h2 h'.h3 h'.h4 h'.h5 h'.h6 h'.h7
theorem specExcludeC {ok : Nat → Prop} (a b : Route) (A2 A3 A4 A5 A6 A7 : Option Addr) (c2 c3 c4 c5 c6 c7 : Nat) (B2 B3 B4 B5 B6 B7 : Option Addr) (d2 d3 d4 d5 d6 d7 : Nat) (w : World) (h : RC w ok a A2 A3 A4 A5 A6 A7) (h' : RC w ok b B2 B3 B4 B5 B6 B7) (la : a.n ≤ 1048576) (lb : b.n ≤ 1048576) :
    Calls Tryz.prog 66 #[.agg #[.int .i64 a.frm, .int .i64 a.til, .slice A2 a.steps.length c2, .slice A3 a.lies.length c3, .slice A4 a.crosses.length c4, .slice A5 a.parts.length c5, .slice A6 a.over.length c6, .slice A7 a.flanks.length c7], .agg #[.int .i64 b.frm, .int .i64 b.til, .slice B2 b.steps.length d2, .slice B3 b.lies.length d3, .slice B4 b.crosses.length d4, .slice B5 b.parts.length d5, .slice B6 b.over.length d6, .slice B7 b.flanks.length d7]] w (RetI (excl a b) w) := by
  unfold Route.n at la lb
  exact specExclude a b _ _ _ _ _ _ A3 A4 A5 A6 A7 B3 B4 B5 B6 B7 c3 c4 c5 c6 c7 d3 d4 d5 d6 d7 w h.h3 h.h4 h.h5 h.h6 h.h7 h'.h3 h'.h4 h'.h5 h'.h6 h'.h7 (by omega) (by omega) (by omega) (by omega)
theorem implExcludeC {ok : Nat → Prop} (a b : Route) (A2 A3 A4 A5 A6 A7 : Option Addr) (c2 c3 c4 c5 c6 c7 : Nat) (B2 B3 B4 B5 B6 B7 : Option Addr) (d2 d3 d4 d5 d6 d7 : Nat) (w : World) (h : RC w ok a A2 A3 A4 A5 A6 A7) (h' : RC w ok b B2 B3 B4 B5 B6 B7) (la : a.n ≤ 1048576) (lb : b.n ≤ 1048576) :
    Calls Tryz.prog 115 #[.agg #[.int .i64 a.frm, .int .i64 a.til, .slice A2 a.steps.length c2, .slice A3 a.lies.length c3, .slice A4 a.crosses.length c4, .slice A5 a.parts.length c5, .slice A6 a.over.length c6, .slice A7 a.flanks.length c7], .agg #[.int .i64 b.frm, .int .i64 b.til, .slice B2 b.steps.length d2, .slice B3 b.lies.length d3, .slice B4 b.crosses.length d4, .slice B5 b.parts.length d5, .slice B6 b.over.length d6, .slice B7 b.flanks.length d7]] w (RetI (excl a b) w) := by
  unfold Route.n at la lb
  exact implExclude a b _ _ _ _ _ _ A3 A4 A5 A6 A7 B3 B4 B5 B6 B7 c3 c4 c5 c6 c7 d3 d4 d5 d6 d7 w h.h3 h.h4 h.h5 h.h6 h.h7 h'.h3 h'.h4 h'.h5 h'.h6 h'.h7 (by omega) (by omega) (by omega) (by omega)
end Go.Proofs.YtpggopdojhodaaaGreat.L
namespace Go.Proofs.YtpggopdojhodaaaGreat.L
open Go.RowKit
set_option linter.unusedVariables false
set_option linter.unusedSimpArgs false
theorem partN_fwd (n : Net) (p a b : Int) : partN n p 1 a b = ⟨p, a, b⟩ := rfl
theorem partN_back (n : Net) (p a b : Int) : partN n p (-1) a b = ⟨p, pl n p - b, pl n p - a⟩ := rfl
theorem partOf_q {p a b : Int} {P : Part} {w : World} (h : (⟨p, min a b, max a b⟩ : Part) = P) : Calls Tryz.prog 126 #[.int .i64 p, .int .i64 a, .int .i64 b] w (RetV P.v w) := by
  subst h
  exact implPartOf p a b w
theorem RetO.to {xs ys : List End} {hs gs : List Int} {w w' : World} {e : Ending} (h : RetO xs hs w e w') (hx : xs = ys) (hh : hs = gs) : RetO ys gs w e w' := by subst hx hh; exact h
theorem endC_head {w : World} {ok : Nat → Prop} {A : Option Addr} {e : End} (h : endK.C w ok A [e]) : ∃ ad, A = some ad ∧ w.cell? ad = some (.int .i64 e.piece) ∧ w.cell? ⟨ad.block, ad.off + 1, none⟩ = some (.int .i64 e.side) ∧ ad.block < w.heap.size := by
  obtain ⟨ad, he, y0, y1, E, g0, g1⟩ := endK_at h 0 (by simp)
  have := E.out
  simp at this
  subst this
  have h0 : ad.add (0 * 2) = ad := by unfold Addr.add; simp
  rw [h0] at g0 g1
  exact ⟨ad, he, g0, g1, World.block_lt_of_cell? w ad g0⟩
theorem behind_cells {w W0 wr w1 W1 w2 w3 : World} {v : Value} {o : Obj} {ce cp : List Value} {tE tP : TypeId} (hb : Below (w.heap.size + 1) W0 wr) (h1 : wr.heap.size ≤ w1.heap.size) (hB : Below wr.heap.size wr W1) (h2 : Below W1.heap.size W1 w2) (hg : (w2.alloc o).grownBy w3 v.ownBlock) (ho : ∀ b, v.ownBlock = some b → w.heap.size + 2 ≤ b) (hl : ∀ b, v.ownBlock = some b → b < wr.heap.size) (hE : Blk W1 w1.heap.size tE ce) (hP : Blk wr (w.heap.size + 1) tP cp) (hs : w.heap.size + 1 < W0.heap.size) :
    Below (w.heap.size + 1) W0 w3 ∧ Blk w3 w1.heap.size tE ce ∧ Blk w3 (w.heap.size + 1) tP cp ∧ w.heap.size + 1 < w3.heap.size ∧ w1.heap.size < w3.heap.size ∧ w.heap.size + 1 ≤ w2.heap.size := by
  have hbx := hB.trans (h2.mono hB.size)
  have hsz := hb.size
  have hba : Below wr.heap.size wr (w2.alloc o) := hbx.alloc hbx.size o
  have hsa := hba.size
  have hsb := hbx.size
  have hsg := hg.size
  have hel := hE.lt
  have hs2 := h2.size
  rw [size_alloc] at hsg
  refine ⟨(hb.trans (hba.mono (by omega))).grown hg (by rw [size_alloc]; omega) (fun k hk => by have := ho k hk; omega), ?_, ?_, by omega, by omega, by omega⟩
  · refine (hg.block w1.heap.size (by rw [size_alloc]; omega) (fun e => ?_)).trans ((hE.below h2 hel).alloc o)
    have := hl _ e.symm
    omega
  · refine (hg.block (w.heap.size + 1) (by rw [size_alloc]; omega) (fun e => ?_)).trans (hP.below hba (by omega))
    have := ho _ e.symm
    omega
theorem place_set {w : World} {b : Nat} {t : TypeId} {x0 x1 x2 : Value} (y0 y1 y2 : Value) (h : Blk w b t [x0, x1, x2]) : Blk (((w.setCell ⟨b, 0, none⟩ y0).setCell ⟨b, 1, none⟩ y1).setCell ⟨b, 2, none⟩ y2) b t [y0, y1, y2] := ((h.set_ 0 y0).set_ 1 y1).set_ 2 y2
theorem place_far {w : World} {b k : Nat} (y0 y1 y2 : Value) (h : k ≠ b) : (((w.setCell ⟨b, 0, none⟩ y0).setCell ⟨b, 1, none⟩ y1).setCell ⟨b, 2, none⟩ y2).heap[k]? = w.heap[k]? := by
  rw [Below.heap_setCell _ _ _ _ h, Below.heap_setCell _ _ _ _ h, Below.heap_setCell _ _ _ _ h]
theorem place_below {B b : Nat} {w W : World} (y0 y1 y2 : Value) (h : Below B w W) (hb : B ≤ b) : Below B w (((W.setCell ⟨b, 0, none⟩ y0).setCell ⟨b, 1, none⟩ y1).setCell ⟨b, 2, none⟩ y2) := ((h.setCell hb y0).setCell hb y1).setCell hb y2
theorem across_plain {x : Joint} {k : Nat} (h : x.kind = 2) : across x k = [en x (1 - k)] := by unfold across; rw [if_pos h]
theorem how_plain {x : Joint} {k : Nat} (h : x.kind = 2) : howOf x k = [0] := by unfold howOf; rw [if_neg (by omega), if_neg (by omega)]
set_option maxRecDepth 100000 in
set_option maxHeartbeats 16000000 in
theorem implBehind {ok : Nat → Prop} (n : Net) (A0 A1 : Option Addr) (c0 c1 : Nat) (u : Nat) (way far a ov : Int) (w : World) (h : NC 136 w ok n A0 A1) (hg : Hid (Good n)) (hu : u < n.pieces.length) (hway : Hid (way = 1 ∨ way = -1)) (h0 : Hid (0 ≤ far ∧ far < pl n u)) (ha : Hid (a = atOf n u way far)) (ho0 : 0 ≤ ov) (ho1 : ov ≤ 100000) :
    Calls Tryz.prog 150 #[.agg #[.slice A0 n.pieces.length c0, .slice A1 n.joints.length c1], .agg #[.int .i64 u, .int .i64 a, .int .i64 way], .int .i64 ov] w (RetW 128 partK nobody (beyond n (ov.toNat + 1) u way far ov) w) := by
  obtain ⟨i0, hi, hz0, hz1, hz2⟩ := info_parts info128
  have hmp := h.p.1
  have hmj := h.j.1
  obtain ⟨goal, HG⟩ : ∃ goal, Hid (beyond n (ov.toNat + 1) u way far ov = goal) := ⟨_, Lib.hid rfl⟩
  rw [HG.out]
  go_enter Tryz.func150, Tryz.ntmps150
  go_wp2
  obtain ⟨W0, hW, HB0, hs0, hs1, f0, f1, HBX⟩ : ∃ W, W = (w.alloc (.cells #[.slice A0 n.pieces.length c0, .slice A1 n.joints.length c1] 34)).alloc (.cells #[.int .i64 u, .int .i64 a, .int .i64 way] 150) ∧ Below w.heap.size w W ∧ w.heap.size < W.heap.size ∧ w.heap.size + 1 < W.heap.size ∧ W.cell? ⟨w.heap.size, 0, none⟩ = some (.slice A0 n.pieces.length c0) ∧ W.cell? ⟨w.heap.size, 1, none⟩ = some (.slice A1 n.joints.length c1) ∧ Hid (Blk W (w.heap.size + 1) 150 [.int .i64 u, .int .i64 (atOf n u way far), .int .i64 way]) :=
    ⟨_, rfl, (below_alloc _ _).alloc (by simp) _, by simp; omega, by simp, by simp, by simp, Lib.hid (by rw [← ha.out]; exact Blk.new _ _ _ (by simp))⟩
  rw [← hW]
  clear hW
  go_loopw [2, 7] (fun lv o wr => ∃ (m u : Nat) (way far left : Int) (acc : List Part), lv = .int .i64 left ∧ u < n.pieces.length ∧ 0 ≤ far ∧ left ≤ 100000 ∧ Hid (way = 1 ∨ way = -1) ∧ Hid (far < pl n u) ∧ Hid (acc ++ beyond n m u way far left = goal) ∧ Hid (left.toNat < m) ∧ Hid (partK.Rw 128 wr nobody o acc) ∧ Hid (∀ b, o.ownBlock = some b → w.heap.size + 2 ≤ b) ∧ Hid (0 ≤ left ∧ acc.length + left ≤ ov) ∧ Hid (Blk wr (w.heap.size + 1) 150 [.int .i64 u, .int .i64 (atOf n u way far), .int .i64 way]) ∧ Below (w.heap.size + 1) W0 wr) (fun lv _ _ => (intOf lv).toNat)
  case atStart => exact ⟨ov.toNat + 1, u, way, far, ov, [], rfl, hu, h0.out.1, ho1, hway, Lib.hid h0.out.2, Lib.hid HG.out, Lib.hid (by omega), Lib.hid Kn.Rw.nil, Lib.hid (by simp [Value.ownBlock]), Lib.hid ⟨ho0, by simp⟩, HBX, Below.refl _ _⟩
  case round =>
    clear h0 hway ha HBX hu
    obtain ⟨m, u, way, far, left, acc, rfl, hu, hf0, hl1, HW, HF, HB, HM, HR, HO, HL, HX0, hb⟩ := hrel
    obtain ⟨Ao, co, rfl, hco, _⟩ := HR.out.form
    have hbw := HB0.trans (hb.mono (by omega : w.heap.size ≤ w.heap.size + 1))
    by_cases hl : left ≤ 0
    · have HE : Hid (acc = goal) := Lib.hid (by have := HB.out; rw [beyond_none hl, List.append_nil] at this; exact this)
      go_wp2
      go_ret
      exact ⟨_, rfl, by rw [← HE.out]; exact HR.out, fun b hb => by have := HO.out b hb; omega, hbw⟩
    have hl0 : 0 < left := by omega
    clear hl
    obtain ⟨ad, rfl, z0, z1, z2, z3, E, g0, g1, g2, g3⟩ := pieceK_at (Kn.C_below hbw h.p) u hu
    have j0 : (0 : Int) ≤ (u : Int) := Int.natCast_nonneg _
    have j1 : (u : Int) < (n.pieces.length : Int) := by omega
    have HP : Hid (pl n u = z1) := Lib.hid (pl_get E.out)
    obtain ⟨x1, x2⟩ : 1 ≤ z1 ∧ z1 ≤ 10000000 := by have := hg.out.piece _ (mem_of_get E.out); exact ⟨this.2.1, this.2.2.1⟩
    have x3 : far < z1 := by have := HF.out; rw [HP.out] at this; exact this
    have hsr0 : w.heap.size < wr.heap.size := by have := hb.size; omega
    have hsr1 : w.heap.size + 1 < wr.heap.size := by have := hb.size; omega
    have q0 : wr.cell? ⟨w.heap.size, 0, none⟩ = some (.slice (some ad) n.pieces.length c0) := (hb.cell (p := ⟨w.heap.size, 0, none⟩) (by simp)).trans f0
    have q1 : wr.cell? ⟨w.heap.size, 1, none⟩ = some (.slice A1 n.joints.length c1) := (hb.cell (p := ⟨w.heap.size, 1, none⟩) (by simp)).trans f1
    have HEP : Hid (stepP n.pieces.length ⟨u, way⟩) := Lib.hid ⟨⟨by show (0 : Int) ≤ u; omega, by show (u : Int) ≤ _; omega⟩, HW.out⟩
    obtain ⟨e0, HE⟩ : ∃ e0, Hid (headE u way = e0) := ⟨_, Lib.hid rfl⟩
    have HEO : Hid (endP n.pieces.length e0) := Lib.hid (by rw [← HE.out]; exact head_ok HEP.out)
    obtain ⟨j, k, x, hat, hjk, hx, hP, hjl, hkl⟩ := at_get hg.out HEO.out
    have HA := Lib.hid hjk
    have HX := Lib.hid hx
    have HAT := Lib.hid hat
    have HAH : Hid (atJ n (headE u way) = (j, k)) := Lib.hid (by rw [HE.out]; exact hjk)
    have HJP := Lib.hid hP
    clear hjk hx hat hP
    have hlen := HL.out
    have a63 : acc.length + 1 ≤ maxLen := by simp only [maxLen]; omega
    have aby : (acc.length + 1) * 24 ≤ 140737488355328 := by omega
    have m0 : (0 : Int) ≤ (j : Int) := Int.natCast_nonneg _
    have m1 : (j : Int) < (n.joints.length : Int) := by omega
    have HOL := Lib.hid HR.out.lt
    rcases HW.out with rfl | rfl
    · have y0 := HX0.out.cell 0 rfl
      have y1 := HX0.out.cell 1 rfl
      have y2 := HX0.out.cell 2 rfl
      rw [show atOf n u 1 far = far from rfl] at y1
      rcases Int.lt_trichotomy left (z1 - far) with hq | hq | hq
      · have d1 : decide (left < z1 - far) = true := decide_eq_true (by omega)
        have d3 : decide (0 < left) = true := decide_eq_true (by omega)
        have HT : Hid (tilOf n u far left = far + left) := Lib.hid (by unfold tilOf; rw [HP.out, if_pos (by omega)])
        obtain ⟨P, HPt⟩ : ∃ P, Hid (partN n u (1) far (far + left) = P) := ⟨_, Lib.hid rfl⟩
        go_wp2_with fail
        refine (implLooked _ _ _).mono ?_
        rintro e w1 ⟨rfl, hb1⟩
        rw [HE.out]
        obtain ⟨c0', c1', c2', c3', c4', c5', c6'⟩ : w1.cell? ⟨w.heap.size, 0, none⟩ = some (.slice (some ad) n.pieces.length c0) ∧ w1.cell? ⟨w.heap.size, 1, none⟩ = some (.slice A1 n.joints.length c1) ∧ w1.cell? ⟨w.heap.size + 1, 0, none⟩ = some (.int .i64 u) ∧ w1.cell? ⟨w.heap.size + 1, 1, none⟩ = some (.int .i64 (far)) ∧ w1.cell? ⟨w.heap.size + 1, 2, none⟩ = some (.int .i64 (1)) ∧ w.heap.size < w1.heap.size ∧ w.heap.size + 1 < w1.heap.size :=
          ⟨cell_below hb1 q0, cell_below hb1 q1, cell_below hb1 y0, cell_below hb1 y1, cell_below hb1 y2, by have := hb1.size; omega, by have := hb1.size; omega⟩
        have l9 := cell_below hb1 g1
        have l8 : (ad.add (u * 4)).block < w1.heap.size := World.block_lt_of_cell? w1 ⟨(ad.add (u * 4)).block, (ad.add (u * 4)).off + 1, none⟩ l9
        have hwr : IntKind.i64.wrap (z1 - far) = z1 - far := wrap_small (by omega) (by omega)
        go_wp2
        go_quiet (fail)
        go_wp2_with fail
        obtain ⟨W1, hW1, hBB, hEB, hs2⟩ : ∃ W, W = (w1.alloc (.cells #[.int .i64 e0.piece, .int .i64 e0.side] 136)).drewN nq ∧ Below wr.heap.size wr W ∧ Hid (Blk W w1.heap.size 136 [.int .i64 e0.piece, .int .i64 e0.side]) ∧ w1.heap.size < W.heap.size := ⟨_, rfl, below_drewN (hb1.alloc hb1.size _) _, Lib.hid (Blk.new _ _ _ rfl), by simp⟩
        rw [← hW1]
        clear hW1 c0' c1' c2' c3' c4' c5' c6' l8 l9
        refine (partOf_q (P := P) (by rw [← HPt.out, partN_fwd]; congr 1 <;> omega)).mono ?_
        rintro e w2 ⟨rfl, hb2⟩
        have hbx := hBB.trans (hb2.mono hBB.size)
        have hbo := hb1.size
        have HR1 := Lib.hid ((HR.out.below hbx).below (below_alloc w2 (.cells #[.int .i64 P.piece, .int .i64 P.frm, .int .i64 P.til] 128)))
        clear g0 g1 g2 g3 HR q0 q1 y0 y1 y2
        go_wp2_with (at_builtin; refine wpList_append_rw _ rfl (.tmp 42) (.tmp 55) 77 rfl 128 i0 _ 24 Tryz.underlying77 hi hz0 hz1 hz2 rfl (by decide) (.slice Ao acc.length co) acc [P] rfl HR1.out (fun _ h => h.elim) (some ⟨w2.heap.size, 0, none⟩) 1 1 rfl rfl (Kn.Src.one (partK_mk _ _ P) (new_cells _ _ _ rfl)) a63 aby ?_; intro v' w3 HR2 hg2 hat2; obtain ⟨A2, c2, rfl, hc2⟩ := HR2.form1; obtain ⟨b0, b1, b2, b3, b4, b5⟩ := behind_cells hb hbo hBB hb2 hg2 HO.out HOL.out hEB.out HX0.out hs1; have u0 : w3.cell? ⟨w.heap.size, 0, none⟩ = some (.slice (some ad) n.pieces.length c0) := (b0.cell (p := ⟨w.heap.size, 0, none⟩) (by simp)).trans f0; have u1 : w3.cell? ⟨w.heap.size, 1, none⟩ = some (.slice A1 n.joints.length c1) := (b0.cell (p := ⟨w.heap.size, 1, none⟩) (by simp)).trans f1; have v0 := b1.cell 0 rfl; have v1 := b1.cell 1 rfl; have hs4 : w.heap.size < w3.heap.size := by omega)
        have HO2 := Lib.hid (own_next HO.out hat2 (by rw [size_alloc]; omega))
        have HR2 := Lib.hid HR2
        have HB2 := Lib.hid b2
        have hbW := HB0.trans (b0.mono (by omega : w.heap.size ≤ w.heap.size + 1))
        clear hg2 hat2 hbx hBB hb2 HR1 hb1 hEB HO HOL b1 b2 hbo hsr0 hsr1 b5 hs2
        refine (implAt n (some ad) A1 c0 c1 e0 _ (h.below hbW) hg HEO).mono ?_
        rintro e w4 ⟨rfl, hb4⟩
        rw [HA.out]
        have hbY := b0.trans (hb4.mono (by omega))
        have hbZ := HB0.trans (hbY.mono (by omega : w.heap.size ≤ w.heap.size + 1))
        obtain ⟨a1, rfl, y, E1, A3, c3, r0, r1, r2, l2, C2⟩ := jointK_at (Kn.C_below hbZ h.j) j hjl
        have hy := HAT.out.1.symm.trans E1.out
        injection hy with hy
        subst hy
        have hme := C2.1
        have u2 := cell_below hb4 u0
        have u3 := cell_below hb4 u1
        have v2 := cell_below hb4 v0
        have v3 := cell_below hb4 v1
        have HR4 := Lib.hid (HR2.out.below hb4)
        have HB4 := Lib.hid (HB2.out.below hb4 (by omega))
        have hs5 : w.heap.size < w4.heap.size := by have := hb4.size; omega
        have hs6 : w1.heap.size < w4.heap.size := by have := hb4.size; omega
        have hs9 : w.heap.size + 1 < w4.heap.size := by have := hb4.size; omega
        clear u0 u1 v0 v1 HR2 HB2 b3 b4 hs4
        by_cases hk : x.kind = 2
        rotate_left
        · have d4 : (x.kind != 2) = true := int_net hk
          have HEN : Hid (acc ++ [P] = goal) := Lib.hid (by have := beyond_end HB.out HM.out (by omega) HAH.out HX.out (.inr hk); rw [HT.out, HPt.out] at this; exact this)
          clear hk
          go_wp2
          go_ret
          exact ⟨_, rfl, by rw [← HEN.out]; exact HR4.out, fun b hb => by have := HO2.out b hb; omega, hbZ⟩
        have d4 : (x.kind != 2) = false := int_nef hk
        have hlen2 : x.ends.length = 2 := by have := HJP.out.2.1; omega
        obtain ⟨m', hmm, hsp⟩ := beyond_spl HB.out HM.out (by omega) HAH.out HX.out hk
        rw [HT.out, HPt.out] at hsp
        have HSP := Lib.hid hsp
        have HMM := Lib.hid hmm
        have HEK : Hid (endP n.pieces.length (en x (1 - k))) := Lib.hid (en_ok HJP.out (by omega))
        obtain ⟨u', s', HEN⟩ : ∃ (u' : Nat) (s' : Int), Hid (en x (1 - k) = ⟨u', s'⟩) := ⟨(en x (1 - k)).piece.toNat, (en x (1 - k)).side, Lib.hid (by have := HEK.out.1.1; rw [Int.toNat_of_nonneg this])⟩
        have hu' : u' < n.pieces.length := by have := HEK.out; rw [HEN.out] at this; obtain ⟨⟨b1, b2⟩, b3, b4⟩ := this; simp only at b1 b2 b3 b4; omega
        have HEE : Hid (endP n.pieces.length ⟨u', s'⟩) := Lib.hid (by rw [← HEN.out]; exact HEK.out)
        have HPL : Hid (0 < pl n u') := Lib.hid (by have := pl_in hg.out (p := (u' : Int)) (by omega) (by omega); omega)
        have HXS : Hid (across (jt n (atJ n e0).1) (atJ n e0).2 = [⟨u', s'⟩] ∧ howOf (jt n (atJ n e0).1) (atJ n e0).2 = [0]) := Lib.hid (by rw [HA.out]; simp only; rw [HX.out, across_plain hk, how_plain hk, HEN.out]; exact ⟨rfl, rfl⟩)
        clear hk hlen2 hmm hsp r1 r2
        go_wp2_with fail
        refine (implOver n (some ad) (some a1) c0 c1 e0 _ (h.below hbZ) hg HEO).mono ?_
        rintro e w5 hov
        obtain ⟨Al, cl, Bl, dl, rfl, hcl, hAl, hBl, hb5⟩ := hov.to HXS.out.1 HXS.out.2
        obtain ⟨al, rfl, t0, t1, t2⟩ := endC_head hAl
        have hbV := hbY.trans (hb5.mono (by omega : w.heap.size + 1 ≤ w4.heap.size))
        have hbU := HB0.trans (hbV.mono (by omega : w.heap.size ≤ w.heap.size + 1))
        have u4 := cell_below hb5 u2
        have u5 := cell_below hb5 u3
        have HB5 := Lib.hid (HB4.out.below hb5 (by omega))
        have HR5 := Lib.hid (HR4.out.below hb5)
        have hs7 : w.heap.size < w5.heap.size := by have := hb5.size; omega
        have hs8 : w.heap.size + 1 < w5.heap.size := by have := hb5.size; omega
        have z7 := HB5.out.cell 0 rfl
        have z8 := HB5.out.cell 1 rfl
        have z9 := HB5.out.cell 2 rfl
        have z4 := HB5.out.frozen 0
        have z5 := HB5.out.frozen 1
        have z6 := HB5.out.frozen 2
        clear u2 u3 v2 v3 r0 HB4 HR4 hs5 hs6 hov hb4 C2 E1
        simp only [List.length_singleton]
        go_wp2_with fail
        go_region_with ((go_at_call 133; go_loud ((with_reducible refine (implEnter n _ (some ad) c0 ⟨u', s'⟩ _ (C_dr (Kn.C_below hbU h.p)) hg HEE.out).mono ?_); rintro e w6 ⟨rfl, hb6⟩; have B6 := (Blk_drew HB5.out).below hb6 hs8; have z7 := B6.cell 0 rfl; have z8 := B6.cell 1 rfl; have z9 := B6.cell 2 rfl; have z4 := B6.frozen 0; have z5 := B6.frozen 1; have z6 := B6.frozen 2; have hs9 : w.heap.size + 1 < w6.heap.size := B6.lt; have HB6 := Lib.hid B6; clear B6)))
        all_goals go_wp2
        all_goals go_roundw
        all_goals first | (simp [intOf]; omega) | exact ⟨m', u', wayOf ⟨u', s'⟩, 0, 0, acc ++ [P], by first | rfl | go_num, hu', by omega, by omega, Lib.hid (step_of_end HEE.out).2, HPL, Lib.hid (by have := HSP.out; rw [HEN.out, show left - ((far + left) - far) = 0 by omega] at this; exact this), Lib.hid (by have := HM.out; have := HMM.out; omega), Lib.hid (Kn.Rw.move (fun q hq => place_far _ _ _ (by have := HO2.out q hq; omega)) (fun _ h => h.elim) (HR5.out.below (hb6 : Below w5.heap.size w5.drew _))), HO2, Lib.hid ⟨by omega, by rw [List.length_append, List.length_singleton]; omega⟩, Lib.hid (place_set _ _ _ HB6.out), place_below _ _ _ (hbV.drew.trans (hb6.mono (by show _ ≤ w5.heap.size; omega))) (Nat.le_refl _)⟩
      · have hq1 : left ≤ z1 - far := by omega
        have hq2 : z1 - far ≤ left := by omega
        clear hq
        have d1 : decide (left < z1 - far) = false := decide_eq_false (by omega)
        have d3 : decide (0 < z1 - far) = true := decide_eq_true (by omega)
        have HT : Hid (tilOf n u far left = far + left) := Lib.hid (by unfold tilOf; rw [HP.out, if_pos (by omega)])
        obtain ⟨P, HPt⟩ : ∃ P, Hid (partN n u (1) far (far + left) = P) := ⟨_, Lib.hid rfl⟩
        go_wp2_with fail
        refine (implLooked _ _ _).mono ?_
        rintro e w1 ⟨rfl, hb1⟩
        rw [HE.out]
        obtain ⟨c0', c1', c2', c3', c4', c5', c6'⟩ : w1.cell? ⟨w.heap.size, 0, none⟩ = some (.slice (some ad) n.pieces.length c0) ∧ w1.cell? ⟨w.heap.size, 1, none⟩ = some (.slice A1 n.joints.length c1) ∧ w1.cell? ⟨w.heap.size + 1, 0, none⟩ = some (.int .i64 u) ∧ w1.cell? ⟨w.heap.size + 1, 1, none⟩ = some (.int .i64 (far)) ∧ w1.cell? ⟨w.heap.size + 1, 2, none⟩ = some (.int .i64 (1)) ∧ w.heap.size < w1.heap.size ∧ w.heap.size + 1 < w1.heap.size :=
          ⟨cell_below hb1 q0, cell_below hb1 q1, cell_below hb1 y0, cell_below hb1 y1, cell_below hb1 y2, by have := hb1.size; omega, by have := hb1.size; omega⟩
        have l9 := cell_below hb1 g1
        have l8 : (ad.add (u * 4)).block < w1.heap.size := World.block_lt_of_cell? w1 ⟨(ad.add (u * 4)).block, (ad.add (u * 4)).off + 1, none⟩ l9
        have hwr : IntKind.i64.wrap (z1 - far) = z1 - far := wrap_small (by omega) (by omega)
        go_wp2
        go_quiet (fail)
        go_wp2_with fail
        obtain ⟨W1, hW1, hBB, hEB, hs2⟩ : ∃ W, W = (w1.alloc (.cells #[.int .i64 e0.piece, .int .i64 e0.side] 136)).drewN nq ∧ Below wr.heap.size wr W ∧ Hid (Blk W w1.heap.size 136 [.int .i64 e0.piece, .int .i64 e0.side]) ∧ w1.heap.size < W.heap.size := ⟨_, rfl, below_drewN (hb1.alloc hb1.size _) _, Lib.hid (Blk.new _ _ _ rfl), by simp⟩
        rw [← hW1]
        clear hW1 c0' c1' c2' c3' c4' c5' c6' l8 l9
        refine (partOf_q (P := P) (by rw [← HPt.out, partN_fwd]; congr 1 <;> omega)).mono ?_
        rintro e w2 ⟨rfl, hb2⟩
        have hbx := hBB.trans (hb2.mono hBB.size)
        have hbo := hb1.size
        have HR1 := Lib.hid ((HR.out.below hbx).below (below_alloc w2 (.cells #[.int .i64 P.piece, .int .i64 P.frm, .int .i64 P.til] 128)))
        clear g0 g1 g2 g3 HR q0 q1 y0 y1 y2
        go_wp2_with (at_builtin; refine wpList_append_rw _ rfl (.tmp 42) (.tmp 55) 77 rfl 128 i0 _ 24 Tryz.underlying77 hi hz0 hz1 hz2 rfl (by decide) (.slice Ao acc.length co) acc [P] rfl HR1.out (fun _ h => h.elim) (some ⟨w2.heap.size, 0, none⟩) 1 1 rfl rfl (Kn.Src.one (partK_mk _ _ P) (new_cells _ _ _ rfl)) a63 aby ?_; intro v' w3 HR2 hg2 hat2; obtain ⟨A2, c2, rfl, hc2⟩ := HR2.form1; obtain ⟨b0, b1, b2, b3, b4, b5⟩ := behind_cells hb hbo hBB hb2 hg2 HO.out HOL.out hEB.out HX0.out hs1; have u0 : w3.cell? ⟨w.heap.size, 0, none⟩ = some (.slice (some ad) n.pieces.length c0) := (b0.cell (p := ⟨w.heap.size, 0, none⟩) (by simp)).trans f0; have u1 : w3.cell? ⟨w.heap.size, 1, none⟩ = some (.slice A1 n.joints.length c1) := (b0.cell (p := ⟨w.heap.size, 1, none⟩) (by simp)).trans f1; have v0 := b1.cell 0 rfl; have v1 := b1.cell 1 rfl; have hs4 : w.heap.size < w3.heap.size := by omega)
        have HO2 := Lib.hid (own_next HO.out hat2 (by rw [size_alloc]; omega))
        have HR2 := Lib.hid HR2
        have HB2 := Lib.hid b2
        have hbW := HB0.trans (b0.mono (by omega : w.heap.size ≤ w.heap.size + 1))
        clear hg2 hat2 hbx hBB hb2 HR1 hb1 hEB HO HOL b1 b2 hbo hsr0 hsr1 b5 hs2
        refine (implAt n (some ad) A1 c0 c1 e0 _ (h.below hbW) hg HEO).mono ?_
        rintro e w4 ⟨rfl, hb4⟩
        rw [HA.out]
        have hbY := b0.trans (hb4.mono (by omega))
        have hbZ := HB0.trans (hbY.mono (by omega : w.heap.size ≤ w.heap.size + 1))
        obtain ⟨a1, rfl, y, E1, A3, c3, r0, r1, r2, l2, C2⟩ := jointK_at (Kn.C_below hbZ h.j) j hjl
        have hy := HAT.out.1.symm.trans E1.out
        injection hy with hy
        subst hy
        have hme := C2.1
        have u2 := cell_below hb4 u0
        have u3 := cell_below hb4 u1
        have v2 := cell_below hb4 v0
        have v3 := cell_below hb4 v1
        have HR4 := Lib.hid (HR2.out.below hb4)
        have HB4 := Lib.hid (HB2.out.below hb4 (by omega))
        have hs5 : w.heap.size < w4.heap.size := by have := hb4.size; omega
        have hs6 : w1.heap.size < w4.heap.size := by have := hb4.size; omega
        have hs9 : w.heap.size + 1 < w4.heap.size := by have := hb4.size; omega
        clear u0 u1 v0 v1 HR2 HB2 b3 b4 hs4
        by_cases hk : x.kind = 2
        rotate_left
        · have d4 : (x.kind != 2) = true := int_net hk
          have HEN : Hid (acc ++ [P] = goal) := Lib.hid (by have := beyond_end HB.out HM.out (by omega) HAH.out HX.out (.inr hk); rw [HT.out, HPt.out] at this; exact this)
          clear hk
          go_wp2
          go_ret
          exact ⟨_, rfl, by rw [← HEN.out]; exact HR4.out, fun b hb => by have := HO2.out b hb; omega, hbZ⟩
        have d4 : (x.kind != 2) = false := int_nef hk
        have hlen2 : x.ends.length = 2 := by have := HJP.out.2.1; omega
        obtain ⟨m', hmm, hsp⟩ := beyond_spl HB.out HM.out (by omega) HAH.out HX.out hk
        rw [HT.out, HPt.out] at hsp
        have HSP := Lib.hid hsp
        have HMM := Lib.hid hmm
        have HEK : Hid (endP n.pieces.length (en x (1 - k))) := Lib.hid (en_ok HJP.out (by omega))
        obtain ⟨u', s', HEN⟩ : ∃ (u' : Nat) (s' : Int), Hid (en x (1 - k) = ⟨u', s'⟩) := ⟨(en x (1 - k)).piece.toNat, (en x (1 - k)).side, Lib.hid (by have := HEK.out.1.1; rw [Int.toNat_of_nonneg this])⟩
        have hu' : u' < n.pieces.length := by have := HEK.out; rw [HEN.out] at this; obtain ⟨⟨b1, b2⟩, b3, b4⟩ := this; simp only at b1 b2 b3 b4; omega
        have HEE : Hid (endP n.pieces.length ⟨u', s'⟩) := Lib.hid (by rw [← HEN.out]; exact HEK.out)
        have HPL : Hid (0 < pl n u') := Lib.hid (by have := pl_in hg.out (p := (u' : Int)) (by omega) (by omega); omega)
        have HXS : Hid (across (jt n (atJ n e0).1) (atJ n e0).2 = [⟨u', s'⟩] ∧ howOf (jt n (atJ n e0).1) (atJ n e0).2 = [0]) := Lib.hid (by rw [HA.out]; simp only; rw [HX.out, across_plain hk, how_plain hk, HEN.out]; exact ⟨rfl, rfl⟩)
        clear hk hlen2 hmm hsp r1 r2
        go_wp2_with fail
        refine (implOver n (some ad) (some a1) c0 c1 e0 _ (h.below hbZ) hg HEO).mono ?_
        rintro e w5 hov
        obtain ⟨Al, cl, Bl, dl, rfl, hcl, hAl, hBl, hb5⟩ := hov.to HXS.out.1 HXS.out.2
        obtain ⟨al, rfl, t0, t1, t2⟩ := endC_head hAl
        have hbV := hbY.trans (hb5.mono (by omega : w.heap.size + 1 ≤ w4.heap.size))
        have hbU := HB0.trans (hbV.mono (by omega : w.heap.size ≤ w.heap.size + 1))
        have u4 := cell_below hb5 u2
        have u5 := cell_below hb5 u3
        have HB5 := Lib.hid (HB4.out.below hb5 (by omega))
        have HR5 := Lib.hid (HR4.out.below hb5)
        have hs7 : w.heap.size < w5.heap.size := by have := hb5.size; omega
        have hs8 : w.heap.size + 1 < w5.heap.size := by have := hb5.size; omega
        have z7 := HB5.out.cell 0 rfl
        have z8 := HB5.out.cell 1 rfl
        have z9 := HB5.out.cell 2 rfl
        have z4 := HB5.out.frozen 0
        have z5 := HB5.out.frozen 1
        have z6 := HB5.out.frozen 2
        clear u2 u3 v2 v3 r0 HB4 HR4 hs5 hs6 hov hb4 C2 E1
        simp only [List.length_singleton]
        go_wp2_with fail
        go_region_with ((go_at_call 133; go_loud ((with_reducible refine (implEnter n _ (some ad) c0 ⟨u', s'⟩ _ (C_dr (Kn.C_below hbU h.p)) hg HEE.out).mono ?_); rintro e w6 ⟨rfl, hb6⟩; have B6 := (Blk_drew HB5.out).below hb6 hs8; have z7 := B6.cell 0 rfl; have z8 := B6.cell 1 rfl; have z9 := B6.cell 2 rfl; have z4 := B6.frozen 0; have z5 := B6.frozen 1; have z6 := B6.frozen 2; have hs9 : w.heap.size + 1 < w6.heap.size := B6.lt; have HB6 := Lib.hid B6; clear B6)))
        all_goals go_wp2
        all_goals go_roundw
        all_goals first | (simp [intOf]; omega) | exact ⟨m', u', wayOf ⟨u', s'⟩, 0, left - (z1 - far), acc ++ [P], by first | rfl | go_num, hu', by omega, by omega, Lib.hid (step_of_end HEE.out).2, HPL, Lib.hid (by have := HSP.out; rw [HEN.out, show left - ((far + left) - far) = left - (z1 - far) by omega] at this; exact this), Lib.hid (by have := HM.out; have := HMM.out; omega), Lib.hid (Kn.Rw.move (fun q hq => place_far _ _ _ (by have := HO2.out q hq; omega)) (fun _ h => h.elim) (HR5.out.below (hb6 : Below w5.heap.size w5.drew _))), HO2, Lib.hid ⟨by omega, by rw [List.length_append, List.length_singleton]; omega⟩, Lib.hid (place_set _ _ _ HB6.out), place_below _ _ _ (hbV.drew.trans (hb6.mono (by show _ ≤ w5.heap.size; omega))) (Nat.le_refl _)⟩
      · have d1 : decide (left < z1 - far) = false := decide_eq_false (by omega)
        have d3 : decide (0 < z1 - far) = true := decide_eq_true (by omega)
        have HT : Hid (tilOf n u far left = z1) := Lib.hid (by unfold tilOf; rw [HP.out, if_neg (by omega)])
        obtain ⟨P, HPt⟩ : ∃ P, Hid (partN n u (1) far (z1) = P) := ⟨_, Lib.hid rfl⟩
        go_wp2_with fail
        refine (implLooked _ _ _).mono ?_
        rintro e w1 ⟨rfl, hb1⟩
        rw [HE.out]
        obtain ⟨c0', c1', c2', c3', c4', c5', c6'⟩ : w1.cell? ⟨w.heap.size, 0, none⟩ = some (.slice (some ad) n.pieces.length c0) ∧ w1.cell? ⟨w.heap.size, 1, none⟩ = some (.slice A1 n.joints.length c1) ∧ w1.cell? ⟨w.heap.size + 1, 0, none⟩ = some (.int .i64 u) ∧ w1.cell? ⟨w.heap.size + 1, 1, none⟩ = some (.int .i64 (far)) ∧ w1.cell? ⟨w.heap.size + 1, 2, none⟩ = some (.int .i64 (1)) ∧ w.heap.size < w1.heap.size ∧ w.heap.size + 1 < w1.heap.size :=
          ⟨cell_below hb1 q0, cell_below hb1 q1, cell_below hb1 y0, cell_below hb1 y1, cell_below hb1 y2, by have := hb1.size; omega, by have := hb1.size; omega⟩
        have l9 := cell_below hb1 g1
        have l8 : (ad.add (u * 4)).block < w1.heap.size := World.block_lt_of_cell? w1 ⟨(ad.add (u * 4)).block, (ad.add (u * 4)).off + 1, none⟩ l9
        have hwr : IntKind.i64.wrap (z1 - far) = z1 - far := wrap_small (by omega) (by omega)
        go_wp2
        go_quiet (fail)
        go_wp2_with fail
        obtain ⟨W1, hW1, hBB, hEB, hs2⟩ : ∃ W, W = (w1.alloc (.cells #[.int .i64 e0.piece, .int .i64 e0.side] 136)).drewN nq ∧ Below wr.heap.size wr W ∧ Hid (Blk W w1.heap.size 136 [.int .i64 e0.piece, .int .i64 e0.side]) ∧ w1.heap.size < W.heap.size := ⟨_, rfl, below_drewN (hb1.alloc hb1.size _) _, Lib.hid (Blk.new _ _ _ rfl), by simp⟩
        rw [← hW1]
        clear hW1 c0' c1' c2' c3' c4' c5' c6' l8 l9
        refine (partOf_q (P := P) (by rw [← HPt.out, partN_fwd]; congr 1 <;> omega)).mono ?_
        rintro e w2 ⟨rfl, hb2⟩
        have hbx := hBB.trans (hb2.mono hBB.size)
        have hbo := hb1.size
        have HR1 := Lib.hid ((HR.out.below hbx).below (below_alloc w2 (.cells #[.int .i64 P.piece, .int .i64 P.frm, .int .i64 P.til] 128)))
        clear g0 g1 g2 g3 HR q0 q1 y0 y1 y2
        go_wp2_with (at_builtin; refine wpList_append_rw _ rfl (.tmp 42) (.tmp 55) 77 rfl 128 i0 _ 24 Tryz.underlying77 hi hz0 hz1 hz2 rfl (by decide) (.slice Ao acc.length co) acc [P] rfl HR1.out (fun _ h => h.elim) (some ⟨w2.heap.size, 0, none⟩) 1 1 rfl rfl (Kn.Src.one (partK_mk _ _ P) (new_cells _ _ _ rfl)) a63 aby ?_; intro v' w3 HR2 hg2 hat2; obtain ⟨A2, c2, rfl, hc2⟩ := HR2.form1; obtain ⟨b0, b1, b2, b3, b4, b5⟩ := behind_cells hb hbo hBB hb2 hg2 HO.out HOL.out hEB.out HX0.out hs1; have u0 : w3.cell? ⟨w.heap.size, 0, none⟩ = some (.slice (some ad) n.pieces.length c0) := (b0.cell (p := ⟨w.heap.size, 0, none⟩) (by simp)).trans f0; have u1 : w3.cell? ⟨w.heap.size, 1, none⟩ = some (.slice A1 n.joints.length c1) := (b0.cell (p := ⟨w.heap.size, 1, none⟩) (by simp)).trans f1; have v0 := b1.cell 0 rfl; have v1 := b1.cell 1 rfl; have hs4 : w.heap.size < w3.heap.size := by omega)
        have HO2 := Lib.hid (own_next HO.out hat2 (by rw [size_alloc]; omega))
        have HR2 := Lib.hid HR2
        have HB2 := Lib.hid b2
        have hbW := HB0.trans (b0.mono (by omega : w.heap.size ≤ w.heap.size + 1))
        clear hg2 hat2 hbx hBB hb2 HR1 hb1 hEB HO HOL b1 b2 hbo hsr0 hsr1 b5 hs2
        refine (implAt n (some ad) A1 c0 c1 e0 _ (h.below hbW) hg HEO).mono ?_
        rintro e w4 ⟨rfl, hb4⟩
        rw [HA.out]
        have hbY := b0.trans (hb4.mono (by omega))
        have hbZ := HB0.trans (hbY.mono (by omega : w.heap.size ≤ w.heap.size + 1))
        obtain ⟨a1, rfl, y, E1, A3, c3, r0, r1, r2, l2, C2⟩ := jointK_at (Kn.C_below hbZ h.j) j hjl
        have hy := HAT.out.1.symm.trans E1.out
        injection hy with hy
        subst hy
        have hme := C2.1
        have u2 := cell_below hb4 u0
        have u3 := cell_below hb4 u1
        have v2 := cell_below hb4 v0
        have v3 := cell_below hb4 v1
        have HR4 := Lib.hid (HR2.out.below hb4)
        have HB4 := Lib.hid (HB2.out.below hb4 (by omega))
        have hs5 : w.heap.size < w4.heap.size := by have := hb4.size; omega
        have hs6 : w1.heap.size < w4.heap.size := by have := hb4.size; omega
        have hs9 : w.heap.size + 1 < w4.heap.size := by have := hb4.size; omega
        clear u0 u1 v0 v1 HR2 HB2 b3 b4 hs4
        by_cases hk : x.kind = 2
        rotate_left
        · have d4 : (x.kind != 2) = true := int_net hk
          have HEN : Hid (acc ++ [P] = goal) := Lib.hid (by have := beyond_end HB.out HM.out (by omega) HAH.out HX.out (.inr hk); rw [HT.out, HPt.out] at this; exact this)
          clear hk
          go_wp2
          go_ret
          exact ⟨_, rfl, by rw [← HEN.out]; exact HR4.out, fun b hb => by have := HO2.out b hb; omega, hbZ⟩
        have d4 : (x.kind != 2) = false := int_nef hk
        have hlen2 : x.ends.length = 2 := by have := HJP.out.2.1; omega
        obtain ⟨m', hmm, hsp⟩ := beyond_spl HB.out HM.out (by omega) HAH.out HX.out hk
        rw [HT.out, HPt.out] at hsp
        have HSP := Lib.hid hsp
        have HMM := Lib.hid hmm
        have HEK : Hid (endP n.pieces.length (en x (1 - k))) := Lib.hid (en_ok HJP.out (by omega))
        obtain ⟨u', s', HEN⟩ : ∃ (u' : Nat) (s' : Int), Hid (en x (1 - k) = ⟨u', s'⟩) := ⟨(en x (1 - k)).piece.toNat, (en x (1 - k)).side, Lib.hid (by have := HEK.out.1.1; rw [Int.toNat_of_nonneg this])⟩
        have hu' : u' < n.pieces.length := by have := HEK.out; rw [HEN.out] at this; obtain ⟨⟨b1, b2⟩, b3, b4⟩ := this; simp only at b1 b2 b3 b4; omega
        have HEE : Hid (endP n.pieces.length ⟨u', s'⟩) := Lib.hid (by rw [← HEN.out]; exact HEK.out)
        have HPL : Hid (0 < pl n u') := Lib.hid (by have := pl_in hg.out (p := (u' : Int)) (by omega) (by omega); omega)
        have HXS : Hid (across (jt n (atJ n e0).1) (atJ n e0).2 = [⟨u', s'⟩] ∧ howOf (jt n (atJ n e0).1) (atJ n e0).2 = [0]) := Lib.hid (by rw [HA.out]; simp only; rw [HX.out, across_plain hk, how_plain hk, HEN.out]; exact ⟨rfl, rfl⟩)
        clear hk hlen2 hmm hsp r1 r2
        go_wp2_with fail
        refine (implOver n (some ad) (some a1) c0 c1 e0 _ (h.below hbZ) hg HEO).mono ?_
        rintro e w5 hov
        obtain ⟨Al, cl, Bl, dl, rfl, hcl, hAl, hBl, hb5⟩ := hov.to HXS.out.1 HXS.out.2
        obtain ⟨al, rfl, t0, t1, t2⟩ := endC_head hAl
        have hbV := hbY.trans (hb5.mono (by omega : w.heap.size + 1 ≤ w4.heap.size))
        have hbU := HB0.trans (hbV.mono (by omega : w.heap.size ≤ w.heap.size + 1))
        have u4 := cell_below hb5 u2
        have u5 := cell_below hb5 u3
        have HB5 := Lib.hid (HB4.out.below hb5 (by omega))
        have HR5 := Lib.hid (HR4.out.below hb5)
        have hs7 : w.heap.size < w5.heap.size := by have := hb5.size; omega
        have hs8 : w.heap.size + 1 < w5.heap.size := by have := hb5.size; omega
        have z7 := HB5.out.cell 0 rfl
        have z8 := HB5.out.cell 1 rfl
        have z9 := HB5.out.cell 2 rfl
        have z4 := HB5.out.frozen 0
        have z5 := HB5.out.frozen 1
        have z6 := HB5.out.frozen 2
        clear u2 u3 v2 v3 r0 HB4 HR4 hs5 hs6 hov hb4 C2 E1
        simp only [List.length_singleton]
        go_wp2_with fail
        go_region_with ((go_at_call 133; go_loud ((with_reducible refine (implEnter n _ (some ad) c0 ⟨u', s'⟩ _ (C_dr (Kn.C_below hbU h.p)) hg HEE.out).mono ?_); rintro e w6 ⟨rfl, hb6⟩; have B6 := (Blk_drew HB5.out).below hb6 hs8; have z7 := B6.cell 0 rfl; have z8 := B6.cell 1 rfl; have z9 := B6.cell 2 rfl; have z4 := B6.frozen 0; have z5 := B6.frozen 1; have z6 := B6.frozen 2; have hs9 : w.heap.size + 1 < w6.heap.size := B6.lt; have HB6 := Lib.hid B6; clear B6)))
        all_goals go_wp2
        all_goals go_roundw
        all_goals first | (simp [intOf]; omega) | exact ⟨m', u', wayOf ⟨u', s'⟩, 0, left - (z1 - far), acc ++ [P], by first | rfl | go_num, hu', by omega, by omega, Lib.hid (step_of_end HEE.out).2, HPL, Lib.hid (by have := HSP.out; rw [HEN.out, show left - ((z1) - far) = left - (z1 - far) by omega] at this; exact this), Lib.hid (by have := HM.out; have := HMM.out; omega), Lib.hid (Kn.Rw.move (fun q hq => place_far _ _ _ (by have := HO2.out q hq; omega)) (fun _ h => h.elim) (HR5.out.below (hb6 : Below w5.heap.size w5.drew _))), HO2, Lib.hid ⟨by omega, by rw [List.length_append, List.length_singleton]; omega⟩, Lib.hid (place_set _ _ _ HB6.out), place_below _ _ _ (hbV.drew.trans (hb6.mono (by show _ ≤ w5.heap.size; omega))) (Nat.le_refl _)⟩
    · have y0 := HX0.out.cell 0 rfl
      have y1 := HX0.out.cell 1 rfl
      have y2 := HX0.out.cell 2 rfl
      obtain ⟨a, ha⟩ : ∃ a, Hid (a = atOf n u (-1) far) := ⟨_, Lib.hid rfl⟩
      rw [← ha.out] at y1
      have ha2 : z1 - far ≤ a ∧ a ≤ z1 - far := by have := ha.out; unfold atOf at this; rw [if_neg (by decide), HP.out] at this; omega
      obtain ⟨ha3, ha4⟩ := ha2
      rcases Int.lt_trichotomy left (a) with hq | hq | hq
      · have d1 : decide (left < a) = true := decide_eq_true (by omega)
        have d3 : decide (0 < left) = true := decide_eq_true (by omega)
        have HT : Hid (tilOf n u far left = far + left) := Lib.hid (by unfold tilOf; rw [HP.out, if_pos (by omega)])
        obtain ⟨P, HPt⟩ : ∃ P, Hid (partN n u (-1) far (far + left) = P) := ⟨_, Lib.hid rfl⟩
        go_wp2_with fail
        refine (implLooked _ _ _).mono ?_
        rintro e w1 ⟨rfl, hb1⟩
        rw [HE.out]
        obtain ⟨c0', c1', c2', c3', c4', c5', c6'⟩ : w1.cell? ⟨w.heap.size, 0, none⟩ = some (.slice (some ad) n.pieces.length c0) ∧ w1.cell? ⟨w.heap.size, 1, none⟩ = some (.slice A1 n.joints.length c1) ∧ w1.cell? ⟨w.heap.size + 1, 0, none⟩ = some (.int .i64 u) ∧ w1.cell? ⟨w.heap.size + 1, 1, none⟩ = some (.int .i64 (a)) ∧ w1.cell? ⟨w.heap.size + 1, 2, none⟩ = some (.int .i64 (-1)) ∧ w.heap.size < w1.heap.size ∧ w.heap.size + 1 < w1.heap.size :=
          ⟨cell_below hb1 q0, cell_below hb1 q1, cell_below hb1 y0, cell_below hb1 y1, cell_below hb1 y2, by have := hb1.size; omega, by have := hb1.size; omega⟩
        have l9 := cell_below hb1 g1
        have l8 : (ad.add (u * 4)).block < w1.heap.size := World.block_lt_of_cell? w1 ⟨(ad.add (u * 4)).block, (ad.add (u * 4)).off + 1, none⟩ l9
        go_wp2_with fail
        obtain ⟨W1, hW1, hBB, hEB, hs2⟩ : ∃ W, W = w1.alloc (.cells #[.int .i64 e0.piece, .int .i64 e0.side] 136) ∧ Below wr.heap.size wr W ∧ Hid (Blk W w1.heap.size 136 [.int .i64 e0.piece, .int .i64 e0.side]) ∧ w1.heap.size < W.heap.size := ⟨_, rfl, hb1.alloc hb1.size _, Lib.hid (Blk.new _ _ _ rfl), by simp⟩
        rw [← hW1]
        clear hW1 c0' c1' c2' c3' c4' c5' c6' l8 l9
        refine (partOf_q (P := P) (by rw [← HPt.out, partN_back, HP.out]; congr 1 <;> omega)).mono ?_
        rintro e w2 ⟨rfl, hb2⟩
        have hbx := hBB.trans (hb2.mono hBB.size)
        have hbo := hb1.size
        have HR1 := Lib.hid ((HR.out.below hbx).below (below_alloc w2 (.cells #[.int .i64 P.piece, .int .i64 P.frm, .int .i64 P.til] 128)))
        clear g0 g1 g2 g3 HR q0 q1 y0 y1 y2
        go_wp2_with (at_builtin; refine wpList_append_rw _ rfl (.tmp 42) (.tmp 55) 77 rfl 128 i0 _ 24 Tryz.underlying77 hi hz0 hz1 hz2 rfl (by decide) (.slice Ao acc.length co) acc [P] rfl HR1.out (fun _ h => h.elim) (some ⟨w2.heap.size, 0, none⟩) 1 1 rfl rfl (Kn.Src.one (partK_mk _ _ P) (new_cells _ _ _ rfl)) a63 aby ?_; intro v' w3 HR2 hg2 hat2; obtain ⟨A2, c2, rfl, hc2⟩ := HR2.form1; obtain ⟨b0, b1, b2, b3, b4, b5⟩ := behind_cells hb hbo hBB hb2 hg2 HO.out HOL.out hEB.out HX0.out hs1; have u0 : w3.cell? ⟨w.heap.size, 0, none⟩ = some (.slice (some ad) n.pieces.length c0) := (b0.cell (p := ⟨w.heap.size, 0, none⟩) (by simp)).trans f0; have u1 : w3.cell? ⟨w.heap.size, 1, none⟩ = some (.slice A1 n.joints.length c1) := (b0.cell (p := ⟨w.heap.size, 1, none⟩) (by simp)).trans f1; have v0 := b1.cell 0 rfl; have v1 := b1.cell 1 rfl; have hs4 : w.heap.size < w3.heap.size := by omega)
        have HO2 := Lib.hid (own_next HO.out hat2 (by rw [size_alloc]; omega))
        have HR2 := Lib.hid HR2
        have HB2 := Lib.hid b2
        have hbW := HB0.trans (b0.mono (by omega : w.heap.size ≤ w.heap.size + 1))
        clear hg2 hat2 hbx hBB hb2 HR1 hb1 hEB HO HOL b1 b2 hbo hsr0 hsr1 b5 hs2
        refine (implAt n (some ad) A1 c0 c1 e0 _ (h.below hbW) hg HEO).mono ?_
        rintro e w4 ⟨rfl, hb4⟩
        rw [HA.out]
        have hbY := b0.trans (hb4.mono (by omega))
        have hbZ := HB0.trans (hbY.mono (by omega : w.heap.size ≤ w.heap.size + 1))
        obtain ⟨a1, rfl, y, E1, A3, c3, r0, r1, r2, l2, C2⟩ := jointK_at (Kn.C_below hbZ h.j) j hjl
        have hy := HAT.out.1.symm.trans E1.out
        injection hy with hy
        subst hy
        have hme := C2.1
        have u2 := cell_below hb4 u0
        have u3 := cell_below hb4 u1
        have v2 := cell_below hb4 v0
        have v3 := cell_below hb4 v1
        have HR4 := Lib.hid (HR2.out.below hb4)
        have HB4 := Lib.hid (HB2.out.below hb4 (by omega))
        have hs5 : w.heap.size < w4.heap.size := by have := hb4.size; omega
        have hs6 : w1.heap.size < w4.heap.size := by have := hb4.size; omega
        have hs9 : w.heap.size + 1 < w4.heap.size := by have := hb4.size; omega
        clear u0 u1 v0 v1 HR2 HB2 b3 b4 hs4
        by_cases hk : x.kind = 2
        rotate_left
        · have d4 : (x.kind != 2) = true := int_net hk
          have HEN : Hid (acc ++ [P] = goal) := Lib.hid (by have := beyond_end HB.out HM.out (by omega) HAH.out HX.out (.inr hk); rw [HT.out, HPt.out] at this; exact this)
          clear hk
          go_wp2
          go_ret
          exact ⟨_, rfl, by rw [← HEN.out]; exact HR4.out, fun b hb => by have := HO2.out b hb; omega, hbZ⟩
        have d4 : (x.kind != 2) = false := int_nef hk
        have hlen2 : x.ends.length = 2 := by have := HJP.out.2.1; omega
        obtain ⟨m', hmm, hsp⟩ := beyond_spl HB.out HM.out (by omega) HAH.out HX.out hk
        rw [HT.out, HPt.out] at hsp
        have HSP := Lib.hid hsp
        have HMM := Lib.hid hmm
        have HEK : Hid (endP n.pieces.length (en x (1 - k))) := Lib.hid (en_ok HJP.out (by omega))
        obtain ⟨u', s', HEN⟩ : ∃ (u' : Nat) (s' : Int), Hid (en x (1 - k) = ⟨u', s'⟩) := ⟨(en x (1 - k)).piece.toNat, (en x (1 - k)).side, Lib.hid (by have := HEK.out.1.1; rw [Int.toNat_of_nonneg this])⟩
        have hu' : u' < n.pieces.length := by have := HEK.out; rw [HEN.out] at this; obtain ⟨⟨b1, b2⟩, b3, b4⟩ := this; simp only at b1 b2 b3 b4; omega
        have HEE : Hid (endP n.pieces.length ⟨u', s'⟩) := Lib.hid (by rw [← HEN.out]; exact HEK.out)
        have HPL : Hid (0 < pl n u') := Lib.hid (by have := pl_in hg.out (p := (u' : Int)) (by omega) (by omega); omega)
        have HXS : Hid (across (jt n (atJ n e0).1) (atJ n e0).2 = [⟨u', s'⟩] ∧ howOf (jt n (atJ n e0).1) (atJ n e0).2 = [0]) := Lib.hid (by rw [HA.out]; simp only; rw [HX.out, across_plain hk, how_plain hk, HEN.out]; exact ⟨rfl, rfl⟩)
        clear hk hlen2 hmm hsp r1 r2
        go_wp2_with fail
        refine (implOver n (some ad) (some a1) c0 c1 e0 _ (h.below hbZ) hg HEO).mono ?_
        rintro e w5 hov
        obtain ⟨Al, cl, Bl, dl, rfl, hcl, hAl, hBl, hb5⟩ := hov.to HXS.out.1 HXS.out.2
        obtain ⟨al, rfl, t0, t1, t2⟩ := endC_head hAl
        have hbV := hbY.trans (hb5.mono (by omega : w.heap.size + 1 ≤ w4.heap.size))
        have hbU := HB0.trans (hbV.mono (by omega : w.heap.size ≤ w.heap.size + 1))
        have u4 := cell_below hb5 u2
        have u5 := cell_below hb5 u3
        have HB5 := Lib.hid (HB4.out.below hb5 (by omega))
        have HR5 := Lib.hid (HR4.out.below hb5)
        have hs7 : w.heap.size < w5.heap.size := by have := hb5.size; omega
        have hs8 : w.heap.size + 1 < w5.heap.size := by have := hb5.size; omega
        have z7 := HB5.out.cell 0 rfl
        have z8 := HB5.out.cell 1 rfl
        have z9 := HB5.out.cell 2 rfl
        have z4 := HB5.out.frozen 0
        have z5 := HB5.out.frozen 1
        have z6 := HB5.out.frozen 2
        clear u2 u3 v2 v3 r0 HB4 HR4 hs5 hs6 hov hb4 C2 E1
        simp only [List.length_singleton]
        go_wp2_with fail
        go_region_with ((go_at_call 133; go_loud ((with_reducible refine (implEnter n _ (some ad) c0 ⟨u', s'⟩ _ (C_dr (Kn.C_below hbU h.p)) hg HEE.out).mono ?_); rintro e w6 ⟨rfl, hb6⟩; have B6 := (Blk_drew HB5.out).below hb6 hs8; have z7 := B6.cell 0 rfl; have z8 := B6.cell 1 rfl; have z9 := B6.cell 2 rfl; have z4 := B6.frozen 0; have z5 := B6.frozen 1; have z6 := B6.frozen 2; have hs9 : w.heap.size + 1 < w6.heap.size := B6.lt; have HB6 := Lib.hid B6; clear B6)))
        all_goals go_wp2
        all_goals go_roundw
        all_goals first | (simp [intOf]; omega) | exact ⟨m', u', wayOf ⟨u', s'⟩, 0, 0, acc ++ [P], by first | rfl | go_num, hu', by omega, by omega, Lib.hid (step_of_end HEE.out).2, HPL, Lib.hid (by have := HSP.out; rw [HEN.out, show left - ((far + left) - far) = 0 by omega] at this; exact this), Lib.hid (by have := HM.out; have := HMM.out; omega), Lib.hid (Kn.Rw.move (fun q hq => place_far _ _ _ (by have := HO2.out q hq; omega)) (fun _ h => h.elim) (HR5.out.below (hb6 : Below w5.heap.size w5.drew _))), HO2, Lib.hid ⟨by omega, by rw [List.length_append, List.length_singleton]; omega⟩, Lib.hid (place_set _ _ _ HB6.out), place_below _ _ _ (hbV.drew.trans (hb6.mono (by show _ ≤ w5.heap.size; omega))) (Nat.le_refl _)⟩
      · have hq1 : left ≤ a := by omega
        have hq2 : a ≤ left := by omega
        clear hq
        have d1 : decide (left < a) = false := decide_eq_false (by omega)
        have d3 : decide (0 < a) = true := decide_eq_true (by omega)
        have HT : Hid (tilOf n u far left = far + left) := Lib.hid (by unfold tilOf; rw [HP.out, if_pos (by omega)])
        obtain ⟨P, HPt⟩ : ∃ P, Hid (partN n u (-1) far (far + left) = P) := ⟨_, Lib.hid rfl⟩
        go_wp2_with fail
        refine (implLooked _ _ _).mono ?_
        rintro e w1 ⟨rfl, hb1⟩
        rw [HE.out]
        obtain ⟨c0', c1', c2', c3', c4', c5', c6'⟩ : w1.cell? ⟨w.heap.size, 0, none⟩ = some (.slice (some ad) n.pieces.length c0) ∧ w1.cell? ⟨w.heap.size, 1, none⟩ = some (.slice A1 n.joints.length c1) ∧ w1.cell? ⟨w.heap.size + 1, 0, none⟩ = some (.int .i64 u) ∧ w1.cell? ⟨w.heap.size + 1, 1, none⟩ = some (.int .i64 (a)) ∧ w1.cell? ⟨w.heap.size + 1, 2, none⟩ = some (.int .i64 (-1)) ∧ w.heap.size < w1.heap.size ∧ w.heap.size + 1 < w1.heap.size :=
          ⟨cell_below hb1 q0, cell_below hb1 q1, cell_below hb1 y0, cell_below hb1 y1, cell_below hb1 y2, by have := hb1.size; omega, by have := hb1.size; omega⟩
        have l9 := cell_below hb1 g1
        have l8 : (ad.add (u * 4)).block < w1.heap.size := World.block_lt_of_cell? w1 ⟨(ad.add (u * 4)).block, (ad.add (u * 4)).off + 1, none⟩ l9
        go_wp2_with fail
        obtain ⟨W1, hW1, hBB, hEB, hs2⟩ : ∃ W, W = w1.alloc (.cells #[.int .i64 e0.piece, .int .i64 e0.side] 136) ∧ Below wr.heap.size wr W ∧ Hid (Blk W w1.heap.size 136 [.int .i64 e0.piece, .int .i64 e0.side]) ∧ w1.heap.size < W.heap.size := ⟨_, rfl, hb1.alloc hb1.size _, Lib.hid (Blk.new _ _ _ rfl), by simp⟩
        rw [← hW1]
        clear hW1 c0' c1' c2' c3' c4' c5' c6' l8 l9
        refine (partOf_q (P := P) (by rw [← HPt.out, partN_back, HP.out]; congr 1 <;> omega)).mono ?_
        rintro e w2 ⟨rfl, hb2⟩
        have hbx := hBB.trans (hb2.mono hBB.size)
        have hbo := hb1.size
        have HR1 := Lib.hid ((HR.out.below hbx).below (below_alloc w2 (.cells #[.int .i64 P.piece, .int .i64 P.frm, .int .i64 P.til] 128)))
        clear g0 g1 g2 g3 HR q0 q1 y0 y1 y2
        go_wp2_with (at_builtin; refine wpList_append_rw _ rfl (.tmp 42) (.tmp 55) 77 rfl 128 i0 _ 24 Tryz.underlying77 hi hz0 hz1 hz2 rfl (by decide) (.slice Ao acc.length co) acc [P] rfl HR1.out (fun _ h => h.elim) (some ⟨w2.heap.size, 0, none⟩) 1 1 rfl rfl (Kn.Src.one (partK_mk _ _ P) (new_cells _ _ _ rfl)) a63 aby ?_; intro v' w3 HR2 hg2 hat2; obtain ⟨A2, c2, rfl, hc2⟩ := HR2.form1; obtain ⟨b0, b1, b2, b3, b4, b5⟩ := behind_cells hb hbo hBB hb2 hg2 HO.out HOL.out hEB.out HX0.out hs1; have u0 : w3.cell? ⟨w.heap.size, 0, none⟩ = some (.slice (some ad) n.pieces.length c0) := (b0.cell (p := ⟨w.heap.size, 0, none⟩) (by simp)).trans f0; have u1 : w3.cell? ⟨w.heap.size, 1, none⟩ = some (.slice A1 n.joints.length c1) := (b0.cell (p := ⟨w.heap.size, 1, none⟩) (by simp)).trans f1; have v0 := b1.cell 0 rfl; have v1 := b1.cell 1 rfl; have hs4 : w.heap.size < w3.heap.size := by omega)
        have HO2 := Lib.hid (own_next HO.out hat2 (by rw [size_alloc]; omega))
        have HR2 := Lib.hid HR2
        have HB2 := Lib.hid b2
        have hbW := HB0.trans (b0.mono (by omega : w.heap.size ≤ w.heap.size + 1))
        clear hg2 hat2 hbx hBB hb2 HR1 hb1 hEB HO HOL b1 b2 hbo hsr0 hsr1 b5 hs2
        refine (implAt n (some ad) A1 c0 c1 e0 _ (h.below hbW) hg HEO).mono ?_
        rintro e w4 ⟨rfl, hb4⟩
        rw [HA.out]
        have hbY := b0.trans (hb4.mono (by omega))
        have hbZ := HB0.trans (hbY.mono (by omega : w.heap.size ≤ w.heap.size + 1))
        obtain ⟨a1, rfl, y, E1, A3, c3, r0, r1, r2, l2, C2⟩ := jointK_at (Kn.C_below hbZ h.j) j hjl
        have hy := HAT.out.1.symm.trans E1.out
        injection hy with hy
        subst hy
        have hme := C2.1
        have u2 := cell_below hb4 u0
        have u3 := cell_below hb4 u1
        have v2 := cell_below hb4 v0
        have v3 := cell_below hb4 v1
        have HR4 := Lib.hid (HR2.out.below hb4)
        have HB4 := Lib.hid (HB2.out.below hb4 (by omega))
        have hs5 : w.heap.size < w4.heap.size := by have := hb4.size; omega
        have hs6 : w1.heap.size < w4.heap.size := by have := hb4.size; omega
        have hs9 : w.heap.size + 1 < w4.heap.size := by have := hb4.size; omega
        clear u0 u1 v0 v1 HR2 HB2 b3 b4 hs4
        by_cases hk : x.kind = 2
        rotate_left
        · have d4 : (x.kind != 2) = true := int_net hk
          have HEN : Hid (acc ++ [P] = goal) := Lib.hid (by have := beyond_end HB.out HM.out (by omega) HAH.out HX.out (.inr hk); rw [HT.out, HPt.out] at this; exact this)
          clear hk
          go_wp2
          go_ret
          exact ⟨_, rfl, by rw [← HEN.out]; exact HR4.out, fun b hb => by have := HO2.out b hb; omega, hbZ⟩
        have d4 : (x.kind != 2) = false := int_nef hk
        have hlen2 : x.ends.length = 2 := by have := HJP.out.2.1; omega
        obtain ⟨m', hmm, hsp⟩ := beyond_spl HB.out HM.out (by omega) HAH.out HX.out hk
        rw [HT.out, HPt.out] at hsp
        have HSP := Lib.hid hsp
        have HMM := Lib.hid hmm
        have HEK : Hid (endP n.pieces.length (en x (1 - k))) := Lib.hid (en_ok HJP.out (by omega))
        obtain ⟨u', s', HEN⟩ : ∃ (u' : Nat) (s' : Int), Hid (en x (1 - k) = ⟨u', s'⟩) := ⟨(en x (1 - k)).piece.toNat, (en x (1 - k)).side, Lib.hid (by have := HEK.out.1.1; rw [Int.toNat_of_nonneg this])⟩
        have hu' : u' < n.pieces.length := by have := HEK.out; rw [HEN.out] at this; obtain ⟨⟨b1, b2⟩, b3, b4⟩ := this; simp only at b1 b2 b3 b4; omega
        have HEE : Hid (endP n.pieces.length ⟨u', s'⟩) := Lib.hid (by rw [← HEN.out]; exact HEK.out)
        have HPL : Hid (0 < pl n u') := Lib.hid (by have := pl_in hg.out (p := (u' : Int)) (by omega) (by omega); omega)
        have HXS : Hid (across (jt n (atJ n e0).1) (atJ n e0).2 = [⟨u', s'⟩] ∧ howOf (jt n (atJ n e0).1) (atJ n e0).2 = [0]) := Lib.hid (by rw [HA.out]; simp only; rw [HX.out, across_plain hk, how_plain hk, HEN.out]; exact ⟨rfl, rfl⟩)
        clear hk hlen2 hmm hsp r1 r2
        go_wp2_with fail
        refine (implOver n (some ad) (some a1) c0 c1 e0 _ (h.below hbZ) hg HEO).mono ?_
        rintro e w5 hov
        obtain ⟨Al, cl, Bl, dl, rfl, hcl, hAl, hBl, hb5⟩ := hov.to HXS.out.1 HXS.out.2
        obtain ⟨al, rfl, t0, t1, t2⟩ := endC_head hAl
        have hbV := hbY.trans (hb5.mono (by omega : w.heap.size + 1 ≤ w4.heap.size))
        have hbU := HB0.trans (hbV.mono (by omega : w.heap.size ≤ w.heap.size + 1))
        have u4 := cell_below hb5 u2
        have u5 := cell_below hb5 u3
        have HB5 := Lib.hid (HB4.out.below hb5 (by omega))
        have HR5 := Lib.hid (HR4.out.below hb5)
        have hs7 : w.heap.size < w5.heap.size := by have := hb5.size; omega
        have hs8 : w.heap.size + 1 < w5.heap.size := by have := hb5.size; omega
        have z7 := HB5.out.cell 0 rfl
        have z8 := HB5.out.cell 1 rfl
        have z9 := HB5.out.cell 2 rfl
        have z4 := HB5.out.frozen 0
        have z5 := HB5.out.frozen 1
        have z6 := HB5.out.frozen 2
        clear u2 u3 v2 v3 r0 HB4 HR4 hs5 hs6 hov hb4 C2 E1
        simp only [List.length_singleton]
        go_wp2_with fail
        go_region_with ((go_at_call 133; go_loud ((with_reducible refine (implEnter n _ (some ad) c0 ⟨u', s'⟩ _ (C_dr (Kn.C_below hbU h.p)) hg HEE.out).mono ?_); rintro e w6 ⟨rfl, hb6⟩; have B6 := (Blk_drew HB5.out).below hb6 hs8; have z7 := B6.cell 0 rfl; have z8 := B6.cell 1 rfl; have z9 := B6.cell 2 rfl; have z4 := B6.frozen 0; have z5 := B6.frozen 1; have z6 := B6.frozen 2; have hs9 : w.heap.size + 1 < w6.heap.size := B6.lt; have HB6 := Lib.hid B6; clear B6)))
        all_goals go_wp2
        all_goals go_roundw
        all_goals first | (simp [intOf]; omega) | exact ⟨m', u', wayOf ⟨u', s'⟩, 0, left - (a), acc ++ [P], by first | rfl | go_num, hu', by omega, by omega, Lib.hid (step_of_end HEE.out).2, HPL, Lib.hid (by have := HSP.out; rw [HEN.out, show left - ((far + left) - far) = left - (a) by omega] at this; exact this), Lib.hid (by have := HM.out; have := HMM.out; omega), Lib.hid (Kn.Rw.move (fun q hq => place_far _ _ _ (by have := HO2.out q hq; omega)) (fun _ h => h.elim) (HR5.out.below (hb6 : Below w5.heap.size w5.drew _))), HO2, Lib.hid ⟨by omega, by rw [List.length_append, List.length_singleton]; omega⟩, Lib.hid (place_set _ _ _ HB6.out), place_below _ _ _ (hbV.drew.trans (hb6.mono (by show _ ≤ w5.heap.size; omega))) (Nat.le_refl _)⟩
      · have d1 : decide (left < a) = false := decide_eq_false (by omega)
        have d3 : decide (0 < a) = true := decide_eq_true (by omega)
        have HT : Hid (tilOf n u far left = z1) := Lib.hid (by unfold tilOf; rw [HP.out, if_neg (by omega)])
        obtain ⟨P, HPt⟩ : ∃ P, Hid (partN n u (-1) far (z1) = P) := ⟨_, Lib.hid rfl⟩
        go_wp2_with fail
        refine (implLooked _ _ _).mono ?_
        rintro e w1 ⟨rfl, hb1⟩
        rw [HE.out]
        obtain ⟨c0', c1', c2', c3', c4', c5', c6'⟩ : w1.cell? ⟨w.heap.size, 0, none⟩ = some (.slice (some ad) n.pieces.length c0) ∧ w1.cell? ⟨w.heap.size, 1, none⟩ = some (.slice A1 n.joints.length c1) ∧ w1.cell? ⟨w.heap.size + 1, 0, none⟩ = some (.int .i64 u) ∧ w1.cell? ⟨w.heap.size + 1, 1, none⟩ = some (.int .i64 (a)) ∧ w1.cell? ⟨w.heap.size + 1, 2, none⟩ = some (.int .i64 (-1)) ∧ w.heap.size < w1.heap.size ∧ w.heap.size + 1 < w1.heap.size :=
          ⟨cell_below hb1 q0, cell_below hb1 q1, cell_below hb1 y0, cell_below hb1 y1, cell_below hb1 y2, by have := hb1.size; omega, by have := hb1.size; omega⟩
        have l9 := cell_below hb1 g1
        have l8 : (ad.add (u * 4)).block < w1.heap.size := World.block_lt_of_cell? w1 ⟨(ad.add (u * 4)).block, (ad.add (u * 4)).off + 1, none⟩ l9
        go_wp2_with fail
        obtain ⟨W1, hW1, hBB, hEB, hs2⟩ : ∃ W, W = w1.alloc (.cells #[.int .i64 e0.piece, .int .i64 e0.side] 136) ∧ Below wr.heap.size wr W ∧ Hid (Blk W w1.heap.size 136 [.int .i64 e0.piece, .int .i64 e0.side]) ∧ w1.heap.size < W.heap.size := ⟨_, rfl, hb1.alloc hb1.size _, Lib.hid (Blk.new _ _ _ rfl), by simp⟩
        rw [← hW1]
        clear hW1 c0' c1' c2' c3' c4' c5' c6' l8 l9
        refine (partOf_q (P := P) (by rw [← HPt.out, partN_back, HP.out]; congr 1 <;> omega)).mono ?_
        rintro e w2 ⟨rfl, hb2⟩
        have hbx := hBB.trans (hb2.mono hBB.size)
        have hbo := hb1.size
        have HR1 := Lib.hid ((HR.out.below hbx).below (below_alloc w2 (.cells #[.int .i64 P.piece, .int .i64 P.frm, .int .i64 P.til] 128)))
        clear g0 g1 g2 g3 HR q0 q1 y0 y1 y2
        go_wp2_with (at_builtin; refine wpList_append_rw _ rfl (.tmp 42) (.tmp 55) 77 rfl 128 i0 _ 24 Tryz.underlying77 hi hz0 hz1 hz2 rfl (by decide) (.slice Ao acc.length co) acc [P] rfl HR1.out (fun _ h => h.elim) (some ⟨w2.heap.size, 0, none⟩) 1 1 rfl rfl (Kn.Src.one (partK_mk _ _ P) (new_cells _ _ _ rfl)) a63 aby ?_; intro v' w3 HR2 hg2 hat2; obtain ⟨A2, c2, rfl, hc2⟩ := HR2.form1; obtain ⟨b0, b1, b2, b3, b4, b5⟩ := behind_cells hb hbo hBB hb2 hg2 HO.out HOL.out hEB.out HX0.out hs1; have u0 : w3.cell? ⟨w.heap.size, 0, none⟩ = some (.slice (some ad) n.pieces.length c0) := (b0.cell (p := ⟨w.heap.size, 0, none⟩) (by simp)).trans f0; have u1 : w3.cell? ⟨w.heap.size, 1, none⟩ = some (.slice A1 n.joints.length c1) := (b0.cell (p := ⟨w.heap.size, 1, none⟩) (by simp)).trans f1; have v0 := b1.cell 0 rfl; have v1 := b1.cell 1 rfl; have hs4 : w.heap.size < w3.heap.size := by omega)
        have HO2 := Lib.hid (own_next HO.out hat2 (by rw [size_alloc]; omega))
        have HR2 := Lib.hid HR2
        have HB2 := Lib.hid b2
        have hbW := HB0.trans (b0.mono (by omega : w.heap.size ≤ w.heap.size + 1))
        clear hg2 hat2 hbx hBB hb2 HR1 hb1 hEB HO HOL b1 b2 hbo hsr0 hsr1 b5 hs2
        refine (implAt n (some ad) A1 c0 c1 e0 _ (h.below hbW) hg HEO).mono ?_
        rintro e w4 ⟨rfl, hb4⟩
        rw [HA.out]
        have hbY := b0.trans (hb4.mono (by omega))
        have hbZ := HB0.trans (hbY.mono (by omega : w.heap.size ≤ w.heap.size + 1))
        obtain ⟨a1, rfl, y, E1, A3, c3, r0, r1, r2, l2, C2⟩ := jointK_at (Kn.C_below hbZ h.j) j hjl
        have hy := HAT.out.1.symm.trans E1.out
        injection hy with hy
        subst hy
        have hme := C2.1
        have u2 := cell_below hb4 u0
        have u3 := cell_below hb4 u1
        have v2 := cell_below hb4 v0
        have v3 := cell_below hb4 v1
        have HR4 := Lib.hid (HR2.out.below hb4)
        have HB4 := Lib.hid (HB2.out.below hb4 (by omega))
        have hs5 : w.heap.size < w4.heap.size := by have := hb4.size; omega
        have hs6 : w1.heap.size < w4.heap.size := by have := hb4.size; omega
        have hs9 : w.heap.size + 1 < w4.heap.size := by have := hb4.size; omega
        clear u0 u1 v0 v1 HR2 HB2 b3 b4 hs4
        by_cases hk : x.kind = 2
        rotate_left
        · have d4 : (x.kind != 2) = true := int_net hk
          have HEN : Hid (acc ++ [P] = goal) := Lib.hid (by have := beyond_end HB.out HM.out (by omega) HAH.out HX.out (.inr hk); rw [HT.out, HPt.out] at this; exact this)
          clear hk
          go_wp2
          go_ret
          exact ⟨_, rfl, by rw [← HEN.out]; exact HR4.out, fun b hb => by have := HO2.out b hb; omega, hbZ⟩
        have d4 : (x.kind != 2) = false := int_nef hk
        have hlen2 : x.ends.length = 2 := by have := HJP.out.2.1; omega
        obtain ⟨m', hmm, hsp⟩ := beyond_spl HB.out HM.out (by omega) HAH.out HX.out hk
        rw [HT.out, HPt.out] at hsp
        have HSP := Lib.hid hsp
        have HMM := Lib.hid hmm
        have HEK : Hid (endP n.pieces.length (en x (1 - k))) := Lib.hid (en_ok HJP.out (by omega))
        obtain ⟨u', s', HEN⟩ : ∃ (u' : Nat) (s' : Int), Hid (en x (1 - k) = ⟨u', s'⟩) := ⟨(en x (1 - k)).piece.toNat, (en x (1 - k)).side, Lib.hid (by have := HEK.out.1.1; rw [Int.toNat_of_nonneg this])⟩
        have hu' : u' < n.pieces.length := by have := HEK.out; rw [HEN.out] at this; obtain ⟨⟨b1, b2⟩, b3, b4⟩ := this; simp only at b1 b2 b3 b4; omega
        have HEE : Hid (endP n.pieces.length ⟨u', s'⟩) := Lib.hid (by rw [← HEN.out]; exact HEK.out)
        have HPL : Hid (0 < pl n u') := Lib.hid (by have := pl_in hg.out (p := (u' : Int)) (by omega) (by omega); omega)
        have HXS : Hid (across (jt n (atJ n e0).1) (atJ n e0).2 = [⟨u', s'⟩] ∧ howOf (jt n (atJ n e0).1) (atJ n e0).2 = [0]) := Lib.hid (by rw [HA.out]; simp only; rw [HX.out, across_plain hk, how_plain hk, HEN.out]; exact ⟨rfl, rfl⟩)
        clear hk hlen2 hmm hsp r1 r2
        go_wp2_with fail
        refine (implOver n (some ad) (some a1) c0 c1 e0 _ (h.below hbZ) hg HEO).mono ?_
        rintro e w5 hov
        obtain ⟨Al, cl, Bl, dl, rfl, hcl, hAl, hBl, hb5⟩ := hov.to HXS.out.1 HXS.out.2
        obtain ⟨al, rfl, t0, t1, t2⟩ := endC_head hAl
        have hbV := hbY.trans (hb5.mono (by omega : w.heap.size + 1 ≤ w4.heap.size))
        have hbU := HB0.trans (hbV.mono (by omega : w.heap.size ≤ w.heap.size + 1))
        have u4 := cell_below hb5 u2
        have u5 := cell_below hb5 u3
        have HB5 := Lib.hid (HB4.out.below hb5 (by omega))
        have HR5 := Lib.hid (HR4.out.below hb5)
        have hs7 : w.heap.size < w5.heap.size := by have := hb5.size; omega
        have hs8 : w.heap.size + 1 < w5.heap.size := by have := hb5.size; omega
        have z7 := HB5.out.cell 0 rfl
        have z8 := HB5.out.cell 1 rfl
        have z9 := HB5.out.cell 2 rfl
        have z4 := HB5.out.frozen 0
        have z5 := HB5.out.frozen 1
        have z6 := HB5.out.frozen 2
        clear u2 u3 v2 v3 r0 HB4 HR4 hs5 hs6 hov hb4 C2 E1
        simp only [List.length_singleton]
        go_wp2_with fail
        go_region_with ((go_at_call 133; go_loud ((with_reducible refine (implEnter n _ (some ad) c0 ⟨u', s'⟩ _ (C_dr (Kn.C_below hbU h.p)) hg HEE.out).mono ?_); rintro e w6 ⟨rfl, hb6⟩; have B6 := (Blk_drew HB5.out).below hb6 hs8; have z7 := B6.cell 0 rfl; have z8 := B6.cell 1 rfl; have z9 := B6.cell 2 rfl; have z4 := B6.frozen 0; have z5 := B6.frozen 1; have z6 := B6.frozen 2; have hs9 : w.heap.size + 1 < w6.heap.size := B6.lt; have HB6 := Lib.hid B6; clear B6)))
        all_goals go_wp2
        all_goals go_roundw
        all_goals first | (simp [intOf]; omega) | exact ⟨m', u', wayOf ⟨u', s'⟩, 0, left - (a), acc ++ [P], by first | rfl | go_num, hu', by omega, by omega, Lib.hid (step_of_end HEE.out).2, HPL, Lib.hid (by have := HSP.out; rw [HEN.out, show left - ((z1) - far) = left - (a) by omega] at this; exact this), Lib.hid (by have := HM.out; have := HMM.out; omega), Lib.hid (Kn.Rw.move (fun q hq => place_far _ _ _ (by have := HO2.out q hq; omega)) (fun _ h => h.elim) (HR5.out.below (hb6 : Below w5.heap.size w5.drew _))), HO2, Lib.hid ⟨by omega, by rw [List.length_append, List.length_singleton]; omega⟩, Lib.hid (place_set _ _ _ HB6.out), place_below _ _ _ (hbV.drew.trans (hb6.mono (by show _ ≤ w5.heap.size; omega))) (Nat.le_refl _)⟩
end Go.Proofs.YtpggopdojhodaaaGreat.L
namespace Go.Proofs.YtpggopdojhodaaaGreat.L
open Go.RowKit
set_option linter.unusedVariables false
set_option linter.unusedSimpArgs false
theorem Rw_slice {α : Type} {d : Kn α} {e : Nat} {w : World} {ok : Nat → Prop} {A : Option Addr} {n c : Nat} {xs : List α} (h : d.Rw e w ok (.slice A n c) xs) : n = xs.length ∧ xs.length ≤ c ∧ d.C w (fun b => ok b ∨ (Value.slice A n c).ownBlock = some b) A xs := by
  obtain ⟨A', c', he, hc, hC⟩ := h.C
  injection he with h1 h2 h3
  subst h1
  subst h2
  subst h3
  exact ⟨rfl, hc, hC⟩
theorem one_across {x : Joint} {k : Nat} (q1 : ¬ x.kind = 1) (q3 : ¬ x.kind = 3) (h : 1 ≤ x.kind ∧ x.kind ≤ 4) : ∃ e, Hid (across x k = [e]) := by
  unfold across
  by_cases q2 : x.kind = 2
  · rw [if_pos q2]
    exact ⟨_, Lib.hid rfl⟩
  · rw [if_neg q2, if_neg q3, if_pos (by omega)]
    exact ⟨_, Lib.hid rfl⟩
theorem not_in_all {α : Type} {xs : List α} {k : Nat} {x : α} (h : ¬ inTo xs k x) (hk : xs.length ≤ k) : ¬ x ∈ xs := fun hm => by
  obtain ⟨j, hj⟩ := List.mem_iff_getElem?.1 hm
  exact h ⟨j, Nat.lt_of_lt_of_le (List.getElem?_eq_some_iff.1 hj).1 hk, hj⟩
theorem RetC.to {α : Type} {d : Kn α} {xs ys : List α} {w w' : World} {e : Ending} (h : RetC d xs w e w') (hx : xs = ys) : RetC d ys w e w' := by subst hx; exact h
theorem own_not {α : Type} {d : Kn α} {e t : Nat} {w : World} {ok : Nat → Prop} {v : Value} {xs : List α} {g : Nat} {cs : List Value} (h : d.Rw e w ok v xs) (hb : Blk w g t cs) (ht : t ≠ e) : ¬ v.ownBlock = some g := by
  intro hv
  obtain ⟨inner, ho, _⟩ := h
  rcases ho.2 with ⟨rfl, _⟩ | ⟨b, cap, cur, rfl, _, hh, _⟩
  · simp [Value.ownBlock] at hv
  · simp only [Value.ownBlock, Option.some.injEq] at hv
    subst hv
    unfold Blk at hb
    rw [hh] at hb
    injection hb with hb
    injection hb with _ hb _
    exact ht hb.symm
theorem own_apart {α β : Type} {d : Kn α} {d' : Kn β} {e e' : Nat} {w : World} {ok ok' : Nat → Prop} {v v' : Value} {xs : List α} {ys : List β} (h : d.Rw e w ok v xs) (h' : d'.Rw e' w ok' v' ys) (ht : e ≠ e') {b : Nat} (hv : v.ownBlock = some b) : ¬ v'.ownBlock = some b := by
  intro hv'
  obtain ⟨inner, ho, _⟩ := h
  obtain ⟨inner', ho', _⟩ := h'
  rcases ho.2 with ⟨rfl, _⟩ | ⟨b1, cap, cur, rfl, _, hh, _⟩
  · simp [Value.ownBlock] at hv
  rcases ho'.2 with ⟨rfl, _⟩ | ⟨b2, cap', cur', rfl, _, hh', _⟩
  · simp [Value.ownBlock] at hv'
  simp only [Value.ownBlock, Option.some.injEq] at hv hv'
  subst hv
  subst hv'
  rw [hh] at hh'
  injection hh' with hh'
  injection hh' with _ hh' _
  exact ht hh'
def FSet (g h : Nat) (vs vf : Value) (b : Nat) : Prop := b = g ∨ b = h ∨ vs.ownBlock = some b ∨ vf.ownBlock = some b
structure FS (tF tR eE eF : Nat) (w : World) (g h : Nat) (n : Net) (ss : List Signal) (lies : List Lie) (A0 A1 A2 A3 : Option Addr) (c0 c1 c2 c3 : Nat) (ov tr : Int) (vout v0 v1 v2 v4 v5 v6 vs vf : Value) (seen : List End) (fl : List Flank) : Prop where
  f : Blk w g tF (finder n A0 A1 c0 c1 (.slice A2 ss.length c2) ov vout tr vs)
  r : Blk w h tR [v0, v1, v2, .slice A3 lies.length c3, v4, v5, v6, vf]
  net : NC eE w (Out w (FSet g h vs vf)) n A0 A1
  sig : signalK.C w (Out w (FSet g h vs vf)) A2 ss
  lie : lieK.C w (Out w (FSet g h vs vf)) A3 lies
  sn : endK.Rw eE w nobody vs seen
  fn : flankK.Rw eF w nobody vf fl
theorem NC.keep {eE : Nat} {w w1 : World} {S S' : Nat → Prop} {x : Net} {A0 A1 : Option Addr} (hk : Keep S w w1) (hs : ∀ x, x < w.heap.size → S' x → S x) (h : NC eE w (Out w S) x A0 A1) : NC eE w1 (Out w1 S') x A0 A1 := ⟨Kn.C_keep hk hs h.p, Kn.C_keep hk hs h.j⟩
section
variable {tF tR eE eF : Nat} {w w1 w2 wa : World} {g h : Nat} {n : Net} {ss : List Signal} {lies : List Lie} {A0 A1 A2 A3 : Option Addr} {c0 c1 c2 c3 : Nat} {ov tr : Int} {vout v0 v1 v2 v4 v5 v6 vs vf v' : Value} {seen : List End} {fl : List Flank}
theorem FS.below (hb : Below w.heap.size w w1) (F : FS tF tR eE eF w g h n ss lies A0 A1 A2 A3 c0 c1 c2 c3 ov tr vout v0 v1 v2 v4 v5 v6 vs vf seen fl) : FS tF tR eE eF w1 g h n ss lies A0 A1 A2 A3 c0 c1 c2 c3 ov tr vout v0 v1 v2 v4 v5 v6 vs vf seen fl :=
  ⟨F.f.below hb F.f.lt, F.r.below hb F.r.lt, F.net.keep (Keep.of_below hb) (fun _ _ h => h), Kn.C_keep (Keep.of_below hb) (fun _ _ h => h) F.sig, Kn.C_keep (Keep.of_below hb) (fun _ _ h => h) F.lie, F.sn.below hb, F.fn.below hb⟩
def Nx (v v' : Value) (s : Nat) : Prop := ∀ b, v'.ownBlock = some b → v.ownBlock = some b ∨ s ≤ b
theorem Nx.refl (v : Value) (s : Nat) : Nx v v s := fun b hb => .inl hb
theorem Nx.trans {a b c : Value} {s s' : Nat} (h : Nx a b s) (k : Nx b c s') (hs : s ≤ s') : Nx a c s := fun x hx => by
  rcases k x hx with hx | hx
  · exact h x hx
  · exact .inr (Nat.le_trans hs hx)
theorem Nx.mono {a b : Value} {s s' : Nat} (h : Nx a b s) (hs : s' ≤ s) : Nx a b s' := fun x hx => by
  rcases h x hx with hx | hx
  · exact .inl hx
  · exact .inr (Nat.le_trans hs hx)
theorem Nx.of {v v' : Value} {s : Nat} (h : v'.ownBlock = v.ownBlock ∨ v'.ownBlock = some s) : Nx v v' s := fun b hb => by
  rcases h with h | h
  · exact .inl (by rw [← h]; exact hb)
  · rw [h] at hb
    injection hb with hb
    exact .inr (Nat.le_of_eq hb)
theorem FS.more (F : FS tF tR eE eF w g h n ss lies A0 A1 A2 A3 c0 c1 c2 c3 ov tr vout v0 v1 v2 v4 v5 v6 vs vf seen fl) (t1 : tF ≠ eE) (t2 : tF ≠ eF) (t3 : tR ≠ eE) (t4 : eE ≠ eF) (t5 : tF ≠ tR) (t6 : tR ≠ eF) (hb : Below w.heap.size w wa) (hg : wa.grownBy w2 vs.ownBlock) {e : End} (hR : endK.Rw eE w2 nobody v' (seen ++ [e])) (ha : v'.ownBlock = vs.ownBlock ∨ v'.ownBlock = some wa.heap.size) :
    FS tF tR eE eF (w2.setCell ⟨g, 6, none⟩ v') g h n ss lies A0 A1 A2 A3 c0 c1 c2 c3 ov tr vout v0 v1 v2 v4 v5 v6 v' vf (seen ++ [e]) fl ∧ Keep (FSet g h vs vf) w (w2.setCell ⟨g, 6, none⟩ v') ∧ Nx vs v' w.heap.size := by
  have hk : Keep (FSet g h vs vf) w w2 := (Keep.of_below hb).grown hg (fun k hk _ => .inr (.inr (.inl hk)))
  have hgl := F.f.lt
  have hgh : g ≠ h := fun e => by
    have h1 := F.f
    have h2 := F.r
    subst e
    unfold Blk at h1 h2
    rw [h1] at h2
    injection h2 with h2
    injection h2 with _ h2 _
    exact t5 h2
  have hf2 : Blk w2 g tF (finder n A0 A1 c0 c1 (.slice A2 ss.length c2) ov vout tr vs) := (hg.block g (Nat.lt_of_lt_of_le hgl hb.size) (fun e => own_not F.sn F.f t1 e.symm)).trans (F.f.below hb hgl)
  have hr2 : Blk w2 h tR [v0, v1, v2, .slice A3 lies.length c3, v4, v5, v6, vf] := (hg.block h (Nat.lt_of_lt_of_le F.r.lt hb.size) (fun e => own_not F.sn F.r t3 e.symm)).trans (F.r.below hb F.r.lt)
  have hk2 : Keep (FSet g h vs vf) w (w2.setCell ⟨g, 6, none⟩ v') := hk.setCell (fun _ => .inl rfl) v'
  have hnx : Nx vs v' w.heap.size := (Nx.of ha).mono hb.size
  have hs : ∀ x, x < w.heap.size → FSet g h v' vf x → FSet g h vs vf x := fun x hx hm => by
    rcases hm with hm | hm | hm | hm
    · exact .inl hm
    · exact .inr (.inl hm)
    · rcases hnx x hm with hm | hm
      · exact .inr (.inr (.inl hm))
      · omega
    · exact .inr (.inr (.inr hm))
  have hR2 : endK.Rw eE (w2.setCell ⟨g, 6, none⟩ v') nobody v' (seen ++ [e]) := Kn.Rw.move (fun k hk => Below.heap_setCell _ _ _ _ (fun e => own_not hR hf2 t1 (by rw [← show k = g from e]; exact hk))) (fun _ h => h.elim) hR
  have hfn : flankK.Rw eF (w2.setCell ⟨g, 6, none⟩ v') nobody vf fl := Kn.Rw.move (fun k hkk => by
    have hlt := F.fn.lt k hkk
    rw [Below.heap_setCell _ _ _ _ (fun e => own_not F.fn F.f t2 (by rw [← show k = g from e]; exact hkk)), hg.block k (Nat.lt_of_lt_of_le hlt hb.size) (fun e => own_apart F.sn F.fn t4 e.symm hkk), hb.block k hlt]) (fun _ h => h.elim) F.fn
  exact ⟨⟨hf2.set_ 6 v', hr2.far (p := ⟨g, 6, none⟩) (fun e => hgh e.symm) v', F.net.keep hk2 hs, Kn.C_keep hk2 hs F.sig, Kn.C_keep hk2 hs F.lie, hR2, hfn⟩, hk2, hnx⟩
theorem FS.found (F : FS tF tR eE eF w g h n ss lies A0 A1 A2 A3 c0 c1 c2 c3 ov tr vout v0 v1 v2 v4 v5 v6 vs vf seen fl) (t1 : tF ≠ eE) (t2 : tF ≠ eF) (t3 : tR ≠ eE) (t4 : eE ≠ eF) (t5 : tF ≠ tR) (t6 : tR ≠ eF) (hb : Below w.heap.size w wa) (hg : wa.grownBy w2 vf.ownBlock) {e : Flank} (hR : flankK.Rw eF w2 nobody v' (fl ++ [e])) (ha : v'.ownBlock = vf.ownBlock ∨ v'.ownBlock = some wa.heap.size) :
    FS tF tR eE eF (w2.setCell ⟨h, 7, none⟩ v') g h n ss lies A0 A1 A2 A3 c0 c1 c2 c3 ov tr vout v0 v1 v2 v4 v5 v6 vs v' seen (fl ++ [e]) ∧ Keep (FSet g h vs vf) w (w2.setCell ⟨h, 7, none⟩ v') ∧ Nx vf v' w.heap.size := by
  have hk : Keep (FSet g h vs vf) w w2 := (Keep.of_below hb).grown hg (fun k hk _ => .inr (.inr (.inr hk)))
  have hgl := F.f.lt
  have hgh : g ≠ h := fun e => by
    have h1 := F.f
    have h2 := F.r
    subst e
    unfold Blk at h1 h2
    rw [h1] at h2
    injection h2 with h2
    injection h2 with _ h2 _
    exact t5 h2
  have hf2 : Blk w2 g tF (finder n A0 A1 c0 c1 (.slice A2 ss.length c2) ov vout tr vs) := (hg.block g (Nat.lt_of_lt_of_le hgl hb.size) (fun e => own_not F.fn F.f t2 e.symm)).trans (F.f.below hb hgl)
  have hr2 : Blk w2 h tR [v0, v1, v2, .slice A3 lies.length c3, v4, v5, v6, vf] := (hg.block h (Nat.lt_of_lt_of_le F.r.lt hb.size) (fun e => own_not F.fn F.r t6 e.symm)).trans (F.r.below hb F.r.lt)
  have hk2 : Keep (FSet g h vs vf) w (w2.setCell ⟨h, 7, none⟩ v') := hk.setCell (fun _ => .inr (.inl rfl)) v'
  have hnx : Nx vf v' w.heap.size := (Nx.of ha).mono hb.size
  have hs : ∀ x, x < w.heap.size → FSet g h vs v' x → FSet g h vs vf x := fun x hx hm => by
    rcases hm with hm | hm | hm | hm
    · exact .inl hm
    · exact .inr (.inl hm)
    · exact .inr (.inr (.inl hm))
    · rcases hnx x hm with hm | hm
      · exact .inr (.inr (.inr hm))
      · omega
  have hR2 : flankK.Rw eF (w2.setCell ⟨h, 7, none⟩ v') nobody v' (fl ++ [e]) := Kn.Rw.move (fun k hk => Below.heap_setCell _ _ _ _ (fun e => own_not hR hr2 t6 (by rw [← show k = h from e]; exact hk))) (fun _ h => h.elim) hR
  have hfn : endK.Rw eE (w2.setCell ⟨h, 7, none⟩ v') nobody vs seen := Kn.Rw.move (fun k hkk => by
    have hlt := F.sn.lt k hkk
    rw [Below.heap_setCell _ _ _ _ (fun e => own_not F.sn F.r t3 (by rw [← show k = h from e]; exact hkk)), hg.block k (Nat.lt_of_lt_of_le hlt hb.size) (fun e => own_apart F.sn F.fn t4 hkk e.symm), hb.block k hlt]) (fun _ h => h.elim) F.sn
  exact ⟨⟨hf2.far (p := ⟨h, 7, none⟩) hgh v', hr2.set_ 7 v', F.net.keep hk2 hs, Kn.C_keep hk2 hs F.sig, Kn.C_keep hk2 hs F.lie, hfn, hR2⟩, hk2, hnx⟩
theorem FS.new (F : FS tF tR eE eF w g h n ss lies A0 A1 A2 A3 c0 c1 c2 c3 ov tr vout v0 v1 v2 v4 v5 v6 vs vf seen fl) {b : Nat} (hb : w.heap.size ≤ b) : ¬ FSet g h vs vf b := fun hm => by
  have h1 := F.f.lt
  have h2 := F.r.lt
  rcases hm with hm | hm | hm | hm
  · omega
  · omega
  · have := F.sn.lt b hm
    omega
  · have := F.fn.lt b hm
    omega
theorem FS.fMore (F : FS tF tR eE eF w g h n ss lies A0 A1 A2 A3 c0 c1 c2 c3 ov tr vout v0 v1 v2 v4 v5 v6 vs vf seen fl) (t1 : tF ≠ eE) (hb : Below w.heap.size w wa) (hg : wa.grownBy w2 vs.ownBlock) : Blk w2 g tF (finder n A0 A1 c0 c1 (.slice A2 ss.length c2) ov vout tr vs) :=
  (hg.block g (Nat.lt_of_lt_of_le F.f.lt hb.size) (fun e => own_not F.sn F.f t1 e.symm)).trans (F.f.below hb F.f.lt)
theorem FS.rFound (F : FS tF tR eE eF w g h n ss lies A0 A1 A2 A3 c0 c1 c2 c3 ov tr vout v0 v1 v2 v4 v5 v6 vs vf seen fl) (t6 : tR ≠ eF) (hb : Below w.heap.size w wa) (hg : wa.grownBy w2 vf.ownBlock) : Blk w2 h tR [v0, v1, v2, .slice A3 lies.length c3, v4, v5, v6, vf] :=
  (hg.block h (Nat.lt_of_lt_of_le F.r.lt hb.size) (fun e => own_not F.fn F.r t6 e.symm)).trans (F.r.below hb F.r.lt)
def RetF (tF tR eE eF : Nat) (g h : Nat) (n : Net) (ss : List Signal) (lies : List Lie) (A0 A1 A2 A3 : Option Addr) (c0 c1 c2 c3 : Nat) (ov tr : Int) (vout v0 v1 v2 v4 v5 v6 vs vf : Value) (st : List End × List Flank) (w : World) (en : Ending) (w' : World) : Prop :=
  en = .returned (.tuple #[]) ∧ ∃ vs' vf', FS tF tR eE eF w' g h n ss lies A0 A1 A2 A3 c0 c1 c2 c3 ov tr vout v0 v1 v2 v4 v5 v6 vs' vf' st.1 st.2 ∧ Keep (FSet g h vs vf) w w' ∧ Nx vs vs' w.heap.size ∧ Nx vf vf' w.heap.size
theorem RetF.after {vs1 vf1 : Value} {st : List End × List Flank} {en : Ending} {w' : World} (hk : Keep (FSet g h vs vf) w wa) (h1 : Nx vs vs1 w.heap.size) (h2 : Nx vf vf1 w.heap.size) (hR : RetF tF tR eE eF g h n ss lies A0 A1 A2 A3 c0 c1 c2 c3 ov tr vout v0 v1 v2 v4 v5 v6 vs1 vf1 st wa en w') : RetF tF tR eE eF g h n ss lies A0 A1 A2 A3 c0 c1 c2 c3 ov tr vout v0 v1 v2 v4 v5 v6 vs vf st w en w' := by
  obtain ⟨rfl, vs', vf', F, K, N1, N2⟩ := hR
  refine ⟨rfl, vs', vf', F, hk.trans K (fun x hx hm => ?_), h1.trans N1 hk.size, h2.trans N2 hk.size⟩
  rcases hm with hm | hm | hm | hm
  · exact .inl hm
  · exact .inr (.inl hm)
  · rcases h1 x hm with hm | hm
    · exact .inr (.inr (.inl hm))
    · omega
  · rcases h2 x hm with hm | hm
    · exact .inr (.inr (.inr hm))
    · omega
theorem FS.last (F : FS tF tR eE eF w g h n ss lies A0 A1 A2 A3 c0 c1 c2 c3 ov tr vout v0 v1 v2 v4 v5 v6 vs vf seen fl) (t1 : tF ≠ eE) (t2 : tF ≠ eF) (t3 : tR ≠ eE) (t4 : eE ≠ eF) (t5 : tF ≠ tR) (t6 : tR ≠ eF) (hb : Below w.heap.size w wa) (hg : wa.grownBy w2 vf.ownBlock) {e : Flank} (hR : flankK.Rw eF w2 nobody v' (fl ++ [e])) (ha : v'.ownBlock = vf.ownBlock ∨ v'.ownBlock = some wa.heap.size) :
    RetF tF tR eE eF g h n ss lies A0 A1 A2 A3 c0 c1 c2 c3 ov tr vout v0 v1 v2 v4 v5 v6 vs vf (seen, fl ++ [e]) w (.returned (.tuple #[])) (w2.setCell ⟨h, 7, none⟩ v') := by
  obtain ⟨G1, G2, G3⟩ := F.found t1 t2 t3 t4 t5 t6 hb hg hR ha
  exact ⟨rfl, vs, v', G1, G2, Nx.refl _ _, G3⟩
theorem FSet.next {vs vf vs' vf' : Value} {s : Nat} (h1 : Nx vs vs' s) (h2 : Nx vf vf' s) : ∀ x, x < s → FSet g h vs' vf' x → FSet g h vs vf x := fun x hx hm => by
  rcases hm with hm | hm | hm | hm
  · exact .inl hm
  · exact .inr (.inl hm)
  · rcases h1 x hm with hm | hm
    · exact .inr (.inr (.inl hm))
    · omega
  · rcases h2 x hm with hm | hm
    · exact .inr (.inr (.inr hm))
    · omega
end
end Go.Proofs.YtpggopdojhodaaaGreat.L
