/- Are the given routes all routes of the track? Both sides. -/
import Derived.Test.YtpggopdojhodaaaGreatVk
namespace Go.Proofs.YtpggopdojhodaaaGreat.L
open Go.RowKit
set_option linter.unusedVariables false
set_option linter.unusedSimpArgs false
theorem neq_t {a b : Int} (h : ¬ a = b) : (a != b) = true := by simp [h]
set_option maxRecDepth 100000 in
set_option maxHeartbeats 2000000 in
theorem equalStep {ok ok' : Nat → Prop} (A0 A1 : Option Addr) (c0 c1 : Nat) (xs ys : List Step) (w : World) (hx : stepK.C w ok A0 xs) (hy : stepK.C w ok' A1 ys) :
    Calls Tryz.prog 110 #[.slice A0 xs.length c0, .slice A1 ys.length c1] w (RetB (eqv xs ys) w) := by
  have hmx := hx.1
  have hmy := hy.1
  by_cases hl : xs.length = ys.length
  rotate_left
  · rw [eqv_false (fun h => hl (congrArg List.length h))]
    have hlb := len_ne hl
    clear hl
    go_enter Tryz.func110, Tryz.ntmps110
    go_wp2
    go_ret
    exact ⟨rfl, Below.refl _ _⟩
  have hlb := len_eq hl
  have HL := Lib.hid hl
  clear hl
  go_enter Tryz.func110, Tryz.ntmps110
  go_wp2
  go_loopw [13] (fun i wr => ∃ k : Nat, k ≤ xs.length ∧ i = .int .i64 k ∧ Hid (xs.take k = ys.take k) ∧ Below w.heap.size w wr) (fun i _ => xs.length - (intOf i).toNat)
  case atStart => exact ⟨0, Nat.zero_le _, rfl, Lib.hid rfl, Below.refl _ _⟩
  case round =>
    obtain ⟨k, hk, rfl, HT, hb⟩ := hrel
    by_cases hlt : k < xs.length
    · have i0 : (0 : Int) ≤ (k : Int) := Int.natCast_nonneg _
      have i1 : (k : Int) < (xs.length : Int) := by omega
      have i2 : (k : Int) < (ys.length : Int) := by have := HL.out; omega
      obtain ⟨a0, rfl, p0, p1, E0, gp0, gp1⟩ := stepK_at (Kn.C_below hb hx) k hlt
      obtain ⟨a1, rfl, q0, q1, E1, gq0, gq1⟩ := stepK_at (Kn.C_below hb hy) k (HL.out ▸ hlt)
      by_cases e0 : p0 = q0
      rotate_left
      · have d : (p0 == q0) = false := int_eqf e0
        have d' : (p0 != q0) = true := neq_t e0
        have HN : Hid (eqv xs ys = false) := Lib.hid (eqv_false (take_ne E0.out E1.out (fun h => e0 (by injection h))))
        clear e0 HT
        go_wp2
        go_quiet (fail)
        go_wp2
        go_ret
        exact ⟨by rw [HN.out]; rfl, below_drewN hb _⟩
      subst e0
      by_cases e1 : p1 = q1
      rotate_left
      · have d : (p1 == q1) = false := int_eqf e1
        have d' : (p1 != q1) = true := neq_t e1
        have HN : Hid (eqv xs ys = false) := Lib.hid (eqv_false (take_ne E0.out E1.out (fun h => e1 (by injection h))))
        clear e1 HT
        go_wp2
        go_quiet (fail)
        go_wp2
        go_ret
        exact ⟨by rw [HN.out]; rfl, below_drewN hb _⟩
      subst e1
      have HN : Hid (xs.take (k + 1) = ys.take (k + 1)) := Lib.hid (take_eq_snoc HT.out E0.out E1.out)
      clear HT
      go_wp2
      go_quiet (fail)
      go_wp2
      go_roundw
      case rel => exact ⟨k + 1, by omega, by go_num, HN, below_drewN hb _⟩
      case measure => simp [intOf]; omega
    · obtain rfl : k = xs.length := by omega
      have HN : Hid (eqv xs ys = true) := Lib.hid (eqv_true (by have := HT.out; rw [List.take_length, HL.out, List.take_length] at this; exact this))
      go_wp2
      go_ret
      exact ⟨by rw [HN.out]; rfl, hb⟩
set_option maxRecDepth 100000 in
set_option maxHeartbeats 2000000 in
theorem equalLie {ok ok' : Nat → Prop} (A0 A1 : Option Addr) (c0 c1 : Nat) (xs ys : List Lie) (w : World) (hx : lieK.C w ok A0 xs) (hy : lieK.C w ok' A1 ys) :
    Calls Tryz.prog 111 #[.slice A0 xs.length c0, .slice A1 ys.length c1] w (RetB (eqv xs ys) w) := by
  have hmx := hx.1
  have hmy := hy.1
  by_cases hl : xs.length = ys.length
  rotate_left
  · rw [eqv_false (fun h => hl (congrArg List.length h))]
    have hlb := len_ne hl
    clear hl
    go_enter Tryz.func111, Tryz.ntmps111
    go_wp2
    go_ret
    exact ⟨rfl, Below.refl _ _⟩
  have hlb := len_eq hl
  have HL := Lib.hid hl
  clear hl
  go_enter Tryz.func111, Tryz.ntmps111
  go_wp2
  go_loopw [13] (fun i wr => ∃ k : Nat, k ≤ xs.length ∧ i = .int .i64 k ∧ Hid (xs.take k = ys.take k) ∧ Below w.heap.size w wr) (fun i _ => xs.length - (intOf i).toNat)
  case atStart => exact ⟨0, Nat.zero_le _, rfl, Lib.hid rfl, Below.refl _ _⟩
  case round =>
    obtain ⟨k, hk, rfl, HT, hb⟩ := hrel
    by_cases hlt : k < xs.length
    · have i0 : (0 : Int) ≤ (k : Int) := Int.natCast_nonneg _
      have i1 : (k : Int) < (xs.length : Int) := by omega
      have i2 : (k : Int) < (ys.length : Int) := by have := HL.out; omega
      obtain ⟨a0, rfl, p0, p1, E0, gp0, gp1⟩ := lieK_at (Kn.C_below hb hx) k hlt
      obtain ⟨a1, rfl, q0, q1, E1, gq0, gq1⟩ := lieK_at (Kn.C_below hb hy) k (HL.out ▸ hlt)
      by_cases e0 : p0 = q0
      rotate_left
      · have d : (p0 == q0) = false := int_eqf e0
        have d' : (p0 != q0) = true := neq_t e0
        have HN : Hid (eqv xs ys = false) := Lib.hid (eqv_false (take_ne E0.out E1.out (fun h => e0 (by injection h))))
        clear e0 HT
        go_wp2
        go_quiet (fail)
        go_wp2
        go_ret
        exact ⟨by rw [HN.out]; rfl, below_drewN hb _⟩
      subst e0
      by_cases e1 : p1 = q1
      rotate_left
      · have d : (p1 == q1) = false := int_eqf e1
        have d' : (p1 != q1) = true := neq_t e1
        have HN : Hid (eqv xs ys = false) := Lib.hid (eqv_false (take_ne E0.out E1.out (fun h => e1 (by injection h))))
        clear e1 HT
        go_wp2
        go_quiet (fail)
        go_wp2
        go_ret
        exact ⟨by rw [HN.out]; rfl, below_drewN hb _⟩
      subst e1
      have HN : Hid (xs.take (k + 1) = ys.take (k + 1)) := Lib.hid (take_eq_snoc HT.out E0.out E1.out)
      clear HT
      go_wp2
      go_quiet (fail)
      go_wp2
      go_roundw
      case rel => exact ⟨k + 1, by omega, by go_num, HN, below_drewN hb _⟩
      case measure => simp [intOf]; omega
    · obtain rfl : k = xs.length := by omega
      have HN : Hid (eqv xs ys = true) := Lib.hid (eqv_true (by have := HT.out; rw [List.take_length, HL.out, List.take_length] at this; exact this))
      go_wp2
      go_ret
      exact ⟨by rw [HN.out]; rfl, hb⟩
set_option maxRecDepth 100000 in
set_option maxHeartbeats 2000000 in
theorem equalPart {ok ok' : Nat → Prop} (A0 A1 : Option Addr) (c0 c1 : Nat) (xs ys : List Part) (w : World) (hx : partK.C w ok A0 xs) (hy : partK.C w ok' A1 ys) :
    Calls Tryz.prog 113 #[.slice A0 xs.length c0, .slice A1 ys.length c1] w (RetB (eqv xs ys) w) := by
  have hmx := hx.1
  have hmy := hy.1
  by_cases hl : xs.length = ys.length
  rotate_left
  · rw [eqv_false (fun h => hl (congrArg List.length h))]
    have hlb := len_ne hl
    clear hl
    go_enter Tryz.func113, Tryz.ntmps113
    go_wp2
    go_ret
    exact ⟨rfl, Below.refl _ _⟩
  have hlb := len_eq hl
  have HL := Lib.hid hl
  clear hl
  go_enter Tryz.func113, Tryz.ntmps113
  go_wp2
  go_loopw [13] (fun i wr => ∃ k : Nat, k ≤ xs.length ∧ i = .int .i64 k ∧ Hid (xs.take k = ys.take k) ∧ Below w.heap.size w wr) (fun i _ => xs.length - (intOf i).toNat)
  case atStart => exact ⟨0, Nat.zero_le _, rfl, Lib.hid rfl, Below.refl _ _⟩
  case round =>
    obtain ⟨k, hk, rfl, HT, hb⟩ := hrel
    by_cases hlt : k < xs.length
    · have i0 : (0 : Int) ≤ (k : Int) := Int.natCast_nonneg _
      have i1 : (k : Int) < (xs.length : Int) := by omega
      have i2 : (k : Int) < (ys.length : Int) := by have := HL.out; omega
      obtain ⟨a0, rfl, p0, p1, p2, E0, gp0, gp1, gp2⟩ := partK_at (Kn.C_below hb hx) k hlt
      obtain ⟨a1, rfl, q0, q1, q2, E1, gq0, gq1, gq2⟩ := partK_at (Kn.C_below hb hy) k (HL.out ▸ hlt)
      by_cases e0 : p0 = q0
      rotate_left
      · have d : (p0 == q0) = false := int_eqf e0
        have d' : (p0 != q0) = true := neq_t e0
        have HN : Hid (eqv xs ys = false) := Lib.hid (eqv_false (take_ne E0.out E1.out (fun h => e0 (by injection h))))
        clear e0 HT
        go_wp2
        go_quiet (fail)
        go_wp2
        go_ret
        exact ⟨by rw [HN.out]; rfl, below_drewN hb _⟩
      subst e0
      by_cases e1 : p1 = q1
      rotate_left
      · have d : (p1 == q1) = false := int_eqf e1
        have d' : (p1 != q1) = true := neq_t e1
        have HN : Hid (eqv xs ys = false) := Lib.hid (eqv_false (take_ne E0.out E1.out (fun h => e1 (by injection h))))
        clear e1 HT
        go_wp2
        go_quiet (fail)
        go_wp2
        go_ret
        exact ⟨by rw [HN.out]; rfl, below_drewN hb _⟩
      subst e1
      by_cases e2 : p2 = q2
      rotate_left
      · have d : (p2 == q2) = false := int_eqf e2
        have d' : (p2 != q2) = true := neq_t e2
        have HN : Hid (eqv xs ys = false) := Lib.hid (eqv_false (take_ne E0.out E1.out (fun h => e2 (by injection h))))
        clear e2 HT
        go_wp2
        go_quiet (fail)
        go_wp2
        go_ret
        exact ⟨by rw [HN.out]; rfl, below_drewN hb _⟩
      subst e2
      have HN : Hid (xs.take (k + 1) = ys.take (k + 1)) := Lib.hid (take_eq_snoc HT.out E0.out E1.out)
      clear HT
      go_wp2
      go_quiet (fail)
      go_wp2
      go_roundw
      case rel => exact ⟨k + 1, by omega, by go_num, HN, below_drewN hb _⟩
      case measure => simp [intOf]; omega
    · obtain rfl : k = xs.length := by omega
      have HN : Hid (eqv xs ys = true) := Lib.hid (eqv_true (by have := HT.out; rw [List.take_length, HL.out, List.take_length] at this; exact this))
      go_wp2
      go_ret
      exact ⟨by rw [HN.out]; rfl, hb⟩
set_option maxRecDepth 100000 in
set_option maxHeartbeats 2000000 in
theorem equalFlank {ok ok' : Nat → Prop} (A0 A1 : Option Addr) (c0 c1 : Nat) (xs ys : List Flank) (w : World) (hx : flankK.C w ok A0 xs) (hy : flankK.C w ok' A1 ys) :
    Calls Tryz.prog 114 #[.slice A0 xs.length c0, .slice A1 ys.length c1] w (RetB (eqv xs ys) w) := by
  have hmx := hx.1
  have hmy := hy.1
  by_cases hl : xs.length = ys.length
  rotate_left
  · rw [eqv_false (fun h => hl (congrArg List.length h))]
    have hlb := len_ne hl
    clear hl
    go_enter Tryz.func114, Tryz.ntmps114
    go_wp2
    go_ret
    exact ⟨rfl, Below.refl _ _⟩
  have hlb := len_eq hl
  have HL := Lib.hid hl
  clear hl
  go_enter Tryz.func114, Tryz.ntmps114
  go_wp2
  go_loopw [13] (fun i wr => ∃ k : Nat, k ≤ xs.length ∧ i = .int .i64 k ∧ Hid (xs.take k = ys.take k) ∧ Below w.heap.size w wr) (fun i _ => xs.length - (intOf i).toNat)
  case atStart => exact ⟨0, Nat.zero_le _, rfl, Lib.hid rfl, Below.refl _ _⟩
  case round =>
    obtain ⟨k, hk, rfl, HT, hb⟩ := hrel
    by_cases hlt : k < xs.length
    · have i0 : (0 : Int) ≤ (k : Int) := Int.natCast_nonneg _
      have i1 : (k : Int) < (xs.length : Int) := by omega
      have i2 : (k : Int) < (ys.length : Int) := by have := HL.out; omega
      obtain ⟨a0, rfl, p0, p1, p2, p3, E0, gp0, gp1, gp2, gp3⟩ := flankK_at (Kn.C_below hb hx) k hlt
      obtain ⟨a1, rfl, q0, q1, q2, q3, E1, gq0, gq1, gq2, gq3⟩ := flankK_at (Kn.C_below hb hy) k (HL.out ▸ hlt)
      by_cases e0 : p0 = q0
      rotate_left
      · have d : (p0 == q0) = false := int_eqf e0
        have d' : (p0 != q0) = true := neq_t e0
        have HN : Hid (eqv xs ys = false) := Lib.hid (eqv_false (take_ne E0.out E1.out (fun h => e0 (by injection h))))
        clear e0 HT
        go_wp2
        go_quiet (fail)
        go_wp2
        go_ret
        exact ⟨by rw [HN.out]; rfl, below_drewN hb _⟩
      subst e0
      by_cases e1 : p1 = q1
      rotate_left
      · have d : (p1 == q1) = false := int_eqf e1
        have d' : (p1 != q1) = true := neq_t e1
        have HN : Hid (eqv xs ys = false) := Lib.hid (eqv_false (take_ne E0.out E1.out (fun h => e1 (by injection h))))
        clear e1 HT
        go_wp2
        go_quiet (fail)
        go_wp2
        go_ret
        exact ⟨by rw [HN.out]; rfl, below_drewN hb _⟩
      subst e1
      by_cases e2 : p2 = q2
      rotate_left
      · have d : (p2 == q2) = false := int_eqf e2
        have d' : (p2 != q2) = true := neq_t e2
        have HN : Hid (eqv xs ys = false) := Lib.hid (eqv_false (take_ne E0.out E1.out (fun h => e2 (by injection h))))
        clear e2 HT
        go_wp2
        go_quiet (fail)
        go_wp2
        go_ret
        exact ⟨by rw [HN.out]; rfl, below_drewN hb _⟩
      subst e2
      by_cases e3 : p3 = q3
      rotate_left
      · have d : (p3 == q3) = false := int_eqf e3
        have d' : (p3 != q3) = true := neq_t e3
        have HN : Hid (eqv xs ys = false) := Lib.hid (eqv_false (take_ne E0.out E1.out (fun h => e3 (by injection h))))
        clear e3 HT
        go_wp2
        go_quiet (fail)
        go_wp2
        go_ret
        exact ⟨by rw [HN.out]; rfl, below_drewN hb _⟩
      subst e3
      have HN : Hid (xs.take (k + 1) = ys.take (k + 1)) := Lib.hid (take_eq_snoc HT.out E0.out E1.out)
      clear HT
      go_wp2
      go_quiet (fail)
      go_wp2
      go_roundw
      case rel => exact ⟨k + 1, by omega, by go_num, HN, below_drewN hb _⟩
      case measure => simp [intOf]; omega
    · obtain rfl : k = xs.length := by omega
      have HN : Hid (eqv xs ys = true) := Lib.hid (eqv_true (by have := HT.out; rw [List.take_length, HL.out, List.take_length] at this; exact this))
      go_wp2
      go_ret
      exact ⟨by rw [HN.out]; rfl, hb⟩
set_option maxRecDepth 100000 in
set_option maxHeartbeats 2000000 in
theorem equalInt {ok ok' : Nat → Prop} (A0 A1 : Option Addr) (c0 c1 : Nat) (xs ys : List Int) (w : World) (hx : Kn.int.C w ok A0 xs) (hy : Kn.int.C w ok' A1 ys) :
    Calls Tryz.prog 112 #[.slice A0 xs.length c0, .slice A1 ys.length c1] w (RetB (eqv xs ys) w) := by
  have hmx := hx.1
  have hmy := hy.1
  by_cases hl : xs.length = ys.length
  rotate_left
  · rw [eqv_false (fun h => hl (congrArg List.length h))]
    have hlb := len_ne hl
    clear hl
    go_enter Tryz.func112, Tryz.ntmps112
    go_wp2
    go_ret
    exact ⟨rfl, Below.refl _ _⟩
  have hlb := len_eq hl
  have HL := Lib.hid hl
  clear hl
  go_enter Tryz.func112, Tryz.ntmps112
  go_wp2
  go_loopw [13] (fun i wr => ∃ k : Nat, k ≤ xs.length ∧ i = .int .i64 k ∧ Hid (xs.take k = ys.take k) ∧ Below w.heap.size w wr) (fun i _ => xs.length - (intOf i).toNat)
  case atStart => exact ⟨0, Nat.zero_le _, rfl, Lib.hid rfl, Below.refl _ _⟩
  case round =>
    obtain ⟨k, hk, rfl, HT, hb⟩ := hrel
    by_cases hlt : k < xs.length
    · have i0 : (0 : Int) ≤ (k : Int) := Int.natCast_nonneg _
      have i1 : (k : Int) < (xs.length : Int) := by omega
      have i2 : (k : Int) < (ys.length : Int) := by have := HL.out; omega
      obtain ⟨a0, rfl, p0, E0, gp0⟩ := int_at (Kn.C_below hb hx) k hlt
      obtain ⟨a1, rfl, q0, E1, gq0⟩ := int_at (Kn.C_below hb hy) k (HL.out ▸ hlt)
      by_cases e0 : p0 = q0
      rotate_left
      · have d : (p0 == q0) = false := int_eqf e0
        have d' : (p0 != q0) = true := neq_t e0
        have HN : Hid (eqv xs ys = false) := Lib.hid (eqv_false (take_ne E0.out E1.out (fun h => e0 h)))
        clear e0 HT
        go_wp2
        go_quiet (fail)
        go_wp2
        go_ret
        exact ⟨by rw [HN.out]; rfl, below_drewN hb _⟩
      subst e0
      have HN : Hid (xs.take (k + 1) = ys.take (k + 1)) := Lib.hid (take_eq_snoc HT.out E0.out E1.out)
      clear HT
      go_wp2
      go_quiet (fail)
      go_wp2
      go_roundw
      case rel => exact ⟨k + 1, by omega, by go_num, HN, below_drewN hb _⟩
      case measure => simp [intOf]; omega
    · obtain rfl : k = xs.length := by omega
      have HN : Hid (eqv xs ys = true) := Lib.hid (eqv_true (by have := HT.out; rw [List.take_length, HL.out, List.take_length] at this; exact this))
      go_wp2
      go_ret
      exact ⟨by rw [HN.out]; rfl, hb⟩
set_option maxRecDepth 100000 in
set_option maxHeartbeats 2000000 in
theorem l3steps {ok ok' : Nat → Prop} (A0 A1 : Option Addr) (c0 c1 : Nat) (xs ys : List Step) (w : World) (hx : stepK.C w ok A0 xs) (hy : stepK.C w ok' A1 ys) :
    Calls Tryz.prog 106 #[.slice A0 xs.length c0, .slice A1 ys.length c1] w (RetB (eqv xs ys) w) := by
  have hmx := hx.1
  have hmy := hy.1
  by_cases hl : xs.length = ys.length
  rotate_left
  · rw [eqv_false (fun h => hl (congrArg List.length h))]
    have hlb := len_ne hl
    clear hl
    go_enter Tryz.func106, Tryz.ntmps106
    go_wp2
    go_ret
    exact ⟨rfl, Below.refl _ _⟩
  have hlb := len_eq hl
  have HL := Lib.hid hl
  clear hl
  go_enter Tryz.func106, Tryz.ntmps106
  go_wp2
  go_loopw [13] (fun i wr => ∃ k : Nat, k ≤ xs.length ∧ i = .int .i64 k ∧ Hid (xs.take k = ys.take k) ∧ Below w.heap.size w wr) (fun i _ => xs.length - (intOf i).toNat)
  case atStart => exact ⟨0, Nat.zero_le _, rfl, Lib.hid rfl, Below.refl _ _⟩
  case round =>
    obtain ⟨k, hk, rfl, HT, hb⟩ := hrel
    by_cases hlt : k < xs.length
    · have i0 : (0 : Int) ≤ (k : Int) := Int.natCast_nonneg _
      have i1 : (k : Int) < (xs.length : Int) := by omega
      have i2 : (k : Int) < (ys.length : Int) := by have := HL.out; omega
      obtain ⟨a0, rfl, p0, p1, E0, gp0, gp1⟩ := stepK_at (Kn.C_below hb hx) k hlt
      obtain ⟨a1, rfl, q0, q1, E1, gq0, gq1⟩ := stepK_at (Kn.C_below hb hy) k (HL.out ▸ hlt)
      by_cases e0 : p0 = q0
      rotate_left
      · have d : (p0 == q0) = false := int_eqf e0
        have d' : (p0 != q0) = true := neq_t e0
        have HN : Hid (eqv xs ys = false) := Lib.hid (eqv_false (take_ne E0.out E1.out (fun h => e0 (by injection h))))
        clear e0 HT
        go_wp2
        go_quiet (fail)
        go_wp2
        go_ret
        exact ⟨by rw [HN.out]; rfl, below_drewN hb _⟩
      subst e0
      by_cases e1 : p1 = q1
      rotate_left
      · have d : (p1 == q1) = false := int_eqf e1
        have d' : (p1 != q1) = true := neq_t e1
        have HN : Hid (eqv xs ys = false) := Lib.hid (eqv_false (take_ne E0.out E1.out (fun h => e1 (by injection h))))
        clear e1 HT
        go_wp2
        go_quiet (fail)
        go_wp2
        go_ret
        exact ⟨by rw [HN.out]; rfl, below_drewN hb _⟩
      subst e1
      have HN : Hid (xs.take (k + 1) = ys.take (k + 1)) := Lib.hid (take_eq_snoc HT.out E0.out E1.out)
      clear HT
      go_wp2
      go_quiet (fail)
      go_wp2
      go_roundw
      case rel => exact ⟨k + 1, by omega, by go_num, HN, below_drewN hb _⟩
      case measure => simp [intOf]; omega
    · obtain rfl : k = xs.length := by omega
      have HN : Hid (eqv xs ys = true) := Lib.hid (eqv_true (by have := HT.out; rw [List.take_length, HL.out, List.take_length] at this; exact this))
      go_wp2
      go_ret
      exact ⟨by rw [HN.out]; rfl, hb⟩
set_option maxRecDepth 100000 in
set_option maxHeartbeats 2000000 in
theorem l3parts {ok ok' : Nat → Prop} (A0 A1 : Option Addr) (c0 c1 : Nat) (xs ys : List Part) (w : World) (hx : partK.C w ok A0 xs) (hy : partK.C w ok' A1 ys) :
    Calls Tryz.prog 107 #[.slice A0 xs.length c0, .slice A1 ys.length c1] w (RetB (eqv xs ys) w) := by
  have hmx := hx.1
  have hmy := hy.1
  by_cases hl : xs.length = ys.length
  rotate_left
  · rw [eqv_false (fun h => hl (congrArg List.length h))]
    have hlb := len_ne hl
    clear hl
    go_enter Tryz.func107, Tryz.ntmps107
    go_wp2
    go_ret
    exact ⟨rfl, Below.refl _ _⟩
  have hlb := len_eq hl
  have HL := Lib.hid hl
  clear hl
  go_enter Tryz.func107, Tryz.ntmps107
  go_wp2
  go_loopw [13] (fun i wr => ∃ k : Nat, k ≤ xs.length ∧ i = .int .i64 k ∧ Hid (xs.take k = ys.take k) ∧ Below w.heap.size w wr) (fun i _ => xs.length - (intOf i).toNat)
  case atStart => exact ⟨0, Nat.zero_le _, rfl, Lib.hid rfl, Below.refl _ _⟩
  case round =>
    obtain ⟨k, hk, rfl, HT, hb⟩ := hrel
    by_cases hlt : k < xs.length
    · have i0 : (0 : Int) ≤ (k : Int) := Int.natCast_nonneg _
      have i1 : (k : Int) < (xs.length : Int) := by omega
      have i2 : (k : Int) < (ys.length : Int) := by have := HL.out; omega
      obtain ⟨a0, rfl, p0, p1, p2, E0, gp0, gp1, gp2⟩ := partK_at (Kn.C_below hb hx) k hlt
      obtain ⟨a1, rfl, q0, q1, q2, E1, gq0, gq1, gq2⟩ := partK_at (Kn.C_below hb hy) k (HL.out ▸ hlt)
      by_cases e0 : p0 = q0
      rotate_left
      · have d : (p0 == q0) = false := int_eqf e0
        have d' : (p0 != q0) = true := neq_t e0
        have HN : Hid (eqv xs ys = false) := Lib.hid (eqv_false (take_ne E0.out E1.out (fun h => e0 (by injection h))))
        clear e0 HT
        go_wp2
        go_quiet (fail)
        go_wp2
        go_ret
        exact ⟨by rw [HN.out]; rfl, below_drewN hb _⟩
      subst e0
      by_cases e1 : p1 = q1
      rotate_left
      · have d : (p1 == q1) = false := int_eqf e1
        have d' : (p1 != q1) = true := neq_t e1
        have HN : Hid (eqv xs ys = false) := Lib.hid (eqv_false (take_ne E0.out E1.out (fun h => e1 (by injection h))))
        clear e1 HT
        go_wp2
        go_quiet (fail)
        go_wp2
        go_ret
        exact ⟨by rw [HN.out]; rfl, below_drewN hb _⟩
      subst e1
      by_cases e2 : p2 = q2
      rotate_left
      · have d : (p2 == q2) = false := int_eqf e2
        have d' : (p2 != q2) = true := neq_t e2
        have HN : Hid (eqv xs ys = false) := Lib.hid (eqv_false (take_ne E0.out E1.out (fun h => e2 (by injection h))))
        clear e2 HT
        go_wp2
        go_quiet (fail)
        go_wp2
        go_ret
        exact ⟨by rw [HN.out]; rfl, below_drewN hb _⟩
      subst e2
      have HN : Hid (xs.take (k + 1) = ys.take (k + 1)) := Lib.hid (take_eq_snoc HT.out E0.out E1.out)
      clear HT
      go_wp2
      go_quiet (fail)
      go_wp2
      go_roundw
      case rel => exact ⟨k + 1, by omega, by go_num, HN, below_drewN hb _⟩
      case measure => simp [intOf]; omega
    · obtain rfl : k = xs.length := by omega
      have HN : Hid (eqv xs ys = true) := Lib.hid (eqv_true (by have := HT.out; rw [List.take_length, HL.out, List.take_length] at this; exact this))
      go_wp2
      go_ret
      exact ⟨by rw [HN.out]; rfl, hb⟩
end Go.Proofs.YtpggopdojhodaaaGreat.L
namespace Go.Proofs.YtpggopdojhodaaaGreat.L
open Go.RowKit
set_option linter.unusedVariables false
set_option linter.unusedSimpArgs false
noncomputable def sameF (a b : Route) : Int :=
  if eqv a.frm b.frm && eqv a.til b.til && eqv a.steps b.steps then
    if eqv a.lies b.lies && eqv a.crosses b.crosses then
      if eqv a.parts b.parts && eqv a.over b.over then
        if eqv a.flanks b.flanks then 0 else 4
      else 3
    else 2
  else 1
theorem sameF_zero {a b : Route} : sameF a b = 0 ↔ a = b := by
  obtain ⟨a0, a1, a2, a3, a4, a5, a6, a7⟩ := a
  obtain ⟨b0, b1, b2, b3, b4, b5, b6, b7⟩ := b
  refine ⟨fun h => ?_, fun h => ?_⟩
  · unfold sameF at h
    simp only at h
    split at h
    · rename_i h1
      split at h
      · rename_i h2
        split at h
        · rename_i h3
          split at h
          · rename_i h4
            simp only [Bool.and_eq_true] at h1 h2 h3
            rw [of_eqv h1.1.1, of_eqv h1.1.2, of_eqv h1.2, of_eqv h2.1, of_eqv h2.2, of_eqv h3.1, of_eqv h3.2, of_eqv h4]
          · omega
        · omega
      · omega
    · omega
  · rw [h]
    simp [sameF, eqv_self]
theorem sameF_range (a b : Route) : 0 ≤ sameF a b ∧ sameF a b ≤ 4 := by
  unfold sameF
  split
  · split
    · split
      · split <;> omega
      · omega
    · omega
  · omega
noncomputable def partsF (a b : Route) : Int := if sameF a b = 0 then 0 else sameF a b + 2
theorem partsF_zero {a b : Route} : partsF a b = 0 ↔ a = b := by
  have := sameF_range a b
  unfold partsF
  split
  · rename_i h
    exact ⟨fun _ => sameF_zero.1 h, fun _ => rfl⟩
  · rename_i h
    exact ⟨fun e => by omega, fun e => absurd (sameF_zero.2 e) h⟩
theorem part_alloc1 (w : World) (o : Obj) : (w.alloc o).heap.size = w.heap.size + 1 := by simp
theorem neq_f {a b : Int} (h : a = b) : (a != b) = false := by simp [h]
set_option maxRecDepth 100000 in
set_option maxHeartbeats 8000000 in
theorem implParts {ok ok' : Nat → Prop} (a b : Route) (A2 A3 A4 A5 A6 A7 : Option Addr) (c2 c3 c4 c5 c6 c7 : Nat) (B2 B3 B4 B5 B6 B7 : Option Addr) (d2 d3 d4 d5 d6 d7 : Nat) (w : World) (h : RC w ok a A2 A3 A4 A5 A6 A7) (h' : RC w ok' b B2 B3 B4 B5 B6 B7) :
    Calls Tryz.prog 67 #[.agg #[.int .i64 a.frm, .int .i64 a.til, .slice A2 a.steps.length c2, .slice A3 a.lies.length c3, .slice A4 a.crosses.length c4, .slice A5 a.parts.length c5, .slice A6 a.over.length c6, .slice A7 a.flanks.length c7], .agg #[.int .i64 b.frm, .int .i64 b.til, .slice B2 b.steps.length d2, .slice B3 b.lies.length d3, .slice B4 b.crosses.length d4, .slice B5 b.parts.length d5, .slice B6 b.over.length d6, .slice B7 b.flanks.length d7]] w (RetI (partsF a b) w) := by
  obtain ⟨W0, hW0, hB0, HA, HB, HC, HD⟩ : ∃ W, W = (w.alloc (.cells #[.int .i64 a.frm, .int .i64 a.til, .slice A2 a.steps.length c2, .slice A3 a.lies.length c3, .slice A4 a.crosses.length c4, .slice A5 a.parts.length c5, .slice A6 a.over.length c6, .slice A7 a.flanks.length c7] 80)).alloc (.cells #[.int .i64 b.frm, .int .i64 b.til, .slice B2 b.steps.length d2, .slice B3 b.lies.length d3, .slice B4 b.crosses.length d4, .slice B5 b.parts.length d5, .slice B6 b.over.length d6, .slice B7 b.flanks.length d7] 80) ∧ Below w.heap.size w W ∧ Hid (Blk W w.heap.size 80 [.int .i64 a.frm, .int .i64 a.til, .slice A2 a.steps.length c2, .slice A3 a.lies.length c3, .slice A4 a.crosses.length c4, .slice A5 a.parts.length c5, .slice A6 a.over.length c6, .slice A7 a.flanks.length c7]) ∧ Hid (Blk W (w.heap.size + 1) 80 [.int .i64 b.frm, .int .i64 b.til, .slice B2 b.steps.length d2, .slice B3 b.lies.length d3, .slice B4 b.crosses.length d4, .slice B5 b.parts.length d5, .slice B6 b.over.length d6, .slice B7 b.flanks.length d7]) ∧ Hid (RC W ok a A2 A3 A4 A5 A6 A7) ∧ Hid (RC W ok' b B2 B3 B4 B5 B6 B7) := by
    have h1 := below_alloc w (.cells #[.int .i64 a.frm, .int .i64 a.til, .slice A2 a.steps.length c2, .slice A3 a.lies.length c3, .slice A4 a.crosses.length c4, .slice A5 a.parts.length c5, .slice A6 a.over.length c6, .slice A7 a.flanks.length c7] 80)
    have h2 : Below w.heap.size w ((w.alloc (.cells #[.int .i64 a.frm, .int .i64 a.til, .slice A2 a.steps.length c2, .slice A3 a.lies.length c3, .slice A4 a.crosses.length c4, .slice A5 a.parts.length c5, .slice A6 a.over.length c6, .slice A7 a.flanks.length c7] 80)).alloc (.cells #[.int .i64 b.frm, .int .i64 b.til, .slice B2 b.steps.length d2, .slice B3 b.lies.length d3, .slice B4 b.crosses.length d4, .slice B5 b.parts.length d5, .slice B6 b.over.length d6, .slice B7 b.flanks.length d7] 80)) := h1.alloc h1.size _
    exact ⟨_, rfl, h2, Lib.hid ((Blk.new w 80 [.int .i64 a.frm, .int .i64 a.til, .slice A2 a.steps.length c2, .slice A3 a.lies.length c3, .slice A4 a.crosses.length c4, .slice A5 a.parts.length c5, .slice A6 a.over.length c6, .slice A7 a.flanks.length c7] rfl).alloc _), Lib.hid (Blk.new _ _ _ (part_alloc1 _ _).symm), Lib.hid (h.below h2), Lib.hid (h'.below h2)⟩
  have hlen : True := trivial
  have m2 := h.h2.1
  have n2 := h'.h2.1
  have m3 := h.h3.1
  have n3 := h'.h3.1
  have m4 := h.h4.1
  have n4 := h'.h4.1
  have m5 := h.h5.1
  have n5 := h'.h5.1
  have m6 := h.h6.1
  have n6 := h'.h6.1
  have m7 := h.h7.1
  have n7 := h'.h7.1
  clear h h'
  by_cases e0 : a.frm = b.frm
  rotate_left
  · have d0 : (a.frm == b.frm) = false := int_eqf e0
    have d1 : (a.frm != b.frm) = true := neq_t e0
    have HN : Hid (partsF a b = 3) := Lib.hid (by have := eqv_false e0; simp [partsF, sameF, this])
    clear e0
    go_enter Tryz.func67, Tryz.ntmps67
    go_wp2
    go_ret
    exact ⟨by rw [HN.out]; rfl, by rw [← hW0]; exact hB0⟩
  have HE0 : Hid (eqv a.frm b.frm = true) := Lib.hid (eqv_true e0)
  have p0 : (a.frm == b.frm) = true := by rw [e0]; exact beq_self_eq_true _
  have r0 : (a.frm != b.frm) = false := neq_f e0
  clear e0
  by_cases e1 : a.til = b.til
  rotate_left
  · have d0 : (a.til == b.til) = false := int_eqf e1
    have d1 : (a.til != b.til) = true := neq_t e1
    have HN : Hid (partsF a b = 3) := Lib.hid (by have := eqv_false e1; simp [partsF, sameF, this])
    clear e1
    go_enter Tryz.func67, Tryz.ntmps67
    go_wp2
    go_ret
    exact ⟨by rw [HN.out]; rfl, by rw [← hW0]; exact hB0⟩
  have HE1 : Hid (eqv a.til b.til = true) := Lib.hid (eqv_true e1)
  have p1 : (a.til == b.til) = true := by rw [e1]; exact beq_self_eq_true _
  have r1 : (a.til != b.til) = false := neq_f e1
  clear e1
  go_enter Tryz.func67, Tryz.ntmps67
  go_wp2_with fail
  rw [← hW0]
  clear hW0
  refine (equalStep A2 B2 c2 d2 a.steps b.steps _ HC.out.h2 HD.out.h2).mono ?_
  rintro e w1 ⟨rfl, hb⟩
  have BW : Hid (Below w.heap.size w W0) := Lib.hid hB0
  clear hB0
  have HA := Lib.hid (HA.out.below hb HA.out.lt)
  have HB := Lib.hid (HB.out.below hb HB.out.lt)
  have HC := Lib.hid (HC.out.below hb)
  have HD := Lib.hid (HD.out.below hb)
  have BW := Lib.hid (BW.out.trans (hb.mono BW.out.size))
  have za : w.heap.size < w1.heap.size := HA.out.lt
  have zb : w.heap.size + 1 < w1.heap.size := HB.out.lt
  clear hb
  by_cases hE : a.steps = b.steps
  rotate_left
  · rw [eqv_false hE]
    have HN : Hid (partsF a b = 3) := Lib.hid (by have := eqv_false hE; simp [partsF, sameF, this, HE0.out, HE1.out])
    clear hE
    go_wp2
    go_ret
    exact ⟨by rw [HN.out]; rfl, BW.out⟩
  rw [eqv_true hE]
  have HE2 : Hid (eqv a.steps b.steps = true) := Lib.hid (eqv_true hE)
  clear hE
  have x3 := HA.out.cell 3 rfl
  have y3 := HB.out.cell 3 rfl
  go_wp2_with fail
  refine (equalLie A3 B3 c3 d3 a.lies b.lies _ HC.out.h3 HD.out.h3).mono ?_
  rintro e w2 ⟨rfl, hb⟩
  clear x3 y3
  have HA := Lib.hid (HA.out.below hb HA.out.lt)
  have HB := Lib.hid (HB.out.below hb HB.out.lt)
  have HC := Lib.hid (HC.out.below hb)
  have HD := Lib.hid (HD.out.below hb)
  have BW := Lib.hid (BW.out.trans (hb.mono BW.out.size))
  have za : w.heap.size < w2.heap.size := HA.out.lt
  have zb : w.heap.size + 1 < w2.heap.size := HB.out.lt
  clear hb
  by_cases hE : a.lies = b.lies
  rotate_left
  · rw [eqv_false hE]
    have HN : Hid (partsF a b = 4) := Lib.hid (by have := eqv_false hE; simp [partsF, sameF, this, HE0.out, HE1.out, HE2.out])
    clear hE
    go_wp2
    go_ret
    exact ⟨by rw [HN.out]; rfl, BW.out⟩
  rw [eqv_true hE]
  have HE3 : Hid (eqv a.lies b.lies = true) := Lib.hid (eqv_true hE)
  clear hE
  have x4 := HA.out.cell 4 rfl
  have y4 := HB.out.cell 4 rfl
  go_wp2_with fail
  refine (equalInt A4 B4 c4 d4 a.crosses b.crosses _ HC.out.h4 HD.out.h4).mono ?_
  rintro e w3 ⟨rfl, hb⟩
  clear x4 y4
  have HA := Lib.hid (HA.out.below hb HA.out.lt)
  have HB := Lib.hid (HB.out.below hb HB.out.lt)
  have HC := Lib.hid (HC.out.below hb)
  have HD := Lib.hid (HD.out.below hb)
  have BW := Lib.hid (BW.out.trans (hb.mono BW.out.size))
  have za : w.heap.size < w3.heap.size := HA.out.lt
  have zb : w.heap.size + 1 < w3.heap.size := HB.out.lt
  clear hb
  by_cases hE : a.crosses = b.crosses
  rotate_left
  · rw [eqv_false hE]
    have HN : Hid (partsF a b = 4) := Lib.hid (by have := eqv_false hE; simp [partsF, sameF, this, HE0.out, HE1.out, HE2.out, HE3.out])
    clear hE
    go_wp2
    go_ret
    exact ⟨by rw [HN.out]; rfl, BW.out⟩
  rw [eqv_true hE]
  have HE4 : Hid (eqv a.crosses b.crosses = true) := Lib.hid (eqv_true hE)
  clear hE
  have x5 := HA.out.cell 5 rfl
  have y5 := HB.out.cell 5 rfl
  go_wp2_with fail
  refine (equalPart A5 B5 c5 d5 a.parts b.parts _ HC.out.h5 HD.out.h5).mono ?_
  rintro e w4 ⟨rfl, hb⟩
  clear x5 y5
  have HA := Lib.hid (HA.out.below hb HA.out.lt)
  have HB := Lib.hid (HB.out.below hb HB.out.lt)
  have HC := Lib.hid (HC.out.below hb)
  have HD := Lib.hid (HD.out.below hb)
  have BW := Lib.hid (BW.out.trans (hb.mono BW.out.size))
  have za : w.heap.size < w4.heap.size := HA.out.lt
  have zb : w.heap.size + 1 < w4.heap.size := HB.out.lt
  clear hb
  by_cases hE : a.parts = b.parts
  rotate_left
  · rw [eqv_false hE]
    have HN : Hid (partsF a b = 5) := Lib.hid (by have := eqv_false hE; simp [partsF, sameF, this, HE0.out, HE1.out, HE2.out, HE3.out, HE4.out])
    clear hE
    go_wp2
    go_ret
    exact ⟨by rw [HN.out]; rfl, BW.out⟩
  rw [eqv_true hE]
  have HE5 : Hid (eqv a.parts b.parts = true) := Lib.hid (eqv_true hE)
  clear hE
  have x6 := HA.out.cell 6 rfl
  have y6 := HB.out.cell 6 rfl
  go_wp2_with fail
  refine (equalPart A6 B6 c6 d6 a.over b.over _ HC.out.h6 HD.out.h6).mono ?_
  rintro e w5 ⟨rfl, hb⟩
  clear x6 y6
  have HA := Lib.hid (HA.out.below hb HA.out.lt)
  have HB := Lib.hid (HB.out.below hb HB.out.lt)
  have HC := Lib.hid (HC.out.below hb)
  have HD := Lib.hid (HD.out.below hb)
  have BW := Lib.hid (BW.out.trans (hb.mono BW.out.size))
  have za : w.heap.size < w5.heap.size := HA.out.lt
  have zb : w.heap.size + 1 < w5.heap.size := HB.out.lt
  clear hb
  by_cases hE : a.over = b.over
  rotate_left
  · rw [eqv_false hE]
    have HN : Hid (partsF a b = 5) := Lib.hid (by have := eqv_false hE; simp [partsF, sameF, this, HE0.out, HE1.out, HE2.out, HE3.out, HE4.out, HE5.out])
    clear hE
    go_wp2
    go_ret
    exact ⟨by rw [HN.out]; rfl, BW.out⟩
  rw [eqv_true hE]
  have HE6 : Hid (eqv a.over b.over = true) := Lib.hid (eqv_true hE)
  clear hE
  have x7 := HA.out.cell 7 rfl
  have y7 := HB.out.cell 7 rfl
  go_wp2_with fail
  refine (equalFlank A7 B7 c7 d7 a.flanks b.flanks _ HC.out.h7 HD.out.h7).mono ?_
  rintro e w6 ⟨rfl, hb⟩
  clear x7 y7
  have HA := Lib.hid (HA.out.below hb HA.out.lt)
  have HB := Lib.hid (HB.out.below hb HB.out.lt)
  have HC := Lib.hid (HC.out.below hb)
  have HD := Lib.hid (HD.out.below hb)
  have BW := Lib.hid (BW.out.trans (hb.mono BW.out.size))
  have za : w.heap.size < w6.heap.size := HA.out.lt
  have zb : w.heap.size + 1 < w6.heap.size := HB.out.lt
  clear hb
  by_cases hE : a.flanks = b.flanks
  rotate_left
  · rw [eqv_false hE]
    have HN : Hid (partsF a b = 6) := Lib.hid (by have := eqv_false hE; simp [partsF, sameF, this, HE0.out, HE1.out, HE2.out, HE3.out, HE4.out, HE5.out, HE6.out])
    clear hE
    go_wp2
    go_ret
    exact ⟨by rw [HN.out]; rfl, BW.out⟩
  rw [eqv_true hE]
  have HE7 : Hid (eqv a.flanks b.flanks = true) := Lib.hid (eqv_true hE)
  clear hE
  have HN : Hid (partsF a b = 0) := Lib.hid (by simp [partsF, sameF, HE0.out, HE1.out, HE2.out, HE3.out, HE4.out, HE5.out, HE6.out, HE7.out])
  go_wp2
  go_ret
  exact ⟨by rw [HN.out]; rfl, BW.out⟩
set_option maxRecDepth 100000 in
set_option maxHeartbeats 8000000 in
theorem specSame {ok ok' : Nat → Prop} (a b : Route) (A2 A3 A4 A5 A6 A7 : Option Addr) (c2 c3 c4 c5 c6 c7 : Nat) (B2 B3 B4 B5 B6 B7 : Option Addr) (d2 d3 d4 d5 d6 d7 : Nat) (w : World) (h : RC w ok a A2 A3 A4 A5 A6 A7) (h' : RC w ok' b B2 B3 B4 B5 B6 B7) :
    Calls Tryz.prog 65 #[.agg #[.int .i64 a.frm, .int .i64 a.til, .slice A2 a.steps.length c2, .slice A3 a.lies.length c3, .slice A4 a.crosses.length c4, .slice A5 a.parts.length c5, .slice A6 a.over.length c6, .slice A7 a.flanks.length c7], .agg #[.int .i64 b.frm, .int .i64 b.til, .slice B2 b.steps.length d2, .slice B3 b.lies.length d3, .slice B4 b.crosses.length d4, .slice B5 b.parts.length d5, .slice B6 b.over.length d6, .slice B7 b.flanks.length d7]] w (RetI (sameF a b) w) := by
  obtain ⟨W0, hW0, hB0, HA, HB, HC, HD⟩ : ∃ W, W = (w.alloc (.cells #[.int .i64 a.frm, .int .i64 a.til, .slice A2 a.steps.length c2, .slice A3 a.lies.length c3, .slice A4 a.crosses.length c4, .slice A5 a.parts.length c5, .slice A6 a.over.length c6, .slice A7 a.flanks.length c7] 80)).alloc (.cells #[.int .i64 b.frm, .int .i64 b.til, .slice B2 b.steps.length d2, .slice B3 b.lies.length d3, .slice B4 b.crosses.length d4, .slice B5 b.parts.length d5, .slice B6 b.over.length d6, .slice B7 b.flanks.length d7] 80) ∧ Below w.heap.size w W ∧ Hid (Blk W w.heap.size 80 [.int .i64 a.frm, .int .i64 a.til, .slice A2 a.steps.length c2, .slice A3 a.lies.length c3, .slice A4 a.crosses.length c4, .slice A5 a.parts.length c5, .slice A6 a.over.length c6, .slice A7 a.flanks.length c7]) ∧ Hid (Blk W (w.heap.size + 1) 80 [.int .i64 b.frm, .int .i64 b.til, .slice B2 b.steps.length d2, .slice B3 b.lies.length d3, .slice B4 b.crosses.length d4, .slice B5 b.parts.length d5, .slice B6 b.over.length d6, .slice B7 b.flanks.length d7]) ∧ Hid (RC W ok a A2 A3 A4 A5 A6 A7) ∧ Hid (RC W ok' b B2 B3 B4 B5 B6 B7) := by
    have h1 := below_alloc w (.cells #[.int .i64 a.frm, .int .i64 a.til, .slice A2 a.steps.length c2, .slice A3 a.lies.length c3, .slice A4 a.crosses.length c4, .slice A5 a.parts.length c5, .slice A6 a.over.length c6, .slice A7 a.flanks.length c7] 80)
    have h2 : Below w.heap.size w ((w.alloc (.cells #[.int .i64 a.frm, .int .i64 a.til, .slice A2 a.steps.length c2, .slice A3 a.lies.length c3, .slice A4 a.crosses.length c4, .slice A5 a.parts.length c5, .slice A6 a.over.length c6, .slice A7 a.flanks.length c7] 80)).alloc (.cells #[.int .i64 b.frm, .int .i64 b.til, .slice B2 b.steps.length d2, .slice B3 b.lies.length d3, .slice B4 b.crosses.length d4, .slice B5 b.parts.length d5, .slice B6 b.over.length d6, .slice B7 b.flanks.length d7] 80)) := h1.alloc h1.size _
    exact ⟨_, rfl, h2, Lib.hid ((Blk.new w 80 [.int .i64 a.frm, .int .i64 a.til, .slice A2 a.steps.length c2, .slice A3 a.lies.length c3, .slice A4 a.crosses.length c4, .slice A5 a.parts.length c5, .slice A6 a.over.length c6, .slice A7 a.flanks.length c7] rfl).alloc _), Lib.hid (Blk.new _ _ _ (part_alloc1 _ _).symm), Lib.hid (h.below h2), Lib.hid (h'.below h2)⟩
  have hlen : True := trivial
  have m2 := h.h2.1
  have n2 := h'.h2.1
  have m3 := h.h3.1
  have n3 := h'.h3.1
  have m4 := h.h4.1
  have n4 := h'.h4.1
  have m5 := h.h5.1
  have n5 := h'.h5.1
  have m6 := h.h6.1
  have n6 := h'.h6.1
  have m7 := h.h7.1
  have n7 := h'.h7.1
  clear h h'
  by_cases e0 : a.frm = b.frm
  rotate_left
  · have d0 : (a.frm == b.frm) = false := int_eqf e0
    have d1 : (a.frm != b.frm) = true := neq_t e0
    have HN : Hid (sameF a b = 1) := Lib.hid (by have := eqv_false e0; simp [sameF, this])
    clear e0
    go_enter Tryz.func65, Tryz.ntmps65
    go_wp2
    go_ret
    exact ⟨by rw [HN.out]; rfl, by rw [← hW0]; exact hB0⟩
  have HE0 : Hid (eqv a.frm b.frm = true) := Lib.hid (eqv_true e0)
  have p0 : (a.frm == b.frm) = true := by rw [e0]; exact beq_self_eq_true _
  have r0 : (a.frm != b.frm) = false := neq_f e0
  clear e0
  by_cases e1 : a.til = b.til
  rotate_left
  · have d0 : (a.til == b.til) = false := int_eqf e1
    have d1 : (a.til != b.til) = true := neq_t e1
    have HN : Hid (sameF a b = 1) := Lib.hid (by have := eqv_false e1; simp [sameF, this])
    clear e1
    go_enter Tryz.func65, Tryz.ntmps65
    go_wp2
    go_ret
    exact ⟨by rw [HN.out]; rfl, by rw [← hW0]; exact hB0⟩
  have HE1 : Hid (eqv a.til b.til = true) := Lib.hid (eqv_true e1)
  have p1 : (a.til == b.til) = true := by rw [e1]; exact beq_self_eq_true _
  have r1 : (a.til != b.til) = false := neq_f e1
  clear e1
  go_enter Tryz.func65, Tryz.ntmps65
  go_wp2_with fail
  rw [← hW0]
  clear hW0
  refine (l3steps A2 B2 c2 d2 a.steps b.steps _ HC.out.h2 HD.out.h2).mono ?_
  rintro e w1 ⟨rfl, hb⟩
  have BW : Hid (Below w.heap.size w W0) := Lib.hid hB0
  clear hB0
  have HA := Lib.hid (HA.out.below hb HA.out.lt)
  have HB := Lib.hid (HB.out.below hb HB.out.lt)
  have HC := Lib.hid (HC.out.below hb)
  have HD := Lib.hid (HD.out.below hb)
  have BW := Lib.hid (BW.out.trans (hb.mono BW.out.size))
  have za : w.heap.size < w1.heap.size := HA.out.lt
  have zb : w.heap.size + 1 < w1.heap.size := HB.out.lt
  clear hb
  by_cases hE : a.steps = b.steps
  rotate_left
  · rw [eqv_false hE]
    have HN : Hid (sameF a b = 1) := Lib.hid (by have := eqv_false hE; simp [sameF, this, HE0.out, HE1.out])
    clear hE
    go_wp2
    go_ret
    exact ⟨by rw [HN.out]; rfl, BW.out⟩
  rw [eqv_true hE]
  have HE2 : Hid (eqv a.steps b.steps = true) := Lib.hid (eqv_true hE)
  clear hE
  have x3 := HA.out.cell 3 rfl
  have y3 := HB.out.cell 3 rfl
  have x4 := HA.out.cell 4 rfl
  have y4 := HB.out.cell 4 rfl
  by_cases hl3 : a.lies.length = b.lies.length
  rotate_left
  · have g0 := len_ne hl3
    have HN : Hid (sameF a b = 2) := Lib.hid (by have := eqv_false (fun h => hl3 (congrArg List.length h)); simp [sameF, this, HE0.out, HE1.out, HE2.out])
    clear hl3
    go_wp2
    go_ret
    exact ⟨by rw [HN.out]; rfl, BW.out⟩
  have g3 := len_eq hl3
  have HL3 := Lib.hid hl3
  clear hl3
  by_cases hl4 : a.crosses.length = b.crosses.length
  rotate_left
  · have g0 := len_ne hl4
    have HN : Hid (sameF a b = 2) := Lib.hid (by have := eqv_false (fun h => hl4 (congrArg List.length h)); simp [sameF, this, HE0.out, HE1.out, HE2.out])
    clear hl4
    go_wp2
    go_ret
    exact ⟨by rw [HN.out]; rfl, BW.out⟩
  have g4 := len_eq hl4
  have HL4 := Lib.hid hl4
  clear hl4
  go_wp2
  clear x3 y3 x4 y4
  go_loopw [47] (fun iv wr => ∃ k : Nat, k ≤ a.lies.length ∧ iv = .int .i64 k ∧ Hid (a.lies.take k = b.lies.take k) ∧ Hid (Below w1.heap.size w1 wr)) (fun iv _ => a.lies.length - (intOf iv).toNat)
  case atStart => exact ⟨0, Nat.zero_le _, rfl, Lib.hid rfl, Lib.hid (Below.refl _ _)⟩
  case round =>
  obtain ⟨k, hk, rfl, HT, HBr⟩ := hrel
  have HAr := Lib.hid (HA.out.below HBr.out HA.out.lt)
  have HBb := Lib.hid (HB.out.below HBr.out HB.out.lt)
  have HCr := Lib.hid (HC.out.below HBr.out)
  have HDr := Lib.hid (HD.out.below HBr.out)
  have BWr := Lib.hid (BW.out.trans (HBr.out.mono BW.out.size))
  have za : w.heap.size < wr.heap.size := HAr.out.lt
  have zb : w.heap.size + 1 < wr.heap.size := HBb.out.lt
  by_cases hlt : k < a.lies.length
  · have i0 : (0 : Int) ≤ (k : Int) := Int.natCast_nonneg _
    have i1 : (k : Int) < (a.lies.length : Int) := by omega
    have i2 : (k : Int) < (b.lies.length : Int) := by have := HL3.out; omega
    have x3 := HAr.out.cell 3 rfl
    have y3 := HBb.out.cell 3 rfl
    obtain ⟨s0, rfl, p0, p1, E0, gp0, gp1⟩ := lieK_at HCr.out.h3 k hlt
    have x3 := HAr.out.cell 3 rfl
    obtain ⟨s1, rfl, q0, q1, E1, gq0, gq1⟩ := lieK_at HDr.out.h3 k (HL3.out ▸ hlt)
    have x3 := HAr.out.cell 3 rfl
    have y3 := HBb.out.cell 3 rfl
    by_cases e0 : p0 = q0
    rotate_left
    · have t0 : (p0 == q0) = false := int_eqf e0
      have t1 : (p0 != q0) = true := neq_t e0
      have HN : Hid (sameF a b = 2) := Lib.hid (by have := eqv_false (take_ne E0.out E1.out (fun h => e0 (by injection h))); simp [sameF, this, HE0.out, HE1.out, HE2.out])
      clear e0 HT
      go_wp2
      go_quiet (fail)
      go_wp2
      go_ret
      exact ⟨by rw [HN.out]; rfl, below_drewN BWr.out _⟩
    subst e0
    by_cases e1 : p1 = q1
    rotate_left
    · have t0 : (p1 == q1) = false := int_eqf e1
      have t1 : (p1 != q1) = true := neq_t e1
      have HN : Hid (sameF a b = 2) := Lib.hid (by have := eqv_false (take_ne E0.out E1.out (fun h => e1 (by injection h))); simp [sameF, this, HE0.out, HE1.out, HE2.out])
      clear e1 HT
      go_wp2
      go_quiet (fail)
      go_wp2
      go_ret
      exact ⟨by rw [HN.out]; rfl, below_drewN BWr.out _⟩
    subst e1
    have HN : Hid (a.lies.take (k + 1) = b.lies.take (k + 1)) := Lib.hid (take_eq_snoc HT.out E0.out E1.out)
    clear HT
    go_wp2
    go_quiet (fail)
    go_wp2
    go_roundw
    case rel => exact ⟨k + 1, by omega, by go_num, HN, Lib.hid (below_drewN HBr.out _)⟩
    case measure => simp [intOf]; omega
  obtain rfl : k = a.lies.length := by omega
  have HE3 : Hid (eqv a.lies b.lies = true) := Lib.hid (eqv_true (by have := HT.out; rw [List.take_length, HL3.out, List.take_length] at this; exact this))
  obtain ⟨w2, rfl⟩ : ∃ W, W = wr := ⟨_, rfl⟩
  have HA := HAr
  have HB := HBb
  have HC := HCr
  have HD := HDr
  have BW := BWr
  clear HAr HBb HCr HDr BWr HT HBr hlt
  have x4 := HA.out.cell 4 rfl
  have y4 := HB.out.cell 4 rfl
  go_wp2
  clear x4 y4
  go_loopw [65] (fun iv wr => ∃ k : Nat, k ≤ a.crosses.length ∧ iv = .int .i64 k ∧ Hid (a.crosses.take k = b.crosses.take k) ∧ Hid (Below w2.heap.size w2 wr)) (fun iv _ => a.crosses.length - (intOf iv).toNat)
  case atStart => exact ⟨0, Nat.zero_le _, rfl, Lib.hid rfl, Lib.hid (Below.refl _ _)⟩
  case round =>
  obtain ⟨k, hk, rfl, HT, HBr⟩ := hrel
  have HAr := Lib.hid (HA.out.below HBr.out HA.out.lt)
  have HBb := Lib.hid (HB.out.below HBr.out HB.out.lt)
  have HCr := Lib.hid (HC.out.below HBr.out)
  have HDr := Lib.hid (HD.out.below HBr.out)
  have BWr := Lib.hid (BW.out.trans (HBr.out.mono BW.out.size))
  have za : w.heap.size < wr.heap.size := HAr.out.lt
  have zb : w.heap.size + 1 < wr.heap.size := HBb.out.lt
  by_cases hlt : k < a.crosses.length
  · have i0 : (0 : Int) ≤ (k : Int) := Int.natCast_nonneg _
    have i1 : (k : Int) < (a.crosses.length : Int) := by omega
    have i2 : (k : Int) < (b.crosses.length : Int) := by have := HL4.out; omega
    have x4 := HAr.out.cell 4 rfl
    have y4 := HBb.out.cell 4 rfl
    obtain ⟨s0, rfl, p0, E0, gp0⟩ := int_at HCr.out.h4 k hlt
    have x4 := HAr.out.cell 4 rfl
    obtain ⟨s1, rfl, q0, E1, gq0⟩ := int_at HDr.out.h4 k (HL4.out ▸ hlt)
    have x4 := HAr.out.cell 4 rfl
    have y4 := HBb.out.cell 4 rfl
    by_cases e0 : p0 = q0
    rotate_left
    · have t0 : (p0 == q0) = false := int_eqf e0
      have t1 : (p0 != q0) = true := neq_t e0
      have HN : Hid (sameF a b = 2) := Lib.hid (by have := eqv_false (take_ne E0.out E1.out (fun h => e0 h)); simp [sameF, this, HE0.out, HE1.out, HE2.out, HE3.out])
      clear e0 HT
      go_wp2
      go_quiet (fail)
      go_wp2
      go_ret
      exact ⟨by rw [HN.out]; rfl, below_drewN BWr.out _⟩
    subst e0
    have HN : Hid (a.crosses.take (k + 1) = b.crosses.take (k + 1)) := Lib.hid (take_eq_snoc HT.out E0.out E1.out)
    clear HT
    go_wp2
    go_quiet (fail)
    go_wp2
    go_roundw
    case rel => exact ⟨k + 1, by omega, by go_num, HN, Lib.hid (below_drewN HBr.out _)⟩
    case measure => simp [intOf]; omega
  obtain rfl : k = a.crosses.length := by omega
  have HE4 : Hid (eqv a.crosses b.crosses = true) := Lib.hid (eqv_true (by have := HT.out; rw [List.take_length, HL4.out, List.take_length] at this; exact this))
  obtain ⟨w3, rfl⟩ : ∃ W, W = wr := ⟨_, rfl⟩
  have HA := HAr
  have HB := HBb
  have HC := HCr
  have HD := HDr
  have BW := BWr
  clear HAr HBb HCr HDr BWr HT HBr hlt
  have x5 := HA.out.cell 5 rfl
  have y5 := HB.out.cell 5 rfl
  go_wp2_with fail
  refine (l3parts A5 B5 c5 d5 a.parts b.parts _ HC.out.h5 HD.out.h5).mono ?_
  rintro e w4 ⟨rfl, hb⟩
  clear x5 y5
  have HA := Lib.hid (HA.out.below hb HA.out.lt)
  have HB := Lib.hid (HB.out.below hb HB.out.lt)
  have HC := Lib.hid (HC.out.below hb)
  have HD := Lib.hid (HD.out.below hb)
  have BW := Lib.hid (BW.out.trans (hb.mono BW.out.size))
  have za : w.heap.size < w4.heap.size := HA.out.lt
  have zb : w.heap.size + 1 < w4.heap.size := HB.out.lt
  clear hb
  by_cases hE : a.parts = b.parts
  rotate_left
  · rw [eqv_false hE]
    have HN : Hid (sameF a b = 3) := Lib.hid (by have := eqv_false hE; simp [sameF, this, HE0.out, HE1.out, HE2.out, HE3.out, HE4.out])
    clear hE
    go_wp2
    go_ret
    exact ⟨by rw [HN.out]; rfl, BW.out⟩
  rw [eqv_true hE]
  have HE5 : Hid (eqv a.parts b.parts = true) := Lib.hid (eqv_true hE)
  clear hE
  have x6 := HA.out.cell 6 rfl
  have y6 := HB.out.cell 6 rfl
  go_wp2_with fail
  refine (l3parts A6 B6 c6 d6 a.over b.over _ HC.out.h6 HD.out.h6).mono ?_
  rintro e w5 ⟨rfl, hb⟩
  clear x6 y6
  have HA := Lib.hid (HA.out.below hb HA.out.lt)
  have HB := Lib.hid (HB.out.below hb HB.out.lt)
  have HC := Lib.hid (HC.out.below hb)
  have HD := Lib.hid (HD.out.below hb)
  have BW := Lib.hid (BW.out.trans (hb.mono BW.out.size))
  have za : w.heap.size < w5.heap.size := HA.out.lt
  have zb : w.heap.size + 1 < w5.heap.size := HB.out.lt
  clear hb
  by_cases hE : a.over = b.over
  rotate_left
  · rw [eqv_false hE]
    have HN : Hid (sameF a b = 3) := Lib.hid (by have := eqv_false hE; simp [sameF, this, HE0.out, HE1.out, HE2.out, HE3.out, HE4.out, HE5.out])
    clear hE
    go_wp2
    go_ret
    exact ⟨by rw [HN.out]; rfl, BW.out⟩
  rw [eqv_true hE]
  have HE6 : Hid (eqv a.over b.over = true) := Lib.hid (eqv_true hE)
  clear hE
  have x7 := HA.out.cell 7 rfl
  have y7 := HB.out.cell 7 rfl
  by_cases hl7 : a.flanks.length = b.flanks.length
  rotate_left
  · have g0 := len_ne hl7
    have HN : Hid (sameF a b = 4) := Lib.hid (by have := eqv_false (fun h => hl7 (congrArg List.length h)); simp [sameF, this, HE0.out, HE1.out, HE2.out, HE3.out, HE4.out, HE5.out, HE6.out])
    clear hl7
    go_wp2
    go_ret
    exact ⟨by rw [HN.out]; rfl, BW.out⟩
  have g7 := len_eq hl7
  have HL7 := Lib.hid hl7
  clear hl7
  go_wp2
  clear x7 y7
  go_loopw [104] (fun iv wr => ∃ k : Nat, k ≤ a.flanks.length ∧ iv = .int .i64 k ∧ Hid (a.flanks.take k = b.flanks.take k) ∧ Hid (Below w5.heap.size w5 wr)) (fun iv _ => a.flanks.length - (intOf iv).toNat)
  case atStart => exact ⟨0, Nat.zero_le _, rfl, Lib.hid rfl, Lib.hid (Below.refl _ _)⟩
  case round =>
  obtain ⟨k, hk, rfl, HT, HBr⟩ := hrel
  have HAr := Lib.hid (HA.out.below HBr.out HA.out.lt)
  have HBb := Lib.hid (HB.out.below HBr.out HB.out.lt)
  have HCr := Lib.hid (HC.out.below HBr.out)
  have HDr := Lib.hid (HD.out.below HBr.out)
  have BWr := Lib.hid (BW.out.trans (HBr.out.mono BW.out.size))
  have za : w.heap.size < wr.heap.size := HAr.out.lt
  have zb : w.heap.size + 1 < wr.heap.size := HBb.out.lt
  by_cases hlt : k < a.flanks.length
  · have i0 : (0 : Int) ≤ (k : Int) := Int.natCast_nonneg _
    have i1 : (k : Int) < (a.flanks.length : Int) := by omega
    have i2 : (k : Int) < (b.flanks.length : Int) := by have := HL7.out; omega
    have x7 := HAr.out.cell 7 rfl
    have y7 := HBb.out.cell 7 rfl
    obtain ⟨s0, rfl, p0, p1, p2, p3, E0, gp0, gp1, gp2, gp3⟩ := flankK_at HCr.out.h7 k hlt
    have x7 := HAr.out.cell 7 rfl
    obtain ⟨s1, rfl, q0, q1, q2, q3, E1, gq0, gq1, gq2, gq3⟩ := flankK_at HDr.out.h7 k (HL7.out ▸ hlt)
    have x7 := HAr.out.cell 7 rfl
    have y7 := HBb.out.cell 7 rfl
    by_cases e0 : p0 = q0
    rotate_left
    · have t0 : (p0 == q0) = false := int_eqf e0
      have t1 : (p0 != q0) = true := neq_t e0
      have HN : Hid (sameF a b = 4) := Lib.hid (by have := eqv_false (take_ne E0.out E1.out (fun h => e0 (by injection h))); simp [sameF, this, HE0.out, HE1.out, HE2.out, HE3.out, HE4.out, HE5.out, HE6.out])
      clear e0 HT
      go_wp2
      go_quiet (fail)
      go_wp2
      go_ret
      exact ⟨by rw [HN.out]; rfl, below_drewN BWr.out _⟩
    subst e0
    by_cases e1 : p1 = q1
    rotate_left
    · have t0 : (p1 == q1) = false := int_eqf e1
      have t1 : (p1 != q1) = true := neq_t e1
      have HN : Hid (sameF a b = 4) := Lib.hid (by have := eqv_false (take_ne E0.out E1.out (fun h => e1 (by injection h))); simp [sameF, this, HE0.out, HE1.out, HE2.out, HE3.out, HE4.out, HE5.out, HE6.out])
      clear e1 HT
      go_wp2
      go_quiet (fail)
      go_wp2
      go_ret
      exact ⟨by rw [HN.out]; rfl, below_drewN BWr.out _⟩
    subst e1
    by_cases e2 : p2 = q2
    rotate_left
    · have t0 : (p2 == q2) = false := int_eqf e2
      have t1 : (p2 != q2) = true := neq_t e2
      have HN : Hid (sameF a b = 4) := Lib.hid (by have := eqv_false (take_ne E0.out E1.out (fun h => e2 (by injection h))); simp [sameF, this, HE0.out, HE1.out, HE2.out, HE3.out, HE4.out, HE5.out, HE6.out])
      clear e2 HT
      go_wp2
      go_quiet (fail)
      go_wp2
      go_ret
      exact ⟨by rw [HN.out]; rfl, below_drewN BWr.out _⟩
    subst e2
    by_cases e3 : p3 = q3
    rotate_left
    · have t0 : (p3 == q3) = false := int_eqf e3
      have t1 : (p3 != q3) = true := neq_t e3
      have HN : Hid (sameF a b = 4) := Lib.hid (by have := eqv_false (take_ne E0.out E1.out (fun h => e3 (by injection h))); simp [sameF, this, HE0.out, HE1.out, HE2.out, HE3.out, HE4.out, HE5.out, HE6.out])
      clear e3 HT
      go_wp2
      go_quiet (fail)
      go_wp2
      go_ret
      exact ⟨by rw [HN.out]; rfl, below_drewN BWr.out _⟩
    subst e3
    have HN : Hid (a.flanks.take (k + 1) = b.flanks.take (k + 1)) := Lib.hid (take_eq_snoc HT.out E0.out E1.out)
    clear HT
    go_wp2
    go_quiet (fail)
    go_wp2
    go_roundw
    case rel => exact ⟨k + 1, by omega, by go_num, HN, Lib.hid (below_drewN HBr.out _)⟩
    case measure => simp [intOf]; omega
  obtain rfl : k = a.flanks.length := by omega
  have HE7 : Hid (eqv a.flanks b.flanks = true) := Lib.hid (eqv_true (by have := HT.out; rw [List.take_length, HL7.out, List.take_length] at this; exact this))
  obtain ⟨w6, rfl⟩ : ∃ W, W = wr := ⟨_, rfl⟩
  have HA := HAr
  have HB := HBb
  have HC := HCr
  have HD := HDr
  have BW := BWr
  clear HAr HBb HCr HDr BWr HT HBr hlt
  have HN : Hid (sameF a b = 0) := Lib.hid (by simp [sameF, HE0.out, HE1.out, HE2.out, HE3.out, HE4.out, HE5.out, HE6.out, HE7.out])
  go_wp2
  go_ret
  exact ⟨by rw [HN.out]; rfl, BW.out⟩
end Go.Proofs.YtpggopdojhodaaaGreat.L
namespace Go.Proofs.YtpggopdojhodaaaGreat.L
open Go.RowKit
open Classical
set_option linter.unusedVariables false
set_option linter.unusedSimpArgs false
theorem RetRR.Ct {rs : List Route} {w w' : World} {e : Ending} (h : RetRR rs w e w') : ∃ A c, e = .returned (.slice A rs.length c) ∧ rs.length ≤ c ∧ Hid (rK.C w' (fun _ => True) A rs) ∧ Below w.heap.size w w' := by
  obtain ⟨A, c, rfl, hl, hR, _, hb⟩ := h
  exact ⟨A, c, rfl, hl, Lib.hid (Kn.C_mono (fun _ _ => trivial) (Rw_slice hR.out).2.2), hb⟩
def bare (r : Route) : Route := { r with over := [] }
def listedF (n : Net) (ss : List Signal) (gs : List Route) : Prop := signalsOk n ss = ⟨0, 0⟩ ∧ gs.length ≤ 300 ∧ ∀ r ∈ gs, bare r ∈ routesF n ss 0
theorem bare_of {n : Net} {ss : List Signal} {r : Route} (h : r ∈ routesF n ss 0) : bare r = r := by
  obtain ⟨hr, _, _, hrt⟩ := routesF_rt h
  have : r.over = [] := List.eq_nil_of_length_eq_zero (by have := hrt.overN; omega)
  obtain ⟨a0, a1, a2, a3, a4, a5, a6, a7⟩ := r
  unfold bare
  simp only at this ⊢
  rw [this]
theorem inTo_here {α : Type} {xs : List α} {k : Nat} {x : α} (hx : xs[k]? = some x) : inTo xs (k + 1) x := ⟨k, Nat.lt_succ_self k, hx⟩
theorem inTo_up {α : Type} {xs : List α} {k : Nat} {x : α} (h : inTo xs k x) : inTo xs (k + 1) x := by
  obtain ⟨i, hi, hx⟩ := h
  exact ⟨i, by omega, hx⟩
theorem inTo_mem {α : Type} {xs : List α} {k : Nat} {x : α} (h : inTo xs k x) : x ∈ xs := by
  obtain ⟨i, hi, hx⟩ := h
  exact List.mem_of_getElem? hx
theorem RC.bare {w : World} {ok : Nat → Prop} {x : Route} {A2 A3 A4 A5 A6 A7 : Option Addr} (h : RC w ok x A2 A3 A4 A5 A6 A7) : RC w ok (bare x) A2 A3 A4 A5 none A7 := ⟨h.h2, h.h3, h.h4, h.h5, Kn.C_nil, h.h7⟩
set_option maxRecDepth 100000 in
set_option maxHeartbeats 8000000 in
theorem specListed {ok ok' ok2 : Nat → Prop} (n : Net) (ss : List Signal) (gs : List Route) (A0 A1 A2 A3 : Option Addr) (c0 c1 c2 c3 : Nat) (w : World) (h : NC 136 w ok n A0 A1) (hs : signalK.C w ok' A2 ss) (hc : ss.length ≤ c2) (hg : rK.C w ok2 A3 gs) (hn : NetIn n) (hi : SigIn ss) {b : Bool} (hbb : Hid (pv (listedF n ss gs) = b)) :
    Calls Tryz.prog 61 #[.agg #[.slice A0 n.pieces.length c0, .slice A1 n.joints.length c1], .slice A2 ss.length c2, .slice A3 gs.length c3] w (RetB b w) := by
  have hgm := hg.1
  have hb0 : Below w.heap.size w (w.alloc (.cells #[.slice A0 n.pieces.length c0, .slice A1 n.joints.length c1] 34)) := below_alloc _ _
  by_cases hk : signalsOk n ss = ⟨0, 0⟩
  rotate_left
  · have HB : Hid (eqv (signalsOk n ss) ⟨0, 0⟩ = false) := Lib.hid (eqv_false hk)
    obtain rfl : false = b := by rw [← hbb.out]; exact (pv_false (fun e => hk e.1)).symm
    clear hk hbb
    go_enter Tryz.func61, Tryz.ntmps61
    go_wp2_with (go_at_call 34; refine (l1all n ss A0 A1 A2 c0 c1 c2 _ (h.below hb0) (Kn.C_below hb0 hs) hn hi HB).mono ?_; rintro e w1 ⟨rfl, hb1⟩)
    go_ret
    exact ⟨rfl, hb0.trans (hb1.mono (by simp))⟩
  have HB : Hid (eqv (signalsOk n ss) ⟨0, 0⟩ = true) := Lib.hid (eqv_true hk)
  by_cases hl : 300 < gs.length
  · obtain rfl : false = b := by rw [← hbb.out]; exact (pv_false (fun e => by have := e.2.1; omega)).symm
    clear hk hbb
    go_enter Tryz.func61, Tryz.ntmps61
    go_wp2_with (go_at_call 34; refine (l1all n ss A0 A1 A2 c0 c1 c2 _ (h.below hb0) (Kn.C_below hb0 hs) hn hi HB).mono ?_; rintro e w1 ⟨rfl, hb1⟩)
    go_ret
    exact ⟨rfl, hb0.trans (hb1.mono (by simp))⟩
  have hl2 : gs.length ≤ 300 := by omega
  have HS : Hid (signalsOk n ss = ⟨0, 0⟩) := Lib.hid hk
  have Hh := Lib.hid (h : NC 136 w ok n A0 A1)
  have Hs := Lib.hid hs
  have Hg := Lib.hid hg
  have HN := Lib.hid (h.below hb0)
  have HSS := Lib.hid (Kn.C_below hb0 hs)
  obtain ⟨W0, hW0, hB0, f0, f1, hz0⟩ : ∃ W, W = w.alloc (.cells #[.slice A0 n.pieces.length c0, .slice A1 n.joints.length c1] 34) ∧ Below w.heap.size w W ∧ Hid (W.cell? ⟨w.heap.size, 0, none⟩ = some (.slice A0 n.pieces.length c0)) ∧ Hid (W.cell? ⟨w.heap.size, 1, none⟩ = some (.slice A1 n.joints.length c1)) ∧ Hid (w.heap.size < W.heap.size) := ⟨_, rfl, hb0, Lib.hid (by simp), Lib.hid (by simp), Lib.hid (by simp)⟩
  rw [← hW0] at HN HSS
  obtain ⟨rs, hrs⟩ : ∃ rs, Hid (routesF n ss 0 = rs) := ⟨_, Lib.hid rfl⟩
  have hrl : rs.length ≤ 300 := by rw [← hrs.out]; exact routesF_len _ _ _
  have HBR : Hid (∀ r ∈ rs, bare r = r) := Lib.hid (by rw [← hrs.out]; exact fun r hr => bare_of hr)
  clear h hs hg hk hl hb0
  go_enter Tryz.func61, Tryz.ntmps61
  go_wp2_with fail
  rw [← hW0]
  clear hW0
  refine (l1all n ss A0 A1 A2 c0 c1 c2 _ HN.out HSS.out hn hi HB).mono ?_
  rintro e w1 ⟨rfl, hb1⟩
  have g0 := cell_below hb1 f0.out
  have g1 := cell_below hb1 f1.out
  have gz : w.heap.size < w1.heap.size := Nat.lt_of_lt_of_le hz0.out hb1.size
  have HN := Lib.hid (HN.out.below hb1)
  have HSS := Lib.hid (Kn.C_below hb1 HSS.out)
  go_wp2_with fail
  refine (specRoutes n ss 0 A0 A1 A2 c0 c1 c2 _ HN.out HSS.out hn hi).mono ?_
  rw [hrs.out]
  intro e w2 hr
  obtain ⟨N0, n0, rfl, hn0, C0, hb2⟩ := RetRR.Ct hr
  have BW : Hid (Below w.heap.size w w2) := Lib.hid ((hB0.trans (hb1.mono hB0.size)).trans (hb2.mono (Nat.le_trans hB0.size hb1.size)))
  clear hr hb1 hb2 g0 g1 gz HN HSS hB0
  have HG := Lib.hid (Kn.C_below BW.out Hg.out)
  go_wp2
  go_loopw [29] (fun iv wr => ∃ k : Nat, k ≤ gs.length ∧ iv = .int .i64 k ∧ Hid (∀ i r, i < k → gs[i]? = some r → bare r ∈ rs) ∧ Hid (Below w2.heap.size w2 wr)) (fun iv _ => gs.length - (intOf iv).toNat)
  case atStart => exact ⟨0, Nat.zero_le _, rfl, Lib.hid (fun i r hi => absurd hi (by omega)), Lib.hid (Below.refl _ _)⟩
  case round =>
  obtain ⟨k, hk, rfl, HT, HBr⟩ := hrel
  obtain ⟨wo, rfl⟩ : ∃ W, W = wr := ⟨_, rfl⟩
  by_cases hlt : k < gs.length
  rotate_left
  · obtain rfl : k = gs.length := by omega
    have HF : Hid (true = b) := Lib.hid (by
      rw [← hbb.out]
      refine (pv_true ⟨HS.out, hl2, fun r hr => ?_⟩).symm
      obtain ⟨i, hi⟩ := List.mem_iff_getElem?.1 hr
      rw [hrs.out]
      exact HT.out i r (List.getElem?_eq_some_iff.1 hi).1 hi)
    have hfin := BW.out.trans (HBr.out.mono BW.out.size)
    go_wp2
    go_ret
    exact ⟨by rw [← HF.out]; rfl, hfin⟩
  have i0 : (0 : Int) ≤ (k : Int) := Int.natCast_nonneg _
  have i1 : (k : Int) < (gs.length : Int) := by omega
  obtain ⟨ra, rfl, r, Er, D2, D3, D4, D5, D6, D7, d2, d3, d4, d5, d6, d7, p0, p1, p2, p3, p4, p5, p6, p7, HRr⟩ := rC_at (Kn.C_below HBr.out HG.out) k hlt
  obtain ⟨W3, hW3, HQ, HB3⟩ : ∃ W, W = wo.alloc (.cells #[.int .i64 r.frm, .int .i64 r.til, .slice D2 r.steps.length d2, .slice D3 r.lies.length d3, .slice D4 r.crosses.length d4, .slice D5 r.parts.length d5, .slice D6 r.over.length d6, .slice D7 r.flanks.length d7] 80) ∧ Hid (Blk W wo.heap.size 80 [.int .i64 r.frm, .int .i64 r.til, .slice D2 r.steps.length d2, .slice D3 r.lies.length d3, .slice D4 r.crosses.length d4, .slice D5 r.parts.length d5, .slice D6 r.over.length d6, .slice D7 r.flanks.length d7]) ∧ Hid (Below w2.heap.size w2 W) := ⟨_, rfl, Lib.hid (Blk.new _ _ _ rfl), Lib.hid (HBr.out.alloc HBr.out.size _)⟩
  have HRB := Lib.hid (HRr.out.below (below_alloc wo (.cells #[.int .i64 r.frm, .int .i64 r.til, .slice D2 r.steps.length d2, .slice D3 r.lies.length d3, .slice D4 r.crosses.length d4, .slice D5 r.parts.length d5, .slice D6 r.over.length d6, .slice D7 r.flanks.length d7] 80)))
  rw [← hW3] at HRB
  go_wp2
  rw [← hW3]
  clear hW3
  obtain ⟨rb, hrb⟩ : ∃ g, Hid (wo.heap.size = g) := ⟨_, Lib.hid rfl⟩
  rw [hrb.out] at HQ
  rw [hrb.out]
  have HC0 := Lib.hid (Kn.C_below HB3.out C0.out)
  clear p0 p1 p2 p3 p4 p5 p6 p7 HRr
  go_loopw [35, 10] (fun iv mv wr => ∃ i : Nat, ∃ m : Bool, i ≤ rs.length ∧ iv = .int .i64 i ∧ mv = .bool m ∧ Hid (m = pv (inTo rs i (bare r))) ∧ Hid (Below W3.heap.size W3 wr)) (fun iv _ _ => rs.length - (intOf iv).toNat)
  case atStart => exact ⟨0, false, Nat.zero_le _, rfl, rfl, Lib.hid (pv_false inTo_zero).symm, Lib.hid (Below.refl _ _)⟩
  case round =>
    obtain ⟨i, m, hi, rfl, rfl, HM, HBi⟩ := hrel
    have HQi := Lib.hid (HQ.out.below HBi.out HQ.out.lt)
    have zr : rb < wr.heap.size := HQi.out.lt
    by_cases hit : i < rs.length
    · have j0 : (0 : Int) ≤ (i : Int) := Int.natCast_nonneg _
      have j1 : (i : Int) < (rs.length : Int) := by omega
      obtain ⟨xa, rfl, x, Ex, E2, E3, E4, E5, E6, E7, e2, e3, e4, e5, e6, e7, q0, q1, q2, q3, q4, q5, q6, q7, HRx⟩ := rC_at (Kn.C_below HBi.out HC0.out) i hit
      have HRx2 := Lib.hid (HRB.out.below HBi.out)
      have s0 := HQi.out.cell 0 rfl
      have s1 := HQi.out.cell 1 rfl
      have s2 := HQi.out.cell 2 rfl
      have s3 := HQi.out.cell 3 rfl
      have s4 := HQi.out.cell 4 rfl
      have s5 := HQi.out.cell 5 rfl
      have s6 := HQi.out.cell 6 rfl
      have s7 := HQi.out.cell 7 rfl
      obtain ⟨W4, hW4, hb4, HX4, HR4⟩ : ∃ W, W = (wr.alloc (.cells #[.int .i64 x.frm, .int .i64 x.til, .slice E2 x.steps.length e2, .slice E3 x.lies.length e3, .slice E4 x.crosses.length e4, .slice E5 x.parts.length e5, .slice E6 x.over.length e6, .slice E7 x.flanks.length e7] 80)).alloc (.cells #[.int .i64 r.frm, .int .i64 r.til, .slice D2 r.steps.length d2, .slice D3 r.lies.length d3, .slice D4 r.crosses.length d4, .slice D5 r.parts.length d5, .slice none 0 0, .slice D7 r.flanks.length d7] 80) ∧ Below wr.heap.size wr W ∧ Hid (RC W (fun _ => True) x E2 E3 E4 E5 E6 E7) ∧ Hid (RC W ok2 (bare r) D2 D3 D4 D5 none D7) := by
        have hb : Below wr.heap.size wr ((wr.alloc (.cells #[.int .i64 x.frm, .int .i64 x.til, .slice E2 x.steps.length e2, .slice E3 x.lies.length e3, .slice E4 x.crosses.length e4, .slice E5 x.parts.length e5, .slice E6 x.over.length e6, .slice E7 x.flanks.length e7] 80)).alloc (.cells #[.int .i64 r.frm, .int .i64 r.til, .slice D2 r.steps.length d2, .slice D3 r.lies.length d3, .slice D4 r.crosses.length d4, .slice D5 r.parts.length d5, .slice none 0 0, .slice D7 r.flanks.length d7] 80)) := (below_alloc _ _).alloc (by simp) _
        exact ⟨_, rfl, hb, Lib.hid (HRx.out.below hb), Lib.hid (HRx2.out.below hb).bare⟩
      go_wp2_with fail
      rw [← hW4]
      clear hW4 q0 q1 q2 q3 q4 q5 q6 q7 s0 s1 s2 s3 s4 s5 s6 s7
      refine (specSame x (bare r) E2 E3 E4 E5 E6 E7 e2 e3 e4 e5 e6 e7 D2 D3 D4 D5 none D7 d2 d3 d4 d5 0 d7 _ HX4.out HR4.out).mono ?_
      rintro e w5 ⟨rfl, hb5⟩
      have HB5 : Hid (Below W3.heap.size W3 w5) := Lib.hid (HBi.out.trans ((hb4.trans (hb5.mono hb4.size)).mono HBi.out.size))
      clear hb4 hb5
      by_cases hm : inTo rs i (bare r)
      · obtain rfl : m = true := by rw [HM.out]; exact pv_true hm
        have HM2 : Hid (true = pv (inTo rs (i + 1) (bare r))) := Lib.hid (pv_true (inTo_up hm)).symm
        clear hm
        go_wp2
        go_roundw
        case rel => exact ⟨i + 1, true, by omega, by go_num, rfl, HM2, HB5⟩
        case measure => simp [intOf]; omega
      obtain rfl : m = false := by rw [HM.out]; exact pv_false hm
      by_cases hx : x = bare r
      · have t0 : (sameF x (bare r) == 0) = true := by rw [sameF_zero.2 hx]; rfl
        have HM2 : Hid (true = pv (inTo rs (i + 1) (bare r))) := Lib.hid (pv_true (inTo_here (by rw [← hx]; exact Ex.out))).symm
        clear hm hx
        go_wp2
        go_roundw
        case rel => exact ⟨i + 1, true, by omega, by go_num, rfl, HM2, HB5⟩
        case measure => simp [intOf]; omega
      · have t0 : (sameF x (bare r) == 0) = false := int_eqf (fun e => hx (sameF_zero.1 e))
        have HM2 : Hid (false = pv (inTo rs (i + 1) (bare r))) := Lib.hid (pv_false (inTo_snoc hm Ex.out hx)).symm
        clear hm hx
        go_wp2
        go_roundw
        case rel => exact ⟨i + 1, false, by omega, by go_num, rfl, HM2, HB5⟩
        case measure => simp [intOf]; omega
    · obtain rfl : i = rs.length := by omega
      have HB6 : Hid (Below w2.heap.size w2 wr) := Lib.hid (HB3.out.trans (HBi.out.mono HB3.out.size))
      by_cases hm : bare r ∈ rs
      · obtain rfl : m = true := by
          rw [HM.out]
          obtain ⟨i, hi⟩ := List.mem_iff_getElem?.1 hm
          exact pv_true ⟨i, (List.getElem?_eq_some_iff.1 hi).1, hi⟩
        have HT2 : Hid (∀ i r, i < k + 1 → gs[i]? = some r → bare r ∈ rs) := Lib.hid (fun i y hi hy => by
          by_cases e : i = k
          · subst e
            obtain rfl := Option.some.inj (Er.out.symm.trans hy)
            exact hm
          · exact HT.out i y (by omega) hy)
        clear hm HM
        go_wp2
        go_roundw
        case rel => exact ⟨k + 1, by omega, by go_num, HT2, HB6⟩
        case measure => simp [intOf]; omega
      · obtain rfl : m = false := by
          rw [HM.out]
          exact pv_false (fun e => hm (inTo_mem e))
        have HF : Hid (false = b) := Lib.hid (by
          rw [← hbb.out]
          refine (pv_false (fun e => hm ?_)).symm
          rw [← hrs.out]
          exact e.2.2 r (List.mem_of_getElem? Er.out))
        have hfin := BW.out.trans (HB6.out.mono BW.out.size)
        clear hm HM
        go_wp2
        go_ret
        exact ⟨by rw [← HF.out]; rfl, hfin⟩
set_option maxRecDepth 100000 in
set_option maxHeartbeats 8000000 in
theorem implListed {ok ok' ok2 : Nat → Prop} (n : Net) (ss : List Signal) (gs : List Route) (A0 A1 A2 A3 : Option Addr) (c0 c1 c2 c3 : Nat) (w : World) (h : NC 136 w ok n A0 A1) (hs : signalK.C w ok' A2 ss) (hc : ss.length ≤ c2) (hg : rK.C w ok2 A3 gs) (hn : NetIn n) (hi : SigIn ss) {b : Bool} (hbb : Hid (pv (listedF n ss gs) = b)) :
    Calls Tryz.prog 63 #[.agg #[.slice A0 n.pieces.length c0, .slice A1 n.joints.length c1], .slice A2 ss.length c2, .slice A3 gs.length c3] w (RetB b w) := by
  have hgm := hg.1
  have hb0 : Below w.heap.size w (w.alloc (.cells #[.slice A0 n.pieces.length c0, .slice A1 n.joints.length c1] 34)) := below_alloc _ _
  by_cases hl : 300 < gs.length
  · obtain rfl : false = b := by rw [← hbb.out]; exact (pv_false (fun e => by have := e.2.1; omega)).symm
    clear hbb
    go_enter Tryz.func63, Tryz.ntmps63
    go_wp2
    go_ret
    exact ⟨rfl, hb0⟩
  have hl' : gs.length ≤ 300 := by omega
  by_cases hk : signalsOk n ss = ⟨0, 0⟩
  rotate_left
  · have HB : Hid (askOk n ss 0 = false) := Lib.hid (pv_false (fun e => hk e.1))
    obtain rfl : false = b := by rw [← hbb.out]; exact (pv_false (fun e => hk e.1)).symm
    clear hk hbb hl
    go_enter Tryz.func63, Tryz.ntmps63
    go_wp2_with fail
    refine (implRoutes0 n ss 0 A0 A1 A2 c0 c1 c2 _ (h.below hb0) (Kn.C_below hb0 hs) hc hn hi).mono ?_
    rw [HB.out]
    rintro e w1 ⟨A, c, rfl, hcl, HR, HO, hb1⟩
    go_wp2
    go_ret
    exact ⟨rfl, hb0.trans (hb1.mono (by simp))⟩
  have HB : Hid (askOk n ss 0 = true) := Lib.hid (pv_true ⟨hk, by omega⟩)
  have hl2 : gs.length ≤ 300 := by omega
  have HS : Hid (signalsOk n ss = ⟨0, 0⟩) := Lib.hid hk
  have Hh := Lib.hid (h : NC 136 w ok n A0 A1)
  have Hs := Lib.hid hs
  have Hg := Lib.hid hg
  have HN := Lib.hid (h.below hb0)
  have HSS := Lib.hid (Kn.C_below hb0 hs)
  obtain ⟨W0, hW0, hB0, f0, f1, hz0⟩ : ∃ W, W = w.alloc (.cells #[.slice A0 n.pieces.length c0, .slice A1 n.joints.length c1] 34) ∧ Below w.heap.size w W ∧ Hid (W.cell? ⟨w.heap.size, 0, none⟩ = some (.slice A0 n.pieces.length c0)) ∧ Hid (W.cell? ⟨w.heap.size, 1, none⟩ = some (.slice A1 n.joints.length c1)) ∧ Hid (w.heap.size < W.heap.size) := ⟨_, rfl, hb0, Lib.hid (by simp), Lib.hid (by simp), Lib.hid (by simp)⟩
  rw [← hW0] at HN HSS
  obtain ⟨rs, hrs⟩ : ∃ rs, Hid (routesF n ss 0 = rs) := ⟨_, Lib.hid rfl⟩
  have hrl : rs.length ≤ 300 := by rw [← hrs.out]; exact routesF_len _ _ _
  have HBR : Hid (∀ r ∈ rs, bare r = r) := Lib.hid (by rw [← hrs.out]; exact fun r hr => bare_of hr)
  clear h hs hg hk hl hb0
  go_enter Tryz.func63, Tryz.ntmps63
  go_wp2_with fail
  rw [← hW0]
  clear hW0
  refine (implRoutes0 n ss 0 A0 A1 A2 c0 c1 c2 _ HN.out HSS.out hc hn hi).mono ?_
  rw [HB.out, hrs.out]
  rintro e w2 ⟨N0, n0, rfl, hn0, HR, HO, hb2⟩
  have C0 : Hid (rK.C w2 (fun _ => True) N0 rs) := Lib.hid (Kn.C_mono (fun _ _ => trivial) (Rw_slice HR.out).2.2)
  have BW : Hid (Below w.heap.size w w2) := Lib.hid (hB0.trans (hb2.mono hB0.size))
  clear hb2 HR HO HN HSS hB0
  have HG := Lib.hid (Kn.C_below BW.out Hg.out)
  go_wp2
  go_loopw [27] (fun iv wr => ∃ k : Nat, k ≤ gs.length ∧ iv = .int .i64 k ∧ Hid (∀ i r, i < k → gs[i]? = some r → bare r ∈ rs) ∧ Hid (Below w2.heap.size w2 wr)) (fun iv _ => gs.length - (intOf iv).toNat)
  case atStart => exact ⟨0, Nat.zero_le _, rfl, Lib.hid (fun i r hi => absurd hi (by omega)), Lib.hid (Below.refl _ _)⟩
  case round =>
  obtain ⟨k, hk, rfl, HT, HBr⟩ := hrel
  obtain ⟨wo, rfl⟩ : ∃ W, W = wr := ⟨_, rfl⟩
  by_cases hlt : k < gs.length
  rotate_left
  · obtain rfl : k = gs.length := by omega
    have HF : Hid (true = b) := Lib.hid (by
      rw [← hbb.out]
      refine (pv_true ⟨HS.out, hl2, fun r hr => ?_⟩).symm
      obtain ⟨i, hi⟩ := List.mem_iff_getElem?.1 hr
      rw [hrs.out]
      exact HT.out i r (List.getElem?_eq_some_iff.1 hi).1 hi)
    have hfin := BW.out.trans (HBr.out.mono BW.out.size)
    go_wp2
    go_ret
    exact ⟨by rw [← HF.out]; rfl, hfin⟩
  have i0 : (0 : Int) ≤ (k : Int) := Int.natCast_nonneg _
  have i1 : (k : Int) < (gs.length : Int) := by omega
  obtain ⟨ra, rfl, r, Er, D2, D3, D4, D5, D6, D7, d2, d3, d4, d5, d6, d7, p0, p1, p2, p3, p4, p5, p6, p7, HRr⟩ := rC_at (Kn.C_below HBr.out HG.out) k hlt
  obtain ⟨W3, hW3, HQ, HB3⟩ : ∃ W, W = wo.alloc (.cells #[.int .i64 r.frm, .int .i64 r.til, .slice D2 r.steps.length d2, .slice D3 r.lies.length d3, .slice D4 r.crosses.length d4, .slice D5 r.parts.length d5, .slice none 0 0, .slice D7 r.flanks.length d7] 80) ∧ Hid (Blk W wo.heap.size 80 [.int .i64 r.frm, .int .i64 r.til, .slice D2 r.steps.length d2, .slice D3 r.lies.length d3, .slice D4 r.crosses.length d4, .slice D5 r.parts.length d5, .slice none 0 0, .slice D7 r.flanks.length d7]) ∧ Hid (Below w2.heap.size w2 W) :=
    ⟨_, rfl, Lib.hid (Blk.new _ _ _ rfl), Lib.hid (HBr.out.alloc HBr.out.size _)⟩
  have HRB : Hid (RC W3 ok2 r D2 D3 D4 D5 D6 D7) := Lib.hid (HRr.out.below (by rw [hW3]; exact below_alloc _ _))
  go_wp2
  rw [← hW3]
  clear hW3
  obtain ⟨rb, hrb⟩ : ∃ g, Hid (wo.heap.size = g) := ⟨_, Lib.hid rfl⟩
  rw [hrb.out] at HQ
  rw [hrb.out]
  have HC0 := Lib.hid (Kn.C_below HB3.out C0.out)
  clear p0 p1 p2 p3 p4 p5 p6 p7 HRr
  go_loopw [34, 11] (fun iv mv wr => ∃ i : Nat, ∃ m : Bool, i ≤ rs.length ∧ iv = .int .i64 i ∧ mv = .bool m ∧ Hid (m = pv (inTo rs i (bare r))) ∧ Hid (Below W3.heap.size W3 wr)) (fun iv _ _ => rs.length - (intOf iv).toNat)
  case atStart => exact ⟨0, false, Nat.zero_le _, rfl, rfl, Lib.hid (pv_false inTo_zero).symm, Lib.hid (Below.refl _ _)⟩
  case round =>
    obtain ⟨i, m, hi, rfl, rfl, HM, HBi⟩ := hrel
    have HQi := Lib.hid (HQ.out.below HBi.out HQ.out.lt)
    have zr : rb < wr.heap.size := HQi.out.lt
    by_cases hit : i < rs.length
    · have j0 : (0 : Int) ≤ (i : Int) := Int.natCast_nonneg _
      have j1 : (i : Int) < (rs.length : Int) := by omega
      obtain ⟨xa, rfl, x, Ex, E2, E3, E4, E5, E6, E7, e2, e3, e4, e5, e6, e7, q0, q1, q2, q3, q4, q5, q6, q7, HRx⟩ := rC_at (Kn.C_below HBi.out HC0.out) i hit
      have HRx2 := Lib.hid (HRB.out.below HBi.out)
      have s0 := HQi.out.cell 0 rfl
      have s1 := HQi.out.cell 1 rfl
      have s2 := HQi.out.cell 2 rfl
      have s3 := HQi.out.cell 3 rfl
      have s4 := HQi.out.cell 4 rfl
      have s5 := HQi.out.cell 5 rfl
      have s6 := HQi.out.cell 6 rfl
      have s7 := HQi.out.cell 7 rfl
      have HXB : Hid (bare x = x) := Lib.hid (HBR.out x (List.mem_of_getElem? Ex.out))
      by_cases hm : inTo rs i (bare r)
      · obtain rfl : m = true := by rw [HM.out]; exact pv_true hm
        have HM2 : Hid (true = pv (inTo rs (i + 1) (bare r))) := Lib.hid (pv_true (inTo_up hm)).symm
        have HB5 : Hid (Below W3.heap.size W3 (wr.alloc (.cells #[.int .i64 x.frm, .int .i64 x.til, .slice E2 x.steps.length e2, .slice E3 x.lies.length e3, .slice E4 x.crosses.length e4, .slice E5 x.parts.length e5, .slice none 0 0, .slice E7 x.flanks.length e7] 80))) := Lib.hid (HBi.out.alloc HBi.out.size _)
        clear hm
        go_wp2
        go_roundw
        case rel => exact ⟨i + 1, true, by omega, by go_num, rfl, HM2, HB5⟩
        case measure => simp [intOf]; omega
      obtain rfl : m = false := by rw [HM.out]; exact pv_false hm
      by_cases hf : x.frm = r.frm
      rotate_left
      · have t0 : (x.frm == r.frm) = false := int_eqf hf
        have HM2 : Hid (false = pv (inTo rs (i + 1) (bare r))) := Lib.hid (pv_false (inTo_snoc hm Ex.out (fun e => hf (by rw [e]; rfl)))).symm
        have HB5 : Hid (Below W3.heap.size W3 (wr.alloc (.cells #[.int .i64 x.frm, .int .i64 x.til, .slice E2 x.steps.length e2, .slice E3 x.lies.length e3, .slice E4 x.crosses.length e4, .slice E5 x.parts.length e5, .slice none 0 0, .slice E7 x.flanks.length e7] 80))) := Lib.hid (HBi.out.alloc HBi.out.size _)
        clear hm hf
        go_wp2
        go_roundw
        case rel => exact ⟨i + 1, false, by omega, by go_num, rfl, HM2, HB5⟩
        case measure => simp [intOf]; omega
      have t1 : (x.frm == r.frm) = true := by rw [hf]; exact beq_self_eq_true _
      clear hf
      obtain ⟨W4, hW4, hb4, HX4, HR4⟩ : ∃ W, W = wr.alloc (.cells #[.int .i64 x.frm, .int .i64 x.til, .slice E2 x.steps.length e2, .slice E3 x.lies.length e3, .slice E4 x.crosses.length e4, .slice E5 x.parts.length e5, .slice none 0 0, .slice E7 x.flanks.length e7] 80) ∧ Below wr.heap.size wr W ∧ Hid (RC W (fun _ => True) (bare x) E2 E3 E4 E5 none E7) ∧ Hid (RC W ok2 (bare r) D2 D3 D4 D5 none D7) := by
        have hb : Below wr.heap.size wr (wr.alloc (.cells #[.int .i64 x.frm, .int .i64 x.til, .slice E2 x.steps.length e2, .slice E3 x.lies.length e3, .slice E4 x.crosses.length e4, .slice E5 x.parts.length e5, .slice none 0 0, .slice E7 x.flanks.length e7] 80)) := below_alloc _ _
        exact ⟨_, rfl, hb, Lib.hid (HRx.out.below hb).bare, Lib.hid (HRx2.out.below hb).bare⟩
      go_wp2_with fail
      rw [← hW4]
      clear hW4 q0 q1 q2 q3 q4 q5 q6 q7 s0 s1 s2 s3 s4 s5 s6 s7
      refine (implParts (bare x) (bare r) E2 E3 E4 E5 none E7 e2 e3 e4 e5 0 e7 D2 D3 D4 D5 none D7 d2 d3 d4 d5 0 d7 _ HX4.out HR4.out).mono ?_
      rintro e w5 ⟨rfl, hb5⟩
      have HB5 : Hid (Below W3.heap.size W3 w5) := Lib.hid (HBi.out.trans ((hb4.trans (hb5.mono hb4.size)).mono HBi.out.size))
      clear hb4 hb5
      rw [HXB.out]
      by_cases hx : x = bare r
      · have t0 : (partsF x (bare r) == 0) = true := by rw [partsF_zero.2 hx]; rfl
        have HM2 : Hid (true = pv (inTo rs (i + 1) (bare r))) := Lib.hid (pv_true (inTo_here (by rw [← hx]; exact Ex.out))).symm
        clear hm hx
        go_wp2
        go_roundw
        case rel => exact ⟨i + 1, true, by omega, by go_num, rfl, HM2, HB5⟩
        case measure => simp [intOf]; omega
      · have t0 : (partsF x (bare r) == 0) = false := int_eqf (fun e => hx (partsF_zero.1 e))
        have HM2 : Hid (false = pv (inTo rs (i + 1) (bare r))) := Lib.hid (pv_false (inTo_snoc hm Ex.out hx)).symm
        clear hm hx
        go_wp2
        go_roundw
        case rel => exact ⟨i + 1, false, by omega, by go_num, rfl, HM2, HB5⟩
        case measure => simp [intOf]; omega
    · obtain rfl : i = rs.length := by omega
      have HB6 : Hid (Below w2.heap.size w2 wr) := Lib.hid (HB3.out.trans (HBi.out.mono HB3.out.size))
      by_cases hm : bare r ∈ rs
      · obtain rfl : m = true := by
          rw [HM.out]
          obtain ⟨i, hi⟩ := List.mem_iff_getElem?.1 hm
          exact pv_true ⟨i, (List.getElem?_eq_some_iff.1 hi).1, hi⟩
        have HT2 : Hid (∀ i r, i < k + 1 → gs[i]? = some r → bare r ∈ rs) := Lib.hid (fun i y hi hy => by
          by_cases e : i = k
          · subst e
            obtain rfl := Option.some.inj (Er.out.symm.trans hy)
            exact hm
          · exact HT.out i y (by omega) hy)
        clear hm HM
        go_wp2
        go_roundw
        case rel => exact ⟨k + 1, by omega, by go_num, HT2, HB6⟩
        case measure => simp [intOf]; omega
      · obtain rfl : m = false := by
          rw [HM.out]
          exact pv_false (fun e => hm (inTo_mem e))
        have HF : Hid (false = b) := Lib.hid (by
          rw [← hbb.out]
          refine (pv_false (fun e => hm ?_)).symm
          rw [← hrs.out]
          exact e.2.2 r (List.mem_of_getElem? Er.out))
        have hfin := BW.out.trans (HB6.out.mono BW.out.size)
        clear hm HM
        go_wp2
        go_ret
        exact ⟨by rw [← HF.out]; rfl, hfin⟩
end Go.Proofs.YtpggopdojhodaaaGreat.L
