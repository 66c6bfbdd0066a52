/- The laws' comparers of routes and what they hold. -/
import Derived.Test.YtginpmhjpjcahaaEq
namespace Go.Proofs.Ytginpmhjpjcahaa.L
open Go.RowKit
set_option linter.unusedVariables false
set_option linter.unusedSimpArgs false
set_option maxHeartbeats 1000000 in
theorem eqStep (x y : Step) (w : World) : Calls Try.prog 158 #[x.v, y.v] w (RetB (eqv x y) w) := by
  obtain ⟨a0, a1⟩ := x
  obtain ⟨b0, b1⟩ := y
  by_cases h0 : a0 = b0
  rotate_left
  · rw [eqv_false (by intro h; injection h; exact h0 ‹_›)]
    have g0 := int_ne h0
    clear h0
    go_enter Try.func158, Try.ntmps158
    go_wp2
    go_ret
    exact ⟨rfl, (below_alloc _ _).alloc (by simp) _⟩
  subst h0
  by_cases h1 : a1 = b1
  rotate_left
  · rw [eqv_false (by intro h; injection h; exact h1 ‹_›)]
    have g1 := int_ne h1
    clear h1
    go_enter Try.func158, Try.ntmps158
    go_wp2
    go_ret
    exact ⟨rfl, (below_alloc _ _).alloc (by simp) _⟩
  subst h1
  rw [eqv_self]
  go_enter Try.func158, Try.ntmps158
  go_wp2
  go_ret
  exact ⟨rfl, (below_alloc _ _).alloc (by simp) _⟩
set_option maxHeartbeats 1000000 in
theorem eqLie (x y : Lie) (w : World) : Calls Try.prog 103 #[x.v, y.v] w (RetB (eqv x y) w) := by
  obtain ⟨a0, a1⟩ := x
  obtain ⟨b0, b1⟩ := y
  by_cases h0 : a0 = b0
  rotate_left
  · rw [eqv_false (by intro h; injection h; exact h0 ‹_›)]
    have g0 := int_ne h0
    clear h0
    go_enter Try.func103, Try.ntmps103
    go_wp2
    go_ret
    exact ⟨rfl, (below_alloc _ _).alloc (by simp) _⟩
  subst h0
  by_cases h1 : a1 = b1
  rotate_left
  · rw [eqv_false (by intro h; injection h; exact h1 ‹_›)]
    have g1 := int_ne h1
    clear h1
    go_enter Try.func103, Try.ntmps103
    go_wp2
    go_ret
    exact ⟨rfl, (below_alloc _ _).alloc (by simp) _⟩
  subst h1
  rw [eqv_self]
  go_enter Try.func103, Try.ntmps103
  go_wp2
  go_ret
  exact ⟨rfl, (below_alloc _ _).alloc (by simp) _⟩
set_option maxHeartbeats 1000000 in
theorem eqPart (x y : Part) (w : World) : Calls Try.prog 159 #[x.v, y.v] w (RetB (eqv x y) w) := by
  obtain ⟨a0, a1, a2⟩ := x
  obtain ⟨b0, b1, b2⟩ := y
  by_cases h0 : a0 = b0
  rotate_left
  · rw [eqv_false (by intro h; injection h; exact h0 ‹_›)]
    have g0 := int_ne h0
    clear h0
    go_enter Try.func159, Try.ntmps159
    go_wp2
    go_ret
    exact ⟨rfl, (below_alloc _ _).alloc (by simp) _⟩
  subst h0
  by_cases h1 : a1 = b1
  rotate_left
  · rw [eqv_false (by intro h; injection h; exact h1 ‹_›)]
    have g1 := int_ne h1
    clear h1
    go_enter Try.func159, Try.ntmps159
    go_wp2
    go_ret
    exact ⟨rfl, (below_alloc _ _).alloc (by simp) _⟩
  subst h1
  by_cases h2 : a2 = b2
  rotate_left
  · rw [eqv_false (by intro h; injection h; exact h2 ‹_›)]
    have g2 := int_ne h2
    clear h2
    go_enter Try.func159, Try.ntmps159
    go_wp2
    go_ret
    exact ⟨rfl, (below_alloc _ _).alloc (by simp) _⟩
  subst h2
  rw [eqv_self]
  go_enter Try.func159, Try.ntmps159
  go_wp2
  go_ret
  exact ⟨rfl, (below_alloc _ _).alloc (by simp) _⟩
set_option maxHeartbeats 1000000 in
theorem eqFlank (x y : Flank) (w : World) : Calls Try.prog 160 #[x.v, y.v] w (RetB (eqv x y) w) := by
  obtain ⟨a0, a1, a2, a3⟩ := x
  obtain ⟨b0, b1, b2, b3⟩ := y
  by_cases h0 : a0 = b0
  rotate_left
  · rw [eqv_false (by intro h; injection h; exact h0 ‹_›)]
    have g0 := int_ne h0
    clear h0
    go_enter Try.func160, Try.ntmps160
    go_wp2
    go_ret
    exact ⟨rfl, (below_alloc _ _).alloc (by simp) _⟩
  subst h0
  by_cases h1 : a1 = b1
  rotate_left
  · rw [eqv_false (by intro h; injection h; exact h1 ‹_›)]
    have g1 := int_ne h1
    clear h1
    go_enter Try.func160, Try.ntmps160
    go_wp2
    go_ret
    exact ⟨rfl, (below_alloc _ _).alloc (by simp) _⟩
  subst h1
  by_cases h2 : a2 = b2
  rotate_left
  · rw [eqv_false (by intro h; injection h; exact h2 ‹_›)]
    have g2 := int_ne h2
    clear h2
    go_enter Try.func160, Try.ntmps160
    go_wp2
    go_ret
    exact ⟨rfl, (below_alloc _ _).alloc (by simp) _⟩
  subst h2
  by_cases h3 : a3 = b3
  rotate_left
  · rw [eqv_false (by intro h; injection h; exact h3 ‹_›)]
    have g3 := int_ne h3
    clear h3
    go_enter Try.func160, Try.ntmps160
    go_wp2
    go_ret
    exact ⟨rfl, (below_alloc _ _).alloc (by simp) _⟩
  subst h3
  rw [eqv_self]
  go_enter Try.func160, Try.ntmps160
  go_wp2
  go_ret
  exact ⟨rfl, (below_alloc _ _).alloc (by simp) _⟩
set_option maxRecDepth 100000 in
set_option maxHeartbeats 2000000 in
theorem eqStepS {ok ok' : Nat → Prop} (A0 A1 : Option Addr) (c0 c1 : Nat) (xs ys : List Step) (w : World) (hx : stepK.C w ok A0 xs) (hy : stepK.C w ok' A1 ys) :
    Calls Try.prog 97 #[.slice A0 xs.length c0, .slice A1 ys.length c1] w (RetB (eqv xs ys) w) := by
  have hmx := hx.1
  have hmy := hy.1
  by_cases hl : xs.length = ys.length
  rotate_left
  · rw [eqv_false (fun h => hl (congrArg List.length h))]
    have hlb := len_ne hl
    clear hl
    go_enter Try.func97, Try.ntmps97
    go_wp2
    go_ret
    exact ⟨rfl, Below.refl _ _⟩
  have hlb := len_eq hl
  have HL := Lib.hid hl
  clear hl
  go_enter Try.func97, Try.ntmps97
  go_wp2
  go_loopw [5] (fun i wr => ∃ k : Nat, k ≤ xs.length ∧ i = .int .i64 k ∧ Hid (xs.take k = ys.take k) ∧ Below w.heap.size w wr) (fun i _ => xs.length - (intOf i).toNat)
  case atStart => exact ⟨0, Nat.zero_le _, rfl, Lib.hid rfl, Below.refl _ _⟩
  case round =>
    obtain ⟨k, hk, rfl, HT, hb⟩ := hrel
    by_cases hlt : k < xs.length
    · have i0 : (0 : Int) ≤ (k : Int) := Int.natCast_nonneg _
      have i1 : (k : Int) < (xs.length : Int) := by omega
      have i2 : (k : Int) < (ys.length : Int) := by have := HL.out; omega
      obtain ⟨a0, rfl, p0, p1, E0, gp0, gp1⟩ := stepK_at (Kn.C_below hb hx) k hlt
      obtain ⟨a1, rfl, q0, q1, E1, gq0, gq1⟩ := stepK_at (Kn.C_below hb hy) k (HL.out ▸ hlt)
      by_cases he : (⟨p0, p1⟩ : Step) = (⟨q0, q1⟩ : Step)
      · have HE : Hid (eqv (⟨p0, p1⟩ : Step) (⟨q0, q1⟩ : Step) = true) := Lib.hid (eqv_true he)
        have HN : Hid (xs.take (k + 1) = ys.take (k + 1)) := Lib.hid (take_eq_snoc HT.out (by rw [← he]; exact E0.out) E1.out)
        clear he
        go_wp2
        go_region_held3 (fun w' => w'.cell? (a0.add (k * 2)) = some (.int .i64 p0) ∧ w'.cell? ⟨(a0.add (k * 2)).block, (a0.add (k * 2)).off + 1, none⟩ = some (.int .i64 p1) ∧ w'.cell? (a1.add (k * 2)) = some (.int .i64 q0) ∧ w'.cell? ⟨(a1.add (k * 2)).block, (a1.add (k * 2)).off + 1, none⟩ = some (.int .i64 q1)) (first | exact ⟨cell_below hb1 gp0, cell_below hb1 gp1, cell_below hb1 gq0, cell_below hb1 gq1⟩ | go_keep)
          (first | (go_at_call 158; refine (eqStep (⟨p0, p1⟩ : Step) (⟨q0, q1⟩ : Step) _).mono ?_; rintro e w1 ⟨rfl, hb1⟩; rw [HE.out]))
        go_wp2
        go_roundw
        case rel => exact ⟨k + 1, by omega, by go_num, HN, hb.drew.trans (hb1.mono hb.size)⟩
        case measure => simp [intOf]; omega
      · have HE : Hid (eqv (⟨p0, p1⟩ : Step) (⟨q0, q1⟩ : Step) = false) := Lib.hid (eqv_false he)
        have HN : Hid (eqv xs ys = false) := Lib.hid (eqv_false (take_ne E0.out E1.out he))
        clear he
        go_wp2
        go_region_held3 (fun w' => w'.cell? (a0.add (k * 2)) = some (.int .i64 p0) ∧ w'.cell? ⟨(a0.add (k * 2)).block, (a0.add (k * 2)).off + 1, none⟩ = some (.int .i64 p1) ∧ w'.cell? (a1.add (k * 2)) = some (.int .i64 q0) ∧ w'.cell? ⟨(a1.add (k * 2)).block, (a1.add (k * 2)).off + 1, none⟩ = some (.int .i64 q1)) (first | exact ⟨cell_below hb1 gp0, cell_below hb1 gp1, cell_below hb1 gq0, cell_below hb1 gq1⟩ | go_keep)
          (first | (go_at_call 158; refine (eqStep (⟨p0, p1⟩ : Step) (⟨q0, q1⟩ : Step) _).mono ?_; rintro e w1 ⟨rfl, hb1⟩; rw [HE.out]))
        go_wp2
        go_ret
        exact ⟨by rw [HN.out]; rfl, hb.drew.trans (hb1.mono hb.size)⟩
    · obtain rfl : k = xs.length := by omega
      have HN : Hid (eqv xs ys = true) := Lib.hid (eqv_true (by have := HT.out; rw [List.take_length, HL.out, List.take_length] at this; exact this))
      go_wp2
      go_ret
      exact ⟨by rw [HN.out]; rfl, hb⟩
set_option maxRecDepth 100000 in
set_option maxHeartbeats 2000000 in
theorem eqLieS {ok ok' : Nat → Prop} (A0 A1 : Option Addr) (c0 c1 : Nat) (xs ys : List Lie) (w : World) (hx : lieK.C w ok A0 xs) (hy : lieK.C w ok' A1 ys) :
    Calls Try.prog 35 #[.slice A0 xs.length c0, .slice A1 ys.length c1] w (RetB (eqv xs ys) w) := by
  have hmx := hx.1
  have hmy := hy.1
  by_cases hl : xs.length = ys.length
  rotate_left
  · rw [eqv_false (fun h => hl (congrArg List.length h))]
    have hlb := len_ne hl
    clear hl
    go_enter Try.func35, Try.ntmps35
    go_wp2
    go_ret
    exact ⟨rfl, Below.refl _ _⟩
  have hlb := len_eq hl
  have HL := Lib.hid hl
  clear hl
  go_enter Try.func35, Try.ntmps35
  go_wp2
  go_loopw [5] (fun i wr => ∃ k : Nat, k ≤ xs.length ∧ i = .int .i64 k ∧ Hid (xs.take k = ys.take k) ∧ Below w.heap.size w wr) (fun i _ => xs.length - (intOf i).toNat)
  case atStart => exact ⟨0, Nat.zero_le _, rfl, Lib.hid rfl, Below.refl _ _⟩
  case round =>
    obtain ⟨k, hk, rfl, HT, hb⟩ := hrel
    by_cases hlt : k < xs.length
    · have i0 : (0 : Int) ≤ (k : Int) := Int.natCast_nonneg _
      have i1 : (k : Int) < (xs.length : Int) := by omega
      have i2 : (k : Int) < (ys.length : Int) := by have := HL.out; omega
      obtain ⟨a0, rfl, p0, p1, E0, gp0, gp1⟩ := lieK_at (Kn.C_below hb hx) k hlt
      obtain ⟨a1, rfl, q0, q1, E1, gq0, gq1⟩ := lieK_at (Kn.C_below hb hy) k (HL.out ▸ hlt)
      by_cases he : (⟨p0, p1⟩ : Lie) = (⟨q0, q1⟩ : Lie)
      · have HE : Hid (eqv (⟨p0, p1⟩ : Lie) (⟨q0, q1⟩ : Lie) = true) := Lib.hid (eqv_true he)
        have HN : Hid (xs.take (k + 1) = ys.take (k + 1)) := Lib.hid (take_eq_snoc HT.out (by rw [← he]; exact E0.out) E1.out)
        clear he
        go_wp2
        go_region_held3 (fun w' => w'.cell? (a0.add (k * 2)) = some (.int .i64 p0) ∧ w'.cell? ⟨(a0.add (k * 2)).block, (a0.add (k * 2)).off + 1, none⟩ = some (.int .i64 p1) ∧ w'.cell? (a1.add (k * 2)) = some (.int .i64 q0) ∧ w'.cell? ⟨(a1.add (k * 2)).block, (a1.add (k * 2)).off + 1, none⟩ = some (.int .i64 q1)) (first | exact ⟨cell_below hb1 gp0, cell_below hb1 gp1, cell_below hb1 gq0, cell_below hb1 gq1⟩ | go_keep)
          (first | (go_at_call 103; refine (eqLie (⟨p0, p1⟩ : Lie) (⟨q0, q1⟩ : Lie) _).mono ?_; rintro e w1 ⟨rfl, hb1⟩; rw [HE.out]))
        go_wp2
        go_roundw
        case rel => exact ⟨k + 1, by omega, by go_num, HN, hb.drew.trans (hb1.mono hb.size)⟩
        case measure => simp [intOf]; omega
      · have HE : Hid (eqv (⟨p0, p1⟩ : Lie) (⟨q0, q1⟩ : Lie) = false) := Lib.hid (eqv_false he)
        have HN : Hid (eqv xs ys = false) := Lib.hid (eqv_false (take_ne E0.out E1.out he))
        clear he
        go_wp2
        go_region_held3 (fun w' => w'.cell? (a0.add (k * 2)) = some (.int .i64 p0) ∧ w'.cell? ⟨(a0.add (k * 2)).block, (a0.add (k * 2)).off + 1, none⟩ = some (.int .i64 p1) ∧ w'.cell? (a1.add (k * 2)) = some (.int .i64 q0) ∧ w'.cell? ⟨(a1.add (k * 2)).block, (a1.add (k * 2)).off + 1, none⟩ = some (.int .i64 q1)) (first | exact ⟨cell_below hb1 gp0, cell_below hb1 gp1, cell_below hb1 gq0, cell_below hb1 gq1⟩ | go_keep)
          (first | (go_at_call 103; refine (eqLie (⟨p0, p1⟩ : Lie) (⟨q0, q1⟩ : Lie) _).mono ?_; rintro e w1 ⟨rfl, hb1⟩; rw [HE.out]))
        go_wp2
        go_ret
        exact ⟨by rw [HN.out]; rfl, hb.drew.trans (hb1.mono hb.size)⟩
    · obtain rfl : k = xs.length := by omega
      have HN : Hid (eqv xs ys = true) := Lib.hid (eqv_true (by have := HT.out; rw [List.take_length, HL.out, List.take_length] at this; exact this))
      go_wp2
      go_ret
      exact ⟨by rw [HN.out]; rfl, hb⟩
set_option maxRecDepth 100000 in
set_option maxHeartbeats 2000000 in
theorem eqPartS {ok ok' : Nat → Prop} (A0 A1 : Option Addr) (c0 c1 : Nat) (xs ys : List Part) (w : World) (hx : partK.C w ok A0 xs) (hy : partK.C w ok' A1 ys) :
    Calls Try.prog 99 #[.slice A0 xs.length c0, .slice A1 ys.length c1] w (RetB (eqv xs ys) w) := by
  have hmx := hx.1
  have hmy := hy.1
  by_cases hl : xs.length = ys.length
  rotate_left
  · rw [eqv_false (fun h => hl (congrArg List.length h))]
    have hlb := len_ne hl
    clear hl
    go_enter Try.func99, Try.ntmps99
    go_wp2
    go_ret
    exact ⟨rfl, Below.refl _ _⟩
  have hlb := len_eq hl
  have HL := Lib.hid hl
  clear hl
  go_enter Try.func99, Try.ntmps99
  go_wp2
  go_loopw [5] (fun i wr => ∃ k : Nat, k ≤ xs.length ∧ i = .int .i64 k ∧ Hid (xs.take k = ys.take k) ∧ Below w.heap.size w wr) (fun i _ => xs.length - (intOf i).toNat)
  case atStart => exact ⟨0, Nat.zero_le _, rfl, Lib.hid rfl, Below.refl _ _⟩
  case round =>
    obtain ⟨k, hk, rfl, HT, hb⟩ := hrel
    by_cases hlt : k < xs.length
    · have i0 : (0 : Int) ≤ (k : Int) := Int.natCast_nonneg _
      have i1 : (k : Int) < (xs.length : Int) := by omega
      have i2 : (k : Int) < (ys.length : Int) := by have := HL.out; omega
      obtain ⟨a0, rfl, p0, p1, p2, E0, gp0, gp1, gp2⟩ := partK_at (Kn.C_below hb hx) k hlt
      obtain ⟨a1, rfl, q0, q1, q2, E1, gq0, gq1, gq2⟩ := partK_at (Kn.C_below hb hy) k (HL.out ▸ hlt)
      by_cases he : (⟨p0, p1, p2⟩ : Part) = (⟨q0, q1, q2⟩ : Part)
      · have HE : Hid (eqv (⟨p0, p1, p2⟩ : Part) (⟨q0, q1, q2⟩ : Part) = true) := Lib.hid (eqv_true he)
        have HN : Hid (xs.take (k + 1) = ys.take (k + 1)) := Lib.hid (take_eq_snoc HT.out (by rw [← he]; exact E0.out) E1.out)
        clear he
        go_wp2
        go_region_held3 (fun w' => w'.cell? (a0.add (k * 3)) = some (.int .i64 p0) ∧ w'.cell? ⟨(a0.add (k * 3)).block, (a0.add (k * 3)).off + 1, none⟩ = some (.int .i64 p1) ∧ w'.cell? ⟨(a0.add (k * 3)).block, (a0.add (k * 3)).off + 2, none⟩ = some (.int .i64 p2) ∧ w'.cell? (a1.add (k * 3)) = some (.int .i64 q0) ∧ w'.cell? ⟨(a1.add (k * 3)).block, (a1.add (k * 3)).off + 1, none⟩ = some (.int .i64 q1) ∧ w'.cell? ⟨(a1.add (k * 3)).block, (a1.add (k * 3)).off + 2, none⟩ = some (.int .i64 q2)) (first | exact ⟨cell_below hb1 gp0, cell_below hb1 gp1, cell_below hb1 gp2, cell_below hb1 gq0, cell_below hb1 gq1, cell_below hb1 gq2⟩ | go_keep)
          (first | (go_at_call 159; refine (eqPart (⟨p0, p1, p2⟩ : Part) (⟨q0, q1, q2⟩ : Part) _).mono ?_; rintro e w1 ⟨rfl, hb1⟩; rw [HE.out]))
        go_wp2
        go_roundw
        case rel => exact ⟨k + 1, by omega, by go_num, HN, hb.drew.trans (hb1.mono hb.size)⟩
        case measure => simp [intOf]; omega
      · have HE : Hid (eqv (⟨p0, p1, p2⟩ : Part) (⟨q0, q1, q2⟩ : Part) = false) := Lib.hid (eqv_false he)
        have HN : Hid (eqv xs ys = false) := Lib.hid (eqv_false (take_ne E0.out E1.out he))
        clear he
        go_wp2
        go_region_held3 (fun w' => w'.cell? (a0.add (k * 3)) = some (.int .i64 p0) ∧ w'.cell? ⟨(a0.add (k * 3)).block, (a0.add (k * 3)).off + 1, none⟩ = some (.int .i64 p1) ∧ w'.cell? ⟨(a0.add (k * 3)).block, (a0.add (k * 3)).off + 2, none⟩ = some (.int .i64 p2) ∧ w'.cell? (a1.add (k * 3)) = some (.int .i64 q0) ∧ w'.cell? ⟨(a1.add (k * 3)).block, (a1.add (k * 3)).off + 1, none⟩ = some (.int .i64 q1) ∧ w'.cell? ⟨(a1.add (k * 3)).block, (a1.add (k * 3)).off + 2, none⟩ = some (.int .i64 q2)) (first | exact ⟨cell_below hb1 gp0, cell_below hb1 gp1, cell_below hb1 gp2, cell_below hb1 gq0, cell_below hb1 gq1, cell_below hb1 gq2⟩ | go_keep)
          (first | (go_at_call 159; refine (eqPart (⟨p0, p1, p2⟩ : Part) (⟨q0, q1, q2⟩ : Part) _).mono ?_; rintro e w1 ⟨rfl, hb1⟩; rw [HE.out]))
        go_wp2
        go_ret
        exact ⟨by rw [HN.out]; rfl, hb.drew.trans (hb1.mono hb.size)⟩
    · obtain rfl : k = xs.length := by omega
      have HN : Hid (eqv xs ys = true) := Lib.hid (eqv_true (by have := HT.out; rw [List.take_length, HL.out, List.take_length] at this; exact this))
      go_wp2
      go_ret
      exact ⟨by rw [HN.out]; rfl, hb⟩
set_option maxRecDepth 100000 in
set_option maxHeartbeats 2000000 in
theorem eqFlankS {ok ok' : Nat → Prop} (A0 A1 : Option Addr) (c0 c1 : Nat) (xs ys : List Flank) (w : World) (hx : flankK.C w ok A0 xs) (hy : flankK.C w ok' A1 ys) :
    Calls Try.prog 100 #[.slice A0 xs.length c0, .slice A1 ys.length c1] w (RetB (eqv xs ys) w) := by
  have hmx := hx.1
  have hmy := hy.1
  by_cases hl : xs.length = ys.length
  rotate_left
  · rw [eqv_false (fun h => hl (congrArg List.length h))]
    have hlb := len_ne hl
    clear hl
    go_enter Try.func100, Try.ntmps100
    go_wp2
    go_ret
    exact ⟨rfl, Below.refl _ _⟩
  have hlb := len_eq hl
  have HL := Lib.hid hl
  clear hl
  go_enter Try.func100, Try.ntmps100
  go_wp2
  go_loopw [5] (fun i wr => ∃ k : Nat, k ≤ xs.length ∧ i = .int .i64 k ∧ Hid (xs.take k = ys.take k) ∧ Below w.heap.size w wr) (fun i _ => xs.length - (intOf i).toNat)
  case atStart => exact ⟨0, Nat.zero_le _, rfl, Lib.hid rfl, Below.refl _ _⟩
  case round =>
    obtain ⟨k, hk, rfl, HT, hb⟩ := hrel
    by_cases hlt : k < xs.length
    · have i0 : (0 : Int) ≤ (k : Int) := Int.natCast_nonneg _
      have i1 : (k : Int) < (xs.length : Int) := by omega
      have i2 : (k : Int) < (ys.length : Int) := by have := HL.out; omega
      obtain ⟨a0, rfl, p0, p1, p2, p3, E0, gp0, gp1, gp2, gp3⟩ := flankK_at (Kn.C_below hb hx) k hlt
      obtain ⟨a1, rfl, q0, q1, q2, q3, E1, gq0, gq1, gq2, gq3⟩ := flankK_at (Kn.C_below hb hy) k (HL.out ▸ hlt)
      by_cases he : (⟨p0, p1, p2, p3⟩ : Flank) = (⟨q0, q1, q2, q3⟩ : Flank)
      · have HE : Hid (eqv (⟨p0, p1, p2, p3⟩ : Flank) (⟨q0, q1, q2, q3⟩ : Flank) = true) := Lib.hid (eqv_true he)
        have HN : Hid (xs.take (k + 1) = ys.take (k + 1)) := Lib.hid (take_eq_snoc HT.out (by rw [← he]; exact E0.out) E1.out)
        clear he
        go_wp2
        go_region_held3 (fun w' => w'.cell? (a0.add (k * 4)) = some (.int .i64 p0) ∧ w'.cell? ⟨(a0.add (k * 4)).block, (a0.add (k * 4)).off + 1, none⟩ = some (.int .i64 p1) ∧ w'.cell? ⟨(a0.add (k * 4)).block, (a0.add (k * 4)).off + 2, none⟩ = some (.int .i64 p2) ∧ w'.cell? ⟨(a0.add (k * 4)).block, (a0.add (k * 4)).off + 3, none⟩ = some (.int .i64 p3) ∧ w'.cell? (a1.add (k * 4)) = some (.int .i64 q0) ∧ w'.cell? ⟨(a1.add (k * 4)).block, (a1.add (k * 4)).off + 1, none⟩ = some (.int .i64 q1) ∧ w'.cell? ⟨(a1.add (k * 4)).block, (a1.add (k * 4)).off + 2, none⟩ = some (.int .i64 q2) ∧ w'.cell? ⟨(a1.add (k * 4)).block, (a1.add (k * 4)).off + 3, none⟩ = some (.int .i64 q3)) (first | exact ⟨cell_below hb1 gp0, cell_below hb1 gp1, cell_below hb1 gp2, cell_below hb1 gp3, cell_below hb1 gq0, cell_below hb1 gq1, cell_below hb1 gq2, cell_below hb1 gq3⟩ | go_keep)
          (first | (go_at_call 160; refine (eqFlank (⟨p0, p1, p2, p3⟩ : Flank) (⟨q0, q1, q2, q3⟩ : Flank) _).mono ?_; rintro e w1 ⟨rfl, hb1⟩; rw [HE.out]))
        go_wp2
        go_roundw
        case rel => exact ⟨k + 1, by omega, by go_num, HN, hb.drew.trans (hb1.mono hb.size)⟩
        case measure => simp [intOf]; omega
      · have HE : Hid (eqv (⟨p0, p1, p2, p3⟩ : Flank) (⟨q0, q1, q2, q3⟩ : Flank) = false) := Lib.hid (eqv_false he)
        have HN : Hid (eqv xs ys = false) := Lib.hid (eqv_false (take_ne E0.out E1.out he))
        clear he
        go_wp2
        go_region_held3 (fun w' => w'.cell? (a0.add (k * 4)) = some (.int .i64 p0) ∧ w'.cell? ⟨(a0.add (k * 4)).block, (a0.add (k * 4)).off + 1, none⟩ = some (.int .i64 p1) ∧ w'.cell? ⟨(a0.add (k * 4)).block, (a0.add (k * 4)).off + 2, none⟩ = some (.int .i64 p2) ∧ w'.cell? ⟨(a0.add (k * 4)).block, (a0.add (k * 4)).off + 3, none⟩ = some (.int .i64 p3) ∧ w'.cell? (a1.add (k * 4)) = some (.int .i64 q0) ∧ w'.cell? ⟨(a1.add (k * 4)).block, (a1.add (k * 4)).off + 1, none⟩ = some (.int .i64 q1) ∧ w'.cell? ⟨(a1.add (k * 4)).block, (a1.add (k * 4)).off + 2, none⟩ = some (.int .i64 q2) ∧ w'.cell? ⟨(a1.add (k * 4)).block, (a1.add (k * 4)).off + 3, none⟩ = some (.int .i64 q3)) (first | exact ⟨cell_below hb1 gp0, cell_below hb1 gp1, cell_below hb1 gp2, cell_below hb1 gp3, cell_below hb1 gq0, cell_below hb1 gq1, cell_below hb1 gq2, cell_below hb1 gq3⟩ | go_keep)
          (first | (go_at_call 160; refine (eqFlank (⟨p0, p1, p2, p3⟩ : Flank) (⟨q0, q1, q2, q3⟩ : Flank) _).mono ?_; rintro e w1 ⟨rfl, hb1⟩; rw [HE.out]))
        go_wp2
        go_ret
        exact ⟨by rw [HN.out]; rfl, hb.drew.trans (hb1.mono hb.size)⟩
    · obtain rfl : k = xs.length := by omega
      have HN : Hid (eqv xs ys = true) := Lib.hid (eqv_true (by have := HT.out; rw [List.take_length, HL.out, List.take_length] at this; exact this))
      go_wp2
      go_ret
      exact ⟨by rw [HN.out]; rfl, hb⟩
set_option maxRecDepth 100000 in
set_option maxHeartbeats 2000000 in
theorem eqIntS {ok ok' : Nat → Prop} (A0 A1 : Option Addr) (c0 c1 : Nat) (xs ys : List Int) (w : World) (hx : Kn.int.C w ok A0 xs) (hy : Kn.int.C w ok' A1 ys) :
    Calls Try.prog 98 #[.slice A0 xs.length c0, .slice A1 ys.length c1] w (RetB (eqv xs ys) w) := by
  have hmx := hx.1
  have hmy := hy.1
  by_cases hl : xs.length = ys.length
  rotate_left
  · rw [eqv_false (fun h => hl (congrArg List.length h))]
    have hlb := len_ne hl
    clear hl
    go_enter Try.func98, Try.ntmps98
    go_wp2
    go_ret
    exact ⟨rfl, Below.refl _ _⟩
  have hlb := len_eq hl
  have HL := Lib.hid hl
  clear hl
  go_enter Try.func98, Try.ntmps98
  go_wp2
  go_loopw [5] (fun i wr => ∃ k : Nat, k ≤ xs.length ∧ i = .int .i64 k ∧ Hid (xs.take k = ys.take k) ∧ Below w.heap.size w wr) (fun i _ => xs.length - (intOf i).toNat)
  case atStart => exact ⟨0, Nat.zero_le _, rfl, Lib.hid rfl, Below.refl _ _⟩
  case round =>
    obtain ⟨k, hk, rfl, HT, hb⟩ := hrel
    by_cases hlt : k < xs.length
    · have i0 : (0 : Int) ≤ (k : Int) := Int.natCast_nonneg _
      have i1 : (k : Int) < (xs.length : Int) := by omega
      have i2 : (k : Int) < (ys.length : Int) := by have := HL.out; omega
      obtain ⟨a0, rfl, p0, E0, gp0⟩ := int_at (Kn.C_below hb hx) k hlt
      obtain ⟨a1, rfl, q0, E1, gq0⟩ := int_at (Kn.C_below hb hy) k (HL.out ▸ hlt)
      by_cases he : p0 = q0
      · have d0 : (p0 != q0) = false := by simpa using he
        have HE : Hid (eqv p0 q0 = true) := Lib.hid (eqv_true he)
        have HN : Hid (xs.take (k + 1) = ys.take (k + 1)) := Lib.hid (take_eq_snoc HT.out (by rw [← he]; exact E0.out) E1.out)
        clear he
        go_wp2
        go_quiet (fail)
        go_wp2
        go_roundw
        case rel => exact ⟨k + 1, by omega, by go_num, HN, below_drewN hb _⟩
        case measure => simp [intOf]; omega
      · have d0 : (p0 != q0) = true := int_ne he
        have HE : Hid (eqv p0 q0 = false) := Lib.hid (eqv_false he)
        have HN : Hid (eqv xs ys = false) := Lib.hid (eqv_false (take_ne E0.out E1.out he))
        clear he
        go_wp2
        go_quiet (fail)
        go_wp2
        go_ret
        exact ⟨by rw [HN.out]; rfl, below_drewN hb _⟩
    · obtain rfl : k = xs.length := by omega
      have HN : Hid (eqv xs ys = true) := Lib.hid (eqv_true (by have := HT.out; rw [List.take_length, HL.out, List.take_length] at this; exact this))
      go_wp2
      go_ret
      exact ⟨by rw [HN.out]; rfl, hb⟩
set_option maxRecDepth 100000 in
set_option maxHeartbeats 2000000 in
theorem eqRoute {ok ok' : Nat → Prop} (x0 x1 : Route) (A02 A03 A04 A05 A06 A07 A12 A13 A14 A15 A16 A17 : Option Addr) (c02 c03 c04 c05 c06 c07 c12 c13 c14 c15 c16 c17 : Nat) (w : World) (h02 : stepK.C w ok A02 x0.steps) (h03 : lieK.C w ok A03 x0.lies) (h04 : Kn.int.C w ok A04 x0.crosses) (h05 : partK.C w ok A05 x0.parts) (h06 : partK.C w ok A06 x0.over) (h07 : flankK.C w ok A07 x0.flanks) (h12 : stepK.C w ok' A12 x1.steps) (h13 : lieK.C w ok' A13 x1.lies) (h14 : Kn.int.C w ok' A14 x1.crosses) (h15 : partK.C w ok' A15 x1.parts) (h16 : partK.C w ok' A16 x1.over) (h17 : flankK.C w ok' A17 x1.flanks) :
    Calls Try.prog 32 #[.agg #[.int .i64 x0.frm, .int .i64 x0.til, .slice A02 x0.steps.length c02, .slice A03 x0.lies.length c03, .slice A04 x0.crosses.length c04, .slice A05 x0.parts.length c05, .slice A06 x0.over.length c06, .slice A07 x0.flanks.length c07], .agg #[.int .i64 x1.frm, .int .i64 x1.til, .slice A12 x1.steps.length c12, .slice A13 x1.lies.length c13, .slice A14 x1.crosses.length c14, .slice A15 x1.parts.length c15, .slice A16 x1.over.length c16, .slice A17 x1.flanks.length c17]] w (RetB (eqv x0 x1) w) := by
  obtain ⟨a0, a1, a2, a3, a4, a5, a6, a7⟩ := x0
  obtain ⟨b0, b1, b2, b3, b4, b5, b6, b7⟩ := x1
  simp only at h02 h03 h04 h05 h06 h07 h12 h13 h14 h15 h16 h17
  by_cases h0 : a0 = b0
  rotate_left
  · rw [eqv_false (by intro h; injection h; exact h0 ‹_›)]
    have g0 := int_ne h0
    clear h0
    go_enter Try.func32, Try.ntmps32
    go_wp2
    go_ret
    exact ⟨rfl, ((below_alloc w _).alloc (by simp) _)⟩
  subst h0
  by_cases h1 : a1 = b1
  rotate_left
  · rw [eqv_false (by intro h; injection h; exact h1 ‹_›)]
    have g1 := int_ne h1
    clear h1
    go_enter Try.func32, Try.ntmps32
    go_wp2
    go_ret
    exact ⟨rfl, ((below_alloc w _).alloc (by simp) _)⟩
  subst h1
  by_cases h2 : a2 = b2
  rotate_left
  · rw [eqv_false (by intro h; injection h; exact h2 ‹_›)]
    have E : Hid (eqv a2 b2 = false) := Lib.hid (eqv_false h2)
    clear h2
    go_enter Try.func32, Try.ntmps32
    go_wp2_with fail
    refine (eqStepS _ _ _ _ _ _ _ (Kn.C_below ((below_alloc w _).alloc (by simp) _) h02) (Kn.C_below ((below_alloc w _).alloc (by simp) _) h12)).mono ?_
    rintro e w2 ⟨rfl, hb2⟩
    obtain ⟨hc2, hf2⟩ := bcell hb2
    rw [E.out]
    have B2 := ((below_alloc w _).alloc (by simp) _).trans (hb2.mono (by simp; omega))
    have z2 : w.heap.size < w2.heap.size := by have := hb2.size; simp at this; omega
    have y2 : w.heap.size + 1 < w2.heap.size := by have := hb2.size; simp at this; omega
    go_wp2
    go_ret
    exact ⟨rfl, B2⟩
  subst h2
  by_cases h3 : a3 = b3
  rotate_left
  · rw [eqv_false (by intro h; injection h; exact h3 ‹_›)]
    have E : Hid (eqv a3 b3 = false) := Lib.hid (eqv_false h3)
    clear h3
    go_enter Try.func32, Try.ntmps32
    go_wp2_with fail
    refine (eqStepS _ _ _ _ _ _ _ (Kn.C_below ((below_alloc w _).alloc (by simp) _) h02) (Kn.C_below ((below_alloc w _).alloc (by simp) _) h12)).mono ?_
    rintro e w2 ⟨rfl, hb2⟩
    obtain ⟨hc2, hf2⟩ := bcell hb2
    rw [eqv_self]
    have B2 := ((below_alloc w _).alloc (by simp) _).trans (hb2.mono (by simp; omega))
    have z2 : w.heap.size < w2.heap.size := by have := hb2.size; simp at this; omega
    have y2 : w.heap.size + 1 < w2.heap.size := by have := hb2.size; simp at this; omega
    go_wp2_with fail
    refine (eqLieS _ _ _ _ _ _ _ (Kn.C_below B2 h03) (Kn.C_below B2 h13)).mono ?_
    rintro e w3 ⟨rfl, hb3⟩
    obtain ⟨hc3, hf3⟩ := bcell hb3
    rw [E.out]
    have B3 := B2.trans (hb3.mono B2.size)
    have z3 : w.heap.size < w3.heap.size := by have := hb3.size; omega
    have y3 : w.heap.size + 1 < w3.heap.size := by have := hb3.size; omega
    go_wp2
    go_ret
    exact ⟨rfl, B3⟩
  subst h3
  by_cases h4 : a4 = b4
  rotate_left
  · rw [eqv_false (by intro h; injection h; exact h4 ‹_›)]
    have E : Hid (eqv a4 b4 = false) := Lib.hid (eqv_false h4)
    clear h4
    go_enter Try.func32, Try.ntmps32
    go_wp2_with fail
    refine (eqStepS _ _ _ _ _ _ _ (Kn.C_below ((below_alloc w _).alloc (by simp) _) h02) (Kn.C_below ((below_alloc w _).alloc (by simp) _) h12)).mono ?_
    rintro e w2 ⟨rfl, hb2⟩
    obtain ⟨hc2, hf2⟩ := bcell hb2
    rw [eqv_self]
    have B2 := ((below_alloc w _).alloc (by simp) _).trans (hb2.mono (by simp; omega))
    have z2 : w.heap.size < w2.heap.size := by have := hb2.size; simp at this; omega
    have y2 : w.heap.size + 1 < w2.heap.size := by have := hb2.size; simp at this; omega
    go_wp2_with fail
    refine (eqLieS _ _ _ _ _ _ _ (Kn.C_below B2 h03) (Kn.C_below B2 h13)).mono ?_
    rintro e w3 ⟨rfl, hb3⟩
    obtain ⟨hc3, hf3⟩ := bcell hb3
    rw [eqv_self]
    have B3 := B2.trans (hb3.mono B2.size)
    have z3 : w.heap.size < w3.heap.size := by have := hb3.size; omega
    have y3 : w.heap.size + 1 < w3.heap.size := by have := hb3.size; omega
    go_wp2_with fail
    refine (eqIntS _ _ _ _ _ _ _ (Kn.C_below B3 h04) (Kn.C_below B3 h14)).mono ?_
    rintro e w4 ⟨rfl, hb4⟩
    obtain ⟨hc4, hf4⟩ := bcell hb4
    rw [E.out]
    have B4 := B3.trans (hb4.mono B3.size)
    have z4 : w.heap.size < w4.heap.size := by have := hb4.size; omega
    have y4 : w.heap.size + 1 < w4.heap.size := by have := hb4.size; omega
    go_wp2
    go_ret
    exact ⟨rfl, B4⟩
  subst h4
  by_cases h5 : a5 = b5
  rotate_left
  · rw [eqv_false (by intro h; injection h; exact h5 ‹_›)]
    have E : Hid (eqv a5 b5 = false) := Lib.hid (eqv_false h5)
    clear h5
    go_enter Try.func32, Try.ntmps32
    go_wp2_with fail
    refine (eqStepS _ _ _ _ _ _ _ (Kn.C_below ((below_alloc w _).alloc (by simp) _) h02) (Kn.C_below ((below_alloc w _).alloc (by simp) _) h12)).mono ?_
    rintro e w2 ⟨rfl, hb2⟩
    obtain ⟨hc2, hf2⟩ := bcell hb2
    rw [eqv_self]
    have B2 := ((below_alloc w _).alloc (by simp) _).trans (hb2.mono (by simp; omega))
    have z2 : w.heap.size < w2.heap.size := by have := hb2.size; simp at this; omega
    have y2 : w.heap.size + 1 < w2.heap.size := by have := hb2.size; simp at this; omega
    go_wp2_with fail
    refine (eqLieS _ _ _ _ _ _ _ (Kn.C_below B2 h03) (Kn.C_below B2 h13)).mono ?_
    rintro e w3 ⟨rfl, hb3⟩
    obtain ⟨hc3, hf3⟩ := bcell hb3
    rw [eqv_self]
    have B3 := B2.trans (hb3.mono B2.size)
    have z3 : w.heap.size < w3.heap.size := by have := hb3.size; omega
    have y3 : w.heap.size + 1 < w3.heap.size := by have := hb3.size; omega
    go_wp2_with fail
    refine (eqIntS _ _ _ _ _ _ _ (Kn.C_below B3 h04) (Kn.C_below B3 h14)).mono ?_
    rintro e w4 ⟨rfl, hb4⟩
    obtain ⟨hc4, hf4⟩ := bcell hb4
    rw [eqv_self]
    have B4 := B3.trans (hb4.mono B3.size)
    have z4 : w.heap.size < w4.heap.size := by have := hb4.size; omega
    have y4 : w.heap.size + 1 < w4.heap.size := by have := hb4.size; omega
    go_wp2_with fail
    refine (eqPartS _ _ _ _ _ _ _ (Kn.C_below B4 h05) (Kn.C_below B4 h15)).mono ?_
    rintro e w5 ⟨rfl, hb5⟩
    obtain ⟨hc5, hf5⟩ := bcell hb5
    rw [E.out]
    have B5 := B4.trans (hb5.mono B4.size)
    have z5 : w.heap.size < w5.heap.size := by have := hb5.size; omega
    have y5 : w.heap.size + 1 < w5.heap.size := by have := hb5.size; omega
    go_wp2
    go_ret
    exact ⟨rfl, B5⟩
  subst h5
  by_cases h6 : a6 = b6
  rotate_left
  · rw [eqv_false (by intro h; injection h; exact h6 ‹_›)]
    have E : Hid (eqv a6 b6 = false) := Lib.hid (eqv_false h6)
    clear h6
    go_enter Try.func32, Try.ntmps32
    go_wp2_with fail
    refine (eqStepS _ _ _ _ _ _ _ (Kn.C_below ((below_alloc w _).alloc (by simp) _) h02) (Kn.C_below ((below_alloc w _).alloc (by simp) _) h12)).mono ?_
    rintro e w2 ⟨rfl, hb2⟩
    obtain ⟨hc2, hf2⟩ := bcell hb2
    rw [eqv_self]
    have B2 := ((below_alloc w _).alloc (by simp) _).trans (hb2.mono (by simp; omega))
    have z2 : w.heap.size < w2.heap.size := by have := hb2.size; simp at this; omega
    have y2 : w.heap.size + 1 < w2.heap.size := by have := hb2.size; simp at this; omega
    go_wp2_with fail
    refine (eqLieS _ _ _ _ _ _ _ (Kn.C_below B2 h03) (Kn.C_below B2 h13)).mono ?_
    rintro e w3 ⟨rfl, hb3⟩
    obtain ⟨hc3, hf3⟩ := bcell hb3
    rw [eqv_self]
    have B3 := B2.trans (hb3.mono B2.size)
    have z3 : w.heap.size < w3.heap.size := by have := hb3.size; omega
    have y3 : w.heap.size + 1 < w3.heap.size := by have := hb3.size; omega
    go_wp2_with fail
    refine (eqIntS _ _ _ _ _ _ _ (Kn.C_below B3 h04) (Kn.C_below B3 h14)).mono ?_
    rintro e w4 ⟨rfl, hb4⟩
    obtain ⟨hc4, hf4⟩ := bcell hb4
    rw [eqv_self]
    have B4 := B3.trans (hb4.mono B3.size)
    have z4 : w.heap.size < w4.heap.size := by have := hb4.size; omega
    have y4 : w.heap.size + 1 < w4.heap.size := by have := hb4.size; omega
    go_wp2_with fail
    refine (eqPartS _ _ _ _ _ _ _ (Kn.C_below B4 h05) (Kn.C_below B4 h15)).mono ?_
    rintro e w5 ⟨rfl, hb5⟩
    obtain ⟨hc5, hf5⟩ := bcell hb5
    rw [eqv_self]
    have B5 := B4.trans (hb5.mono B4.size)
    have z5 : w.heap.size < w5.heap.size := by have := hb5.size; omega
    have y5 : w.heap.size + 1 < w5.heap.size := by have := hb5.size; omega
    go_wp2_with fail
    refine (eqPartS _ _ _ _ _ _ _ (Kn.C_below B5 h06) (Kn.C_below B5 h16)).mono ?_
    rintro e w6 ⟨rfl, hb6⟩
    obtain ⟨hc6, hf6⟩ := bcell hb6
    rw [E.out]
    have B6 := B5.trans (hb6.mono B5.size)
    have z6 : w.heap.size < w6.heap.size := by have := hb6.size; omega
    have y6 : w.heap.size + 1 < w6.heap.size := by have := hb6.size; omega
    go_wp2
    go_ret
    exact ⟨rfl, B6⟩
  subst h6
  by_cases h7 : a7 = b7
  rotate_left
  · rw [eqv_false (by intro h; injection h; exact h7 ‹_›)]
    have E : Hid (eqv a7 b7 = false) := Lib.hid (eqv_false h7)
    clear h7
    go_enter Try.func32, Try.ntmps32
    go_wp2_with fail
    refine (eqStepS _ _ _ _ _ _ _ (Kn.C_below ((below_alloc w _).alloc (by simp) _) h02) (Kn.C_below ((below_alloc w _).alloc (by simp) _) h12)).mono ?_
    rintro e w2 ⟨rfl, hb2⟩
    obtain ⟨hc2, hf2⟩ := bcell hb2
    rw [eqv_self]
    have B2 := ((below_alloc w _).alloc (by simp) _).trans (hb2.mono (by simp; omega))
    have z2 : w.heap.size < w2.heap.size := by have := hb2.size; simp at this; omega
    have y2 : w.heap.size + 1 < w2.heap.size := by have := hb2.size; simp at this; omega
    go_wp2_with fail
    refine (eqLieS _ _ _ _ _ _ _ (Kn.C_below B2 h03) (Kn.C_below B2 h13)).mono ?_
    rintro e w3 ⟨rfl, hb3⟩
    obtain ⟨hc3, hf3⟩ := bcell hb3
    rw [eqv_self]
    have B3 := B2.trans (hb3.mono B2.size)
    have z3 : w.heap.size < w3.heap.size := by have := hb3.size; omega
    have y3 : w.heap.size + 1 < w3.heap.size := by have := hb3.size; omega
    go_wp2_with fail
    refine (eqIntS _ _ _ _ _ _ _ (Kn.C_below B3 h04) (Kn.C_below B3 h14)).mono ?_
    rintro e w4 ⟨rfl, hb4⟩
    obtain ⟨hc4, hf4⟩ := bcell hb4
    rw [eqv_self]
    have B4 := B3.trans (hb4.mono B3.size)
    have z4 : w.heap.size < w4.heap.size := by have := hb4.size; omega
    have y4 : w.heap.size + 1 < w4.heap.size := by have := hb4.size; omega
    go_wp2_with fail
    refine (eqPartS _ _ _ _ _ _ _ (Kn.C_below B4 h05) (Kn.C_below B4 h15)).mono ?_
    rintro e w5 ⟨rfl, hb5⟩
    obtain ⟨hc5, hf5⟩ := bcell hb5
    rw [eqv_self]
    have B5 := B4.trans (hb5.mono B4.size)
    have z5 : w.heap.size < w5.heap.size := by have := hb5.size; omega
    have y5 : w.heap.size + 1 < w5.heap.size := by have := hb5.size; omega
    go_wp2_with fail
    refine (eqPartS _ _ _ _ _ _ _ (Kn.C_below B5 h06) (Kn.C_below B5 h16)).mono ?_
    rintro e w6 ⟨rfl, hb6⟩
    obtain ⟨hc6, hf6⟩ := bcell hb6
    rw [eqv_self]
    have B6 := B5.trans (hb6.mono B5.size)
    have z6 : w.heap.size < w6.heap.size := by have := hb6.size; omega
    have y6 : w.heap.size + 1 < w6.heap.size := by have := hb6.size; omega
    go_wp2_with fail
    refine (eqFlankS _ _ _ _ _ _ _ (Kn.C_below B6 h07) (Kn.C_below B6 h17)).mono ?_
    rintro e w7 ⟨rfl, hb7⟩
    obtain ⟨hc7, hf7⟩ := bcell hb7
    rw [E.out]
    have B7 := B6.trans (hb7.mono B6.size)
    have z7 : w.heap.size < w7.heap.size := by have := hb7.size; omega
    have y7 : w.heap.size + 1 < w7.heap.size := by have := hb7.size; omega
    go_wp2
    go_ret
    exact ⟨rfl, B7⟩
  subst h7
  rw [eqv_self]
  go_enter Try.func32, Try.ntmps32
  go_wp2_with fail
  refine (eqStepS _ _ _ _ _ _ _ (Kn.C_below ((below_alloc w _).alloc (by simp) _) h02) (Kn.C_below ((below_alloc w _).alloc (by simp) _) h12)).mono ?_
  rintro e w2 ⟨rfl, hb2⟩
  obtain ⟨hc2, hf2⟩ := bcell hb2
  rw [eqv_self]
  have B2 := ((below_alloc w _).alloc (by simp) _).trans (hb2.mono (by simp; omega))
  have z2 : w.heap.size < w2.heap.size := by have := hb2.size; simp at this; omega
  have y2 : w.heap.size + 1 < w2.heap.size := by have := hb2.size; simp at this; omega
  go_wp2_with fail
  refine (eqLieS _ _ _ _ _ _ _ (Kn.C_below B2 h03) (Kn.C_below B2 h13)).mono ?_
  rintro e w3 ⟨rfl, hb3⟩
  obtain ⟨hc3, hf3⟩ := bcell hb3
  rw [eqv_self]
  have B3 := B2.trans (hb3.mono B2.size)
  have z3 : w.heap.size < w3.heap.size := by have := hb3.size; omega
  have y3 : w.heap.size + 1 < w3.heap.size := by have := hb3.size; omega
  go_wp2_with fail
  refine (eqIntS _ _ _ _ _ _ _ (Kn.C_below B3 h04) (Kn.C_below B3 h14)).mono ?_
  rintro e w4 ⟨rfl, hb4⟩
  obtain ⟨hc4, hf4⟩ := bcell hb4
  rw [eqv_self]
  have B4 := B3.trans (hb4.mono B3.size)
  have z4 : w.heap.size < w4.heap.size := by have := hb4.size; omega
  have y4 : w.heap.size + 1 < w4.heap.size := by have := hb4.size; omega
  go_wp2_with fail
  refine (eqPartS _ _ _ _ _ _ _ (Kn.C_below B4 h05) (Kn.C_below B4 h15)).mono ?_
  rintro e w5 ⟨rfl, hb5⟩
  obtain ⟨hc5, hf5⟩ := bcell hb5
  rw [eqv_self]
  have B5 := B4.trans (hb5.mono B4.size)
  have z5 : w.heap.size < w5.heap.size := by have := hb5.size; omega
  have y5 : w.heap.size + 1 < w5.heap.size := by have := hb5.size; omega
  go_wp2_with fail
  refine (eqPartS _ _ _ _ _ _ _ (Kn.C_below B5 h06) (Kn.C_below B5 h16)).mono ?_
  rintro e w6 ⟨rfl, hb6⟩
  obtain ⟨hc6, hf6⟩ := bcell hb6
  rw [eqv_self]
  have B6 := B5.trans (hb6.mono B5.size)
  have z6 : w.heap.size < w6.heap.size := by have := hb6.size; omega
  have y6 : w.heap.size + 1 < w6.heap.size := by have := hb6.size; omega
  go_wp2_with fail
  refine (eqFlankS _ _ _ _ _ _ _ (Kn.C_below B6 h07) (Kn.C_below B6 h17)).mono ?_
  rintro e w7 ⟨rfl, hb7⟩
  obtain ⟨hc7, hf7⟩ := bcell hb7
  rw [eqv_self]
  have B7 := B6.trans (hb7.mono B6.size)
  have z7 : w.heap.size < w7.heap.size := by have := hb7.size; omega
  have y7 : w.heap.size + 1 < w7.heap.size := by have := hb7.size; omega
  go_wp2
  go_ret
  exact ⟨rfl, B7⟩
end Go.Proofs.Ytginpmhjpjcahaa.L
