/- The laws' comparers: each answers whether the two values are equal. -/
import Derived.Test.YtginpmhjpjcahaaSz
namespace Go.Proofs.Ytginpmhjpjcahaa.L
open Go.RowKit
set_option linter.unusedVariables false
set_option linter.unusedSimpArgs false
theorem str_ne {a b : ByteArray} (h : ¬ a = b) : (a.toList == b.toList) = false := by
  rw [Go.ByteArray.toList_eq, Go.ByteArray.toList_eq]
  refine beq_eq_false_iff_ne.2 (fun e => h ?_)
  exact WideShapes.bytes_inj e
theorem int_ne {a b : Int} (h : ¬ a = b) : (a != b) = true := by simpa using h
theorem len_ne {a b : Nat} (h : ¬ a = b) : ((a : Int) != (b : Int)) = true := by
  rw [bne_iff_ne]
  omega
theorem len_eq {a b : Nat} (h : a = b) : ((a : Int) != (b : Int)) = false := by
  rw [h]
  simp
def RetB (r : Bool) (w : World) (e : Ending) (w' : World) : Prop := e = .returned (.bool r) ∧ Below w.heap.size w w'
theorem take_eq_snoc {α : Type} {xs ys : List α} {k : Nat} {x : α} (h : xs.take k = ys.take k) (h1 : xs[k]? = some x) (h2 : ys[k]? = some x) : xs.take (k + 1) = ys.take (k + 1) := by
  rw [List.take_add_one, List.take_add_one, h, h1, h2]
theorem take_ne {α : Type} {xs ys : List α} {k : Nat} {x y : α} (h1 : xs[k]? = some x) (h2 : ys[k]? = some y) (h : ¬ x = y) : ¬ xs = ys := by
  rintro rfl
  rw [h1] at h2
  exact h (Option.some.inj h2)

set_option maxHeartbeats 1000000 in
theorem eqPiece (x y : Piece) (w : World) : Calls Try.prog 130 #[x.v, y.v] w (RetB (eqv x y) w) := by
  obtain ⟨a0, a1, a2, a3⟩ := x
  obtain ⟨b0, b1, b2, b3⟩ := y
  by_cases h0 : a0 = b0
  rotate_left
  · rw [eqv_false (by intro h; injection h; exact h0 ‹_›)]
    have g0 := str_ne h0
    clear h0
    go_enter Try.func130, Try.ntmps130
    go_wp2
    go_ret
    exact ⟨rfl, (below_alloc _ _).alloc (by simp) _⟩
  subst h0
  by_cases h1 : a1 = b1
  rotate_left
  · rw [eqv_false (by intro h; injection h; exact h1 ‹_›)]
    have g1 := int_ne h1
    clear h1
    go_enter Try.func130, Try.ntmps130
    go_wp2
    go_ret
    exact ⟨rfl, (below_alloc _ _).alloc (by simp) _⟩
  subst h1
  by_cases h2 : a2 = b2
  rotate_left
  · rw [eqv_false (by intro h; injection h; exact h2 ‹_›)]
    have g2 := int_ne h2
    clear h2
    go_enter Try.func130, Try.ntmps130
    go_wp2
    go_ret
    exact ⟨rfl, (below_alloc _ _).alloc (by simp) _⟩
  subst h2
  by_cases h3 : a3 = b3
  rotate_left
  · rw [eqv_false (by intro h; injection h; exact h3 ‹_›)]
    have g3 := int_ne h3
    clear h3
    go_enter Try.func130, Try.ntmps130
    go_wp2
    go_ret
    exact ⟨rfl, (below_alloc _ _).alloc (by simp) _⟩
  subst h3
  rw [eqv_self]
  go_enter Try.func130, Try.ntmps130
  go_wp2
  go_ret
  exact ⟨rfl, (below_alloc _ _).alloc (by simp) _⟩
set_option maxHeartbeats 1000000 in
theorem eqEnd (x y : End) (w : World) : Calls Try.prog 185 #[x.v, y.v] w (RetB (eqv x y) w) := by
  obtain ⟨a0, a1⟩ := x
  obtain ⟨b0, b1⟩ := y
  by_cases h0 : a0 = b0
  rotate_left
  · rw [eqv_false (by intro h; injection h; exact h0 ‹_›)]
    have g0 := int_ne h0
    clear h0
    go_enter Try.func185, Try.ntmps185
    go_wp2
    go_ret
    exact ⟨rfl, (below_alloc _ _).alloc (by simp) _⟩
  subst h0
  by_cases h1 : a1 = b1
  rotate_left
  · rw [eqv_false (by intro h; injection h; exact h1 ‹_›)]
    have g1 := int_ne h1
    clear h1
    go_enter Try.func185, Try.ntmps185
    go_wp2
    go_ret
    exact ⟨rfl, (below_alloc _ _).alloc (by simp) _⟩
  subst h1
  rw [eqv_self]
  go_enter Try.func185, Try.ntmps185
  go_wp2
  go_ret
  exact ⟨rfl, (below_alloc _ _).alloc (by simp) _⟩
set_option maxHeartbeats 1000000 in
theorem eqSignal (x y : Signal) (w : World) : Calls Try.prog 113 #[x.v, y.v] w (RetB (eqv x y) w) := by
  obtain ⟨a0, a1, a2, a3⟩ := x
  obtain ⟨b0, b1, b2, b3⟩ := y
  by_cases h0 : a0 = b0
  rotate_left
  · rw [eqv_false (by intro h; injection h; exact h0 ‹_›)]
    have g0 := str_ne h0
    clear h0
    go_enter Try.func113, Try.ntmps113
    go_wp2
    go_ret
    exact ⟨rfl, (below_alloc _ _).alloc (by simp) _⟩
  subst h0
  by_cases h1 : a1 = b1
  rotate_left
  · rw [eqv_false (by intro h; injection h; exact h1 ‹_›)]
    have g1 := int_ne h1
    clear h1
    go_enter Try.func113, Try.ntmps113
    go_wp2
    go_ret
    exact ⟨rfl, (below_alloc _ _).alloc (by simp) _⟩
  subst h1
  by_cases h2 : a2 = b2
  rotate_left
  · rw [eqv_false (by intro h; injection h; exact h2 ‹_›)]
    have g2 := int_ne h2
    clear h2
    go_enter Try.func113, Try.ntmps113
    go_wp2
    go_ret
    exact ⟨rfl, (below_alloc _ _).alloc (by simp) _⟩
  subst h2
  by_cases h3 : a3 = b3
  rotate_left
  · rw [eqv_false (by intro h; injection h; exact h3 ‹_›)]
    have g3 := int_ne h3
    clear h3
    go_enter Try.func113, Try.ntmps113
    go_wp2
    go_ret
    exact ⟨rfl, (below_alloc _ _).alloc (by simp) _⟩
  subst h3
  rw [eqv_self]
  go_enter Try.func113, Try.ntmps113
  go_wp2
  go_ret
  exact ⟨rfl, (below_alloc _ _).alloc (by simp) _⟩
set_option maxHeartbeats 1000000 in
theorem eqFault (x y : Fault) (w : World) : Calls Try.prog 19 #[x.v, y.v] w (RetB (eqv x y) w) := by
  obtain ⟨a0, a1⟩ := x
  obtain ⟨b0, b1⟩ := y
  by_cases h0 : a0 = b0
  rotate_left
  · rw [eqv_false (by intro h; injection h; exact h0 ‹_›)]
    have g0 := int_ne h0
    clear h0
    go_enter Try.func19, Try.ntmps19
    go_wp2
    go_ret
    exact ⟨rfl, (below_alloc _ _).alloc (by simp) _⟩
  subst h0
  by_cases h1 : a1 = b1
  rotate_left
  · rw [eqv_false (by intro h; injection h; exact h1 ‹_›)]
    have g1 := int_ne h1
    clear h1
    go_enter Try.func19, Try.ntmps19
    go_wp2
    go_ret
    exact ⟨rfl, (below_alloc _ _).alloc (by simp) _⟩
  subst h1
  rw [eqv_self]
  go_enter Try.func19, Try.ntmps19
  go_wp2
  go_ret
  exact ⟨rfl, (below_alloc _ _).alloc (by simp) _⟩
set_option maxRecDepth 100000 in
set_option maxHeartbeats 2000000 in
theorem eqPieceS {ok ok' : Nat → Prop} (A0 A1 : Option Addr) (c0 c1 : Nat) (xs ys : List Piece) (w : World) (hx : pieceK.C w ok A0 xs) (hy : pieceK.C w ok' A1 ys) :
    Calls Try.prog 71 #[.slice A0 xs.length c0, .slice A1 ys.length c1] w (RetB (eqv xs ys) w) := by
  have hmx := hx.1
  have hmy := hy.1
  by_cases hl : xs.length = ys.length
  rotate_left
  · rw [eqv_false (fun h => hl (congrArg List.length h))]
    have hlb := len_ne hl
    clear hl
    go_enter Try.func71, Try.ntmps71
    go_wp2
    go_ret
    exact ⟨rfl, Below.refl _ _⟩
  have hlb := len_eq hl
  have HL := Lib.hid hl
  clear hl
  go_enter Try.func71, Try.ntmps71
  go_wp2
  go_loopw [5] (fun i wr => ∃ k : Nat, k ≤ xs.length ∧ i = .int .i64 k ∧ Hid (xs.take k = ys.take k) ∧ Below w.heap.size w wr) (fun i _ => xs.length - (intOf i).toNat)
  case atStart => exact ⟨0, Nat.zero_le _, rfl, Lib.hid rfl, Below.refl _ _⟩
  case round =>
    obtain ⟨k, hk, rfl, HT, hb⟩ := hrel
    by_cases hlt : k < xs.length
    · have i0 : (0 : Int) ≤ (k : Int) := Int.natCast_nonneg _
      have i1 : (k : Int) < (xs.length : Int) := by omega
      have i2 : (k : Int) < (ys.length : Int) := by have := HL.out; omega
      obtain ⟨a0, rfl, p0, p1, p2, p3, E0, gp0, gp1, gp2, gp3⟩ := pieceK_at (Kn.C_below hb hx) k hlt
      obtain ⟨a1, rfl, q0, q1, q2, q3, E1, gq0, gq1, gq2, gq3⟩ := pieceK_at (Kn.C_below hb hy) k (HL.out ▸ hlt)
      by_cases he : (⟨p0, p1, p2, p3⟩ : Piece) = (⟨q0, q1, q2, q3⟩ : Piece)
      · have HE : Hid (eqv (⟨p0, p1, p2, p3⟩ : Piece) (⟨q0, q1, q2, q3⟩ : Piece) = true) := Lib.hid (eqv_true he)
        have HN : Hid (xs.take (k + 1) = ys.take (k + 1)) := Lib.hid (take_eq_snoc HT.out (by rw [← he]; exact E0.out) E1.out)
        clear he
        go_wp2
        go_region_held3 (fun w' => w'.cell? (a0.add (k * 4)) = some (.string p0) ∧ w'.cell? ⟨(a0.add (k * 4)).block, (a0.add (k * 4)).off + 1, none⟩ = some (.int .i64 p1) ∧ w'.cell? ⟨(a0.add (k * 4)).block, (a0.add (k * 4)).off + 2, none⟩ = some (.int .i64 p2) ∧ w'.cell? ⟨(a0.add (k * 4)).block, (a0.add (k * 4)).off + 3, none⟩ = some (.int .i64 p3) ∧ w'.cell? (a1.add (k * 4)) = some (.string q0) ∧ w'.cell? ⟨(a1.add (k * 4)).block, (a1.add (k * 4)).off + 1, none⟩ = some (.int .i64 q1) ∧ w'.cell? ⟨(a1.add (k * 4)).block, (a1.add (k * 4)).off + 2, none⟩ = some (.int .i64 q2) ∧ w'.cell? ⟨(a1.add (k * 4)).block, (a1.add (k * 4)).off + 3, none⟩ = some (.int .i64 q3)) (first | exact ⟨cell_below hb1 gp0, cell_below hb1 gp1, cell_below hb1 gp2, cell_below hb1 gp3, cell_below hb1 gq0, cell_below hb1 gq1, cell_below hb1 gq2, cell_below hb1 gq3⟩ | go_keep)
          (first | (go_at_call 130; refine (eqPiece (⟨p0, p1, p2, p3⟩ : Piece) (⟨q0, q1, q2, q3⟩ : Piece) _).mono ?_; rintro e w1 ⟨rfl, hb1⟩; rw [HE.out]))
        go_wp2
        go_roundw
        case rel => exact ⟨k + 1, by omega, by go_num, HN, hb.drew.trans (hb1.mono hb.size)⟩
        case measure => simp [intOf]; omega
      · have HE : Hid (eqv (⟨p0, p1, p2, p3⟩ : Piece) (⟨q0, q1, q2, q3⟩ : Piece) = false) := Lib.hid (eqv_false he)
        have HN : Hid (eqv xs ys = false) := Lib.hid (eqv_false (take_ne E0.out E1.out he))
        clear he
        go_wp2
        go_region_held3 (fun w' => w'.cell? (a0.add (k * 4)) = some (.string p0) ∧ w'.cell? ⟨(a0.add (k * 4)).block, (a0.add (k * 4)).off + 1, none⟩ = some (.int .i64 p1) ∧ w'.cell? ⟨(a0.add (k * 4)).block, (a0.add (k * 4)).off + 2, none⟩ = some (.int .i64 p2) ∧ w'.cell? ⟨(a0.add (k * 4)).block, (a0.add (k * 4)).off + 3, none⟩ = some (.int .i64 p3) ∧ w'.cell? (a1.add (k * 4)) = some (.string q0) ∧ w'.cell? ⟨(a1.add (k * 4)).block, (a1.add (k * 4)).off + 1, none⟩ = some (.int .i64 q1) ∧ w'.cell? ⟨(a1.add (k * 4)).block, (a1.add (k * 4)).off + 2, none⟩ = some (.int .i64 q2) ∧ w'.cell? ⟨(a1.add (k * 4)).block, (a1.add (k * 4)).off + 3, none⟩ = some (.int .i64 q3)) (first | exact ⟨cell_below hb1 gp0, cell_below hb1 gp1, cell_below hb1 gp2, cell_below hb1 gp3, cell_below hb1 gq0, cell_below hb1 gq1, cell_below hb1 gq2, cell_below hb1 gq3⟩ | go_keep)
          (first | (go_at_call 130; refine (eqPiece (⟨p0, p1, p2, p3⟩ : Piece) (⟨q0, q1, q2, q3⟩ : Piece) _).mono ?_; rintro e w1 ⟨rfl, hb1⟩; rw [HE.out]))
        go_wp2
        go_ret
        exact ⟨by rw [HN.out]; rfl, hb.drew.trans (hb1.mono hb.size)⟩
    · obtain rfl : k = xs.length := by omega
      have HN : Hid (eqv xs ys = true) := Lib.hid (eqv_true (by have := HT.out; rw [List.take_length, HL.out, List.take_length] at this; exact this))
      go_wp2
      go_ret
      exact ⟨by rw [HN.out]; rfl, hb⟩
set_option maxRecDepth 100000 in
set_option maxHeartbeats 2000000 in
theorem eqEndS {ok ok' : Nat → Prop} (A0 A1 : Option Addr) (c0 c1 : Nat) (xs ys : List End) (w : World) (hx : endK.C w ok A0 xs) (hy : endK.C w ok' A1 ys) :
    Calls Try.prog 168 #[.slice A0 xs.length c0, .slice A1 ys.length c1] w (RetB (eqv xs ys) w) := by
  have hmx := hx.1
  have hmy := hy.1
  by_cases hl : xs.length = ys.length
  rotate_left
  · rw [eqv_false (fun h => hl (congrArg List.length h))]
    have hlb := len_ne hl
    clear hl
    go_enter Try.func168, Try.ntmps168
    go_wp2
    go_ret
    exact ⟨rfl, Below.refl _ _⟩
  have hlb := len_eq hl
  have HL := Lib.hid hl
  clear hl
  go_enter Try.func168, Try.ntmps168
  go_wp2
  go_loopw [5] (fun i wr => ∃ k : Nat, k ≤ xs.length ∧ i = .int .i64 k ∧ Hid (xs.take k = ys.take k) ∧ Below w.heap.size w wr) (fun i _ => xs.length - (intOf i).toNat)
  case atStart => exact ⟨0, Nat.zero_le _, rfl, Lib.hid rfl, Below.refl _ _⟩
  case round =>
    obtain ⟨k, hk, rfl, HT, hb⟩ := hrel
    by_cases hlt : k < xs.length
    · have i0 : (0 : Int) ≤ (k : Int) := Int.natCast_nonneg _
      have i1 : (k : Int) < (xs.length : Int) := by omega
      have i2 : (k : Int) < (ys.length : Int) := by have := HL.out; omega
      obtain ⟨a0, rfl, p0, p1, E0, gp0, gp1⟩ := endK_at (Kn.C_below hb hx) k hlt
      obtain ⟨a1, rfl, q0, q1, E1, gq0, gq1⟩ := endK_at (Kn.C_below hb hy) k (HL.out ▸ hlt)
      by_cases he : (⟨p0, p1⟩ : End) = (⟨q0, q1⟩ : End)
      · have HE : Hid (eqv (⟨p0, p1⟩ : End) (⟨q0, q1⟩ : End) = true) := Lib.hid (eqv_true he)
        have HN : Hid (xs.take (k + 1) = ys.take (k + 1)) := Lib.hid (take_eq_snoc HT.out (by rw [← he]; exact E0.out) E1.out)
        clear he
        go_wp2
        go_region_held3 (fun w' => w'.cell? (a0.add (k * 2)) = some (.int .i64 p0) ∧ w'.cell? ⟨(a0.add (k * 2)).block, (a0.add (k * 2)).off + 1, none⟩ = some (.int .i64 p1) ∧ w'.cell? (a1.add (k * 2)) = some (.int .i64 q0) ∧ w'.cell? ⟨(a1.add (k * 2)).block, (a1.add (k * 2)).off + 1, none⟩ = some (.int .i64 q1)) (first | exact ⟨cell_below hb1 gp0, cell_below hb1 gp1, cell_below hb1 gq0, cell_below hb1 gq1⟩ | go_keep)
          (first | (go_at_call 185; refine (eqEnd (⟨p0, p1⟩ : End) (⟨q0, q1⟩ : End) _).mono ?_; rintro e w1 ⟨rfl, hb1⟩; rw [HE.out]))
        go_wp2
        go_roundw
        case rel => exact ⟨k + 1, by omega, by go_num, HN, hb.drew.trans (hb1.mono hb.size)⟩
        case measure => simp [intOf]; omega
      · have HE : Hid (eqv (⟨p0, p1⟩ : End) (⟨q0, q1⟩ : End) = false) := Lib.hid (eqv_false he)
        have HN : Hid (eqv xs ys = false) := Lib.hid (eqv_false (take_ne E0.out E1.out he))
        clear he
        go_wp2
        go_region_held3 (fun w' => w'.cell? (a0.add (k * 2)) = some (.int .i64 p0) ∧ w'.cell? ⟨(a0.add (k * 2)).block, (a0.add (k * 2)).off + 1, none⟩ = some (.int .i64 p1) ∧ w'.cell? (a1.add (k * 2)) = some (.int .i64 q0) ∧ w'.cell? ⟨(a1.add (k * 2)).block, (a1.add (k * 2)).off + 1, none⟩ = some (.int .i64 q1)) (first | exact ⟨cell_below hb1 gp0, cell_below hb1 gp1, cell_below hb1 gq0, cell_below hb1 gq1⟩ | go_keep)
          (first | (go_at_call 185; refine (eqEnd (⟨p0, p1⟩ : End) (⟨q0, q1⟩ : End) _).mono ?_; rintro e w1 ⟨rfl, hb1⟩; rw [HE.out]))
        go_wp2
        go_ret
        exact ⟨by rw [HN.out]; rfl, hb.drew.trans (hb1.mono hb.size)⟩
    · obtain rfl : k = xs.length := by omega
      have HN : Hid (eqv xs ys = true) := Lib.hid (eqv_true (by have := HT.out; rw [List.take_length, HL.out, List.take_length] at this; exact this))
      go_wp2
      go_ret
      exact ⟨by rw [HN.out]; rfl, hb⟩
set_option maxRecDepth 100000 in
set_option maxHeartbeats 2000000 in
theorem eqSignalS {ok ok' : Nat → Prop} (A0 A1 : Option Addr) (c0 c1 : Nat) (xs ys : List Signal) (w : World) (hx : signalK.C w ok A0 xs) (hy : signalK.C w ok' A1 ys) :
    Calls Try.prog 43 #[.slice A0 xs.length c0, .slice A1 ys.length c1] w (RetB (eqv xs ys) w) := by
  have hmx := hx.1
  have hmy := hy.1
  by_cases hl : xs.length = ys.length
  rotate_left
  · rw [eqv_false (fun h => hl (congrArg List.length h))]
    have hlb := len_ne hl
    clear hl
    go_enter Try.func43, Try.ntmps43
    go_wp2
    go_ret
    exact ⟨rfl, Below.refl _ _⟩
  have hlb := len_eq hl
  have HL := Lib.hid hl
  clear hl
  go_enter Try.func43, Try.ntmps43
  go_wp2
  go_loopw [5] (fun i wr => ∃ k : Nat, k ≤ xs.length ∧ i = .int .i64 k ∧ Hid (xs.take k = ys.take k) ∧ Below w.heap.size w wr) (fun i _ => xs.length - (intOf i).toNat)
  case atStart => exact ⟨0, Nat.zero_le _, rfl, Lib.hid rfl, Below.refl _ _⟩
  case round =>
    obtain ⟨k, hk, rfl, HT, hb⟩ := hrel
    by_cases hlt : k < xs.length
    · have i0 : (0 : Int) ≤ (k : Int) := Int.natCast_nonneg _
      have i1 : (k : Int) < (xs.length : Int) := by omega
      have i2 : (k : Int) < (ys.length : Int) := by have := HL.out; omega
      obtain ⟨a0, rfl, p0, p1, p2, p3, E0, gp0, gp1, gp2, gp3⟩ := signalK_at (Kn.C_below hb hx) k hlt
      obtain ⟨a1, rfl, q0, q1, q2, q3, E1, gq0, gq1, gq2, gq3⟩ := signalK_at (Kn.C_below hb hy) k (HL.out ▸ hlt)
      by_cases he : (⟨p0, p1, p2, p3⟩ : Signal) = (⟨q0, q1, q2, q3⟩ : Signal)
      · have HE : Hid (eqv (⟨p0, p1, p2, p3⟩ : Signal) (⟨q0, q1, q2, q3⟩ : Signal) = true) := Lib.hid (eqv_true he)
        have HN : Hid (xs.take (k + 1) = ys.take (k + 1)) := Lib.hid (take_eq_snoc HT.out (by rw [← he]; exact E0.out) E1.out)
        clear he
        go_wp2
        go_region_held3 (fun w' => w'.cell? (a0.add (k * 4)) = some (.string p0) ∧ w'.cell? ⟨(a0.add (k * 4)).block, (a0.add (k * 4)).off + 1, none⟩ = some (.int .i64 p1) ∧ w'.cell? ⟨(a0.add (k * 4)).block, (a0.add (k * 4)).off + 2, none⟩ = some (.int .i64 p2) ∧ w'.cell? ⟨(a0.add (k * 4)).block, (a0.add (k * 4)).off + 3, none⟩ = some (.int .i64 p3) ∧ w'.cell? (a1.add (k * 4)) = some (.string q0) ∧ w'.cell? ⟨(a1.add (k * 4)).block, (a1.add (k * 4)).off + 1, none⟩ = some (.int .i64 q1) ∧ w'.cell? ⟨(a1.add (k * 4)).block, (a1.add (k * 4)).off + 2, none⟩ = some (.int .i64 q2) ∧ w'.cell? ⟨(a1.add (k * 4)).block, (a1.add (k * 4)).off + 3, none⟩ = some (.int .i64 q3)) (first | exact ⟨cell_below hb1 gp0, cell_below hb1 gp1, cell_below hb1 gp2, cell_below hb1 gp3, cell_below hb1 gq0, cell_below hb1 gq1, cell_below hb1 gq2, cell_below hb1 gq3⟩ | go_keep)
          (first | (go_at_call 113; refine (eqSignal (⟨p0, p1, p2, p3⟩ : Signal) (⟨q0, q1, q2, q3⟩ : Signal) _).mono ?_; rintro e w1 ⟨rfl, hb1⟩; rw [HE.out]))
        go_wp2
        go_roundw
        case rel => exact ⟨k + 1, by omega, by go_num, HN, hb.drew.trans (hb1.mono hb.size)⟩
        case measure => simp [intOf]; omega
      · have HE : Hid (eqv (⟨p0, p1, p2, p3⟩ : Signal) (⟨q0, q1, q2, q3⟩ : Signal) = false) := Lib.hid (eqv_false he)
        have HN : Hid (eqv xs ys = false) := Lib.hid (eqv_false (take_ne E0.out E1.out he))
        clear he
        go_wp2
        go_region_held3 (fun w' => w'.cell? (a0.add (k * 4)) = some (.string p0) ∧ w'.cell? ⟨(a0.add (k * 4)).block, (a0.add (k * 4)).off + 1, none⟩ = some (.int .i64 p1) ∧ w'.cell? ⟨(a0.add (k * 4)).block, (a0.add (k * 4)).off + 2, none⟩ = some (.int .i64 p2) ∧ w'.cell? ⟨(a0.add (k * 4)).block, (a0.add (k * 4)).off + 3, none⟩ = some (.int .i64 p3) ∧ w'.cell? (a1.add (k * 4)) = some (.string q0) ∧ w'.cell? ⟨(a1.add (k * 4)).block, (a1.add (k * 4)).off + 1, none⟩ = some (.int .i64 q1) ∧ w'.cell? ⟨(a1.add (k * 4)).block, (a1.add (k * 4)).off + 2, none⟩ = some (.int .i64 q2) ∧ w'.cell? ⟨(a1.add (k * 4)).block, (a1.add (k * 4)).off + 3, none⟩ = some (.int .i64 q3)) (first | exact ⟨cell_below hb1 gp0, cell_below hb1 gp1, cell_below hb1 gp2, cell_below hb1 gp3, cell_below hb1 gq0, cell_below hb1 gq1, cell_below hb1 gq2, cell_below hb1 gq3⟩ | go_keep)
          (first | (go_at_call 113; refine (eqSignal (⟨p0, p1, p2, p3⟩ : Signal) (⟨q0, q1, q2, q3⟩ : Signal) _).mono ?_; rintro e w1 ⟨rfl, hb1⟩; rw [HE.out]))
        go_wp2
        go_ret
        exact ⟨by rw [HN.out]; rfl, hb.drew.trans (hb1.mono hb.size)⟩
    · obtain rfl : k = xs.length := by omega
      have HN : Hid (eqv xs ys = true) := Lib.hid (eqv_true (by have := HT.out; rw [List.take_length, HL.out, List.take_length] at this; exact this))
      go_wp2
      go_ret
      exact ⟨by rw [HN.out]; rfl, hb⟩
set_option maxRecDepth 100000 in
set_option maxHeartbeats 2000000 in
theorem eqJoint {ok ok' : Nat → Prop} (x0 x1 : Joint) (A02 A12 : Option Addr) (c02 c12 : Nat) (w : World) (h02 : endK.C w ok A02 x0.ends) (h12 : endK.C w ok' A12 x1.ends) :
    Calls Try.prog 131 #[.agg #[.int .i64 x0.kind, .string x0.name, .slice A02 x0.ends.length c02], .agg #[.int .i64 x1.kind, .string x1.name, .slice A12 x1.ends.length c12]] w (RetB (eqv x0 x1) w) := by
  obtain ⟨a0, a1, a2⟩ := x0
  obtain ⟨b0, b1, b2⟩ := x1
  simp only at h02 h12
  by_cases h0 : a0 = b0
  rotate_left
  · rw [eqv_false (by intro h; injection h; exact h0 ‹_›)]
    have g0 := int_ne h0
    clear h0
    go_enter Try.func131, Try.ntmps131
    go_wp2
    go_ret
    exact ⟨rfl, ((below_alloc w _).alloc (by simp) _)⟩
  subst h0
  by_cases h1 : a1 = b1
  rotate_left
  · rw [eqv_false (by intro h; injection h; exact h1 ‹_›)]
    have g1 := str_ne h1
    clear h1
    go_enter Try.func131, Try.ntmps131
    go_wp2
    go_ret
    exact ⟨rfl, ((below_alloc w _).alloc (by simp) _)⟩
  subst h1
  by_cases h2 : a2 = b2
  rotate_left
  · rw [eqv_false (by intro h; injection h; exact h2 ‹_›)]
    have E : Hid (eqv a2 b2 = false) := Lib.hid (eqv_false h2)
    clear h2
    go_enter Try.func131, Try.ntmps131
    go_wp2_with fail
    refine (eqEndS _ _ _ _ _ _ _ (Kn.C_below ((below_alloc w _).alloc (by simp) _) h02) (Kn.C_below ((below_alloc w _).alloc (by simp) _) h12)).mono ?_
    rintro e w2 ⟨rfl, hb2⟩
    obtain ⟨hc2, hf2⟩ := bcell hb2
    rw [E.out]
    have B2 := ((below_alloc w _).alloc (by simp) _).trans (hb2.mono (by simp; omega))
    go_wp2
    go_ret
    exact ⟨rfl, B2⟩
  subst h2
  rw [eqv_self]
  go_enter Try.func131, Try.ntmps131
  go_wp2_with fail
  refine (eqEndS _ _ _ _ _ _ _ (Kn.C_below ((below_alloc w _).alloc (by simp) _) h02) (Kn.C_below ((below_alloc w _).alloc (by simp) _) h12)).mono ?_
  rintro e w2 ⟨rfl, hb2⟩
  obtain ⟨hc2, hf2⟩ := bcell hb2
  rw [eqv_self]
  have B2 := ((below_alloc w _).alloc (by simp) _).trans (hb2.mono (by simp; omega))
  go_wp2
  go_ret
  exact ⟨rfl, B2⟩
set_option maxRecDepth 100000 in
set_option maxHeartbeats 2000000 in
theorem eqJointS {ok ok' : Nat → Prop} (A0 A1 : Option Addr) (c0 c1 : Nat) (xs ys : List Joint) (w : World) (hx : (jointK 118).C w ok A0 xs) (hy : (jointK 118).C w ok' A1 ys) :
    Calls Try.prog 72 #[.slice A0 xs.length c0, .slice A1 ys.length c1] w (RetB (eqv xs ys) w) := by
  have hmx := hx.1
  have hmy := hy.1
  by_cases hl : xs.length = ys.length
  rotate_left
  · rw [eqv_false (fun h => hl (congrArg List.length h))]
    have hlb := len_ne hl
    clear hl
    go_enter Try.func72, Try.ntmps72
    go_wp2
    go_ret
    exact ⟨rfl, Below.refl _ _⟩
  have hlb := len_eq hl
  have HL := Lib.hid hl
  clear hl
  go_enter Try.func72, Try.ntmps72
  go_wp2
  go_loopw [5] (fun i wr => ∃ k : Nat, k ≤ xs.length ∧ i = .int .i64 k ∧ Hid (xs.take k = ys.take k) ∧ Below w.heap.size w wr) (fun i _ => xs.length - (intOf i).toNat)
  case atStart => exact ⟨0, Nat.zero_le _, rfl, Lib.hid rfl, Below.refl _ _⟩
  case round =>
    obtain ⟨k, hk, rfl, HT, hb⟩ := hrel
    by_cases hlt : k < xs.length
    · have i0 : (0 : Int) ≤ (k : Int) := Int.natCast_nonneg _
      have i1 : (k : Int) < (xs.length : Int) := by omega
      have i2 : (k : Int) < (ys.length : Int) := by have := HL.out; omega
      obtain ⟨a0, rfl, x, E0, A0, c0, gp0, gp1, gp2, lx, qx⟩ := jointK_at (Kn.C_below hb hx) k hlt
      obtain ⟨a1, rfl, y, E1, A1, c1, gq0, gq1, gq2, ly, qy⟩ := jointK_at (Kn.C_below hb hy) k (HL.out ▸ hlt)
      by_cases he : x = y
      · have HE : Hid (eqv x y = true) := Lib.hid (eqv_true he)
        have HN : Hid (xs.take (k + 1) = ys.take (k + 1)) := Lib.hid (take_eq_snoc HT.out (by rw [← he]; exact E0.out) E1.out)
        clear he
        go_wp2
        go_region_held3 (fun w' => w'.cell? (a0.add (k * 3)) = some (.int .i64 x.kind) ∧ w'.cell? ⟨(a0.add (k * 3)).block, (a0.add (k * 3)).off + 1, none⟩ = some (.string x.name) ∧ w'.cell? ⟨(a0.add (k * 3)).block, (a0.add (k * 3)).off + 2, none⟩ = some (.slice A0 x.ends.length c0) ∧ w'.cell? (a1.add (k * 3)) = some (.int .i64 y.kind) ∧ w'.cell? ⟨(a1.add (k * 3)).block, (a1.add (k * 3)).off + 1, none⟩ = some (.string y.name) ∧ w'.cell? ⟨(a1.add (k * 3)).block, (a1.add (k * 3)).off + 2, none⟩ = some (.slice A1 y.ends.length c1)) (first | exact ⟨cell_below hb1 gp0, cell_below hb1 gp1, cell_below hb1 gp2, cell_below hb1 gq0, cell_below hb1 gq1, cell_below hb1 gq2⟩ | go_keep)
          (first | (go_at_call 131; refine (eqJoint x y A0 A1 c0 c1 _ (Kn.C_below (Below.refl _ _).drew qx) (Kn.C_below (Below.refl _ _).drew qy)).mono ?_; rintro e w1 ⟨rfl, hb1⟩; rw [HE.out]))
        go_wp2
        go_roundw
        case rel => exact ⟨k + 1, by omega, by go_num, HN, hb.drew.trans (hb1.mono hb.size)⟩
        case measure => simp [intOf]; omega
      · have HE : Hid (eqv x y = false) := Lib.hid (eqv_false he)
        have HN : Hid (eqv xs ys = false) := Lib.hid (eqv_false (take_ne E0.out E1.out he))
        clear he
        go_wp2
        go_region_held3 (fun w' => w'.cell? (a0.add (k * 3)) = some (.int .i64 x.kind) ∧ w'.cell? ⟨(a0.add (k * 3)).block, (a0.add (k * 3)).off + 1, none⟩ = some (.string x.name) ∧ w'.cell? ⟨(a0.add (k * 3)).block, (a0.add (k * 3)).off + 2, none⟩ = some (.slice A0 x.ends.length c0) ∧ w'.cell? (a1.add (k * 3)) = some (.int .i64 y.kind) ∧ w'.cell? ⟨(a1.add (k * 3)).block, (a1.add (k * 3)).off + 1, none⟩ = some (.string y.name) ∧ w'.cell? ⟨(a1.add (k * 3)).block, (a1.add (k * 3)).off + 2, none⟩ = some (.slice A1 y.ends.length c1)) (first | exact ⟨cell_below hb1 gp0, cell_below hb1 gp1, cell_below hb1 gp2, cell_below hb1 gq0, cell_below hb1 gq1, cell_below hb1 gq2⟩ | go_keep)
          (first | (go_at_call 131; refine (eqJoint x y A0 A1 c0 c1 _ (Kn.C_below (Below.refl _ _).drew qx) (Kn.C_below (Below.refl _ _).drew qy)).mono ?_; rintro e w1 ⟨rfl, hb1⟩; rw [HE.out]))
        go_wp2
        go_ret
        exact ⟨by rw [HN.out]; rfl, hb.drew.trans (hb1.mono hb.size)⟩
    · obtain rfl : k = xs.length := by omega
      have HN : Hid (eqv xs ys = true) := Lib.hid (eqv_true (by have := HT.out; rw [List.take_length, HL.out, List.take_length] at this; exact this))
      go_wp2
      go_ret
      exact ⟨by rw [HN.out]; rfl, hb⟩
set_option maxRecDepth 100000 in
set_option maxHeartbeats 2000000 in
theorem eqNet {ok ok' : Nat → Prop} (x0 x1 : Net) (A00 A01 A10 A11 : Option Addr) (c00 c01 c10 c11 : Nat) (w : World) (h00 : pieceK.C w ok A00 x0.pieces) (h01 : (jointK 118).C w ok A01 x0.joints) (h10 : pieceK.C w ok' A10 x1.pieces) (h11 : (jointK 118).C w ok' A11 x1.joints) :
    Calls Try.prog 20 #[.agg #[.slice A00 x0.pieces.length c00, .slice A01 x0.joints.length c01], .agg #[.slice A10 x1.pieces.length c10, .slice A11 x1.joints.length c11]] w (RetB (eqv x0 x1) w) := by
  obtain ⟨a0, a1⟩ := x0
  obtain ⟨b0, b1⟩ := x1
  simp only at h00 h01 h10 h11
  by_cases h0 : a0 = b0
  rotate_left
  · rw [eqv_false (by intro h; injection h; exact h0 ‹_›)]
    have E : Hid (eqv a0 b0 = false) := Lib.hid (eqv_false h0)
    clear h0
    go_enter Try.func20, Try.ntmps20
    go_wp2_with fail
    refine (eqPieceS _ _ _ _ _ _ _ (Kn.C_below ((below_alloc w _).alloc (by simp) _) h00) (Kn.C_below ((below_alloc w _).alloc (by simp) _) h10)).mono ?_
    rintro e w0 ⟨rfl, hb0⟩
    obtain ⟨hc0, hf0⟩ := bcell hb0
    rw [E.out]
    have B0 := ((below_alloc w _).alloc (by simp) _).trans (hb0.mono (by simp; omega))
    go_wp2
    go_ret
    exact ⟨rfl, B0⟩
  subst h0
  by_cases h1 : a1 = b1
  rotate_left
  · rw [eqv_false (by intro h; injection h; exact h1 ‹_›)]
    have E : Hid (eqv a1 b1 = false) := Lib.hid (eqv_false h1)
    clear h1
    go_enter Try.func20, Try.ntmps20
    go_wp2_with fail
    refine (eqPieceS _ _ _ _ _ _ _ (Kn.C_below ((below_alloc w _).alloc (by simp) _) h00) (Kn.C_below ((below_alloc w _).alloc (by simp) _) h10)).mono ?_
    rintro e w0 ⟨rfl, hb0⟩
    obtain ⟨hc0, hf0⟩ := bcell hb0
    rw [eqv_self]
    have B0 := ((below_alloc w _).alloc (by simp) _).trans (hb0.mono (by simp; omega))
    go_wp2_with fail
    refine (eqJointS _ _ _ _ _ _ _ (Kn.C_below B0 h01) (Kn.C_below B0 h11)).mono ?_
    rintro e w1 ⟨rfl, hb1⟩
    obtain ⟨hc1, hf1⟩ := bcell hb1
    rw [E.out]
    have B1 := B0.trans (hb1.mono B0.size)
    go_wp2
    go_ret
    exact ⟨rfl, B1⟩
  subst h1
  rw [eqv_self]
  go_enter Try.func20, Try.ntmps20
  go_wp2_with fail
  refine (eqPieceS _ _ _ _ _ _ _ (Kn.C_below ((below_alloc w _).alloc (by simp) _) h00) (Kn.C_below ((below_alloc w _).alloc (by simp) _) h10)).mono ?_
  rintro e w0 ⟨rfl, hb0⟩
  obtain ⟨hc0, hf0⟩ := bcell hb0
  rw [eqv_self]
  have B0 := ((below_alloc w _).alloc (by simp) _).trans (hb0.mono (by simp; omega))
  go_wp2_with fail
  refine (eqJointS _ _ _ _ _ _ _ (Kn.C_below B0 h01) (Kn.C_below B0 h11)).mono ?_
  rintro e w1 ⟨rfl, hb1⟩
  obtain ⟨hc1, hf1⟩ := bcell hb1
  rw [eqv_self]
  have B1 := B0.trans (hb1.mono B0.size)
  go_wp2
  go_ret
  exact ⟨rfl, B1⟩
end Go.Proofs.Ytginpmhjpjcahaa.L
