/- The laws' size counters: what they count, and that they answer what is left or -1. -/
import Derived.Test.YtginpmhjpjcahaaProg
import Derived.Test.YtginpmhjpjcahaaTypes
namespace Go.Proofs.Ytginpmhjpjcahaa.L
open Go.RowKit
set_option linter.unusedVariables false
set_option linter.unusedSimpArgs false
/-- What is left, -1 for less than nothing. -/
def cut (x : Int) : Int := if x < 0 then -1 else x
theorem cut_neg {x : Int} (h : x < 0) : cut x = -1 := if_pos h
theorem cut_pos {x : Int} (h : 0 ≤ x) : cut x = x := if_neg (by omega)
theorem ret_int {a b : Int} (h : a = b) : Ending.returned (.int .i64 a) = .returned (.int .i64 b) := by rw [h]
/-- A call that answers a number and lets all that was there as it was. -/
def RetI (r : Int) (w : World) (e : Ending) (w' : World) : Prop := e = .returned (.int .i64 r) ∧ Below w.heap.size w w'
/-- How much the elements hold together. -/
def tot {α : Type} (f : α → Nat) (xs : List α) : Nat := (xs.map f).sum
theorem tot_nil {α : Type} (f : α → Nat) : tot f [] = 0 := rfl
theorem tot_snoc {α : Type} (f : α → Nat) (xs : List α) (k : Nat) (x : α) (h : xs[k]? = some x) : tot f (xs.take (k + 1)) = tot f (xs.take k) + f x := by
  rw [List.take_add_one, h]
  simp [tot]
theorem tot_le {α : Type} (f : α → Nat) (xs : List α) (k : Nat) : tot f (xs.take k) ≤ tot f xs := by
  have h : xs = xs.take k ++ xs.drop k := (List.take_append_drop k xs).symm
  have h2 : tot f xs = tot f (xs.take k) + tot f (xs.drop k) := by
    conv => lhs; rw [h]
    simp only [tot, List.map_append, List.sum_append]
  omega
theorem mem_of_get {α : Type} {xs : List α} {k : Nat} {x : α} (h : xs[k]? = some x) : x ∈ xs := List.mem_of_getElem? h
/-- The greatest length. -/
abbrev maxN : Nat := 9223372036854775807
def Piece.n (x : Piece) : Nat := x.name.size
def Signal.n (x : Signal) : Nat := x.name.size
def Joint.n (x : Joint) : Nat := x.name.size + x.ends.length
def lenS {α : Type} (f : α → Nat) (xs : List α) : Nat := xs.length + tot f xs
def Net.n (x : Net) : Nat := lenS Piece.n x.pieces + lenS Joint.n x.joints
def Route.n (x : Route) : Nat := x.steps.length + x.lies.length + x.crosses.length + x.parts.length + x.over.length + x.flanks.length
/-- Texts are no longer than a text can be. -/
def Piece.fit (x : Piece) : Prop := x.name.size ≤ maxN
def Signal.fit (x : Signal) : Prop := x.name.size ≤ maxN
def Joint.fit (x : Joint) : Prop := x.name.size ≤ maxN

theorem szEndS (A : Option Addr) (n c : Nat) (left : Int) (w : World) (h0 : 0 ≤ left) (h1 : left ≤ 1048576) (hm : n ≤ 9223372036854775807) :
    Calls Try.prog 166 #[.slice A n c, .int .i64 left] w (RetI (cut (left - n)) w) := by
  by_cases h : left - (n : Int) < 0
  · rw [cut_neg h]
    go_enter Try.func166, Try.ntmps166
    go_wp2
    go_ret
    exact ⟨rfl, Below.refl _ _⟩
  · rw [cut_pos (by omega)]
    go_enter Try.func166, Try.ntmps166
    go_wp2
    go_ret
    exact ⟨rfl, Below.refl _ _⟩
theorem szStepS (A : Option Addr) (n c : Nat) (left : Int) (w : World) (h0 : 0 ≤ left) (h1 : left ≤ 1048576) (hm : n ≤ 9223372036854775807) :
    Calls Try.prog 84 #[.slice A n c, .int .i64 left] w (RetI (cut (left - n)) w) := by
  by_cases h : left - (n : Int) < 0
  · rw [cut_neg h]
    go_enter Try.func84, Try.ntmps84
    go_wp2
    go_ret
    exact ⟨rfl, Below.refl _ _⟩
  · rw [cut_pos (by omega)]
    go_enter Try.func84, Try.ntmps84
    go_wp2
    go_ret
    exact ⟨rfl, Below.refl _ _⟩
theorem szLieS (A : Option Addr) (n c : Nat) (left : Int) (w : World) (h0 : 0 ≤ left) (h1 : left ≤ 1048576) (hm : n ≤ 9223372036854775807) :
    Calls Try.prog 85 #[.slice A n c, .int .i64 left] w (RetI (cut (left - n)) w) := by
  by_cases h : left - (n : Int) < 0
  · rw [cut_neg h]
    go_enter Try.func85, Try.ntmps85
    go_wp2
    go_ret
    exact ⟨rfl, Below.refl _ _⟩
  · rw [cut_pos (by omega)]
    go_enter Try.func85, Try.ntmps85
    go_wp2
    go_ret
    exact ⟨rfl, Below.refl _ _⟩
theorem szIntS (A : Option Addr) (n c : Nat) (left : Int) (w : World) (h0 : 0 ≤ left) (h1 : left ≤ 1048576) (hm : n ≤ 9223372036854775807) :
    Calls Try.prog 86 #[.slice A n c, .int .i64 left] w (RetI (cut (left - n)) w) := by
  by_cases h : left - (n : Int) < 0
  · rw [cut_neg h]
    go_enter Try.func86, Try.ntmps86
    go_wp2
    go_ret
    exact ⟨rfl, Below.refl _ _⟩
  · rw [cut_pos (by omega)]
    go_enter Try.func86, Try.ntmps86
    go_wp2
    go_ret
    exact ⟨rfl, Below.refl _ _⟩
theorem szPartS (A : Option Addr) (n c : Nat) (left : Int) (w : World) (h0 : 0 ≤ left) (h1 : left ≤ 1048576) (hm : n ≤ 9223372036854775807) :
    Calls Try.prog 87 #[.slice A n c, .int .i64 left] w (RetI (cut (left - n)) w) := by
  by_cases h : left - (n : Int) < 0
  · rw [cut_neg h]
    go_enter Try.func87, Try.ntmps87
    go_wp2
    go_ret
    exact ⟨rfl, Below.refl _ _⟩
  · rw [cut_pos (by omega)]
    go_enter Try.func87, Try.ntmps87
    go_wp2
    go_ret
    exact ⟨rfl, Below.refl _ _⟩
theorem szFlankS (A : Option Addr) (n c : Nat) (left : Int) (w : World) (h0 : 0 ≤ left) (h1 : left ≤ 1048576) (hm : n ≤ 9223372036854775807) :
    Calls Try.prog 88 #[.slice A n c, .int .i64 left] w (RetI (cut (left - n)) w) := by
  by_cases h : left - (n : Int) < 0
  · rw [cut_neg h]
    go_enter Try.func88, Try.ntmps88
    go_wp2
    go_ret
    exact ⟨rfl, Below.refl _ _⟩
  · rw [cut_pos (by omega)]
    go_enter Try.func88, Try.ntmps88
    go_wp2
    go_ret
    exact ⟨rfl, Below.refl _ _⟩
theorem szPiece (x : Piece) (left : Int) (w : World) (h0 : 0 ≤ left) (h1 : left ≤ 1048576) (hm : x.name.size ≤ 9223372036854775807) :
    Calls Try.prog 125 #[x.v, .int .i64 left] w (RetI (cut (left - x.n)) w) := by
  unfold Piece.n
  by_cases h : left - (x.name.size : Int) < 0
  · rw [cut_neg h]
    go_enter Try.func125, Try.ntmps125
    go_wp2
    go_ret
    exact ⟨rfl, (Below.refl _ _).alloc (Nat.le_refl _) _⟩
  · rw [cut_pos (by omega)]
    go_enter Try.func125, Try.ntmps125
    go_wp2
    go_ret
    exact ⟨rfl, (Below.refl _ _).alloc (Nat.le_refl _) _⟩
theorem szSignal (x : Signal) (left : Int) (w : World) (h0 : 0 ≤ left) (h1 : left ≤ 1048576) (hm : x.name.size ≤ 9223372036854775807) :
    Calls Try.prog 108 #[x.v, .int .i64 left] w (RetI (cut (left - x.n)) w) := by
  unfold Signal.n
  by_cases h : left - (x.name.size : Int) < 0
  · rw [cut_neg h]
    go_enter Try.func108, Try.ntmps108
    go_wp2
    go_ret
    exact ⟨rfl, (Below.refl _ _).alloc (Nat.le_refl _) _⟩
  · rw [cut_pos (by omega)]
    go_enter Try.func108, Try.ntmps108
    go_wp2
    go_ret
    exact ⟨rfl, (Below.refl _ _).alloc (Nat.le_refl _) _⟩
set_option maxRecDepth 100000 in
set_option maxHeartbeats 1000000 in
theorem szJoint (x : Joint) (A : Option Addr) (c : Nat) (hx : Hid x.fit) (hl : x.ends.length ≤ 9223372036854775807) (left : Int) (w : World) (h0 : 0 ≤ left) (h1 : left ≤ 1048576) :
    Calls Try.prog 126 #[.agg #[.int .i64 x.kind, .string x.name, .slice A x.ends.length c], .int .i64 left] w (RetI (cut (left - (x.n : Nat))) w) := by
  unfold Joint.n
  have hf : x.name.size ≤ 9223372036854775807 := hx.out
  by_cases h2 : left - (x.name.size : Int) < 0
  · rw [cut_neg (by omega)]
    go_enter Try.func126, Try.ntmps126
    go_wp2
    go_ret
    exact ⟨by first | rfl | exact ret_int (by simp; omega), ((Below.refl _ _).alloc (Nat.le_refl _) _)⟩
  by_cases h3 : left - (x.name.size : Int) - (x.ends.length : Int) < 0
  · rw [cut_neg (by omega)]
    have e1 : Hid (cut (left - (x.name.size : Int) - (x.ends.length : Int)) = -1) := Lib.hid (cut_neg h3)
    go_enter Try.func126, Try.ntmps126
    go_wp2_with fail
    refine (szEndS _ _ _ _ _ (by omega) (by omega) (by omega)).mono ?_
    rintro e w1 ⟨rfl, hb1⟩
    obtain ⟨hc1, hf1⟩ := bcell hb1
    rw [e1.out]
    go_wp2
    go_ret
    exact ⟨by first | rfl | exact ret_int (by simp; omega), (((Below.refl _ _).alloc (Nat.le_refl _) _).trans (hb1.mono (by first | exact ((Below.refl _ _).alloc (Nat.le_refl _) _).size | (simp; done) | (have := ((Below.refl _ _).alloc (Nat.le_refl _) _).size; simp at this ⊢; omega))))⟩
  have e1 : Hid (cut (left - (x.name.size : Int) - (x.ends.length : Int)) = left - (x.name.size : Int) - x.ends.length) := Lib.hid (cut_pos (by omega))
  rw [cut_pos (by omega)]
  go_enter Try.func126, Try.ntmps126
  go_wp2_with fail
  refine (szEndS _ _ _ _ _ (by omega) (by omega) (by omega)).mono ?_
  rintro e w1 ⟨rfl, hb1⟩
  obtain ⟨hc1, hf1⟩ := bcell hb1
  rw [e1.out]
  go_wp2
  go_ret
  exact ⟨by first | rfl | exact ret_int (by simp; omega), (((Below.refl _ _).alloc (Nat.le_refl _) _).trans (hb1.mono (by first | exact ((Below.refl _ _).alloc (Nat.le_refl _) _).size | (simp; done) | (have := ((Below.refl _ _).alloc (Nat.le_refl _) _).size; simp at this ⊢; omega))))⟩
set_option maxRecDepth 100000 in
set_option maxHeartbeats 1000000 in
theorem szPieceS {ok : Nat → Prop} (A : Option Addr) (c : Nat) (xs : List Piece) (left : Int) (w : World) (hx : pieceK.C w ok A xs) (hf : Hid (∀ x ∈ xs, x.fit)) (h0 : 0 ≤ left) (h1 : left ≤ 1048576) :
    Calls Try.prog 61 #[.slice A xs.length c, .int .i64 left] w (RetI (cut (left - (lenS Piece.n xs : Nat))) w) := by
  have hm := hx.1
  unfold lenS
  by_cases h : left - (xs.length : Int) < 0
  · rw [cut_neg (by omega)]
    go_enter Try.func61, Try.ntmps61
    go_wp2
    go_ret
    exact ⟨rfl, Below.refl _ _⟩
  · have hd : decide (left - (xs.length : Int) < 0) = false := by simpa using h
    go_enter Try.func61, Try.ntmps61
    go_wp2
    go_loopw [1, 5] (fun l i wr => ∃ (k : Nat) (y : Int), k ≤ xs.length ∧ i = .int .i64 k ∧ l = .int .i64 y ∧ 0 ≤ y ∧ y ≤ left ∧ Hid (y = left - (xs.length + tot Piece.n (xs.take k) : Nat)) ∧ Below w.heap.size w wr) (fun _ i _ => xs.length - (intOf i).toNat)
    case atStart => exact ⟨0, left - xs.length, Nat.zero_le _, rfl, rfl, by omega, by omega, Lib.hid (by rw [List.take_zero, tot_nil]; omega), Below.refl _ _⟩
    case round =>
      obtain ⟨k, y, hk, rfl, rfl, hy0, hy1, HY, hb⟩ := hrel
      by_cases hlt : k < xs.length
      · obtain ⟨a0, rfl, y0, y1, y2, y3, E, g0, g1, g2, g3⟩ := pieceK_at (Kn.C_below hb hx) k hlt
        have hsz : y0.size ≤ 9223372036854775807 := hf.out _ (mem_of_get E.out)
        have i0 : (0 : Int) ≤ (k : Int) := Int.natCast_nonneg _
        have i1 : (k : Int) < (xs.length : Int) := by omega
        have hc : Hid (tot Piece.n (xs.take (k + 1)) = tot Piece.n (xs.take k) + (⟨y0, y1, y2, y3⟩ : Piece).n) := Lib.hid (tot_snoc _ _ _ _ E.out)
        by_cases hr : y - ((⟨y0, y1, y2, y3⟩ : Piece).n : Int) < 0
        · have hcut : Hid (cut (y - ((⟨y0, y1, y2, y3⟩ : Piece).n : Int)) = -1) := Lib.hid (cut_neg hr)
          go_wp2_with (go_at_call 125; refine (szPiece ⟨y0, y1, y2, y3⟩ _ _ (by omega) (by omega) hsz).mono ?_; rintro e w1 ⟨rfl, hb1⟩; rw [hcut.out])
          go_ret
          refine ⟨ret_int ?_, hb.trans (hb1.mono hb.size)⟩
          have h3 := HY.out
          have h4 := tot_le Piece.n xs (k + 1)
          rw [hc.out] at h4
          rw [cut_neg (by omega)]
        · have hcut : Hid (cut (y - ((⟨y0, y1, y2, y3⟩ : Piece).n : Int)) = y - ((⟨y0, y1, y2, y3⟩ : Piece).n : Int)) := Lib.hid (cut_pos (by omega))
          go_wp2_with (go_at_call 125; refine (szPiece ⟨y0, y1, y2, y3⟩ _ _ (by omega) (by omega) hsz).mono ?_; rintro e w1 ⟨rfl, hb1⟩; rw [hcut.out])
          go_roundw
          case rel => exact ⟨k + 1, y - (⟨y0, y1, y2, y3⟩ : Piece).n, by omega, by go_num, rfl, by omega, by omega, Lib.hid (by rw [hc.out]; have := HY.out; omega), hb.trans (hb1.mono hb.size)⟩
          case measure => simp [intOf]; omega
      · obtain rfl : k = xs.length := by omega
        go_wp2
        go_ret
        refine ⟨ret_int ?_, hb⟩
        have h3 := HY.out
        rw [List.take_length] at h3
        rw [cut_pos (by omega)]
        omega
set_option maxRecDepth 100000 in
set_option maxHeartbeats 1000000 in
theorem szSignalS {ok : Nat → Prop} (A : Option Addr) (c : Nat) (xs : List Signal) (left : Int) (w : World) (hx : signalK.C w ok A xs) (hf : Hid (∀ x ∈ xs, x.fit)) (h0 : 0 ≤ left) (h1 : left ≤ 1048576) :
    Calls Try.prog 39 #[.slice A xs.length c, .int .i64 left] w (RetI (cut (left - (lenS Signal.n xs : Nat))) w) := by
  have hm := hx.1
  unfold lenS
  by_cases h : left - (xs.length : Int) < 0
  · rw [cut_neg (by omega)]
    go_enter Try.func39, Try.ntmps39
    go_wp2
    go_ret
    exact ⟨rfl, Below.refl _ _⟩
  · have hd : decide (left - (xs.length : Int) < 0) = false := by simpa using h
    go_enter Try.func39, Try.ntmps39
    go_wp2
    go_loopw [1, 5] (fun l i wr => ∃ (k : Nat) (y : Int), k ≤ xs.length ∧ i = .int .i64 k ∧ l = .int .i64 y ∧ 0 ≤ y ∧ y ≤ left ∧ Hid (y = left - (xs.length + tot Signal.n (xs.take k) : Nat)) ∧ Below w.heap.size w wr) (fun _ i _ => xs.length - (intOf i).toNat)
    case atStart => exact ⟨0, left - xs.length, Nat.zero_le _, rfl, rfl, by omega, by omega, Lib.hid (by rw [List.take_zero, tot_nil]; omega), Below.refl _ _⟩
    case round =>
      obtain ⟨k, y, hk, rfl, rfl, hy0, hy1, HY, hb⟩ := hrel
      by_cases hlt : k < xs.length
      · obtain ⟨a0, rfl, y0, y1, y2, y3, E, g0, g1, g2, g3⟩ := signalK_at (Kn.C_below hb hx) k hlt
        have hsz : y0.size ≤ 9223372036854775807 := hf.out _ (mem_of_get E.out)
        have i0 : (0 : Int) ≤ (k : Int) := Int.natCast_nonneg _
        have i1 : (k : Int) < (xs.length : Int) := by omega
        have hc : Hid (tot Signal.n (xs.take (k + 1)) = tot Signal.n (xs.take k) + (⟨y0, y1, y2, y3⟩ : Signal).n) := Lib.hid (tot_snoc _ _ _ _ E.out)
        by_cases hr : y - ((⟨y0, y1, y2, y3⟩ : Signal).n : Int) < 0
        · have hcut : Hid (cut (y - ((⟨y0, y1, y2, y3⟩ : Signal).n : Int)) = -1) := Lib.hid (cut_neg hr)
          go_wp2_with (go_at_call 108; refine (szSignal ⟨y0, y1, y2, y3⟩ _ _ (by omega) (by omega) hsz).mono ?_; rintro e w1 ⟨rfl, hb1⟩; rw [hcut.out])
          go_ret
          refine ⟨ret_int ?_, hb.trans (hb1.mono hb.size)⟩
          have h3 := HY.out
          have h4 := tot_le Signal.n xs (k + 1)
          rw [hc.out] at h4
          rw [cut_neg (by omega)]
        · have hcut : Hid (cut (y - ((⟨y0, y1, y2, y3⟩ : Signal).n : Int)) = y - ((⟨y0, y1, y2, y3⟩ : Signal).n : Int)) := Lib.hid (cut_pos (by omega))
          go_wp2_with (go_at_call 108; refine (szSignal ⟨y0, y1, y2, y3⟩ _ _ (by omega) (by omega) hsz).mono ?_; rintro e w1 ⟨rfl, hb1⟩; rw [hcut.out])
          go_roundw
          case rel => exact ⟨k + 1, y - (⟨y0, y1, y2, y3⟩ : Signal).n, by omega, by go_num, rfl, by omega, by omega, Lib.hid (by rw [hc.out]; have := HY.out; omega), hb.trans (hb1.mono hb.size)⟩
          case measure => simp [intOf]; omega
      · obtain rfl : k = xs.length := by omega
        go_wp2
        go_ret
        refine ⟨ret_int ?_, hb⟩
        have h3 := HY.out
        rw [List.take_length] at h3
        rw [cut_pos (by omega)]
        omega
set_option maxRecDepth 100000 in
set_option maxHeartbeats 1000000 in
theorem szJointS {ok : Nat → Prop} (A : Option Addr) (c : Nat) (xs : List Joint) (left : Int) (w : World) (hx : (jointK 245).C w ok A xs) (hf : Hid (∀ x ∈ xs, x.fit)) (h0 : 0 ≤ left) (h1 : left ≤ 1048576) :
    Calls Try.prog 62 #[.slice A xs.length c, .int .i64 left] w (RetI (cut (left - (lenS Joint.n xs : Nat))) w) := by
  have hm := hx.1
  unfold lenS
  by_cases h : left - (xs.length : Int) < 0
  · rw [cut_neg (by omega)]
    go_enter Try.func62, Try.ntmps62
    go_wp2
    go_ret
    exact ⟨rfl, Below.refl _ _⟩
  · have hd : decide (left - (xs.length : Int) < 0) = false := by simpa using h
    go_enter Try.func62, Try.ntmps62
    go_wp2
    go_loopw [1, 5] (fun l i wr => ∃ (k : Nat) (y : Int), k ≤ xs.length ∧ i = .int .i64 k ∧ l = .int .i64 y ∧ 0 ≤ y ∧ y ≤ left ∧ Hid (y = left - (xs.length + tot Joint.n (xs.take k) : Nat)) ∧ Below w.heap.size w wr) (fun _ i _ => xs.length - (intOf i).toNat)
    case atStart => exact ⟨0, left - xs.length, Nat.zero_le _, rfl, rfl, by omega, by omega, Lib.hid (by rw [List.take_zero, tot_nil]; omega), Below.refl _ _⟩
    case round =>
      obtain ⟨k, y, hk, rfl, rfl, hy0, hy1, HY, hb⟩ := hrel
      by_cases hlt : k < xs.length
      · obtain ⟨a0, rfl, x, E, A0, c0, g0, g1, g2, l0, q0⟩ := jointK_at (Kn.C_below hb hx) k hlt
        have hsz : Hid x.fit := Lib.hid (hf.out _ (mem_of_get E.out))
        have q1 := q0.1
        have i0 : (0 : Int) ≤ (k : Int) := Int.natCast_nonneg _
        have i1 : (k : Int) < (xs.length : Int) := by omega
        have hc : Hid (tot Joint.n (xs.take (k + 1)) = tot Joint.n (xs.take k) + x.n) := Lib.hid (tot_snoc _ _ _ _ E.out)
        by_cases hr : y - (x.n : Int) < 0
        · have hcut : Hid (cut (y - (x.n : Int)) = -1) := Lib.hid (cut_neg hr)
          go_wp2_with (go_at_call 126; refine (szJoint x A0 c0 hsz (by omega) _ _ (by omega) (by omega)).mono ?_; rintro e w1 ⟨rfl, hb1⟩; rw [hcut.out])
          go_ret
          refine ⟨ret_int ?_, hb.trans (hb1.mono hb.size)⟩
          have h3 := HY.out
          have h4 := tot_le Joint.n xs (k + 1)
          rw [hc.out] at h4
          rw [cut_neg (by omega)]
        · have hcut : Hid (cut (y - (x.n : Int)) = y - (x.n : Int)) := Lib.hid (cut_pos (by omega))
          go_wp2_with (go_at_call 126; refine (szJoint x A0 c0 hsz (by omega) _ _ (by omega) (by omega)).mono ?_; rintro e w1 ⟨rfl, hb1⟩; rw [hcut.out])
          go_roundw
          case rel => exact ⟨k + 1, y - x.n, by omega, by go_num, rfl, by omega, by omega, Lib.hid (by rw [hc.out]; have := HY.out; omega), hb.trans (hb1.mono hb.size)⟩
          case measure => simp [intOf]; omega
      · obtain rfl : k = xs.length := by omega
        go_wp2
        go_ret
        refine ⟨ret_int ?_, hb⟩
        have h3 := HY.out
        rw [List.take_length] at h3
        rw [cut_pos (by omega)]
        omega
/-- Net by value: its texts fit. -/
def Net.fit (x : Net) : Prop := (∀ p ∈ x.pieces, p.fit) ∧ ∀ j ∈ x.joints, j.fit
set_option maxRecDepth 100000 in
set_option maxHeartbeats 1000000 in
theorem szNet {ok : Nat → Prop} (w : World) (x : Net) (A0 A1 : Option Addr) (c0 c1 : Nat) (hx : Hid x.fit) (q0 : pieceK.C w ok A0 x.pieces) (q1 : (jointK 245).C w ok A1 x.joints) (left : Int) (h0 : 0 ≤ left) (h1 : left ≤ 1048576) :
    Calls Try.prog 15 #[.agg #[.slice A0 x.pieces.length c0, .slice A1 x.joints.length c1], .int .i64 left] w (RetI (cut (left - (x.n : Nat))) w) := by
  unfold Net.n
  by_cases h2 : left - (lenS Piece.n x.pieces : Int) < 0
  · rw [cut_neg (by omega)]
    have e0 : Hid (cut (left - (lenS Piece.n x.pieces : Int)) = -1) := Lib.hid (cut_neg h2)
    go_enter Try.func15, Try.ntmps15
    go_wp2_with fail
    refine (szPieceS _ _ _ _ _ (Kn.C_below (below_alloc _ _) q0) (Lib.hid hx.out.1) (by omega) (by omega)).mono ?_
    rintro e w0 ⟨rfl, hb0⟩
    obtain ⟨hc0, hf0⟩ := bcell hb0
    rw [e0.out]
    go_wp2
    go_ret
    exact ⟨by first | rfl | exact ret_int (by simp; omega), (((Below.refl _ _).alloc (Nat.le_refl _) _).trans (hb0.mono (by first | exact ((Below.refl _ _).alloc (Nat.le_refl _) _).size | (simp; done) | (have := ((Below.refl _ _).alloc (Nat.le_refl _) _).size; simp at this ⊢; omega))))⟩
  have e0 : Hid (cut (left - (lenS Piece.n x.pieces : Int)) = left - lenS Piece.n x.pieces) := Lib.hid (cut_pos (by omega))
  by_cases h3 : left - (lenS Piece.n x.pieces : Int) - (lenS Joint.n x.joints : Int) < 0
  · rw [cut_neg (by omega)]
    have e1 : Hid (cut (left - (lenS Piece.n x.pieces : Int) - (lenS Joint.n x.joints : Int)) = -1) := Lib.hid (cut_neg h3)
    go_enter Try.func15, Try.ntmps15
    go_wp2_with fail
    refine (szPieceS _ _ _ _ _ (Kn.C_below (below_alloc _ _) q0) (Lib.hid hx.out.1) (by omega) (by omega)).mono ?_
    rintro e w0 ⟨rfl, hb0⟩
    obtain ⟨hc0, hf0⟩ := bcell hb0
    rw [e0.out]
    go_wp2_with fail
    refine (szJointS _ _ _ _ _ (Kn.C_below (((Below.refl _ _).alloc (Nat.le_refl _) _).trans (hb0.mono (by simp))) q1) (Lib.hid hx.out.2) (by omega) (by omega)).mono ?_
    rintro e w1 ⟨rfl, hb1⟩
    obtain ⟨hc1, hf1⟩ := bcell hb1
    rw [e1.out]
    go_wp2
    go_ret
    exact ⟨by first | rfl | exact ret_int (by simp; omega), ((((Below.refl _ _).alloc (Nat.le_refl _) _).trans (hb0.mono (by first | exact ((Below.refl _ _).alloc (Nat.le_refl _) _).size | (simp; done) | (have := ((Below.refl _ _).alloc (Nat.le_refl _) _).size; simp at this ⊢; omega)))).trans (hb1.mono (by first | exact (((Below.refl _ _).alloc (Nat.le_refl _) _).trans (hb0.mono (by first | exact ((Below.refl _ _).alloc (Nat.le_refl _) _).size | (simp; done) | (have := ((Below.refl _ _).alloc (Nat.le_refl _) _).size; simp at this ⊢; omega)))).size | (simp; done) | (have := (((Below.refl _ _).alloc (Nat.le_refl _) _).trans (hb0.mono (by first | exact ((Below.refl _ _).alloc (Nat.le_refl _) _).size | (simp; done) | (have := ((Below.refl _ _).alloc (Nat.le_refl _) _).size; simp at this ⊢; omega)))).size; simp at this ⊢; omega))))⟩
  have e1 : Hid (cut (left - (lenS Piece.n x.pieces : Int) - (lenS Joint.n x.joints : Int)) = left - (lenS Piece.n x.pieces : Int) - lenS Joint.n x.joints) := Lib.hid (cut_pos (by omega))
  rw [cut_pos (by omega)]
  go_enter Try.func15, Try.ntmps15
  go_wp2_with fail
  refine (szPieceS _ _ _ _ _ (Kn.C_below (below_alloc _ _) q0) (Lib.hid hx.out.1) (by omega) (by omega)).mono ?_
  rintro e w0 ⟨rfl, hb0⟩
  obtain ⟨hc0, hf0⟩ := bcell hb0
  rw [e0.out]
  go_wp2_with fail
  refine (szJointS _ _ _ _ _ (Kn.C_below (((Below.refl _ _).alloc (Nat.le_refl _) _).trans (hb0.mono (by simp))) q1) (Lib.hid hx.out.2) (by omega) (by omega)).mono ?_
  rintro e w1 ⟨rfl, hb1⟩
  obtain ⟨hc1, hf1⟩ := bcell hb1
  rw [e1.out]
  go_wp2
  go_ret
  exact ⟨by first | rfl | exact ret_int (by simp; omega), ((((Below.refl _ _).alloc (Nat.le_refl _) _).trans (hb0.mono (by first | exact ((Below.refl _ _).alloc (Nat.le_refl _) _).size | (simp; done) | (have := ((Below.refl _ _).alloc (Nat.le_refl _) _).size; simp at this ⊢; omega)))).trans (hb1.mono (by first | exact (((Below.refl _ _).alloc (Nat.le_refl _) _).trans (hb0.mono (by first | exact ((Below.refl _ _).alloc (Nat.le_refl _) _).size | (simp; done) | (have := ((Below.refl _ _).alloc (Nat.le_refl _) _).size; simp at this ⊢; omega)))).size | (simp; done) | (have := (((Below.refl _ _).alloc (Nat.le_refl _) _).trans (hb0.mono (by first | exact ((Below.refl _ _).alloc (Nat.le_refl _) _).size | (simp; done) | (have := ((Below.refl _ _).alloc (Nat.le_refl _) _).size; simp at this ⊢; omega)))).size; simp at this ⊢; omega))))⟩
end Go.Proofs.Ytginpmhjpjcahaa.L
