/- Chapter 1 of the program and of the reference: names, nets. What both answer, as one plain function. -/
import Derived.Test.YtginpmhjpjcahaaTo
namespace Go.Proofs.Ytginpmhjpjcahaa.L
open Go.RowKit
set_option linter.unusedVariables false
set_option linter.unusedSimpArgs false
/-- Is it so? (A Bool that no walk looks into.) -/
noncomputable def pv (p : Prop) : Bool := @decide p (Classical.propDecidable p)
theorem pv_true {p : Prop} (h : p) : pv p = true := by unfold pv; exact @decide_eq_true _ (Classical.propDecidable _) h
theorem pv_false {p : Prop} (h : ¬ p) : pv p = false := by unfold pv; exact @decide_eq_false _ (Classical.propDecidable _) h
def nameB (b : Nat) : Prop := (97 ≤ b ∧ b ≤ 122) ∨ (48 ≤ b ∧ b ≤ 57) ∨ b = 95
def nameTo (s : ByteArray) (k : Nat) : Prop := ∀ j (h : j < s.size), j < k → nameB s[j].toNat
def nameP (s : ByteArray) : Prop := 1 ≤ s.size ∧ s.size ≤ 20 ∧ nameTo s s.size
theorem nameTo_zero (s : ByteArray) : nameTo s 0 := fun j h hj => absurd hj (by omega)
theorem nameTo_succ {s : ByteArray} {k : Nat} (h : nameTo s k) (hk : k < s.size) (hb : nameB s[k].toNat) : nameTo s (k + 1) := fun j hj hjk => by
  by_cases e : j = k
  · subst e; exact hb
  · exact h j hj (by omega)
/-- A call that answers a Bool and lets the world be. -/
def RetB0 (r : Bool) (w : World) (e : Ending) (w' : World) : Prop := e = .returned (.bool r) ∧ w = w'
theorem ret_bool {a b : Bool} (h : a = b) : Ending.returned (.bool a) = .returned (.bool b) := by rw [h]

theorem l1in (x a b : Int) (w : World) : Calls Try.prog 64 #[.int .i64 x, .int .i64 a, .int .i64 b] w (RetB0 (decide (a ≤ x ∧ x ≤ b)) w) := by
  go_enter Try.func64, Try.ntmps64
  by_cases h1 : a ≤ x
  · by_cases h2 : x ≤ b
    · go_wp2
      go_ret
      exact ⟨ret_bool (by simp [h1, h2]), rfl⟩
    · go_wp2
      go_ret
      exact ⟨ret_bool (by simp [h1, h2]), rfl⟩
  · go_wp2
    go_ret
    exact ⟨ret_bool (by simp; omega), rfl⟩
theorem byte_cases (b : Nat) : (nameB b ∧ decide ((97 : Int) ≤ b) = true ∧ decide ((b : Int) ≤ 122) = true) ∨ (¬ nameB b ∧ decide ((97 : Int) ≤ b) = true ∧ decide ((b : Int) ≤ 122) = false ∧ decide ((48 : Int) ≤ b) = true ∧ decide ((b : Int) ≤ 57) = false ∧ ((b : Int) == 95) = false) ∨ (nameB b ∧ decide ((97 : Int) ≤ b) = false ∧ decide ((48 : Int) ≤ b) = true ∧ decide ((b : Int) ≤ 57) = true) ∨ (¬ nameB b ∧ decide ((97 : Int) ≤ b) = false ∧ decide ((48 : Int) ≤ b) = true ∧ decide ((b : Int) ≤ 57) = false ∧ ((b : Int) == 95) = false) ∨ (nameB b ∧ decide ((97 : Int) ≤ b) = false ∧ decide ((48 : Int) ≤ b) = true ∧ decide ((b : Int) ≤ 57) = false ∧ ((b : Int) == 95) = true) ∨ (¬ nameB b ∧ decide ((97 : Int) ≤ b) = false ∧ decide ((48 : Int) ≤ b) = false ∧ ((b : Int) == 95) = false) := by
  unfold nameB
  simp only [decide_eq_true_eq, decide_eq_false_iff_not, beq_iff_eq, beq_eq_false_iff_ne]
  omega
set_option maxHeartbeats 2000000 in
theorem l1name (s : ByteArray) (w : World) (hs : s.size ≤ 9223372036854775807) : Calls Try.prog 63 #[.string s] w (RetB0 (pv (nameP s)) w) := by
  go_enter Try.func63, Try.ntmps63
  go_wp2
  go_loop [3, 4] (fun i _ => ∃ k : Nat, k ≤ s.size ∧ i = .int .i64 k ∧ Hid (nameTo s k)) (fun i _ => s.size - (intOf i).toNat)
  case atStart => exact ⟨0, Nat.zero_le _, rfl, Lib.hid (nameTo_zero s)⟩
  case round =>
    obtain ⟨k, hk, rfl, HT⟩ := hrel
    by_cases hlt : k < s.size
    · have hlo : (0 : Int) ≤ (s[k].toNat : Int) := Int.natCast_nonneg _
      rcases byte_cases s[k].toNat with ⟨hb, h1, h2⟩ | ⟨hb, h1, h2, h3, h4, h5⟩ | ⟨hb, h1, h2, h3⟩ | ⟨hb, h1, h2, h3, h4⟩ | ⟨hb, h1, h2, h3, h4⟩ | ⟨hb, h1, h2, h3⟩
      · have HN := Lib.hid (nameTo_succ HT.out hlt hb)
        clear hb
        go_wp2
        go_round
        case rel => exact ⟨k + 1, by omega, by go_num, HN⟩
        case measure => simp [intOf]; omega
      · have HN : Hid (pv (nameP s) = false) := Lib.hid (pv_false (fun h => hb (h.2.2 k hlt hlt)))
        clear hb
        go_wp2
        go_ret
        exact ⟨by rw [HN.out]; rfl, rfl⟩
      · have HN := Lib.hid (nameTo_succ HT.out hlt hb)
        clear hb
        go_wp2
        go_round
        case rel => exact ⟨k + 1, by omega, by go_num, HN⟩
        case measure => simp [intOf]; omega
      · have HN : Hid (pv (nameP s) = false) := Lib.hid (pv_false (fun h => hb (h.2.2 k hlt hlt)))
        clear hb
        go_wp2
        go_ret
        exact ⟨by rw [HN.out]; rfl, rfl⟩
      · have HN := Lib.hid (nameTo_succ HT.out hlt hb)
        clear hb
        go_wp2
        go_round
        case rel => exact ⟨k + 1, by omega, by go_num, HN⟩
        case measure => simp [intOf]; omega
      · have HN : Hid (pv (nameP s) = false) := Lib.hid (pv_false (fun h => hb (h.2.2 k hlt hlt)))
        clear hb
        go_wp2
        go_ret
        exact ⟨by rw [HN.out]; rfl, rfl⟩
    · have hge : s.size ≤ k := by omega
      have HK : Hid (k = s.size) := Lib.hid (by omega)
      by_cases h1 : 1 ≤ s.size
      · by_cases h2 : s.size ≤ 20
        · have HN : Hid (pv (nameP s) = true) := Lib.hid (pv_true ⟨h1, h2, by have := HT.out; rw [HK.out] at this; exact this⟩)
          have d2 : decide ((s.size : Int) ≤ 20) = true := decide_eq_true (by omega)
          go_wp2
          go_ret
          exact ⟨by rw [HN.out]; rfl, rfl⟩
        · have HN : Hid (pv (nameP s) = false) := Lib.hid (pv_false (fun h => h2 h.2.1))
          have d2 : decide ((s.size : Int) ≤ 20) = false := decide_eq_false (by omega)
          go_wp2
          go_ret
          exact ⟨by rw [HN.out]; rfl, rfl⟩
      · have HN : Hid (pv (nameP s) = false) := Lib.hid (pv_false (fun h => h1 h.1))
        have d2 : decide ((1 : Int) ≤ (s.size : Int)) = false := decide_eq_false (by omega)
        go_wp2
        go_ret
        exact ⟨by rw [HN.out]; rfl, rfl⟩
set_option maxHeartbeats 2000000 in
theorem named (s : ByteArray) (w : World) (hs : s.size ≤ 9223372036854775807) : Calls Try.prog 70 #[.string s] w (RetB0 (pv (nameP s)) w) := by
  by_cases g1 : 1 ≤ s.size
  rotate_left
  · have HN : Hid (pv (nameP s) = false) := Lib.hid (pv_false (fun h => g1 h.1))
    go_enter Try.func70, Try.ntmps70
    go_wp2
    go_ret
    exact ⟨by rw [HN.out]; rfl, rfl⟩
  by_cases g2 : s.size ≤ 20
  rotate_left
  · have HN : Hid (pv (nameP s) = false) := Lib.hid (pv_false (fun h => g2 h.2.1))
    go_enter Try.func70, Try.ntmps70
    go_wp2
    go_ret
    exact ⟨by rw [HN.out]; rfl, rfl⟩
  go_enter Try.func70, Try.ntmps70
  go_wp2
  go_loop [3, 4] (fun i _ => ∃ k : Nat, k ≤ s.size ∧ i = .int .i64 k ∧ Hid (nameTo s k)) (fun i _ => s.size - (intOf i).toNat)
  case atStart => exact ⟨0, Nat.zero_le _, rfl, Lib.hid (nameTo_zero s)⟩
  case round =>
    obtain ⟨k, hk, rfl, HT⟩ := hrel
    by_cases hlt : k < s.size
    · have hlo : (0 : Int) ≤ (s[k].toNat : Int) := Int.natCast_nonneg _
      rcases byte_cases s[k].toNat with ⟨hb, h1, h2⟩ | ⟨hb, h1, h2, h3, h4, h5⟩ | ⟨hb, h1, h2, h3⟩ | ⟨hb, h1, h2, h3, h4⟩ | ⟨hb, h1, h2, h3, h4⟩ | ⟨hb, h1, h2, h3⟩
      · have HN := Lib.hid (nameTo_succ HT.out hlt hb)
        clear hb
        go_wp2
        go_round
        case rel => exact ⟨k + 1, by omega, by go_num, HN⟩
        case measure => simp [intOf]; omega
      · have HN : Hid (pv (nameP s) = false) := Lib.hid (pv_false (fun h => hb (h.2.2 k hlt hlt)))
        clear hb
        go_wp2
        go_ret
        exact ⟨by rw [HN.out]; rfl, rfl⟩
      · have HN := Lib.hid (nameTo_succ HT.out hlt hb)
        clear hb
        go_wp2
        go_round
        case rel => exact ⟨k + 1, by omega, by go_num, HN⟩
        case measure => simp [intOf]; omega
      · have HN : Hid (pv (nameP s) = false) := Lib.hid (pv_false (fun h => hb (h.2.2 k hlt hlt)))
        clear hb
        go_wp2
        go_ret
        exact ⟨by rw [HN.out]; rfl, rfl⟩
      · have HN := Lib.hid (nameTo_succ HT.out hlt hb)
        clear hb
        go_wp2
        go_round
        case rel => exact ⟨k + 1, by omega, by go_num, HN⟩
        case measure => simp [intOf]; omega
      · have HN : Hid (pv (nameP s) = false) := Lib.hid (pv_false (fun h => hb (h.2.2 k hlt hlt)))
        clear hb
        go_wp2
        go_ret
        exact ⟨by rw [HN.out]; rfl, rfl⟩
    · have hge : s.size ≤ k := by omega
      have HK : Hid (k = s.size) := Lib.hid (by omega)
      have HN : Hid (pv (nameP s) = true) := Lib.hid (pv_true ⟨g1, g2, by have := HT.out; rw [HK.out] at this; exact this⟩)
      go_wp2
      go_ret
      exact ⟨by rw [HN.out]; rfl, rfl⟩

/-! ### What chapter 1 says, in plain terms -/
/-- The first number below n with P, else n. -/
noncomputable def least (P : Nat → Prop) : Nat → Nat
  | 0 => 0
  | n + 1 => @ite _ (least P n < n) (Nat.decLt _ _) (least P n) (@ite _ (P n) (Classical.propDecidable _) n (n + 1))
theorem least_none {P : Nat → Prop} : ∀ {n : Nat}, (∀ j, j < n → ¬ P j) → least P n = n
  | 0, _ => rfl
  | n + 1, h => by
    rw [least, least_none (fun j hj => h j (by omega)), if_neg (by omega), if_neg (h n (by omega))]
theorem least_eq {P : Nat → Prop} {i : Nat} : ∀ {n : Nat}, i < n → P i → (∀ j, j < i → ¬ P j) → least P n = i
  | 0, h, _, _ => absurd h (by omega)
  | n + 1, h, hp, hj => by
    rw [least]
    by_cases e : i = n
    · subst e
      rw [least_none hj, if_neg (by omega), if_pos hp]
    · rw [least_eq (n := n) (by omega) hp hj, if_pos (by omega)]
def pieceP (p : Piece) : Prop := nameP p.name ∧ 1 ≤ p.len ∧ p.len ≤ 10000000 ∧ 1 ≤ p.speed ∧ p.speed ≤ 10000 ∧ 1 ≤ p.brake ∧ p.brake ≤ 1000
def endP (n : Nat) (e : End) : Prop := (0 ≤ e.piece ∧ e.piece ≤ (n : Int) - 1) ∧ (0 ≤ e.side ∧ e.side ≤ 1)
def sameName (xs : List ByteArray) (i : Nat) (s : ByteArray) : Prop := ∃ j, j < i ∧ xs[j]? = some s
def bad2 (n : Net) (i : Nat) : Prop := ∃ p, n.pieces[i]? = some p ∧ (¬ pieceP p ∨ sameName (n.pieces.map Piece.name) i p.name)
def jointP (n : Nat) (x : Joint) : Prop := (1 ≤ x.kind ∧ x.kind ≤ 4) ∧ (x.ends.length : Int) = x.kind ∧ ∀ e ∈ x.ends, endP n e
def bad3 (n : Net) (i : Nat) : Prop := ∃ x, n.joints[i]? = some x ∧ ¬ jointP n.pieces.length x
def nameBad (js : List Joint) (i : Nat) (x : Joint) : Prop := (x.kind < 3 ∧ ¬ x.name = ⟨#[]⟩) ∨ (3 ≤ x.kind ∧ (¬ nameP x.name ∨ sameName (js.map Joint.name) i x.name))
def bad4 (n : Net) (i : Nat) : Prop := ∃ x, n.joints[i]? = some x ∧ nameBad n.joints i x
/-- How often an end stands in joints. -/
noncomputable def usesIn (es : List End) (e : End) : Nat := tot (fun x => if eqv x e = true then 1 else 0) es
noncomputable def uses (js : List Joint) (e : End) : Nat := tot (fun j => usesIn j.ends e) js
def bad5 (n : Net) (i : Nat) : Prop := ¬ uses n.joints ⟨i, 0⟩ = 1 ∨ ¬ uses n.joints ⟨i, 1⟩ = 1
def bad1 (n : Net) : Prop := n.pieces.length = 0 ∨ 100 < n.pieces.length ∨ 120 < n.joints.length
open Classical in
/-- NetOk, as both say it. -/
noncomputable def netOk (n : Net) : Fault :=
  if bad1 n then ⟨1, 0⟩
  else if ∃ i, i < n.pieces.length ∧ bad2 n i then ⟨2, least (bad2 n) n.pieces.length⟩
  else if ∃ i, i < n.joints.length ∧ bad3 n i then ⟨3, least (bad3 n) n.joints.length⟩
  else if ∃ i, i < n.joints.length ∧ bad4 n i then ⟨4, least (bad4 n) n.joints.length⟩
  else if ∃ i, i < n.pieces.length ∧ bad5 n i then ⟨5, least (bad5 n) n.pieces.length⟩
  else ⟨0, 0⟩
theorem netOk_1 {n : Net} (h : bad1 n) : netOk n = ⟨1, 0⟩ := by unfold netOk; rw [if_pos h]
theorem netOk_2 {n : Net} {i : Nat} (h1 : ¬ bad1 n) (hi : i < n.pieces.length) (hb : bad2 n i) (hj : ∀ j, j < i → ¬ bad2 n j) : netOk n = ⟨2, i⟩ := by
  unfold netOk
  rw [if_neg h1, if_pos ⟨i, hi, hb⟩, least_eq hi hb hj]
theorem netOk_3 {n : Net} {i : Nat} (h1 : ¬ bad1 n) (h2 : ∀ j, j < n.pieces.length → ¬ bad2 n j) (hi : i < n.joints.length) (hb : bad3 n i) (hj : ∀ j, j < i → ¬ bad3 n j) : netOk n = ⟨3, i⟩ := by
  unfold netOk
  rw [if_neg h1, if_neg (fun ⟨j, a, b⟩ => h2 j a b), if_pos ⟨i, hi, hb⟩, least_eq hi hb hj]
theorem netOk_4 {n : Net} {i : Nat} (h1 : ¬ bad1 n) (h2 : ∀ j, j < n.pieces.length → ¬ bad2 n j) (h3 : ∀ j, j < n.joints.length → ¬ bad3 n j) (hi : i < n.joints.length) (hb : bad4 n i) (hj : ∀ j, j < i → ¬ bad4 n j) : netOk n = ⟨4, i⟩ := by
  unfold netOk
  rw [if_neg h1, if_neg (fun ⟨j, a, b⟩ => h2 j a b), if_neg (fun ⟨j, a, b⟩ => h3 j a b), if_pos ⟨i, hi, hb⟩, least_eq hi hb hj]
theorem netOk_5 {n : Net} {i : Nat} (h1 : ¬ bad1 n) (h2 : ∀ j, j < n.pieces.length → ¬ bad2 n j) (h3 : ∀ j, j < n.joints.length → ¬ bad3 n j) (h4 : ∀ j, j < n.joints.length → ¬ bad4 n j) (hi : i < n.pieces.length) (hb : bad5 n i) (hj : ∀ j, j < i → ¬ bad5 n j) : netOk n = ⟨5, i⟩ := by
  unfold netOk
  rw [if_neg h1, if_neg (fun ⟨j, a, b⟩ => h2 j a b), if_neg (fun ⟨j, a, b⟩ => h3 j a b), if_neg (fun ⟨j, a, b⟩ => h4 j a b), if_pos ⟨i, hi, hb⟩, least_eq hi hb hj]
theorem netOk_0 {n : Net} (h1 : ¬ bad1 n) (h2 : ∀ j, j < n.pieces.length → ¬ bad2 n j) (h3 : ∀ j, j < n.joints.length → ¬ bad3 n j) (h4 : ∀ j, j < n.joints.length → ¬ bad4 n j) (h5 : ∀ j, j < n.pieces.length → ¬ bad5 n j) : netOk n = ⟨0, 0⟩ := by
  unfold netOk
  rw [if_neg h1, if_neg (fun ⟨j, a, b⟩ => h2 j a b), if_neg (fun ⟨j, a, b⟩ => h3 j a b), if_neg (fun ⟨j, a, b⟩ => h4 j a b), if_neg (fun ⟨j, a, b⟩ => h5 j a b)]

theorem l1end (A0 A1 : Option Addr) (n0 c0 n1 c1 : Nat) (x : End) (w : World) (hn : n0 ≤ 9223372036854775807) : Calls Try.prog 127 #[.agg #[.slice A0 n0 c0, .slice A1 n1 c1], x.v] w (RetB (pv (endP n0 x)) w) := by
  obtain ⟨p, q⟩ := x
  have hB := (below_alloc w (.cells #[.slice A0 n0 c0, .slice A1 n1 c1] 34)).alloc (by simp) (.cells #[.int .i64 p, .int .i64 q] 118)
  by_cases h1 : 0 ≤ p ∧ p ≤ (n0 : Int) - 1
  · by_cases h2 : 0 ≤ q ∧ q ≤ 1
    · have HN : Hid (pv (endP n0 ⟨p, q⟩) = true) := Lib.hid (pv_true ⟨h1, h2⟩)
      have d1 : Hid (decide (0 ≤ p ∧ p ≤ (n0 : Int) - 1) = true) := Lib.hid (decide_eq_true h1)
      have d2 : Hid (decide (0 ≤ q ∧ q ≤ 1) = true) := Lib.hid (decide_eq_true h2)
      clear h1 h2
      go_enter Try.func127, Try.ntmps127
      go_wp2_with fail
      refine (l1in _ _ _ _).mono ?_
      rintro e w1 ⟨rfl, rfl⟩
      rw [d1.out]
      go_wp2_with fail
      refine (l1in _ _ _ _).mono ?_
      rintro e w1 ⟨rfl, rfl⟩
      rw [d2.out]
      go_wp2
      go_ret
      exact ⟨by rw [HN.out]; rfl, hB⟩
    · have HN : Hid (pv (endP n0 ⟨p, q⟩) = false) := Lib.hid (pv_false (fun h => h2 h.2))
      have d1 : Hid (decide (0 ≤ p ∧ p ≤ (n0 : Int) - 1) = true) := Lib.hid (decide_eq_true h1)
      have d2 : Hid (decide (0 ≤ q ∧ q ≤ 1) = false) := Lib.hid (decide_eq_false h2)
      clear h1 h2
      go_enter Try.func127, Try.ntmps127
      go_wp2_with fail
      refine (l1in _ _ _ _).mono ?_
      rintro e w1 ⟨rfl, rfl⟩
      rw [d1.out]
      go_wp2_with fail
      refine (l1in _ _ _ _).mono ?_
      rintro e w1 ⟨rfl, rfl⟩
      rw [d2.out]
      go_wp2
      go_ret
      exact ⟨by rw [HN.out]; rfl, hB⟩
  · have HN : Hid (pv (endP n0 ⟨p, q⟩) = false) := Lib.hid (pv_false (fun h => h1 h.1))
    have d1 : Hid (decide (0 ≤ p ∧ p ≤ (n0 : Int) - 1) = false) := Lib.hid (decide_eq_false h1)
    clear h1
    go_enter Try.func127, Try.ntmps127
    go_wp2_with fail
    refine (l1in _ _ _ _).mono ?_
    rintro e w1 ⟨rfl, rfl⟩
    rw [d1.out]
    go_wp2
    go_ret
    exact ⟨by rw [HN.out]; rfl, hB⟩
end Go.Proofs.Ytginpmhjpjcahaa.L
