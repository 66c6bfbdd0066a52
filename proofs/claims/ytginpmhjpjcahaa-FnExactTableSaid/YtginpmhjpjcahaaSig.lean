/- What SignalsOk says; the reference's SignalsOk answers so. -/
import Derived.Test.YtginpmhjpjcahaaNet3
import Derived.Test.YtginpmhjpjcahaaEq
namespace Go.Proofs.Ytginpmhjpjcahaa.L
open Go.RowKit
set_option linter.unusedVariables false
set_option linter.unusedSimpArgs false
/-- A signal stands where one may stand. -/
def signalP (n : Net) (s : Signal) : Prop := nameP s.name ∧ (0 ≤ s.piece ∧ s.piece ≤ (n.pieces.length : Int) - 1) ∧ (s.way = 1 ∨ s.way = -1) ∧ ∃ p, n.pieces[s.piece.toNat]? = some p ∧ 1 ≤ s.at_ ∧ s.at_ ≤ p.len - 1
/-- Two signals that cannot both stand. -/
def clash (a b : Signal) : Prop := a.name = b.name ∨ (a.piece = b.piece ∧ a.at_ = b.at_ ∧ a.way = b.way)
def sbad3 (n : Net) (ss : List Signal) (i : Nat) : Prop := ∃ s, ss[i]? = some s ∧ ¬ signalP n s
def before (ss : List Signal) (i k : Nat) : Prop := ∃ j a b, j < k ∧ ss[j]? = some a ∧ ss[i]? = some b ∧ clash a b
def sbad4 (ss : List Signal) (i : Nat) : Prop := before ss i i
open Classical in
/-- SignalsOk, as both say it. -/
noncomputable def signalsOk (n : Net) (ss : List Signal) : Fault :=
  if ¬ netOk n = ⟨0, 0⟩ then ⟨1, 0⟩
  else if 60 < ss.length then ⟨2, 0⟩
  else if ∃ i, i < ss.length ∧ sbad3 n ss i then ⟨3, least (sbad3 n ss) ss.length⟩
  else if ∃ i, i < ss.length ∧ sbad4 ss i then ⟨4, least (sbad4 ss) ss.length⟩
  else ⟨0, 0⟩
section
variable {n : Net} {ss : List Signal}
theorem signalsOk_1 (h : ¬ netOk n = ⟨0, 0⟩) : signalsOk n ss = ⟨1, 0⟩ := by unfold signalsOk; rw [if_pos h]
theorem signalsOk_2 (h : netOk n = ⟨0, 0⟩) (h2 : 60 < ss.length) : signalsOk n ss = ⟨2, 0⟩ := by unfold signalsOk; rw [if_neg (fun e => e h), if_pos h2]
theorem signalsOk_3 {i : Nat} (h : netOk n = ⟨0, 0⟩) (h2 : ¬ 60 < ss.length) (hi : i < ss.length) (hb : sbad3 n ss i) (hj : ∀ j, j < i → ¬ sbad3 n ss j) : signalsOk n ss = ⟨3, i⟩ := by
  unfold signalsOk
  rw [if_neg (fun e => e h), if_neg h2, if_pos ⟨i, hi, hb⟩, least_eq hi hb hj]
theorem signalsOk_4 {i : Nat} (h : netOk n = ⟨0, 0⟩) (h2 : ¬ 60 < ss.length) (h3 : ∀ j, j < ss.length → ¬ sbad3 n ss j) (hi : i < ss.length) (hb : sbad4 ss i) (hj : ∀ j, j < i → ¬ sbad4 ss j) : signalsOk n ss = ⟨4, i⟩ := by
  unfold signalsOk
  rw [if_neg (fun e => e h), if_neg h2, if_neg (fun ⟨j, a, b⟩ => h3 j a b), if_pos ⟨i, hi, hb⟩, least_eq hi hb hj]
theorem signalsOk_0 (h : netOk n = ⟨0, 0⟩) (h2 : ¬ 60 < ss.length) (h3 : ∀ j, j < ss.length → ¬ sbad3 n ss j) (h4 : ∀ j, j < ss.length → ¬ sbad4 ss j) : signalsOk n ss = ⟨0, 0⟩ := by
  unfold signalsOk
  rw [if_neg (fun e => e h), if_neg h2, if_neg (fun ⟨j, a, b⟩ => h3 j a b), if_neg (fun ⟨j, a, b⟩ => h4 j a b)]
theorem before_zero {i : Nat} : ¬ before ss i 0 := fun ⟨j, _, _, h, _⟩ => by omega
theorem before_snoc {i k : Nat} {a b : Signal} (h : ¬ before ss i k) (ha : ss[k]? = some a) (hb : ss[i]? = some b) (hc : ¬ clash a b) : ¬ before ss i (k + 1) := by
  rintro ⟨j, a', b', hj, h1, h2, h3⟩
  rw [hb] at h2
  obtain rfl := Option.some.inj h2
  by_cases e : j = k
  · subst e
    rw [ha] at h1
    obtain rfl := Option.some.inj h1
    exact hc h3
  · exact h ⟨j, a', b, by omega, h1, hb, h3⟩
/-- The codes say where a fault is: none at 0 alone. -/
theorem netOk_code (n : Net) : (netOk n).code = 0 ↔ netOk n = ⟨0, 0⟩ := by
  constructor
  · unfold netOk
    intro h
    split at h
    · simp at h
    split at h
    · simp at h
    split at h
    · simp at h
    split at h
    · simp at h
    split at h
    · simp at h
    · rename_i g1 g2 g3 g4 g5
      rw [if_neg g1, if_neg g2, if_neg g3, if_neg g4, if_neg g5]
  · intro h
    rw [h]
theorem pieces_of_ok (h : netOk n = ⟨0, 0⟩) : 0 < n.pieces.length ∧ n.pieces.length ≤ 100 ∧ n.joints.length ≤ 120 ∧ ∀ p ∈ n.pieces, pieceP p := by
  unfold netOk at h
  split at h
  · simp at h
  rename_i g1
  split at h
  · simp at h
  rename_i g2
  refine ⟨Nat.pos_of_ne_zero (fun e => g1 (.inl e)), Nat.le_of_not_lt (fun e => g1 (.inr (.inl e))), Nat.le_of_not_lt (fun e => g1 (.inr (.inr e))), fun p hp => Classical.byContradiction fun hb => ?_⟩
  obtain ⟨i, hi⟩ := List.mem_iff_getElem?.1 hp
  exact g2 ⟨i, (List.getElem?_eq_some_iff.1 hi).1, p, hi, .inl hb⟩
end
theorem l1in_q {x a b : Int} {r : Bool} {w : World} (h : decide (a ≤ x ∧ x ≤ b) = r) : Calls Try.prog 64 #[.int .i64 x, .int .i64 a, .int .i64 b] w fun e w' => e = .returned (.bool r) ∧ w' = w := by
  subst h
  exact (l1in x a b w).mono fun e w' ⟨h1, h2⟩ => ⟨h1, h2.symm⟩
theorem str_eq {a b : ByteArray} (h : a = b) : (a.toList == b.toList) = true := by
  rw [h]
  exact beq_self_eq_true _
theorem int_eqf {a b : Int} (h : ¬ a = b) : (a == b) = false := by simpa using h
theorem int_eqt {a b : Int} (h : a = b) : (a == b) = true := by simpa using h
set_option maxHeartbeats 1000000 in
theorem l1ok {ok : Nat → Prop} (n : Net) (A0 A1 : Option Addr) (c0 c1 : Nat) (w : World) (hp : pieceK.C w ok A0 n.pieces) (hj : (jointK 118).C w ok A1 n.joints) (hfit : Hid n.fit) (hu : Hid (∀ e, uses n.joints e ≤ 1048576)) :
    Calls Try.prog 109 #[.agg #[.slice A0 n.pieces.length c0, .slice A1 n.joints.length c1]] w (RetB (eqv (netOk n) ⟨0, 0⟩) w) := by
  obtain ⟨f, hf⟩ : ∃ f, Hid (netOk n = f) := ⟨_, Lib.hid rfl⟩
  by_cases h : netOk n = ⟨0, 0⟩
  · have HE : Hid (eqv (netOk n) ⟨0, 0⟩ = true) := Lib.hid (eqv_true h)
    have HN := Lib.hid h
    have hk0 : (((0 : Int)) == 0) = true := rfl
    clear h
    go_enter Try.func109, Try.ntmps109
    go_wp2_with fail
    refine (specNetOk n A0 A1 c0 c1 _ (Kn.C_below (below_alloc _ _) hp) (Kn.C_below (below_alloc _ _) hj) hfit hu).mono ?_
    rintro e w1 ⟨rfl, hb1⟩
    rw [HN.out]
    go_wp2
    go_ret
    exact ⟨by rw [HE.out]; rfl, (((below_alloc _ _).trans (hb1.mono (by simp))).alloc (by have := hb1.size; simp at this; omega) _)⟩
  · have HE : Hid (eqv (netOk n) ⟨0, 0⟩ = false) := Lib.hid (eqv_false h)
    have hk0 : ((netOk n).code == 0) = false := int_eqf (fun e => h ((netOk_code n).1 e))
    clear h
    go_enter Try.func109, Try.ntmps109
    go_wp2_with fail
    refine (specNetOk n A0 A1 c0 c1 _ (Kn.C_below (below_alloc _ _) hp) (Kn.C_below (below_alloc _ _) hj) hfit hu).mono ?_
    rintro e w1 ⟨rfl, hb1⟩
    go_wp2
    go_ret
    exact ⟨by rw [HE.out]; rfl, (((below_alloc _ _).trans (hb1.mono (by simp))).alloc (by have := hb1.size; simp at this; omega) _)⟩
set_option maxHeartbeats 2000000 in
theorem l1before {ok : Nat → Prop} (ss : List Signal) (A0 : Option Addr) (c0 i : Nat) (w : World) (hs : signalK.C w ok A0 ss) (hi : i < ss.length) : Calls Try.prog 110 #[.slice A0 ss.length c0, .int .i64 i] w (RetB (pv (before ss i i)) w) := by
  have hm := hs.1
  go_enter Try.func110, Try.ntmps110
  go_wp2
  go_loopw [5] (fun i0 wr => ∃ k : Nat, k ≤ i ∧ i0 = .int .i64 k ∧ Hid (¬ before ss i k) ∧ Below w.heap.size w wr) (fun i0 _ => i - (intOf i0).toNat)
  case atStart => exact ⟨0, Nat.zero_le _, rfl, Lib.hid before_zero, Below.refl _ _⟩
  case round =>
    obtain ⟨k, hk, rfl, HB, hb⟩ := hrel
    by_cases hlt : k < i
    · obtain ⟨a0, rfl, y0, y1, y2, y3, E0, g0, g1, g2, g3⟩ := signalK_at (Kn.C_below hb hs) k (by omega)
      obtain ⟨a1, he, z0, z1, z2, z3, E1, k0, k1, k2, k3⟩ := signalK_at (Kn.C_below hb hs) i hi
      obtain rfl := Option.some.inj he
      have i0 : (0 : Int) ≤ (k : Int) := Int.natCast_nonneg _
      have i1 : (k : Int) < (ss.length : Int) := by omega
      have i2 : (0 : Int) ≤ (i : Int) := Int.natCast_nonneg _
      have i3 : (i : Int) < (ss.length : Int) := by omega
      have i4 : (k : Int) < (i : Int) := by omega
      have gb0 := World.block_lt_of_cell? _ _ k0
      have gb0' : (a0.add (i * 4)).block < wr.heap.size := gb0
      have hbx := (hb.alloc hb.size (Obj.cells #[.string y0, .int .i64 y1, .int .i64 y2, .int .i64 y3] 101)).alloc (by have := hb.size; simp; omega) (Obj.cells #[.string z0, .int .i64 z1, .int .i64 z2, .int .i64 z3] 101)
      by_cases q0 : y0 = z0
      · have d0 := str_eq q0
        have HN : Hid (pv (before ss i i) = true) := Lib.hid (pv_true ⟨k, _, _, hlt, E0.out, E1.out, (.inl q0 : clash ⟨y0, y1, y2, y3⟩ ⟨z0, z1, z2, z3⟩)⟩)
        clear q0
        go_wp2
        go_ret
        exact ⟨by rw [HN.out]; rfl, hbx⟩
      have d0 := str_ne q0
      by_cases q1 : y1 = z1
      rotate_left
      · have d1 := int_eqf q1
        have HN := Lib.hid (before_snoc HB.out E0.out E1.out (fun h => by rcases h with h | h; exact q0 h; exact q1 h.1))
        clear q0 q1
        go_wp2
        go_roundw
        case rel => exact ⟨k + 1, by omega, by go_num, HN, hbx⟩
        case measure => simp [intOf]; omega
      have d1 := int_eqt q1
      by_cases q2 : y2 = z2
      rotate_left
      · have d2 := int_eqf q2
        have HN := Lib.hid (before_snoc HB.out E0.out E1.out (fun h => by rcases h with h | h; exact q0 h; exact q2 h.2.1))
        clear q0 q1 q2
        go_wp2
        go_roundw
        case rel => exact ⟨k + 1, by omega, by go_num, HN, hbx⟩
        case measure => simp [intOf]; omega
      have d2 := int_eqt q2
      by_cases q3 : y3 = z3
      rotate_left
      · have d3 := int_eqf q3
        have HN := Lib.hid (before_snoc HB.out E0.out E1.out (fun h => by rcases h with h | h; exact q0 h; exact q3 h.2.2))
        clear q0 q1 q2 q3
        go_wp2
        go_roundw
        case rel => exact ⟨k + 1, by omega, by go_num, HN, hbx⟩
        case measure => simp [intOf]; omega
      have d3 := int_eqt q3
      have HN : Hid (pv (before ss i i) = true) := Lib.hid (pv_true ⟨k, _, _, hlt, E0.out, E1.out, (.inr ⟨q1, q2, q3⟩ : clash ⟨y0, y1, y2, y3⟩ ⟨z0, z1, z2, z3⟩)⟩)
      clear q0 q1 q2 q3
      go_wp2
      go_ret
      exact ⟨by rw [HN.out]; rfl, hbx⟩
    · obtain rfl : k = i := by omega
      have HN : Hid (pv (before ss k k) = false) := Lib.hid (pv_false HB.out)
      go_wp2
      go_ret
      exact ⟨by rw [HN.out]; rfl, hb⟩
end Go.Proofs.Ytginpmhjpjcahaa.L
