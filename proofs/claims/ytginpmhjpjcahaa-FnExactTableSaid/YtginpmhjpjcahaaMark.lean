/- The laws' markers write numbers that go up into a row of one's own; the holders find them there. -/
import Derived.Test.YtginpmhjpjcahaaRC
namespace Go.Proofs.Ytginpmhjpjcahaa.L
open Go.RowKit
set_option linter.unusedVariables false
set_option linter.unusedSimpArgs false
/-- The first m cells of a row of one's own are numbers that go up from k. -/
def Marked (e : TypeId) (sz : Nat) (A : Option Addr) (n c : Nat) (k : Int) (m : Nat) (w : World) : Prop :=
  ∃ inner, w.ownsRow 0 e sz (.slice A n c) n inner ∧ ∀ i, i < m → inner[i]? = some (.int .i64 (k + i))
theorem Marked.start {e : TypeId} {sz : Nat} {A : Option Addr} {n c : Nat} {k : Int} {w : World} {inner : List Value} (h : w.ownsRow 0 e sz (.slice A n c) n inner) : Marked e sz A n c k 0 w := ⟨inner, h, fun i hi => absurd hi (by omega)⟩
theorem Marked.move {e : TypeId} {sz : Nat} {A : Option Addr} {n c m : Nat} {k : Int} {w w1 : World} (h : Marked e sz A n c k m w) (hm : ∀ b, (Value.slice A n c).ownBlock = some b → w1.heap[b]? = w.heap[b]?) : Marked e sz A n c k m w1 := by
  obtain ⟨inner, ho, hi⟩ := h
  exact ⟨inner, Kn.own_move ho hm, hi⟩
theorem Marked.at_ {e : TypeId} {sz : Nat} {A : Option Addr} {n c m : Nat} {k : Int} {w : World} (h : Marked e sz A n c k m w) (hn : 0 < n) : ∃ g, A = some ⟨g, 0, none⟩ ∧ g < w.heap.size ∧ (∀ i, i < m → i < n * sz → w.cell? ⟨g, i, none⟩ = some (.int .i64 (k + i))) ∧
    (∀ i, i < n * sz → ∃ u, w.cell? ⟨g, i, none⟩ = some u) ∧ (∀ i, w.frozen? ⟨g, i, none⟩ = false) := by
  obtain ⟨inner, ho, hi⟩ := h
  have ho' := ho
  rcases ho.2 with ⟨he, h1⟩ | ⟨g, cap, cur, he, _, hh, _, _, _⟩
  · omega
  · injection he with he _ _
    subst he
    refine ⟨g, rfl, lt_of_get hh, fun i h1 h2 => by rw [ho.cellAt _ h2]; exact hi i h1, fun i h2 => ?_, fun i => ho.frozenAt _⟩
    rw [ho.cellAt _ h2]
    exact ⟨_, List.getElem?_eq_getElem (by rw [ho.1]; exact h2)⟩
theorem Marked.put {e : TypeId} {sz n c m g : Nat} {k : Int} {w : World} (h : Marked e sz (some ⟨g, 0, none⟩) n c k m w) (hm : m < n * sz) {j : Nat} {v : Int} (hj : j = m) (hv : v = k + m) :
    Marked e sz (some ⟨g, 0, none⟩) n c k (m + 1) (w.setCell ⟨g, j, none⟩ (.int .i64 v)) ∧ w.grownBy (w.setCell ⟨g, j, none⟩ (.int .i64 v)) (some g) := by
  subst hj
  subst hv
  obtain ⟨inner, ho, hi⟩ := h
  obtain ⟨h1, h2⟩ := ho.stored j (.int .i64 (k + j))
  refine ⟨⟨_, h1, fun i hij => ?_⟩, h2⟩
  by_cases e1 : i = j
  · subst e1
    rw [List.getElem?_set_self (by rw [ho.1]; exact hm)]
  · rw [List.getElem?_set_ne (fun h => e1 h.symm)]
    exact hi i (by omega)
def RetMark (e : TypeId) (sz : Nat) (A : Option Addr) (n c : Nat) (k : Int) (w : World) (en : Ending) (w' : World) : Prop :=
  en = .returned (.int .i64 (k + (sz * n : Nat))) ∧ Marked e sz A n c k (sz * n) w' ∧ w.grownBy w' (Value.slice A n c).ownBlock ∧ w'.heap.size = w.heap.size
theorem RetMark.open {e : TypeId} {sz : Nat} {A : Option Addr} {n c : Nat} {k : Int} {w w' : World} {en : Ending} (h : RetMark e sz A n c k w en w') :
    ∃ k' : Int, en = .returned (.int .i64 k') ∧ Hid (k' = k + (sz * n : Nat)) ∧ Hid (Marked e sz A n c k (sz * n) w') ∧ w.grownBy w' (Value.slice A n c).ownBlock ∧ w'.heap.size = w.heap.size := ⟨_, h.1, Lib.hid rfl, Lib.hid h.2.1, h.2.2.1, h.2.2.2⟩
/-- The same, of the world alone. -/
def RetI0 (r : Int) (w : World) (en : Ending) (w' : World) : Prop := en = .returned (.int .i64 r) ∧ w' = w
theorem grownBy_refl (w : World) (r : Option Nat) : w.grownBy w r := World.grownBy.refl w r
set_option maxRecDepth 100000 in
set_option maxHeartbeats 4000000 in
theorem markStepS (A : Option Addr) (n c : Nat) (k : Int) (w : World) (inner : List Value) (ho : w.ownsRow 0 59 2 (.slice A n c) n inner) (hn : n ≤ 4194304) (h0 : 0 ≤ k) (h1 : k ≤ 1125899906842624) :
    Calls Try.prog 104 #[.slice A n c, .int .i64 k] w (RetMark 59 2 A n c k w) := by
  go_enter Try.func104, Try.ntmps104
  go_wp2
  go_loopw [1, 5] (fun kk i wr => ∃ j : Nat, j ≤ n ∧ i = .int .i64 j ∧ kk = .int .i64 (k + (2 * j : Nat)) ∧ Hid (Marked 59 2 A n c k (2 * j) wr) ∧ Hid (w.grownBy wr (Value.slice A n c).ownBlock) ∧ Hid (wr.heap.size = w.heap.size)) (fun _ i _ => n - (intOf i).toNat)
  case atStart => exact ⟨0, Nat.zero_le _, rfl, by simp, Lib.hid (Marked.start ho), Lib.hid (grownBy_refl _ _), Lib.hid rfl⟩
  case round =>
    obtain ⟨j, hj, rfl, rfl, HM, HG, HS⟩ := hrel
    by_cases hlt : j < n
    · have i0 : (0 : Int) ≤ (j : Int) := Int.natCast_nonneg _
      have i1 : (j : Int) < (n : Int) := by omega
      obtain ⟨g, rfl, hg, _, hc, hf⟩ := HM.out.at_ (by omega)
      obtain ⟨u0, hc0⟩ := hc (j * 2) (by omega)
      have hf0 := hf (j * 2)
      obtain ⟨u1, hc1⟩ := hc (j * 2 + 1) (by omega)
      have hf1 := hf (j * 2 + 1)
      clear hc hf
      obtain ⟨M0, G0⟩ := Marked.put (HM.out) (m := 2 * j + 0) (by omega) (j := j * 2) (v := k + (2 * j : Nat)) (by omega) (by push_cast; omega)
      obtain ⟨M1, G1⟩ := Marked.put (M0) (m := 2 * j + 1) (by omega) (j := j * 2 + 1) (v := k + (2 * j : Nat) + 1) (by omega) (by push_cast; omega)
      have HM2 := Lib.hid (show Marked _ _ _ _ _ _ (2 * (j + 1)) _ from M1)
      have HG2 := Lib.hid (World.grownBy.trans HG.out (World.grownBy.trans (G0) G1))
      clear M0 G0 M1 G1 HM
      go_wp2
      go_roundw
      case rel => exact ⟨j + 1, by omega, by go_num, by go_num, HM2, HG2, Lib.hid (by simp [HS.out])⟩
      case measure => simp [intOf]; omega
    · obtain rfl : j = n := by omega
      go_wp2
      go_ret
      exact ⟨rfl, HM.out, HG.out, HS.out⟩
set_option maxRecDepth 100000 in
set_option maxHeartbeats 4000000 in
theorem markLieS (A : Option Addr) (n c : Nat) (k : Int) (w : World) (inner : List Value) (ho : w.ownsRow 0 65 2 (.slice A n c) n inner) (hn : n ≤ 4194304) (h0 : 0 ≤ k) (h1 : k ≤ 1125899906842624) :
    Calls Try.prog 37 #[.slice A n c, .int .i64 k] w (RetMark 65 2 A n c k w) := by
  go_enter Try.func37, Try.ntmps37
  go_wp2
  go_loopw [1, 5] (fun kk i wr => ∃ j : Nat, j ≤ n ∧ i = .int .i64 j ∧ kk = .int .i64 (k + (2 * j : Nat)) ∧ Hid (Marked 65 2 A n c k (2 * j) wr) ∧ Hid (w.grownBy wr (Value.slice A n c).ownBlock) ∧ Hid (wr.heap.size = w.heap.size)) (fun _ i _ => n - (intOf i).toNat)
  case atStart => exact ⟨0, Nat.zero_le _, rfl, by simp, Lib.hid (Marked.start ho), Lib.hid (grownBy_refl _ _), Lib.hid rfl⟩
  case round =>
    obtain ⟨j, hj, rfl, rfl, HM, HG, HS⟩ := hrel
    by_cases hlt : j < n
    · have i0 : (0 : Int) ≤ (j : Int) := Int.natCast_nonneg _
      have i1 : (j : Int) < (n : Int) := by omega
      obtain ⟨g, rfl, hg, _, hc, hf⟩ := HM.out.at_ (by omega)
      obtain ⟨u0, hc0⟩ := hc (j * 2) (by omega)
      have hf0 := hf (j * 2)
      obtain ⟨u1, hc1⟩ := hc (j * 2 + 1) (by omega)
      have hf1 := hf (j * 2 + 1)
      clear hc hf
      obtain ⟨M0, G0⟩ := Marked.put (HM.out) (m := 2 * j + 0) (by omega) (j := j * 2) (v := k + (2 * j : Nat)) (by omega) (by push_cast; omega)
      obtain ⟨M1, G1⟩ := Marked.put (M0) (m := 2 * j + 1) (by omega) (j := j * 2 + 1) (v := k + (2 * j : Nat) + 1) (by omega) (by push_cast; omega)
      have HM2 := Lib.hid (show Marked _ _ _ _ _ _ (2 * (j + 1)) _ from M1)
      have HG2 := Lib.hid (World.grownBy.trans HG.out (World.grownBy.trans (G0) G1))
      clear M0 G0 M1 G1 HM
      go_wp2
      go_roundw
      case rel => exact ⟨j + 1, by omega, by go_num, by go_num, HM2, HG2, Lib.hid (by simp [HS.out])⟩
      case measure => simp [intOf]; omega
    · obtain rfl : j = n := by omega
      go_wp2
      go_ret
      exact ⟨rfl, HM.out, HG.out, HS.out⟩
set_option maxRecDepth 100000 in
set_option maxHeartbeats 4000000 in
theorem heldLieS (A : Option Addr) (n c : Nat) (k : Int) (w : World) (hm : Marked 65 2 A n c k (2 * n) w) (hn : n ≤ 4194304) (h0 : 0 ≤ k) (h1 : k ≤ 1125899906842624) :
    Calls Try.prog 38 #[.slice A n c, .int .i64 k] w (RetI0 (k + (2 * n : Nat)) w) := by
  have HM := Lib.hid hm
  clear hm
  go_enter Try.func38, Try.ntmps38
  go_wp2
  go_loopw [1, 5] (fun kk i wr => ∃ j : Nat, j ≤ n ∧ i = .int .i64 j ∧ kk = .int .i64 (k + (2 * j : Nat)) ∧ wr = w) (fun _ i _ => n - (intOf i).toNat)
  case atStart => exact ⟨0, Nat.zero_le _, rfl, by simp, rfl⟩
  case round =>
    obtain ⟨j, hj, rfl, rfl, rfl⟩ := hrel
    by_cases hlt : j < n
    · have i0 : (0 : Int) ≤ (j : Int) := Int.natCast_nonneg _
      have i1 : (j : Int) < (n : Int) := by omega
      obtain ⟨g, rfl, hg, hc, _, _⟩ := HM.out.at_ (by omega)
      have hc0 : wr.cell? ⟨g, j * 2, none⟩ = some (.int .i64 (k + (2 * j : Nat))) := by rw [hc (j * 2) (by omega) (by omega)]; congr 2 <;> (push_cast; omega)
      have hc1 : wr.cell? ⟨g, j * 2 + 1, none⟩ = some (.int .i64 (k + (2 * j : Nat) + 1)) := by rw [hc (j * 2 + 1) (by omega) (by omega)]; congr 2 <;> (push_cast; omega)
      clear hc
      go_wp2
      go_roundw
      case rel => exact ⟨j + 1, by omega, by go_num, by go_num, by first | rfl | trivial⟩
      case measure => simp [intOf]; omega
    · obtain rfl : j = n := by omega
      go_wp2
      go_ret
      exact ⟨rfl, rfl⟩
set_option maxRecDepth 100000 in
set_option maxHeartbeats 4000000 in
theorem markIntS (A : Option Addr) (n c : Nat) (k : Int) (w : World) (inner : List Value) (ho : w.ownsRow 0 3 1 (.slice A n c) n inner) (hn : n ≤ 4194304) (h0 : 0 ≤ k) (h1 : k ≤ 1125899906842624) :
    Calls Try.prog 105 #[.slice A n c, .int .i64 k] w (RetMark 3 1 A n c k w) := by
  go_enter Try.func105, Try.ntmps105
  go_wp2
  go_loopw [1, 5] (fun kk i wr => ∃ j : Nat, j ≤ n ∧ i = .int .i64 j ∧ kk = .int .i64 (k + (j : Nat)) ∧ Hid (Marked 3 1 A n c k (j) wr) ∧ Hid (w.grownBy wr (Value.slice A n c).ownBlock) ∧ Hid (wr.heap.size = w.heap.size)) (fun _ i _ => n - (intOf i).toNat)
  case atStart => exact ⟨0, Nat.zero_le _, rfl, by simp, Lib.hid (Marked.start ho), Lib.hid (grownBy_refl _ _), Lib.hid rfl⟩
  case round =>
    obtain ⟨j, hj, rfl, rfl, HM, HG, HS⟩ := hrel
    by_cases hlt : j < n
    · have i0 : (0 : Int) ≤ (j : Int) := Int.natCast_nonneg _
      have i1 : (j : Int) < (n : Int) := by omega
      obtain ⟨g, rfl, hg, _, hc, hf⟩ := HM.out.at_ (by omega)
      obtain ⟨u0, hc0⟩ := hc (j) (by omega)
      have hf0 := hf (j)
      clear hc hf
      obtain ⟨M0, G0⟩ := Marked.put (HM.out) (m := j + 0) (by omega) (j := j) (v := k + (j : Nat)) (by omega) (by push_cast; omega)
      have HM2 := Lib.hid (show Marked _ _ _ _ _ _ (j + 1) _ from M0)
      have HG2 := Lib.hid (World.grownBy.trans HG.out (G0))
      clear M0 G0 HM
      go_wp2
      go_roundw
      case rel => exact ⟨j + 1, by omega, by go_num, by go_num, HM2, HG2, Lib.hid (by simp [HS.out])⟩
      case measure => simp [intOf]; omega
    · obtain rfl : j = n := by omega
      go_wp2
      go_ret
      exact ⟨by simp, by simpa using HM.out, HG.out, HS.out⟩
set_option maxRecDepth 100000 in
set_option maxHeartbeats 4000000 in
theorem heldIntS (A : Option Addr) (n c : Nat) (k : Int) (w : World) (hm : Marked 3 1 A n c k (1 * n) w) (hn : n ≤ 4194304) (h0 : 0 ≤ k) (h1 : k ≤ 1125899906842624) :
    Calls Try.prog 114 #[.slice A n c, .int .i64 k] w (RetI0 (k + (1 * n : Nat)) w) := by
  have HM := Lib.hid hm
  clear hm
  go_enter Try.func114, Try.ntmps114
  go_wp2
  go_loopw [1, 5] (fun kk i wr => ∃ j : Nat, j ≤ n ∧ i = .int .i64 j ∧ kk = .int .i64 (k + (j : Nat)) ∧ wr = w) (fun _ i _ => n - (intOf i).toNat)
  case atStart => exact ⟨0, Nat.zero_le _, rfl, by simp, rfl⟩
  case round =>
    obtain ⟨j, hj, rfl, rfl, rfl⟩ := hrel
    by_cases hlt : j < n
    · have i0 : (0 : Int) ≤ (j : Int) := Int.natCast_nonneg _
      have i1 : (j : Int) < (n : Int) := by omega
      obtain ⟨g, rfl, hg, hc, _, _⟩ := HM.out.at_ (by omega)
      have hc0 : wr.cell? ⟨g, j, none⟩ = some (.int .i64 (k + (j : Nat))) := hc (j) (by omega) (by omega)
      clear hc
      go_wp2
      go_roundw
      case rel => exact ⟨j + 1, by omega, by go_num, by go_num, by first | rfl | trivial⟩
      case measure => simp [intOf]; omega
    · obtain rfl : j = n := by omega
      go_wp2
      go_ret
      exact ⟨by simp, rfl⟩
set_option maxRecDepth 100000 in
set_option maxHeartbeats 4000000 in
theorem markPartS (A : Option Addr) (n c : Nat) (k : Int) (w : World) (inner : List Value) (ho : w.ownsRow 0 61 3 (.slice A n c) n inner) (hn : n ≤ 4194304) (h0 : 0 ≤ k) (h1 : k ≤ 1125899906842624) :
    Calls Try.prog 106 #[.slice A n c, .int .i64 k] w (RetMark 61 3 A n c k w) := by
  go_enter Try.func106, Try.ntmps106
  go_wp2
  go_loopw [1, 5] (fun kk i wr => ∃ j : Nat, j ≤ n ∧ i = .int .i64 j ∧ kk = .int .i64 (k + (3 * j : Nat)) ∧ Hid (Marked 61 3 A n c k (3 * j) wr) ∧ Hid (w.grownBy wr (Value.slice A n c).ownBlock) ∧ Hid (wr.heap.size = w.heap.size)) (fun _ i _ => n - (intOf i).toNat)
  case atStart => exact ⟨0, Nat.zero_le _, rfl, by simp, Lib.hid (Marked.start ho), Lib.hid (grownBy_refl _ _), Lib.hid rfl⟩
  case round =>
    obtain ⟨j, hj, rfl, rfl, HM, HG, HS⟩ := hrel
    by_cases hlt : j < n
    · have i0 : (0 : Int) ≤ (j : Int) := Int.natCast_nonneg _
      have i1 : (j : Int) < (n : Int) := by omega
      obtain ⟨g, rfl, hg, _, hc, hf⟩ := HM.out.at_ (by omega)
      obtain ⟨u0, hc0⟩ := hc (j * 3) (by omega)
      have hf0 := hf (j * 3)
      obtain ⟨u1, hc1⟩ := hc (j * 3 + 1) (by omega)
      have hf1 := hf (j * 3 + 1)
      obtain ⟨u2, hc2⟩ := hc (j * 3 + 2) (by omega)
      have hf2 := hf (j * 3 + 2)
      clear hc hf
      obtain ⟨M0, G0⟩ := Marked.put (HM.out) (m := 3 * j + 0) (by omega) (j := j * 3) (v := k + (3 * j : Nat)) (by omega) (by push_cast; omega)
      obtain ⟨M1, G1⟩ := Marked.put (M0) (m := 3 * j + 1) (by omega) (j := j * 3 + 1) (v := k + (3 * j : Nat) + 1) (by omega) (by push_cast; omega)
      obtain ⟨M2, G2⟩ := Marked.put (M1) (m := 3 * j + 2) (by omega) (j := j * 3 + 2) (v := k + (3 * j : Nat) + 1 + 1) (by omega) (by push_cast; omega)
      have HM2 := Lib.hid (show Marked _ _ _ _ _ _ (3 * (j + 1)) _ from M2)
      have HG2 := Lib.hid (World.grownBy.trans HG.out (World.grownBy.trans (World.grownBy.trans (G0) G1) G2))
      clear M0 G0 M1 G1 M2 G2 HM
      go_wp2
      go_roundw
      case rel => exact ⟨j + 1, by omega, by go_num, by go_num, HM2, HG2, Lib.hid (by simp [HS.out])⟩
      case measure => simp [intOf]; omega
    · obtain rfl : j = n := by omega
      go_wp2
      go_ret
      exact ⟨rfl, HM.out, HG.out, HS.out⟩
set_option maxRecDepth 100000 in
set_option maxHeartbeats 4000000 in
theorem markFlankS (A : Option Addr) (n c : Nat) (k : Int) (w : World) (inner : List Value) (ho : w.ownsRow 0 63 4 (.slice A n c) n inner) (hn : n ≤ 4194304) (h0 : 0 ≤ k) (h1 : k ≤ 1125899906842624) :
    Calls Try.prog 107 #[.slice A n c, .int .i64 k] w (RetMark 63 4 A n c k w) := by
  go_enter Try.func107, Try.ntmps107
  go_wp2
  go_loopw [1, 5] (fun kk i wr => ∃ j : Nat, j ≤ n ∧ i = .int .i64 j ∧ kk = .int .i64 (k + (4 * j : Nat)) ∧ Hid (Marked 63 4 A n c k (4 * j) wr) ∧ Hid (w.grownBy wr (Value.slice A n c).ownBlock) ∧ Hid (wr.heap.size = w.heap.size)) (fun _ i _ => n - (intOf i).toNat)
  case atStart => exact ⟨0, Nat.zero_le _, rfl, by simp, Lib.hid (Marked.start ho), Lib.hid (grownBy_refl _ _), Lib.hid rfl⟩
  case round =>
    obtain ⟨j, hj, rfl, rfl, HM, HG, HS⟩ := hrel
    by_cases hlt : j < n
    · have i0 : (0 : Int) ≤ (j : Int) := Int.natCast_nonneg _
      have i1 : (j : Int) < (n : Int) := by omega
      obtain ⟨g, rfl, hg, _, hc, hf⟩ := HM.out.at_ (by omega)
      obtain ⟨u0, hc0⟩ := hc (j * 4) (by omega)
      have hf0 := hf (j * 4)
      obtain ⟨u1, hc1⟩ := hc (j * 4 + 1) (by omega)
      have hf1 := hf (j * 4 + 1)
      obtain ⟨u2, hc2⟩ := hc (j * 4 + 2) (by omega)
      have hf2 := hf (j * 4 + 2)
      obtain ⟨u3, hc3⟩ := hc (j * 4 + 3) (by omega)
      have hf3 := hf (j * 4 + 3)
      clear hc hf
      obtain ⟨M0, G0⟩ := Marked.put (HM.out) (m := 4 * j + 0) (by omega) (j := j * 4) (v := k + (4 * j : Nat)) (by omega) (by push_cast; omega)
      obtain ⟨M1, G1⟩ := Marked.put (M0) (m := 4 * j + 1) (by omega) (j := j * 4 + 1) (v := k + (4 * j : Nat) + 1) (by omega) (by push_cast; omega)
      obtain ⟨M2, G2⟩ := Marked.put (M1) (m := 4 * j + 2) (by omega) (j := j * 4 + 2) (v := k + (4 * j : Nat) + 1 + 1) (by omega) (by push_cast; omega)
      obtain ⟨M3, G3⟩ := Marked.put (M2) (m := 4 * j + 3) (by omega) (j := j * 4 + 3) (v := k + (4 * j : Nat) + 1 + 1 + 1) (by omega) (by push_cast; omega)
      have HM2 := Lib.hid (show Marked _ _ _ _ _ _ (4 * (j + 1)) _ from M3)
      have HG2 := Lib.hid (World.grownBy.trans HG.out (World.grownBy.trans (World.grownBy.trans (World.grownBy.trans (G0) G1) G2) G3))
      clear M0 G0 M1 G1 M2 G2 M3 G3 HM
      go_wp2
      go_roundw
      case rel => exact ⟨j + 1, by omega, by go_num, by go_num, HM2, HG2, Lib.hid (by simp [HS.out])⟩
      case measure => simp [intOf]; omega
    · obtain rfl : j = n := by omega
      go_wp2
      go_ret
      exact ⟨rfl, HM.out, HG.out, HS.out⟩
theorem O_row {α : Type} {d : Kn α} {e : Nat} {w : World} {xs : List α} {v : Value} {F : List Nat} (h : (Kn.slice e d).O w xs [v] F) : ∃ inner, w.ownsRow 0 e d.sz v xs.length inner ∧ ∀ b, v.ownBlock = some b → b ∈ F := by
  obtain ⟨v', ps, he, rfl, ⟨inner, ho, _, _⟩, rfl⟩ := h
  injection he with he _
  subst he
  exact ⟨inner, by rw [List.length_map]; exact ho, fun b hb => Kn.mem_foot_own hb⟩
theorem apart6 {F2 F3 F4 F5 F6 F7 : List Nat} (h : (F2 ++ (F3 ++ (F4 ++ (F5 ++ (F6 ++ F7))))).Nodup) : (∀ b, b ∈ F2 → b ∈ F3 → False) ∧ (∀ b, b ∈ F2 → b ∈ F4 → False) ∧ (∀ b, b ∈ F2 → b ∈ F5 → False) ∧ (∀ b, b ∈ F2 → b ∈ F6 → False) ∧ (∀ b, b ∈ F2 → b ∈ F7 → False) ∧ (∀ b, b ∈ F3 → b ∈ F4 → False) ∧ (∀ b, b ∈ F3 → b ∈ F5 → False) ∧ (∀ b, b ∈ F3 → b ∈ F6 → False) ∧ (∀ b, b ∈ F3 → b ∈ F7 → False) ∧ (∀ b, b ∈ F4 → b ∈ F5 → False) ∧ (∀ b, b ∈ F4 → b ∈ F6 → False) ∧ (∀ b, b ∈ F4 → b ∈ F7 → False) ∧ (∀ b, b ∈ F5 → b ∈ F6 → False) ∧ (∀ b, b ∈ F5 → b ∈ F7 → False) ∧ (∀ b, b ∈ F6 → b ∈ F7 → False) := by
  have s2 := List.nodup_append.1 h
  have s3 := List.nodup_append.1 s2.2.1
  have s4 := List.nodup_append.1 s3.2.1
  have s5 := List.nodup_append.1 s4.2.1
  have s6 := List.nodup_append.1 s5.2.1
  refine ⟨?_, ?_, ?_, ?_, ?_, ?_, ?_, ?_, ?_, ?_, ?_, ?_, ?_, ?_, ?_⟩
  · exact fun b h1 h2 => s2.2.2 b h1 b (by simp [h2]) rfl
  · exact fun b h1 h2 => s2.2.2 b h1 b (by simp [h2]) rfl
  · exact fun b h1 h2 => s2.2.2 b h1 b (by simp [h2]) rfl
  · exact fun b h1 h2 => s2.2.2 b h1 b (by simp [h2]) rfl
  · exact fun b h1 h2 => s2.2.2 b h1 b (by simp [h2]) rfl
  · exact fun b h1 h2 => s3.2.2 b h1 b (by simp [h2]) rfl
  · exact fun b h1 h2 => s3.2.2 b h1 b (by simp [h2]) rfl
  · exact fun b h1 h2 => s3.2.2 b h1 b (by simp [h2]) rfl
  · exact fun b h1 h2 => s3.2.2 b h1 b (by simp [h2]) rfl
  · exact fun b h1 h2 => s4.2.2 b h1 b (by simp [h2]) rfl
  · exact fun b h1 h2 => s4.2.2 b h1 b (by simp [h2]) rfl
  · exact fun b h1 h2 => s4.2.2 b h1 b (by simp [h2]) rfl
  · exact fun b h1 h2 => s5.2.2 b h1 b (by simp [h2]) rfl
  · exact fun b h1 h2 => s5.2.2 b h1 b (by simp [h2]) rfl
  · exact fun b h1 h2 => s6.2.2 b h1 b (by simp [h2]) rfl
/-- A marker of what is one's own: a number that has not gone down; all else is as it was. -/
def RetMk (F : List Nat) (k : Int) (m : Nat) (w : World) (en : Ending) (w' : World) : Prop := ∃ k' : Int, en = .returned (.int .i64 k') ∧ k ≤ k' ∧ k' ≤ k + m ∧ Keep (fun b => b ∈ F) w w'
set_option maxRecDepth 100000 in
set_option maxHeartbeats 4000000 in
theorem markRoute (x : Route) (A2 A3 A4 A5 A6 A7 : Option Addr) (c2 c3 c4 c5 c6 c7 : Nat) (F : List Nat) (k : Int) (w : World) (ho : rK.O w x [.int .i64 x.frm, .int .i64 x.til, .slice A2 x.steps.length c2, .slice A3 x.lies.length c3, .slice A4 x.crosses.length c4, .slice A5 x.parts.length c5, .slice A6 x.over.length c6, .slice A7 x.flanks.length c7] F) (hn : x.n ≤ 1048576) (h0 : 0 ≤ k) (h1 : k ≤ 1099511627776) :
    Calls Try.prog 36 #[.agg #[.int .i64 x.frm, .int .i64 x.til, .slice A2 x.steps.length c2, .slice A3 x.lies.length c3, .slice A4 x.crosses.length c4, .slice A5 x.parts.length c5, .slice A6 x.over.length c6, .slice A7 x.flanks.length c7], .int .i64 k] w (RetMk F k (4 * x.n) w) := by
  have hlt := rK.O_lt ho
  obtain ⟨v2, v3, v4, v5, v6, v7, F2, F3, F4, F5, F6, F7, he, rfl, o2, o3, o4, o5, o6, o7, hnd⟩ := routeK_O ho
  clear ho
  injection he with _ he
  injection he with _ he
  injection he with e2 he
  subst e2
  injection he with e3 he
  subst e3
  injection he with e4 he
  subst e4
  injection he with e5 he
  subst e5
  injection he with e6 he
  subst e6
  injection he with e7 he
  subst e7
  obtain ⟨a23, a24, a25, a26, a27, a34, a35, a36, a37, a45, a46, a47, a56, a57, a67⟩ := apart6 hnd
  obtain ⟨inner2, r2, f2⟩ := O_row o2
  clear o2
  obtain ⟨inner3, r3, f3⟩ := O_row o3
  clear o3
  obtain ⟨inner4, r4, f4⟩ := O_row o4
  clear o4
  obtain ⟨inner5, r5, f5⟩ := O_row o5
  clear o5
  obtain ⟨inner6, r6, f6⟩ := O_row o6
  clear o6
  obtain ⟨inner7, r7, f7⟩ := O_row o7
  clear o7
  have t2 : ∀ b, (Value.slice A2 x.steps.length c2).ownBlock = some b → b < w.heap.size := fun b hb => (r2.lt b hb).2
  have t3 : ∀ b, (Value.slice A3 x.lies.length c3).ownBlock = some b → b < w.heap.size := fun b hb => (r3.lt b hb).2
  have t4 : ∀ b, (Value.slice A4 x.crosses.length c4).ownBlock = some b → b < w.heap.size := fun b hb => (r4.lt b hb).2
  have t5 : ∀ b, (Value.slice A5 x.parts.length c5).ownBlock = some b → b < w.heap.size := fun b hb => (r5.lt b hb).2
  have t6 : ∀ b, (Value.slice A6 x.over.length c6).ownBlock = some b → b < w.heap.size := fun b hb => (r6.lt b hb).2
  have t7 : ∀ b, (Value.slice A7 x.flanks.length c7).ownBlock = some b → b < w.heap.size := fun b hb => (r7.lt b hb).2
  have R2 := Lib.hid r2
  have F2' := Lib.hid f2
  have T2 := Lib.hid t2
  clear r2 f2 t2
  have R3 := Lib.hid r3
  have F3' := Lib.hid f3
  have T3 := Lib.hid t3
  clear r3 f3 t3
  have R4 := Lib.hid r4
  have F4' := Lib.hid f4
  have T4 := Lib.hid t4
  clear r4 f4 t4
  have R5 := Lib.hid r5
  have F5' := Lib.hid f5
  have T5 := Lib.hid t5
  clear r5 f5 t5
  have R6 := Lib.hid r6
  have F6' := Lib.hid f6
  have T6 := Lib.hid t6
  clear r6 f6 t6
  have R7 := Lib.hid r7
  have F7' := Lib.hid f7
  have T7 := Lib.hid t7
  clear r7 f7 t7
  have A23 := Lib.hid a23
  clear a23
  have A24 := Lib.hid a24
  clear a24
  have A25 := Lib.hid a25
  clear a25
  have A26 := Lib.hid a26
  clear a26
  have A27 := Lib.hid a27
  clear a27
  have A34 := Lib.hid a34
  clear a34
  have A35 := Lib.hid a35
  clear a35
  have A36 := Lib.hid a36
  clear a36
  have A37 := Lib.hid a37
  clear a37
  have A45 := Lib.hid a45
  clear a45
  have A46 := Lib.hid a46
  clear a46
  have A47 := Lib.hid a47
  clear a47
  have A56 := Lib.hid a56
  clear a56
  have A57 := Lib.hid a57
  clear a57
  have A67 := Lib.hid a67
  clear a67
  have HL := Lib.hid hlt
  clear hlt hnd
  unfold Route.n at hn ⊢
  obtain ⟨k1, rfl⟩ : ∃ k1 : Int, k1 = k := ⟨_, rfl⟩
  obtain ⟨W1, hW, B1, hz1, G1⟩ : ∃ W, W = w.alloc (.cells #[.int .i64 x.frm, .int .i64 x.til, .slice A2 x.steps.length c2, .slice A3 x.lies.length c3, .slice A4 x.crosses.length c4, .slice A5 x.parts.length c5, .slice A6 x.over.length c6, .slice A7 x.flanks.length c7] 57) ∧ Hid (Keep (fun b => b ∈ ([] : List Nat)) w W) ∧ w.heap.size < W.heap.size ∧ Hid (Blk W w.heap.size 57 [.int .i64 x.frm, .int .i64 x.til, .slice A2 x.steps.length c2, .slice A3 x.lies.length c3, .slice A4 x.crosses.length c4, .slice A5 x.parts.length c5, .slice A6 x.over.length c6, .slice A7 x.flanks.length c7]) := ⟨_, rfl, Lib.hid ((Keep.refl _ _).alloc _), by simp, Lib.hid (Blk.new w _ _ rfl)⟩
  have g2 : W1.cell? ⟨w.heap.size, 2, none⟩ = some (.slice A2 x.steps.length c2) := G1.out.cell 2 rfl
  go_enter Try.func36, Try.ntmps36
  go_wp2_with fail
  rw [← hW]
  clear hW
  have ro : W1.ownsRow 0 59 2 (.slice A2 x.steps.length c2) x.steps.length inner2 := Kn.own_move R2.out (fun b hb => B1.out.block b (T2.out b hb) (fun h => by cases h))
  refine (markStepS A2 x.steps.length c2 (k1) _ inner2 ro (by omega) (by omega) (by omega)).mono ?_
  intro e w2 hr
  obtain ⟨k2, rfl, hk, _, hg, hs⟩ := RetMark.open hr
  have u2 : k1 ≤ k2 := by have := hk.out; omega
  have v2 : k2 ≤ k1 + 2 * (x.steps.length : Int) := by have := hk.out; push_cast at this; omega
  clear hr hk
  clear ro
  have B2 : Hid (Keep (fun b => b ∈ F2) w w2) := Lib.hid ((B1.out.mono (fun y _ h => by cases h)).grown hg (fun b hb _ => by have := F2'.out b hb; simp [this]))
  have G2 : Hid (Blk w2 w.heap.size 57 [.int .i64 x.frm, .int .i64 x.til, .slice A2 x.steps.length c2, .slice A3 x.lies.length c3, .slice A4 x.crosses.length c4, .slice A5 x.parts.length c5, .slice A6 x.over.length c6, .slice A7 x.flanks.length c7]) := Lib.hid ((hg.block w.heap.size hz1 (fun h => by have := T2.out _ h.symm; omega)).trans G1.out)
  have hz2 : w.heap.size < w2.heap.size := by omega
  have g3 : w2.cell? ⟨w.heap.size, 3, none⟩ = some (.slice A3 x.lies.length c3) := G2.out.cell 3 rfl
  clear hg hs g2 B1 G1 hz1
  go_wp2_with fail
  obtain ⟨W2, rfl⟩ : ∃ W, W = w2 := ⟨_, rfl⟩
  have ro : W2.ownsRow 0 65 2 (.slice A3 x.lies.length c3) x.lies.length inner3 := Kn.own_move R3.out (fun b hb => B2.out.block b (T3.out b hb) (fun h => A23.out b h (F3'.out b hb)))
  refine (markLieS A3 x.lies.length c3 (k2) _ inner3 ro (by omega) (by omega) (by omega)).mono ?_
  intro e w3 hr
  obtain ⟨k3, rfl, hk, _, hg, hs⟩ := RetMark.open hr
  have u3 : k2 ≤ k3 := by have := hk.out; omega
  have v3 : k3 ≤ k2 + 2 * (x.lies.length : Int) := by have := hk.out; push_cast at this; omega
  clear hr hk
  clear ro
  have B3 : Hid (Keep (fun b => b ∈ F2 ++ F3) w w3) := Lib.hid ((B2.out.mono (fun y _ h => by simp only [List.mem_append] at h ⊢; exact .inl h)).grown hg (fun b hb _ => by have := F3'.out b hb; simp [this]))
  have G3 : Hid (Blk w3 w.heap.size 57 [.int .i64 x.frm, .int .i64 x.til, .slice A2 x.steps.length c2, .slice A3 x.lies.length c3, .slice A4 x.crosses.length c4, .slice A5 x.parts.length c5, .slice A6 x.over.length c6, .slice A7 x.flanks.length c7]) := Lib.hid ((hg.block w.heap.size hz2 (fun h => by have := T3.out _ h.symm; omega)).trans G2.out)
  have hz3 : w.heap.size < w3.heap.size := by omega
  have g4 : w3.cell? ⟨w.heap.size, 4, none⟩ = some (.slice A4 x.crosses.length c4) := G3.out.cell 4 rfl
  clear hg hs g3 B2 G2 hz2
  go_wp2_with fail
  obtain ⟨W3, rfl⟩ : ∃ W, W = w3 := ⟨_, rfl⟩
  have ro : W3.ownsRow 0 3 1 (.slice A4 x.crosses.length c4) x.crosses.length inner4 := Kn.own_move R4.out (fun b hb => B3.out.block b (T4.out b hb) (fun h => by simp only [List.mem_append] at h; rcases h with (h | h); exact A24.out b h (F4'.out b hb); exact A34.out b h (F4'.out b hb)))
  refine (markIntS A4 x.crosses.length c4 (k3) _ inner4 ro (by omega) (by omega) (by omega)).mono ?_
  intro e w4 hr
  obtain ⟨k4, rfl, hk, _, hg, hs⟩ := RetMark.open hr
  have u4 : k3 ≤ k4 := by have := hk.out; omega
  have v4 : k4 ≤ k3 + 1 * (x.crosses.length : Int) := by have := hk.out; push_cast at this; omega
  clear hr hk
  clear ro
  have B4 : Hid (Keep (fun b => b ∈ F2 ++ F3 ++ F4) w w4) := Lib.hid ((B3.out.mono (fun y _ h => by simp only [List.mem_append] at h ⊢; exact .inl h)).grown hg (fun b hb _ => by have := F4'.out b hb; simp [this]))
  have G4 : Hid (Blk w4 w.heap.size 57 [.int .i64 x.frm, .int .i64 x.til, .slice A2 x.steps.length c2, .slice A3 x.lies.length c3, .slice A4 x.crosses.length c4, .slice A5 x.parts.length c5, .slice A6 x.over.length c6, .slice A7 x.flanks.length c7]) := Lib.hid ((hg.block w.heap.size hz3 (fun h => by have := T4.out _ h.symm; omega)).trans G3.out)
  have hz4 : w.heap.size < w4.heap.size := by omega
  have g5 : w4.cell? ⟨w.heap.size, 5, none⟩ = some (.slice A5 x.parts.length c5) := G4.out.cell 5 rfl
  clear hg hs g4 B3 G3 hz3
  go_wp2_with fail
  obtain ⟨W4, rfl⟩ : ∃ W, W = w4 := ⟨_, rfl⟩
  have ro : W4.ownsRow 0 61 3 (.slice A5 x.parts.length c5) x.parts.length inner5 := Kn.own_move R5.out (fun b hb => B4.out.block b (T5.out b hb) (fun h => by simp only [List.mem_append] at h; rcases h with ((h | h) | h); exact A25.out b h (F5'.out b hb); exact A35.out b h (F5'.out b hb); exact A45.out b h (F5'.out b hb)))
  refine (markPartS A5 x.parts.length c5 (k4) _ inner5 ro (by omega) (by omega) (by omega)).mono ?_
  intro e w5 hr
  obtain ⟨k5, rfl, hk, _, hg, hs⟩ := RetMark.open hr
  have u5 : k4 ≤ k5 := by have := hk.out; omega
  have v5 : k5 ≤ k4 + 3 * (x.parts.length : Int) := by have := hk.out; push_cast at this; omega
  clear hr hk
  clear ro
  have B5 : Hid (Keep (fun b => b ∈ F2 ++ F3 ++ F4 ++ F5) w w5) := Lib.hid ((B4.out.mono (fun y _ h => by simp only [List.mem_append] at h ⊢; exact .inl h)).grown hg (fun b hb _ => by have := F5'.out b hb; simp [this]))
  have G5 : Hid (Blk w5 w.heap.size 57 [.int .i64 x.frm, .int .i64 x.til, .slice A2 x.steps.length c2, .slice A3 x.lies.length c3, .slice A4 x.crosses.length c4, .slice A5 x.parts.length c5, .slice A6 x.over.length c6, .slice A7 x.flanks.length c7]) := Lib.hid ((hg.block w.heap.size hz4 (fun h => by have := T5.out _ h.symm; omega)).trans G4.out)
  have hz5 : w.heap.size < w5.heap.size := by omega
  have g6 : w5.cell? ⟨w.heap.size, 6, none⟩ = some (.slice A6 x.over.length c6) := G5.out.cell 6 rfl
  clear hg hs g5 B4 G4 hz4
  go_wp2_with fail
  obtain ⟨W5, rfl⟩ : ∃ W, W = w5 := ⟨_, rfl⟩
  have ro : W5.ownsRow 0 61 3 (.slice A6 x.over.length c6) x.over.length inner6 := Kn.own_move R6.out (fun b hb => B5.out.block b (T6.out b hb) (fun h => by simp only [List.mem_append] at h; rcases h with (((h | h) | h) | h); exact A26.out b h (F6'.out b hb); exact A36.out b h (F6'.out b hb); exact A46.out b h (F6'.out b hb); exact A56.out b h (F6'.out b hb)))
  refine (markPartS A6 x.over.length c6 (k5) _ inner6 ro (by omega) (by omega) (by omega)).mono ?_
  intro e w6 hr
  obtain ⟨k6, rfl, hk, _, hg, hs⟩ := RetMark.open hr
  have u6 : k5 ≤ k6 := by have := hk.out; omega
  have v6 : k6 ≤ k5 + 3 * (x.over.length : Int) := by have := hk.out; push_cast at this; omega
  clear hr hk
  clear ro
  have B6 : Hid (Keep (fun b => b ∈ F2 ++ F3 ++ F4 ++ F5 ++ F6) w w6) := Lib.hid ((B5.out.mono (fun y _ h => by simp only [List.mem_append] at h ⊢; exact .inl h)).grown hg (fun b hb _ => by have := F6'.out b hb; simp [this]))
  have G6 : Hid (Blk w6 w.heap.size 57 [.int .i64 x.frm, .int .i64 x.til, .slice A2 x.steps.length c2, .slice A3 x.lies.length c3, .slice A4 x.crosses.length c4, .slice A5 x.parts.length c5, .slice A6 x.over.length c6, .slice A7 x.flanks.length c7]) := Lib.hid ((hg.block w.heap.size hz5 (fun h => by have := T6.out _ h.symm; omega)).trans G5.out)
  have hz6 : w.heap.size < w6.heap.size := by omega
  have g7 : w6.cell? ⟨w.heap.size, 7, none⟩ = some (.slice A7 x.flanks.length c7) := G6.out.cell 7 rfl
  clear hg hs g6 B5 G5 hz5
  go_wp2_with fail
  obtain ⟨W6, rfl⟩ : ∃ W, W = w6 := ⟨_, rfl⟩
  have ro : W6.ownsRow 0 63 4 (.slice A7 x.flanks.length c7) x.flanks.length inner7 := Kn.own_move R7.out (fun b hb => B6.out.block b (T7.out b hb) (fun h => by simp only [List.mem_append] at h; rcases h with ((((h | h) | h) | h) | h); exact A27.out b h (F7'.out b hb); exact A37.out b h (F7'.out b hb); exact A47.out b h (F7'.out b hb); exact A57.out b h (F7'.out b hb); exact A67.out b h (F7'.out b hb)))
  refine (markFlankS A7 x.flanks.length c7 (k6) _ inner7 ro (by omega) (by omega) (by omega)).mono ?_
  intro e w7 hr
  obtain ⟨k7, rfl, hk, _, hg, hs⟩ := RetMark.open hr
  have u7 : k6 ≤ k7 := by have := hk.out; omega
  have v7 : k7 ≤ k6 + 4 * (x.flanks.length : Int) := by have := hk.out; push_cast at this; omega
  clear hr hk
  clear ro
  have B7 : Hid (Keep (fun b => b ∈ F2 ++ F3 ++ F4 ++ F5 ++ F6 ++ F7) w w7) := Lib.hid ((B6.out.mono (fun y _ h => by simp only [List.mem_append] at h ⊢; exact .inl h)).grown hg (fun b hb _ => by have := F7'.out b hb; simp [this]))
  have G7 : Hid (Blk w7 w.heap.size 57 [.int .i64 x.frm, .int .i64 x.til, .slice A2 x.steps.length c2, .slice A3 x.lies.length c3, .slice A4 x.crosses.length c4, .slice A5 x.parts.length c5, .slice A6 x.over.length c6, .slice A7 x.flanks.length c7]) := Lib.hid ((hg.block w.heap.size hz6 (fun h => by have := T7.out _ h.symm; omega)).trans G6.out)
  have hz7 : w.heap.size < w7.heap.size := by omega
  clear hg hs
  go_wp2
  go_ret
  exact ⟨_, rfl, by omega, by push_cast; omega, B7.out.mono (fun y _ h => by simp only [List.mem_append] at h ⊢; rcases h with ((((h | h) | h) | h) | h) | h <;> simp [h])⟩
end Go.Proofs.Ytginpmhjpjcahaa.L
