/- The laws' copiers of routes: what they hand back is new memory that is the same value. -/
import Derived.Test.YtginpmhjpjcahaaTo
import Derived.Test.YtginpmhjpjcahaaEqR
import Derived.Test.YtginpmhjpjcahaaApp
namespace Go.Proofs.Ytginpmhjpjcahaa.L
open Go.RowKit
set_option linter.unusedVariables false
set_option linter.unusedSimpArgs false
/-- A block that is known whole. -/
def Blk (w : World) (g : Nat) (t : TypeId) (cs : List Value) : Prop := w.heap[g]? = some (.cells cs.toArray t (0, 0))
namespace Blk
variable {w w1 : World} {g : Nat} {t : TypeId} {cs : List Value}
theorem lt (h : Blk w g t cs) : g < w.heap.size := lt_of_get h
theorem cell (h : Blk w g t cs) (i : Nat) {u : Value} (hu : cs[i]? = some u) : w.cell? ⟨g, i, none⟩ = some u := by
  rw [cell_of_row w g i _ t (0, 0) h]
  simpa using hu
theorem frozen (h : Blk w g t cs) (i : Nat) : w.frozen? ⟨g, i, none⟩ = false := by
  unfold Blk at h
  simp [World.frozen?, h]
theorem new (w : World) (t : TypeId) (cs : List Value) {g : Nat} (hg : g = w.heap.size) : Blk (w.alloc (.cells cs.toArray t)) g t cs := by subst hg; exact heap_alloc_new w _
theorem alloc (h : Blk w g t cs) (o : Obj) : Blk (w.alloc o) g t cs := (Below.heap_alloc w o g h.lt).trans h
theorem set_ (h : Blk w g t cs) (i : Nat) (u : Value) : Blk (w.setCell ⟨g, i, none⟩ u) g t (cs.set i u) := by
  unfold Blk at h ⊢
  simp [World.setCell, Array.getElem?_modify, h]
theorem far (h : Blk w g t cs) {p : Addr} (hp : g ≠ p.block) (u : Value) : Blk (w.setCell p u) g t cs := (Below.heap_setCell w p u g hp).trans h
theorem below {B : Nat} (h : Blk w g t cs) (hb : Below B w w1) (hg : g < B) : Blk w1 g t cs := (hb.block g hg).trans h
theorem keep {S : Nat → Prop} (h : Blk w g t cs) (hb : Keep S w w1) (hg : ¬ S g) : Blk w1 g t cs := (hb.block g h.lt hg).trans h
end Blk

theorem toStep (x : Step) (w : World) : Calls Try.prog 153 #[x.v] w (RetV x.v w) := by
  obtain ⟨a0, a1⟩ := x
  go_enter Try.func153, Try.ntmps153
  go_wp2
  exact bodyPost_ret (v := .agg #[.int .i64 a0, .int .i64 a1]) (by simp [results, Try.results153, go_sem]) rfl ⟨rfl, ((below_alloc _ _).alloc (by simp) _).alloc (by simp; omega) _⟩
theorem info59 : (Try.prog.info? 59).map (fun i => (i.zero, i.size, i.bytes)) = some (some (.agg #[.int .i64 0, .int .i64 0]), 2, 16) := by kernel_rfl
set_option maxRecDepth 100000 in
set_option maxHeartbeats 1000000 in
theorem toStepS {ok : Nat → Prop} (A : Option Addr) (c : Nat) (xs : List Step) (w : World) (hx : stepK.C w ok A xs) (hn : xs.length ≤ 1048576) :
    Calls Try.prog 90 #[.slice A xs.length c] w (RetS 59 stepK xs w) := by
  obtain ⟨i0, hi, hz0, hz1, hz2⟩ := info_parts info59
  go_enter Try.func90, Try.ntmps90
  go_wp2_with (at_make; refine wpList_make_full _ rfl _ _ 51 rfl 0 59 i0 _ 2 Try.underlying51 hi hz0 hz1 .i64 .i64 _ _ xs.length rfl rfl rfl rfl (by rw [hz2]; omega) (by unfold maxLen; omega) (Nat.zero_le _) ?_; intro w0 hown hg0)
  go_loopw [4] (fun i wr => ∃ k : Nat, k ≤ xs.length ∧ i = .int .i64 k ∧ Filled 59 2 Step.cs xs w.heap.size k wr ∧ Below w.heap.size w wr) (fun i _ => xs.length - (intOf i).toNat)
  case atStart => exact ⟨0, Nat.zero_le _, rfl, Filled.start hown, ⟨hg0.os, hg0.tape, hg0.output, hg0.size, fun b hb => hg0.block b hb (by simp)⟩⟩
  case round =>
    obtain ⟨k, hk, rfl, HF, hb⟩ := hrel
    by_cases hlt : k < xs.length
    · obtain ⟨a0, rfl, y0, y1, E, g0, g1⟩ := stepK_at (Kn.C_below hb hx) k hlt
      have i0 : (0 : Int) ≤ (k : Int) := Int.natCast_nonneg _
      have i1 : (k : Int) < (xs.length : Int) := by omega
      have hgl := HF.lt
      go_wp2_with fail
      refine (toStep ⟨y0, y1⟩ _).mono ?_
      rintro e w1 ⟨rfl, hb1⟩
      obtain ⟨inner, ho, hf⟩ := HF.below hb1
      have HF := Lib.hid hf
      clear hf
      go_wp2_with (refine wpList_store_own rfl _ _ _ rfl [.int .i64 y0, .int .i64 y1] ho rfl rfl ?_ (size_of_info info59) rfl ?_; (simp; omega); intro w2 ho2 hg2)
      go_roundw
      case rel => exact ⟨k + 1, by omega, by go_num, Filled.snoc HF.out E.out rfl ho.1 ho2, below_grown (hb.trans (hb1.mono hb.size)) hg2 (Nat.le_refl _) (Nat.le_trans hb.size hb1.size)⟩
      case measure => simp [intOf]; omega
    · obtain rfl : k = xs.length := by omega
      go_wp2
      go_ret
      exact ⟨_, _, _, rfl, HF.done (fun w x => stepK_own w x), fun b hb => by rw [List.mem_singleton.1 hb]; exact Nat.le_refl _, hb⟩
theorem toLie (x : Lie) (w : World) : Calls Try.prog 154 #[x.v] w (RetV x.v w) := by
  obtain ⟨a0, a1⟩ := x
  go_enter Try.func154, Try.ntmps154
  go_wp2
  exact bodyPost_ret (v := .agg #[.int .i64 a0, .int .i64 a1]) (by simp [results, Try.results154, go_sem]) rfl ⟨rfl, ((below_alloc _ _).alloc (by simp) _).alloc (by simp; omega) _⟩
theorem info65 : (Try.prog.info? 65).map (fun i => (i.zero, i.size, i.bytes)) = some (some (.agg #[.int .i64 0, .int .i64 0]), 2, 16) := by kernel_rfl
set_option maxRecDepth 100000 in
set_option maxHeartbeats 1000000 in
theorem toLieS {ok : Nat → Prop} (A : Option Addr) (c : Nat) (xs : List Lie) (w : World) (hx : lieK.C w ok A xs) (hn : xs.length ≤ 1048576) :
    Calls Try.prog 91 #[.slice A xs.length c] w (RetS 65 lieK xs w) := by
  obtain ⟨i0, hi, hz0, hz1, hz2⟩ := info_parts info65
  go_enter Try.func91, Try.ntmps91
  go_wp2_with (at_make; refine wpList_make_full _ rfl _ _ 52 rfl 0 65 i0 _ 2 Try.underlying52 hi hz0 hz1 .i64 .i64 _ _ xs.length rfl rfl rfl rfl (by rw [hz2]; omega) (by unfold maxLen; omega) (Nat.zero_le _) ?_; intro w0 hown hg0)
  go_loopw [4] (fun i wr => ∃ k : Nat, k ≤ xs.length ∧ i = .int .i64 k ∧ Filled 65 2 Lie.cs xs w.heap.size k wr ∧ Below w.heap.size w wr) (fun i _ => xs.length - (intOf i).toNat)
  case atStart => exact ⟨0, Nat.zero_le _, rfl, Filled.start hown, ⟨hg0.os, hg0.tape, hg0.output, hg0.size, fun b hb => hg0.block b hb (by simp)⟩⟩
  case round =>
    obtain ⟨k, hk, rfl, HF, hb⟩ := hrel
    by_cases hlt : k < xs.length
    · obtain ⟨a0, rfl, y0, y1, E, g0, g1⟩ := lieK_at (Kn.C_below hb hx) k hlt
      have i0 : (0 : Int) ≤ (k : Int) := Int.natCast_nonneg _
      have i1 : (k : Int) < (xs.length : Int) := by omega
      have hgl := HF.lt
      go_wp2_with fail
      refine (toLie ⟨y0, y1⟩ _).mono ?_
      rintro e w1 ⟨rfl, hb1⟩
      obtain ⟨inner, ho, hf⟩ := HF.below hb1
      have HF := Lib.hid hf
      clear hf
      go_wp2_with (refine wpList_store_own rfl _ _ _ rfl [.int .i64 y0, .int .i64 y1] ho rfl rfl ?_ (size_of_info info65) rfl ?_; (simp; omega); intro w2 ho2 hg2)
      go_roundw
      case rel => exact ⟨k + 1, by omega, by go_num, Filled.snoc HF.out E.out rfl ho.1 ho2, below_grown (hb.trans (hb1.mono hb.size)) hg2 (Nat.le_refl _) (Nat.le_trans hb.size hb1.size)⟩
      case measure => simp [intOf]; omega
    · obtain rfl : k = xs.length := by omega
      go_wp2
      go_ret
      exact ⟨_, _, _, rfl, HF.done (fun w x => lieK_own w x), fun b hb => by rw [List.mem_singleton.1 hb]; exact Nat.le_refl _, hb⟩
theorem toPart (x : Part) (w : World) : Calls Try.prog 155 #[x.v] w (RetV x.v w) := by
  obtain ⟨a0, a1, a2⟩ := x
  go_enter Try.func155, Try.ntmps155
  go_wp2
  exact bodyPost_ret (v := .agg #[.int .i64 a0, .int .i64 a1, .int .i64 a2]) (by simp [results, Try.results155, go_sem]) rfl ⟨rfl, ((below_alloc _ _).alloc (by simp) _).alloc (by simp; omega) _⟩
theorem info61 : (Try.prog.info? 61).map (fun i => (i.zero, i.size, i.bytes)) = some (some (.agg #[.int .i64 0, .int .i64 0, .int .i64 0]), 3, 24) := by kernel_rfl
set_option maxRecDepth 100000 in
set_option maxHeartbeats 1000000 in
theorem toPartS {ok : Nat → Prop} (A : Option Addr) (c : Nat) (xs : List Part) (w : World) (hx : partK.C w ok A xs) (hn : xs.length ≤ 1048576) :
    Calls Try.prog 93 #[.slice A xs.length c] w (RetS 61 partK xs w) := by
  obtain ⟨i0, hi, hz0, hz1, hz2⟩ := info_parts info61
  go_enter Try.func93, Try.ntmps93
  go_wp2_with (at_make; refine wpList_make_full _ rfl _ _ 54 rfl 0 61 i0 _ 3 Try.underlying54 hi hz0 hz1 .i64 .i64 _ _ xs.length rfl rfl rfl rfl (by rw [hz2]; omega) (by unfold maxLen; omega) (Nat.zero_le _) ?_; intro w0 hown hg0)
  go_loopw [4] (fun i wr => ∃ k : Nat, k ≤ xs.length ∧ i = .int .i64 k ∧ Filled 61 3 Part.cs xs w.heap.size k wr ∧ Below w.heap.size w wr) (fun i _ => xs.length - (intOf i).toNat)
  case atStart => exact ⟨0, Nat.zero_le _, rfl, Filled.start hown, ⟨hg0.os, hg0.tape, hg0.output, hg0.size, fun b hb => hg0.block b hb (by simp)⟩⟩
  case round =>
    obtain ⟨k, hk, rfl, HF, hb⟩ := hrel
    by_cases hlt : k < xs.length
    · obtain ⟨a0, rfl, y0, y1, y2, E, g0, g1, g2⟩ := partK_at (Kn.C_below hb hx) k hlt
      have i0 : (0 : Int) ≤ (k : Int) := Int.natCast_nonneg _
      have i1 : (k : Int) < (xs.length : Int) := by omega
      have hgl := HF.lt
      go_wp2_with fail
      refine (toPart ⟨y0, y1, y2⟩ _).mono ?_
      rintro e w1 ⟨rfl, hb1⟩
      obtain ⟨inner, ho, hf⟩ := HF.below hb1
      have HF := Lib.hid hf
      clear hf
      go_wp2_with (refine wpList_store_own rfl _ _ _ rfl [.int .i64 y0, .int .i64 y1, .int .i64 y2] ho rfl rfl ?_ (size_of_info info61) rfl ?_; (simp; omega); intro w2 ho2 hg2)
      go_roundw
      case rel => exact ⟨k + 1, by omega, by go_num, Filled.snoc HF.out E.out rfl ho.1 ho2, below_grown (hb.trans (hb1.mono hb.size)) hg2 (Nat.le_refl _) (Nat.le_trans hb.size hb1.size)⟩
      case measure => simp [intOf]; omega
    · obtain rfl : k = xs.length := by omega
      go_wp2
      go_ret
      exact ⟨_, _, _, rfl, HF.done (fun w x => partK_own w x), fun b hb => by rw [List.mem_singleton.1 hb]; exact Nat.le_refl _, hb⟩
theorem toFlank (x : Flank) (w : World) : Calls Try.prog 156 #[x.v] w (RetV x.v w) := by
  obtain ⟨a0, a1, a2, a3⟩ := x
  go_enter Try.func156, Try.ntmps156
  go_wp2
  exact bodyPost_ret (v := .agg #[.int .i64 a0, .int .i64 a1, .int .i64 a2, .int .i64 a3]) (by simp [results, Try.results156, go_sem]) rfl ⟨rfl, ((below_alloc _ _).alloc (by simp) _).alloc (by simp; omega) _⟩
theorem info63 : (Try.prog.info? 63).map (fun i => (i.zero, i.size, i.bytes)) = some (some (.agg #[.int .i64 0, .int .i64 0, .int .i64 0, .int .i64 0]), 4, 32) := by kernel_rfl
set_option maxRecDepth 100000 in
set_option maxHeartbeats 1000000 in
theorem toFlankS {ok : Nat → Prop} (A : Option Addr) (c : Nat) (xs : List Flank) (w : World) (hx : flankK.C w ok A xs) (hn : xs.length ≤ 1048576) :
    Calls Try.prog 94 #[.slice A xs.length c] w (RetS 63 flankK xs w) := by
  obtain ⟨i0, hi, hz0, hz1, hz2⟩ := info_parts info63
  go_enter Try.func94, Try.ntmps94
  go_wp2_with (at_make; refine wpList_make_full _ rfl _ _ 55 rfl 0 63 i0 _ 4 Try.underlying55 hi hz0 hz1 .i64 .i64 _ _ xs.length rfl rfl rfl rfl (by rw [hz2]; omega) (by unfold maxLen; omega) (Nat.zero_le _) ?_; intro w0 hown hg0)
  go_loopw [4] (fun i wr => ∃ k : Nat, k ≤ xs.length ∧ i = .int .i64 k ∧ Filled 63 4 Flank.cs xs w.heap.size k wr ∧ Below w.heap.size w wr) (fun i _ => xs.length - (intOf i).toNat)
  case atStart => exact ⟨0, Nat.zero_le _, rfl, Filled.start hown, ⟨hg0.os, hg0.tape, hg0.output, hg0.size, fun b hb => hg0.block b hb (by simp)⟩⟩
  case round =>
    obtain ⟨k, hk, rfl, HF, hb⟩ := hrel
    by_cases hlt : k < xs.length
    · obtain ⟨a0, rfl, y0, y1, y2, y3, E, g0, g1, g2, g3⟩ := flankK_at (Kn.C_below hb hx) k hlt
      have i0 : (0 : Int) ≤ (k : Int) := Int.natCast_nonneg _
      have i1 : (k : Int) < (xs.length : Int) := by omega
      have hgl := HF.lt
      go_wp2_with fail
      refine (toFlank ⟨y0, y1, y2, y3⟩ _).mono ?_
      rintro e w1 ⟨rfl, hb1⟩
      obtain ⟨inner, ho, hf⟩ := HF.below hb1
      have HF := Lib.hid hf
      clear hf
      go_wp2_with (refine wpList_store_own rfl _ _ _ rfl [.int .i64 y0, .int .i64 y1, .int .i64 y2, .int .i64 y3] ho rfl rfl ?_ (size_of_info info63) rfl ?_; (simp; omega); intro w2 ho2 hg2)
      go_roundw
      case rel => exact ⟨k + 1, by omega, by go_num, Filled.snoc HF.out E.out rfl ho.1 ho2, below_grown (hb.trans (hb1.mono hb.size)) hg2 (Nat.le_refl _) (Nat.le_trans hb.size hb1.size)⟩
      case measure => simp [intOf]; omega
    · obtain rfl : k = xs.length := by omega
      go_wp2
      go_ret
      exact ⟨_, _, _, rfl, HF.done (fun w x => flankK_own w x), fun b hb => by rw [List.mem_singleton.1 hb]; exact Nat.le_refl _, hb⟩
theorem info3 : (Try.prog.info? 3).map (fun i => (i.zero, i.size, i.bytes)) = some (some (.int .i64 0), 1, 8) := by kernel_rfl
theorem intK_own (w : World) (x : Int) : Kn.int.O w x [.int .i64 x] [] := ⟨rfl, rfl⟩
set_option maxRecDepth 100000 in
set_option maxHeartbeats 1000000 in
theorem toIntS {ok : Nat → Prop} (A : Option Addr) (c : Nat) (xs : List Int) (w : World) (hx : Kn.int.C w ok A xs) (hn : xs.length ≤ 1048576) :
    Calls Try.prog 92 #[.slice A xs.length c] w (RetS 3 Kn.int xs w) := by
  obtain ⟨i0, hi, hz0, hz1, hz2⟩ := info_parts info3
  go_enter Try.func92, Try.ntmps92
  go_wp2_with (at_make; refine wpList_make_full _ rfl _ _ 53 rfl 0 3 i0 _ 1 Try.underlying53 hi hz0 hz1 .i64 .i64 _ _ xs.length rfl rfl rfl rfl (by rw [hz2]; omega) (by unfold maxLen; omega) (Nat.zero_le _) ?_; intro w0 hown hg0)
  go_loopw [4] (fun i wr => ∃ k : Nat, k ≤ xs.length ∧ i = .int .i64 k ∧ Filled 3 1 (fun x : Int => [.int .i64 x]) xs w.heap.size k wr ∧ Below w.heap.size w wr) (fun i _ => xs.length - (intOf i).toNat)
  case atStart => exact ⟨0, Nat.zero_le _, rfl, Filled.start hown, ⟨hg0.os, hg0.tape, hg0.output, hg0.size, fun b hb => hg0.block b hb (by simp)⟩⟩
  case round =>
    obtain ⟨k, hk, rfl, HF, hb⟩ := hrel
    by_cases hlt : k < xs.length
    · obtain ⟨a0, rfl, y0, E, g0⟩ := int_at (Kn.C_below hb hx) k hlt
      have i0 : (0 : Int) ≤ (k : Int) := Int.natCast_nonneg _
      have i1 : (k : Int) < (xs.length : Int) := by omega
      have hgl := HF.lt
      obtain ⟨inner, ho, hf⟩ := HF
      have HF := Lib.hid hf
      clear hf
      have hil : k < inner.length := by rw [ho.1]; omega
      have hcell : wr.cell? ⟨w.heap.size, k, none⟩ = some inner[k] := by rw [ho.cellAt _ (by omega)]; exact List.getElem?_eq_getElem hil
      have hfr : wr.frozen? ⟨w.heap.size, k, none⟩ = false := ho.frozenAt _
      obtain ⟨ho2, hg2⟩ := ho.stored k (.int .i64 y0)
      have HO2 : Hid ((wr.setCell ⟨w.heap.size, k, none⟩ (.int .i64 y0)).ownsRow 0 3 1 (.slice (some ⟨w.heap.size, 0, none⟩) xs.length xs.length) xs.length (setAll inner (k * 1) [.int .i64 y0])) := Lib.hid (by rw [Nat.mul_one]; exact ho2)
      have HL := Lib.hid ho.1
      clear ho ho2
      go_wp2
      go_roundw
      case rel => exact ⟨k + 1, by omega, by go_num, Filled.snoc HF.out E.out rfl HL.out HO2.out, below_grown hb hg2 (Nat.le_refl _) hb.size⟩
      case measure => simp [intOf]; omega
    · obtain rfl : k = xs.length := by omega
      go_wp2
      go_ret
      exact ⟨_, _, _, rfl, HF.done (fun w x => intK_own w x), fun b hb => by rw [List.mem_singleton.1 hb]; exact Nat.le_refl _, hb⟩
abbrev rK : Kn Route := routeK 59 65 3 61 63
theorem nodup_range {F G : List Nat} {B : Nat} (hF : F.Nodup) (hG : G.Nodup) (h1 : ∀ b, b ∈ F → b < B) (h2 : ∀ b, b ∈ G → B ≤ b) : (F ++ G).Nodup := List.nodup_append.2 ⟨hF, hG, fun a ha b hb => by have := h1 a ha; have := h2 b hb; omega⟩
theorem routeK_own {w : World} {x : Route} {v2 v3 v4 v5 v6 v7 : Value} {F2 F3 F4 F5 F6 F7 : List Nat} (h2 : (Kn.slice 59 stepK).O w x.steps [v2] F2) (h3 : (Kn.slice 65 lieK).O w x.lies [v3] F3) (h4 : (Kn.slice 3 Kn.int).O w x.crosses [v4] F4) (h5 : (Kn.slice 61 partK).O w x.parts [v5] F5) (h6 : (Kn.slice 61 partK).O w x.over [v6] F6) (h7 : (Kn.slice 63 flankK).O w x.flanks [v7] F7) (n2 : (F2 ++ (F3 ++ (F4 ++ (F5 ++ (F6 ++ F7))))).Nodup) :
    rK.O w x [.int .i64 x.frm, .int .i64 x.til, v2, v3, v4, v5, v6, v7] (F2 ++ (F3 ++ (F4 ++ (F5 ++ (F6 ++ F7))))) := by
  have n3 := (List.nodup_append.1 n2).2.1
  have n4 := (List.nodup_append.1 n3).2.1
  have n5 := (List.nodup_append.1 n4).2.1
  have n6 := (List.nodup_append.1 n5).2.1
  exact ⟨_, _, [], _, rfl, rfl, ⟨rfl, rfl⟩, ⟨_, _, [], _, rfl, rfl, ⟨rfl, rfl⟩, ⟨_, _, F2, (F3 ++ (F4 ++ (F5 ++ (F6 ++ F7)))), rfl, rfl, h2, ⟨_, _, F3, (F4 ++ (F5 ++ (F6 ++ F7))), rfl, rfl, h3, ⟨_, _, F4, (F5 ++ (F6 ++ F7)), rfl, rfl, h4, ⟨_, _, F5, (F6 ++ F7), rfl, rfl, h5, ⟨_, _, F6, F7, rfl, rfl, h6, h7, n6⟩, n5⟩, n4⟩, n3⟩, n2⟩, n2⟩, n2⟩
theorem routeK_O {w : World} {x : Route} {cs : List Value} {F : List Nat} (h : rK.O w x cs F) : ∃ v2 v3 v4 v5 v6 v7 F2 F3 F4 F5 F6 F7, cs = [.int .i64 x.frm, .int .i64 x.til, v2, v3, v4, v5, v6, v7] ∧ F = (F2 ++ (F3 ++ (F4 ++ (F5 ++ (F6 ++ F7))))) ∧ (Kn.slice 59 stepK).O w x.steps [v2] F2 ∧ (Kn.slice 65 lieK).O w x.lies [v3] F3 ∧ (Kn.slice 3 Kn.int).O w x.crosses [v4] F4 ∧ (Kn.slice 61 partK).O w x.parts [v5] F5 ∧ (Kn.slice 61 partK).O w x.over [v6] F6 ∧ (Kn.slice 63 flankK).O w x.flanks [v7] F7 ∧ F.Nodup := by
  obtain ⟨_, _, _, _, rfl, rfl, ⟨rfl, rfl⟩, ⟨_, _, _, _, rfl, rfl, ⟨rfl, rfl⟩, ⟨_, _, _, _, rfl, rfl, ⟨v2, ps2, rfl, e2, r2, rfl⟩, ⟨_, _, _, _, rfl, rfl, ⟨v3, ps3, rfl, e3, r3, rfl⟩, ⟨_, _, _, _, rfl, rfl, ⟨v4, ps4, rfl, e4, r4, rfl⟩, ⟨_, _, _, _, rfl, rfl, ⟨v5, ps5, rfl, e5, r5, rfl⟩, ⟨_, _, _, _, rfl, rfl, ⟨v6, ps6, rfl, e6, r6, rfl⟩, ⟨v7, ps7, rfl, e7, r7, rfl⟩, _⟩, _⟩, _⟩, _⟩, _⟩, _⟩, hn⟩ := h
  exact ⟨v2, v3, v4, v5, v6, v7, Kn.foot v2 ps2, Kn.foot v3 ps3, Kn.foot v4 ps4, Kn.foot v5 ps5, Kn.foot v6 ps6, Kn.foot v7 ps7, rfl, rfl, ⟨v2, ps2, rfl, e2, r2, rfl⟩, ⟨v3, ps3, rfl, e3, r3, rfl⟩, ⟨v4, ps4, rfl, e4, r4, rfl⟩, ⟨v5, ps5, rfl, e5, r5, rfl⟩, ⟨v6, ps6, rfl, e6, r6, rfl⟩, ⟨v7, ps7, rfl, e7, r7, rfl⟩, hn⟩
def RetRoute (x : Route) (w : World) (e : Ending) (w' : World) : Prop :=
  ∃ A2 c2 A3 c3 A4 c4 A5 c5 A6 c6 A7 c7 F, e = .returned (.agg #[.int .i64 x.frm, .int .i64 x.til, .slice A2 x.steps.length c2, .slice A3 x.lies.length c3, .slice A4 x.crosses.length c4, .slice A5 x.parts.length c5, .slice A6 x.over.length c6, .slice A7 x.flanks.length c7]) ∧ rK.O w' x [.int .i64 x.frm, .int .i64 x.til, .slice A2 x.steps.length c2, .slice A3 x.lies.length c3, .slice A4 x.crosses.length c4, .slice A5 x.parts.length c5, .slice A6 x.over.length c6, .slice A7 x.flanks.length c7] F ∧ (∀ b, b ∈ F → w.heap.size ≤ b) ∧ Below w.heap.size w w'
set_option maxRecDepth 100000 in
set_option maxHeartbeats 4000000 in
theorem toRoute {ok : Nat → Prop} (x : Route) (A2 A3 A4 A5 A6 A7 : Option Addr) (c2 c3 c4 c5 c6 c7 : Nat) (w : World) (h2 : stepK.C w ok A2 x.steps) (h3 : lieK.C w ok A3 x.lies) (h4 : Kn.int.C w ok A4 x.crosses) (h5 : partK.C w ok A5 x.parts) (h6 : partK.C w ok A6 x.over) (h7 : flankK.C w ok A7 x.flanks) (hn : x.n ≤ 1048576) :
    Calls Try.prog 30 #[.agg #[.int .i64 x.frm, .int .i64 x.til, .slice A2 x.steps.length c2, .slice A3 x.lies.length c3, .slice A4 x.crosses.length c4, .slice A5 x.parts.length c5, .slice A6 x.over.length c6, .slice A7 x.flanks.length c7]] w (RetRoute x w) := by
  unfold Route.n at hn
  go_enter Try.func30, Try.ntmps30
  go_wp2_with fail
  obtain ⟨W1, hW, B1, hz1, G1, Z1, O1⟩ : ∃ W, W = ((w.alloc (.cells #[.int .i64 x.frm, .int .i64 x.til, .slice A2 x.steps.length c2, .slice A3 x.lies.length c3, .slice A4 x.crosses.length c4, .slice A5 x.parts.length c5, .slice A6 x.over.length c6, .slice A7 x.flanks.length c7] 73)).alloc (.cells #[.int .i64 0, .int .i64 0, .slice none 0 0, .slice none 0 0, .slice none 0 0, .slice none 0 0, .slice none 0 0, .slice none 0 0] 57)).alloc (.cells #[.int .i64 x.frm, .int .i64 x.til, .slice none 0 0, .slice none 0 0, .slice none 0 0, .slice none 0 0, .slice none 0 0, .slice none 0 0] 57) ∧ Below w.heap.size w W ∧ w.heap.size + 2 < W.heap.size ∧ Hid (Blk W w.heap.size 73 [.int .i64 x.frm, .int .i64 x.til, .slice A2 x.steps.length c2, .slice A3 x.lies.length c3, .slice A4 x.crosses.length c4, .slice A5 x.parts.length c5, .slice A6 x.over.length c6, .slice A7 x.flanks.length c7]) ∧ Hid (Blk W (w.heap.size + 1) 57 [.int .i64 0, .int .i64 0, .slice none 0 0, .slice none 0 0, .slice none 0 0, .slice none 0 0, .slice none 0 0, .slice none 0 0]) ∧ Hid (Blk W (w.heap.size + 2) 57 [.int .i64 x.frm, .int .i64 x.til, .slice none 0 0, .slice none 0 0, .slice none 0 0, .slice none 0 0, .slice none 0 0, .slice none 0 0]) :=
    ⟨_, rfl, ((below_alloc _ _).alloc (by simp) _).alloc (by simp; omega) _, by simp, Lib.hid (((Blk.new w _ _ rfl).alloc _).alloc _), Lib.hid ((Blk.new _ _ _ (by simp)).alloc _), Lib.hid (Blk.new _ _ _ (by simp))⟩
  rw [← hW]
  clear hW
  refine (toStepS _ _ _ _ (Kn.C_below B1 h2) (by omega)).mono ?_
  rintro e w2 ⟨D2, d2, F2, rfl, o2, f2, hb⟩
  have T2 : Hid (∀ b, b ∈ F2 → b < w2.heap.size) := Lib.hid ((Kn.slice 59 stepK).O_lt o2)
  have o2 := Lib.hid o2
  have f2 := Lib.hid f2
  have G := Lib.hid (G1.out.below hb (by omega))
  have Z := Lib.hid (Z1.out.below hb (by omega))
  have O := Lib.hid (O1.out.below hb (by omega))
  have hs2 := hb.size
  have y0 : w.heap.size < w2.heap.size := by omega
  have y1 : w.heap.size + 1 < w2.heap.size := by omega
  have y2 : w.heap.size + 2 < w2.heap.size := by omega
  have k1 := G.out.cell 3 rfl
  have k3 := O.out.cell 2 rfl
  have z3 := O.out.frozen 2
  have Bn := B1.trans (hb.mono B1.size)
  go_wp2_with fail
  obtain ⟨W2, hW, B2, hz2, hy2, G2, Z2, O2, m2⟩ : ∃ W, W = w2.setCell ⟨w.heap.size + 2, 2, none⟩ (.slice D2 x.steps.length d2) ∧ Below w.heap.size w W ∧ w.heap.size + 2 < W.heap.size ∧ W.heap.size = w2.heap.size ∧ Hid (Blk W w.heap.size 73 [.int .i64 x.frm, .int .i64 x.til, .slice A2 x.steps.length c2, .slice A3 x.lies.length c3, .slice A4 x.crosses.length c4, .slice A5 x.parts.length c5, .slice A6 x.over.length c6, .slice A7 x.flanks.length c7]) ∧ Hid (Blk W (w.heap.size + 1) 57 [.int .i64 0, .int .i64 0, .slice none 0 0, .slice none 0 0, .slice none 0 0, .slice none 0 0, .slice none 0 0, .slice none 0 0]) ∧ Hid (Blk W (w.heap.size + 2) 57 [.int .i64 x.frm, .int .i64 x.til, .slice D2 x.steps.length d2, .slice none 0 0, .slice none 0 0, .slice none 0 0, .slice none 0 0, .slice none 0 0]) ∧ Hid ((Kn.slice 59 stepK).O W x.steps [.slice D2 x.steps.length d2] F2) :=
    ⟨_, rfl, Bn.setCell (by simp) _, by simp; omega, by simp, Lib.hid (G.out.far (by simp) _), Lib.hid (Z.out.far (by simp) _), Lib.hid (O.out.set_ 2 _), Lib.hid (O_set o2.out (fun b hb => by have := f2.out b hb; show b ≠ w.heap.size + 2; omega) _)⟩
  rw [← hW]
  clear hW G Z O k1 k3 z3 hb y0 y1 y2 Bn G1 Z1 O1 o2
  refine (toLieS _ _ _ _ (Kn.C_below B2 h3) (by omega)).mono ?_
  rintro e w3 ⟨D3, d3, F3, rfl, o3, f3, hb⟩
  have T3 : Hid (∀ b, b ∈ F3 → b < w3.heap.size) := Lib.hid ((Kn.slice 65 lieK).O_lt o3)
  have o3 := Lib.hid o3
  have f3 := Lib.hid f3
  have G := Lib.hid (G2.out.below hb (by omega))
  have Z := Lib.hid (Z2.out.below hb (by omega))
  have O := Lib.hid (O2.out.below hb (by omega))
  have hs3 := hb.size
  have y0 : w.heap.size < w3.heap.size := by omega
  have y1 : w.heap.size + 1 < w3.heap.size := by omega
  have y2 : w.heap.size + 2 < w3.heap.size := by omega
  have k1 := G.out.cell 4 rfl
  have k3 := O.out.cell 3 rfl
  have z3 := O.out.frozen 3
  have Bn := B2.trans (hb.mono B2.size)
  go_wp2_with fail
  obtain ⟨W3, hW, B3, hz3, hy3, G3, Z3, O3, m2, m3⟩ : ∃ W, W = w3.setCell ⟨w.heap.size + 2, 3, none⟩ (.slice D3 x.lies.length d3) ∧ Below w.heap.size w W ∧ w.heap.size + 2 < W.heap.size ∧ W.heap.size = w3.heap.size ∧ Hid (Blk W w.heap.size 73 [.int .i64 x.frm, .int .i64 x.til, .slice A2 x.steps.length c2, .slice A3 x.lies.length c3, .slice A4 x.crosses.length c4, .slice A5 x.parts.length c5, .slice A6 x.over.length c6, .slice A7 x.flanks.length c7]) ∧ Hid (Blk W (w.heap.size + 1) 57 [.int .i64 0, .int .i64 0, .slice none 0 0, .slice none 0 0, .slice none 0 0, .slice none 0 0, .slice none 0 0, .slice none 0 0]) ∧ Hid (Blk W (w.heap.size + 2) 57 [.int .i64 x.frm, .int .i64 x.til, .slice D2 x.steps.length d2, .slice D3 x.lies.length d3, .slice none 0 0, .slice none 0 0, .slice none 0 0, .slice none 0 0]) ∧ Hid ((Kn.slice 59 stepK).O W x.steps [.slice D2 x.steps.length d2] F2) ∧ Hid ((Kn.slice 65 lieK).O W x.lies [.slice D3 x.lies.length d3] F3) :=
    ⟨_, rfl, Bn.setCell (by simp) _, by simp; omega, by simp, Lib.hid (G.out.far (by simp) _), Lib.hid (Z.out.far (by simp) _), Lib.hid (O.out.set_ 3 _), Lib.hid (O_set ((Kn.slice 59 stepK).O_move (fun b hbb => hb.block b (by have := (Kn.slice 59 stepK).O_lt m2.out b hbb; omega)) m2.out) (fun b hb => by have := f2.out b hb; show b ≠ w.heap.size + 2; omega) _), Lib.hid (O_set o3.out (fun b hb => by have := f3.out b hb; show b ≠ w.heap.size + 2; omega) _)⟩
  rw [← hW]
  clear hW G Z O k1 k3 z3 hb y0 y1 y2 Bn G2 Z2 O2 o3
  clear B2
  refine (toIntS _ _ _ _ (Kn.C_below B3 h4) (by omega)).mono ?_
  rintro e w4 ⟨D4, d4, F4, rfl, o4, f4, hb⟩
  have T4 : Hid (∀ b, b ∈ F4 → b < w4.heap.size) := Lib.hid ((Kn.slice 3 Kn.int).O_lt o4)
  have o4 := Lib.hid o4
  have f4 := Lib.hid f4
  have G := Lib.hid (G3.out.below hb (by omega))
  have Z := Lib.hid (Z3.out.below hb (by omega))
  have O := Lib.hid (O3.out.below hb (by omega))
  have hs4 := hb.size
  have y0 : w.heap.size < w4.heap.size := by omega
  have y1 : w.heap.size + 1 < w4.heap.size := by omega
  have y2 : w.heap.size + 2 < w4.heap.size := by omega
  have k1 := G.out.cell 5 rfl
  have k3 := O.out.cell 4 rfl
  have z3 := O.out.frozen 4
  have Bn := B3.trans (hb.mono B3.size)
  go_wp2_with fail
  obtain ⟨W4, hW, B4, hz4, hy4, G4, Z4, O4, m2, m3, m4⟩ : ∃ W, W = w4.setCell ⟨w.heap.size + 2, 4, none⟩ (.slice D4 x.crosses.length d4) ∧ Below w.heap.size w W ∧ w.heap.size + 2 < W.heap.size ∧ W.heap.size = w4.heap.size ∧ Hid (Blk W w.heap.size 73 [.int .i64 x.frm, .int .i64 x.til, .slice A2 x.steps.length c2, .slice A3 x.lies.length c3, .slice A4 x.crosses.length c4, .slice A5 x.parts.length c5, .slice A6 x.over.length c6, .slice A7 x.flanks.length c7]) ∧ Hid (Blk W (w.heap.size + 1) 57 [.int .i64 0, .int .i64 0, .slice none 0 0, .slice none 0 0, .slice none 0 0, .slice none 0 0, .slice none 0 0, .slice none 0 0]) ∧ Hid (Blk W (w.heap.size + 2) 57 [.int .i64 x.frm, .int .i64 x.til, .slice D2 x.steps.length d2, .slice D3 x.lies.length d3, .slice D4 x.crosses.length d4, .slice none 0 0, .slice none 0 0, .slice none 0 0]) ∧ Hid ((Kn.slice 59 stepK).O W x.steps [.slice D2 x.steps.length d2] F2) ∧ Hid ((Kn.slice 65 lieK).O W x.lies [.slice D3 x.lies.length d3] F3) ∧ Hid ((Kn.slice 3 Kn.int).O W x.crosses [.slice D4 x.crosses.length d4] F4) :=
    ⟨_, rfl, Bn.setCell (by simp) _, by simp; omega, by simp, Lib.hid (G.out.far (by simp) _), Lib.hid (Z.out.far (by simp) _), Lib.hid (O.out.set_ 4 _), Lib.hid (O_set ((Kn.slice 59 stepK).O_move (fun b hbb => hb.block b (by have := (Kn.slice 59 stepK).O_lt m2.out b hbb; omega)) m2.out) (fun b hb => by have := f2.out b hb; show b ≠ w.heap.size + 2; omega) _), Lib.hid (O_set ((Kn.slice 65 lieK).O_move (fun b hbb => hb.block b (by have := (Kn.slice 65 lieK).O_lt m3.out b hbb; omega)) m3.out) (fun b hb => by have := f3.out b hb; show b ≠ w.heap.size + 2; omega) _), Lib.hid (O_set o4.out (fun b hb => by have := f4.out b hb; show b ≠ w.heap.size + 2; omega) _)⟩
  rw [← hW]
  clear hW G Z O k1 k3 z3 hb y0 y1 y2 Bn G3 Z3 O3 o4
  clear B3
  refine (toPartS _ _ _ _ (Kn.C_below B4 h5) (by omega)).mono ?_
  rintro e w5 ⟨D5, d5, F5, rfl, o5, f5, hb⟩
  have T5 : Hid (∀ b, b ∈ F5 → b < w5.heap.size) := Lib.hid ((Kn.slice 61 partK).O_lt o5)
  have o5 := Lib.hid o5
  have f5 := Lib.hid f5
  have G := Lib.hid (G4.out.below hb (by omega))
  have Z := Lib.hid (Z4.out.below hb (by omega))
  have O := Lib.hid (O4.out.below hb (by omega))
  have hs5 := hb.size
  have y0 : w.heap.size < w5.heap.size := by omega
  have y1 : w.heap.size + 1 < w5.heap.size := by omega
  have y2 : w.heap.size + 2 < w5.heap.size := by omega
  have k1 := G.out.cell 6 rfl
  have k3 := O.out.cell 5 rfl
  have z3 := O.out.frozen 5
  have Bn := B4.trans (hb.mono B4.size)
  go_wp2_with fail
  obtain ⟨W5, hW, B5, hz5, hy5, G5, Z5, O5, m2, m3, m4, m5⟩ : ∃ W, W = w5.setCell ⟨w.heap.size + 2, 5, none⟩ (.slice D5 x.parts.length d5) ∧ Below w.heap.size w W ∧ w.heap.size + 2 < W.heap.size ∧ W.heap.size = w5.heap.size ∧ Hid (Blk W w.heap.size 73 [.int .i64 x.frm, .int .i64 x.til, .slice A2 x.steps.length c2, .slice A3 x.lies.length c3, .slice A4 x.crosses.length c4, .slice A5 x.parts.length c5, .slice A6 x.over.length c6, .slice A7 x.flanks.length c7]) ∧ Hid (Blk W (w.heap.size + 1) 57 [.int .i64 0, .int .i64 0, .slice none 0 0, .slice none 0 0, .slice none 0 0, .slice none 0 0, .slice none 0 0, .slice none 0 0]) ∧ Hid (Blk W (w.heap.size + 2) 57 [.int .i64 x.frm, .int .i64 x.til, .slice D2 x.steps.length d2, .slice D3 x.lies.length d3, .slice D4 x.crosses.length d4, .slice D5 x.parts.length d5, .slice none 0 0, .slice none 0 0]) ∧ Hid ((Kn.slice 59 stepK).O W x.steps [.slice D2 x.steps.length d2] F2) ∧ Hid ((Kn.slice 65 lieK).O W x.lies [.slice D3 x.lies.length d3] F3) ∧ Hid ((Kn.slice 3 Kn.int).O W x.crosses [.slice D4 x.crosses.length d4] F4) ∧ Hid ((Kn.slice 61 partK).O W x.parts [.slice D5 x.parts.length d5] F5) :=
    ⟨_, rfl, Bn.setCell (by simp) _, by simp; omega, by simp, Lib.hid (G.out.far (by simp) _), Lib.hid (Z.out.far (by simp) _), Lib.hid (O.out.set_ 5 _), Lib.hid (O_set ((Kn.slice 59 stepK).O_move (fun b hbb => hb.block b (by have := (Kn.slice 59 stepK).O_lt m2.out b hbb; omega)) m2.out) (fun b hb => by have := f2.out b hb; show b ≠ w.heap.size + 2; omega) _), Lib.hid (O_set ((Kn.slice 65 lieK).O_move (fun b hbb => hb.block b (by have := (Kn.slice 65 lieK).O_lt m3.out b hbb; omega)) m3.out) (fun b hb => by have := f3.out b hb; show b ≠ w.heap.size + 2; omega) _), Lib.hid (O_set ((Kn.slice 3 Kn.int).O_move (fun b hbb => hb.block b (by have := (Kn.slice 3 Kn.int).O_lt m4.out b hbb; omega)) m4.out) (fun b hb => by have := f4.out b hb; show b ≠ w.heap.size + 2; omega) _), Lib.hid (O_set o5.out (fun b hb => by have := f5.out b hb; show b ≠ w.heap.size + 2; omega) _)⟩
  rw [← hW]
  clear hW G Z O k1 k3 z3 hb y0 y1 y2 Bn G4 Z4 O4 o5
  clear B4
  refine (toPartS _ _ _ _ (Kn.C_below B5 h6) (by omega)).mono ?_
  rintro e w6 ⟨D6, d6, F6, rfl, o6, f6, hb⟩
  have T6 : Hid (∀ b, b ∈ F6 → b < w6.heap.size) := Lib.hid ((Kn.slice 61 partK).O_lt o6)
  have o6 := Lib.hid o6
  have f6 := Lib.hid f6
  have G := Lib.hid (G5.out.below hb (by omega))
  have Z := Lib.hid (Z5.out.below hb (by omega))
  have O := Lib.hid (O5.out.below hb (by omega))
  have hs6 := hb.size
  have y0 : w.heap.size < w6.heap.size := by omega
  have y1 : w.heap.size + 1 < w6.heap.size := by omega
  have y2 : w.heap.size + 2 < w6.heap.size := by omega
  have k1 := G.out.cell 7 rfl
  have k3 := O.out.cell 6 rfl
  have z3 := O.out.frozen 6
  have Bn := B5.trans (hb.mono B5.size)
  go_wp2_with fail
  obtain ⟨W6, hW, B6, hz6, hy6, G6, Z6, O6, m2, m3, m4, m5, m6⟩ : ∃ W, W = w6.setCell ⟨w.heap.size + 2, 6, none⟩ (.slice D6 x.over.length d6) ∧ Below w.heap.size w W ∧ w.heap.size + 2 < W.heap.size ∧ W.heap.size = w6.heap.size ∧ Hid (Blk W w.heap.size 73 [.int .i64 x.frm, .int .i64 x.til, .slice A2 x.steps.length c2, .slice A3 x.lies.length c3, .slice A4 x.crosses.length c4, .slice A5 x.parts.length c5, .slice A6 x.over.length c6, .slice A7 x.flanks.length c7]) ∧ Hid (Blk W (w.heap.size + 1) 57 [.int .i64 0, .int .i64 0, .slice none 0 0, .slice none 0 0, .slice none 0 0, .slice none 0 0, .slice none 0 0, .slice none 0 0]) ∧ Hid (Blk W (w.heap.size + 2) 57 [.int .i64 x.frm, .int .i64 x.til, .slice D2 x.steps.length d2, .slice D3 x.lies.length d3, .slice D4 x.crosses.length d4, .slice D5 x.parts.length d5, .slice D6 x.over.length d6, .slice none 0 0]) ∧ Hid ((Kn.slice 59 stepK).O W x.steps [.slice D2 x.steps.length d2] F2) ∧ Hid ((Kn.slice 65 lieK).O W x.lies [.slice D3 x.lies.length d3] F3) ∧ Hid ((Kn.slice 3 Kn.int).O W x.crosses [.slice D4 x.crosses.length d4] F4) ∧ Hid ((Kn.slice 61 partK).O W x.parts [.slice D5 x.parts.length d5] F5) ∧ Hid ((Kn.slice 61 partK).O W x.over [.slice D6 x.over.length d6] F6) :=
    ⟨_, rfl, Bn.setCell (by simp) _, by simp; omega, by simp, Lib.hid (G.out.far (by simp) _), Lib.hid (Z.out.far (by simp) _), Lib.hid (O.out.set_ 6 _), Lib.hid (O_set ((Kn.slice 59 stepK).O_move (fun b hbb => hb.block b (by have := (Kn.slice 59 stepK).O_lt m2.out b hbb; omega)) m2.out) (fun b hb => by have := f2.out b hb; show b ≠ w.heap.size + 2; omega) _), Lib.hid (O_set ((Kn.slice 65 lieK).O_move (fun b hbb => hb.block b (by have := (Kn.slice 65 lieK).O_lt m3.out b hbb; omega)) m3.out) (fun b hb => by have := f3.out b hb; show b ≠ w.heap.size + 2; omega) _), Lib.hid (O_set ((Kn.slice 3 Kn.int).O_move (fun b hbb => hb.block b (by have := (Kn.slice 3 Kn.int).O_lt m4.out b hbb; omega)) m4.out) (fun b hb => by have := f4.out b hb; show b ≠ w.heap.size + 2; omega) _), Lib.hid (O_set ((Kn.slice 61 partK).O_move (fun b hbb => hb.block b (by have := (Kn.slice 61 partK).O_lt m5.out b hbb; omega)) m5.out) (fun b hb => by have := f5.out b hb; show b ≠ w.heap.size + 2; omega) _), Lib.hid (O_set o6.out (fun b hb => by have := f6.out b hb; show b ≠ w.heap.size + 2; omega) _)⟩
  rw [← hW]
  clear hW G Z O k1 k3 z3 hb y0 y1 y2 Bn G5 Z5 O5 o6
  clear B5
  refine (toFlankS _ _ _ _ (Kn.C_below B6 h7) (by omega)).mono ?_
  rintro e w7 ⟨D7, d7, F7, rfl, o7, f7, hb⟩
  have T7 : Hid (∀ b, b ∈ F7 → b < w7.heap.size) := Lib.hid ((Kn.slice 63 flankK).O_lt o7)
  have o7 := Lib.hid o7
  have f7 := Lib.hid f7
  have G := Lib.hid (G6.out.below hb (by omega))
  have Z := Lib.hid (Z6.out.below hb (by omega))
  have O := Lib.hid (O6.out.below hb (by omega))
  have hs7 := hb.size
  have y0 : w.heap.size < w7.heap.size := by omega
  have y1 : w.heap.size + 1 < w7.heap.size := by omega
  have y2 : w.heap.size + 2 < w7.heap.size := by omega
  have k10 := O.out.cell 0 rfl
  have r0 := Z.out.cell 0 rfl
  have s0 := Z.out.frozen 0
  have k11 := O.out.cell 1 rfl
  have r1 := Z.out.cell 1 rfl
  have s1 := Z.out.frozen 1
  have k12 := O.out.cell 2 rfl
  have r2 := Z.out.cell 2 rfl
  have s2 := Z.out.frozen 2
  have k13 := O.out.cell 3 rfl
  have r3 := Z.out.cell 3 rfl
  have s3 := Z.out.frozen 3
  have k14 := O.out.cell 4 rfl
  have r4 := Z.out.cell 4 rfl
  have s4 := Z.out.frozen 4
  have k15 := O.out.cell 5 rfl
  have r5 := Z.out.cell 5 rfl
  have s5 := Z.out.frozen 5
  have k16 := O.out.cell 6 rfl
  have r6 := Z.out.cell 6 rfl
  have s6 := Z.out.frozen 6
  have k17 := O.out.cell 7 rfl
  have r7 := Z.out.cell 7 rfl
  have s7 := Z.out.frozen 7
  have z3 := O.out.frozen 7
  have Bn := B6.trans (hb.mono B6.size)
  go_wp2
  have hm : (Kn.slice 59 stepK).O w7 x.steps [.slice D2 x.steps.length d2] F2 ∧ (Kn.slice 65 lieK).O w7 x.lies [.slice D3 x.lies.length d3] F3 ∧ (Kn.slice 3 Kn.int).O w7 x.crosses [.slice D4 x.crosses.length d4] F4 ∧ (Kn.slice 61 partK).O w7 x.parts [.slice D5 x.parts.length d5] F5 ∧ (Kn.slice 61 partK).O w7 x.over [.slice D6 x.over.length d6] F6 ∧ (Kn.slice 63 flankK).O w7 x.flanks [.slice D7 x.flanks.length d7] F7 := ⟨(Kn.slice 59 stepK).O_move (fun b hbb => hb.block b (by have := (Kn.slice 59 stepK).O_lt m2.out b hbb; omega)) m2.out, (Kn.slice 65 lieK).O_move (fun b hbb => hb.block b (by have := (Kn.slice 65 lieK).O_lt m3.out b hbb; omega)) m3.out, (Kn.slice 3 Kn.int).O_move (fun b hbb => hb.block b (by have := (Kn.slice 3 Kn.int).O_lt m4.out b hbb; omega)) m4.out, (Kn.slice 61 partK).O_move (fun b hbb => hb.block b (by have := (Kn.slice 61 partK).O_lt m5.out b hbb; omega)) m5.out, (Kn.slice 61 partK).O_move (fun b hbb => hb.block b (by have := (Kn.slice 61 partK).O_lt m6.out b hbb; omega)) m6.out, o7.out⟩
  obtain ⟨m2, m3, m4, m5, m6, m7⟩ := hm
  have l2 : ∀ b, b ∈ F2 → w.heap.size + 3 ≤ b := fun b hb => by have := f2.out b hb; omega
  have l3 : ∀ b, b ∈ F3 → w.heap.size + 3 ≤ b := fun b hb => by have := f3.out b hb; omega
  have l4 : ∀ b, b ∈ F4 → w.heap.size + 3 ≤ b := fun b hb => by have := f4.out b hb; omega
  have l5 : ∀ b, b ∈ F5 → w.heap.size + 3 ≤ b := fun b hb => by have := f5.out b hb; omega
  have l6 : ∀ b, b ∈ F6 → w.heap.size + 3 ≤ b := fun b hb => by have := f6.out b hb; omega
  have l7 : ∀ b, b ∈ F7 → w.heap.size + 3 ≤ b := fun b hb => by have := f7.out b hb; omega
  have n7 := (Kn.slice 63 flankK).O_nodup m7
  have n6 : (F6 ++ F7).Nodup := nodup_range (B := w6.heap.size) ((Kn.slice 61 partK).O_nodup m6) n7 (fun b hb => by have := T6.out b hb; omega) (fun b hb => by
    have := f7.out b hb; omega)
  have n5 : (F5 ++ (F6 ++ F7)).Nodup := nodup_range (B := w5.heap.size) ((Kn.slice 61 partK).O_nodup m5) n6 (fun b hb => by have := T5.out b hb; omega) (fun b hb => by
    simp only [List.mem_append] at hb
    rcases hb with hb | hb
    · have := f6.out b hb; omega
    · have := f7.out b hb; omega)
  have n4 : (F4 ++ (F5 ++ (F6 ++ F7))).Nodup := nodup_range (B := w4.heap.size) ((Kn.slice 3 Kn.int).O_nodup m4) n5 (fun b hb => by have := T4.out b hb; omega) (fun b hb => by
    simp only [List.mem_append] at hb
    rcases hb with hb | hb | hb
    · have := f5.out b hb; omega
    · have := f6.out b hb; omega
    · have := f7.out b hb; omega)
  have n3 : (F3 ++ (F4 ++ (F5 ++ (F6 ++ F7)))).Nodup := nodup_range (B := w3.heap.size) ((Kn.slice 65 lieK).O_nodup m3) n4 (fun b hb => by have := T3.out b hb; omega) (fun b hb => by
    simp only [List.mem_append] at hb
    rcases hb with hb | hb | hb | hb
    · have := f4.out b hb; omega
    · have := f5.out b hb; omega
    · have := f6.out b hb; omega
    · have := f7.out b hb; omega)
  have n2 : (F2 ++ (F3 ++ (F4 ++ (F5 ++ (F6 ++ F7))))).Nodup := nodup_range (B := w2.heap.size) ((Kn.slice 59 stepK).O_nodup m2) n3 (fun b hb => by have := T2.out b hb; omega) (fun b hb => by
    simp only [List.mem_append] at hb
    rcases hb with hb | hb | hb | hb | hb
    · have := f3.out b hb; omega
    · have := f4.out b hb; omega
    · have := f5.out b hb; omega
    · have := f6.out b hb; omega
    · have := f7.out b hb; omega)
  refine bodyPost_ret (v := .agg #[.int .i64 x.frm, .int .i64 x.til, .slice D2 x.steps.length d2, .slice D3 x.lies.length d3, .slice D4 x.crosses.length d4, .slice D5 x.parts.length d5, .slice D6 x.over.length d6, .slice D7 x.flanks.length d7]) (by simp [results, Try.results30, go_sem, y0, y1, y2, k10, k11, k12, k13, k14, k15, k16, k17, r0, r1, r2, r3, r4, r5, r6, r7]) rfl ⟨_, _, _, _, _, _, _, _, _, _, _, _, (F2 ++ (F3 ++ (F4 ++ (F5 ++ (F6 ++ F7))))), rfl, ?_, ?_, ?_⟩
  · refine routeK_own ?_ ?_ ?_ ?_ ?_ ?_ n2
    · refine (Kn.slice 59 stepK).O_move (w := w7) (fun b hb => ?_) m2
      have hl := l2 b hb
      refine (Below.heap_setCell _ _ _ _ (by simp; omega)).trans ?_
      refine (Below.heap_setCell _ _ _ _ (by simp; omega)).trans ?_
      refine (Below.heap_setCell _ _ _ _ (by simp; omega)).trans ?_
      refine (Below.heap_setCell _ _ _ _ (by simp; omega)).trans ?_
      refine (Below.heap_setCell _ _ _ _ (by simp; omega)).trans ?_
      refine (Below.heap_setCell _ _ _ _ (by simp; omega)).trans ?_
      refine (Below.heap_setCell _ _ _ _ (by simp; omega)).trans ?_
      refine (Below.heap_setCell _ _ _ _ (by simp; omega)).trans ?_
      refine (Below.heap_setCell _ _ _ _ (by simp; omega)).trans ?_
      rfl
    · refine (Kn.slice 65 lieK).O_move (w := w7) (fun b hb => ?_) m3
      have hl := l3 b hb
      refine (Below.heap_setCell _ _ _ _ (by simp; omega)).trans ?_
      refine (Below.heap_setCell _ _ _ _ (by simp; omega)).trans ?_
      refine (Below.heap_setCell _ _ _ _ (by simp; omega)).trans ?_
      refine (Below.heap_setCell _ _ _ _ (by simp; omega)).trans ?_
      refine (Below.heap_setCell _ _ _ _ (by simp; omega)).trans ?_
      refine (Below.heap_setCell _ _ _ _ (by simp; omega)).trans ?_
      refine (Below.heap_setCell _ _ _ _ (by simp; omega)).trans ?_
      refine (Below.heap_setCell _ _ _ _ (by simp; omega)).trans ?_
      refine (Below.heap_setCell _ _ _ _ (by simp; omega)).trans ?_
      rfl
    · refine (Kn.slice 3 Kn.int).O_move (w := w7) (fun b hb => ?_) m4
      have hl := l4 b hb
      refine (Below.heap_setCell _ _ _ _ (by simp; omega)).trans ?_
      refine (Below.heap_setCell _ _ _ _ (by simp; omega)).trans ?_
      refine (Below.heap_setCell _ _ _ _ (by simp; omega)).trans ?_
      refine (Below.heap_setCell _ _ _ _ (by simp; omega)).trans ?_
      refine (Below.heap_setCell _ _ _ _ (by simp; omega)).trans ?_
      refine (Below.heap_setCell _ _ _ _ (by simp; omega)).trans ?_
      refine (Below.heap_setCell _ _ _ _ (by simp; omega)).trans ?_
      refine (Below.heap_setCell _ _ _ _ (by simp; omega)).trans ?_
      refine (Below.heap_setCell _ _ _ _ (by simp; omega)).trans ?_
      rfl
    · refine (Kn.slice 61 partK).O_move (w := w7) (fun b hb => ?_) m5
      have hl := l5 b hb
      refine (Below.heap_setCell _ _ _ _ (by simp; omega)).trans ?_
      refine (Below.heap_setCell _ _ _ _ (by simp; omega)).trans ?_
      refine (Below.heap_setCell _ _ _ _ (by simp; omega)).trans ?_
      refine (Below.heap_setCell _ _ _ _ (by simp; omega)).trans ?_
      refine (Below.heap_setCell _ _ _ _ (by simp; omega)).trans ?_
      refine (Below.heap_setCell _ _ _ _ (by simp; omega)).trans ?_
      refine (Below.heap_setCell _ _ _ _ (by simp; omega)).trans ?_
      refine (Below.heap_setCell _ _ _ _ (by simp; omega)).trans ?_
      refine (Below.heap_setCell _ _ _ _ (by simp; omega)).trans ?_
      rfl
    · refine (Kn.slice 61 partK).O_move (w := w7) (fun b hb => ?_) m6
      have hl := l6 b hb
      refine (Below.heap_setCell _ _ _ _ (by simp; omega)).trans ?_
      refine (Below.heap_setCell _ _ _ _ (by simp; omega)).trans ?_
      refine (Below.heap_setCell _ _ _ _ (by simp; omega)).trans ?_
      refine (Below.heap_setCell _ _ _ _ (by simp; omega)).trans ?_
      refine (Below.heap_setCell _ _ _ _ (by simp; omega)).trans ?_
      refine (Below.heap_setCell _ _ _ _ (by simp; omega)).trans ?_
      refine (Below.heap_setCell _ _ _ _ (by simp; omega)).trans ?_
      refine (Below.heap_setCell _ _ _ _ (by simp; omega)).trans ?_
      refine (Below.heap_setCell _ _ _ _ (by simp; omega)).trans ?_
      rfl
    · refine (Kn.slice 63 flankK).O_move (w := w7) (fun b hb => ?_) m7
      have hl := l7 b hb
      refine (Below.heap_setCell _ _ _ _ (by simp; omega)).trans ?_
      refine (Below.heap_setCell _ _ _ _ (by simp; omega)).trans ?_
      refine (Below.heap_setCell _ _ _ _ (by simp; omega)).trans ?_
      refine (Below.heap_setCell _ _ _ _ (by simp; omega)).trans ?_
      refine (Below.heap_setCell _ _ _ _ (by simp; omega)).trans ?_
      refine (Below.heap_setCell _ _ _ _ (by simp; omega)).trans ?_
      refine (Below.heap_setCell _ _ _ _ (by simp; omega)).trans ?_
      refine (Below.heap_setCell _ _ _ _ (by simp; omega)).trans ?_
      refine (Below.heap_setCell _ _ _ _ (by simp; omega)).trans ?_
      rfl
  · intro b hb
    simp only [List.mem_append] at hb
    rcases hb with hb | hb | hb | hb | hb | hb
    · have := l2 b hb; omega
    · have := l3 b hb; omega
    · have := l4 b hb; omega
    · have := l5 b hb; omega
    · have := l6 b hb; omega
    · have := l7 b hb; omega
  · refine Below.setCell ?_ (by simp; try omega) _
    refine Below.setCell ?_ (by simp; try omega) _
    refine Below.setCell ?_ (by simp; try omega) _
    refine Below.setCell ?_ (by simp; try omega) _
    refine Below.setCell ?_ (by simp; try omega) _
    refine Below.setCell ?_ (by simp; try omega) _
    refine Below.setCell ?_ (by simp; try omega) _
    refine Below.setCell ?_ (by simp; try omega) _
    refine Below.setCell ?_ (by simp; try omega) _
    exact Bn
theorem info57 : (Try.prog.info? 57).map (fun i => (i.zero, i.size, i.bytes)) = some (some (.agg #[.int .i64 0, .int .i64 0, .slice none 0 0, .slice none 0 0, .slice none 0 0, .slice none 0 0, .slice none 0 0, .slice none 0 0]), 8, 160) := by kernel_rfl
abbrev rL : Kn Route := routeK 210 212 3 214 216
set_option maxRecDepth 100000 in
set_option maxHeartbeats 1000000 in
theorem toRouteS {ok : Nat → Prop} (A : Option Addr) (c : Nat) (xs : List Route) (w : World) (hx : rL.C w ok A xs) (hn : xs.length ≤ 1048576) (hs : Hid (∀ x ∈ xs, x.n ≤ 1048576)) :
    Calls Try.prog 45 #[.slice A xs.length c] w (RetS 57 rK xs w) := by
  obtain ⟨i0, hi, hz0, hz1, hz2⟩ := info_parts info57
  go_enter Try.func45, Try.ntmps45
  go_wp2_with (at_make; refine wpList_make_full _ rfl _ _ 43 rfl 0 57 i0 _ 8 Try.underlying43 hi hz0 hz1 .i64 .i64 _ _ xs.length rfl rfl rfl rfl (by rw [hz2]; omega) (by unfold maxLen; omega) (Nat.zero_le _) ?_; intro w0 hown hg0)
  go_loopw [4] (fun i wr => ∃ k : Nat, k ≤ xs.length ∧ i = .int .i64 k ∧ FilledO rK 57 xs w.heap.size k wr ∧ Below w.heap.size w wr) (fun i _ => xs.length - (intOf i).toNat)
  case atStart => exact ⟨0, Nat.zero_le _, rfl, FilledO.start hown, ⟨hg0.os, hg0.tape, hg0.output, hg0.size, fun b hb => hg0.block b hb (by simp)⟩⟩
  case round =>
    obtain ⟨k, hk, rfl, HF, hb⟩ := hrel
    by_cases hlt : k < xs.length
    · obtain ⟨a0, rfl, x, E, A2, c2, A3, c3, A4, c4, A5, c5, A6, c6, A7, c7, g0, g1, g2, g3, g4, g5, g6, g7, l2, q2, l3, q3, l4, q4, l5, q5, l6, q6, l7, q7⟩ := routeK_at (Kn.C_below hb hx) k hlt
      have hsx := hs.out _ (mem_of_get E.out)
      have i0 : (0 : Int) ≤ (k : Int) := Int.natCast_nonneg _
      have i1 : (k : Int) < (xs.length : Int) := by omega
      have hgl := HF.lt
      go_wp2_with fail
      refine (toRoute x A2 A3 A4 A5 A6 A7 c2 c3 c4 c5 c6 c7 _ q2 q3 q4 q5 q6 q7 hsx).mono ?_
      rintro e w1 ⟨D2, d2, D3, d3, D4, d4, D5, d5, D6, d6, D7, d7, F, rfl, hO, hF, hb1⟩
      obtain ⟨inner, ho, hst⟩ := HF.row hb1
      replace ho : w1.ownsRow 0 57 8 (.slice (some ⟨w.heap.size, 0, none⟩) xs.length xs.length) xs.length inner := ho
      have HO := Lib.hid hO
      have HF := Lib.hid hF
      have HS := Lib.hid hst
      clear hO hF hst
      go_wp2_with (refine wpList_store_own rfl _ _ _ rfl [.int .i64 x.frm, .int .i64 x.til, .slice D2 x.steps.length d2, .slice D3 x.lies.length d3, .slice D4 x.crosses.length d4, .slice D5 x.parts.length d5, .slice D6 x.over.length d6, .slice D7 x.flanks.length d7] ho rfl rfl ?_ (size_of_info info57) rfl ?_; (simp; omega); intro w2 ho2 hg2)
      go_roundw
      case rel => exact ⟨k + 1, by omega, by go_num, HS.out _ _ F _ E.out rfl HO.out HF.out hg2 ho2, below_grown (hb.trans (hb1.mono hb.size)) hg2 (Nat.le_refl _) (Nat.le_trans hb.size hb1.size)⟩
      case measure => simp [intOf]; omega
    · obtain rfl : k = xs.length := by omega
      go_wp2
      go_ret
      obtain ⟨F, h1, h2⟩ := HF.done
      exact ⟨_, _, F, rfl, h1, h2, hb⟩
end Go.Proofs.Ytginpmhjpjcahaa.L
