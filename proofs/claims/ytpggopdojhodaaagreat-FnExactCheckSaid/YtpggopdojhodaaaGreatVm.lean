/- The law FnExactCheck, walked: it answers true. -/
import Derived.Test.YtpggopdojhodaaaGreatVl
namespace Go.Proofs.YtpggopdojhodaaaGreat.L
open Go.RowKit
open Classical
set_option linter.unusedVariables false
set_option linter.unusedSimpArgs false
theorem rt_n {n : Net} {ss : List Signal} {ov : Int} : ∀ x ∈ routesF n ss ov, x.n ≤ 141004 := fun x hx => by
  obtain ⟨hr, h0, h1, hrt⟩ := routesF_rt hx
  have := Rt.size hr hrt h1
  show x.steps.length + x.lies.length + x.crosses.length + x.parts.length + x.over.length + x.flanks.length ≤ 141004
  omega
end Go.Proofs.YtpggopdojhodaaaGreat.L
namespace Go.Proofs.YtpggopdojhodaaaGreat.L
open Go.RowKit
set_option linter.unusedVariables false
set_option linter.unusedSimpArgs false
set_option maxRecDepth 100000 in
set_option maxHeartbeats 1000000 in
theorem szIntSS {ok : Nat → Prop} (A : Option Addr) (c : Nat) (xs : List (List Int)) (left : Int) (w : World) (hx : rowK.C w ok A xs) (h0 : 0 ≤ left) (h1 : left ≤ 1048576) :
    Calls Tryz.prog 25 #[.slice A xs.length c, .int .i64 left] w (RetI (cut (left - (lenS List.length xs : Nat))) w) := by
  have hm := hx.1
  unfold lenS
  by_cases h : left - (xs.length : Int) < 0
  · rw [cut_neg (by omega)]
    go_enter Tryz.func25, Tryz.ntmps25
    go_wp2
    go_ret
    exact ⟨rfl, Below.refl _ _⟩
  · have hd : decide (left - (xs.length : Int) < 0) = false := by simpa using h
    go_enter Tryz.func25, Tryz.ntmps25
    go_wp2
    go_loopw [1, 5] (fun l i wr => ∃ (k : Nat) (y : Int), k ≤ xs.length ∧ i = .int .i64 k ∧ l = .int .i64 y ∧ 0 ≤ y ∧ y ≤ left ∧ Hid (y = left - (xs.length + tot List.length (xs.take k) : Nat)) ∧ Below w.heap.size w wr) (fun _ i _ => xs.length - (intOf i).toNat)
    case atStart => exact ⟨0, left - xs.length, Nat.zero_le _, rfl, rfl, by omega, by omega, Lib.hid (by rw [List.take_zero, tot_nil]; omega), Below.refl _ _⟩
    case round =>
      obtain ⟨k, y, hk, rfl, rfl, hy0, hy1, HY, hb⟩ := hrel
      by_cases hlt : k < xs.length
      · obtain ⟨a0, rfl, x, E, B, d, g0, HX⟩ := row_at (Kn.C_below hb hx) k hlt
        have hxm := HX.out.1
        have i0 : (0 : Int) ≤ (k : Int) := Int.natCast_nonneg _
        have i1 : (k : Int) < (xs.length : Int) := by omega
        have hc : Hid (tot List.length (xs.take (k + 1)) = tot List.length (xs.take k) + x.length) := Lib.hid (tot_snoc _ _ _ _ E.out)
        by_cases hr : y - (x.length : Int) < 0
        · have hcut : Hid (cut (y - (x.length : Int)) = -1) := Lib.hid (cut_neg hr)
          go_wp2_with (go_at_call 64; refine (szIntS B x.length d _ _ (by omega) (by omega) hxm).mono ?_; rintro e w1 ⟨rfl, hb1⟩; rw [hcut.out])
          go_ret
          refine ⟨ret_int ?_, hb.trans (hb1.mono hb.size)⟩
          have h3 := HY.out
          have h4 := tot_le List.length xs (k + 1)
          rw [hc.out] at h4
          rw [cut_neg (by omega)]
        · have hcut : Hid (cut (y - (x.length : Int)) = y - (x.length : Int)) := Lib.hid (cut_pos (by omega))
          go_wp2_with (go_at_call 64; refine (szIntS B x.length d _ _ (by omega) (by omega) hxm).mono ?_; rintro e w1 ⟨rfl, hb1⟩; rw [hcut.out])
          go_roundw
          case rel => exact ⟨k + 1, y - x.length, by omega, by go_num, rfl, by omega, by omega, Lib.hid (by rw [hc.out]; have := HY.out; omega), hb.trans (hb1.mono hb.size)⟩
          case measure => simp [intOf]; omega
      · obtain rfl : k = xs.length := by omega
        go_wp2
        go_ret
        refine ⟨ret_int ?_, hb⟩
        have h3 := HY.out
        rw [List.take_length] at h3
        rw [cut_pos (by omega)]
        omega
set_option maxRecDepth 100000 in
set_option maxHeartbeats 1000000 in
theorem toIntSS {ok : Nat → Prop} (A : Option Addr) (c : Nat) (xs : List (List Int)) (w : World) (hx : rowK.C w ok A xs) (hn : xs.length ≤ 1048576) (hs : Hid (∀ x ∈ xs, x.length ≤ 1048576)) :
    Calls Tryz.prog 27 #[.slice A xs.length c] w (RetS 46 rowK xs w) := by
  obtain ⟨i0, hi, hz0, hz1, hz2⟩ := info_parts info46
  go_enter Tryz.func27, Tryz.ntmps27
  go_wp2_with (at_make; refine wpList_make_full _ rfl _ _ 53 rfl 0 46 i0 _ 1 Tryz.underlying53 hi hz0 hz1 .i64 .i64 _ _ xs.length rfl rfl rfl rfl (by rw [hz2]; omega) (by unfold maxLen; omega) (Nat.zero_le _) ?_; intro w0 hown hg0)
  go_loopw [4] (fun i wr => ∃ k : Nat, k ≤ xs.length ∧ i = .int .i64 k ∧ FilledO rowK 46 xs w.heap.size k wr ∧ Below w.heap.size w wr) (fun i _ => xs.length - (intOf i).toNat)
  case atStart => exact ⟨0, Nat.zero_le _, rfl, FilledO.start hown, ⟨hg0.os, hg0.tape, hg0.output, hg0.size, fun b hb => hg0.block b hb (by simp)⟩⟩
  case round =>
    obtain ⟨k, hk, rfl, HF, hb⟩ := hrel
    by_cases hlt : k < xs.length
    · obtain ⟨a0, rfl, x, E, B, d, g0, HX⟩ := row_at (Kn.C_below hb hx) k hlt
      have hsx := hs.out _ (mem_of_get E.out)
      have i0 : (0 : Int) ≤ (k : Int) := Int.natCast_nonneg _
      have i1 : (k : Int) < (xs.length : Int) := by omega
      have hgl := HF.lt
      go_wp2_with fail
      refine (toIntS B d x _ HX.out hsx).mono ?_
      rintro e w1 ⟨D2, d2, F, rfl, hO, hF, hb1⟩
      obtain ⟨inner, ho, hst⟩ := HF.row hb1
      replace ho : w1.ownsRow 0 46 1 (.slice (some ⟨w.heap.size, 0, none⟩) xs.length xs.length) xs.length inner := ho
      have HO := Lib.hid hO
      have HF := Lib.hid hF
      have HS := Lib.hid (fun w2 (hg : w1.grownBy w2 (some w.heap.size)) ho2 => hst _ _ F w2 E.out rfl HO.out HF.out hg ho2)
      clear hO hF hst
      have hk1 : k * 1 = k := Nat.mul_one k
      obtain ⟨ho1, hg1⟩ := ho.stored k (.slice D2 x.length d2)
      obtain ⟨y0, q0⟩ : ∃ y, w1.cell? ⟨w.heap.size, k, none⟩ = some y := ⟨inner[k]'(by have := ho.1; omega), by rw [ho.cellAt _ (by omega)]; exact List.getElem?_eq_getElem _⟩
      have z0 : w1.frozen? ⟨w.heap.size, k, none⟩ = false := ho.frozenAt _
      have HN : Hid (FilledO rowK 46 xs w.heap.size (k + 1) (w1.setCell ⟨w.heap.size, k, none⟩ (.slice D2 x.length d2))) := Lib.hid (HS.out _ hg1 (by
        show World.ownsRow _ 0 46 1 _ _ (setAll inner (k * 1) [.slice D2 x.length d2])
        rw [Nat.mul_one]
        exact ho1))
      have HBN : Hid (Below w.heap.size w (w1.setCell ⟨w.heap.size, k, none⟩ (.slice D2 x.length d2))) := Lib.hid (below_grown (hb.trans (hb1.mono hb.size)) hg1 (Nat.le_refl _) (Nat.le_trans hb.size hb1.size))
      clear ho1 hg1 hk1 ho
      go_wp2
      go_roundw
      case rel => exact ⟨k + 1, by omega, by go_num, HN.out, HBN.out⟩
      case measure => simp [intOf]; omega
    · obtain rfl : k = xs.length := by omega
      go_wp2
      go_ret
      obtain ⟨F, h1, h2⟩ := HF.done
      exact ⟨_, _, F, rfl, h1, h2, hb⟩
end Go.Proofs.YtpggopdojhodaaaGreat.L
namespace Go.Proofs.YtpggopdojhodaaaGreat.L
open Classical
set_option linter.unusedVariables false
set_option linter.unusedSimpArgs false
theorem eqv_comm {α : Type} (x y : α) : eqv x y = eqv y x := by
  by_cases h : x = y
  · rw [h]
  · rw [eqv_false h, eqv_false (fun e => h e.symm)]
theorem sameF_comm (a b : Route) : sameF a b = sameF b a := by
  unfold sameF
  rw [eqv_comm a.frm, eqv_comm a.til, eqv_comm a.steps, eqv_comm a.lies, eqv_comm a.crosses, eqv_comm a.parts, eqv_comm a.over, eqv_comm a.flanks]
noncomputable def faultR : List Route → List Route → Nat → Option Wrong
  | [], [], _ => none
  | [], _ :: _, k => some ⟨2, k, 0⟩
  | _ :: _, [], k => some ⟨2, k, 0⟩
  | a :: l, b :: m, k => if a = b then faultR l m (k + 1) else some ⟨partsF a b, k, 0⟩
noncomputable def faultV : List Int → List Int → Nat → Nat → Option Wrong
  | a :: l, b :: m, i, k => if a = b then faultV l m i (k + 1) else some ⟨7, i, k⟩
  | _, _, _, _ => none
noncomputable def faultT : List (List Int) → List (List Int) → Nat → Option Wrong
  | a :: l, b :: m, i => if b.length = a.length then (faultV a b i 0).orElse (fun _ => faultT l m (i + 1)) else some ⟨7, i, b.length⟩
  | _, _, _ => none
noncomputable def tableW (rs : List Route) (tb : List (List Int)) : Wrong := if tb.length = rs.length then (faultT (tabF rs) tb 0).getD ⟨0, 0, 0⟩ else ⟨7, tb.length, 0⟩
noncomputable def checkF (n : Net) (ss : List Signal) (ov : Int) (gs : List Route) (tb : List (List Int)) : Wrong :=
  if signalsOk n ss = ⟨0, 0⟩ ∧ 0 ≤ ov ∧ ov ≤ 100000 then (faultR (routesF n ss ov) gs 0).getD (tableW (routesF n ss ov) tb) else ⟨1, 0, 0⟩
section
variable {rs gs : List Route} {k : Nat} {a b : Route}
theorem faultR_step (ha : rs[k]? = some a) (hb : gs[k]? = some a) : faultR (rs.drop k) (gs.drop k) k = faultR (rs.drop (k + 1)) (gs.drop (k + 1)) (k + 1) := by
  obtain ⟨h1, e1⟩ := List.getElem?_eq_some_iff.1 ha
  obtain ⟨h2, e2⟩ := List.getElem?_eq_some_iff.1 hb
  rw [List.drop_eq_getElem_cons h1, List.drop_eq_getElem_cons h2, faultR, if_pos (e1.trans e2.symm)]
theorem faultR_ne (ha : rs[k]? = some a) (hb : gs[k]? = some b) (hne : ¬ a = b) : faultR (rs.drop k) (gs.drop k) k = some ⟨partsF a b, k, 0⟩ := by
  obtain ⟨h1, e1⟩ := List.getElem?_eq_some_iff.1 ha
  obtain ⟨h2, e2⟩ := List.getElem?_eq_some_iff.1 hb
  rw [List.drop_eq_getElem_cons h1, List.drop_eq_getElem_cons h2, faultR, e1, e2, if_neg hne]
theorem faultR_few (h1 : rs.length ≤ k) (h2 : k < gs.length) : faultR (rs.drop k) (gs.drop k) k = some ⟨2, k, 0⟩ := by
  rw [List.drop_eq_nil_of_le h1, List.drop_eq_getElem_cons h2, faultR]
theorem faultR_many (h1 : k < rs.length) (h2 : gs.length ≤ k) : faultR (rs.drop k) (gs.drop k) k = some ⟨2, k, 0⟩ := by
  rw [List.drop_eq_nil_of_le h2, List.drop_eq_getElem_cons h1, faultR]
theorem faultR_end (h1 : rs.length ≤ k) (h2 : gs.length ≤ k) : faultR (rs.drop k) (gs.drop k) k = none := by
  rw [List.drop_eq_nil_of_le h1, List.drop_eq_nil_of_le h2, faultR]
end
section
variable {rs gs : List Int} {i k : Nat} {a b : Int}
theorem faultV_step (ha : rs[k]? = some a) (hb : gs[k]? = some a) : faultV (rs.drop k) (gs.drop k) i k = faultV (rs.drop (k + 1)) (gs.drop (k + 1)) i (k + 1) := by
  obtain ⟨h1, e1⟩ := List.getElem?_eq_some_iff.1 ha
  obtain ⟨h2, e2⟩ := List.getElem?_eq_some_iff.1 hb
  rw [List.drop_eq_getElem_cons h1, List.drop_eq_getElem_cons h2, faultV, if_pos (e1.trans e2.symm)]
theorem faultV_ne (ha : rs[k]? = some a) (hb : gs[k]? = some b) (hne : ¬ a = b) : faultV (rs.drop k) (gs.drop k) i k = some ⟨7, i, k⟩ := by
  obtain ⟨h1, e1⟩ := List.getElem?_eq_some_iff.1 ha
  obtain ⟨h2, e2⟩ := List.getElem?_eq_some_iff.1 hb
  rw [List.drop_eq_getElem_cons h1, List.drop_eq_getElem_cons h2, faultV, e1, e2, if_neg hne]
theorem faultV_end (h1 : rs.length ≤ k) : faultV (rs.drop k) (gs.drop k) i k = none := by
  rw [List.drop_eq_nil_of_le h1, faultV]
  intro _ _ _ _ h
  cases h
end
section
variable {rs gs : List (List Int)} {k : Nat} {a b : List Int}
theorem faultT_len (ha : rs[k]? = some a) (hb : gs[k]? = some b) (hne : ¬ b.length = a.length) : faultT (rs.drop k) (gs.drop k) k = some ⟨7, k, b.length⟩ := by
  obtain ⟨h1, e1⟩ := List.getElem?_eq_some_iff.1 ha
  obtain ⟨h2, e2⟩ := List.getElem?_eq_some_iff.1 hb
  rw [List.drop_eq_getElem_cons h1, List.drop_eq_getElem_cons h2, faultT, e1, e2, if_neg hne]
theorem faultT_ne {x : Wrong} (ha : rs[k]? = some a) (hb : gs[k]? = some b) (hl : b.length = a.length) (hv : faultV a b k 0 = some x) : faultT (rs.drop k) (gs.drop k) k = some x := by
  obtain ⟨h1, e1⟩ := List.getElem?_eq_some_iff.1 ha
  obtain ⟨h2, e2⟩ := List.getElem?_eq_some_iff.1 hb
  rw [List.drop_eq_getElem_cons h1, List.drop_eq_getElem_cons h2, faultT, e1, e2, if_pos hl, hv]
  rfl
theorem faultT_step (ha : rs[k]? = some a) (hb : gs[k]? = some b) (hl : b.length = a.length) (hv : faultV a b k 0 = none) : faultT (rs.drop k) (gs.drop k) k = faultT (rs.drop (k + 1)) (gs.drop (k + 1)) (k + 1) := by
  obtain ⟨h1, e1⟩ := List.getElem?_eq_some_iff.1 ha
  obtain ⟨h2, e2⟩ := List.getElem?_eq_some_iff.1 hb
  rw [List.drop_eq_getElem_cons h1, List.drop_eq_getElem_cons h2, faultT, e1, e2, if_pos hl, hv]
  rfl
theorem faultT_end (h1 : rs.length ≤ k) : faultT (rs.drop k) (gs.drop k) k = none := by
  rw [List.drop_eq_nil_of_le h1, faultT]
  intro _ _ _ _ h
  cases h
end
section
variable {n : Net} {ss : List Signal} {ov : Int} {gs rs : List Route} {tb : List (List Int)}
theorem checkF_bad (h : ¬ (signalsOk n ss = ⟨0, 0⟩ ∧ 0 ≤ ov ∧ ov ≤ 100000)) : checkF n ss ov gs tb = ⟨1, 0, 0⟩ := by unfold checkF; rw [if_neg h]
theorem checkF_route {x : Wrong} (h : signalsOk n ss = ⟨0, 0⟩ ∧ 0 ≤ ov ∧ ov ≤ 100000) (hr : routesF n ss ov = rs) (hx : faultR rs gs 0 = some x) : checkF n ss ov gs tb = x := by
  unfold checkF
  rw [if_pos h, hr, hx]
  rfl
theorem checkF_table (h : signalsOk n ss = ⟨0, 0⟩ ∧ 0 ≤ ov ∧ ov ≤ 100000) (hr : routesF n ss ov = rs) (hx : faultR rs gs 0 = none) : checkF n ss ov gs tb = tableW rs tb := by
  unfold checkF
  rw [if_pos h, hr, hx]
  rfl
theorem tableW_len (h : ¬ tb.length = rs.length) : tableW rs tb = ⟨7, tb.length, 0⟩ := by unfold tableW; rw [if_neg h]
theorem tableW_some {x : Wrong} (h : tb.length = rs.length) (hx : faultT (tabF rs) tb 0 = some x) : tableW rs tb = x := by
  unfold tableW
  rw [if_pos h, hx]
  rfl
theorem tableW_none (h : tb.length = rs.length) (hx : faultT (tabF rs) tb 0 = none) : tableW rs tb = ⟨0, 0, 0⟩ := by
  unfold tableW
  rw [if_pos h, hx]
  rfl
theorem tabF_few (h : rs.length ≤ 300) : tabF rs = rs.map (fun a => rs.map (excl a)) := by unfold tabF; rw [if_neg (by omega)]
theorem tabF_row {k : Nat} {a : Route} (h : rs.length ≤ 300) (ha : rs[k]? = some a) : (tabF rs)[k]? = some (rs.map (excl a)) := by
  rw [tabF_few h, List.getElem?_map, ha]
  rfl
theorem tabF_length (h : rs.length ≤ 300) : (tabF rs).length = rs.length := by rw [tabF_few h, List.length_map]
end
end Go.Proofs.YtpggopdojhodaaaGreat.L
namespace Go.Proofs.YtpggopdojhodaaaGreat.L
open Go.RowKit
open Classical
set_option linter.unusedVariables false
set_option linter.unusedSimpArgs false
set_option maxRecDepth 100000 in
set_option maxHeartbeats 16000000 in
theorem specCheck {ok ok' ok2 ok3 : Nat → Prop} (n : Net) (ss : List Signal) (ov : Int) (gs : List Route) (tb : List (List Int)) (A0 A1 A2 A3 A4 : Option Addr) (c0 c1 c2 c3 c4 : Nat) (w : World) (h : NC 136 w ok n A0 A1) (hs : signalK.C w ok' A2 ss) (hc : ss.length ≤ c2) (hg : rK.C w ok2 A3 gs) (ht : rowK.C w ok3 A4 tb) (hgn : Hid (∀ r ∈ gs, r.n ≤ 1048576)) (hgl : gs.length ≤ 1048576) (htl : tb.length ≤ 1048576) (htr : Hid (∀ r ∈ tb, r.length ≤ 1048576)) (hn : NetIn n) (hi : SigIn ss) :
    Calls Tryz.prog 26 #[.agg #[.slice A0 n.pieces.length c0, .slice A1 n.joints.length c1], .slice A2 ss.length c2, .int .i64 ov, .slice A3 gs.length c3, .slice A4 tb.length c4] w (RetV (checkF n ss ov gs tb).v w) := by
  obtain ⟨W0, hW0, hB0, HA, HX⟩ : ∃ W, W = (w.alloc (.cells #[.slice A0 n.pieces.length c0, .slice A1 n.joints.length c1] 34)).alloc (.cells #[.int .i64 0, .int .i64 0, .int .i64 0] 56) ∧ Below w.heap.size w W ∧ Hid (Blk W w.heap.size 34 [.slice A0 n.pieces.length c0, .slice A1 n.joints.length c1]) ∧ Hid (Blk W (w.heap.size + 1) 56 [.int .i64 0, .int .i64 0, .int .i64 0]) := by
    have h1 := below_alloc w (.cells #[.slice A0 n.pieces.length c0, .slice A1 n.joints.length c1] 34)
    exact ⟨_, rfl, h1.alloc h1.size _, Lib.hid ((Blk.new w 34 [.slice A0 n.pieces.length c0, .slice A1 n.joints.length c1] rfl).alloc _), Lib.hid (Blk.new _ _ _ (part_alloc1 _ _).symm)⟩
  have HN := Lib.hid (h.below hB0)
  have HS := Lib.hid (Kn.C_below hB0 hs)
  have HG := Lib.hid (Kn.C_below hB0 hg)
  have HTB := Lib.hid (Kn.C_below hB0 ht)
  clear h hs hg ht
  by_cases hk : signalsOk n ss = ⟨0, 0⟩
  rotate_left
  · have HB : Hid (eqv (signalsOk n ss) ⟨0, 0⟩ = false) := Lib.hid (eqv_false hk)
    have HF : Hid (checkF n ss ov gs tb = ⟨1, 0, 0⟩) := Lib.hid (checkF_bad (fun e => hk e.1))
    clear hk
    go_enter Tryz.func26, Tryz.ntmps26
    go_wp2_with fail
    rw [← hW0]
    refine (l1all n ss A0 A1 A2 c0 c1 c2 _ HN.out HS.out hn hi HB).mono ?_
    rintro e w1 ⟨rfl, hb1⟩
    have HX1 := Lib.hid (HX.out.below hb1 HX.out.lt)
    have BW : Hid (Below w.heap.size w w1) := Lib.hid (hB0.trans (hb1.mono hB0.size))
    have x0 := HX1.out.cell 0 rfl
    have x1 := HX1.out.cell 1 rfl
    have x2 := HX1.out.cell 2 rfl
    have xz : w.heap.size + 1 < w1.heap.size := HX1.out.lt
    have y0 := HX1.out.frozen 0
    have y1 := HX1.out.frozen 1
    have y2 := HX1.out.frozen 2
    have bz : w.heap.size ≤ w1.heap.size := (BW.out).size
    go_wp2
    exact bodyPost_ret (v := .agg #[.int .i64 1, .int .i64 0, .int .i64 0]) (by simp [results, Tryz.results26, go_sem, x0, x1, x2, xz]) rfl ⟨by rw [HF.out], by repeat' first | exact BW.out | (refine below_drewN ?_ _) | (refine Below.alloc ?_ ?_ _) | (refine Below.setCell ?_ ?_ _) | omega | (simp; done) | (simp; omega)⟩
  have HB : Hid (eqv (signalsOk n ss) ⟨0, 0⟩ = true) := Lib.hid (eqv_true hk)
  by_cases ho : 0 ≤ ov ∧ ov ≤ 100000
  rotate_left
  · have HF : Hid (checkF n ss ov gs tb = ⟨1, 0, 0⟩) := Lib.hid (checkF_bad (fun e => ho e.2))
    have HO : Hid (decide ((0 : Int) ≤ ov ∧ ov ≤ 100000) = false) := Lib.hid (decide_eq_false ho)
    clear hk ho
    go_enter Tryz.func26, Tryz.ntmps26
    go_wp2_with fail
    rw [← hW0]
    refine (l1all n ss A0 A1 A2 c0 c1 c2 _ HN.out HS.out hn hi HB).mono ?_
    rintro e w1 ⟨rfl, hb1⟩
    have HX1 := Lib.hid (HX.out.below hb1 HX.out.lt)
    have BW : Hid (Below w.heap.size w w1) := Lib.hid (hB0.trans (hb1.mono hB0.size))
    have x0 := HX1.out.cell 0 rfl
    have x1 := HX1.out.cell 1 rfl
    have x2 := HX1.out.cell 2 rfl
    have xz : w.heap.size + 1 < w1.heap.size := HX1.out.lt
    have y0 := HX1.out.frozen 0
    have y1 := HX1.out.frozen 1
    have y2 := HX1.out.frozen 2
    have bz : w.heap.size ≤ w1.heap.size := (BW.out).size
    go_wp2_with fail
    refine (l1in_q HO.out).mono ?_
    rintro e w2 ⟨rfl, hw2⟩
    have hw2 := hw2.symm
    subst hw2
    go_wp2
    exact bodyPost_ret (v := .agg #[.int .i64 1, .int .i64 0, .int .i64 0]) (by simp [results, Tryz.results26, go_sem, x0, x1, x2, xz]) rfl ⟨by rw [HF.out], by repeat' first | exact BW.out | (refine below_drewN ?_ _) | (refine Below.alloc ?_ ?_ _) | (refine Below.setCell ?_ ?_ _) | omega | (simp; done) | (simp; omega)⟩
  have HO : Hid (decide ((0 : Int) ≤ ov ∧ ov ≤ 100000) = true) := Lib.hid (decide_eq_true ho)
  have HASK : Hid (signalsOk n ss = ⟨0, 0⟩ ∧ 0 ≤ ov ∧ ov ≤ 100000) := Lib.hid ⟨hk, ho⟩
  obtain ⟨rs, hrs⟩ : ∃ rs, Hid (routesF n ss ov = rs) := ⟨_, Lib.hid rfl⟩
  have hrl : rs.length ≤ 300 := by rw [← hrs.out]; exact routesF_len _ _ _
  have HRN : Hid (∀ r ∈ rs, r.n ≤ 1048576) := Lib.hid (by rw [← hrs.out]; exact fun r hr => Nat.le_trans (rt_n r hr) (by omega))
  clear hk ho
  go_enter Tryz.func26, Tryz.ntmps26
  go_wp2_with fail
  rw [← hW0]
  clear hW0
  refine (l1all n ss A0 A1 A2 c0 c1 c2 _ HN.out HS.out hn hi HB).mono ?_
  rintro e w1 ⟨rfl, hb1⟩
  have BW : Hid (Below w.heap.size w w1) := Lib.hid (hB0.trans (hb1.mono hB0.size))
  have HA := Lib.hid (HA.out.below hb1 HA.out.lt)
  have HX := Lib.hid (HX.out.below hb1 HX.out.lt)
  have HN := Lib.hid (HN.out.below hb1)
  have HS := Lib.hid (Kn.C_below hb1 HS.out)
  have HG := Lib.hid (Kn.C_below hb1 HG.out)
  have HTB := Lib.hid (Kn.C_below hb1 HTB.out)
  have a0 := HA.out.cell 0 rfl
  have a1 := HA.out.cell 1 rfl
  have az : w.heap.size < w1.heap.size := HA.out.lt
  clear hb1 hB0
  go_wp2_with fail
  refine (l1in_q HO.out).mono ?_
  rintro e w2 ⟨rfl, hw2⟩
  have hw2 := hw2.symm
  subst hw2
  go_wp2_with fail
  refine (specRoutes n ss ov A0 A1 A2 c0 c1 c2 _ HN.out HS.out hn hi).mono ?_
  rw [hrs.out]
  intro e w2 hr
  obtain ⟨N0, n0, rfl, hn0, C0, hb2⟩ := RetRR.Ct hr
  have BW := Lib.hid (BW.out.trans (hb2.mono BW.out.size))
  have HX := Lib.hid (HX.out.below hb2 HX.out.lt)
  have HG := Lib.hid (Kn.C_below hb2 HG.out)
  have HTB := Lib.hid (Kn.C_below hb2 HTB.out)
  clear hr hb2 a0 a1 az HA HN HS
  obtain ⟨wb, hwb⟩ : ∃ W, W = w2 := ⟨_, rfl⟩
  subst hwb
  go_wp2
  go_loopw [34] (fun iv wr => ∃ k : Nat, k ≤ rs.length ∧ iv = .int .i64 k ∧ Hid (faultR rs gs 0 = faultR (rs.drop k) (gs.drop k) k) ∧ k ≤ gs.length ∧ Hid (Below wb.heap.size wb wr)) (fun iv _ => rs.length - (intOf iv).toNat)
  case atStart => exact ⟨0, Nat.zero_le _, rfl, Lib.hid rfl, Nat.zero_le _, Lib.hid (Below.refl _ _)⟩
  case round =>
  obtain ⟨k, hk, rfl, HT, hkg, HBr⟩ := hrel
  have HX1 := Lib.hid (HX.out.below HBr.out HX.out.lt)
  have BW1 := Lib.hid (BW.out.trans (HBr.out.mono BW.out.size))
  by_cases hlt : k < rs.length
  · have i0 : (0 : Int) ≤ (k : Int) := Int.natCast_nonneg _
    have i1 : (k : Int) < (rs.length : Int) := by omega
    by_cases hlg : gs.length ≤ k
    · have HF : Hid (checkF n ss ov gs tb = ⟨2, k, 0⟩) := Lib.hid (checkF_route HASK.out hrs.out (by rw [HT.out]; exact faultR_many hlt hlg))
      have d0 : decide (gs.length ≤ k) = true := decide_eq_true hlg
      have x0 := HX1.out.cell 0 rfl
      have x1 := HX1.out.cell 1 rfl
      have x2 := HX1.out.cell 2 rfl
      have xz : w.heap.size + 1 < wr.heap.size := HX1.out.lt
      have y0 := HX1.out.frozen 0
      have y1 := HX1.out.frozen 1
      have y2 := HX1.out.frozen 2
      have bz : w.heap.size ≤ wr.heap.size := (BW1.out).size
      go_wp2
      exact bodyPost_ret (v := .agg #[.int .i64 2, .int .i64 k, .int .i64 0]) (by simp [results, Tryz.results26, go_sem, x0, x1, x2, xz]) rfl ⟨by rw [HF.out], by repeat' first | exact BW1.out | (refine below_drewN ?_ _) | (refine Below.alloc ?_ ?_ _) | (refine Below.setCell ?_ ?_ _) | omega | (simp; done) | (simp; omega)⟩
    have hlg2 : k < gs.length := by omega
    have i2 : (k : Int) < (gs.length : Int) := by omega
    have d0 : decide (gs.length ≤ k) = false := decide_eq_false hlg
    obtain ⟨aa, rfl, a, Ea, D2, D3, D4, D5, D6, D7, d2, d3, d4, d5, d6, d7, p0, p1, p2, p3, p4, p5, p6, p7, HRa⟩ := rC_at (Kn.C_below HBr.out C0.out) k hlt
    obtain ⟨ba, rfl, b, Eb, E2, E3, E4, E5, E6, E7, e2, e3, e4, e5, e6, e7, q0, q1, q2, q3, q4, q5, q6, q7, HRb⟩ := rC_at (Kn.C_below HBr.out HG.out) k hlg2
    have HRa2 := Lib.hid HRa.out.drew
    have HRb2 := Lib.hid HRb.out.drew
    by_cases hab : a = b
    · have HSF : Hid (sameF b a = 0) := Lib.hid (sameF_zero.2 hab.symm)
      have t0 : (sameF b a == 0) = true := by rw [HSF.out]; rfl
      have t1 : (sameF b a != 0) = false := by rw [HSF.out]; rfl
      have HT2 : Hid (faultR rs gs 0 = faultR (rs.drop (k + 1)) (gs.drop (k + 1)) (k + 1)) := Lib.hid (HT.out.trans (faultR_step Ea.out (by rw [hab]; exact Eb.out)))
      clear hab
      go_wp2
      go_region_held3 (fun w' => w'.cell? (aa.add (k * 8)) = some (.int .i64 a.frm) ∧ w'.cell? ⟨(aa.add (k * 8)).block, (aa.add (k * 8)).off + 1, none⟩ = some (.int .i64 a.til) ∧ w'.cell? ⟨(aa.add (k * 8)).block, (aa.add (k * 8)).off + 2, none⟩ = some (.slice D2 a.steps.length d2) ∧ w'.cell? ⟨(aa.add (k * 8)).block, (aa.add (k * 8)).off + 3, none⟩ = some (.slice D3 a.lies.length d3) ∧ w'.cell? ⟨(aa.add (k * 8)).block, (aa.add (k * 8)).off + 4, none⟩ = some (.slice D4 a.crosses.length d4) ∧ w'.cell? ⟨(aa.add (k * 8)).block, (aa.add (k * 8)).off + 5, none⟩ = some (.slice D5 a.parts.length d5) ∧ w'.cell? ⟨(aa.add (k * 8)).block, (aa.add (k * 8)).off + 6, none⟩ = some (.slice D6 a.over.length d6) ∧ w'.cell? ⟨(aa.add (k * 8)).block, (aa.add (k * 8)).off + 7, none⟩ = some (.slice D7 a.flanks.length d7) ∧ w'.cell? (ba.add (k * 8)) = some (.int .i64 b.frm) ∧ w'.cell? ⟨(ba.add (k * 8)).block, (ba.add (k * 8)).off + 1, none⟩ = some (.int .i64 b.til) ∧ w'.cell? ⟨(ba.add (k * 8)).block, (ba.add (k * 8)).off + 2, none⟩ = some (.slice E2 b.steps.length e2) ∧ w'.cell? ⟨(ba.add (k * 8)).block, (ba.add (k * 8)).off + 3, none⟩ = some (.slice E3 b.lies.length e3) ∧ w'.cell? ⟨(ba.add (k * 8)).block, (ba.add (k * 8)).off + 4, none⟩ = some (.slice E4 b.crosses.length e4) ∧ w'.cell? ⟨(ba.add (k * 8)).block, (ba.add (k * 8)).off + 5, none⟩ = some (.slice E5 b.parts.length e5) ∧ w'.cell? ⟨(ba.add (k * 8)).block, (ba.add (k * 8)).off + 6, none⟩ = some (.slice E6 b.over.length e6) ∧ w'.cell? ⟨(ba.add (k * 8)).block, (ba.add (k * 8)).off + 7, none⟩ = some (.slice E7 b.flanks.length e7))
      (first | exact ⟨cell_below hb5 p0, cell_below hb5 p1, cell_below hb5 p2, cell_below hb5 p3, cell_below hb5 p4, cell_below hb5 p5, cell_below hb5 p6, cell_below hb5 p7, cell_below hb5 q0, cell_below hb5 q1, cell_below hb5 q2, cell_below hb5 q3, cell_below hb5 q4, cell_below hb5 q5, cell_below hb5 q6, cell_below hb5 q7⟩ | go_keep)
      (first | (go_at_call 65; (with_reducible refine (specSame b a E2 E3 E4 E5 E6 E7 e2 e3 e4 e5 e6 e7 D2 D3 D4 D5 D6 D7 d2 d3 d4 d5 d6 d7 _ HRb2.out HRa2.out).mono ?_); rintro e w5 ⟨rfl, hb5⟩))
      have HB5 : Hid (Below wb.heap.size wb w5) := Lib.hid (HBr.out.trans ((((Below.refl wr.heap.size wr).drew).trans hb5).mono HBr.out.size))
      clear hb5
      go_wp2
      go_roundw
      case rel => exact ⟨k + 1, by omega, by go_num, HT2, by omega, HB5⟩
      case measure => simp [intOf]; omega
    · have t0 : (sameF b a == 0) = false := int_eqf (fun e => hab (sameF_zero.1 e).symm)
      have t1 : (sameF b a != 0) = true := neq_t (fun e => hab (sameF_zero.1 e).symm)
      have t2 := sameF_range b a
      have HF : Hid (checkF n ss ov gs tb = ⟨2 + sameF b a, k, 0⟩) := Lib.hid (checkF_route HASK.out hrs.out (by
        rw [HT.out, faultR_ne Ea.out Eb.out hab]
        have : ¬ sameF a b = 0 := fun e => hab (sameF_zero.1 e)
        unfold partsF
        rw [if_neg this, sameF_comm a b, Int.add_comm]))
      clear hab
      go_wp2
      go_region_held3 (fun w' => w'.cell? (aa.add (k * 8)) = some (.int .i64 a.frm) ∧ w'.cell? ⟨(aa.add (k * 8)).block, (aa.add (k * 8)).off + 1, none⟩ = some (.int .i64 a.til) ∧ w'.cell? ⟨(aa.add (k * 8)).block, (aa.add (k * 8)).off + 2, none⟩ = some (.slice D2 a.steps.length d2) ∧ w'.cell? ⟨(aa.add (k * 8)).block, (aa.add (k * 8)).off + 3, none⟩ = some (.slice D3 a.lies.length d3) ∧ w'.cell? ⟨(aa.add (k * 8)).block, (aa.add (k * 8)).off + 4, none⟩ = some (.slice D4 a.crosses.length d4) ∧ w'.cell? ⟨(aa.add (k * 8)).block, (aa.add (k * 8)).off + 5, none⟩ = some (.slice D5 a.parts.length d5) ∧ w'.cell? ⟨(aa.add (k * 8)).block, (aa.add (k * 8)).off + 6, none⟩ = some (.slice D6 a.over.length d6) ∧ w'.cell? ⟨(aa.add (k * 8)).block, (aa.add (k * 8)).off + 7, none⟩ = some (.slice D7 a.flanks.length d7) ∧ w'.cell? (ba.add (k * 8)) = some (.int .i64 b.frm) ∧ w'.cell? ⟨(ba.add (k * 8)).block, (ba.add (k * 8)).off + 1, none⟩ = some (.int .i64 b.til) ∧ w'.cell? ⟨(ba.add (k * 8)).block, (ba.add (k * 8)).off + 2, none⟩ = some (.slice E2 b.steps.length e2) ∧ w'.cell? ⟨(ba.add (k * 8)).block, (ba.add (k * 8)).off + 3, none⟩ = some (.slice E3 b.lies.length e3) ∧ w'.cell? ⟨(ba.add (k * 8)).block, (ba.add (k * 8)).off + 4, none⟩ = some (.slice E4 b.crosses.length e4) ∧ w'.cell? ⟨(ba.add (k * 8)).block, (ba.add (k * 8)).off + 5, none⟩ = some (.slice E5 b.parts.length e5) ∧ w'.cell? ⟨(ba.add (k * 8)).block, (ba.add (k * 8)).off + 6, none⟩ = some (.slice E6 b.over.length e6) ∧ w'.cell? ⟨(ba.add (k * 8)).block, (ba.add (k * 8)).off + 7, none⟩ = some (.slice E7 b.flanks.length e7))
      (first | exact ⟨cell_below hb5 p0, cell_below hb5 p1, cell_below hb5 p2, cell_below hb5 p3, cell_below hb5 p4, cell_below hb5 p5, cell_below hb5 p6, cell_below hb5 p7, cell_below hb5 q0, cell_below hb5 q1, cell_below hb5 q2, cell_below hb5 q3, cell_below hb5 q4, cell_below hb5 q5, cell_below hb5 q6, cell_below hb5 q7⟩ | go_keep)
      (first | (go_at_call 65; (with_reducible refine (specSame b a E2 E3 E4 E5 E6 E7 e2 e3 e4 e5 e6 e7 D2 D3 D4 D5 D6 D7 d2 d3 d4 d5 d6 d7 _ HRb2.out HRa2.out).mono ?_); rintro e w5 ⟨rfl, hb5⟩))
      have HB5 : Hid (Below wb.heap.size wb w5) := Lib.hid (HBr.out.trans ((((Below.refl wr.heap.size wr).drew).trans hb5).mono HBr.out.size))
      have HX2 := Lib.hid (HX.out.below HB5.out HX.out.lt)
      have BW2 := Lib.hid (BW.out.trans (HB5.out.mono BW.out.size))
      clear hb5 HX1 BW1
      have x0 := HX2.out.cell 0 rfl
      have x1 := HX2.out.cell 1 rfl
      have x2 := HX2.out.cell 2 rfl
      have xz : w.heap.size + 1 < w5.heap.size := HX2.out.lt
      have y0 := HX2.out.frozen 0
      have y1 := HX2.out.frozen 1
      have y2 := HX2.out.frozen 2
      have bz : w.heap.size ≤ w5.heap.size := (BW2.out).size
      go_wp2
      exact bodyPost_ret (v := .agg #[.int .i64 (2 + sameF b a), .int .i64 k, .int .i64 0]) (by simp [results, Tryz.results26, go_sem, x0, x1, x2, xz]) rfl ⟨by rw [HF.out], by repeat' first | exact BW2.out | (refine below_drewN ?_ _) | (refine Below.alloc ?_ ?_ _) | (refine Below.setCell ?_ ?_ _) | omega | (simp; done) | (simp; omega)⟩
  obtain rfl : k = rs.length := by omega
  by_cases hlg : rs.length < gs.length
  · have HF : Hid (checkF n ss ov gs tb = ⟨2, rs.length, 0⟩) := Lib.hid (checkF_route HASK.out hrs.out (by rw [HT.out]; exact faultR_few (Nat.le_refl _) hlg))
    have d0 : decide (rs.length < gs.length) = true := decide_eq_true hlg
    have x0 := HX1.out.cell 0 rfl
    have x1 := HX1.out.cell 1 rfl
    have x2 := HX1.out.cell 2 rfl
    have xz : w.heap.size + 1 < wr.heap.size := HX1.out.lt
    have y0 := HX1.out.frozen 0
    have y1 := HX1.out.frozen 1
    have y2 := HX1.out.frozen 2
    have bz : w.heap.size ≤ wr.heap.size := (BW1.out).size
    go_wp2
    exact bodyPost_ret (v := .agg #[.int .i64 2, .int .i64 rs.length, .int .i64 0]) (by simp [results, Tryz.results26, go_sem, x0, x1, x2, xz]) rfl ⟨by rw [HF.out], by repeat' first | exact BW1.out | (refine below_drewN ?_ _) | (refine Below.alloc ?_ ?_ _) | (refine Below.setCell ?_ ?_ _) | omega | (simp; done) | (simp; omega)⟩
  have d0 : decide (rs.length < gs.length) = false := decide_eq_false hlg
  have HFR : Hid (faultR rs gs 0 = none) := Lib.hid (HT.out.trans (faultR_end (Nat.le_refl _) (by omega)))
  have HCT : Hid (checkF n ss ov gs tb = tableW rs tb) := Lib.hid (checkF_table HASK.out hrs.out HFR.out)
  clear HT HFR
  by_cases htb : tb.length = rs.length
  rotate_left
  · have HF : Hid (checkF n ss ov gs tb = ⟨7, tb.length, 0⟩) := Lib.hid (by rw [HCT.out, tableW_len htb])
    have d1 := len_ne htb
    clear htb
    have x0 := HX1.out.cell 0 rfl
    have x1 := HX1.out.cell 1 rfl
    have x2 := HX1.out.cell 2 rfl
    have xz : w.heap.size + 1 < wr.heap.size := HX1.out.lt
    have y0 := HX1.out.frozen 0
    have y1 := HX1.out.frozen 1
    have y2 := HX1.out.frozen 2
    have bz : w.heap.size ≤ wr.heap.size := (BW1.out).size
    go_wp2
    exact bodyPost_ret (v := .agg #[.int .i64 7, .int .i64 tb.length, .int .i64 0]) (by simp [results, Tryz.results26, go_sem, x0, x1, x2, xz]) rfl ⟨by rw [HF.out], by repeat' first | exact BW1.out | (refine below_drewN ?_ _) | (refine Below.alloc ?_ ?_ _) | (refine Below.setCell ?_ ?_ _) | omega | (simp; done) | (simp; omega)⟩
  have d1 := len_eq htb
  have HTL := Lib.hid htb
  clear htb hlg
  obtain ⟨w3, hw3⟩ : ∃ W, W = wr := ⟨_, rfl⟩
  subst hw3
  have HX3 := HX1
  have BW3 := BW1
  have C3 := Lib.hid (Kn.C_below HBr.out C0.out)
  have T3 := Lib.hid (Kn.C_below HBr.out HTB.out)
  clear HX1 BW1 HBr HX BW C0 HTB
  go_wp2
  clear d1
  go_loopw [77] (fun iv wr => ∃ k : Nat, k ≤ rs.length ∧ iv = .int .i64 k ∧ Hid (faultT (tabF rs) tb 0 = faultT ((tabF rs).drop k) (tb.drop k) k) ∧ Hid (Below w3.heap.size w3 wr)) (fun iv _ => rs.length - (intOf iv).toNat)
  case atStart => exact ⟨0, Nat.zero_le _, rfl, Lib.hid rfl, Lib.hid (Below.refl _ _)⟩
  case round =>
  obtain ⟨k, hk, rfl, HT, HBr⟩ := hrel
  have HX4 := Lib.hid (HX3.out.below HBr.out HX3.out.lt)
  have BW4 := Lib.hid (BW3.out.trans (HBr.out.mono BW3.out.size))
  by_cases hlt : k < rs.length
  rotate_left
  · obtain rfl : k = rs.length := by omega
    have HF : Hid (checkF n ss ov gs tb = ⟨0, 0, 0⟩) := Lib.hid (by
      rw [HCT.out]
      exact tableW_none HTL.out (by rw [HT.out]; exact faultT_end (by rw [tabF_length hrl]; exact Nat.le_refl _)))
    have x0 := HX4.out.cell 0 rfl
    have x1 := HX4.out.cell 1 rfl
    have x2 := HX4.out.cell 2 rfl
    have xz : w.heap.size + 1 < wr.heap.size := HX4.out.lt
    have y0 := HX4.out.frozen 0
    have y1 := HX4.out.frozen 1
    have y2 := HX4.out.frozen 2
    have bz : w.heap.size ≤ wr.heap.size := (BW4.out).size
    go_wp2
    exact bodyPost_ret (v := .agg #[.int .i64 0, .int .i64 0, .int .i64 0]) (by simp [results, Tryz.results26, go_sem, x0, x1, x2, xz]) rfl ⟨by rw [HF.out], by repeat' first | exact BW4.out | (refine below_drewN ?_ _) | (refine Below.alloc ?_ ?_ _) | (refine Below.setCell ?_ ?_ _) | omega | (simp; done) | (simp; omega)⟩
  have i0 : (0 : Int) ≤ (k : Int) := Int.natCast_nonneg _
  have i1 : (k : Int) < (rs.length : Int) := by omega
  have i2 : (k : Int) < (tb.length : Int) := by have := HTL.out; omega
  obtain ⟨aa, rfl, a, Ea, D2, D3, D4, D5, D6, D7, d2, d3, d4, d5, d6, d7, p0, p1, p2, p3, p4, p5, p6, p7, HRa⟩ := rC_at (Kn.C_below HBr.out C3.out) k hlt
  obtain ⟨ta, rfl, row, Erow, B, dB, g0, HROW⟩ := row_at (Kn.C_below HBr.out T3.out) k (HTL.out ▸ hlt)
  have HTR := Lib.hid (tabF_row hrl Ea.out)
  have hrow : row.length ≤ 1048576 := htr.out row (List.mem_of_getElem? Erow.out)
  obtain ⟨W5, hW5, HQ, HB5, hb5⟩ : ∃ W, W = wr.alloc (.cells #[.int .i64 a.frm, .int .i64 a.til, .slice D2 a.steps.length d2, .slice D3 a.lies.length d3, .slice D4 a.crosses.length d4, .slice D5 a.parts.length d5, .slice D6 a.over.length d6, .slice D7 a.flanks.length d7] 80) ∧ Hid (Blk W wr.heap.size 80 [.int .i64 a.frm, .int .i64 a.til, .slice D2 a.steps.length d2, .slice D3 a.lies.length d3, .slice D4 a.crosses.length d4, .slice D5 a.parts.length d5, .slice D6 a.over.length d6, .slice D7 a.flanks.length d7]) ∧ Hid (Below w3.heap.size w3 W) ∧ Hid (Below wr.heap.size wr W) := ⟨_, rfl, Lib.hid (Blk.new _ _ _ rfl), Lib.hid (HBr.out.alloc HBr.out.size _), Lib.hid (below_alloc _ _)⟩
  have g1 := cell_below hb5.out g0
  have HRA := Lib.hid (HRa.out.below hb5.out)
  have HROW5 := Lib.hid (Kn.C_below hb5.out HROW.out)
  have HX5 := Lib.hid (HX4.out.below hb5.out HX4.out.lt)
  have BW5 := Lib.hid (BW4.out.trans (hb5.out.mono BW4.out.size))
  by_cases hrl2 : row.length = rs.length
  rotate_left
  · have HF : Hid (checkF n ss ov gs tb = ⟨7, k, row.length⟩) := Lib.hid (by
      rw [HCT.out]
      exact tableW_some HTL.out (by rw [HT.out]; exact faultT_len HTR.out Erow.out (by rw [List.length_map]; exact hrl2)))
    have d1 := len_ne hrl2
    clear hrl2
    go_upto_region 20 with (fail)
    rw [← hW5]
    clear hW5
    have x0 := HX5.out.cell 0 rfl
    have x1 := HX5.out.cell 1 rfl
    have x2 := HX5.out.cell 2 rfl
    have xz : w.heap.size + 1 < W5.heap.size := HX5.out.lt
    have y0 := HX5.out.frozen 0
    have y1 := HX5.out.frozen 1
    have y2 := HX5.out.frozen 2
    have bz : w.heap.size ≤ W5.heap.size := (BW5.out).size
    go_wp2
    exact bodyPost_ret (v := .agg #[.int .i64 7, .int .i64 k, .int .i64 row.length]) (by simp [results, Tryz.results26, go_sem, x0, x1, x2, xz]) rfl ⟨by rw [HF.out], by repeat' first | exact BW5.out | (refine below_drewN ?_ _) | (refine Below.alloc ?_ ?_ _) | (refine Below.setCell ?_ ?_ _) | omega | (simp; done) | (simp; omega)⟩
  have d1 := len_eq hrl2
  have HRL := Lib.hid hrl2
  clear hrl2
  go_upto_region 20 with (fail)
  rw [← hW5]
  clear hW5 p0 p1 p2 p3 p4 p5 p6 p7 g0
  obtain ⟨rb, hrb⟩ : ∃ g, Hid (wr.heap.size = g) := ⟨_, Lib.hid rfl⟩
  rw [hrb.out] at HQ
  rw [hrb.out]
  go_wp2
  clear d1 g1
  obtain ⟨wo, rfl⟩ : ∃ W, W = wr := ⟨_, rfl⟩
  go_loopw [99] (fun iv wr => ∃ i : Nat, i ≤ rs.length ∧ iv = .int .i64 i ∧ Hid (faultV (rs.map (excl a)) row k 0 = faultV ((rs.map (excl a)).drop i) (row.drop i) k i) ∧ Hid (Below W5.heap.size W5 wr)) (fun iv _ => rs.length - (intOf iv).toNat)
  case atStart => exact ⟨0, Nat.zero_le _, rfl, Lib.hid rfl, Lib.hid (Below.refl _ _)⟩
  case round =>
    obtain ⟨i, hi', rfl, HV, HBi⟩ := hrel
    have HB6 : Hid (Below w3.heap.size w3 wr) := Lib.hid (HB5.out.trans (HBi.out.mono HB5.out.size))
    by_cases hit : i < rs.length
    rotate_left
    · obtain rfl : i = rs.length := by omega
      have HT2 : Hid (faultT (tabF rs) tb 0 = faultT ((tabF rs).drop (k + 1)) (tb.drop (k + 1)) (k + 1)) := Lib.hid (HT.out.trans (faultT_step HTR.out Erow.out (by rw [List.length_map]; exact HRL.out) (HV.out.trans (faultV_end (by rw [List.length_map]; exact Nat.le_refl _)))))
      go_wp2
      go_roundw
      case rel => exact ⟨k + 1, by omega, by go_num, HT2, HB6⟩
      case measure => simp [intOf]; omega
    have j0 : (0 : Int) ≤ (i : Int) := Int.natCast_nonneg _
    have j1 : (i : Int) < (rs.length : Int) := by omega
    have j2 : (i : Int) < (row.length : Int) := by have := HRL.out; omega
    obtain ⟨ba, hba, b, Eb, E2, E3, E4, E5, E6, E7, e2, e3, e4, e5, e6, e7, q0, q1, q2, q3, q4, q5, q6, q7, HRb⟩ := rC_at (Kn.C_below HB6.out C3.out) i hit
    obtain rfl := Option.some.inj hba
    obtain ⟨W7, hW7, HQ7, hb7⟩ : ∃ W, W = wr.alloc (.cells #[.int .i64 b.frm, .int .i64 b.til, .slice E2 b.steps.length e2, .slice E3 b.lies.length e3, .slice E4 b.crosses.length e4, .slice E5 b.parts.length e5, .slice E6 b.over.length e6, .slice E7 b.flanks.length e7] 80) ∧ Hid (Blk W wr.heap.size 80 [.int .i64 b.frm, .int .i64 b.til, .slice E2 b.steps.length e2, .slice E3 b.lies.length e3, .slice E4 b.crosses.length e4, .slice E5 b.parts.length e5, .slice E6 b.over.length e6, .slice E7 b.flanks.length e7]) ∧ Hid (Below wr.heap.size wr W) := ⟨_, rfl, Lib.hid (Blk.new _ _ _ rfl), Lib.hid (below_alloc _ _)⟩
    have HB7 : Hid (Below W5.heap.size W5 W7) := Lib.hid (HBi.out.trans (hb7.out.mono HBi.out.size))
    have HB8 : Hid (Below w3.heap.size w3 W7) := Lib.hid (HB6.out.trans (hb7.out.mono HB6.out.size))
    go_upto_region 25 with (fail)
    rw [← hW7]
    clear hW7 q0 q1 q2 q3 q4 q5 q6 q7
    have HQ8 := Lib.hid (HQ.out.below HB7.out HQ.out.lt)
    obtain ⟨qb, hqb⟩ : ∃ g, Hid (wr.heap.size = g) := ⟨_, Lib.hid rfl⟩
    rw [hqb.out] at HQ7
    rw [hqb.out]
    have zr : rb < W7.heap.size := HQ8.out.lt
    have zq : qb < W7.heap.size := HQ7.out.lt
    have s0 := HQ8.out.cell 0 rfl
    have q0 := HQ7.out.cell 0 rfl
    have s1 := HQ8.out.cell 1 rfl
    have q1 := HQ7.out.cell 1 rfl
    have s2 := HQ8.out.cell 2 rfl
    have q2 := HQ7.out.cell 2 rfl
    have s3 := HQ8.out.cell 3 rfl
    have q3 := HQ7.out.cell 3 rfl
    have s4 := HQ8.out.cell 4 rfl
    have q4 := HQ7.out.cell 4 rfl
    have s5 := HQ8.out.cell 5 rfl
    have q5 := HQ7.out.cell 5 rfl
    have s6 := HQ8.out.cell 6 rfl
    have q6 := HQ7.out.cell 6 rfl
    have s7 := HQ8.out.cell 7 rfl
    have q7 := HQ7.out.cell 7 rfl
    obtain ⟨ta2, htae, row2, Erow2, B2, dB2, g1, HROW7⟩ := row_at (Kn.C_below HB8.out T3.out) k (HTL.out ▸ hlt)
    obtain rfl := Option.some.inj htae
    obtain rfl := Option.some.inj (Erow.out.symm.trans Erow2.out)
    obtain ⟨va, rfl, x, Ex, g2⟩ := int_at HROW7.out i (by have := HRL.out; omega)
    have HRA7 := Lib.hid (HRA.out.below HB7.out).drew
    have HRB7 := Lib.hid (HRb.out.below hb7.out).drew
    have la := Lib.hid (HRN.out a (List.mem_of_getElem? Ea.out))
    have lb := Lib.hid (HRN.out b (List.mem_of_getElem? Eb.out))
    have HEV : Hid ((rs.map (excl a))[i]? = some (excl a b)) := Lib.hid (by rw [List.getElem?_map, Eb.out]; rfl)
    by_cases hx : x = excl a b
    · have t0 : (x == excl a b) = true := by rw [hx]; exact beq_self_eq_true _
      have t1 : (x != excl a b) = false := neq_f hx
      have HV2 : Hid (faultV (rs.map (excl a)) row k 0 = faultV ((rs.map (excl a)).drop (i + 1)) (row.drop (i + 1)) k (i + 1)) := Lib.hid (HV.out.trans (faultV_step HEV.out (by rw [← hx]; exact Ex.out)))
      clear hx
      go_region_held3 (fun w' => w'.cell? (ta.add k) = some (.slice (some va) row.length dB2) ∧ w'.cell? (va.add i) = some (.int .i64 x) ∧ w'.cell? ⟨rb, 0, none⟩ = some (.int .i64 a.frm) ∧ w'.cell? ⟨rb, 1, none⟩ = some (.int .i64 a.til) ∧ w'.cell? ⟨rb, 2, none⟩ = some (.slice D2 a.steps.length d2) ∧ w'.cell? ⟨rb, 3, none⟩ = some (.slice D3 a.lies.length d3) ∧ w'.cell? ⟨rb, 4, none⟩ = some (.slice D4 a.crosses.length d4) ∧ w'.cell? ⟨rb, 5, none⟩ = some (.slice D5 a.parts.length d5) ∧ w'.cell? ⟨rb, 6, none⟩ = some (.slice D6 a.over.length d6) ∧ w'.cell? ⟨rb, 7, none⟩ = some (.slice D7 a.flanks.length d7) ∧ w'.cell? ⟨qb, 0, none⟩ = some (.int .i64 b.frm) ∧ w'.cell? ⟨qb, 1, none⟩ = some (.int .i64 b.til) ∧ w'.cell? ⟨qb, 2, none⟩ = some (.slice E2 b.steps.length e2) ∧ w'.cell? ⟨qb, 3, none⟩ = some (.slice E3 b.lies.length e3) ∧ w'.cell? ⟨qb, 4, none⟩ = some (.slice E4 b.crosses.length e4) ∧ w'.cell? ⟨qb, 5, none⟩ = some (.slice E5 b.parts.length e5) ∧ w'.cell? ⟨qb, 6, none⟩ = some (.slice E6 b.over.length e6) ∧ w'.cell? ⟨qb, 7, none⟩ = some (.slice E7 b.flanks.length e7))
        (first | exact ⟨cell_below hb9 g1, cell_below hb9 g2, cell_below hb9 s0, cell_below hb9 s1, cell_below hb9 s2, cell_below hb9 s3, cell_below hb9 s4, cell_below hb9 s5, cell_below hb9 s6, cell_below hb9 s7, cell_below hb9 q0, cell_below hb9 q1, cell_below hb9 q2, cell_below hb9 q3, cell_below hb9 q4, cell_below hb9 q5, cell_below hb9 q6, cell_below hb9 q7⟩ | go_keep)
        (first | (go_at_call 66; (with_reducible refine (specExcludeC a b D2 D3 D4 D5 D6 D7 d2 d3 d4 d5 d6 d7 E2 E3 E4 E5 E6 E7 e2 e3 e4 e5 e6 e7 _ HRA7.out HRB7.out la.out lb.out).mono ?_); rintro e w9 ⟨rfl, hb9⟩))
      have HB9 : Hid (Below W5.heap.size W5 w9) := Lib.hid (HB7.out.trans ((((Below.refl W7.heap.size W7).drew).trans hb9).mono HB7.out.size))
      clear hb9
      go_wp2
      go_roundw
      case rel => exact ⟨i + 1, by omega, by go_num, HV2, HB9⟩
      case measure => simp [intOf]; omega
    · have t0 : (x == excl a b) = false := int_eqf hx
      have t1 : (x != excl a b) = true := neq_t hx
      have HF : Hid (checkF n ss ov gs tb = ⟨7, k, i⟩) := Lib.hid (by
        rw [HCT.out]
        exact tableW_some HTL.out (by
          rw [HT.out]
          exact faultT_ne HTR.out Erow.out (by rw [List.length_map]; exact HRL.out) (HV.out.trans (faultV_ne HEV.out Ex.out (fun e => hx e.symm)))))
      clear hx
      go_region_held3 (fun w' => w'.cell? (ta.add k) = some (.slice (some va) row.length dB2) ∧ w'.cell? (va.add i) = some (.int .i64 x) ∧ w'.cell? ⟨rb, 0, none⟩ = some (.int .i64 a.frm) ∧ w'.cell? ⟨rb, 1, none⟩ = some (.int .i64 a.til) ∧ w'.cell? ⟨rb, 2, none⟩ = some (.slice D2 a.steps.length d2) ∧ w'.cell? ⟨rb, 3, none⟩ = some (.slice D3 a.lies.length d3) ∧ w'.cell? ⟨rb, 4, none⟩ = some (.slice D4 a.crosses.length d4) ∧ w'.cell? ⟨rb, 5, none⟩ = some (.slice D5 a.parts.length d5) ∧ w'.cell? ⟨rb, 6, none⟩ = some (.slice D6 a.over.length d6) ∧ w'.cell? ⟨rb, 7, none⟩ = some (.slice D7 a.flanks.length d7) ∧ w'.cell? ⟨qb, 0, none⟩ = some (.int .i64 b.frm) ∧ w'.cell? ⟨qb, 1, none⟩ = some (.int .i64 b.til) ∧ w'.cell? ⟨qb, 2, none⟩ = some (.slice E2 b.steps.length e2) ∧ w'.cell? ⟨qb, 3, none⟩ = some (.slice E3 b.lies.length e3) ∧ w'.cell? ⟨qb, 4, none⟩ = some (.slice E4 b.crosses.length e4) ∧ w'.cell? ⟨qb, 5, none⟩ = some (.slice E5 b.parts.length e5) ∧ w'.cell? ⟨qb, 6, none⟩ = some (.slice E6 b.over.length e6) ∧ w'.cell? ⟨qb, 7, none⟩ = some (.slice E7 b.flanks.length e7))
        (first | exact ⟨cell_below hb9 g1, cell_below hb9 g2, cell_below hb9 s0, cell_below hb9 s1, cell_below hb9 s2, cell_below hb9 s3, cell_below hb9 s4, cell_below hb9 s5, cell_below hb9 s6, cell_below hb9 s7, cell_below hb9 q0, cell_below hb9 q1, cell_below hb9 q2, cell_below hb9 q3, cell_below hb9 q4, cell_below hb9 q5, cell_below hb9 q6, cell_below hb9 q7⟩ | go_keep)
        (first | (go_at_call 66; (with_reducible refine (specExcludeC a b D2 D3 D4 D5 D6 D7 d2 d3 d4 d5 d6 d7 E2 E3 E4 E5 E6 E7 e2 e3 e4 e5 e6 e7 _ HRA7.out HRB7.out la.out lb.out).mono ?_); rintro e w9 ⟨rfl, hb9⟩))
      have HB9 : Hid (Below W5.heap.size W5 w9) := Lib.hid (HB7.out.trans ((((Below.refl W7.heap.size W7).drew).trans hb9).mono HB7.out.size))
      have HX9 := Lib.hid (HX5.out.below HB9.out HX5.out.lt)
      have BW9 := Lib.hid (BW5.out.trans (HB9.out.mono BW5.out.size))
      clear hb9 s0 s1 s2 s3 s4 s5 s6 s7 q0 q1 q2 q3 q4 q5 q6 q7 g1 g2
      have x0 := HX9.out.cell 0 rfl
      have x1 := HX9.out.cell 1 rfl
      have x2 := HX9.out.cell 2 rfl
      have xz : w.heap.size + 1 < w9.heap.size := HX9.out.lt
      have y0 := HX9.out.frozen 0
      have y1 := HX9.out.frozen 1
      have y2 := HX9.out.frozen 2
      have bz : w.heap.size ≤ w9.heap.size := (BW9.out).size
      go_wp2
      exact bodyPost_ret (v := .agg #[.int .i64 7, .int .i64 k, .int .i64 i]) (by simp [results, Tryz.results26, go_sem, x0, x1, x2, xz]) rfl ⟨by rw [HF.out], by repeat' first | exact BW9.out | (refine below_drewN ?_ _) | (refine Below.alloc ?_ ?_ _) | (refine Below.setCell ?_ ?_ _) | omega | (simp; done) | (simp; omega)⟩
set_option maxRecDepth 100000 in
set_option maxHeartbeats 16000000 in
theorem implCheck {ok ok' ok2 ok3 : Nat → Prop} (n : Net) (ss : List Signal) (ov : Int) (gs : List Route) (tb : List (List Int)) (A0 A1 A2 A3 A4 : Option Addr) (c0 c1 c2 c3 c4 : Nat) (w : World) (h : NC 136 w ok n A0 A1) (hs : signalK.C w ok' A2 ss) (hc : ss.length ≤ c2) (hg : rK.C w ok2 A3 gs) (ht : rowK.C w ok3 A4 tb) (hgn : Hid (∀ r ∈ gs, r.n ≤ 1048576)) (hgl : gs.length ≤ 1048576) (htl : tb.length ≤ 1048576) (htr : Hid (∀ r ∈ tb, r.length ≤ 1048576)) (hn : NetIn n) (hi : SigIn ss) :
    Calls Tryz.prog 28 #[.agg #[.slice A0 n.pieces.length c0, .slice A1 n.joints.length c1], .slice A2 ss.length c2, .int .i64 ov, .slice A3 gs.length c3, .slice A4 tb.length c4] w (RetV (checkF n ss ov gs tb).v w) := by
  obtain ⟨W0, hW0, hB0, HA, HX⟩ : ∃ W, W = (w.alloc (.cells #[.slice A0 n.pieces.length c0, .slice A1 n.joints.length c1] 34)).alloc (.cells #[.int .i64 0, .int .i64 0, .int .i64 0] 56) ∧ Below w.heap.size w W ∧ Hid (Blk W w.heap.size 34 [.slice A0 n.pieces.length c0, .slice A1 n.joints.length c1]) ∧ Hid (Blk W (w.heap.size + 1) 56 [.int .i64 0, .int .i64 0, .int .i64 0]) := by
    have h1 := below_alloc w (.cells #[.slice A0 n.pieces.length c0, .slice A1 n.joints.length c1] 34)
    exact ⟨_, rfl, h1.alloc h1.size _, Lib.hid ((Blk.new w 34 [.slice A0 n.pieces.length c0, .slice A1 n.joints.length c1] rfl).alloc _), Lib.hid (Blk.new _ _ _ (part_alloc1 _ _).symm)⟩
  have HN := Lib.hid (h.below hB0)
  have HS := Lib.hid (Kn.C_below hB0 hs)
  have HG := Lib.hid (Kn.C_below hB0 hg)
  have HTB := Lib.hid (Kn.C_below hB0 ht)
  clear h hs hg ht
  by_cases hk : signalsOk n ss = ⟨0, 0⟩ ∧ 0 ≤ ov ∧ ov ≤ 100000
  rotate_left
  · have HB : Hid (askOk n ss ov = false) := Lib.hid (pv_false hk)
    have HF : Hid (checkF n ss ov gs tb = ⟨1, 0, 0⟩) := Lib.hid (checkF_bad hk)
    clear hk
    go_enter Tryz.func28, Tryz.ntmps28
    go_wp2_with fail
    rw [← hW0]
    refine (implRoutes0 n ss ov A0 A1 A2 c0 c1 c2 _ HN.out HS.out hc hn hi).mono ?_
    rw [HB.out]
    rintro e w1 ⟨N0, n0, rfl, hn0, HR, HOO, hb1⟩
    have HX1 := Lib.hid (HX.out.below hb1 HX.out.lt)
    have BW : Hid (Below w.heap.size w w1) := Lib.hid (hB0.trans (hb1.mono hB0.size))
    have x0 := HX1.out.cell 0 rfl
    have x1 := HX1.out.cell 1 rfl
    have x2 := HX1.out.cell 2 rfl
    have xz : w.heap.size + 1 < w1.heap.size := HX1.out.lt
    have y0 := HX1.out.frozen 0
    have y1 := HX1.out.frozen 1
    have y2 := HX1.out.frozen 2
    have bz : w.heap.size ≤ w1.heap.size := (BW.out).size
    go_wp2
    exact bodyPost_ret (v := .agg #[.int .i64 1, .int .i64 0, .int .i64 0]) (by simp [results, Tryz.results28, go_sem, x0, x1, x2, xz]) rfl ⟨by rw [HF.out], by repeat' first | exact BW.out | (refine below_drewN ?_ _) | (refine Below.alloc ?_ ?_ _) | (refine Below.setCell ?_ ?_ _) | omega | (simp; done) | (simp; omega)⟩
  have HB : Hid (askOk n ss ov = true) := Lib.hid (pv_true hk)
  have HASK : Hid (signalsOk n ss = ⟨0, 0⟩ ∧ 0 ≤ ov ∧ ov ≤ 100000) := Lib.hid hk
  obtain ⟨rs, hrs⟩ : ∃ rs, Hid (routesF n ss ov = rs) := ⟨_, Lib.hid rfl⟩
  have hrl : rs.length ≤ 300 := by rw [← hrs.out]; exact routesF_len _ _ _
  have HRN : Hid (∀ r ∈ rs, r.n ≤ 1048576) := Lib.hid (by rw [← hrs.out]; exact fun r hr => Nat.le_trans (rt_n r hr) (by omega))
  clear hk
  go_enter Tryz.func28, Tryz.ntmps28
  go_wp2_with fail
  rw [← hW0]
  clear hW0
  refine (implRoutes0 n ss ov A0 A1 A2 c0 c1 c2 _ HN.out HS.out hc hn hi).mono ?_
  rw [HB.out, hrs.out]
  rintro e w2 ⟨N0, n0, rfl, hn0, HR, HOO, hb2⟩
  have C0 : Hid (rK.C w2 (fun _ => True) N0 rs) := Lib.hid (Kn.C_mono (fun _ _ => trivial) (Rw_slice HR.out).2.2)
  have BW : Hid (Below w.heap.size w w2) := Lib.hid (hB0.trans (hb2.mono hB0.size))
  have HX := Lib.hid (HX.out.below hb2 HX.out.lt)
  have HG := Lib.hid (Kn.C_below hb2 HG.out)
  have HTB := Lib.hid (Kn.C_below hb2 HTB.out)
  clear hb2 HR HOO HA HN HS hB0
  obtain ⟨wb, hwb⟩ : ∃ W, W = w2 := ⟨_, rfl⟩
  subst hwb
  obtain ⟨mx, hmx, hmx1, hmx2⟩ : ∃ m : Nat, Hid (m = rs.length ∨ m = gs.length) ∧ rs.length ≤ m ∧ gs.length ≤ m := by
    by_cases h : rs.length ≤ gs.length
    · exact ⟨_, Lib.hid (.inr rfl), h, Nat.le_refl _⟩
    · exact ⟨_, Lib.hid (.inl rfl), Nat.le_refl _, by omega⟩
  go_upto_region 4 with (fail)
  go_cut [33, 34] (fun v u wc => v = .int .i64 mx ∧ u = .int .i64 0 ∧ Hid (Below wb.heap.size wb wc))
  case first =>
    by_cases h1 : rs.length < gs.length
    · have hm : Hid (mx = gs.length) := Lib.hid (by rcases hmx.out with h | h <;> omega)
      have k0 : decide (rs.length < gs.length) = true := decide_eq_true h1
      have k1 : decide (gs.length < rs.length) = false := decide_eq_false (by omega)
      have k2 : decide ((rs.length : Int) < (gs.length : Int)) = true := decide_eq_true (by omega)
      have k3 : decide ((gs.length : Int) < (rs.length : Int)) = false := decide_eq_false (by omega)
      go_wp2
      go_meet
      case rel => exact ⟨by rw [hm.out], rfl, Lib.hid (Below.refl _ _)⟩
    · by_cases h2 : gs.length < rs.length
      · have hm : Hid (mx = rs.length) := Lib.hid (by rcases hmx.out with h | h <;> omega)
        have k0 : decide (rs.length < gs.length) = false := decide_eq_false h1
        have k1 : decide (gs.length < rs.length) = true := decide_eq_true h2
        have k2 : decide ((rs.length : Int) < (gs.length : Int)) = false := decide_eq_false (by omega)
        have k3 : decide ((gs.length : Int) < (rs.length : Int)) = true := decide_eq_true (by omega)
        go_wp2
        go_meet
        case rel => exact ⟨by rw [hm.out], rfl, Lib.hid (Below.refl _ _)⟩
      · have he : rs.length = gs.length := by omega
        have hm : Hid (mx = rs.length ∧ mx = gs.length) := Lib.hid (by rcases hmx.out with h | h <;> omega)
        clear he
        have k0 : decide (rs.length < gs.length) = false := decide_eq_false h1
        have k1 : decide (gs.length < rs.length) = false := decide_eq_false h2
        have k2 : decide ((rs.length : Int) < (gs.length : Int)) = false := decide_eq_false (by omega)
        have k3 : decide ((gs.length : Int) < (rs.length : Int)) = false := decide_eq_false (by omega)
        go_wp2
        go_meet
        case rel => exact ⟨by first | rw [hm.out.1] | (rw [← hm.out.1, hm.out.2]), rfl, Lib.hid (Below.refl _ _)⟩
  obtain ⟨rfl, rfl, HBC⟩ := hcut
  go_wp2
  go_loopw [34] (fun iv wr => ∃ k : Nat, k ≤ mx ∧ iv = .int .i64 k ∧ Hid (faultR rs gs 0 = faultR (rs.drop k) (gs.drop k) k) ∧ Hid (Below wb.heap.size wb wr)) (fun iv _ => mx - (intOf iv).toNat)
  case atStart => exact ⟨0, Nat.zero_le _, rfl, Lib.hid rfl, HBC⟩
  case round =>
  obtain ⟨k, hk, rfl, HT, HBr⟩ := hrel
  have HX1 := Lib.hid (HX.out.below HBr.out HX.out.lt)
  have BW1 := Lib.hid (BW.out.trans (HBr.out.mono BW.out.size))
  by_cases hlt : k < mx
  · have i0 : (0 : Int) ≤ (k : Int) := Int.natCast_nonneg _
    have im : (k : Int) < (mx : Int) := by omega
    by_cases hlr : rs.length ≤ k
    · have hlg2 : k < gs.length := by rcases hmx.out with h | h <;> omega
      have HF : Hid (checkF n ss ov gs tb = ⟨2, k, 0⟩) := Lib.hid (checkF_route HASK.out hrs.out (by rw [HT.out]; exact faultR_few hlr hlg2))
      have d0 : decide (rs.length ≤ k) = true := decide_eq_true hlr
      have x0 := HX1.out.cell 0 rfl
      have x1 := HX1.out.cell 1 rfl
      have x2 := HX1.out.cell 2 rfl
      have xz : w.heap.size + 1 < wr.heap.size := HX1.out.lt
      have y0 := HX1.out.frozen 0
      have y1 := HX1.out.frozen 1
      have y2 := HX1.out.frozen 2
      have bz : w.heap.size ≤ wr.heap.size := (BW1.out).size
      go_wp2
      exact bodyPost_ret (v := .agg #[.int .i64 2, .int .i64 k, .int .i64 0]) (by simp [results, Tryz.results28, go_sem, x0, x1, x2, xz]) rfl ⟨by rw [HF.out], by repeat' first | exact BW1.out | (refine below_drewN ?_ _) | (refine Below.alloc ?_ ?_ _) | (refine Below.setCell ?_ ?_ _) | omega | (simp; done) | (simp; omega)⟩
    have hlt2 : k < rs.length := by omega
    have i1 : (k : Int) < (rs.length : Int) := by omega
    have d0 : decide (rs.length ≤ k) = false := decide_eq_false hlr
    by_cases hlg : gs.length ≤ k
    · have HF : Hid (checkF n ss ov gs tb = ⟨2, k, 0⟩) := Lib.hid (checkF_route HASK.out hrs.out (by rw [HT.out]; exact faultR_many hlt2 hlg))
      have d1 : decide (gs.length ≤ k) = true := decide_eq_true hlg
      have x0 := HX1.out.cell 0 rfl
      have x1 := HX1.out.cell 1 rfl
      have x2 := HX1.out.cell 2 rfl
      have xz : w.heap.size + 1 < wr.heap.size := HX1.out.lt
      have y0 := HX1.out.frozen 0
      have y1 := HX1.out.frozen 1
      have y2 := HX1.out.frozen 2
      have bz : w.heap.size ≤ wr.heap.size := (BW1.out).size
      go_wp2
      exact bodyPost_ret (v := .agg #[.int .i64 2, .int .i64 k, .int .i64 0]) (by simp [results, Tryz.results28, go_sem, x0, x1, x2, xz]) rfl ⟨by rw [HF.out], by repeat' first | exact BW1.out | (refine below_drewN ?_ _) | (refine Below.alloc ?_ ?_ _) | (refine Below.setCell ?_ ?_ _) | omega | (simp; done) | (simp; omega)⟩
    have hlg2 : k < gs.length := by omega
    have i2 : (k : Int) < (gs.length : Int) := by omega
    have d1 : decide (gs.length ≤ k) = false := decide_eq_false hlg
    obtain ⟨aa, rfl, a, Ea, D2, D3, D4, D5, D6, D7, d2, d3, d4, d5, d6, d7, p0, p1, p2, p3, p4, p5, p6, p7, HRa⟩ := rC_at (Kn.C_below HBr.out C0.out) k hlt2
    obtain ⟨ba, rfl, b, Eb, E2, E3, E4, E5, E6, E7, e2, e3, e4, e5, e6, e7, q0, q1, q2, q3, q4, q5, q6, q7, HRb⟩ := rC_at (Kn.C_below HBr.out HG.out) k hlg2
    have HRa2 := Lib.hid HRa.out.drew
    have HRb2 := Lib.hid HRb.out.drew
    by_cases hab : a = b
    · have HSF : Hid (partsF a b = 0) := Lib.hid (partsF_zero.2 hab)
      have t0 : (partsF a b == 0) = true := by rw [HSF.out]; rfl
      have t1 : (partsF a b != 0) = false := by rw [HSF.out]; rfl
      have HT2 : Hid (faultR rs gs 0 = faultR (rs.drop (k + 1)) (gs.drop (k + 1)) (k + 1)) := Lib.hid (HT.out.trans (faultR_step Ea.out (by rw [hab]; exact Eb.out)))
      clear hab
      go_wp2
      go_region_held3 (fun w' => w'.cell? (aa.add (k * 8)) = some (.int .i64 a.frm) ∧ w'.cell? ⟨(aa.add (k * 8)).block, (aa.add (k * 8)).off + 1, none⟩ = some (.int .i64 a.til) ∧ w'.cell? ⟨(aa.add (k * 8)).block, (aa.add (k * 8)).off + 2, none⟩ = some (.slice D2 a.steps.length d2) ∧ w'.cell? ⟨(aa.add (k * 8)).block, (aa.add (k * 8)).off + 3, none⟩ = some (.slice D3 a.lies.length d3) ∧ w'.cell? ⟨(aa.add (k * 8)).block, (aa.add (k * 8)).off + 4, none⟩ = some (.slice D4 a.crosses.length d4) ∧ w'.cell? ⟨(aa.add (k * 8)).block, (aa.add (k * 8)).off + 5, none⟩ = some (.slice D5 a.parts.length d5) ∧ w'.cell? ⟨(aa.add (k * 8)).block, (aa.add (k * 8)).off + 6, none⟩ = some (.slice D6 a.over.length d6) ∧ w'.cell? ⟨(aa.add (k * 8)).block, (aa.add (k * 8)).off + 7, none⟩ = some (.slice D7 a.flanks.length d7) ∧ w'.cell? (ba.add (k * 8)) = some (.int .i64 b.frm) ∧ w'.cell? ⟨(ba.add (k * 8)).block, (ba.add (k * 8)).off + 1, none⟩ = some (.int .i64 b.til) ∧ w'.cell? ⟨(ba.add (k * 8)).block, (ba.add (k * 8)).off + 2, none⟩ = some (.slice E2 b.steps.length e2) ∧ w'.cell? ⟨(ba.add (k * 8)).block, (ba.add (k * 8)).off + 3, none⟩ = some (.slice E3 b.lies.length e3) ∧ w'.cell? ⟨(ba.add (k * 8)).block, (ba.add (k * 8)).off + 4, none⟩ = some (.slice E4 b.crosses.length e4) ∧ w'.cell? ⟨(ba.add (k * 8)).block, (ba.add (k * 8)).off + 5, none⟩ = some (.slice E5 b.parts.length e5) ∧ w'.cell? ⟨(ba.add (k * 8)).block, (ba.add (k * 8)).off + 6, none⟩ = some (.slice E6 b.over.length e6) ∧ w'.cell? ⟨(ba.add (k * 8)).block, (ba.add (k * 8)).off + 7, none⟩ = some (.slice E7 b.flanks.length e7))
      (first | exact ⟨cell_below hb5 p0, cell_below hb5 p1, cell_below hb5 p2, cell_below hb5 p3, cell_below hb5 p4, cell_below hb5 p5, cell_below hb5 p6, cell_below hb5 p7, cell_below hb5 q0, cell_below hb5 q1, cell_below hb5 q2, cell_below hb5 q3, cell_below hb5 q4, cell_below hb5 q5, cell_below hb5 q6, cell_below hb5 q7⟩ | go_keep)
      (first | (go_at_call 67; (with_reducible refine (implParts a b D2 D3 D4 D5 D6 D7 d2 d3 d4 d5 d6 d7 E2 E3 E4 E5 E6 E7 e2 e3 e4 e5 e6 e7 _ HRa2.out HRb2.out).mono ?_); rintro e w5 ⟨rfl, hb5⟩))
      have HB5 : Hid (Below wb.heap.size wb w5) := Lib.hid (HBr.out.trans ((((Below.refl wr.heap.size wr).drew).trans hb5).mono HBr.out.size))
      clear hb5
      go_wp2
      go_roundw
      case rel => exact ⟨k + 1, by omega, by go_num, HT2, HB5⟩
      case measure => simp [intOf]; omega
    · have t0 : (partsF a b == 0) = false := int_eqf (fun e => hab (partsF_zero.1 e))
      have t1 : (partsF a b != 0) = true := neq_t (fun e => hab (partsF_zero.1 e))
      have HF : Hid (checkF n ss ov gs tb = ⟨partsF a b, k, 0⟩) := Lib.hid (checkF_route HASK.out hrs.out (by rw [HT.out, faultR_ne Ea.out Eb.out hab]))
      clear hab
      go_wp2
      go_region_held3 (fun w' => w'.cell? (aa.add (k * 8)) = some (.int .i64 a.frm) ∧ w'.cell? ⟨(aa.add (k * 8)).block, (aa.add (k * 8)).off + 1, none⟩ = some (.int .i64 a.til) ∧ w'.cell? ⟨(aa.add (k * 8)).block, (aa.add (k * 8)).off + 2, none⟩ = some (.slice D2 a.steps.length d2) ∧ w'.cell? ⟨(aa.add (k * 8)).block, (aa.add (k * 8)).off + 3, none⟩ = some (.slice D3 a.lies.length d3) ∧ w'.cell? ⟨(aa.add (k * 8)).block, (aa.add (k * 8)).off + 4, none⟩ = some (.slice D4 a.crosses.length d4) ∧ w'.cell? ⟨(aa.add (k * 8)).block, (aa.add (k * 8)).off + 5, none⟩ = some (.slice D5 a.parts.length d5) ∧ w'.cell? ⟨(aa.add (k * 8)).block, (aa.add (k * 8)).off + 6, none⟩ = some (.slice D6 a.over.length d6) ∧ w'.cell? ⟨(aa.add (k * 8)).block, (aa.add (k * 8)).off + 7, none⟩ = some (.slice D7 a.flanks.length d7) ∧ w'.cell? (ba.add (k * 8)) = some (.int .i64 b.frm) ∧ w'.cell? ⟨(ba.add (k * 8)).block, (ba.add (k * 8)).off + 1, none⟩ = some (.int .i64 b.til) ∧ w'.cell? ⟨(ba.add (k * 8)).block, (ba.add (k * 8)).off + 2, none⟩ = some (.slice E2 b.steps.length e2) ∧ w'.cell? ⟨(ba.add (k * 8)).block, (ba.add (k * 8)).off + 3, none⟩ = some (.slice E3 b.lies.length e3) ∧ w'.cell? ⟨(ba.add (k * 8)).block, (ba.add (k * 8)).off + 4, none⟩ = some (.slice E4 b.crosses.length e4) ∧ w'.cell? ⟨(ba.add (k * 8)).block, (ba.add (k * 8)).off + 5, none⟩ = some (.slice E5 b.parts.length e5) ∧ w'.cell? ⟨(ba.add (k * 8)).block, (ba.add (k * 8)).off + 6, none⟩ = some (.slice E6 b.over.length e6) ∧ w'.cell? ⟨(ba.add (k * 8)).block, (ba.add (k * 8)).off + 7, none⟩ = some (.slice E7 b.flanks.length e7))
      (first | exact ⟨cell_below hb5 p0, cell_below hb5 p1, cell_below hb5 p2, cell_below hb5 p3, cell_below hb5 p4, cell_below hb5 p5, cell_below hb5 p6, cell_below hb5 p7, cell_below hb5 q0, cell_below hb5 q1, cell_below hb5 q2, cell_below hb5 q3, cell_below hb5 q4, cell_below hb5 q5, cell_below hb5 q6, cell_below hb5 q7⟩ | go_keep)
      (first | (go_at_call 67; (with_reducible refine (implParts a b D2 D3 D4 D5 D6 D7 d2 d3 d4 d5 d6 d7 E2 E3 E4 E5 E6 E7 e2 e3 e4 e5 e6 e7 _ HRa2.out HRb2.out).mono ?_); rintro e w5 ⟨rfl, hb5⟩))
      have HB5 : Hid (Below wb.heap.size wb w5) := Lib.hid (HBr.out.trans ((((Below.refl wr.heap.size wr).drew).trans hb5).mono HBr.out.size))
      have HX2 := Lib.hid (HX.out.below HB5.out HX.out.lt)
      have BW2 := Lib.hid (BW.out.trans (HB5.out.mono BW.out.size))
      clear hb5 HX1 BW1
      have x0 := HX2.out.cell 0 rfl
      have x1 := HX2.out.cell 1 rfl
      have x2 := HX2.out.cell 2 rfl
      have xz : w.heap.size + 1 < w5.heap.size := HX2.out.lt
      have y0 := HX2.out.frozen 0
      have y1 := HX2.out.frozen 1
      have y2 := HX2.out.frozen 2
      have bz : w.heap.size ≤ w5.heap.size := (BW2.out).size
      go_wp2
      exact bodyPost_ret (v := .agg #[.int .i64 (partsF a b), .int .i64 k, .int .i64 0]) (by simp [results, Tryz.results28, go_sem, x0, x1, x2, xz]) rfl ⟨by rw [HF.out], by repeat' first | exact BW2.out | (refine below_drewN ?_ _) | (refine Below.alloc ?_ ?_ _) | (refine Below.setCell ?_ ?_ _) | omega | (simp; done) | (simp; omega)⟩
  obtain rfl : k = mx := by omega
  have HFR : Hid (faultR rs gs 0 = none) := Lib.hid (HT.out.trans (faultR_end hmx1 hmx2))
  have HCT : Hid (checkF n ss ov gs tb = tableW rs tb) := Lib.hid (checkF_table HASK.out hrs.out HFR.out)
  obtain ⟨w3, hw3⟩ : ∃ W, W = wr := ⟨_, rfl⟩
  subst hw3
  have T3 := Lib.hid (Kn.C_below HBr.out HTB.out)
  have C3 := Lib.hid (Kn.C_below HBr.out C0.out)
  clear HT HFR HBr HX BW HTB C0
  go_wp2_with fail
  refine (implTable N0 n0 rs _ C3.out HRN).mono ?_
  intro e w4 hr
  obtain ⟨L0, l0, rfl, hl0, CT, hb4⟩ := RetS.opC hr
  have HX3 := Lib.hid (HX1.out.below hb4 HX1.out.lt)
  have BW3 := Lib.hid (BW1.out.trans (hb4.mono BW1.out.size))
  have T3 := Lib.hid (Kn.C_below hb4 T3.out)
  have HTN : Hid ((tabF rs).length = rs.length) := Lib.hid (tabF_length hrl)
  obtain ⟨tw, htw⟩ : ∃ t, Hid (tabF rs = t) := ⟨_, Lib.hid rfl⟩
  rw [htw.out] at CT HTN
  rw [htw.out]
  clear hr hb4 HX1 BW1 C3
  by_cases htb : tb.length = rs.length
  rotate_left
  · have HF : Hid (checkF n ss ov gs tb = ⟨7, tb.length, 0⟩) := Lib.hid (by rw [HCT.out, tableW_len htb])
    have d1 := len_ne (a := tb.length) (b := tw.length) (by rw [HTN.out]; exact htb)
    clear htb
    have x0 := HX3.out.cell 0 rfl
    have x1 := HX3.out.cell 1 rfl
    have x2 := HX3.out.cell 2 rfl
    have xz : w.heap.size + 1 < w4.heap.size := HX3.out.lt
    have y0 := HX3.out.frozen 0
    have y1 := HX3.out.frozen 1
    have y2 := HX3.out.frozen 2
    have bz : w.heap.size ≤ w4.heap.size := (BW3.out).size
    go_wp2
    exact bodyPost_ret (v := .agg #[.int .i64 7, .int .i64 tb.length, .int .i64 0]) (by simp [results, Tryz.results28, go_sem, x0, x1, x2, xz]) rfl ⟨by rw [HF.out], by repeat' first | exact BW3.out | (refine below_drewN ?_ _) | (refine Below.alloc ?_ ?_ _) | (refine Below.setCell ?_ ?_ _) | omega | (simp; done) | (simp; omega)⟩
  have d1 := len_eq (a := tb.length) (b := tw.length) (by rw [HTN.out]; exact htb)
  have HTL := Lib.hid htb
  clear htb
  go_wp2
  clear d1
  go_loopw [76] (fun iv wr => ∃ k : Nat, k ≤ tb.length ∧ iv = .int .i64 k ∧ Hid (faultT tw tb 0 = faultT (tw.drop k) (tb.drop k) k) ∧ Hid (Below w4.heap.size w4 wr)) (fun iv _ => tb.length - (intOf iv).toNat)
  case atStart => exact ⟨0, Nat.zero_le _, rfl, Lib.hid rfl, Lib.hid (Below.refl _ _)⟩
  case round =>
  obtain ⟨k, hk, rfl, HT, HBr⟩ := hrel
  have HX4 := Lib.hid (HX3.out.below HBr.out HX3.out.lt)
  have BW4 := Lib.hid (BW3.out.trans (HBr.out.mono BW3.out.size))
  by_cases hlt : k < tb.length
  rotate_left
  · obtain rfl : k = tb.length := by omega
    have HF : Hid (checkF n ss ov gs tb = ⟨0, 0, 0⟩) := Lib.hid (by
      rw [HCT.out]
      exact tableW_none HTL.out (by rw [htw.out, HT.out]; exact faultT_end (by rw [HTN.out, HTL.out]; exact Nat.le_refl _)))
    have x0 := HX4.out.cell 0 rfl
    have x1 := HX4.out.cell 1 rfl
    have x2 := HX4.out.cell 2 rfl
    have xz : w.heap.size + 1 < wr.heap.size := HX4.out.lt
    have y0 := HX4.out.frozen 0
    have y1 := HX4.out.frozen 1
    have y2 := HX4.out.frozen 2
    have bz : w.heap.size ≤ wr.heap.size := (BW4.out).size
    go_wp2
    exact bodyPost_ret (v := .agg #[.int .i64 0, .int .i64 0, .int .i64 0]) (by simp [results, Tryz.results28, go_sem, x0, x1, x2, xz]) rfl ⟨by rw [HF.out], by repeat' first | exact BW4.out | (refine below_drewN ?_ _) | (refine Below.alloc ?_ ?_ _) | (refine Below.setCell ?_ ?_ _) | omega | (simp; done) | (simp; omega)⟩
  have i0 : (0 : Int) ≤ (k : Int) := Int.natCast_nonneg _
  have i1 : (k : Int) < (tb.length : Int) := by omega
  have i2 : (k : Int) < (tw.length : Int) := by have := HTL.out; have := HTN.out; omega
  obtain ⟨ta, rfl, row, Erow, B, dB, g0, HROW⟩ := row_at (Kn.C_below HBr.out T3.out) k hlt
  obtain ⟨ya, rfl, wow, Ewow, Y, dY, g1, HWOW⟩ := row_at (Kn.C_below HBr.out CT.out) k (by have := HTL.out; have := HTN.out; omega)
  have hrow : row.length ≤ 1048576 := htr.out row (List.mem_of_getElem? Erow.out)
  by_cases hrl2 : row.length = wow.length
  rotate_left
  · have HF : Hid (checkF n ss ov gs tb = ⟨7, k, row.length⟩) := Lib.hid (by
      rw [HCT.out]
      exact tableW_some HTL.out (by rw [htw.out, HT.out]; exact faultT_len Ewow.out Erow.out hrl2))
    have d1 := len_ne hrl2
    clear hrl2
    have x0 := HX4.out.cell 0 rfl
    have x1 := HX4.out.cell 1 rfl
    have x2 := HX4.out.cell 2 rfl
    have xz : w.heap.size + 1 < wr.heap.size := HX4.out.lt
    have y0 := HX4.out.frozen 0
    have y1 := HX4.out.frozen 1
    have y2 := HX4.out.frozen 2
    have bz : w.heap.size ≤ wr.heap.size := (BW4.out).size
    go_wp2
    exact bodyPost_ret (v := .agg #[.int .i64 7, .int .i64 k, .int .i64 row.length]) (by simp [results, Tryz.results28, go_sem, x0, x1, x2, xz]) rfl ⟨by rw [HF.out], by repeat' first | exact BW4.out | (refine below_drewN ?_ _) | (refine Below.alloc ?_ ?_ _) | (refine Below.setCell ?_ ?_ _) | omega | (simp; done) | (simp; omega)⟩
  have d1 := len_eq hrl2
  have HRL := Lib.hid hrl2
  clear hrl2
  go_wp2
  clear d1
  obtain ⟨wo, rfl⟩ : ∃ W, W = wr := ⟨_, rfl⟩
  go_loopw [95] (fun iv wr => ∃ i : Nat, i ≤ row.length ∧ iv = .int .i64 i ∧ Hid (faultV wow row k 0 = faultV (wow.drop i) (row.drop i) k i) ∧ Hid (Below wo.heap.size wo wr)) (fun iv _ => row.length - (intOf iv).toNat)
  case atStart => exact ⟨0, Nat.zero_le _, rfl, Lib.hid rfl, Lib.hid (Below.refl _ _)⟩
  case round =>
    obtain ⟨i, hi', rfl, HV, HBi⟩ := hrel
    have HB6 : Hid (Below w4.heap.size w4 wr) := Lib.hid (HBr.out.trans (HBi.out.mono HBr.out.size))
    by_cases hit : i < row.length
    rotate_left
    · obtain rfl : i = row.length := by omega
      have HT2 : Hid (faultT tw tb 0 = faultT (tw.drop (k + 1)) (tb.drop (k + 1)) (k + 1)) := Lib.hid (HT.out.trans (faultT_step Ewow.out Erow.out HRL.out (HV.out.trans (faultV_end (by rw [HRL.out]; exact Nat.le_refl _)))))
      go_wp2
      go_roundw
      case rel => exact ⟨k + 1, by omega, by go_num, HT2, HB6⟩
      case measure => simp [intOf]; omega
    have j0 : (0 : Int) ≤ (i : Int) := Int.natCast_nonneg _
    have j1 : (i : Int) < (row.length : Int) := by omega
    have j2 : (i : Int) < (wow.length : Int) := by have := HRL.out; omega
    have g2 := cell_below HBi.out g1
    obtain ⟨va, rfl, x, Ex, g3⟩ := int_at (Kn.C_below HBi.out HROW.out) i hit
    obtain ⟨ua, rfl, y, Ey, g4⟩ := int_at (Kn.C_below HBi.out HWOW.out) i (by have := HRL.out; omega)
    have g5 := cell_below HBi.out g0
    have HX5 := Lib.hid (HX4.out.below HBi.out HX4.out.lt)
    have BW5 := Lib.hid (BW4.out.trans (HBi.out.mono BW4.out.size))
    by_cases hx : x = y
    · have t0 : (x == y) = true := by rw [hx]; exact beq_self_eq_true _
      have t1 : (x != y) = false := neq_f hx
      have HV2 : Hid (faultV wow row k 0 = faultV (wow.drop (i + 1)) (row.drop (i + 1)) k (i + 1)) := Lib.hid (HV.out.trans (faultV_step Ey.out (by rw [← hx]; exact Ex.out)))
      clear hx
      go_wp2
      go_quiet (fail)
      go_wp2
      go_roundw
      case rel => exact ⟨i + 1, by omega, by go_num, HV2, Lib.hid (below_drewN HBi.out _)⟩
      case measure => simp [intOf]; omega
    · have t0 : (x == y) = false := int_eqf hx
      have t1 : (x != y) = true := neq_t hx
      have HF : Hid (checkF n ss ov gs tb = ⟨7, k, i⟩) := Lib.hid (by
        rw [HCT.out]
        exact tableW_some HTL.out (by
          rw [htw.out, HT.out]
          exact faultT_ne Ewow.out Erow.out HRL.out (HV.out.trans (faultV_ne Ey.out Ex.out (fun e => hx e.symm)))))
      clear hx
      have x0 := HX5.out.cell 0 rfl
      have x1 := HX5.out.cell 1 rfl
      have x2 := HX5.out.cell 2 rfl
      have xz : w.heap.size + 1 < wr.heap.size := HX5.out.lt
      have y0 := HX5.out.frozen 0
      have y1 := HX5.out.frozen 1
      have y2 := HX5.out.frozen 2
      have bz : w.heap.size ≤ wr.heap.size := (BW5.out).size
      go_wp2
      go_quiet (fail)
      go_wp2
      exact bodyPost_ret (v := .agg #[.int .i64 7, .int .i64 k, .int .i64 i]) (by simp [results, Tryz.results28, go_sem, x0, x1, x2, xz]) rfl ⟨by rw [HF.out], by repeat' first | exact BW5.out | (refine below_drewN ?_ _) | (refine Below.alloc ?_ ?_ _) | (refine Below.setCell ?_ ?_ _) | omega | (simp; done) | (simp; omega)⟩
end Go.Proofs.YtpggopdojhodaaaGreat.L
namespace Go.Proofs.YtpggopdojhodaaaGreat.L
open Go.RowKit
set_option linter.unusedVariables false
set_option linter.unusedSimpArgs false
set_option maxRecDepth 100000 in
set_option maxHeartbeats 16000000 in
theorem lawCheck {ok ok' ok2 ok3 : Nat → Prop} (x : Net) (ss : List Signal) (ov : Int) (gs : List Route) (tb : List (List Int)) (A0 A1 A2 A3 A4 : Option Addr) (c0 c1 c2 c3 c4 : Nat) (w : World) (hx : NC 205 w ok x A0 A1) (hs : signalK.C w ok' A2 ss) (hg : rL.C w ok2 A3 gs) (ht : rowK.C w ok3 A4 tb) (hfit : Hid x.fit) (hsf : Hid (∀ s ∈ ss, s.fit)) :
    Calls Tryz.prog 5 #[.agg #[.slice A0 x.pieces.length c0, .slice A1 x.joints.length c1], .slice A2 ss.length c2, .int .i64 ov, .slice A3 gs.length c3, .slice A4 tb.length c4] w (RetB true w) := by
  obtain ⟨W0, hW0, HB0, HA, HX, HS, HH⟩ : ∃ W0, W0 = w.alloc (.cells #[.slice A0 x.pieces.length c0, .slice A1 x.joints.length c1] 25) ∧ Below w.heap.size w W0 ∧ Hid (Blk W0 w.heap.size 25 [.slice A0 x.pieces.length c0, .slice A1 x.joints.length c1]) ∧ Hid (NC 205 W0 ok x A0 A1) ∧ Hid (signalK.C W0 ok' A2 ss) ∧ Hid (Below w.heap.size w W0) :=
    ⟨_, rfl, below_alloc _ _, Lib.hid (Blk.new _ _ _ rfl), Lib.hid (hx.below (below_alloc _ _)), Lib.hid (Kn.C_below (below_alloc _ _) hs), Lib.hid (below_alloc _ _)⟩
  have HG := Lib.hid (Kn.C_below HH.out hg)
  have HTB := Lib.hid (Kn.C_below HH.out ht)
  clear hx hs hg ht
  by_cases n0 : x.n ≤ 1048576
  rotate_left
  · have hc1 : Hid (cut (1048576 - (x.n : Nat)) = -1) := Lib.hid (cut_neg (by omega))
    go_enter Tryz.func5, Tryz.ntmps5
    go_wp2_with fail
    rw [← hW0]
    clear hW0
    refine (szNet _ x A0 A1 c0 c1 hfit HX.out.p HX.out.j 1048576 (by omega) (by omega)).mono ?_
    rintro e w1 ⟨rfl, hb1⟩
    rw [hc1.out]
    have HZ1 := Lib.hid hb1
    clear hb1
    go_wp2
    go_ret
    exact ⟨rfl, HB0.trans (HZ1.out.mono HB0.size)⟩
  have hc1 : Hid (cut (1048576 - (x.n : Nat)) = 1048576 - (x.n : Nat)) := Lib.hid (cut_pos (by omega))
  by_cases n1 : x.n + lenS Signal.n ss ≤ 1048576
  rotate_left
  · have hc2 : Hid (cut (1048576 - (x.n : Nat) - (lenS Signal.n ss : Nat)) = -1) := Lib.hid (cut_neg (by omega))
    go_enter Tryz.func5, Tryz.ntmps5
    go_wp2_with fail
    rw [← hW0]
    clear hW0
    refine (szNet _ x A0 A1 c0 c1 hfit HX.out.p HX.out.j 1048576 (by omega) (by omega)).mono ?_
    rintro e w1 ⟨rfl, hb1⟩
    rw [hc1.out]
    have HZ1 := Lib.hid hb1
    clear hb1
    go_wp2_with fail
    refine (szSignalS _ _ ss _ _ (Kn.C_below HZ1.out HS.out) hsf (by omega) (by omega)).mono ?_
    rintro e w2 ⟨rfl, hb2⟩
    rw [hc2.out]
    have HZ2 := Lib.hid (HZ1.out.trans (hb2.mono HZ1.out.size))
    clear hb2
    go_wp2
    go_ret
    exact ⟨rfl, HB0.trans (HZ2.out.mono HB0.size)⟩
  have hc2 : Hid (cut (1048576 - (x.n : Nat) - (lenS Signal.n ss : Nat)) = 1048576 - (x.n : Nat) - (lenS Signal.n ss : Nat)) := Lib.hid (cut_pos (by omega))
  by_cases n2 : x.n + lenS Signal.n ss + lenS Route.n gs ≤ 1048576
  rotate_left
  · have hc3 : Hid (cut (1048576 - (x.n : Nat) - (lenS Signal.n ss : Nat) - (lenS Route.n gs : Nat)) = -1) := Lib.hid (cut_neg (by omega))
    go_enter Tryz.func5, Tryz.ntmps5
    go_wp2_with fail
    rw [← hW0]
    clear hW0
    refine (szNet _ x A0 A1 c0 c1 hfit HX.out.p HX.out.j 1048576 (by omega) (by omega)).mono ?_
    rintro e w1 ⟨rfl, hb1⟩
    rw [hc1.out]
    have HZ1 := Lib.hid hb1
    clear hb1
    go_wp2_with fail
    refine (szSignalS _ _ ss _ _ (Kn.C_below HZ1.out HS.out) hsf (by omega) (by omega)).mono ?_
    rintro e w2 ⟨rfl, hb2⟩
    rw [hc2.out]
    have HZ2 := Lib.hid (HZ1.out.trans (hb2.mono HZ1.out.size))
    clear hb2
    go_wp2_with fail
    refine (szRouteS A3 c3 gs _ _ (Kn.C_below HZ2.out HG.out) (by omega) (by omega)).mono ?_
    rintro e w3 ⟨rfl, hb3⟩
    rw [hc3.out]
    have HZ3 := Lib.hid (HZ2.out.trans (hb3.mono HZ2.out.size))
    clear hb3
    go_wp2
    go_ret
    exact ⟨rfl, HB0.trans (HZ3.out.mono HB0.size)⟩
  have hc3 : Hid (cut (1048576 - (x.n : Nat) - (lenS Signal.n ss : Nat) - (lenS Route.n gs : Nat)) = 1048576 - (x.n : Nat) - (lenS Signal.n ss : Nat) - (lenS Route.n gs : Nat)) := Lib.hid (cut_pos (by omega))
  by_cases n3 : x.n + lenS Signal.n ss + lenS Route.n gs + lenS List.length tb ≤ 1048576
  rotate_left
  · have hc4 : Hid (cut (1048576 - (x.n : Nat) - (lenS Signal.n ss : Nat) - (lenS Route.n gs : Nat) - (lenS List.length tb : Nat)) = -1) := Lib.hid (cut_neg (by omega))
    go_enter Tryz.func5, Tryz.ntmps5
    go_wp2_with fail
    rw [← hW0]
    clear hW0
    refine (szNet _ x A0 A1 c0 c1 hfit HX.out.p HX.out.j 1048576 (by omega) (by omega)).mono ?_
    rintro e w1 ⟨rfl, hb1⟩
    rw [hc1.out]
    have HZ1 := Lib.hid hb1
    clear hb1
    go_wp2_with fail
    refine (szSignalS _ _ ss _ _ (Kn.C_below HZ1.out HS.out) hsf (by omega) (by omega)).mono ?_
    rintro e w2 ⟨rfl, hb2⟩
    rw [hc2.out]
    have HZ2 := Lib.hid (HZ1.out.trans (hb2.mono HZ1.out.size))
    clear hb2
    go_wp2_with fail
    refine (szRouteS A3 c3 gs _ _ (Kn.C_below HZ2.out HG.out) (by omega) (by omega)).mono ?_
    rintro e w3 ⟨rfl, hb3⟩
    rw [hc3.out]
    have HZ3 := Lib.hid (HZ2.out.trans (hb3.mono HZ2.out.size))
    clear hb3
    go_wp2_with fail
    refine (szIntSS A4 c4 tb _ _ (Kn.C_below HZ3.out HTB.out) (by omega) (by omega)).mono ?_
    rintro e w4 ⟨rfl, hb4⟩
    rw [hc4.out]
    have HZ4 := Lib.hid (HZ3.out.trans (hb4.mono HZ3.out.size))
    clear hb4
    go_wp2
    go_ret
    exact ⟨rfl, HB0.trans (HZ4.out.mono HB0.size)⟩
  have hc4 : Hid (cut (1048576 - (x.n : Nat) - (lenS Signal.n ss : Nat) - (lenS Route.n gs : Nat) - (lenS List.length tb : Nat)) = 1048576 - (x.n : Nat) - (lenS Signal.n ss : Nat) - (lenS Route.n gs : Nat) - (lenS List.length tb : Nat)) := Lib.hid (cut_pos (by omega))
  have NI : Hid (NetIn x) := Lib.hid ⟨by omega, hfit.out⟩
  have SI : Hid (SigIn ss) := Lib.hid ⟨by omega, hsf.out⟩
  have hsl : ss.length ≤ 1048576 := SI.out.len
  have HV : Hid (eqv x x = true) := Lib.hid (eqv_self _)
  have HU : Hid (eqv ss ss = true) := Lib.hid (eqv_self _)
  have HE : Hid (eqv gs gs = true) := Lib.hid (eqv_self _)
  have hgl : gs.length ≤ 1048576 := by unfold lenS at *; omega
  have HGN : Hid (∀ r ∈ gs, r.n ≤ 1048576) := Lib.hid (fun r hr => by have := tot_in (f := Route.n) hr; unfold lenS at *; omega)
  have HTE : Hid (eqv tb tb = true) := Lib.hid (eqv_self _)
  have htl : tb.length ≤ 1048576 := by unfold lenS at *; omega
  have HTR : Hid (∀ r ∈ tb, r.length ≤ 1048576) := Lib.hid (fun r hr => by have := tot_in (f := List.length) hr; unfold lenS at *; omega)
  have HWE : Hid (eqv (checkF x ss ov gs tb) (checkF x ss ov gs tb) = true) := Lib.hid (eqv_self _)
  go_enter Tryz.func5, Tryz.ntmps5
  go_wp2_with fail
  rw [← hW0]
  clear hW0
  refine (szNet _ x A0 A1 c0 c1 hfit HX.out.p HX.out.j 1048576 (by omega) (by omega)).mono ?_
  rintro e w1 ⟨rfl, hb1⟩
  rw [hc1.out]
  have HZ1 := Lib.hid hb1
  clear hb1
  go_wp2_with fail
  refine (szSignalS _ _ ss _ _ (Kn.C_below HZ1.out HS.out) hsf (by omega) (by omega)).mono ?_
  rintro e w2 ⟨rfl, hb2⟩
  rw [hc2.out]
  have HZ2 := Lib.hid (HZ1.out.trans (hb2.mono HZ1.out.size))
  clear hb2
  go_wp2_with fail
  refine (szRouteS A3 c3 gs _ _ (Kn.C_below HZ2.out HG.out) (by omega) (by omega)).mono ?_
  rintro e w3 ⟨rfl, hb3⟩
  rw [hc3.out]
  have HZ3 := Lib.hid (HZ2.out.trans (hb3.mono HZ2.out.size))
  clear hb3
  go_wp2_with fail
  refine (szIntSS A4 c4 tb _ _ (Kn.C_below HZ3.out HTB.out) (by omega) (by omega)).mono ?_
  rintro e w4 ⟨rfl, hb4⟩
  rw [hc4.out]
  have HZ4 := Lib.hid (HZ3.out.trans (hb4.mono HZ3.out.size))
  clear hb4
  have B0 := HZ4
  have HA2 := Lib.hid (HA.out.below B0.out HA.out.lt)
  have a0 := HA2.out.cell 0 rfl
  have a1 := HA2.out.cell 1 rfl
  have az : w.heap.size < w4.heap.size := HA2.out.lt
  go_wp2_with fail
  refine (toNetC x A0 A1 c0 c1 _ (HX.out.below B0.out) NI.out).mono ?_
  intro e w5 hr
  obtain ⟨P0, P1, Pc0, Pc1, rfl, pn, hb⟩ := RetNet.opC hr
  have B0 := Lib.hid (B0.out.trans (hb.mono B0.out.size))
  clear hr hb a0 a1 az
  go_wp2_with fail
  refine (toSignalS _ _ ss _ (Kn.C_below B0.out HS.out) hsl).mono ?_
  intro e w6 hr
  obtain ⟨P2, Pc2, rfl, hPc2, ps, hb⟩ := RetS.opC hr
  have B0 := Lib.hid (B0.out.trans (hb.mono B0.out.size))
  have pn := Lib.hid (pn.out.below hb)
  clear hr hb
  go_wp2_with fail
  refine (toRouteS A3 c3 gs _ (Kn.C_below B0.out HG.out) hgl HGN).mono ?_
  intro e w7 hr
  obtain ⟨P3, Pc3, rfl, hPc3, pr, hb⟩ := RetS.opC hr
  have B0 := Lib.hid (B0.out.trans (hb.mono B0.out.size))
  have pn := Lib.hid (pn.out.below hb)
  have ps := Lib.hid (Kn.C_below hb ps.out)
  clear hr hb
  go_wp2_with fail
  refine (toIntSS A4 c4 tb _ (Kn.C_below B0.out HTB.out) htl HTR).mono ?_
  intro e w8 hr
  obtain ⟨P4, Pc4, rfl, hPc4, pl, hb⟩ := RetS.opC hr
  have B0 := Lib.hid (B0.out.trans (hb.mono B0.out.size))
  have pn := Lib.hid (pn.out.below hb)
  have ps := Lib.hid (Kn.C_below hb ps.out)
  have pr := Lib.hid (Kn.C_below hb pr.out)
  clear hr hb
  go_wp2_with fail
  refine (specCheck x ss ov gs tb P0 P1 P2 P3 P4 Pc0 Pc1 Pc2 Pc3 Pc4 _ pn.out ps.out hPc2 pr.out pl.out HGN hgl htl HTR NI.out SI.out).mono ?_
  rintro e w9 ⟨rfl, hb⟩
  have B0 := Lib.hid (B0.out.trans (hb.mono B0.out.size))
  clear hb pn ps pr pl
  obtain ⟨wr, hwr⟩ : ∃ y, Hid (checkF x ss ov gs tb = y) := ⟨_, Lib.hid rfl⟩
  rw [hwr.out] at HWE
  rw [hwr.out]
  obtain ⟨y0, y1, y2⟩ := wr
  obtain ⟨WA, hWA, HR0, hbA⟩ : ∃ W, W = w9.alloc (.cells #[.int .i64 y0, .int .i64 y1, .int .i64 y2] 56) ∧ Hid (Blk W w9.heap.size 56 [.int .i64 y0, .int .i64 y1, .int .i64 y2]) ∧ Below w9.heap.size w9 W := ⟨_, rfl, Lib.hid (Blk.new _ _ _ rfl), below_alloc _ _⟩
  have B0 := Lib.hid (B0.out.trans (hbA.mono B0.out.size))
  clear hbA
  have HA2 := Lib.hid (HA.out.below B0.out HA.out.lt)
  have b0 := cell_below B0.out (HA.out.cell 0 rfl)
  clear b0
  have a0 := HA2.out.cell 0 rfl
  have a1 := HA2.out.cell 1 rfl
  have az : w.heap.size < WA.heap.size := HA2.out.lt
  go_upto_region 15 with (fail)
  rw [← hWA]
  clear hWA
  go_wp2_with fail
  refine (toNetC x A0 A1 c0 c1 _ (HX.out.below B0.out) NI.out).mono ?_
  intro e w11 hr
  obtain ⟨Q0, Q1, Qc0, Qc1, rfl, qn, hb⟩ := RetNet.opC hr
  have B0 := Lib.hid (B0.out.trans (hb.mono B0.out.size))
  have HR0 := Lib.hid (HR0.out.below hb HR0.out.lt)
  clear hr hb a0 a1 az
  obtain ⟨WX, hWX, HBX, hbX⟩ : ∃ W, W = w11.alloc (.cells #[.slice Q0 x.pieces.length Qc0, .slice Q1 x.joints.length Qc1] 34) ∧ Hid (Blk W w11.heap.size 34 [.slice Q0 x.pieces.length Qc0, .slice Q1 x.joints.length Qc1]) ∧ Below w11.heap.size w11 W := ⟨_, rfl, Lib.hid (Blk.new _ _ _ rfl), below_alloc _ _⟩
  have B0 := Lib.hid (B0.out.trans (hbX.mono B0.out.size))
  have HR0 := Lib.hid (HR0.out.below hbX HR0.out.lt)
  have qn := Lib.hid (qn.out.below hbX)
  obtain ⟨xb, hxb⟩ : ∃ g, Hid (w11.heap.size = g) := ⟨_, Lib.hid rfl⟩
  go_wp2_with fail
  rw [← hWX]
  rw [hxb.out] at HBX
  rw [hxb.out]
  clear hWX hbX
  refine (toSignalS _ _ ss _ (Kn.C_below B0.out HS.out) hsl).mono ?_
  intro e w12 hr
  obtain ⟨Q2, Qc2, rfl, hQc2, qs, hb⟩ := RetS.opC hr
  have B0 := Lib.hid (B0.out.trans (hb.mono B0.out.size))
  have HR0 := Lib.hid (HR0.out.below hb HR0.out.lt)
  have qn := Lib.hid (qn.out.below hb)
  have HBX := Lib.hid (HBX.out.below hb HBX.out.lt)
  clear hr hb
  go_wp2_with fail
  refine (toRouteS A3 c3 gs _ (Kn.C_below B0.out HG.out) hgl HGN).mono ?_
  intro e w13 hr
  obtain ⟨Q3, Qc3, rfl, hQc3, qr, hb⟩ := RetS.opC hr
  have B0 := Lib.hid (B0.out.trans (hb.mono B0.out.size))
  have HR0 := Lib.hid (HR0.out.below hb HR0.out.lt)
  have qn := Lib.hid (qn.out.below hb)
  have HBX := Lib.hid (HBX.out.below hb HBX.out.lt)
  have qs := Lib.hid (Kn.C_below hb qs.out)
  clear hr hb
  go_wp2_with fail
  refine (toIntSS A4 c4 tb _ (Kn.C_below B0.out HTB.out) htl HTR).mono ?_
  intro e w14 hr
  obtain ⟨Q4, Qc4, rfl, hQc4, ql, hb⟩ := RetS.opC hr
  have B0 := Lib.hid (B0.out.trans (hb.mono B0.out.size))
  have HR0 := Lib.hid (HR0.out.below hb HR0.out.lt)
  have qn := Lib.hid (qn.out.below hb)
  have HBX := Lib.hid (HBX.out.below hb HBX.out.lt)
  have qs := Lib.hid (Kn.C_below hb qs.out)
  have qr := Lib.hid (Kn.C_below hb qr.out)
  clear hr hb
  have d0 := HBX.out.cell 0 rfl
  have d1 := HBX.out.cell 1 rfl
  have dz : xb < w14.heap.size := HBX.out.lt
  go_wp2_with fail
  refine (implCheck x ss ov gs tb Q0 Q1 Q2 Q3 Q4 Qc0 Qc1 Qc2 Qc3 Qc4 _ qn.out qs.out hQc2 qr.out ql.out HGN hgl htl HTR NI.out SI.out).mono ?_
  rintro e w15 ⟨rfl, hb⟩
  have B0 := Lib.hid (B0.out.trans (hb.mono B0.out.size))
  have HR0 := Lib.hid (HR0.out.below hb HR0.out.lt)
  have qn := Lib.hid (qn.out.below hb)
  have HBX := Lib.hid (HBX.out.below hb HBX.out.lt)
  have qs := Lib.hid (Kn.C_below hb qs.out)
  have qr := Lib.hid (Kn.C_below hb qr.out)
  have ql := Lib.hid (Kn.C_below hb ql.out)
  clear hb d0 d1 dz
  rw [hwr.out]
  obtain ⟨WB, hWB, HR1, hbB⟩ : ∃ W, W = w15.alloc (.cells #[.int .i64 y0, .int .i64 y1, .int .i64 y2] 56) ∧ Hid (Blk W w15.heap.size 56 [.int .i64 y0, .int .i64 y1, .int .i64 y2]) ∧ Below w15.heap.size w15 W := ⟨_, rfl, Lib.hid (Blk.new _ _ _ rfl), below_alloc _ _⟩
  have B0 := Lib.hid (B0.out.trans (hbB.mono B0.out.size))
  have HR0 := Lib.hid (HR0.out.below hbB HR0.out.lt)
  have qn := Lib.hid (qn.out.below hbB)
  have HBX := Lib.hid (HBX.out.below hbB HBX.out.lt)
  have qs := Lib.hid (Kn.C_below hbB qs.out)
  have qr := Lib.hid (Kn.C_below hbB qr.out)
  have ql := Lib.hid (Kn.C_below hbB ql.out)
  go_upto_region 20 with (fail)
  rw [← hWB]
  clear hWB hbB
  have e0 := HR0.out.cell 0 rfl
  have e1 := HR0.out.cell 1 rfl
  have e2 := HR0.out.cell 2 rfl
  have ez := HR0.out.lt
  have g0 := HR1.out.cell 0 rfl
  have g1 := HR1.out.cell 1 rfl
  have g2 := HR1.out.cell 2 rfl
  have gz := HR1.out.lt
  go_wp2_with fail
  refine (eqWrong ⟨y0, y1, y2⟩ ⟨y0, y1, y2⟩ _).mono ?_
  rintro e w16 ⟨rfl, hb⟩
  rw [HWE.out]
  clear e0 e1 e2 ez g0 g1 g2 gz
  have B0 := Lib.hid (B0.out.trans (hb.mono B0.out.size))
  have HR0 := Lib.hid (HR0.out.below hb HR0.out.lt)
  have qn := Lib.hid (qn.out.below hb)
  have HBX := Lib.hid (HBX.out.below hb HBX.out.lt)
  have qs := Lib.hid (Kn.C_below hb qs.out)
  have qr := Lib.hid (Kn.C_below hb qr.out)
  have ql := Lib.hid (Kn.C_below hb ql.out)
  have HR1 := Lib.hid (HR1.out.below hb HR1.out.lt)
  clear hb HR0 HR1
  have HA2 := Lib.hid (HA.out.below B0.out HA.out.lt)
  have a0 := HA2.out.cell 0 rfl
  have a1 := HA2.out.cell 1 rfl
  have az : w.heap.size < w16.heap.size := HA2.out.lt
  have d0 := HBX.out.cell 0 rfl
  have d1 := HBX.out.cell 1 rfl
  have dz : xb < w16.heap.size := HBX.out.lt
  have HX9 := Lib.hid (HX.out.below B0.out).drew
  have q9 := Lib.hid qn.out.drew
  go_wp2_with fail
  go_region_held3 (fun w' => w'.cell? ⟨w.heap.size, 0, none⟩ = some (.slice A0 x.pieces.length c0) ∧ w'.cell? ⟨w.heap.size, 1, none⟩ = some (.slice A1 x.joints.length c1) ∧ w'.cell? ⟨xb, 0, none⟩ = some (.slice Q0 x.pieces.length Qc0) ∧ w'.cell? ⟨xb, 1, none⟩ = some (.slice Q1 x.joints.length Qc1))
    (first | exact ⟨cell_below hbb (cell_below hba a0), cell_below hbb (cell_below hba a1), cell_below hbb (cell_below hba d0), cell_below hbb (cell_below hba d1)⟩ | exact ⟨cell_below hba a0, cell_below hba a1, cell_below hba d0, cell_below hba d1⟩ | go_keep)
    (first | (go_at_call 9; (with_reducible refine (toNetC x A0 A1 c0 c1 _ (HX9.out) NI.out).mono ?_); intro e wy hr; obtain ⟨G8, G1, k0, k1, rfl, q10, hba⟩ := RetNet.opC hr; clear hr)
           | (go_at_call 13; (with_reducible refine (eqNetC x x Q0 Q1 Qc0 Qc1 G8 G1 k0 k1 _ (q9.out.below hba) (q10.out)).mono ?_); rintro e wz ⟨rfl, hbb⟩; rw [HV.out]))
  have kk : Below w16.heap.size w16 wz := ((Below.refl w16.heap.size w16).drew).trans (hba.trans (hbb.mono hba.size))
  have B0 := Lib.hid (B0.out.trans (kk.mono B0.out.size))
  have qs := Lib.hid (Kn.C_below kk qs.out)
  have qr := Lib.hid (Kn.C_below kk qr.out)
  have ql := Lib.hid (Kn.C_below kk ql.out)
  clear q9 q10 hba hbb kk HX9 a0 a1 az d0 d1 dz qn HBX HA2
  go_wp2_with fail
  refine (toSignalS _ _ ss _ (Kn.C_below B0.out HS.out) hsl).mono ?_
  intro e w17 hr
  obtain ⟨G2, g2, rfl, hg2, r2, hb⟩ := RetS.opC hr
  have B0 := Lib.hid (B0.out.trans (hb.mono B0.out.size))
  have qs := Lib.hid (Kn.C_below hb qs.out)
  have qr := Lib.hid (Kn.C_below hb qr.out)
  have ql := Lib.hid (Kn.C_below hb ql.out)
  clear hr hb
  go_wp2_with fail
  refine (eqSignalS _ _ _ _ ss ss _ qs.out r2.out).mono ?_
  rintro e w18 ⟨rfl, hb⟩
  rw [HU.out]
  have B0 := Lib.hid (B0.out.trans (hb.mono B0.out.size))
  have qr := Lib.hid (Kn.C_below hb qr.out)
  have ql := Lib.hid (Kn.C_below hb ql.out)
  clear hb r2
  go_wp2_with fail
  refine (toRouteS A3 c3 gs _ (Kn.C_below B0.out HG.out) hgl HGN).mono ?_
  intro e w19 hr
  obtain ⟨G2, g2, rfl, hg2, r2, hb⟩ := RetS.opC hr
  have B0 := Lib.hid (B0.out.trans (hb.mono B0.out.size))
  have qr := Lib.hid (Kn.C_below hb qr.out)
  have ql := Lib.hid (Kn.C_below hb ql.out)
  clear hr hb
  go_wp2_with fail
  refine (eqRouteS _ _ _ _ gs gs _ qr.out r2.out).mono ?_
  rintro e w20 ⟨rfl, hb⟩
  rw [HE.out]
  have B0 := Lib.hid (B0.out.trans (hb.mono B0.out.size))
  have ql := Lib.hid (Kn.C_below hb ql.out)
  clear hb r2
  go_wp2_with fail
  refine (toIntSS A4 c4 tb _ (Kn.C_below B0.out HTB.out) htl HTR).mono ?_
  intro e w21 hr
  obtain ⟨G2, g2, rfl, hg2, r2, hb⟩ := RetS.opC hr
  have B0 := Lib.hid (B0.out.trans (hb.mono B0.out.size))
  have ql := Lib.hid (Kn.C_below hb ql.out)
  clear hr hb
  go_wp2_with fail
  refine (eqIntSS _ _ _ _ tb tb _ ql.out r2.out).mono ?_
  rintro e w22 ⟨rfl, hb⟩
  rw [HTE.out]
  have B0 := Lib.hid (B0.out.trans (hb.mono B0.out.size))
  clear hb r2
  go_wp2
  go_ret
  exact ⟨rfl, HB0.trans (B0.out.mono HB0.size)⟩
end Go.Proofs.YtpggopdojhodaaaGreat.L
