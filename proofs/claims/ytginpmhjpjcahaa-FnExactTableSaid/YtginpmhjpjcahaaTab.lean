/- Table of the reference and of the program: each two routes, why they exclude each other. -/
import Derived.Test.YtginpmhjpjcahaaRC
import Derived.Test.YtginpmhjpjcahaaAppR
namespace Go.Proofs.Ytginpmhjpjcahaa.L
open Go.RowKit
set_option linter.unusedVariables false
set_option linter.unusedSimpArgs false
noncomputable def tabF (rs : List Route) : List (List Int) := if 300 < rs.length then [] else rs.map (fun a => rs.map (excl a))
theorem tabF_len (rs : List Route) : (tabF rs).length ≤ 300 ∧ ∀ r ∈ tabF rs, r.length ≤ 300 := by
  unfold tabF
  split
  · exact ⟨by simp, by simp⟩
  · refine ⟨by rw [List.length_map]; omega, fun r hr => ?_⟩
    obtain ⟨a, _, rfl⟩ := List.mem_map.1 hr
    rw [List.length_map]
    omega
theorem info53 : (Try.prog.info? 53).map (fun i => (i.zero, i.size, i.bytes)) = some (some (.slice none 0 0), 1, 24) := by kernel_rfl
theorem intK_flat : ∀ (w : World) (ok : Nat → Prop) (x : Int) (cs : List Value), Kn.int.K w ok x cs → Kn.int.O w x cs [] := fun _ _ _ _ h => ⟨h, rfl⟩
abbrev rowK : Kn (List Int) := Kn.slice 3 Kn.int
theorem rC_at {eS eL eI eP eF : Nat} {w : World} {ok : Nat → Prop} {A : Option Addr} {xs : List Route} (h : (routeK eS eL eI eP eF).C w ok A xs) (k : Nat) (hk : k < xs.length) :
    ∃ ad, A = some ad ∧ ∃ x, Hid (xs[k]? = some x) ∧ ∃ A2 A3 A4 A5 A6 A7 c2 c3 c4 c5 c6 c7, w.cell? (ad.add (k * 8)) = some (.int .i64 x.frm) ∧ w.cell? ⟨(ad.add (k * 8)).block, (ad.add (k * 8)).off + 1, none⟩ = some (.int .i64 x.til) ∧ w.cell? ⟨(ad.add (k * 8)).block, (ad.add (k * 8)).off + 2, none⟩ = some (.slice A2 x.steps.length c2) ∧ w.cell? ⟨(ad.add (k * 8)).block, (ad.add (k * 8)).off + 3, none⟩ = some (.slice A3 x.lies.length c3) ∧ w.cell? ⟨(ad.add (k * 8)).block, (ad.add (k * 8)).off + 4, none⟩ = some (.slice A4 x.crosses.length c4) ∧ w.cell? ⟨(ad.add (k * 8)).block, (ad.add (k * 8)).off + 5, none⟩ = some (.slice A5 x.parts.length c5) ∧ w.cell? ⟨(ad.add (k * 8)).block, (ad.add (k * 8)).off + 6, none⟩ = some (.slice A6 x.over.length c6) ∧ w.cell? ⟨(ad.add (k * 8)).block, (ad.add (k * 8)).off + 7, none⟩ = some (.slice A7 x.flanks.length c7) ∧ Hid (RC w ok x A2 A3 A4 A5 A6 A7) := by
  obtain ⟨ad, e, x, E, A2, c2, A3, c3, A4, c4, A5, c5, A6, c6, A7, c7, g0, g1, g2, g3, g4, g5, g6, g7, l2, q2, l3, q3, l4, q4, l5, q5, l6, q6, l7, q7⟩ := routeK_at h k hk
  exact ⟨ad, e, x, E, A2, A3, A4, A5, A6, A7, c2, c3, c4, c5, c6, c7, g0, g1, g2, g3, g4, g5, g6, g7, Lib.hid ⟨q2, q3, q4, q5, q6, q7⟩⟩
set_option maxRecDepth 100000 in
set_option maxHeartbeats 8000000 in
theorem specTable {ok : Nat → Prop} (A : Option Addr) (c : Nat) (rs : List Route) (w : World) (hr : rK.C w ok A rs) (hn : Hid (∀ x ∈ rs, x.n ≤ 1048576)) :
    Calls Try.prog 26 #[.slice A rs.length c] w (RetS 53 rowK (tabF rs) w) := by
  have hm := hr.1
  by_cases q : 300 < rs.length
  · have HT : Hid (tabF rs = []) := Lib.hid (by unfold tabF; rw [if_pos q])
    go_enter Try.func26, Try.ntmps26
    go_wp2
    go_ret
    exact ⟨none, 0, [], by rw [HT.out]; rfl, by rw [HT.out]; exact ⟨_, [], rfl, rfl, R_nil, rfl⟩, by simp, Below.refl _ _⟩
  have HT : Hid (tabF rs = rs.map (fun a => rs.map (excl a))) := Lib.hid (by unfold tabF; rw [if_neg q])
  obtain ⟨i0, hi, hz0, hz1, hz2⟩ := info_parts info3
  obtain ⟨j0, ji, jz0, jz1, jz2⟩ := info_parts info53
  have hq : rs.length ≤ 300 := by omega
  clear q
  go_enter Try.func26, Try.ntmps26
  go_wp2
  go_loopw [3, 14] (fun o i wr => ∃ (k : Nat) (ps : List (List Int × List Nat)), k ≤ rs.length ∧ i = .int .i64 k ∧ Hid (rowK.R 53 wr o ps) ∧ Hid (ps.map Prod.fst = (rs.take k).map (fun a => rs.map (excl a))) ∧ Hid (∀ b, b ∈ Kn.foot o ps → w.heap.size ≤ b) ∧ Below w.heap.size w wr) (fun _ i _ => rs.length - (intOf i).toNat)
  case atStart => exact ⟨0, [], Nat.zero_le _, rfl, Lib.hid R_nil, Lib.hid (by simp), Lib.hid (by simp [Kn.foot, Value.ownBlock]), Below.refl _ _⟩
  case round =>
    obtain ⟨k, ps, hk, rfl, HR, HP, HB, hb⟩ := hrel
    obtain ⟨wo, rfl⟩ : ∃ wo : World, wo = wr := ⟨_, rfl⟩
    by_cases hlt : k < rs.length
    · obtain ⟨ad, rfl, x, E, A2, A3, A4, A5, A6, A7, c2, c3, c4, c5, c6, c7, g0, g1, g2, g3, g4, g5, g6, g7, RX⟩ := rC_at (Kn.C_below hb hr) k hlt
      have i1 : (0 : Int) ≤ (k : Int) := Int.natCast_nonneg _
      have i2 : (k : Int) < (rs.length : Int) := by omega
      have hxn := hn.out _ (mem_of_get E.out)
      have hpl : ps.length = k := by have := congrArg List.length HP.out; rw [List.length_map, List.length_map, List.length_take] at this; omega
      go_wp2
      obtain ⟨W1, hW1, hB1, hs1, f0, f1, f2, f3, f4, f5, f6, f7⟩ : ∃ W1, W1 = wo.alloc (.cells #[.int .i64 x.frm, .int .i64 x.til, .slice A2 x.steps.length c2, .slice A3 x.lies.length c3, .slice A4 x.crosses.length c4, .slice A5 x.parts.length c5, .slice A6 x.over.length c6, .slice A7 x.flanks.length c7] 57) ∧ Below wo.heap.size wo W1 ∧ wo.heap.size < W1.heap.size ∧ W1.cell? ⟨wo.heap.size, 0, none⟩ = some (.int .i64 x.frm) ∧ W1.cell? ⟨wo.heap.size, 1, none⟩ = some (.int .i64 x.til) ∧ W1.cell? ⟨wo.heap.size, 2, none⟩ = some (.slice A2 x.steps.length c2) ∧ W1.cell? ⟨wo.heap.size, 3, none⟩ = some (.slice A3 x.lies.length c3) ∧ W1.cell? ⟨wo.heap.size, 4, none⟩ = some (.slice A4 x.crosses.length c4) ∧ W1.cell? ⟨wo.heap.size, 5, none⟩ = some (.slice A5 x.parts.length c5) ∧ W1.cell? ⟨wo.heap.size, 6, none⟩ = some (.slice A6 x.over.length c6) ∧ W1.cell? ⟨wo.heap.size, 7, none⟩ = some (.slice A7 x.flanks.length c7) := ⟨_, rfl, below_alloc _ _, by simp, by simp, by simp, by simp, by simp, by simp, by simp, by simp, by simp⟩
      rw [← hW1]
      clear hW1 g0 g1 g2 g3 g4 g5 g6 g7
      have RX := Lib.hid (RX.out.below hB1)
      have HR := Lib.hid (Kn.R_move (fun b hbb => hB1.block b (Kn.R_lt HR.out b hbb)) HR.out)
      have hb1 := hb.trans (hB1.mono hb.size)
      have HL := Lib.hid (Kn.R_lt HR.out)
      clear hB1
      go_loopw [6, 20] (fun o i wr => ∃ m : Nat, m ≤ rs.length ∧ i = .int .i64 m ∧ Hid (Kn.int.Rw 3 wr nobody o ((rs.take m).map (excl x))) ∧ Hid (∀ b, o.ownBlock = some b → W1.heap.size ≤ b) ∧ Below W1.heap.size W1 wr) (fun _ i _ => rs.length - (intOf i).toNat)
      case atStart => exact ⟨0, Nat.zero_le _, rfl, Lib.hid (by rw [List.take_zero]; exact Kn.Rw.nil), Lib.hid (by simp [Value.ownBlock]), Below.refl _ _⟩
      case round =>
        obtain ⟨m, hmk, rfl, HI, HJ, hbi⟩ := hrel
        have hbj := hb1.trans (hbi.mono hb1.size)
        by_cases hlm : m < rs.length
        · obtain ⟨ad', he, y, E1, B2, B3, B4, B5, B6, B7, d2, d3, d4, d5, d6, d7, h0, h1, h2, h3, h4, h5, h6, h7, RY⟩ := rC_at (Kn.C_below hbj hr) m hlm
          obtain rfl := Option.some.inj he
          clear he
          have m1 : (0 : Int) ≤ (m : Int) := Int.natCast_nonneg _
          have m2 : (m : Int) < (rs.length : Int) := by omega
          have hyn := hn.out _ (mem_of_get E1.out)
          have e0 := cell_below hbi f0
          have e1 := cell_below hbi f1
          have e2 := cell_below hbi f2
          have e3 := cell_below hbi f3
          have e4 := cell_below hbi f4
          have e5 := cell_below hbi f5
          have e6 := cell_below hbi f6
          have e7 := cell_below hbi f7
          have hsx : wo.heap.size < wr.heap.size := by have := hbi.size; omega
          obtain ⟨W2, hW2, hB2, hs2, hs3, t0, t1, t2, t3, t4, t5, t6, t7, s0, s1, s2, s3, s4, s5, s6, s7⟩ : ∃ W2, W2 = wr.alloc (.cells #[.int .i64 y.frm, .int .i64 y.til, .slice B2 y.steps.length d2, .slice B3 y.lies.length d3, .slice B4 y.crosses.length d4, .slice B5 y.parts.length d5, .slice B6 y.over.length d6, .slice B7 y.flanks.length d7] 57) ∧ Below wr.heap.size wr W2 ∧ wr.heap.size < W2.heap.size ∧ wo.heap.size < W2.heap.size ∧ W2.cell? ⟨wo.heap.size, 0, none⟩ = some (.int .i64 x.frm) ∧ W2.cell? ⟨wo.heap.size, 1, none⟩ = some (.int .i64 x.til) ∧ W2.cell? ⟨wo.heap.size, 2, none⟩ = some (.slice A2 x.steps.length c2) ∧ W2.cell? ⟨wo.heap.size, 3, none⟩ = some (.slice A3 x.lies.length c3) ∧ W2.cell? ⟨wo.heap.size, 4, none⟩ = some (.slice A4 x.crosses.length c4) ∧ W2.cell? ⟨wo.heap.size, 5, none⟩ = some (.slice A5 x.parts.length c5) ∧ W2.cell? ⟨wo.heap.size, 6, none⟩ = some (.slice A6 x.over.length c6) ∧ W2.cell? ⟨wo.heap.size, 7, none⟩ = some (.slice A7 x.flanks.length c7) ∧ W2.cell? ⟨wr.heap.size, 0, none⟩ = some (.int .i64 y.frm) ∧ W2.cell? ⟨wr.heap.size, 1, none⟩ = some (.int .i64 y.til) ∧ W2.cell? ⟨wr.heap.size, 2, none⟩ = some (.slice B2 y.steps.length d2) ∧ W2.cell? ⟨wr.heap.size, 3, none⟩ = some (.slice B3 y.lies.length d3) ∧ W2.cell? ⟨wr.heap.size, 4, none⟩ = some (.slice B4 y.crosses.length d4) ∧ W2.cell? ⟨wr.heap.size, 5, none⟩ = some (.slice B5 y.parts.length d5) ∧ W2.cell? ⟨wr.heap.size, 6, none⟩ = some (.slice B6 y.over.length d6) ∧ W2.cell? ⟨wr.heap.size, 7, none⟩ = some (.slice B7 y.flanks.length d7) := ⟨_, rfl, below_alloc _ _, by simp, by have := hbi.size; simp; omega, cell_below (below_alloc _ _) e0, cell_below (below_alloc _ _) e1, cell_below (below_alloc _ _) e2, cell_below (below_alloc _ _) e3, cell_below (below_alloc _ _) e4, cell_below (below_alloc _ _) e5, cell_below (below_alloc _ _) e6, cell_below (below_alloc _ _) e7, by simp, by simp, by simp, by simp, by simp, by simp, by simp, by simp⟩
          go_wp2_with fail
          rw [← hW2]
          clear hW2 h0 h1 h2 h3 h4 h5 h6 h7 e0 e1 e2 e3 e4 e5 e6 e7 hsx
          refine (specExcludeC x y A2 A3 A4 A5 A6 A7 c2 c3 c4 c5 c6 c7 B2 B3 B4 B5 B6 B7 d2 d3 d4 d5 d6 d7 _ (RX.out.below (hbi.trans (hB2.mono hbi.size))) (RY.out.below hB2) hxn hyn).mono ?_
          rintro e w3 ⟨rfl, hb3⟩
          have hbx := hB2.trans (hb3.mono hB2.size)
          have hb4 := (hbi.trans (hbx.mono hbi.size)).alloc (by have := hbi.size; have := hbx.size; omega) (Obj.cells #[.int .i64 (excl x y)] 3)
          have HI := Lib.hid ((HI.out.below hbx).below (below_alloc w3 (.cells #[.int .i64 (excl x y)] 3)))
          clear t0 t1 t2 t3 t4 t5 t6 t7 s0 s1 s2 s3 s4 s5 s6 s7 hB2 hb3 RY hs2 hs3
          go_wp2_with (at_builtin; refine wpList_append_rw _ rfl (.tmp 24) (.tmp 28) 53 rfl 3 i0 _ 8 Try.underlying53 hi hz0 hz1 hz2 rfl (by decide) u6 ((rs.take m).map (excl x)) [excl x y] rfl HI.out (fun _ h => h.elim) (some ⟨w3.heap.size, 0, none⟩) 1 1 rfl rfl (Kn.Src.one rfl (new_cells _ [.int .i64 (excl x y)] _ rfl)) (by simp only [maxLen, List.length_map, List.length_take]; omega) (by simp only [List.length_map, List.length_take]; omega) ?_; intro v' w4 HI4 hg4 hat4)
          have HI5 : Hid (Kn.int.Rw 3 w4 nobody v' ((rs.take (m + 1)).map (excl x))) := Lib.hid (by rw [take_push E1.out, List.map_append]; exact HI4)
          have HJ5 := Lib.hid (own_next HJ.out hat4 hb4.size)
          have hb5 := below_push hb4 hg4 HJ.out hb4.size
          clear HI4 hg4 hat4 HI HJ hb4 hbx
          go_wp2
          go_roundw
          case rel => exact ⟨m + 1, by omega, by go_num, HI5, HJ5, hb5⟩
          case measure => simp [intOf]; omega
        · obtain rfl : m = rs.length := by omega
          have HI := Lib.hid (by rw [List.take_length] at HI; exact HI.out)
          have HR := Lib.hid (Kn.R_move (fun b hbb => hbi.block b (HL.out b hbb)) HR.out)
          obtain ⟨Ai, ci, rfl, hci, _⟩ := HI.out.form
          have HIo := Lib.hid (HI.out.own intK_flat)
          have HIl := Lib.hid HI.out.lt
          have hb6 := hbj.alloc hbj.size (Obj.cells #[.slice Ai (rs.map (excl x)).length ci] 53)
          have hbr := hbi.size
          clear HI hbi
          rw [List.length_map] at HIo HIl HJ hb6
          obtain ⟨hla, hlb⟩ : ps.length + 1 ≤ maxLen ∧ (ps.length + 1) * 24 ≤ 140737488355328 := ⟨by simp only [maxLen]; omega, by omega⟩
          go_wp2_with (at_builtin; refine wpList_append_R _ rfl (.tmp 31) (.tmp 33) 49 rfl 53 j0 _ 24 Try.underlying49 ji jz0 jz1 jz2 rfl (by decide) u3 ps rfl (Kn.R_move (fun b hbb => (below_alloc wr _).block b (by have := HL.out b hbb; omega)) HR.out) ⟨wr.heap.size, 0, none⟩ (rs.map (excl x)) [.slice Ai rs.length ci] (Value.slice Ai rs.length ci).ownBlock.toList 1 rfl (rowK.O_move (fun b hbb => (below_alloc wr _).block b (HIl.out b (by simpa using hbb))) HIo.out) (new_cells _ [.slice Ai rs.length ci] _ rfl) (fun b hbb hf => by have := HL.out b hf; have := HJ.out b (by simpa using hbb); omega) hla hlb ?_; intro v' w4 HR4 hg4 hat4)
          have HR5 := Lib.hid HR4
          have HP5 : Hid ((ps ++ [(rs.map (excl x), (Value.slice Ai rs.length ci).ownBlock.toList)]).map Prod.fst = (rs.take (k + 1)).map (fun a => rs.map (excl a))) := Lib.hid (by rw [List.map_append, HP.out, take_push E.out, List.map_append]; rfl)
          have HB5 := Lib.hid (foot_next (x := rs.map (excl x)) (F := (Value.slice Ai rs.length ci).ownBlock.toList) HB.out (fun b hbb => by have := HJ.out b (by simpa using hbb); have := hb1.size; omega) hat4 hb6.size)
          have hb7 := below_push hb6 hg4 (fun b h => HB.out b (Kn.mem_foot_own h)) hb6.size
          clear HR4 hg4 hat4 HR HP HB hb6 HIo HIl HJ
          go_wp2
          go_roundw
          case rel => exact ⟨k + 1, _, by omega, by go_num, HR5, HP5, HB5, hb7⟩
          case measure => simp [intOf]; omega
    · obtain rfl : k = rs.length := by omega
      have HP := Lib.hid (by rw [List.take_length] at HP; exact HP.out)
      obtain ⟨Ao, co, rfl, hco, _⟩ := Kn.R_len HR.out
      have hpl : ps.length = (tabF rs).length := by rw [HT.out, ← HP.out, List.length_map]
      go_wp2
      go_ret
      exact ⟨Ao, co, _, by rw [hpl]; rfl, ⟨_, ps, by rw [hpl], by rw [HT.out, HP.out], HR.out, rfl⟩, HB.out, hb⟩
set_option maxRecDepth 100000 in
set_option maxHeartbeats 8000000 in
theorem implTable {ok : Nat → Prop} (A : Option Addr) (c : Nat) (rs : List Route) (w : World) (hr : rK.C w ok A rs) (hn : Hid (∀ x ∈ rs, x.n ≤ 1048576)) :
    Calls Try.prog 46 #[.slice A rs.length c] w (RetS 53 rowK (tabF rs) w) := by
  have hm := hr.1
  by_cases q : 300 < rs.length
  · have HT : Hid (tabF rs = []) := Lib.hid (by unfold tabF; rw [if_pos q])
    go_enter Try.func46, Try.ntmps46
    go_wp2
    go_ret
    exact ⟨none, 0, [], by rw [HT.out]; rfl, by rw [HT.out]; exact ⟨_, [], rfl, rfl, R_nil, rfl⟩, by simp, Below.refl _ _⟩
  have HT : Hid (tabF rs = rs.map (fun a => rs.map (excl a))) := Lib.hid (by unfold tabF; rw [if_neg q])
  obtain ⟨i0, hi, hz0, hz1, hz2⟩ := info_parts info3
  obtain ⟨j0, ji, jz0, jz1, jz2⟩ := info_parts info53
  have hq : rs.length ≤ 300 := by omega
  clear q
  go_enter Try.func46, Try.ntmps46
  go_wp2
  go_loopw [3, 14] (fun o i wr => ∃ (k : Nat) (ps : List (List Int × List Nat)), k ≤ rs.length ∧ i = .int .i64 k ∧ Hid (rowK.R 53 wr o ps) ∧ Hid (ps.map Prod.fst = (rs.take k).map (fun a => rs.map (excl a))) ∧ Hid (∀ b, b ∈ Kn.foot o ps → w.heap.size ≤ b) ∧ Below w.heap.size w wr) (fun _ i _ => rs.length - (intOf i).toNat)
  case atStart => exact ⟨0, [], Nat.zero_le _, rfl, Lib.hid R_nil, Lib.hid (by simp), Lib.hid (by simp [Kn.foot, Value.ownBlock]), Below.refl _ _⟩
  case round =>
    obtain ⟨k, ps, hk, rfl, HR, HP, HB, hb⟩ := hrel
    obtain ⟨wo, rfl⟩ : ∃ wo : World, wo = wr := ⟨_, rfl⟩
    by_cases hlt : k < rs.length
    · obtain ⟨ad, rfl, x, E, A2, A3, A4, A5, A6, A7, c2, c3, c4, c5, c6, c7, g0, g1, g2, g3, g4, g5, g6, g7, RX⟩ := rC_at (Kn.C_below hb hr) k hlt
      have i1 : (0 : Int) ≤ (k : Int) := Int.natCast_nonneg _
      have i2 : (k : Int) < (rs.length : Int) := by omega
      have hxn := hn.out _ (mem_of_get E.out)
      have hpl : ps.length = k := by have := congrArg List.length HP.out; rw [List.length_map, List.length_map, List.length_take] at this; omega
      go_wp2
      obtain ⟨W1, hW1, hB1, hs1, f0, f1, f2, f3, f4, f5, f6, f7⟩ : ∃ W1, W1 = wo.alloc (.cells #[.int .i64 x.frm, .int .i64 x.til, .slice A2 x.steps.length c2, .slice A3 x.lies.length c3, .slice A4 x.crosses.length c4, .slice A5 x.parts.length c5, .slice A6 x.over.length c6, .slice A7 x.flanks.length c7] 57) ∧ Below wo.heap.size wo W1 ∧ wo.heap.size < W1.heap.size ∧ W1.cell? ⟨wo.heap.size, 0, none⟩ = some (.int .i64 x.frm) ∧ W1.cell? ⟨wo.heap.size, 1, none⟩ = some (.int .i64 x.til) ∧ W1.cell? ⟨wo.heap.size, 2, none⟩ = some (.slice A2 x.steps.length c2) ∧ W1.cell? ⟨wo.heap.size, 3, none⟩ = some (.slice A3 x.lies.length c3) ∧ W1.cell? ⟨wo.heap.size, 4, none⟩ = some (.slice A4 x.crosses.length c4) ∧ W1.cell? ⟨wo.heap.size, 5, none⟩ = some (.slice A5 x.parts.length c5) ∧ W1.cell? ⟨wo.heap.size, 6, none⟩ = some (.slice A6 x.over.length c6) ∧ W1.cell? ⟨wo.heap.size, 7, none⟩ = some (.slice A7 x.flanks.length c7) := ⟨_, rfl, below_alloc _ _, by simp, by simp, by simp, by simp, by simp, by simp, by simp, by simp, by simp⟩
      rw [← hW1]
      clear hW1 g0 g1 g2 g3 g4 g5 g6 g7
      have RX := Lib.hid (RX.out.below hB1)
      have HR := Lib.hid (Kn.R_move (fun b hbb => hB1.block b (Kn.R_lt HR.out b hbb)) HR.out)
      have hb1 := hb.trans (hB1.mono hb.size)
      have HL := Lib.hid (Kn.R_lt HR.out)
      clear hB1
      go_loopw [6, 20] (fun o i wr => ∃ m : Nat, m ≤ rs.length ∧ i = .int .i64 m ∧ Hid (Kn.int.Rw 3 wr nobody o ((rs.take m).map (excl x))) ∧ Hid (∀ b, o.ownBlock = some b → W1.heap.size ≤ b) ∧ Below W1.heap.size W1 wr) (fun _ i _ => rs.length - (intOf i).toNat)
      case atStart => exact ⟨0, Nat.zero_le _, rfl, Lib.hid (by rw [List.take_zero]; exact Kn.Rw.nil), Lib.hid (by simp [Value.ownBlock]), Below.refl _ _⟩
      case round =>
        obtain ⟨m, hmk, rfl, HI, HJ, hbi⟩ := hrel
        have hbj := hb1.trans (hbi.mono hb1.size)
        by_cases hlm : m < rs.length
        · obtain ⟨ad', he, y, E1, B2, B3, B4, B5, B6, B7, d2, d3, d4, d5, d6, d7, h0, h1, h2, h3, h4, h5, h6, h7, RY⟩ := rC_at (Kn.C_below hbj hr) m hlm
          obtain rfl := Option.some.inj he
          clear he
          have m1 : (0 : Int) ≤ (m : Int) := Int.natCast_nonneg _
          have m2 : (m : Int) < (rs.length : Int) := by omega
          have hyn := hn.out _ (mem_of_get E1.out)
          have e0 := cell_below hbi f0
          have e1 := cell_below hbi f1
          have e2 := cell_below hbi f2
          have e3 := cell_below hbi f3
          have e4 := cell_below hbi f4
          have e5 := cell_below hbi f5
          have e6 := cell_below hbi f6
          have e7 := cell_below hbi f7
          have hsx : wo.heap.size < wr.heap.size := by have := hbi.size; omega
          obtain ⟨W2, hW2, hB2, hs2, hs3, t0, t1, t2, t3, t4, t5, t6, t7, s0, s1, s2, s3, s4, s5, s6, s7⟩ : ∃ W2, W2 = wr.alloc (.cells #[.int .i64 y.frm, .int .i64 y.til, .slice B2 y.steps.length d2, .slice B3 y.lies.length d3, .slice B4 y.crosses.length d4, .slice B5 y.parts.length d5, .slice B6 y.over.length d6, .slice B7 y.flanks.length d7] 57) ∧ Below wr.heap.size wr W2 ∧ wr.heap.size < W2.heap.size ∧ wo.heap.size < W2.heap.size ∧ W2.cell? ⟨wo.heap.size, 0, none⟩ = some (.int .i64 x.frm) ∧ W2.cell? ⟨wo.heap.size, 1, none⟩ = some (.int .i64 x.til) ∧ W2.cell? ⟨wo.heap.size, 2, none⟩ = some (.slice A2 x.steps.length c2) ∧ W2.cell? ⟨wo.heap.size, 3, none⟩ = some (.slice A3 x.lies.length c3) ∧ W2.cell? ⟨wo.heap.size, 4, none⟩ = some (.slice A4 x.crosses.length c4) ∧ W2.cell? ⟨wo.heap.size, 5, none⟩ = some (.slice A5 x.parts.length c5) ∧ W2.cell? ⟨wo.heap.size, 6, none⟩ = some (.slice A6 x.over.length c6) ∧ W2.cell? ⟨wo.heap.size, 7, none⟩ = some (.slice A7 x.flanks.length c7) ∧ W2.cell? ⟨wr.heap.size, 0, none⟩ = some (.int .i64 y.frm) ∧ W2.cell? ⟨wr.heap.size, 1, none⟩ = some (.int .i64 y.til) ∧ W2.cell? ⟨wr.heap.size, 2, none⟩ = some (.slice B2 y.steps.length d2) ∧ W2.cell? ⟨wr.heap.size, 3, none⟩ = some (.slice B3 y.lies.length d3) ∧ W2.cell? ⟨wr.heap.size, 4, none⟩ = some (.slice B4 y.crosses.length d4) ∧ W2.cell? ⟨wr.heap.size, 5, none⟩ = some (.slice B5 y.parts.length d5) ∧ W2.cell? ⟨wr.heap.size, 6, none⟩ = some (.slice B6 y.over.length d6) ∧ W2.cell? ⟨wr.heap.size, 7, none⟩ = some (.slice B7 y.flanks.length d7) := ⟨_, rfl, below_alloc _ _, by simp, by have := hbi.size; simp; omega, cell_below (below_alloc _ _) e0, cell_below (below_alloc _ _) e1, cell_below (below_alloc _ _) e2, cell_below (below_alloc _ _) e3, cell_below (below_alloc _ _) e4, cell_below (below_alloc _ _) e5, cell_below (below_alloc _ _) e6, cell_below (below_alloc _ _) e7, by simp, by simp, by simp, by simp, by simp, by simp, by simp, by simp⟩
          go_wp2_with fail
          rw [← hW2]
          clear hW2 h0 h1 h2 h3 h4 h5 h6 h7 e0 e1 e2 e3 e4 e5 e6 e7 hsx
          refine (implExcludeC x y A2 A3 A4 A5 A6 A7 c2 c3 c4 c5 c6 c7 B2 B3 B4 B5 B6 B7 d2 d3 d4 d5 d6 d7 _ (RX.out.below (hbi.trans (hB2.mono hbi.size))) (RY.out.below hB2) hxn hyn).mono ?_
          rintro e w3 ⟨rfl, hb3⟩
          have hbx := hB2.trans (hb3.mono hB2.size)
          have hb4 := (hbi.trans (hbx.mono hbi.size)).alloc (by have := hbi.size; have := hbx.size; omega) (Obj.cells #[.int .i64 (excl x y)] 3)
          have HI := Lib.hid ((HI.out.below hbx).below (below_alloc w3 (.cells #[.int .i64 (excl x y)] 3)))
          clear t0 t1 t2 t3 t4 t5 t6 t7 s0 s1 s2 s3 s4 s5 s6 s7 hB2 hb3 RY hs2 hs3
          go_wp2_with (at_builtin; refine wpList_append_rw _ rfl (.tmp 24) (.tmp 28) 53 rfl 3 i0 _ 8 Try.underlying53 hi hz0 hz1 hz2 rfl (by decide) u6 ((rs.take m).map (excl x)) [excl x y] rfl HI.out (fun _ h => h.elim) (some ⟨w3.heap.size, 0, none⟩) 1 1 rfl rfl (Kn.Src.one rfl (new_cells _ [.int .i64 (excl x y)] _ rfl)) (by simp only [maxLen, List.length_map, List.length_take]; omega) (by simp only [List.length_map, List.length_take]; omega) ?_; intro v' w4 HI4 hg4 hat4)
          have HI5 : Hid (Kn.int.Rw 3 w4 nobody v' ((rs.take (m + 1)).map (excl x))) := Lib.hid (by rw [take_push E1.out, List.map_append]; exact HI4)
          have HJ5 := Lib.hid (own_next HJ.out hat4 hb4.size)
          have hb5 := below_push hb4 hg4 HJ.out hb4.size
          clear HI4 hg4 hat4 HI HJ hb4 hbx
          go_wp2
          go_roundw
          case rel => exact ⟨m + 1, by omega, by go_num, HI5, HJ5, hb5⟩
          case measure => simp [intOf]; omega
        · obtain rfl : m = rs.length := by omega
          have HI := Lib.hid (by rw [List.take_length] at HI; exact HI.out)
          have HR := Lib.hid (Kn.R_move (fun b hbb => hbi.block b (HL.out b hbb)) HR.out)
          obtain ⟨Ai, ci, rfl, hci, _⟩ := HI.out.form
          have HIo := Lib.hid (HI.out.own intK_flat)
          have HIl := Lib.hid HI.out.lt
          have hb6 := hbj.alloc hbj.size (Obj.cells #[.slice Ai (rs.map (excl x)).length ci] 53)
          have hbr := hbi.size
          clear HI hbi
          rw [List.length_map] at HIo HIl HJ hb6
          obtain ⟨hla, hlb⟩ : ps.length + 1 ≤ maxLen ∧ (ps.length + 1) * 24 ≤ 140737488355328 := ⟨by simp only [maxLen]; omega, by omega⟩
          go_wp2_with (at_builtin; refine wpList_append_R _ rfl (.tmp 31) (.tmp 33) 49 rfl 53 j0 _ 24 Try.underlying49 ji jz0 jz1 jz2 rfl (by decide) u3 ps rfl (Kn.R_move (fun b hbb => (below_alloc wr _).block b (by have := HL.out b hbb; omega)) HR.out) ⟨wr.heap.size, 0, none⟩ (rs.map (excl x)) [.slice Ai rs.length ci] (Value.slice Ai rs.length ci).ownBlock.toList 1 rfl (rowK.O_move (fun b hbb => (below_alloc wr _).block b (HIl.out b (by simpa using hbb))) HIo.out) (new_cells _ [.slice Ai rs.length ci] _ rfl) (fun b hbb hf => by have := HL.out b hf; have := HJ.out b (by simpa using hbb); omega) hla hlb ?_; intro v' w4 HR4 hg4 hat4)
          have HR5 := Lib.hid HR4
          have HP5 : Hid ((ps ++ [(rs.map (excl x), (Value.slice Ai rs.length ci).ownBlock.toList)]).map Prod.fst = (rs.take (k + 1)).map (fun a => rs.map (excl a))) := Lib.hid (by rw [List.map_append, HP.out, take_push E.out, List.map_append]; rfl)
          have HB5 := Lib.hid (foot_next (x := rs.map (excl x)) (F := (Value.slice Ai rs.length ci).ownBlock.toList) HB.out (fun b hbb => by have := HJ.out b (by simpa using hbb); have := hb1.size; omega) hat4 hb6.size)
          have hb7 := below_push hb6 hg4 (fun b h => HB.out b (Kn.mem_foot_own h)) hb6.size
          clear HR4 hg4 hat4 HR HP HB hb6 HIo HIl HJ
          go_wp2
          go_roundw
          case rel => exact ⟨k + 1, _, by omega, by go_num, HR5, HP5, HB5, hb7⟩
          case measure => simp [intOf]; omega
    · obtain rfl : k = rs.length := by omega
      have HP := Lib.hid (by rw [List.take_length] at HP; exact HP.out)
      obtain ⟨Ao, co, rfl, hco, _⟩ := Kn.R_len HR.out
      have hpl : ps.length = (tabF rs).length := by rw [HT.out, ← HP.out, List.length_map]
      go_wp2
      go_ret
      exact ⟨Ao, co, _, by rw [hpl]; rfl, ⟨_, ps, by rw [hpl], by rw [HT.out, HP.out], HR.out, rfl⟩, HB.out, hb⟩
end Go.Proofs.Ytginpmhjpjcahaa.L
