/- The law FnExactExclude, walked: it answers true. -/
import Derived.Test.YtginpmhjpjcahaaRC
import Derived.Test.YtginpmhjpjcahaaLNet
namespace Go.Proofs.Ytginpmhjpjcahaa.L
open Go.RowKit
set_option linter.unusedVariables false
set_option linter.unusedSimpArgs false
set_option maxRecDepth 100000 in
set_option maxHeartbeats 8000000 in
theorem lawExclude {ok : Nat → Prop} (x y : Route) (A2 A3 A4 A5 A6 A7 B2 B3 B4 B5 B6 B7 : Option Addr) (c2 c3 c4 c5 c6 c7 d2 d3 d4 d5 d6 d7 : Nat) (w : World) (hx : RC w ok x A2 A3 A4 A5 A6 A7) (hy : RC w ok y B2 B3 B4 B5 B6 B7) :
    Calls Try.prog 6 #[.agg #[.int .i64 x.frm, .int .i64 x.til, .slice A2 x.steps.length c2, .slice A3 x.lies.length c3, .slice A4 x.crosses.length c4, .slice A5 x.parts.length c5, .slice A6 x.over.length c6, .slice A7 x.flanks.length c7], .agg #[.int .i64 y.frm, .int .i64 y.til, .slice B2 y.steps.length d2, .slice B3 y.lies.length d3, .slice B4 y.crosses.length d4, .slice B5 y.parts.length d5, .slice B6 y.over.length d6, .slice B7 y.flanks.length d7]] w (RetB true w) := by
  obtain ⟨W0, hW0, HB0, hs0, hs1, f0, f1, f2, f3, f4, f5, f6, f7, e0, e1, e2, e3, e4, e5, e6, e7, HX, HY⟩ : ∃ W0, W0 = (w.alloc (.cells #[.int .i64 x.frm, .int .i64 x.til, .slice A2 x.steps.length c2, .slice A3 x.lies.length c3, .slice A4 x.crosses.length c4, .slice A5 x.parts.length c5, .slice A6 x.over.length c6, .slice A7 x.flanks.length c7] 73)).alloc (.cells #[.int .i64 y.frm, .int .i64 y.til, .slice B2 y.steps.length d2, .slice B3 y.lies.length d3, .slice B4 y.crosses.length d4, .slice B5 y.parts.length d5, .slice B6 y.over.length d6, .slice B7 y.flanks.length d7] 73) ∧ Below w.heap.size w W0 ∧ w.heap.size < W0.heap.size ∧ w.heap.size + 1 < W0.heap.size ∧
    W0.cell? ⟨w.heap.size, 0, none⟩ = some (.int .i64 x.frm) ∧ W0.cell? ⟨w.heap.size, 1, none⟩ = some (.int .i64 x.til) ∧ W0.cell? ⟨w.heap.size, 2, none⟩ = some (.slice A2 x.steps.length c2) ∧ W0.cell? ⟨w.heap.size, 3, none⟩ = some (.slice A3 x.lies.length c3) ∧ W0.cell? ⟨w.heap.size, 4, none⟩ = some (.slice A4 x.crosses.length c4) ∧ W0.cell? ⟨w.heap.size, 5, none⟩ = some (.slice A5 x.parts.length c5) ∧ W0.cell? ⟨w.heap.size, 6, none⟩ = some (.slice A6 x.over.length c6) ∧ W0.cell? ⟨w.heap.size, 7, none⟩ = some (.slice A7 x.flanks.length c7) ∧ W0.cell? ⟨w.heap.size + 1, 0, none⟩ = some (.int .i64 y.frm) ∧ W0.cell? ⟨w.heap.size + 1, 1, none⟩ = some (.int .i64 y.til) ∧ W0.cell? ⟨w.heap.size + 1, 2, none⟩ = some (.slice B2 y.steps.length d2) ∧ W0.cell? ⟨w.heap.size + 1, 3, none⟩ = some (.slice B3 y.lies.length d3) ∧ W0.cell? ⟨w.heap.size + 1, 4, none⟩ = some (.slice B4 y.crosses.length d4) ∧ W0.cell? ⟨w.heap.size + 1, 5, none⟩ = some (.slice B5 y.parts.length d5) ∧ W0.cell? ⟨w.heap.size + 1, 6, none⟩ = some (.slice B6 y.over.length d6) ∧ W0.cell? ⟨w.heap.size + 1, 7, none⟩ = some (.slice B7 y.flanks.length d7) ∧ Hid (RC W0 ok x A2 A3 A4 A5 A6 A7) ∧ Hid (RC W0 ok y B2 B3 B4 B5 B6 B7) := ⟨_, rfl, (below_alloc _ _).alloc (by simp) _, by simp; omega, by simp, by simp, by simp, by simp, by simp, by simp, by simp, by simp, by simp, by simp, by simp, by simp, by simp, by simp, by simp, by simp, by simp, Lib.hid (hx.below ((below_alloc _ _).alloc (by simp) _)), Lib.hid (hy.below ((below_alloc _ _).alloc (by simp) _))⟩
  clear hx hy
  by_cases n1 : x.n ≤ 1048576
  rotate_left
  · have hc : Hid (cut (1048576 - (x.n : Nat)) = -1) := Lib.hid (cut_neg (by omega))
    go_enter Try.func6, Try.ntmps6
    go_wp2_with fail
    rw [← hW0]
    clear hW0
    refine (szRouteC x A2 A3 A4 A5 A6 A7 c2 c3 c4 c5 c6 c7 _ _ HX.out (by omega) (by omega)).mono ?_
    rintro e w1 ⟨rfl, hb1⟩
    rw [hc.out]
    go_wp2
    go_ret
    exact ⟨rfl, HB0.trans (hb1.mono HB0.size)⟩
  have hc1 : Hid (cut (1048576 - (x.n : Nat)) = 1048576 - (x.n : Nat)) := Lib.hid (cut_pos (by omega))
  by_cases n2 : x.n + y.n ≤ 1048576
  rotate_left
  · have hc2 : Hid (cut (1048576 - (x.n : Nat) - (y.n : Nat)) = -1) := Lib.hid (cut_neg (by omega))
    go_enter Try.func6, Try.ntmps6
    go_wp2_with fail
    rw [← hW0]
    clear hW0
    refine (szRouteC x A2 A3 A4 A5 A6 A7 c2 c3 c4 c5 c6 c7 _ _ HX.out (by omega) (by omega)).mono ?_
    rintro e w1 ⟨rfl, hb1⟩
    rw [hc1.out]
    have hs2 : w.heap.size + 1 < w1.heap.size := by have := hb1.size; omega
    have a0 := cell_below hb1 f0
    have a1 := cell_below hb1 f1
    have a2 := cell_below hb1 f2
    have a3 := cell_below hb1 f3
    have a4 := cell_below hb1 f4
    have a5 := cell_below hb1 f5
    have a6 := cell_below hb1 f6
    have a7 := cell_below hb1 f7
    have b0 := cell_below hb1 e0
    have b1 := cell_below hb1 e1
    have b2 := cell_below hb1 e2
    have b3 := cell_below hb1 e3
    have b4 := cell_below hb1 e4
    have b5 := cell_below hb1 e5
    have b6 := cell_below hb1 e6
    have b7 := cell_below hb1 e7
    clear f0 f1 f2 f3 f4 f5 f6 f7 e0 e1 e2 e3 e4 e5 e6 e7
    go_wp2_with fail
    refine (szRouteC y B2 B3 B4 B5 B6 B7 d2 d3 d4 d5 d6 d7 _ _ (HY.out.below hb1) (by omega) (by omega)).mono ?_
    rintro e w2 ⟨rfl, hb2⟩
    rw [hc2.out]
    go_wp2
    go_ret
    exact ⟨rfl, HB0.trans ((hb1.trans (hb2.mono hb1.size)).mono HB0.size)⟩
  have hc2 : Hid (cut (1048576 - (x.n : Nat) - (y.n : Nat)) = 1048576 - (x.n : Nat) - (y.n : Nat)) := Lib.hid (cut_pos (by omega))
  have hny : y.n ≤ 1048576 := by omega
  have HV : Hid (eqv x x = true) := Lib.hid (eqv_self _)
  have HU : Hid (eqv y y = true) := Lib.hid (eqv_self _)
  go_enter Try.func6, Try.ntmps6
  go_wp2_with fail
  rw [← hW0]
  clear hW0
  refine (szRouteC x A2 A3 A4 A5 A6 A7 c2 c3 c4 c5 c6 c7 _ _ HX.out (by omega) (by omega)).mono ?_
  rintro e w1 ⟨rfl, hb1⟩
  rw [hc1.out]
  have hs2 : w.heap.size + 1 < w1.heap.size := by have := hb1.size; omega
  have a0 := cell_below hb1 f0
  have a1 := cell_below hb1 f1
  have a2 := cell_below hb1 f2
  have a3 := cell_below hb1 f3
  have a4 := cell_below hb1 f4
  have a5 := cell_below hb1 f5
  have a6 := cell_below hb1 f6
  have a7 := cell_below hb1 f7
  have b0 := cell_below hb1 e0
  have b1 := cell_below hb1 e1
  have b2 := cell_below hb1 e2
  have b3 := cell_below hb1 e3
  have b4 := cell_below hb1 e4
  have b5 := cell_below hb1 e5
  have b6 := cell_below hb1 e6
  have b7 := cell_below hb1 e7
  clear f0 f1 f2 f3 f4 f5 f6 f7 e0 e1 e2 e3 e4 e5 e6 e7
  go_wp2_with fail
  refine (szRouteC y B2 B3 B4 B5 B6 B7 d2 d3 d4 d5 d6 d7 _ _ (HY.out.below hb1) (by omega) (by omega)).mono ?_
  rintro e w2 ⟨rfl, hb2⟩
  rw [hc2.out]
  have hB2 := hb1.trans (hb2.mono hb1.size)
  have hs3 : w.heap.size < w2.heap.size := by have := hB2.size; omega
  have hs4 : w.heap.size + 1 < w2.heap.size := by have := hB2.size; omega
  have f0 := cell_below hb2 a0
  have f1 := cell_below hb2 a1
  have f2 := cell_below hb2 a2
  have f3 := cell_below hb2 a3
  have f4 := cell_below hb2 a4
  have f5 := cell_below hb2 a5
  have f6 := cell_below hb2 a6
  have f7 := cell_below hb2 a7
  have e0 := cell_below hb2 b0
  have e1 := cell_below hb2 b1
  have e2 := cell_below hb2 b2
  have e3 := cell_below hb2 b3
  have e4 := cell_below hb2 b4
  have e5 := cell_below hb2 b5
  have e6 := cell_below hb2 b6
  have e7 := cell_below hb2 b7
  have HX := Lib.hid (HX.out.below hB2).drew
  have HY := Lib.hid (HY.out.below hB2).drew
  have HBB := Lib.hid (HB0.trans (hB2.mono HB0.size)).drew
  clear a0 a1 a2 a3 a4 a5 a6 a7 b0 b1 b2 b3 b4 b5 b6 b7 hs0 hs1 hs2 hb1 hb2 hB2 HB0
  go_wp2_with fail
  go_region_held3 (fun w' => w'.cell? ⟨w.heap.size, 0, none⟩ = some (.int .i64 x.frm) ∧ w'.cell? ⟨w.heap.size, 1, none⟩ = some (.int .i64 x.til) ∧ w'.cell? ⟨w.heap.size, 2, none⟩ = some (.slice A2 x.steps.length c2) ∧ w'.cell? ⟨w.heap.size, 3, none⟩ = some (.slice A3 x.lies.length c3) ∧ w'.cell? ⟨w.heap.size, 4, none⟩ = some (.slice A4 x.crosses.length c4) ∧ w'.cell? ⟨w.heap.size, 5, none⟩ = some (.slice A5 x.parts.length c5) ∧ w'.cell? ⟨w.heap.size, 6, none⟩ = some (.slice A6 x.over.length c6) ∧ w'.cell? ⟨w.heap.size, 7, none⟩ = some (.slice A7 x.flanks.length c7) ∧ w'.cell? ⟨w.heap.size + 1, 0, none⟩ = some (.int .i64 y.frm) ∧ w'.cell? ⟨w.heap.size + 1, 1, none⟩ = some (.int .i64 y.til) ∧ w'.cell? ⟨w.heap.size + 1, 2, none⟩ = some (.slice B2 y.steps.length d2) ∧ w'.cell? ⟨w.heap.size + 1, 3, none⟩ = some (.slice B3 y.lies.length d3) ∧ w'.cell? ⟨w.heap.size + 1, 4, none⟩ = some (.slice B4 y.crosses.length d4) ∧ w'.cell? ⟨w.heap.size + 1, 5, none⟩ = some (.slice B5 y.parts.length d5) ∧ w'.cell? ⟨w.heap.size + 1, 6, none⟩ = some (.slice B6 y.over.length d6) ∧ w'.cell? ⟨w.heap.size + 1, 7, none⟩ = some (.slice B7 y.flanks.length d7))
    (first | exact ⟨cell_below hb9 (cell_below hb8 (cell_below hb7 f0)), cell_below hb9 (cell_below hb8 (cell_below hb7 f1)), cell_below hb9 (cell_below hb8 (cell_below hb7 f2)), cell_below hb9 (cell_below hb8 (cell_below hb7 f3)), cell_below hb9 (cell_below hb8 (cell_below hb7 f4)), cell_below hb9 (cell_below hb8 (cell_below hb7 f5)), cell_below hb9 (cell_below hb8 (cell_below hb7 f6)), cell_below hb9 (cell_below hb8 (cell_below hb7 f7)), cell_below hb9 (cell_below hb8 (cell_below hb7 e0)), cell_below hb9 (cell_below hb8 (cell_below hb7 e1)), cell_below hb9 (cell_below hb8 (cell_below hb7 e2)), cell_below hb9 (cell_below hb8 (cell_below hb7 e3)), cell_below hb9 (cell_below hb8 (cell_below hb7 e4)), cell_below hb9 (cell_below hb8 (cell_below hb7 e5)), cell_below hb9 (cell_below hb8 (cell_below hb7 e6)), cell_below hb9 (cell_below hb8 (cell_below hb7 e7))⟩ | exact ⟨cell_below hb8 (cell_below hb7 f0), cell_below hb8 (cell_below hb7 f1), cell_below hb8 (cell_below hb7 f2), cell_below hb8 (cell_below hb7 f3), cell_below hb8 (cell_below hb7 f4), cell_below hb8 (cell_below hb7 f5), cell_below hb8 (cell_below hb7 f6), cell_below hb8 (cell_below hb7 f7), cell_below hb8 (cell_below hb7 e0), cell_below hb8 (cell_below hb7 e1), cell_below hb8 (cell_below hb7 e2), cell_below hb8 (cell_below hb7 e3), cell_below hb8 (cell_below hb7 e4), cell_below hb8 (cell_below hb7 e5), cell_below hb8 (cell_below hb7 e6), cell_below hb8 (cell_below hb7 e7)⟩ | exact ⟨cell_below hb7 f0, cell_below hb7 f1, cell_below hb7 f2, cell_below hb7 f3, cell_below hb7 f4, cell_below hb7 f5, cell_below hb7 f6, cell_below hb7 f7, cell_below hb7 e0, cell_below hb7 e1, cell_below hb7 e2, cell_below hb7 e3, cell_below hb7 e4, cell_below hb7 e5, cell_below hb7 e6, cell_below hb7 e7⟩ | go_keep)
    (first | (go_at_call 30; (with_reducible refine (toRouteC x A2 A3 A4 A5 A6 A7 c2 c3 c4 c5 c6 c7 _ (HX.out) n1).mono ?_); intro e w7 hr; obtain ⟨P2, P3, P4, P5, P6, P7, Pc2, Pc3, Pc4, Pc5, Pc6, Pc7, rfl, q7, hb7⟩ := RetRoute.opened hr; clear hr)
           | (go_at_call 30; (with_reducible refine (toRouteC y B2 B3 B4 B5 B6 B7 d2 d3 d4 d5 d6 d7 _ (HY.out.below hb7) hny).mono ?_); intro e w8 hr; obtain ⟨Q2, Q3, Q4, Q5, Q6, Q7, Qc2, Qc3, Qc4, Qc5, Qc6, Qc7, rfl, q8, hb8⟩ := RetRoute.opened hr; clear hr)
           | (go_at_call 29; (with_reducible refine (specExcludeC x y P2 P3 P4 P5 P6 P7 Pc2 Pc3 Pc4 Pc5 Pc6 Pc7 Q2 Q3 Q4 Q5 Q6 Q7 Qc2 Qc3 Qc4 Qc5 Qc6 Qc7 _ (q7.out.below hb8) (q8.out) n1 hny).mono ?_); rintro e w9 ⟨rfl, hb9⟩))
  have k9 : Below w2.drew.heap.size w2.drew w9 := (hb7.trans (hb8.mono hb7.size)).trans (hb9.mono (Nat.le_trans hb7.size hb8.size))
  have a0 := cell_below k9 f0
  have a1 := cell_below k9 f1
  have a2 := cell_below k9 f2
  have a3 := cell_below k9 f3
  have a4 := cell_below k9 f4
  have a5 := cell_below k9 f5
  have a6 := cell_below k9 f6
  have a7 := cell_below k9 f7
  have b0 := cell_below k9 e0
  have b1 := cell_below k9 e1
  have b2 := cell_below k9 e2
  have b3 := cell_below k9 e3
  have b4 := cell_below k9 e4
  have b5 := cell_below k9 e5
  have b6 := cell_below k9 e6
  have b7 := cell_below k9 e7
  have HX := Lib.hid (HX.out.below k9)
  have HY := Lib.hid (HY.out.below k9)
  have HBB := Lib.hid (HBB.out.trans (k9.mono HBB.out.size))
  have hs5 : w.heap.size < w9.heap.size := by have := k9.size; simp at this; omega
  have hs6 : w.heap.size + 1 < w9.heap.size := by have := k9.size; simp at this; omega
  clear f0 f1 f2 f3 f4 f5 f6 f7 e0 e1 e2 e3 e4 e5 e6 e7 hs3 hs4 k9 hb7 hb8 hb9 q7 q8
  go_wp2_with fail
  refine (toRouteC x A2 A3 A4 A5 A6 A7 c2 c3 c4 c5 c6 c7 _ HX.out n1).mono ?_
  intro e w10 hr
  obtain ⟨P2, P3, P4, P5, P6, P7, Pc2, Pc3, Pc4, Pc5, Pc6, Pc7, rfl, qx, hb10⟩ := RetRoute.opened hr; clear hr
  have hs7 : w.heap.size < w10.heap.size := by have := hb10.size; omega
  have hs8 : w.heap.size + 1 < w10.heap.size := by have := hb10.size; omega
  have f0 := cell_below hb10 a0
  have f1 := cell_below hb10 a1
  have f2 := cell_below hb10 a2
  have f3 := cell_below hb10 a3
  have f4 := cell_below hb10 a4
  have f5 := cell_below hb10 a5
  have f6 := cell_below hb10 a6
  have f7 := cell_below hb10 a7
  have e0 := cell_below hb10 b0
  have e1 := cell_below hb10 b1
  have e2 := cell_below hb10 b2
  have e3 := cell_below hb10 b3
  have e4 := cell_below hb10 b4
  have e5 := cell_below hb10 b5
  have e6 := cell_below hb10 b6
  have e7 := cell_below hb10 b7
  have HX := Lib.hid (HX.out.below hb10)
  have HY := Lib.hid (HY.out.below hb10)
  have HBB := Lib.hid (HBB.out.trans (hb10.mono HBB.out.size))
  clear a0 a1 a2 a3 a4 a5 a6 a7 b0 b1 b2 b3 b4 b5 b6 b7 hs5 hs6 hb10
  obtain ⟨W1, hW1, hB1, hs9, hs10, hs11, a0, a1, a2, a3, a4, a5, a6, a7, b0, b1, b2, b3, b4, b5, b6, b7, u0, u1, u2, u3, u4, u5, u6, u7⟩ : ∃ W, W = w10.alloc (.cells #[.int .i64 x.frm, .int .i64 x.til, .slice P2 x.steps.length Pc2, .slice P3 x.lies.length Pc3, .slice P4 x.crosses.length Pc4, .slice P5 x.parts.length Pc5, .slice P6 x.over.length Pc6, .slice P7 x.flanks.length Pc7] 57) ∧ Below w10.heap.size w10 W ∧ w.heap.size < W.heap.size ∧ w.heap.size + 1 < W.heap.size ∧ w10.heap.size < W.heap.size ∧ W.cell? ⟨w.heap.size, 0, none⟩ = some (.int .i64 x.frm) ∧ W.cell? ⟨w.heap.size, 1, none⟩ = some (.int .i64 x.til) ∧ W.cell? ⟨w.heap.size, 2, none⟩ = some (.slice A2 x.steps.length c2) ∧ W.cell? ⟨w.heap.size, 3, none⟩ = some (.slice A3 x.lies.length c3) ∧ W.cell? ⟨w.heap.size, 4, none⟩ = some (.slice A4 x.crosses.length c4) ∧ W.cell? ⟨w.heap.size, 5, none⟩ = some (.slice A5 x.parts.length c5) ∧ W.cell? ⟨w.heap.size, 6, none⟩ = some (.slice A6 x.over.length c6) ∧ W.cell? ⟨w.heap.size, 7, none⟩ = some (.slice A7 x.flanks.length c7) ∧ W.cell? ⟨w.heap.size + 1, 0, none⟩ = some (.int .i64 y.frm) ∧ W.cell? ⟨w.heap.size + 1, 1, none⟩ = some (.int .i64 y.til) ∧ W.cell? ⟨w.heap.size + 1, 2, none⟩ = some (.slice B2 y.steps.length d2) ∧ W.cell? ⟨w.heap.size + 1, 3, none⟩ = some (.slice B3 y.lies.length d3) ∧ W.cell? ⟨w.heap.size + 1, 4, none⟩ = some (.slice B4 y.crosses.length d4) ∧ W.cell? ⟨w.heap.size + 1, 5, none⟩ = some (.slice B5 y.parts.length d5) ∧ W.cell? ⟨w.heap.size + 1, 6, none⟩ = some (.slice B6 y.over.length d6) ∧ W.cell? ⟨w.heap.size + 1, 7, none⟩ = some (.slice B7 y.flanks.length d7) ∧ W.cell? ⟨w10.heap.size, 0, none⟩ = some (.int .i64 x.frm) ∧ W.cell? ⟨w10.heap.size, 1, none⟩ = some (.int .i64 x.til) ∧ W.cell? ⟨w10.heap.size, 2, none⟩ = some (.slice P2 x.steps.length Pc2) ∧ W.cell? ⟨w10.heap.size, 3, none⟩ = some (.slice P3 x.lies.length Pc3) ∧ W.cell? ⟨w10.heap.size, 4, none⟩ = some (.slice P4 x.crosses.length Pc4) ∧ W.cell? ⟨w10.heap.size, 5, none⟩ = some (.slice P5 x.parts.length Pc5) ∧ W.cell? ⟨w10.heap.size, 6, none⟩ = some (.slice P6 x.over.length Pc6) ∧ W.cell? ⟨w10.heap.size, 7, none⟩ = some (.slice P7 x.flanks.length Pc7) :=
    ⟨_, rfl, below_alloc _ _, by simp; omega, by simp; omega, by simp, cell_below (below_alloc _ _) f0, cell_below (below_alloc _ _) f1, cell_below (below_alloc _ _) f2, cell_below (below_alloc _ _) f3, cell_below (below_alloc _ _) f4, cell_below (below_alloc _ _) f5, cell_below (below_alloc _ _) f6, cell_below (below_alloc _ _) f7, cell_below (below_alloc _ _) e0, cell_below (below_alloc _ _) e1, cell_below (below_alloc _ _) e2, cell_below (below_alloc _ _) e3, cell_below (below_alloc _ _) e4, cell_below (below_alloc _ _) e5, cell_below (below_alloc _ _) e6, cell_below (below_alloc _ _) e7, by simp, by simp, by simp, by simp, by simp, by simp, by simp, by simp⟩
  go_wp2_with fail
  rw [← hW1]
  clear hW1 hs7 hs8 f0 f1 f2 f3 f4 f5 f6 f7 e0 e1 e2 e3 e4 e5 e6 e7
  have HX := Lib.hid (HX.out.below hB1)
  have HY := Lib.hid (HY.out.below hB1)
  have HBB := Lib.hid (HBB.out.trans (hB1.mono HBB.out.size))
  have QX := Lib.hid (qx.out.below hB1)
  clear qx hB1
  refine (toRouteC y B2 B3 B4 B5 B6 B7 d2 d3 d4 d5 d6 d7 _ HY.out hny).mono ?_
  intro e w11 hr
  obtain ⟨Q2, Q3, Q4, Q5, Q6, Q7, Qc2, Qc3, Qc4, Qc5, Qc6, Qc7, rfl, qy, hb11⟩ := RetRoute.opened hr; clear hr
  have hs12 : w.heap.size < w11.heap.size := by have := hb11.size; omega
  have hs13 : w.heap.size + 1 < w11.heap.size := by have := hb11.size; omega
  have hs14 : w10.heap.size < w11.heap.size := by have := hb11.size; omega
  have f0 := cell_below hb11 a0
  have f1 := cell_below hb11 a1
  have f2 := cell_below hb11 a2
  have f3 := cell_below hb11 a3
  have f4 := cell_below hb11 a4
  have f5 := cell_below hb11 a5
  have f6 := cell_below hb11 a6
  have f7 := cell_below hb11 a7
  have e0 := cell_below hb11 b0
  have e1 := cell_below hb11 b1
  have e2 := cell_below hb11 b2
  have e3 := cell_below hb11 b3
  have e4 := cell_below hb11 b4
  have e5 := cell_below hb11 b5
  have e6 := cell_below hb11 b6
  have e7 := cell_below hb11 b7
  have v0 := cell_below hb11 u0
  have v1 := cell_below hb11 u1
  have v2 := cell_below hb11 u2
  have v3 := cell_below hb11 u3
  have v4 := cell_below hb11 u4
  have v5 := cell_below hb11 u5
  have v6 := cell_below hb11 u6
  have v7 := cell_below hb11 u7
  have HX := Lib.hid (HX.out.below hb11)
  have HY := Lib.hid (HY.out.below hb11)
  have QX := Lib.hid (QX.out.below hb11)
  have HBB := Lib.hid (HBB.out.trans (hb11.mono HBB.out.size))
  clear a0 a1 a2 a3 a4 a5 a6 a7 b0 b1 b2 b3 b4 b5 b6 b7 u0 u1 u2 u3 u4 u5 u6 u7 hs9 hs10 hs11 hb11
  obtain ⟨W2, hW2, hB2, hs15, hs16, hs17, hs18, a0, a1, a2, a3, a4, a5, a6, a7, b0, b1, b2, b3, b4, b5, b6, b7, u0, u1, u2, u3, u4, u5, u6, u7, s0, s1, s2, s3, s4, s5, s6, s7⟩ : ∃ W, W = w11.alloc (.cells #[.int .i64 y.frm, .int .i64 y.til, .slice Q2 y.steps.length Qc2, .slice Q3 y.lies.length Qc3, .slice Q4 y.crosses.length Qc4, .slice Q5 y.parts.length Qc5, .slice Q6 y.over.length Qc6, .slice Q7 y.flanks.length Qc7] 57) ∧ Below w11.heap.size w11 W ∧ w.heap.size < W.heap.size ∧ w.heap.size + 1 < W.heap.size ∧ w10.heap.size < W.heap.size ∧ w11.heap.size < W.heap.size ∧ W.cell? ⟨w.heap.size, 0, none⟩ = some (.int .i64 x.frm) ∧ W.cell? ⟨w.heap.size, 1, none⟩ = some (.int .i64 x.til) ∧ W.cell? ⟨w.heap.size, 2, none⟩ = some (.slice A2 x.steps.length c2) ∧ W.cell? ⟨w.heap.size, 3, none⟩ = some (.slice A3 x.lies.length c3) ∧ W.cell? ⟨w.heap.size, 4, none⟩ = some (.slice A4 x.crosses.length c4) ∧ W.cell? ⟨w.heap.size, 5, none⟩ = some (.slice A5 x.parts.length c5) ∧ W.cell? ⟨w.heap.size, 6, none⟩ = some (.slice A6 x.over.length c6) ∧ W.cell? ⟨w.heap.size, 7, none⟩ = some (.slice A7 x.flanks.length c7) ∧ W.cell? ⟨w.heap.size + 1, 0, none⟩ = some (.int .i64 y.frm) ∧ W.cell? ⟨w.heap.size + 1, 1, none⟩ = some (.int .i64 y.til) ∧ W.cell? ⟨w.heap.size + 1, 2, none⟩ = some (.slice B2 y.steps.length d2) ∧ W.cell? ⟨w.heap.size + 1, 3, none⟩ = some (.slice B3 y.lies.length d3) ∧ W.cell? ⟨w.heap.size + 1, 4, none⟩ = some (.slice B4 y.crosses.length d4) ∧ W.cell? ⟨w.heap.size + 1, 5, none⟩ = some (.slice B5 y.parts.length d5) ∧ W.cell? ⟨w.heap.size + 1, 6, none⟩ = some (.slice B6 y.over.length d6) ∧ W.cell? ⟨w.heap.size + 1, 7, none⟩ = some (.slice B7 y.flanks.length d7) ∧ W.cell? ⟨w10.heap.size, 0, none⟩ = some (.int .i64 x.frm) ∧ W.cell? ⟨w10.heap.size, 1, none⟩ = some (.int .i64 x.til) ∧ W.cell? ⟨w10.heap.size, 2, none⟩ = some (.slice P2 x.steps.length Pc2) ∧ W.cell? ⟨w10.heap.size, 3, none⟩ = some (.slice P3 x.lies.length Pc3) ∧ W.cell? ⟨w10.heap.size, 4, none⟩ = some (.slice P4 x.crosses.length Pc4) ∧ W.cell? ⟨w10.heap.size, 5, none⟩ = some (.slice P5 x.parts.length Pc5) ∧ W.cell? ⟨w10.heap.size, 6, none⟩ = some (.slice P6 x.over.length Pc6) ∧ W.cell? ⟨w10.heap.size, 7, none⟩ = some (.slice P7 x.flanks.length Pc7) ∧ W.cell? ⟨w11.heap.size, 0, none⟩ = some (.int .i64 y.frm) ∧ W.cell? ⟨w11.heap.size, 1, none⟩ = some (.int .i64 y.til) ∧ W.cell? ⟨w11.heap.size, 2, none⟩ = some (.slice Q2 y.steps.length Qc2) ∧ W.cell? ⟨w11.heap.size, 3, none⟩ = some (.slice Q3 y.lies.length Qc3) ∧ W.cell? ⟨w11.heap.size, 4, none⟩ = some (.slice Q4 y.crosses.length Qc4) ∧ W.cell? ⟨w11.heap.size, 5, none⟩ = some (.slice Q5 y.parts.length Qc5) ∧ W.cell? ⟨w11.heap.size, 6, none⟩ = some (.slice Q6 y.over.length Qc6) ∧ W.cell? ⟨w11.heap.size, 7, none⟩ = some (.slice Q7 y.flanks.length Qc7) :=
    ⟨_, rfl, below_alloc _ _, by simp; omega, by simp; omega, by simp; omega, by simp, cell_below (below_alloc _ _) f0, cell_below (below_alloc _ _) f1, cell_below (below_alloc _ _) f2, cell_below (below_alloc _ _) f3, cell_below (below_alloc _ _) f4, cell_below (below_alloc _ _) f5, cell_below (below_alloc _ _) f6, cell_below (below_alloc _ _) f7, cell_below (below_alloc _ _) e0, cell_below (below_alloc _ _) e1, cell_below (below_alloc _ _) e2, cell_below (below_alloc _ _) e3, cell_below (below_alloc _ _) e4, cell_below (below_alloc _ _) e5, cell_below (below_alloc _ _) e6, cell_below (below_alloc _ _) e7, cell_below (below_alloc _ _) v0, cell_below (below_alloc _ _) v1, cell_below (below_alloc _ _) v2, cell_below (below_alloc _ _) v3, cell_below (below_alloc _ _) v4, cell_below (below_alloc _ _) v5, cell_below (below_alloc _ _) v6, cell_below (below_alloc _ _) v7, by simp, by simp, by simp, by simp, by simp, by simp, by simp, by simp⟩
  go_wp2_with fail
  rw [← hW2]
  clear hW2 hs12 hs13 hs14 f0 f1 f2 f3 f4 f5 f6 f7 e0 e1 e2 e3 e4 e5 e6 e7 v0 v1 v2 v3 v4 v5 v6 v7
  have HX := Lib.hid (HX.out.below hB2)
  have HY := Lib.hid (HY.out.below hB2)
  have QX := Lib.hid (QX.out.below hB2)
  have QY := Lib.hid (qy.out.below hB2)
  have HBB := Lib.hid (HBB.out.trans (hB2.mono HBB.out.size))
  clear qy hB2
  refine (implExcludeC x y P2 P3 P4 P5 P6 P7 Pc2 Pc3 Pc4 Pc5 Pc6 Pc7 Q2 Q3 Q4 Q5 Q6 Q7 Qc2 Qc3 Qc4 Qc5 Qc6 Qc7 _ QX.out QY.out n1 hny).mono ?_
  rintro e w12 ⟨rfl, hb12⟩
  have hs19 : w.heap.size < w12.heap.size := by have := hb12.size; omega
  have hs20 : w.heap.size + 1 < w12.heap.size := by have := hb12.size; omega
  have hs21 : w10.heap.size < w12.heap.size := by have := hb12.size; omega
  have hs22 : w11.heap.size < w12.heap.size := by have := hb12.size; omega
  have f0 := cell_below hb12 a0
  have f1 := cell_below hb12 a1
  have f2 := cell_below hb12 a2
  have f3 := cell_below hb12 a3
  have f4 := cell_below hb12 a4
  have f5 := cell_below hb12 a5
  have f6 := cell_below hb12 a6
  have f7 := cell_below hb12 a7
  have e0 := cell_below hb12 b0
  have e1 := cell_below hb12 b1
  have e2 := cell_below hb12 b2
  have e3 := cell_below hb12 b3
  have e4 := cell_below hb12 b4
  have e5 := cell_below hb12 b5
  have e6 := cell_below hb12 b6
  have e7 := cell_below hb12 b7
  have v0 := cell_below hb12 u0
  have v1 := cell_below hb12 u1
  have v2 := cell_below hb12 u2
  have v3 := cell_below hb12 u3
  have v4 := cell_below hb12 u4
  have v5 := cell_below hb12 u5
  have v6 := cell_below hb12 u6
  have v7 := cell_below hb12 u7
  have t0 := cell_below hb12 s0
  have t1 := cell_below hb12 s1
  have t2 := cell_below hb12 s2
  have t3 := cell_below hb12 s3
  have t4 := cell_below hb12 s4
  have t5 := cell_below hb12 s5
  have t6 := cell_below hb12 s6
  have t7 := cell_below hb12 s7
  have HX := Lib.hid (HX.out.below hb12).drew
  have HY := Lib.hid (HY.out.below hb12)
  have QX := Lib.hid (QX.out.below hb12).drew
  have QY := Lib.hid (QY.out.below hb12)
  have HBB := Lib.hid (HBB.out.trans (hb12.mono HBB.out.size)).drew
  have hne : (excl x y != excl x y) = false := by simp
  clear a0 a1 a2 a3 a4 a5 a6 a7 b0 b1 b2 b3 b4 b5 b6 b7 u0 u1 u2 u3 u4 u5 u6 u7 s0 s1 s2 s3 s4 s5 s6 s7 hs15 hs16 hs17 hs18 hb12
  go_wp2_with fail
  go_region_held3 (fun w' => w'.cell? ⟨w.heap.size, 0, none⟩ = some (.int .i64 x.frm) ∧ w'.cell? ⟨w.heap.size, 1, none⟩ = some (.int .i64 x.til) ∧ w'.cell? ⟨w.heap.size, 2, none⟩ = some (.slice A2 x.steps.length c2) ∧ w'.cell? ⟨w.heap.size, 3, none⟩ = some (.slice A3 x.lies.length c3) ∧ w'.cell? ⟨w.heap.size, 4, none⟩ = some (.slice A4 x.crosses.length c4) ∧ w'.cell? ⟨w.heap.size, 5, none⟩ = some (.slice A5 x.parts.length c5) ∧ w'.cell? ⟨w.heap.size, 6, none⟩ = some (.slice A6 x.over.length c6) ∧ w'.cell? ⟨w.heap.size, 7, none⟩ = some (.slice A7 x.flanks.length c7) ∧ w'.cell? ⟨w10.heap.size, 0, none⟩ = some (.int .i64 x.frm) ∧ w'.cell? ⟨w10.heap.size, 1, none⟩ = some (.int .i64 x.til) ∧ w'.cell? ⟨w10.heap.size, 2, none⟩ = some (.slice P2 x.steps.length Pc2) ∧ w'.cell? ⟨w10.heap.size, 3, none⟩ = some (.slice P3 x.lies.length Pc3) ∧ w'.cell? ⟨w10.heap.size, 4, none⟩ = some (.slice P4 x.crosses.length Pc4) ∧ w'.cell? ⟨w10.heap.size, 5, none⟩ = some (.slice P5 x.parts.length Pc5) ∧ w'.cell? ⟨w10.heap.size, 6, none⟩ = some (.slice P6 x.over.length Pc6) ∧ w'.cell? ⟨w10.heap.size, 7, none⟩ = some (.slice P7 x.flanks.length Pc7))
    (first | exact ⟨cell_below hb14 (cell_below hb13 f0), cell_below hb14 (cell_below hb13 f1), cell_below hb14 (cell_below hb13 f2), cell_below hb14 (cell_below hb13 f3), cell_below hb14 (cell_below hb13 f4), cell_below hb14 (cell_below hb13 f5), cell_below hb14 (cell_below hb13 f6), cell_below hb14 (cell_below hb13 f7), cell_below hb14 (cell_below hb13 v0), cell_below hb14 (cell_below hb13 v1), cell_below hb14 (cell_below hb13 v2), cell_below hb14 (cell_below hb13 v3), cell_below hb14 (cell_below hb13 v4), cell_below hb14 (cell_below hb13 v5), cell_below hb14 (cell_below hb13 v6), cell_below hb14 (cell_below hb13 v7)⟩ | exact ⟨cell_below hb13 f0, cell_below hb13 f1, cell_below hb13 f2, cell_below hb13 f3, cell_below hb13 f4, cell_below hb13 f5, cell_below hb13 f6, cell_below hb13 f7, cell_below hb13 v0, cell_below hb13 v1, cell_below hb13 v2, cell_below hb13 v3, cell_below hb13 v4, cell_below hb13 v5, cell_below hb13 v6, cell_below hb13 v7⟩ | go_keep)
    (first | (go_at_call 30; (with_reducible refine (toRouteC x A2 A3 A4 A5 A6 A7 c2 c3 c4 c5 c6 c7 _ (HX.out) n1).mono ?_); intro e w13 hr; obtain ⟨G2, G3, G4, G5, G6, G7, Gc2, Gc3, Gc4, Gc5, Gc6, Gc7, rfl, q13, hb13⟩ := RetRoute.opened hr; clear hr)
           | (go_at_call 32; (with_reducible refine (eqRouteC x x P2 P3 P4 P5 P6 P7 Pc2 Pc3 Pc4 Pc5 Pc6 Pc7 G2 G3 G4 G5 G6 G7 Gc2 Gc3 Gc4 Gc5 Gc6 Gc7 _ (QX.out.below hb13) (q13.out)).mono ?_); rintro e w14 ⟨rfl, hb14⟩; rw [HV.out]))
  have k14 : Below w12.drew.heap.size w12.drew w14 := hb13.trans (hb14.mono hb13.size)
  have b0 := cell_below k14 e0
  have b1 := cell_below k14 e1
  have b2 := cell_below k14 e2
  have b3 := cell_below k14 e3
  have b4 := cell_below k14 e4
  have b5 := cell_below k14 e5
  have b6 := cell_below k14 e6
  have b7 := cell_below k14 e7
  have s0 := cell_below k14 t0
  have s1 := cell_below k14 t1
  have s2 := cell_below k14 t2
  have s3 := cell_below k14 t3
  have s4 := cell_below k14 t4
  have s5 := cell_below k14 t5
  have s6 := cell_below k14 t6
  have s7 := cell_below k14 t7
  have HY := Lib.hid (HY.out.drew.below k14).drew
  have QY := Lib.hid (QY.out.drew.below k14).drew
  have HBB := Lib.hid (HBB.out.trans (k14.mono HBB.out.size)).drew
  have hs23 : w.heap.size + 1 < w14.heap.size := by have := k14.size; simp at this; omega
  have hs24 : w11.heap.size < w14.heap.size := by have := k14.size; simp at this; omega
  clear f0 f1 f2 f3 f4 f5 f6 f7 e0 e1 e2 e3 e4 e5 e6 e7 v0 v1 v2 v3 v4 v5 v6 v7 t0 t1 t2 t3 t4 t5 t6 t7 hs19 hs20 hs21 hs22 hb13 hb14 k14 q13
  go_wp2_with fail
  go_region_held3 (fun w' => w'.cell? ⟨w.heap.size + 1, 0, none⟩ = some (.int .i64 y.frm) ∧ w'.cell? ⟨w.heap.size + 1, 1, none⟩ = some (.int .i64 y.til) ∧ w'.cell? ⟨w.heap.size + 1, 2, none⟩ = some (.slice B2 y.steps.length d2) ∧ w'.cell? ⟨w.heap.size + 1, 3, none⟩ = some (.slice B3 y.lies.length d3) ∧ w'.cell? ⟨w.heap.size + 1, 4, none⟩ = some (.slice B4 y.crosses.length d4) ∧ w'.cell? ⟨w.heap.size + 1, 5, none⟩ = some (.slice B5 y.parts.length d5) ∧ w'.cell? ⟨w.heap.size + 1, 6, none⟩ = some (.slice B6 y.over.length d6) ∧ w'.cell? ⟨w.heap.size + 1, 7, none⟩ = some (.slice B7 y.flanks.length d7) ∧ w'.cell? ⟨w11.heap.size, 0, none⟩ = some (.int .i64 y.frm) ∧ w'.cell? ⟨w11.heap.size, 1, none⟩ = some (.int .i64 y.til) ∧ w'.cell? ⟨w11.heap.size, 2, none⟩ = some (.slice Q2 y.steps.length Qc2) ∧ w'.cell? ⟨w11.heap.size, 3, none⟩ = some (.slice Q3 y.lies.length Qc3) ∧ w'.cell? ⟨w11.heap.size, 4, none⟩ = some (.slice Q4 y.crosses.length Qc4) ∧ w'.cell? ⟨w11.heap.size, 5, none⟩ = some (.slice Q5 y.parts.length Qc5) ∧ w'.cell? ⟨w11.heap.size, 6, none⟩ = some (.slice Q6 y.over.length Qc6) ∧ w'.cell? ⟨w11.heap.size, 7, none⟩ = some (.slice Q7 y.flanks.length Qc7))
    (first | exact ⟨cell_below hb16 (cell_below hb15 b0), cell_below hb16 (cell_below hb15 b1), cell_below hb16 (cell_below hb15 b2), cell_below hb16 (cell_below hb15 b3), cell_below hb16 (cell_below hb15 b4), cell_below hb16 (cell_below hb15 b5), cell_below hb16 (cell_below hb15 b6), cell_below hb16 (cell_below hb15 b7), cell_below hb16 (cell_below hb15 s0), cell_below hb16 (cell_below hb15 s1), cell_below hb16 (cell_below hb15 s2), cell_below hb16 (cell_below hb15 s3), cell_below hb16 (cell_below hb15 s4), cell_below hb16 (cell_below hb15 s5), cell_below hb16 (cell_below hb15 s6), cell_below hb16 (cell_below hb15 s7)⟩ | exact ⟨cell_below hb15 b0, cell_below hb15 b1, cell_below hb15 b2, cell_below hb15 b3, cell_below hb15 b4, cell_below hb15 b5, cell_below hb15 b6, cell_below hb15 b7, cell_below hb15 s0, cell_below hb15 s1, cell_below hb15 s2, cell_below hb15 s3, cell_below hb15 s4, cell_below hb15 s5, cell_below hb15 s6, cell_below hb15 s7⟩ | go_keep)
    (first | (go_at_call 30; (with_reducible refine (toRouteC y B2 B3 B4 B5 B6 B7 d2 d3 d4 d5 d6 d7 _ (HY.out) hny).mono ?_); intro e w15 hr; obtain ⟨G2, G3, G4, G5, G6, G7, Gc2, Gc3, Gc4, Gc5, Gc6, Gc7, rfl, q15, hb15⟩ := RetRoute.opened hr; clear hr)
           | (go_at_call 32; (with_reducible refine (eqRouteC y y Q2 Q3 Q4 Q5 Q6 Q7 Qc2 Qc3 Qc4 Qc5 Qc6 Qc7 G2 G3 G4 G5 G6 G7 Gc2 Gc3 Gc4 Gc5 Gc6 Gc7 _ (QY.out.below hb15) (q15.out)).mono ?_); rintro e w16 ⟨rfl, hb16⟩; rw [HU.out]))
  go_wp2
  go_ret
  exact ⟨rfl, HBB.out.trans ((hb15.trans (hb16.mono hb15.size)).mono HBB.out.size)⟩
end Go.Proofs.Ytginpmhjpjcahaa.L
