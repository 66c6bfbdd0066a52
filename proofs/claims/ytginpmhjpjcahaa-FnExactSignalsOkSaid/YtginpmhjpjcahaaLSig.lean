/- The law FnExactSignalsOk, walked: it answers true. -/
import Derived.Test.YtginpmhjpjcahaaNC
namespace Go.Proofs.Ytginpmhjpjcahaa.L
open Go.RowKit
set_option linter.unusedVariables false
set_option linter.unusedSimpArgs false
set_option maxRecDepth 100000 in
set_option maxHeartbeats 8000000 in
theorem lawSignalsOk {ok ok' : Nat → Prop} (x : Net) (ss : List Signal) (A0 A1 A2 : Option Addr) (c0 c1 c2 : Nat) (w : World) (hx : NC 245 w ok x A0 A1) (hs : signalK.C w ok' A2 ss) (hfit : Hid x.fit) (hsf : Hid (∀ s ∈ ss, s.fit)) :
    Calls Try.prog 8 #[.agg #[.slice A0 x.pieces.length c0, .slice A1 x.joints.length c1], .slice A2 ss.length c2] w (RetB true w) := by
  obtain ⟨W0, hW0, HB0, hs0, f0, f1, HX, HS⟩ : ∃ W0, W0 = w.alloc (.cells #[.slice A0 x.pieces.length c0, .slice A1 x.joints.length c1] 26) ∧ Below w.heap.size w W0 ∧ W0.heap.size = w.heap.size + 1 ∧ W0.cell? ⟨w.heap.size, 0, none⟩ = some (.slice A0 x.pieces.length c0) ∧ W0.cell? ⟨w.heap.size, 1, none⟩ = some (.slice A1 x.joints.length c1) ∧ Hid (NC 245 W0 ok x A0 A1) ∧ Hid (signalK.C W0 ok' A2 ss) :=
    ⟨_, rfl, below_alloc _ _, by simp, by simp, by simp, Lib.hid (hx.below (below_alloc _ _)), Lib.hid (Kn.C_below (below_alloc _ _) hs)⟩
  clear hx hs
  have HS0 := Lib.hid hs0
  by_cases n1 : x.n ≤ 1048576
  rotate_left
  · have hc1 : Hid (cut (1048576 - (x.n : Nat)) = -1) := Lib.hid (cut_neg (by omega))
    clear hs0
    go_enter Try.func8, Try.ntmps8
    go_wp2_with fail
    rw [← hW0]
    clear hW0
    refine (szNet _ x A0 A1 c0 c1 hfit HX.out.p HX.out.j 1048576 (by omega) (by omega)).mono ?_
    rintro e w1 ⟨rfl, hb1⟩
    rw [hc1.out]
    go_wp2
    go_ret
    exact ⟨rfl, HB0.trans (hb1.mono HB0.size)⟩
  have hc1 : Hid (cut (1048576 - (x.n : Nat)) = 1048576 - (x.n : Nat)) := Lib.hid (cut_pos (by omega))
  by_cases n2 : x.n + lenS Signal.n ss ≤ 1048576
  rotate_left
  · have hc2 : Hid (cut (1048576 - (x.n : Nat) - (lenS Signal.n ss : Nat)) = -1) := Lib.hid (cut_neg (by omega))
    clear hs0
    go_enter Try.func8, Try.ntmps8
    go_wp2_with fail
    rw [← hW0]
    clear hW0
    refine (szNet _ x A0 A1 c0 c1 hfit HX.out.p HX.out.j 1048576 (by omega) (by omega)).mono ?_
    rintro e w1 ⟨rfl, hb1⟩
    rw [hc1.out]
    go_wp2_with fail
    refine (szSignalS _ _ ss _ _ (Kn.C_below hb1 HS.out) hsf (by omega) (by omega)).mono ?_
    rintro e w2 ⟨rfl, hb2⟩
    rw [hc2.out]
    go_wp2
    go_ret
    exact ⟨rfl, HB0.trans ((hb1.trans (hb2.mono hb1.size)).mono HB0.size)⟩
  have hc2 : Hid (cut (1048576 - (x.n : Nat) - (lenS Signal.n ss : Nat)) = 1048576 - (x.n : Nat) - (lenS Signal.n ss : Nat)) := Lib.hid (cut_pos (by omega))
  have NI : Hid (NetIn x) := Lib.hid ⟨n1, hfit.out⟩
  have SI : Hid (SigIn ss) := Lib.hid ⟨by omega, hsf.out⟩
  have hsl : ss.length ≤ 1048576 := SI.out.len
  have HV : Hid (eqv x x = true) := Lib.hid (eqv_self _)
  have HU : Hid (eqv ss ss = true) := Lib.hid (eqv_self _)
  have HF : Hid (eqv (signalsOk x ss) (signalsOk x ss) = true) := Lib.hid (eqv_self _)
  clear hs0
  go_enter Try.func8, Try.ntmps8
  go_wp2_with fail
  rw [← hW0]
  clear hW0
  refine (szNet _ x A0 A1 c0 c1 hfit HX.out.p HX.out.j 1048576 (by omega) (by omega)).mono ?_
  rintro e w1 ⟨rfl, hb1⟩
  rw [hc1.out]
  go_wp2_with fail
  refine (szSignalS _ _ ss _ _ (Kn.C_below hb1 HS.out) hsf (by omega) (by omega)).mono ?_
  rintro e w2 ⟨rfl, hb2⟩
  rw [hc2.out]
  have B0 := Lib.hid (hb1.trans (hb2.mono hb1.size))
  have a0 := cell_below B0.out f0
  have a1 := cell_below B0.out f1
  have h1 : w.heap.size < w2.heap.size := by have := HS0.out; have := B0.out.size; omega
  clear hb1 hb2
  go_wp2_with fail
  refine (toNetC x A0 A1 c0 c1 _ (HX.out.below B0.out) NI.out).mono ?_
  intro e w3 hr
  obtain ⟨P0, P1, p0, p1, rfl, q3, hb3⟩ := RetNet.opC hr
  have B0 := Lib.hid (B0.out.trans (hb3.mono B0.out.size))
  have b0 := cell_below B0.out f0
  have b1 := cell_below B0.out f1
  clear hr hb3 a0 a1 h1
  have h1 : w.heap.size < w3.heap.size := by have := HS0.out; have := B0.out.size; omega
  go_wp2_with fail
  refine (toSignalS _ _ ss _ (Kn.C_below B0.out HS.out) hsl).mono ?_
  intro e w4 hr
  obtain ⟨P2, p2, rfl, hp2, q4, hb4⟩ := RetS.opC hr
  have B0 := Lib.hid (B0.out.trans (hb4.mono B0.out.size))
  have q3 := Lib.hid (q3.out.below hb4)
  clear hr hb4 b0 b1 h1
  go_wp2_with fail
  refine (specSignalsOkC x ss P0 P1 P2 p0 p1 p2 _ q3.out q4.out NI.out SI.out).mono ?_
  rintro e w5 ⟨rfl, hb5⟩
  have B0 := Lib.hid (B0.out.trans (hb5.mono B0.out.size))
  clear q3 q4 hb5
  have a0 := cell_below B0.out f0
  have a1 := cell_below B0.out f1
  have h1 : w.heap.size < w5.heap.size := by have := HS0.out; have := B0.out.size; omega
  obtain ⟨W5, hW5, hB5, h2, h3, s0, s1, g0, g1⟩ : ∃ W, W = w5.alloc (.cells #[.int .i64 (signalsOk x ss).code, .int .i64 (signalsOk x ss).at_] 29) ∧ Below w5.heap.size w5 W ∧ w.heap.size < W.heap.size ∧ w5.heap.size < W.heap.size ∧ W.cell? ⟨w.heap.size, 0, none⟩ = some (.slice A0 x.pieces.length c0) ∧ W.cell? ⟨w.heap.size, 1, none⟩ = some (.slice A1 x.joints.length c1) ∧ W.cell? ⟨w5.heap.size, 0, none⟩ = some (.int .i64 (signalsOk x ss).code) ∧ W.cell? ⟨w5.heap.size, 1, none⟩ = some (.int .i64 (signalsOk x ss).at_) :=
    ⟨_, rfl, below_alloc _ _, by simp; omega, by simp, cell_below (below_alloc _ _) a0, cell_below (below_alloc _ _) a1, by simp, by simp⟩
  go_wp2_with fail
  rw [← hW5]
  have B0 := Lib.hid (B0.out.trans (hB5.mono B0.out.size))
  clear hW5 hB5 a0 a1 h1
  refine (toNetC x A0 A1 c0 c1 _ (HX.out.below B0.out) NI.out).mono ?_
  intro e w6 hr
  obtain ⟨Q0, Q1, r0, r1, rfl, q6, hb6⟩ := RetNet.opC hr
  have B0 := Lib.hid (B0.out.trans (hb6.mono B0.out.size))
  have a0 := cell_below hb6 s0
  have a1 := cell_below hb6 s1
  have b0 := cell_below hb6 g0
  have b1 := cell_below hb6 g1
  have h4 : w5.heap.size < w6.heap.size := by have := hb6.size; omega
  have h5 : w.heap.size < w6.heap.size := by have := hb6.size; omega
  clear hr hb6 s0 s1 g0 g1 h2 h3
  obtain ⟨W6, hW6, hB6, h6, h7, h8, s0, s1, g0, g1, t0, t1⟩ : ∃ W, W = w6.alloc (.cells #[.slice Q0 x.pieces.length r0, .slice Q1 x.joints.length r1] 34) ∧ Below w6.heap.size w6 W ∧ w.heap.size < W.heap.size ∧ w5.heap.size < W.heap.size ∧ w6.heap.size < W.heap.size ∧ W.cell? ⟨w.heap.size, 0, none⟩ = some (.slice A0 x.pieces.length c0) ∧ W.cell? ⟨w.heap.size, 1, none⟩ = some (.slice A1 x.joints.length c1) ∧ W.cell? ⟨w5.heap.size, 0, none⟩ = some (.int .i64 (signalsOk x ss).code) ∧ W.cell? ⟨w5.heap.size, 1, none⟩ = some (.int .i64 (signalsOk x ss).at_) ∧ W.cell? ⟨w6.heap.size, 0, none⟩ = some (.slice Q0 x.pieces.length r0) ∧ W.cell? ⟨w6.heap.size, 1, none⟩ = some (.slice Q1 x.joints.length r1) :=
    ⟨_, rfl, below_alloc _ _, by simp; omega, by simp; omega, by simp, cell_below (below_alloc _ _) a0, cell_below (below_alloc _ _) a1, cell_below (below_alloc _ _) b0, cell_below (below_alloc _ _) b1, by simp, by simp⟩
  go_wp2_with fail
  rw [← hW6]
  have B0 := Lib.hid (B0.out.trans (hB6.mono B0.out.size))
  have q6 := Lib.hid (q6.out.below hB6)
  clear hW6 hB6 a0 a1 b0 b1 h4 h5
  refine (toSignalS _ _ ss _ (Kn.C_below B0.out HS.out) hsl).mono ?_
  intro e w7 hr
  obtain ⟨Q2, r2, rfl, hr2, q7, hb7⟩ := RetS.opC hr
  have B0 := Lib.hid (B0.out.trans (hb7.mono B0.out.size))
  have q6 := Lib.hid (q6.out.below hb7)
  have a0 := cell_below hb7 s0
  have a1 := cell_below hb7 s1
  have b0 := cell_below hb7 g0
  have b1 := cell_below hb7 g1
  have d0 := cell_below hb7 t0
  have d1 := cell_below hb7 t1
  have h4 : w.heap.size < w7.heap.size := by have := hb7.size; omega
  have h5 : w5.heap.size < w7.heap.size := by have := hb7.size; omega
  have h9 : w6.heap.size < w7.heap.size := by have := hb7.size; omega
  clear hr hb7 s0 s1 g0 g1 t0 t1 h6 h7 h8
  go_wp2_with fail
  refine (implSignalsOkC x ss Q0 Q1 Q2 r0 r1 r2 _ q6.out q7.out hr2 NI.out SI.out).mono ?_
  rintro e w8 ⟨rfl, hb8⟩
  have B0 := Lib.hid (B0.out.trans (hb8.mono B0.out.size))
  have q6 := Lib.hid (q6.out.below hb8)
  have q7 := Lib.hid (Kn.C_below hb8 q7.out)
  have s0 := cell_below hb8 a0
  have s1 := cell_below hb8 a1
  have g0 := cell_below hb8 b0
  have g1 := cell_below hb8 b1
  have t0 := cell_below hb8 d0
  have t1 := cell_below hb8 d1
  have h6 : w.heap.size < w8.heap.size := by have := hb8.size; omega
  have h7 : w5.heap.size < w8.heap.size := by have := hb8.size; omega
  have h8 : w6.heap.size < w8.heap.size := by have := hb8.size; omega
  clear hb8 a0 a1 b0 b1 d0 d1 h4 h5 h9
  obtain ⟨W8, hW8, hB8, h10, h11, h12, h13, u0, u1, v0, v1, x0, x1, y0, y1⟩ : ∃ W, W = w8.alloc (.cells #[.int .i64 (signalsOk x ss).code, .int .i64 (signalsOk x ss).at_] 29) ∧ Below w8.heap.size w8 W ∧ w.heap.size < W.heap.size ∧ w5.heap.size < W.heap.size ∧ w6.heap.size < W.heap.size ∧ w8.heap.size < W.heap.size ∧ W.cell? ⟨w.heap.size, 0, none⟩ = some (.slice A0 x.pieces.length c0) ∧ W.cell? ⟨w.heap.size, 1, none⟩ = some (.slice A1 x.joints.length c1) ∧ W.cell? ⟨w5.heap.size, 0, none⟩ = some (.int .i64 (signalsOk x ss).code) ∧ W.cell? ⟨w5.heap.size, 1, none⟩ = some (.int .i64 (signalsOk x ss).at_) ∧ W.cell? ⟨w6.heap.size, 0, none⟩ = some (.slice Q0 x.pieces.length r0) ∧ W.cell? ⟨w6.heap.size, 1, none⟩ = some (.slice Q1 x.joints.length r1) ∧ W.cell? ⟨w8.heap.size, 0, none⟩ = some (.int .i64 (signalsOk x ss).code) ∧ W.cell? ⟨w8.heap.size, 1, none⟩ = some (.int .i64 (signalsOk x ss).at_) :=
    ⟨_, rfl, below_alloc _ _, by simp; omega, by simp; omega, by simp; omega, by simp, cell_below (below_alloc _ _) s0, cell_below (below_alloc _ _) s1, cell_below (below_alloc _ _) g0, cell_below (below_alloc _ _) g1, cell_below (below_alloc _ _) t0, cell_below (below_alloc _ _) t1, by simp, by simp⟩
  go_wp2_with fail
  rw [← hW8]
  have B0 := Lib.hid (B0.out.trans (hB8.mono B0.out.size))
  have q6 := Lib.hid (q6.out.below hB8)
  have q7 := Lib.hid (Kn.C_below hB8 q7.out)
  clear hW8 hB8 s0 s1 g0 g1 t0 t1 h6 h7 h8
  refine (eqFault (signalsOk x ss) (signalsOk x ss) _).mono ?_
  rintro e w9 ⟨rfl, hb9⟩
  rw [HF.out]
  have B0 := Lib.hid (B0.out.trans (hb9.mono B0.out.size))
  have q6 := Lib.hid (q6.out.below hb9).drew
  have q7 := Lib.hid (Kn.C_below hb9 q7.out)
  have a0 := cell_below hb9 u0
  have a1 := cell_below hb9 u1
  have d0 := cell_below hb9 x0
  have d1 := cell_below hb9 x1
  have h6 : w.heap.size < w9.heap.size := by have := hb9.size; omega
  have h7 : w6.heap.size < w9.heap.size := by have := hb9.size; omega
  have HX9 := Lib.hid (HX.out.below B0.out).drew
  clear hb9 u0 u1 v0 v1 x0 x1 y0 y1 h10 h11 h12 h13
  go_wp2_with fail
  go_region_held3 (fun w' => w'.cell? ⟨w.heap.size, 0, none⟩ = some (.slice A0 x.pieces.length c0) ∧ w'.cell? ⟨w.heap.size, 1, none⟩ = some (.slice A1 x.joints.length c1) ∧ w'.cell? ⟨w6.heap.size, 0, none⟩ = some (.slice Q0 x.pieces.length r0) ∧ w'.cell? ⟨w6.heap.size, 1, none⟩ = some (.slice Q1 x.joints.length r1))
    (first | exact ⟨cell_below hb11 (cell_below hb10 a0), cell_below hb11 (cell_below hb10 a1), cell_below hb11 (cell_below hb10 d0), cell_below hb11 (cell_below hb10 d1)⟩ | exact ⟨cell_below hb10 a0, cell_below hb10 a1, cell_below hb10 d0, cell_below hb10 d1⟩ | go_keep)
    (first | (go_at_call 17; (with_reducible refine (toNetC x A0 A1 c0 c1 _ (HX9.out) NI.out).mono ?_); intro e w10 hr; obtain ⟨G0, G1, k0, k1, rfl, q10, hb10⟩ := RetNet.opC hr; clear hr)
           | (go_at_call 20; (with_reducible refine (eqNetC x x Q0 Q1 r0 r1 G0 G1 k0 k1 _ (q6.out.below hb10) (q10.out)).mono ?_); rintro e w11 ⟨rfl, hb11⟩; rw [HV.out]))
  have k11 : Below w9.drew.heap.size w9.drew w11 := hb10.trans (hb11.mono hb10.size)
  have k11' : Below w9.heap.size w9 w11 := ((Below.refl w9.heap.size w9).drew).trans k11
  have B0 := Lib.hid (B0.out.trans (k11'.mono B0.out.size))
  have q7 := Lib.hid (Kn.C_below k11' q7.out)
  clear q6 q10 hb10 hb11 k11 k11' HX9 a0 a1 d0 d1 h6 h7
  go_wp2_with fail
  refine (toSignalS _ _ ss _ (Kn.C_below B0.out HS.out) hsl).mono ?_
  intro e w12 hr
  obtain ⟨G2, k2, rfl, hk2, q12, hb12⟩ := RetS.opC hr
  have B0 := Lib.hid (B0.out.trans (hb12.mono B0.out.size))
  have q7 := Lib.hid (Kn.C_below hb12 q7.out)
  clear hr hb12
  go_wp2_with fail
  refine (eqSignalS _ _ _ _ ss ss _ q7.out q12.out).mono ?_
  rintro e w13 ⟨rfl, hb13⟩
  rw [HU.out]
  have B0 := Lib.hid (B0.out.trans (hb13.mono B0.out.size))
  clear hb13
  go_wp2
  go_ret
  exact ⟨rfl, HB0.trans (B0.out.mono HB0.size)⟩
end Go.Proofs.Ytginpmhjpjcahaa.L
