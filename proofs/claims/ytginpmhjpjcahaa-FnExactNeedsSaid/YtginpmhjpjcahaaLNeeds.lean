/- The law FnExactNeeds, walked: it answers true. -/
import Derived.Test.YtginpmhjpjcahaaMark
import Derived.Test.YtginpmhjpjcahaaLNet
namespace Go.Proofs.Ytginpmhjpjcahaa.L
open Go.RowKit
set_option linter.unusedVariables false
set_option linter.unusedSimpArgs false
theorem RetRoute.own {x : Route} {w w' : World} {e : Ending} (h : RetRoute x w e w') :
    ∃ A2 A3 A4 A5 A6 A7 c2 c3 c4 c5 c6 c7 F, e = .returned (.agg #[.int .i64 x.frm, .int .i64 x.til, .slice A2 x.steps.length c2, .slice A3 x.lies.length c3, .slice A4 x.crosses.length c4, .slice A5 x.parts.length c5, .slice A6 x.over.length c6, .slice A7 x.flanks.length c7]) ∧ Hid (RC w' (fun _ => True) x A2 A3 A4 A5 A6 A7) ∧ Hid (rK.O w' x [.int .i64 x.frm, .int .i64 x.til, .slice A2 x.steps.length c2, .slice A3 x.lies.length c3, .slice A4 x.crosses.length c4, .slice A5 x.parts.length c5, .slice A6 x.over.length c6, .slice A7 x.flanks.length c7] F) ∧ Hid (∀ b, b ∈ F → w.heap.size ≤ b ∧ b < w'.heap.size) ∧ Below w.heap.size w w' := by
  have h' := h
  obtain ⟨A2, c2, A3, c3, A4, c4, A5, c5, A6, c6, A7, c7, F, rfl, o, hf, hb⟩ := h
  obtain ⟨D2, D3, D4, D5, D6, D7, d2, d3, d4, d5, d6, d7, he, q, _⟩ := RetRoute.opened h'
  injection he with he
  injection he with he
  injection he with he
  injection he with _ he
  injection he with _ he
  injection he with e2 he
  injection e2 with e2 _ _
  subst e2
  injection he with e3 he
  injection e3 with e3 _ _
  subst e3
  injection he with e4 he
  injection e4 with e4 _ _
  subst e4
  injection he with e5 he
  injection e5 with e5 _ _
  subst e5
  injection he with e6 he
  injection e6 with e6 _ _
  subst e6
  injection he with e7 he
  injection e7 with e7 _ _
  subst e7
  exact ⟨_, _, _, _, _, _, _, _, _, _, _, _, F, rfl, q, Lib.hid o, Lib.hid (fun b hb => ⟨hf b hb, rK.O_lt o b hb⟩), hb⟩
theorem RetW.row {α : Type} {e : Nat} {d : Kn α} {ok : Nat → Prop} {xs : List α} {w w' : World} {en : Ending} (h : RetW e d ok xs w en w') : ∃ A c inner, en = .returned (.slice A xs.length c) ∧ Hid (d.C w' (fun b => ok b ∨ (Value.slice A xs.length c).ownBlock = some b) A xs) ∧ Hid (w'.ownsRow 0 e d.sz (.slice A xs.length c) xs.length inner) ∧
    Hid (∀ b, (Value.slice A xs.length c).ownBlock = some b → w.heap.size ≤ b ∧ b < w'.heap.size) ∧ Below w.heap.size w w' := by
  obtain ⟨v, rfl, h1, h2, h3⟩ := h
  have hl := h1.lt
  obtain ⟨A, c, rfl, hc, hC⟩ := h1.C
  obtain ⟨inner, ho, _⟩ := h1
  exact ⟨A, c, inner, rfl, Lib.hid hC, Lib.hid ho, Lib.hid (fun b hb => ⟨h2 b hb, hl b hb⟩), h3⟩
theorem specNeedsC {ok : Nat → Prop} (x : Route) (A2 A3 A4 A5 A6 A7 : Option Addr) (c2 c3 c4 c5 c6 c7 : Nat) (w : World) (h : RC w ok x A2 A3 A4 A5 A6 A7) (hn : x.n ≤ 1048576) :
    Calls Try.prog 33 #[.agg #[.int .i64 x.frm, .int .i64 x.til, .slice A2 x.steps.length c2, .slice A3 x.lies.length c3, .slice A4 x.crosses.length c4, .slice A5 x.parts.length c5, .slice A6 x.over.length c6, .slice A7 x.flanks.length c7]] w (RetW 65 lieK nobody (needs x) w) := by
  unfold Route.n at hn
  exact specNeeds x _ _ _ _ _ _ A3 A7 c3 c7 w h.h3 h.h7 (by omega) (by omega)
theorem implNeedsC {ok : Nat → Prop} (x : Route) (A2 A3 A4 A5 A6 A7 : Option Addr) (c2 c3 c4 c5 c6 c7 : Nat) (w : World) (h : RC w ok x A2 A3 A4 A5 A6 A7) (hn : x.n ≤ 1048576) :
    Calls Try.prog 34 #[.agg #[.int .i64 x.frm, .int .i64 x.til, .slice A2 x.steps.length c2, .slice A3 x.lies.length c3, .slice A4 x.crosses.length c4, .slice A5 x.parts.length c5, .slice A6 x.over.length c6, .slice A7 x.flanks.length c7]] w (RetW 65 lieK nobody (needs x) w) := by
  unfold Route.n at hn
  exact implNeeds x _ _ _ _ _ _ A3 A7 c3 c7 w h.h3 h.h7 (by omega) (by omega)
set_option maxRecDepth 100000 in
set_option maxHeartbeats 16000000 in
theorem lawNeeds {ok : Nat → Prop} (x : Route) (A2 A3 A4 A5 A6 A7 : Option Addr) (c2 c3 c4 c5 c6 c7 : Nat) (w : World) (hx : RC w ok x A2 A3 A4 A5 A6 A7) : Calls Try.prog 7 #[.agg #[.int .i64 x.frm, .int .i64 x.til, .slice A2 x.steps.length c2, .slice A3 x.lies.length c3, .slice A4 x.crosses.length c4, .slice A5 x.parts.length c5, .slice A6 x.over.length c6, .slice A7 x.flanks.length c7]] w (RetB true w) := by
  obtain ⟨W0, hW0, HB0, hs0, f0, f1, f2, f3, f4, f5, f6, f7, HX⟩ : ∃ W0, W0 = w.alloc (.cells #[.int .i64 x.frm, .int .i64 x.til, .slice A2 x.steps.length c2, .slice A3 x.lies.length c3, .slice A4 x.crosses.length c4, .slice A5 x.parts.length c5, .slice A6 x.over.length c6, .slice A7 x.flanks.length c7] 73) ∧ Below w.heap.size w W0 ∧ W0.heap.size = w.heap.size + 1 ∧ W0.cell? ⟨w.heap.size, 0, none⟩ = some (.int .i64 x.frm) ∧ W0.cell? ⟨w.heap.size, 1, none⟩ = some (.int .i64 x.til) ∧ W0.cell? ⟨w.heap.size, 2, none⟩ = some (.slice A2 x.steps.length c2) ∧ W0.cell? ⟨w.heap.size, 3, none⟩ = some (.slice A3 x.lies.length c3) ∧ W0.cell? ⟨w.heap.size, 4, none⟩ = some (.slice A4 x.crosses.length c4) ∧ W0.cell? ⟨w.heap.size, 5, none⟩ = some (.slice A5 x.parts.length c5) ∧ W0.cell? ⟨w.heap.size, 6, none⟩ = some (.slice A6 x.over.length c6) ∧ W0.cell? ⟨w.heap.size, 7, none⟩ = some (.slice A7 x.flanks.length c7) ∧ Hid (RC W0 ok x A2 A3 A4 A5 A6 A7) := ⟨_, rfl, below_alloc _ _, by simp, by simp, by simp, by simp, by simp, by simp, by simp, by simp, by simp, Lib.hid (hx.below (below_alloc _ _))⟩
  clear hx
  by_cases n1 : x.n ≤ 1048576
  rotate_left
  · have hc : Hid (cut (1048576 - (x.n : Nat)) = -1) := Lib.hid (cut_neg (by omega))
    go_enter Try.func7, Try.ntmps7
    go_wp2_with fail
    rw [← hW0]
    clear hW0
    refine (szRouteC x A2 A3 A4 A5 A6 A7 c2 c3 c4 c5 c6 c7 _ _ HX.out (by omega) (by omega)).mono ?_
    rintro e w1 ⟨rfl, hb1⟩
    rw [hc.out]
    go_wp2
    go_ret
    exact ⟨rfl, HB0.trans (hb1.mono HB0.size)⟩
  have hc1 : Hid (cut (1048576 - (x.n : Nat)) = 1048576 - (x.n : Nat)) := Lib.hid (cut_pos (by omega))
  have hnl : (needs x).length ≤ 2097152 := by
    have := needsTo_len x.lies x.flanks x.flanks.length
    unfold Route.n at n1
    show (needsTo x.lies x.flanks x.flanks.length).length ≤ _
    omega
  have HV : Hid (eqv x x = true) := Lib.hid (eqv_self _)
  have HE : Hid (eqv (needs x) (needs x) = true) := Lib.hid (eqv_self _)
  go_enter Try.func7, Try.ntmps7
  go_wp2_with fail
  rw [← hW0]
  have HS0 := Lib.hid hs0
  clear hW0 hs0
  refine (szRouteC x A2 A3 A4 A5 A6 A7 c2 c3 c4 c5 c6 c7 _ _ HX.out (by omega) (by omega)).mono ?_
  rintro e w1 ⟨rfl, hb1⟩
  rw [hc1.out]
  have B0 := Lib.hid hb1
  have a0 := cell_below B0.out f0
  have a1 := cell_below B0.out f1
  have a2 := cell_below B0.out f2
  have a3 := cell_below B0.out f3
  have a4 := cell_below B0.out f4
  have a5 := cell_below B0.out f5
  have a6 := cell_below B0.out f6
  have a7 := cell_below B0.out f7
  have h1 : w.heap.size < w1.heap.size := by have := HS0.out; have := B0.out.size; omega
  clear hb1
  go_wp2_with fail
  refine (toRouteC x A2 A3 A4 A5 A6 A7 c2 c3 c4 c5 c6 c7 _ (HX.out.below B0.out) n1).mono ?_
  intro e w2 hr
  obtain ⟨P2, P3, P4, P5, P6, P7, Pc2, Pc3, Pc4, Pc5, Pc6, Pc7, rfl, q2, hb2⟩ := RetRoute.opened hr; clear hr
  have B0 := Lib.hid (B0.out.trans (hb2.mono B0.out.size))
  clear a0 a1 a2 a3 a4 a5 a6 a7 hb2 h1
  go_wp2_with fail
  refine (specNeedsC x P2 P3 P4 P5 P6 P7 Pc2 Pc3 Pc4 Pc5 Pc6 Pc7 _ q2.out n1).mono ?_
  intro e w3 hr
  obtain ⟨N0, nc0, i0, rfl, C0, _, _, hb3⟩ := RetW.row hr
  have B0 := Lib.hid (B0.out.trans (hb3.mono B0.out.size))
  have a0 := cell_below B0.out f0
  have a1 := cell_below B0.out f1
  have a2 := cell_below B0.out f2
  have a3 := cell_below B0.out f3
  have a4 := cell_below B0.out f4
  have a5 := cell_below B0.out f5
  have a6 := cell_below B0.out f6
  have a7 := cell_below B0.out f7
  have h1 : w.heap.size < w3.heap.size := by have := HS0.out; have := B0.out.size; omega
  clear q2 hb3 hr
  go_wp2_with fail
  refine (toRouteC x A2 A3 A4 A5 A6 A7 c2 c3 c4 c5 c6 c7 _ (HX.out.below B0.out) n1).mono ?_
  intro e w4 hr
  obtain ⟨Q2, Q3, Q4, Q5, Q6, Q7, Qc2, Qc3, Qc4, Qc5, Qc6, Qc7, FX, rfl, q4, O4, F4, hb4⟩ := RetRoute.own hr
  have B0S := Lib.hid B0.out.size
  have B0 := Lib.hid (B0.out.trans (hb4.mono B0.out.size))
  have B3 := Lib.hid hb4
  have hz3 : W0.heap.size ≤ w3.heap.size := B0S.out
  have hz34 := hb4.size
  clear hr hb4 a0 a1 a2 a3 a4 a5 a6 a7 h1
  obtain ⟨W4, hW4, hB4, h2, u0, u1, u2, u3, u4, u5, u6, u7⟩ : ∃ W, W = w4.alloc (.cells #[.int .i64 x.frm, .int .i64 x.til, .slice Q2 x.steps.length Qc2, .slice Q3 x.lies.length Qc3, .slice Q4 x.crosses.length Qc4, .slice Q5 x.parts.length Qc5, .slice Q6 x.over.length Qc6, .slice Q7 x.flanks.length Qc7] 57) ∧ Below w4.heap.size w4 W ∧ w4.heap.size < W.heap.size ∧ W.cell? ⟨w4.heap.size, 0, none⟩ = some (.int .i64 x.frm) ∧ W.cell? ⟨w4.heap.size, 1, none⟩ = some (.int .i64 x.til) ∧ W.cell? ⟨w4.heap.size, 2, none⟩ = some (.slice Q2 x.steps.length Qc2) ∧ W.cell? ⟨w4.heap.size, 3, none⟩ = some (.slice Q3 x.lies.length Qc3) ∧ W.cell? ⟨w4.heap.size, 4, none⟩ = some (.slice Q4 x.crosses.length Qc4) ∧ W.cell? ⟨w4.heap.size, 5, none⟩ = some (.slice Q5 x.parts.length Qc5) ∧ W.cell? ⟨w4.heap.size, 6, none⟩ = some (.slice Q6 x.over.length Qc6) ∧ W.cell? ⟨w4.heap.size, 7, none⟩ = some (.slice Q7 x.flanks.length Qc7) := ⟨_, rfl, below_alloc _ _, by simp, by simp, by simp, by simp, by simp, by simp, by simp, by simp, by simp⟩
  go_wp2_with fail
  rw [← hW4]
  clear hW4
  have B0 := Lib.hid (B0.out.trans (hB4.mono B0.out.size))
  have B3 := Lib.hid (B3.out.trans (hB4.mono B3.out.size))
  have O4 := Lib.hid (rK.O_move (fun b hb => hB4.block b (F4.out b hb).2) O4.out)
  have q4 := Lib.hid (q4.out.below hB4)
  have hz4 := hB4.size
  clear hB4
  refine (implNeedsC x Q2 Q3 Q4 Q5 Q6 Q7 Qc2 Qc3 Qc4 Qc5 Qc6 Qc7 _ q4.out n1).mono ?_
  intro e w5 hr
  obtain ⟨N1, nc1, i1, rfl, C1, R1, T1, hb5⟩ := RetW.row hr
  have B0 := Lib.hid (B0.out.trans (hb5.mono B0.out.size))
  have B3 := Lib.hid (B3.out.trans (hb5.mono B3.out.size))
  have O4 := Lib.hid (rK.O_move (fun b hb => hb5.block b (by have := F4.out b hb; omega)) O4.out)
  have q4 := Lib.hid (q4.out.below hb5)
  have v0 := cell_below hb5 u0
  have v1 := cell_below hb5 u1
  have v2 := cell_below hb5 u2
  have v3 := cell_below hb5 u3
  have v4 := cell_below hb5 u4
  have v5 := cell_below hb5 u5
  have v6 := cell_below hb5 u6
  have v7 := cell_below hb5 u7
  have hz5 := hb5.size
  have h3 : w4.heap.size < w5.heap.size := by omega
  clear hr hb5 u0 u1 u2 u3 u4 u5 u6 u7
  go_wp2_with fail
  refine (eqLieS _ _ _ _ (needs x) (needs x) _ C1.out (Kn.C_below B3.out C0.out)).mono ?_
  rintro e w6 ⟨rfl, hb6⟩
  rw [HE.out]
  have B0 := Lib.hid (B0.out.trans (hb6.mono B0.out.size))
  have B3 := Lib.hid (B3.out.trans (hb6.mono B3.out.size))
  have O4 := Lib.hid (rK.O_move (fun b hb => hb6.block b (by have := F4.out b hb; omega)) O4.out)
  have q4 := Lib.hid (q4.out.below hb6).drew
  have R1 := Lib.hid (Kn.own_move R1.out (fun b hb => hb6.block b (T1.out b hb).2))
  have C1 := Lib.hid (Kn.C_below hb6 C1.out)
  have u0 := cell_below hb6 v0
  have u1 := cell_below hb6 v1
  have u2 := cell_below hb6 v2
  have u3 := cell_below hb6 v3
  have u4 := cell_below hb6 v4
  have u5 := cell_below hb6 v5
  have u6 := cell_below hb6 v6
  have u7 := cell_below hb6 v7
  have a0 := cell_below B0.out f0
  have a1 := cell_below B0.out f1
  have a2 := cell_below B0.out f2
  have a3 := cell_below B0.out f3
  have a4 := cell_below B0.out f4
  have a5 := cell_below B0.out f5
  have a6 := cell_below B0.out f6
  have a7 := cell_below B0.out f7
  have h1 : w.heap.size < w6.heap.size := by have := HS0.out; have := B0.out.size; omega
  have HX6 := Lib.hid (HX.out.below B0.out).drew
  have hz6 := hb6.size
  have h4 : w4.heap.size < w6.heap.size := by omega
  clear hb6 v0 v1 v2 v3 v4 v5 v6 v7 h3 h2
  go_wp2_with fail
  go_region_held3 (fun w' => w'.cell? ⟨w.heap.size, 0, none⟩ = some (.int .i64 x.frm) ∧ w'.cell? ⟨w.heap.size, 1, none⟩ = some (.int .i64 x.til) ∧ w'.cell? ⟨w.heap.size, 2, none⟩ = some (.slice A2 x.steps.length c2) ∧ w'.cell? ⟨w.heap.size, 3, none⟩ = some (.slice A3 x.lies.length c3) ∧ w'.cell? ⟨w.heap.size, 4, none⟩ = some (.slice A4 x.crosses.length c4) ∧ w'.cell? ⟨w.heap.size, 5, none⟩ = some (.slice A5 x.parts.length c5) ∧ w'.cell? ⟨w.heap.size, 6, none⟩ = some (.slice A6 x.over.length c6) ∧ w'.cell? ⟨w.heap.size, 7, none⟩ = some (.slice A7 x.flanks.length c7) ∧ w'.cell? ⟨w4.heap.size, 0, none⟩ = some (.int .i64 x.frm) ∧ w'.cell? ⟨w4.heap.size, 1, none⟩ = some (.int .i64 x.til) ∧ w'.cell? ⟨w4.heap.size, 2, none⟩ = some (.slice Q2 x.steps.length Qc2) ∧ w'.cell? ⟨w4.heap.size, 3, none⟩ = some (.slice Q3 x.lies.length Qc3) ∧ w'.cell? ⟨w4.heap.size, 4, none⟩ = some (.slice Q4 x.crosses.length Qc4) ∧ w'.cell? ⟨w4.heap.size, 5, none⟩ = some (.slice Q5 x.parts.length Qc5) ∧ w'.cell? ⟨w4.heap.size, 6, none⟩ = some (.slice Q6 x.over.length Qc6) ∧ w'.cell? ⟨w4.heap.size, 7, none⟩ = some (.slice Q7 x.flanks.length Qc7))
    (first | exact ⟨cell_below hb8 (cell_below hb7 a0), cell_below hb8 (cell_below hb7 a1), cell_below hb8 (cell_below hb7 a2), cell_below hb8 (cell_below hb7 a3), cell_below hb8 (cell_below hb7 a4), cell_below hb8 (cell_below hb7 a5), cell_below hb8 (cell_below hb7 a6), cell_below hb8 (cell_below hb7 a7), cell_below hb8 (cell_below hb7 u0), cell_below hb8 (cell_below hb7 u1), cell_below hb8 (cell_below hb7 u2), cell_below hb8 (cell_below hb7 u3), cell_below hb8 (cell_below hb7 u4), cell_below hb8 (cell_below hb7 u5), cell_below hb8 (cell_below hb7 u6), cell_below hb8 (cell_below hb7 u7)⟩ | exact ⟨cell_below hb7 a0, cell_below hb7 a1, cell_below hb7 a2, cell_below hb7 a3, cell_below hb7 a4, cell_below hb7 a5, cell_below hb7 a6, cell_below hb7 a7, cell_below hb7 u0, cell_below hb7 u1, cell_below hb7 u2, cell_below hb7 u3, cell_below hb7 u4, cell_below hb7 u5, cell_below hb7 u6, cell_below hb7 u7⟩ | go_keep)
    (first | (go_at_call 30; (with_reducible refine (toRouteC x A2 A3 A4 A5 A6 A7 c2 c3 c4 c5 c6 c7 _ (HX6.out) n1).mono ?_); intro e w7 hr; obtain ⟨G2, G3, G4, G5, G6, G7, Gc2, Gc3, Gc4, Gc5, Gc6, Gc7, rfl, q7, hb7⟩ := RetRoute.opened hr; clear hr)
           | (go_at_call 32; (with_reducible refine (eqRouteC x x Q2 Q3 Q4 Q5 Q6 Q7 Qc2 Qc3 Qc4 Qc5 Qc6 Qc7 G2 G3 G4 G5 G6 G7 Gc2 Gc3 Gc4 Gc5 Gc6 Gc7 _ (q4.out.below hb7) (q7.out)).mono ?_); rintro e w8 ⟨rfl, hb8⟩; rw [HV.out]))
  have k8 : Below w6.drew.heap.size w6.drew w8 := hb7.trans (hb8.mono hb7.size)
  have k8' : Below w6.heap.size w6 w8 := ((Below.refl w6.heap.size w6).drew).trans k8
  have B0 := Lib.hid (B0.out.trans (k8'.mono B0.out.size))
  have B3 := Lib.hid (B3.out.trans (k8'.mono B3.out.size))
  have O4 := Lib.hid (rK.O_move (fun b hb => k8'.block b (by have := F4.out b hb; omega)) O4.out)
  have R1 := Lib.hid (Kn.own_move R1.out (fun b hb => k8'.block b (by have := T1.out b hb; omega)))
  have C1 := Lib.hid (Kn.C_below k8' C1.out)
  have v0 := cell_below k8' u0
  have v1 := cell_below k8' u1
  have v2 := cell_below k8' u2
  have v3 := cell_below k8' u3
  have v4 := cell_below k8' u4
  have v5 := cell_below k8' u5
  have v6 := cell_below k8' u6
  have v7 := cell_below k8' u7
  have hz8 := k8'.size
  have h5 : w4.heap.size < w8.heap.size := by omega
  clear HX6 q4 q7 hb7 hb8 k8 k8' u0 u1 u2 u3 u4 u5 u6 u7 a0 a1 a2 a3 a4 a5 a6 a7 h1 h4
  go_wp2_with fail
  refine (markRoute x Q2 Q3 Q4 Q5 Q6 Q7 Qc2 Qc3 Qc4 Qc5 Qc6 Qc7 FX 1 _ O4.out n1 (by omega) (by omega)).mono ?_
  rintro e w9 ⟨k9, rfl, hk9, hk9', K9⟩
  have b9 : Below w3.heap.size w8 w9 := K9.to_below (by have := B3.out.size; omega) (fun b hb h => by have := F4.out b h; omega)
  have b9' : Below W0.heap.size w8 w9 := K9.to_below B0.out.size (fun b hb h => by have := F4.out b h; omega)
  have hz9 := K9.size
  have C1 := Lib.hid (Kn.C_move (fun b hb => K9.block b (by rcases hb with hb | hb; exact hb.elim; have := T1.out b hb; omega) (fun h => by rcases hb with hb | hb; exact hb.elim; have := T1.out b hb; have := F4.out b h; omega)) C1.out)
  have R1 := Lib.hid (Kn.own_move R1.out (fun b hb => K9.block b (by have := T1.out b hb; omega) (fun h => by have := T1.out b hb; have := F4.out b h; omega)))
  have B0 := Lib.hid (B0.out.trans b9')
  have B3 := Lib.hid (B3.out.trans b9)
  clear K9 b9 b9' O4 h5 v0 v1 v2 v3 v4 v5 v6 v7
  have d9 : decide (k9 < 0) = false := decide_eq_false (by omega)
  go_wp2_with fail
  refine (eqLieS _ _ _ _ (needs x) (needs x) _ C1.out (Kn.C_below B3.out C0.out)).mono ?_
  rintro e w10 ⟨rfl, hb10⟩
  rw [HE.out]
  have B0 := Lib.hid (B0.out.trans (hb10.mono B0.out.size))
  have B3 := Lib.hid (B3.out.trans (hb10.mono B3.out.size))
  have R1 := Lib.hid (Kn.own_move R1.out (fun b hb => hb10.block b (by have := T1.out b hb; omega)))
  have hz10 := hb10.size
  clear hb10 C1
  go_wp2_with fail
  refine (markLieS N1 (needs x).length nc1 1 _ i1 R1.out (by omega) (by omega) (by omega)).mono ?_
  intro e w11 hr
  obtain ⟨k11, rfl, hk11, M11, G11, hz11⟩ := RetMark.open hr
  have hk11b : 1 ≤ k11 := by have := hk11.out; omega
  have b11 : Below w3.heap.size w10 w11 := (Below.refl _ _).grown G11 B3.out.size (fun b hb => by have := T1.out b hb; omega)
  have b11' : Below W0.heap.size w10 w11 := b11.mono hz3
  have B0 := Lib.hid (B0.out.trans b11')
  have B3 := Lib.hid (B3.out.trans b11)
  clear hr G11 b11 b11' R1
  go_wp2_with fail
  refine (heldLieS N1 (needs x).length nc1 1 _ M11.out (by omega) (by omega) (by omega)).mono ?_
  rintro e w12 ⟨rfl, rfl⟩
  rw [← hk11.out]
  have dk : decide (k11 < 0) = false := decide_eq_false (by omega)
  have a0 := cell_below B0.out f0
  have a1 := cell_below B0.out f1
  have a2 := cell_below B0.out f2
  have a3 := cell_below B0.out f3
  have a4 := cell_below B0.out f4
  have a5 := cell_below B0.out f5
  have a6 := cell_below B0.out f6
  have a7 := cell_below B0.out f7
  have h1 : w.heap.size < w12.heap.size := by have := HS0.out; have := B0.out.size; omega
  go_wp2_with fail
  refine (toRouteC x A2 A3 A4 A5 A6 A7 c2 c3 c4 c5 c6 c7 _ (HX.out.below B0.out) n1).mono ?_
  intro e w13 hr
  obtain ⟨G2, G3, G4, G5, G6, G7, Gc2, Gc3, Gc4, Gc5, Gc6, Gc7, rfl, q13, hb13⟩ := RetRoute.opened hr; clear hr
  have M11 := Lib.hid (M11.out.move (fun b hb => hb13.block b (by have := T1.out b hb; omega)))
  have B0 := Lib.hid (B0.out.trans (hb13.mono B0.out.size))
  have B3 := Lib.hid (B3.out.trans (hb13.mono B3.out.size))
  have hz13 := hb13.size
  clear hb13 h1 a0 a1 a2 a3 a4 a5 a6 a7
  go_wp2_with fail
  refine (implNeedsC x G2 G3 G4 G5 G6 G7 Gc2 Gc3 Gc4 Gc5 Gc6 Gc7 _ q13.out n1).mono ?_
  intro e w14 hr
  obtain ⟨N2, nc2, i2, rfl, C2, _, _, hb14⟩ := RetW.row hr
  have M11 := Lib.hid (M11.out.move (fun b hb => hb14.block b (by have := T1.out b hb; omega)))
  have B0 := Lib.hid (B0.out.trans (hb14.mono B0.out.size))
  have B3 := Lib.hid (B3.out.trans (hb14.mono B3.out.size))
  have hz14 := hb14.size
  clear hb14 hr q13
  go_wp2_with fail
  refine (eqLieS _ _ _ _ (needs x) (needs x) _ C2.out (Kn.C_below B3.out C0.out)).mono ?_
  rintro e w15 ⟨rfl, hb15⟩
  rw [HE.out]
  have M11 := Lib.hid (M11.out.move (fun b hb => hb15.block b (by have := T1.out b hb; omega)))
  have B0 := Lib.hid (B0.out.trans (hb15.mono B0.out.size))
  clear hb15 C2
  go_wp2_with fail
  refine (heldLieS N1 (needs x).length nc1 1 _ M11.out (by omega) (by omega) (by omega)).mono ?_
  rintro e w16 ⟨rfl, rfl⟩
  rw [← hk11.out]
  go_wp2
  go_ret
  exact ⟨rfl, HB0.trans (B0.out.mono HB0.size)⟩
end Go.Proofs.Ytginpmhjpjcahaa.L
