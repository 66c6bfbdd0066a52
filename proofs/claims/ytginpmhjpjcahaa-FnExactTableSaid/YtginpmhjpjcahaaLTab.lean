/- The law FnExactTable, walked: it answers true. -/
import Derived.Test.YtginpmhjpjcahaaMark3
import Derived.Test.YtginpmhjpjcahaaLNet
namespace Go.Proofs.Ytginpmhjpjcahaa.L
open Go.RowKit
set_option linter.unusedVariables false
set_option linter.unusedSimpArgs false
theorem RetS.R {α : Type} {e : Nat} {d : Kn α} {xs : List α} {w w' : World} {en : Ending} (h : RetS e d xs w en w') :
    ∃ A c ps, en = .returned (.slice A xs.length c) ∧ Hid (d.C w' (fun b => b ∈ Kn.foot (.slice A xs.length c) ps) A xs) ∧ Hid (d.R e w' (.slice A xs.length c) ps) ∧ Hid (ps.map Prod.fst = xs) ∧ Hid (∀ b, b ∈ Kn.foot (.slice A xs.length c) ps → w.heap.size ≤ b ∧ b < w'.heap.size) ∧ Below w.heap.size w w' := by
  obtain ⟨A, c, F, rfl, ⟨v, ps, he, hx, hR, hF⟩, hf, hb⟩ := h
  injection he with he _
  subst he
  subst hF
  obtain ⟨A', c', he, _, hC⟩ := Kn.R_C hR
  rw [← hx] at hC
  injection he with he1 he2 he3
  subst he1 he3
  exact ⟨A, c, ps, rfl, Lib.hid hC, Lib.hid hR, Lib.hid hx.symm, Lib.hid (fun b hbb => ⟨hf b hbb, Kn.R_lt hR b hbb⟩), hb⟩
theorem markRouteSx (A : Option Addr) (c : Nat) (ps : List (Route × List Nat)) (xs : List Route) (hx : ps.map Prod.fst = xs) (k : Int) (w : World) (hr : rK.R 57 w (.slice A xs.length c) ps) (hn : lenS Route.n xs ≤ 1073741824) (he : Hid (∀ p ∈ xs, p.n ≤ 4194304)) (h0 : 0 ≤ k) (h1 : k ≤ 1073741824) :
    Calls Try.prog 49 #[.slice A xs.length c, .int .i64 k] w (RetMk (Kn.foot (.slice A xs.length c) ps) k (4 * lenS Route.n xs) w) := by
  subst hx
  have := markRouteS A c ps k w (by rwa [List.length_map] at hr) hn (Lib.hid (fun p hp => he.out p.1 (List.mem_map.2 ⟨p, hp, rfl⟩))) h0 h1
  rw [List.length_map]
  exact this
theorem markIntSSx (A : Option Addr) (c : Nat) (ps : List (List Int × List Nat)) (xs : List (List Int)) (hx : ps.map Prod.fst = xs) (k : Int) (w : World) (hr : rowK.R 53 w (.slice A xs.length c) ps) (hn : xs.length ≤ 300 ∧ ∀ r ∈ xs, r.length ≤ 300) (h0 : 0 ≤ k) (h1 : k ≤ 1073741824) :
    Calls Try.prog 50 #[.slice A xs.length c, .int .i64 k] w (RetMSS A ps k w) := by
  subst hx
  have := markIntSS A c ps k w (by rwa [List.length_map] at hr) (by have := hn.1; rwa [List.length_map] at this) (Lib.hid (fun p hp => hn.2 p.1 (List.mem_map.2 ⟨p, hp, rfl⟩))) h0 h1
  rw [List.length_map]
  exact this
theorem heldIntSSx (A : Option Addr) (c : Nat) (ps : List (List Int × List Nat)) (xs : List (List Int)) (hx : ps.map Prod.fst = xs) (k : Int) (w : World) (hm : MSS w A ps k ps.length) (hn : xs.length ≤ 300 ∧ ∀ r ∈ xs, r.length ≤ 300) (h0 : 0 ≤ k) (h1 : k ≤ 1073741824) :
    Calls Try.prog 51 #[.slice A xs.length c, .int .i64 k] w (RetI0 (k + (tot List.length (ps.map Prod.fst) : Nat)) w) := by
  subst hx
  have := heldIntSS A c ps k w hm (by have := hn.1; rwa [List.length_map] at this) (Lib.hid (fun p hp => hn.2 p.1 (List.mem_map.2 ⟨p, hp, rfl⟩))) h0 h1
  rw [List.length_map]
  exact this
set_option maxRecDepth 100000 in
set_option maxHeartbeats 16000000 in
theorem lawTable {ok : Nat → Prop} (rs : List Route) (A : Option Addr) (c : Nat) (w : World) (hx : rL.C w ok A rs) : Calls Try.prog 9 #[.slice A rs.length c] w (RetB true w) := by
  have hm := hx.1
  have HX := Lib.hid hx
  clear hx
  by_cases n1 : lenS Route.n rs ≤ 1048576
  rotate_left
  · have hc : Hid (cut (1048576 - (lenS Route.n rs : Nat)) = -1) := Lib.hid (cut_neg (by omega))
    go_enter Try.func9, Try.ntmps9
    go_wp2_with fail
    refine (szRouteS A c rs _ _ HX.out (by omega) (by omega)).mono ?_
    rintro e w1 ⟨rfl, hb1⟩
    rw [hc.out]
    go_wp2
    go_ret
    exact ⟨rfl, hb1⟩
  have hc : Hid (cut (1048576 - (lenS Route.n rs : Nat)) = 1048576 - (lenS Route.n rs : Nat)) := Lib.hid (cut_pos (by omega))
  have hl : rs.length ≤ 1048576 := by unfold lenS at n1; omega
  have HS : Hid (∀ x ∈ rs, x.n ≤ 1048576) := Lib.hid (fun x hx => by
    have := tot_in (f := Route.n) hx
    unfold lenS at n1
    omega)
  have HS4 : Hid (∀ x ∈ rs, x.n ≤ 4194304) := Lib.hid (fun x hx => by have := HS.out x hx; omega)
  have HT := Lib.hid (tabF_len rs)
  have htl : (tabF rs).length ≤ 300 := HT.out.1
  have HE : Hid (eqv (tabF rs) (tabF rs) = true) := Lib.hid (eqv_self _)
  have HV : Hid (eqv rs rs = true) := Lib.hid (eqv_self _)
  have hdn : decide (1048576 - (lenS Route.n rs : Int) < 0) = false := decide_eq_false (by omega)
  go_enter Try.func9, Try.ntmps9
  go_wp2_with fail
  refine (szRouteS A c rs _ _ HX.out (by omega) (by omega)).mono ?_
  rintro e w1 ⟨rfl, hb1⟩
  rw [hc.out]
  have B0 := Lib.hid hb1
  clear hb1
  go_wp2_with fail
  refine (toRouteS A c rs _ (Kn.C_below B0.out HX.out) hl HS).mono ?_
  intro e w2 hr
  obtain ⟨P, p, ps2, rfl, q2, _, _, _, hb2⟩ := RetS.R hr
  have B0 := Lib.hid (B0.out.trans (hb2.mono B0.out.size))
  clear hr hb2
  go_wp2_with fail
  refine (specTable P p rs _ q2.out HS).mono ?_
  intro e w3 hr
  obtain ⟨N0, nc0, ps3, rfl, C0, _, _, _, hb3⟩ := RetS.R hr
  have B0 := Lib.hid (B0.out.trans (hb3.mono B0.out.size))
  clear hr hb3 q2
  have hz3 := B0.out.size
  go_wp2_with fail
  refine (toRouteS A c rs _ (Kn.C_below B0.out HX.out) hl HS).mono ?_
  intro e w4 hr
  obtain ⟨Q, q, psX, rfl, CX, RX, EX, FX, hb4⟩ := RetS.R hr
  have B0 := Lib.hid (B0.out.trans (hb4.mono B0.out.size))
  have B3 := Lib.hid hb4
  have hz4 := hb4.size
  clear hr hb4
  go_wp2_with fail
  refine (implTable Q q rs _ CX.out HS).mono ?_
  intro e w5 hr
  obtain ⟨N1, nc1, psG, rfl, CG, RG, EG, FG, hb5⟩ := RetS.R hr
  have B0 := Lib.hid (B0.out.trans (hb5.mono B0.out.size))
  have B3 := Lib.hid (B3.out.trans (hb5.mono B3.out.size))
  have RX := Lib.hid (Kn.R_move (fun b hb => hb5.block b (FX.out b hb).2) RX.out)
  have CX := Lib.hid (Kn.C_below hb5 CX.out)
  have hz5 := hb5.size
  clear hr hb5
  go_wp2_with fail
  refine (eqIntSS _ _ _ _ (tabF rs) (tabF rs) _ CG.out (Kn.C_below B3.out C0.out)).mono ?_
  rintro e w6 ⟨rfl, hb6⟩
  rw [HE.out]
  have B0 := Lib.hid (B0.out.trans (hb6.mono B0.out.size))
  have B3 := Lib.hid (B3.out.trans (hb6.mono B3.out.size))
  have RX := Lib.hid (Kn.R_move (fun b hb => hb6.block b (by have := FX.out b hb; omega)) RX.out)
  have RG := Lib.hid (Kn.R_move (fun b hb => hb6.block b (FG.out b hb).2) RG.out)
  have CX := Lib.hid (Kn.C_below hb6 CX.out)
  have CG := Lib.hid (Kn.C_below hb6 CG.out)
  have hz6 := hb6.size
  clear hb6
  go_wp2_with fail
  refine (toRouteS A c rs _ (Kn.C_below B0.out HX.out) hl HS).mono ?_
  intro e w7 hr
  obtain ⟨P7, p7, ps7, rfl, q7, _, _, _, hb7⟩ := RetS.R hr
  have B0 := Lib.hid (B0.out.trans (hb7.mono B0.out.size))
  have B3 := Lib.hid (B3.out.trans (hb7.mono B3.out.size))
  have RX := Lib.hid (Kn.R_move (fun b hb => hb7.block b (by have := FX.out b hb; omega)) RX.out)
  have RG := Lib.hid (Kn.R_move (fun b hb => hb7.block b (by have := FG.out b hb; omega)) RG.out)
  have CX := Lib.hid (Kn.C_below hb7 CX.out)
  have CG := Lib.hid (Kn.C_below hb7 CG.out)
  have hz7 := hb7.size
  clear hr hb7
  go_wp2_with fail
  refine (eqRouteS _ _ _ _ rs rs _ CX.out q7.out).mono ?_
  rintro e w8 ⟨rfl, hb8⟩
  rw [HV.out]
  have B0 := Lib.hid (B0.out.trans (hb8.mono B0.out.size))
  have B3 := Lib.hid (B3.out.trans (hb8.mono B3.out.size))
  have RX := Lib.hid (Kn.R_move (fun b hb => hb8.block b (by have := FX.out b hb; omega)) RX.out)
  have RG := Lib.hid (Kn.R_move (fun b hb => hb8.block b (by have := FG.out b hb; omega)) RG.out)
  have CG := Lib.hid (Kn.C_below hb8 CG.out)
  have hz8 := hb8.size
  clear hb8 CX q7
  go_wp2_with fail
  refine (markRouteSx Q q psX rs EX.out 1 _ RX.out (by omega) HS4 (by omega) (by omega)).mono ?_
  rintro e w9 ⟨k9, rfl, hk9, _, K9⟩
  have b9 : Below w3.heap.size w8 w9 := K9.to_below (by omega) (fun b hb h => by have := FX.out b h; omega)
  have b9' : Below w.heap.size w8 w9 := b9.mono hz3
  have hz9 := K9.size
  have B0 := Lib.hid (B0.out.trans b9')
  have B3 := Lib.hid (B3.out.trans b9)
  have RG := Lib.hid (Kn.R_move (fun b hb => K9.block b (by have := FG.out b hb; omega) (fun h => by have := FG.out b hb; have := FX.out b h; omega)) RG.out)
  have CG := Lib.hid (Kn.C_move (fun b hb => K9.block b (by have := FG.out b hb; omega) (fun h => by have := FG.out b hb; have := FX.out b h; omega)) CG.out)
  have d9 : decide (k9 < 0) = false := decide_eq_false (by omega)
  clear K9 b9 b9' RX
  go_wp2_with fail
  refine (eqIntSS _ _ _ _ (tabF rs) (tabF rs) _ CG.out (Kn.C_below B3.out C0.out)).mono ?_
  rintro e w10 ⟨rfl, hb10⟩
  rw [HE.out]
  have B0 := Lib.hid (B0.out.trans (hb10.mono B0.out.size))
  have B3 := Lib.hid (B3.out.trans (hb10.mono B3.out.size))
  have RG := Lib.hid (Kn.R_move (fun b hb => hb10.block b (by have := FG.out b hb; omega)) RG.out)
  have hz10 := hb10.size
  clear hb10 CG
  go_wp2_with fail
  refine (markIntSSx N1 nc1 psG (tabF rs) EG.out 1 _ RG.out HT.out (by omega) (by omega)).mono ?_
  rintro e w11 ⟨k11, rfl, hk11, M11, K11⟩
  have hin : ∀ b, b ∈ (psG.map Prod.snd).flatten → w4.heap.size ≤ b := fun b hb => (FG.out b (List.mem_append_right _ hb)).1
  have b11 : Below w3.heap.size w10 w11 := K11.out.to_below (by omega) (fun b hb h => by have := hin b h; omega)
  have b11' : Below w.heap.size w10 w11 := b11.mono hz3
  have B0 := Lib.hid (B0.out.trans b11')
  have B3 := Lib.hid (B3.out.trans b11)
  have hz11 := K11.out.size
  have hk11b : 1 ≤ k11 := by have := hk11.out; omega
  have dk : decide (k11 < 0) = false := decide_eq_false (by omega)
  clear hin b11 b11' K11 RG
  go_wp2_with fail
  refine (heldIntSSx N1 nc1 psG (tabF rs) EG.out 1 _ M11.out HT.out (by omega) (by omega)).mono ?_
  rintro e w12 ⟨rfl, rfl⟩
  rw [← hk11.out]
  go_wp2_with fail
  refine (toRouteS A c rs _ (Kn.C_below B0.out HX.out) hl HS).mono ?_
  intro e w13 hr
  obtain ⟨P13, p13, ps13, rfl, q13, _, _, _, hb13⟩ := RetS.R hr
  have B0 := Lib.hid (B0.out.trans (hb13.mono B0.out.size))
  have B3 := Lib.hid (B3.out.trans (hb13.mono B3.out.size))
  have M11 := Lib.hid (M11.out.below hb13)
  clear hr hb13
  go_wp2_with fail
  refine (implTable P13 p13 rs _ q13.out HS).mono ?_
  intro e w14 hr
  obtain ⟨N2, nc2, ps14, rfl, C2, _, _, _, hb14⟩ := RetS.R hr
  have B0 := Lib.hid (B0.out.trans (hb14.mono B0.out.size))
  have B3 := Lib.hid (B3.out.trans (hb14.mono B3.out.size))
  have M11 := Lib.hid (M11.out.below hb14)
  clear hr hb14 q13
  go_wp2_with fail
  refine (eqIntSS _ _ _ _ (tabF rs) (tabF rs) _ C2.out (Kn.C_below B3.out C0.out)).mono ?_
  rintro e w15 ⟨rfl, hb15⟩
  rw [HE.out]
  have B0 := Lib.hid (B0.out.trans (hb15.mono B0.out.size))
  have M11 := Lib.hid (M11.out.below hb15)
  clear hb15 C2
  go_wp2_with fail
  refine (heldIntSSx N1 nc1 psG (tabF rs) EG.out 1 _ M11.out HT.out (by omega) (by omega)).mono ?_
  rintro e w16 ⟨rfl, rfl⟩
  rw [← hk11.out]
  go_wp2
  go_ret
  exact ⟨rfl, B0.out⟩
end Go.Proofs.Ytginpmhjpjcahaa.L
