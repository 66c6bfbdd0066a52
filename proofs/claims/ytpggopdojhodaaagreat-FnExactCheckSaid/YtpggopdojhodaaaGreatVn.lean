/- The row FnExactCheck: its arguments opened; the walk (Derived.Test.YtpggopdojhodaaaGreatLChk) in the row's frame. -/
import Derived.Test.YtpggopdojhodaaaGreatVm
namespace Go.Proofs.YtpggopdojhodaaaGreat.fnExactCheck
open Go.ChangeShapes Go.WideShapes Go.ChangeAt Go.RowKit Go.Proofs.YtpggopdojhodaaaGreat.L
theorem trodAll_five {P : Program} {H : Type} {enc : TypeId × Value → H} {w : World} {base : Nat} {spare : Nat → Bool} {held : Bool} {t0 t1 t2 t3 t4 : TypeId} {args : Array Value} {ds : List (DataW H)} {ps : List MemPlace} (h : DataW.TrodAll enc P w base spare held [t0, t1, t2, t3, t4] args.toList ds ps) :
    ∃ v0 v1 v2 v3 v4 d0 d1 d2 d3 d4 p0 p1 p2 p3 p4, args = #[v0, v1, v2, v3, v4] ∧ ds = [d0, d1, d2, d3, d4] ∧ ps = p0 ++ (p1 ++ (p2 ++ (p3 ++ p4))) ∧ DataW.Trod enc P w base spare held t0 v0 d0 p0 ∧ DataW.Trod enc P w base spare held t1 v1 d1 p1 ∧ DataW.Trod enc P w base spare held t2 v2 d2 p2 ∧ DataW.Trod enc P w base spare held t3 v3 d3 p3 ∧ DataW.Trod enc P w base spare held t4 v4 d4 p4 := by
  obtain ⟨v0, vs0, d0, e0, p0, q0, hargs, rfl, rfl, g0, h0⟩ := trodAll_cons h
  obtain ⟨v1, vs1, d1, e1, p1, q1, rfl, rfl, rfl, g1, h1⟩ := trodAll_cons h0
  obtain ⟨v2, vs2, d2, e2, p2, q2, rfl, rfl, rfl, g2, h2⟩ := trodAll_cons h1
  obtain ⟨v3, vs3, d3, e3, p3, q3, rfl, rfl, rfl, g3, h3⟩ := trodAll_cons h2
  obtain ⟨v4, vs4, d4, e4, p4, q4, rfl, rfl, rfl, g4, h4⟩ := trodAll_cons h3
  obtain ⟨rfl, rfl, rfl⟩ := trodAll_nil h4
  exact ⟨v0, v1, v2, v3, v4, d0, d1, d2, d3, d4, p0, p1, p2, p3, p4, by cases args; simp_all, rfl, by simp, g0, g1, g2, g3, g4⟩
set_option maxRecDepth 100000 in
theorem lifted (os : Os) (started : os.Started) (H : Type) (enc : TypeId × Value → H) :
    ReturnsInHanded {} Tryz.checked os 5 .any (Rows.fnExactCheckSpec.pre6 enc Tryz.prog Tryz.f5 Rows.fnExactCheckRow.domain false) (Rows.fnExactCheckSpec.post enc Tryz.prog Tryz.f5 false true false false) := by
  refine law_lift (C := Tryz.checked) own started (by kernel_rfl) Tryz.func5 laidOut rfl (tb := 4) (by kernel_rfl) Tryz.underlying4 ?_ ?_
    (ChangeSpec.witness6 (enc := enc) (C := Tryz.checked) false ⟨#[], #[.agg #[.slice none 0 0, .slice none 0 0], .slice none 0 0, .int .i64 0, .slice none 0 0, .slice none 0 0], []⟩ 8 (by kernel_rfl) (by kernel_rfl) (by kernel_rfl) (by kernel_rfl)) ?_
  · intro t ht
    rw [show Tryz.f5.params.toList = [25, 26, 3, 45, 53] from by rw [Tryz.params5]] at ht
    simp only [List.mem_cons, List.not_mem_nil, or_false] at ht
    rcases ht with rfl | rfl | rfl | rfl | rfl
    · exact ⟨by kernel_rfl, of_decide_eq_true (by kernel_rfl)⟩
    · exact ⟨by kernel_rfl, of_decide_eq_true (by kernel_rfl)⟩
    · exact ⟨by kernel_rfl, of_decide_eq_true (by kernel_rfl)⟩
    · exact ⟨by kernel_rfl, of_decide_eq_true (by kernel_rfl)⟩
    · exact ⟨by kernel_rfl, of_decide_eq_true (by kernel_rfl)⟩
  · intro ds hds
    rw [show Tryz.f5.params.toList = [25, 26, 3, 45, 53] from by rw [Tryz.params5]] at hds
    match ds, hds with
    | [d0, d1, d2, d3, d4], _ => rfl
  · intro W base args ds p hval hA
    have hp : Tryz.f5.params.toList = [25, 26, 3, 45, 53] := by rw [Tryz.params5]
    rw [hp] at hA hval
    obtain ⟨v0, v1, v2, v3, v4, d0, d1, d2, d3, d4, p0, p1, p2, p3, p4, rfl, rfl, rfl, ⟨m0, h0⟩, ⟨m1, h1⟩, ⟨m2, h2⟩, ⟨m3, h3⟩, ⟨m4, h4⟩⟩ := trodAll_five hA
    obtain ⟨cs, rfl, _⟩ := okWide_struct Tryz.underlying25 (hval 0 25 v0 rfl rfl)
    obtain ⟨x, hK, hfit⟩ := opens_net.2 H enc _ _ _ _ _ _ h0
    obtain ⟨A0, c0, A1, c1, hcs, _, k0, _, k1⟩ := netK_open hK
    have hcs : cs = #[.slice A0 x.pieces.length c0, .slice A1 x.joints.length c1] := by
      cases cs
      simp only [Value.cells] at hcs
      rw [hcs]
    subst hcs
    obtain ⟨va, vl, vc, rfl⟩ := okWide_slice Tryz.underlying26 (hval 1 26 v1 rfl rfl)
    obtain ⟨ss, hK1, hsf⟩ := (opens_slice (E := 0) Tryz.underlying26 (by kernel_rfl) opens_signal (by decide)).2 H enc _ _ _ _ _ _ h1
    obtain ⟨A2, c2, hcs1, _, k2⟩ := hK1
    have hcs2 : [Value.slice va vl vc] = [.slice A2 ss.length c2] := hcs1
    injection hcs2 with hcs3 _
    injection hcs3 with e1 e2 e3
    subst e1 e2 e3
    clear hcs1
    obtain ⟨ov, rfl⟩ := okWide_int Tryz.underlying3 (hval 2 3 v2 rfl rfl)
    obtain ⟨ra3, rl3, rc3, rfl⟩ := okWide_slice Tryz.underlying45 (hval 3 45 v3 rfl rfl)
    obtain ⟨gs, hK3, _⟩ := (opens_slice (E := 0) Tryz.underlying45 (by kernel_rfl) opens_route (by decide)).2 H enc _ _ _ _ _ _ h3
    obtain ⟨A3, c3, hcr1, _, k3⟩ := hK3
    have hcr2 : [Value.slice ra3 rl3 rc3] = [.slice A3 gs.length c3] := hcr1
    injection hcr2 with hcr3 _
    injection hcr3 with e1 e2 e3
    subst e1 e2 e3
    clear hcr1
    obtain ⟨ia, il, ic, rfl⟩ := okWide_slice Tryz.underlying53 (hval 4 53 v4 rfl rfl)
    obtain ⟨tb, hK4, _⟩ := (opens_slice (E := 0) Tryz.underlying53 (by kernel_rfl) (opens_slice (E := 3) Tryz.underlying46 (by kernel_rfl) opens_i (by decide)) (by decide)).2 H enc _ _ _ _ _ _ h4
    obtain ⟨A4, c4, hci1, _, k4⟩ := hK4
    have hci2 : [Value.slice ia il ic] = [.slice A4 tb.length c4] := hci1
    injection hci2 with hci3 _
    injection hci3 with e1 e2 e3
    subst e1 e2 e3
    clear hci1
    exact (lawCheck x ss ov gs tb A0 A1 va ra3 ia c0 c1 vc rc3 ic W ⟨k0, k1⟩ k2 k3 k4 (Lib.hid hfit) (Lib.hid hsf)).mono fun e W' h => h
theorem over : Rows.fnExactCheckRow.holds Tryz.pinned (OpenSpec.ofChange Rows.fnExactCheckSpec) :=
  OpenClaim.holds_of_wide 5 Tryz.f5 rfl rfl rfl rfl rfl rfl rfl ⟨rfl, rfl, rfl, rfl, rfl⟩ rfl rfl rfl rfl rfl (by kernel_rfl) Tryz.func5 (by kernel_rfl)
    (of_decide_eq_true (by kernel_rfl)) (by unfold Func.isWrapper; first | (rw [if_pos (by decide +kernel)]; kernel_rfl) | (rw [if_neg (by decide +kernel)]; exact ⟨rfl, rfl⟩))
    (fun os started H enc _ => lifted os started H enc)
end Go.Proofs.YtpggopdojhodaaaGreat.fnExactCheck
namespace Go.Proofs.YtpggopdojhodaaaGreat
theorem fnExactCheck_holds : Rows.FnExactCheckSaid := fnExactCheck.over
#print axioms fnExactCheck_holds
end Go.Proofs.YtpggopdojhodaaaGreat
