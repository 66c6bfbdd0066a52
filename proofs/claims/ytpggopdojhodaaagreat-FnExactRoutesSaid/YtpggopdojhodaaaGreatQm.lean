/- The row FnExactRoutes: its arguments opened; the walk (Derived.Test.YtpggopdojhodaaaGreatLRts) in the row's frame. -/
import Derived.Test.YtpggopdojhodaaaGreatQl
namespace Go.Proofs.YtpggopdojhodaaaGreat.fnExactRoutes
open Go.ChangeShapes Go.WideShapes Go.ChangeAt Go.RowKit Go.Proofs.YtpggopdojhodaaaGreat.L
set_option maxRecDepth 100000 in
theorem lifted (os : Os) (started : os.Started) (H : Type) (enc : TypeId × Value → H) :
    ReturnsInHanded {} Tryz.checked os 3 .any (Rows.fnExactRoutesSpec.pre6 enc Tryz.prog Tryz.f3 Rows.fnExactRoutesRow.domain false) (Rows.fnExactRoutesSpec.post enc Tryz.prog Tryz.f3 false true false false) := by
  refine law_lift (C := Tryz.checked) own started (by kernel_rfl) Tryz.func3 laidOut rfl (tb := 4) (by kernel_rfl) Tryz.underlying4 ?_ ?_
    (ChangeSpec.witness6 (enc := enc) (C := Tryz.checked) false ⟨#[], #[.agg #[.slice none 0 0, .slice none 0 0], .slice none 0 0, .int .i64 0], []⟩ 8 (by kernel_rfl) (by kernel_rfl) (by kernel_rfl) (by kernel_rfl)) ?_
  · intro t ht
    rw [show Tryz.f3.params.toList = [25, 26, 3] from by rw [Tryz.params3]] at ht
    simp only [List.mem_cons, List.not_mem_nil, or_false] at ht
    rcases ht with rfl | rfl | rfl
    · exact ⟨by kernel_rfl, of_decide_eq_true (by kernel_rfl)⟩
    · exact ⟨by kernel_rfl, of_decide_eq_true (by kernel_rfl)⟩
    · exact ⟨by kernel_rfl, of_decide_eq_true (by kernel_rfl)⟩
  · intro ds hds
    rw [show Tryz.f3.params.toList = [25, 26, 3] from by rw [Tryz.params3]] at hds
    match ds, hds with
    | [d0, d1, d2], _ => rfl
  · intro W base args ds p hval hA
    have hp : Tryz.f3.params.toList = [25, 26, 3] := by rw [Tryz.params3]
    rw [hp] at hA hval
    obtain ⟨v0, v1, v2, d0, d1, d2, p0, p1, p2, rfl, rfl, rfl, ⟨m0, h0⟩, ⟨m1, h1⟩, ⟨m2, h2⟩⟩ := trodAll_three hA
    obtain ⟨cs, rfl, _⟩ := okWide_struct Tryz.underlying25 (hval 0 25 v0 rfl rfl)
    obtain ⟨x, hK, hfit⟩ := opens_net.2 H enc _ _ _ _ _ _ h0
    obtain ⟨A0, c0, A1, c1, hcs, _, k0, _, k1⟩ := netK_open hK
    have hcs : cs = #[.slice A0 x.pieces.length c0, .slice A1 x.joints.length c1] := by
      cases cs
      simp only [Value.cells] at hcs
      rw [hcs]
    subst hcs
    obtain ⟨va, vl, vc, rfl⟩ := okWide_slice Tryz.underlying26 (hval 1 26 v1 rfl rfl)
    obtain ⟨ss, hK1, hsf⟩ := (opens_slice (E := 0) Tryz.underlying26 (by kernel_rfl) opens_signal (by decide)).2 H enc _ _ _ _ _ _ h1
    obtain ⟨A2, c2, hcs1, _, k2⟩ := hK1
    have hcs2 : [Value.slice va vl vc] = [.slice A2 ss.length c2] := hcs1
    injection hcs2 with hcs3 _
    injection hcs3 with e1 e2 e3
    subst e1 e2 e3
    clear hcs1
    obtain ⟨ov, rfl⟩ := okWide_int Tryz.underlying3 (hval 2 3 v2 rfl rfl)
    exact (lawRoutes x ss ov A0 A1 va c0 c1 vc W ⟨k0, k1⟩ k2 (Lib.hid hfit) (Lib.hid hsf)).mono fun e W' h => h
theorem over : Rows.fnExactRoutesRow.holds Tryz.pinned (OpenSpec.ofChange Rows.fnExactRoutesSpec) :=
  OpenClaim.holds_of_wide 3 Tryz.f3 rfl rfl rfl rfl rfl rfl rfl ⟨rfl, rfl, rfl, rfl, rfl⟩ rfl rfl rfl rfl rfl (by kernel_rfl) Tryz.func3 (by kernel_rfl)
    (of_decide_eq_true (by kernel_rfl)) (by unfold Func.isWrapper; first | (rw [if_pos (by decide +kernel)]; kernel_rfl) | (rw [if_neg (by decide +kernel)]; exact ⟨rfl, rfl⟩))
    (fun os started H enc _ => lifted os started H enc)
end Go.Proofs.YtpggopdojhodaaaGreat.fnExactRoutes
namespace Go.Proofs.YtpggopdojhodaaaGreat
theorem fnExactRoutes_holds : Rows.FnExactRoutesSaid := fnExactRoutes.over
#print axioms fnExactRoutes_holds
end Go.Proofs.YtpggopdojhodaaaGreat
