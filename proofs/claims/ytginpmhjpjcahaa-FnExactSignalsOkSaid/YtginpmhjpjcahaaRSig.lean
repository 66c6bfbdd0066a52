/- The row FnExactSignalsOk: its arguments opened; the walk (Derived.Test.YtginpmhjpjcahaaLSig) in the row's frame. -/
import Derived.Test.YtginpmhjpjcahaaOpen
import Derived.Test.YtginpmhjpjcahaaLSig
namespace Go.Proofs.Ytginpmhjpjcahaa.fnExactSignalsOk
open Go.ChangeShapes Go.WideShapes Go.ChangeAt Go.RowKit Go.Proofs.Ytginpmhjpjcahaa.L
set_option maxRecDepth 100000 in
theorem lifted (os : Os) (started : os.Started) (H : Type) (enc : TypeId × Value → H) :
    ReturnsInHanded {} Try.checked os 8 .any (Rows.fnExactSignalsOkSpec.pre6 enc Try.prog Try.f8 Rows.fnExactSignalsOkRow.domain false) (Rows.fnExactSignalsOkSpec.post enc Try.prog Try.f8 false true false false) := by
  refine law_lift (C := Try.checked) own started (by kernel_rfl) Try.func8 laidOut rfl (tb := 4) (by kernel_rfl) Try.underlying4 ?_ ?_
    (ChangeSpec.witness6 (enc := enc) (C := Try.checked) false ⟨#[], #[.agg #[.slice none 0 0, .slice none 0 0], .slice none 0 0], []⟩ 8 (by kernel_rfl) (by kernel_rfl) (by kernel_rfl) (by kernel_rfl)) ?_
  · intro t ht
    rw [show Try.f8.params.toList = [26, 83] from by rw [Try.params8]] at ht
    simp only [List.mem_cons, List.not_mem_nil, or_false] at ht
    rcases ht with rfl | rfl
    · exact ⟨by kernel_rfl, of_decide_eq_true (by kernel_rfl)⟩
    · exact ⟨by kernel_rfl, of_decide_eq_true (by kernel_rfl)⟩
  · intro ds hds
    rw [show Try.f8.params.toList = [26, 83] from by rw [Try.params8]] at hds
    match ds, hds with
    | [d0, d1], _ => rfl
  · intro W base args ds p hval hA
    have hp : Try.f8.params.toList = [26, 83] := by rw [Try.params8]
    rw [hp] at hA hval
    obtain ⟨v0, v1, d0, d1, p0, p1, rfl, rfl, rfl, ⟨m0, h0⟩, ⟨m1, h1⟩⟩ := trodAll_two hA
    obtain ⟨cs, rfl, _⟩ := okWide_struct Try.underlying26 (hval 0 26 v0 rfl rfl)
    obtain ⟨x, hK, hfit⟩ := opens_net.2 H enc _ _ _ _ _ _ h0
    obtain ⟨A0, c0, A1, c1, hcs, _, k0, _, k1⟩ := netK_open hK
    have hcs : cs = #[.slice A0 x.pieces.length c0, .slice A1 x.joints.length c1] := by
      cases cs
      simp only [Value.cells] at hcs
      rw [hcs]
    subst hcs
    obtain ⟨va, vl, vc, rfl⟩ := okWide_slice Try.underlying83 (hval 1 83 v1 rfl rfl)
    obtain ⟨ss, hK1, hsf⟩ := (opens_slice (E := 0) Try.underlying83 (by kernel_rfl) opens_signal (by decide)).2 H enc _ _ _ _ _ _ h1
    obtain ⟨A2, c2, hcs1, _, k2⟩ := hK1
    have hcs2 : [Value.slice va vl vc] = [.slice A2 ss.length c2] := hcs1
    injection hcs2 with hcs3 _
    injection hcs3 with e1 e2 e3
    subst e1 e2 e3
    clear hcs1
    exact (lawSignalsOk x ss A0 A1 va c0 c1 vc W ⟨k0, k1⟩ k2 (Lib.hid hfit) (Lib.hid hsf)).mono fun e W' h => h
theorem over : Rows.fnExactSignalsOkRow.holds Try.pinned (OpenSpec.ofChange Rows.fnExactSignalsOkSpec) :=
  OpenClaim.holds_of_wide 8 Try.f8 rfl rfl rfl rfl rfl rfl rfl ⟨rfl, rfl, rfl, rfl, rfl⟩ rfl rfl rfl rfl rfl (by kernel_rfl) Try.func8 (by kernel_rfl)
    (of_decide_eq_true (by kernel_rfl)) (by unfold Func.isWrapper; first | (rw [if_pos (by decide +kernel)]; kernel_rfl) | (rw [if_neg (by decide +kernel)]; exact ⟨rfl, rfl⟩))
    (fun os started H enc _ => lifted os started H enc)
end Go.Proofs.Ytginpmhjpjcahaa.fnExactSignalsOk
namespace Go.Proofs.Ytginpmhjpjcahaa
/-- The row. -/
theorem fnExactSignalsOk_holds : Rows.FnExactSignalsOkSaid := fnExactSignalsOk.over
#print axioms fnExactSignalsOk_holds
end Go.Proofs.Ytginpmhjpjcahaa
