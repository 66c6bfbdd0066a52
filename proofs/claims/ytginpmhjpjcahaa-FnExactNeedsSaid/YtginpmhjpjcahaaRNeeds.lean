/- The row FnExactNeeds: its arguments opened; the walk (Derived.Test.YtginpmhjpjcahaaLNeeds) in the row's frame. -/
import Derived.Test.YtginpmhjpjcahaaOpen
import Derived.Test.YtginpmhjpjcahaaLNeeds
namespace Go.Proofs.Ytginpmhjpjcahaa.fnExactNeeds
open Go.ChangeShapes Go.WideShapes Go.ChangeAt Go.RowKit Go.Proofs.Ytginpmhjpjcahaa.L
set_option maxRecDepth 100000 in
theorem lifted (os : Os) (started : os.Started) (H : Type) (enc : TypeId × Value → H) :
    ReturnsInHanded {} Try.checked os 7 .any (Rows.fnExactNeedsSpec.pre6 enc Try.prog Try.f7 Rows.fnExactNeedsRow.domain false) (Rows.fnExactNeedsSpec.post enc Try.prog Try.f7 false true false false) := by
  refine law_lift (C := Try.checked) own started (by kernel_rfl) Try.func7 laidOut rfl (tb := 4) (by kernel_rfl) Try.underlying4 ?_ ?_
    (ChangeSpec.witness6 (enc := enc) (C := Try.checked) false ⟨#[], #[.agg #[.int .i64 0, .int .i64 0, .slice none 0 0, .slice none 0 0, .slice none 0 0, .slice none 0 0, .slice none 0 0, .slice none 0 0]], []⟩ 8 (by kernel_rfl) (by kernel_rfl) (by kernel_rfl) (by kernel_rfl)) ?_
  · intro t ht
    rw [show Try.f7.params.toList = [73] from by rw [Try.params7]] at ht
    simp only [List.mem_cons, List.not_mem_nil, or_false] at ht
    rcases ht with rfl
    exact ⟨by kernel_rfl, of_decide_eq_true (by kernel_rfl)⟩
  · intro ds hds
    rw [show Try.f7.params.toList = [73] from by rw [Try.params7]] at hds
    match ds, hds with
    | [d0], _ => rfl
  · intro W base args ds p hval hA
    have hp : Try.f7.params.toList = [73] := by rw [Try.params7]
    rw [hp] at hA hval
    obtain ⟨v0, d0, rfl, rfl, m0, h0⟩ := trodAll_one hA
    obtain ⟨cs0, rfl, _⟩ := okWide_struct Try.underlying73 (hval 0 73 v0 rfl rfl)
    obtain ⟨x, hK0, _⟩ := opens_route.2 H enc _ _ _ _ _ _ h0
    obtain ⟨A2, c2, A3, c3, A4, c4, A5, c5, A6, c6, A7, c7, hcs, _, k02, _, k03, _, k04, _, k05, _, k06, _, k07⟩ := routeK_open hK0
    have hcs0 : cs0 = #[.int .i64 x.frm, .int .i64 x.til, .slice A2 x.steps.length c2, .slice A3 x.lies.length c3, .slice A4 x.crosses.length c4, .slice A5 x.parts.length c5, .slice A6 x.over.length c6, .slice A7 x.flanks.length c7] := by
      cases cs0
      simp only [Value.cells] at hcs
      rw [hcs]
    subst hcs0
    clear hcs
    exact (lawNeeds x A2 A3 A4 A5 A6 A7 c2 c3 c4 c5 c6 c7 W ⟨k02, k03, k04, k05, k06, k07⟩).mono fun e W' h => h
theorem over : Rows.fnExactNeedsRow.holds Try.pinned (OpenSpec.ofChange Rows.fnExactNeedsSpec) :=
  OpenClaim.holds_of_wide 7 Try.f7 rfl rfl rfl rfl rfl rfl rfl ⟨rfl, rfl, rfl, rfl, rfl⟩ rfl rfl rfl rfl rfl (by kernel_rfl) Try.func7 (by kernel_rfl)
    (of_decide_eq_true (by kernel_rfl)) (by unfold Func.isWrapper; first | (rw [if_pos (by decide +kernel)]; kernel_rfl) | (rw [if_neg (by decide +kernel)]; exact ⟨rfl, rfl⟩))
    (fun os started H enc _ => lifted os started H enc)
end Go.Proofs.Ytginpmhjpjcahaa.fnExactNeeds
namespace Go.Proofs.Ytginpmhjpjcahaa
/-- The row. -/
theorem fnExactNeeds_holds : Rows.FnExactNeedsSaid := fnExactNeeds.over
#print axioms fnExactNeeds_holds
end Go.Proofs.Ytginpmhjpjcahaa
