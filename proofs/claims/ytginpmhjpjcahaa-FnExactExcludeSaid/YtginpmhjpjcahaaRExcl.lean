/- The row FnExactExclude: its arguments opened; the walk (Derived.Test.YtginpmhjpjcahaaLExcl) in the row's frame. -/
import Derived.Test.YtginpmhjpjcahaaOpen
import Derived.Test.YtginpmhjpjcahaaLExcl
namespace Go.Proofs.Ytginpmhjpjcahaa.fnExactExclude
open Go.ChangeShapes Go.WideShapes Go.ChangeAt Go.RowKit Go.Proofs.Ytginpmhjpjcahaa.L
set_option maxRecDepth 100000 in
theorem lifted (os : Os) (started : os.Started) (H : Type) (enc : TypeId × Value → H) :
    ReturnsInHanded {} Try.checked os 6 .any (Rows.fnExactExcludeSpec.pre6 enc Try.prog Try.f6 Rows.fnExactExcludeRow.domain false) (Rows.fnExactExcludeSpec.post enc Try.prog Try.f6 false true false false) := by
  refine law_lift (C := Try.checked) own started (by kernel_rfl) Try.func6 laidOut rfl (tb := 4) (by kernel_rfl) Try.underlying4 ?_ ?_
    (ChangeSpec.witness6 (enc := enc) (C := Try.checked) false ⟨#[], #[.agg #[.int .i64 0, .int .i64 0, .slice none 0 0, .slice none 0 0, .slice none 0 0, .slice none 0 0, .slice none 0 0, .slice none 0 0], .agg #[.int .i64 0, .int .i64 0, .slice none 0 0, .slice none 0 0, .slice none 0 0, .slice none 0 0, .slice none 0 0, .slice none 0 0]], []⟩ 8 (by kernel_rfl) (by kernel_rfl) (by kernel_rfl) (by kernel_rfl)) ?_
  · intro t ht
    obtain rfl : t = 73 := by simpa [Try.params6] using ht
    exact ⟨by kernel_rfl, of_decide_eq_true (by kernel_rfl)⟩
  · intro ds hds
    rw [show Try.f6.params.toList = [73, 73] from by rw [Try.params6]] at hds
    match ds, hds with
    | [d, d'], _ => rfl
  · intro W base args ds p hval hA
    have hp : Try.f6.params.toList = [73, 73] := by rw [Try.params6]
    rw [hp] at hA hval
    obtain ⟨v0, v1, d0, d1, p0, p1, rfl, rfl, rfl, ⟨m0, h0⟩, ⟨m1, h1⟩⟩ := trodAll_two hA
    obtain ⟨cs0, rfl, _⟩ := okWide_struct Try.underlying73 (hval 0 73 v0 rfl rfl)
    obtain ⟨x, hK0, _⟩ := opens_route.2 H enc _ _ _ _ _ _ h0
    obtain ⟨A2, c2, A3, c3, A4, c4, A5, c5, A6, c6, A7, c7, hcs, _, k02, _, k03, _, k04, _, k05, _, k06, _, k07⟩ := routeK_open hK0
    have hcs0 : cs0 = #[.int .i64 x.frm, .int .i64 x.til, .slice A2 x.steps.length c2, .slice A3 x.lies.length c3, .slice A4 x.crosses.length c4, .slice A5 x.parts.length c5, .slice A6 x.over.length c6, .slice A7 x.flanks.length c7] := by
      cases cs0
      simp only [Value.cells] at hcs
      rw [hcs]
    subst hcs0
    clear hcs
    obtain ⟨cs1, rfl, _⟩ := okWide_struct Try.underlying73 (hval 1 73 v1 rfl rfl)
    obtain ⟨y, hK1, _⟩ := opens_route.2 H enc _ _ _ _ _ _ h1
    obtain ⟨B2, d2, B3, d3, B4, d4, B5, d5, B6, d6, B7, d7, hcs, _, k12, _, k13, _, k14, _, k15, _, k16, _, k17⟩ := routeK_open hK1
    have hcs1 : cs1 = #[.int .i64 y.frm, .int .i64 y.til, .slice B2 y.steps.length d2, .slice B3 y.lies.length d3, .slice B4 y.crosses.length d4, .slice B5 y.parts.length d5, .slice B6 y.over.length d6, .slice B7 y.flanks.length d7] := by
      cases cs1
      simp only [Value.cells] at hcs
      rw [hcs]
    subst hcs1
    clear hcs
    exact (lawExclude x y A2 A3 A4 A5 A6 A7 B2 B3 B4 B5 B6 B7 c2 c3 c4 c5 c6 c7 d2 d3 d4 d5 d6 d7 W ⟨k02, k03, k04, k05, k06, k07⟩ ⟨k12, k13, k14, k15, k16, k17⟩).mono fun e W' h => h
theorem over : Rows.fnExactExcludeRow.holds Try.pinned (OpenSpec.ofChange Rows.fnExactExcludeSpec) :=
  OpenClaim.holds_of_wide 6 Try.f6 rfl rfl rfl rfl rfl rfl rfl ⟨rfl, rfl, rfl, rfl, rfl⟩ rfl rfl rfl rfl rfl (by kernel_rfl) Try.func6 (by kernel_rfl)
    (of_decide_eq_true (by kernel_rfl)) (by unfold Func.isWrapper; first | (rw [if_pos (by decide +kernel)]; kernel_rfl) | (rw [if_neg (by decide +kernel)]; exact ⟨rfl, rfl⟩))
    (fun os started H enc _ => lifted os started H enc)
end Go.Proofs.Ytginpmhjpjcahaa.fnExactExclude
namespace Go.Proofs.Ytginpmhjpjcahaa
/-- The row. -/
theorem fnExactExclude_holds : Rows.FnExactExcludeSaid := fnExactExclude.over
#print axioms fnExactExclude_holds
end Go.Proofs.Ytginpmhjpjcahaa
