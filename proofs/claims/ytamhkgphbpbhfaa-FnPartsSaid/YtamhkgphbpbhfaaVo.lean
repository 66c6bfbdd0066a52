/- The row FnParts: its argument opened; the walk (Derived.Test.YtamhkgphbpbhfaaLParts) in the row's frame. -/
import Derived.Test.YtamhkgphbpbhfaaVn
namespace Go.Proofs.Ytamhkgphbpbhfaa.fnParts
open Go.ChangeShapes Go.WideShapes Go.ChangeAt Go.RowKit Go.Proofs.Ytamhkgphbpbhfaa.L
set_option maxRecDepth 100000 in
theorem lifted (os : Os) (started : os.Started) (H : Type) (enc : TypeId × Value → H) :
    ReturnsInHanded {} Try.checked os 6 .any (Rows.fnPartsSpec.pre6 enc Try.prog Try.f6 Rows.fnPartsRow.domain false) (Rows.fnPartsSpec.post enc Try.prog Try.f6 false true false false) := by
  refine law_lift (C := Try.checked) own started (by kernel_rfl) Try.func6 laidOut rfl (tb := 4) (by kernel_rfl) Try.underlying4 ?_ ?_
    (ChangeSpec.witness6 (enc := enc) (C := Try.checked) false ⟨#[], #[.slice none 0 0], []⟩ 8 (by kernel_rfl) (by kernel_rfl) (by kernel_rfl) (by kernel_rfl)) ?_
  · intro t ht
    rw [show Try.f6.params.toList = [22] from by rw [Try.params6]] at ht
    simp only [List.mem_cons, List.not_mem_nil, or_false] at ht
    rcases ht with rfl
    exact ⟨by kernel_rfl, of_decide_eq_true (by kernel_rfl)⟩
  · intro ds hds
    rw [show Try.f6.params.toList = [22] from by rw [Try.params6]] at hds
    match ds, hds with
    | [d0], _ => rfl
  · intro W base args ds p hval hA
    have hp : Try.f6.params.toList = [22] := by rw [Try.params6]
    rw [hp] at hA hval
    obtain ⟨v0, d0, rfl, rfl, m0, h0⟩ := trodAll_one hA
    obtain ⟨va, vl, vc, rfl⟩ := okWide_slice Try.underlying22 (hval 0 22 v0 rfl rfl)
    obtain ⟨rs, hK1, hfit⟩ := opens_bytes.2 H enc _ _ _ _ _ _ h0
    obtain ⟨A2, c2, hcs1, _, k2⟩ := hK1
    have hcs2 : [Value.slice va vl vc] = [.slice A2 rs.length c2] := hcs1
    injection hcs2 with hcs3 _
    injection hcs3 with e1 e2 e3
    subst e1 e2 e3
    clear hcs1
    exact (lawParts rs va vc W k2 (Lib.hid hfit)).mono fun e W' h => h
theorem over : Rows.fnPartsRow.holds Try.pinned (OpenSpec.ofChange Rows.fnPartsSpec) :=
  OpenClaim.holds_of_wide 6 Try.f6 rfl rfl rfl rfl rfl rfl rfl ⟨rfl, rfl, rfl, rfl, rfl⟩ rfl rfl rfl rfl rfl (by kernel_rfl) Try.func6 (by kernel_rfl)
    (of_decide_eq_true (by kernel_rfl)) (by unfold Func.isWrapper; first | (rw [if_pos (by decide +kernel)]; kernel_rfl) | (rw [if_neg (by decide +kernel)]; exact ⟨rfl, rfl⟩))
    (fun os started H enc _ => lifted os started H enc)
end Go.Proofs.Ytamhkgphbpbhfaa.fnParts
namespace Go.Proofs.Ytamhkgphbpbhfaa
theorem fnParts_holds : Rows.FnPartsSaid := fnParts.over
#print axioms fnParts_holds
end Go.Proofs.Ytamhkgphbpbhfaa
