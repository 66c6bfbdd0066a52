/- The row FnNeeds: its arguments opened; the walk (Derived.Test.YtjccgneimknbpaaLNeedD) in the row's frame. -/
import Derived.Test.YtjccgneimknbpaaNd
set_option linter.unusedVariables false
set_option linter.unusedSimpArgs false
namespace Go.Proofs.Ytjccgneimknbpaa.fnNeeds
open Go.ChangeShapes Go.WideShapes Go.ChangeAt Go.RowKit Go.Proofs.Ytjccgneimknbpaa.L
set_option maxRecDepth 100000 in
theorem lifted (os:Os) (started:os.Started) (H:Type) (enc:TypeId × Value→H) :
  ReturnsInHanded {} Try.checked os 5 .any (Rows.fnNeedsSpec.pre6 enc Try.prog Try.f5 Rows.fnNeedsRow.domain false) (Rows.fnNeedsSpec.post enc Try.prog Try.f5 false true false false):=by
 refine law_lift (C:=Try.checked) own started (by kernel_rfl) Try.func5 laidOut rfl (tb:=4) (by kernel_rfl) Try.underlying4 ?_ ?_
  (ChangeSpec.witness6 (enc:=enc) (C:=Try.checked) false ⟨#[],#[.slice none 0 0],[]⟩ 8 (by kernel_rfl) (by kernel_rfl) (by kernel_rfl) (by kernel_rfl)) ?_
 ·intro t ht
  rw [show Try.f5.params.toList=[22] from by rw [Try.params5]] at ht
  simp only [List.mem_cons,List.not_mem_nil,or_false] at ht
  rcases ht with rfl
  exact ⟨by kernel_rfl,of_decide_eq_true (by kernel_rfl)⟩
 ·intro ds hds
  rw [show Try.f5.params.toList=[22] from by rw [Try.params5]] at hds
  match ds,hds with
  | [d0],_=>rfl
 ·intro W base args ds p hval hA
  have hp:Try.f5.params.toList=[22]:=by rw [Try.params5]
  rw [hp] at hA hval
  obtain ⟨v0,d0,rfl,rfl,m0,h0⟩:=trodAll_one hA
  obtain ⟨va0,vl0,vc0,rfl⟩:=okWide_slice Try.underlying22 (hval 0 22 v0 rfl rfl)
  obtain ⟨bs0,hK0,hfit0⟩:=opens_bytes.2 H enc _ _ _ _ _ _ h0
  obtain ⟨A0,c0,hcs0,_,k0⟩:=hK0
  have hct0:[Value.slice va0 vl0 vc0]=[.slice A0 bs0.length c0]:=hcs0
  injection hct0 with hcu0 _
  injection hcu0 with e0 f0 g0
  subst e0 f0 g0
  clear hcs0
  exact (lawNeedD bs0 va0 vc0 W k0 (Lib.hid hfit0)).mono fun e W' h=>h
theorem over:Rows.fnNeedsRow.holds Try.pinned (OpenSpec.ofChange Rows.fnNeedsSpec) :=
 OpenClaim.holds_of_wide 5 Try.f5 rfl rfl rfl rfl rfl rfl rfl ⟨rfl,rfl,rfl,rfl,rfl⟩ rfl rfl rfl rfl rfl (by kernel_rfl) Try.func5 (by kernel_rfl)
  (of_decide_eq_true (by kernel_rfl)) (by unfold Func.isWrapper;first | (rw [if_pos (by decide +kernel)];kernel_rfl) | (rw [if_neg (by decide +kernel)];exact ⟨rfl,rfl⟩))
  (fun os started H enc _=>lifted os started H enc)
end Go.Proofs.Ytjccgneimknbpaa.fnNeeds
namespace Go.Proofs.Ytjccgneimknbpaa
theorem fnNeeds_holds:Rows.FnNeedsSaid:=fnNeeds.over
#print axioms fnNeeds_holds
end Go.Proofs.Ytjccgneimknbpaa
