/- The row FnWhole: its arguments opened; the walk (Derived.Test.YtjccgneimknbpaaLWhole) in the row's frame. -/
import Derived.Test.YtjccgneimknbpaaYa
set_option linter.unusedVariables false
set_option linter.unusedSimpArgs false
namespace Go.Proofs.Ytjccgneimknbpaa.fnWhole
open Go.ChangeShapes Go.WideShapes Go.ChangeAt Go.RowKit Go.Proofs.Ytjccgneimknbpaa.L
set_option maxRecDepth 100000 in
theorem lifted (os:Os) (started:os.Started) (H:Type) (enc:TypeId × Value→H) :
  ReturnsInHanded {} Try.checked os 7 .any (Rows.fnWholeSpec.pre6 enc Try.prog Try.f7 Rows.fnWholeRow.domain false) (Rows.fnWholeSpec.post enc Try.prog Try.f7 false true false false):=by
 refine law_lift (C:=Try.checked) own started (by kernel_rfl) Try.func7 laidOut rfl (tb:=4) (by kernel_rfl) Try.underlying4 ?_ ?_
  (ChangeSpec.witness6 (enc:=enc) (C:=Try.checked) false ⟨#[],#[.slice none 0 0,.slice none 0 0],[]⟩ 8 (by kernel_rfl) (by kernel_rfl) (by kernel_rfl) (by kernel_rfl)) ?_
 ·intro t ht
  rw [show Try.f7.params.toList=[22,22] from by rw [Try.params7]] at ht
  simp only [List.mem_cons,List.not_mem_nil,or_false] at ht
  rcases ht with rfl | rfl
  ·exact ⟨by kernel_rfl,of_decide_eq_true (by kernel_rfl)⟩
  ·exact ⟨by kernel_rfl,of_decide_eq_true (by kernel_rfl)⟩
 ·intro ds hds
  rw [show Try.f7.params.toList=[22,22] from by rw [Try.params7]] at hds
  match ds,hds with
  | [d0,d1],_=>rfl
 ·intro W base args ds p hval hA
  have hp:Try.f7.params.toList=[22,22]:=by rw [Try.params7]
  rw [hp] at hA hval
  obtain ⟨v0,v1,d0,d1,p0,p1,rfl,rfl,rfl,⟨m0,h0⟩,⟨m1,h1⟩⟩:=trodAll_two hA
  obtain ⟨va0,vl0,vc0,rfl⟩:=okWide_slice Try.underlying22 (hval 0 22 v0 rfl rfl)
  obtain ⟨bs0,hK0,hfit0⟩:=opens_bytes.2 H enc _ _ _ _ _ _ h0
  obtain ⟨A0,c0,hcs0,_,k0⟩:=hK0
  have hct0:[Value.slice va0 vl0 vc0]=[.slice A0 bs0.length c0]:=hcs0
  injection hct0 with hcu0 _
  injection hcu0 with e0 f0 g0
  subst e0 f0 g0
  clear hcs0
  obtain ⟨va1,vl1,vc1,rfl⟩:=okWide_slice Try.underlying22 (hval 1 22 v1 rfl rfl)
  obtain ⟨bs1,hK1,hfit1⟩:=opens_bytes.2 H enc _ _ _ _ _ _ h1
  obtain ⟨A1,c1,hcs1,_,k1⟩:=hK1
  have hct1:[Value.slice va1 vl1 vc1]=[.slice A1 bs1.length c1]:=hcs1
  injection hct1 with hcu1 _
  injection hcu1 with e1 f1 g1
  subst e1 f1 g1
  clear hcs1
  exact (lawWhole bs0 bs1 va0 va1 vc0 vc1 W k0 k1 (Lib.hid hfit0) (Lib.hid hfit1)).mono fun e W' h=>h
theorem over:Rows.fnWholeRow.holds Try.pinned (OpenSpec.ofChange Rows.fnWholeSpec) :=
 OpenClaim.holds_of_wide 7 Try.f7 rfl rfl rfl rfl rfl rfl rfl ⟨rfl,rfl,rfl,rfl,rfl⟩ rfl rfl rfl rfl rfl (by kernel_rfl) Try.func7 (by kernel_rfl)
  (of_decide_eq_true (by kernel_rfl)) (by unfold Func.isWrapper;first | (rw [if_pos (by decide +kernel)];kernel_rfl) | (rw [if_neg (by decide +kernel)];exact ⟨rfl,rfl⟩))
  (fun os started H enc _=>lifted os started H enc)
end Go.Proofs.Ytjccgneimknbpaa.fnWhole
namespace Go.Proofs.Ytjccgneimknbpaa
theorem fnWhole_holds:Rows.FnWholeSaid:=fnWhole.over
#print axioms fnWhole_holds
end Go.Proofs.Ytjccgneimknbpaa
