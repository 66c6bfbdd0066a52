/- What Check answers, as a plain function, and how it goes on from place to place. No program is walked here. -/
import Derived.Test.YtjccgneimknbpaaXi
set_option linter.unusedVariables false
set_option linter.unusedSimpArgs false
namespace Go.Proofs.Ytjccgneimknbpaa.L
open Go.RowKit
noncomputable def sameF (a b:Route):Int :=
 if eqv a.frm b.frm && eqv a.til b.til && eqv a.steps b.steps then
  if eqv a.lies b.lies && eqv a.crosses b.crosses then
   if eqv a.parts b.parts && eqv a.over b.over then
    if eqv a.flanks b.flanks then 0 else 4
   else 3
  else 2
 else 1
theorem sameF_zero {a b:Route}:sameF a b=0↔a=b:=by
 obtain ⟨a0,a1,a2,a3,a4,a5,a6,a7⟩:=a
 obtain ⟨b0,b1,b2,b3,b4,b5,b6,b7⟩:=b
 refine ⟨fun h=>?_,fun h=>?_⟩
 ·unfold sameF at h
  simp only at h
  split at h
  ·rename_i h1
   split at h
   ·rename_i h2
    split at h
    ·rename_i h3
     split at h
     ·rename_i h4
      simp only [Bool.and_eq_true] at h1 h2 h3
      rw [of_eqv h1.1.1,of_eqv h1.1.2,of_eqv h1.2,of_eqv h2.1,of_eqv h2.2,of_eqv h3.1,of_eqv h3.2,of_eqv h4]
     ·omega
    ·omega
   ·omega
  ·omega
 ·rw [h]
  simp [sameF,eqv_self]
theorem sameF_range (a b:Route):0≤sameF a b∧sameF a b≤4:=by
 unfold sameF
 split
 ·split
  ·split
   ·split <;> omega
   ·omega
  ·omega
 ·omega
noncomputable def partsF (a b:Route):Int:=if sameF a b=0 then 0 else sameF a b+2
theorem partsF_zero {a b:Route}:partsF a b=0↔a=b:=by
 have:=sameF_range a b
 unfold partsF
 split
 ·rename_i h
  exact ⟨fun _=>sameF_zero.1 h,fun _=>rfl⟩
 ·rename_i h
  exact ⟨fun e=>by omega,fun e=>absurd (sameF_zero.2 e) h⟩
theorem part_alloc1 (w:World) (o:Obj):(w.alloc o).heap.size=w.heap.size+1:=by simp
theorem neq_f {a b:Int} (h:a=b):(a != b)=false:=by simp [h]
set_option maxRecDepth 100000 in
set_option maxHeartbeats 8000000 in
theorem implParts {ok ok':Nat→Prop} (a b:Route) (A2 A3 A4 A5 A6 A7:Option Addr) (c2 c3 c4 c5 c6 c7:Nat) (B2 B3 B4 B5 B6 B7:Option Addr) (d2 d3 d4 d5 d6 d7:Nat) (w:World) (h:RC w ok a A2 A3 A4 A5 A6 A7) (h':RC w ok' b B2 B3 B4 B5 B6 B7) :
  Calls Try.prog 40 #[.agg #[.int .i64 a.frm,.int .i64 a.til,.slice A2 a.steps.length c2,.slice A3 a.lies.length c3,.slice A4 a.crosses.length c4,.slice A5 a.parts.length c5,.slice A6 a.over.length c6,.slice A7 a.flanks.length c7],.agg #[.int .i64 b.frm,.int .i64 b.til,.slice B2 b.steps.length d2,.slice B3 b.lies.length d3,.slice B4 b.crosses.length d4,.slice B5 b.parts.length d5,.slice B6 b.over.length d6,.slice B7 b.flanks.length d7]] w (RetI (partsF a b) w):=by
 obtain ⟨W0,hW0,hB0,HA,HB,HC,HD⟩:∃W,W=(w.alloc (.cells #[.int .i64 a.frm,.int .i64 a.til,.slice A2 a.steps.length c2,.slice A3 a.lies.length c3,.slice A4 a.crosses.length c4,.slice A5 a.parts.length c5,.slice A6 a.over.length c6,.slice A7 a.flanks.length c7] 44)).alloc (.cells #[.int .i64 b.frm,.int .i64 b.til,.slice B2 b.steps.length d2,.slice B3 b.lies.length d3,.slice B4 b.crosses.length d4,.slice B5 b.parts.length d5,.slice B6 b.over.length d6,.slice B7 b.flanks.length d7] 44)∧Below w.heap.size w W∧Hid (Blk W w.heap.size 44 [.int .i64 a.frm,.int .i64 a.til,.slice A2 a.steps.length c2,.slice A3 a.lies.length c3,.slice A4 a.crosses.length c4,.slice A5 a.parts.length c5,.slice A6 a.over.length c6,.slice A7 a.flanks.length c7])∧Hid (Blk W (w.heap.size+1) 44 [.int .i64 b.frm,.int .i64 b.til,.slice B2 b.steps.length d2,.slice B3 b.lies.length d3,.slice B4 b.crosses.length d4,.slice B5 b.parts.length d5,.slice B6 b.over.length d6,.slice B7 b.flanks.length d7])∧Hid (RC W ok a A2 A3 A4 A5 A6 A7)∧Hid (RC W ok' b B2 B3 B4 B5 B6 B7):=by
  have h1:=below_alloc w (.cells #[.int .i64 a.frm,.int .i64 a.til,.slice A2 a.steps.length c2,.slice A3 a.lies.length c3,.slice A4 a.crosses.length c4,.slice A5 a.parts.length c5,.slice A6 a.over.length c6,.slice A7 a.flanks.length c7] 44)
  have h2:Below w.heap.size w ((w.alloc (.cells #[.int .i64 a.frm,.int .i64 a.til,.slice A2 a.steps.length c2,.slice A3 a.lies.length c3,.slice A4 a.crosses.length c4,.slice A5 a.parts.length c5,.slice A6 a.over.length c6,.slice A7 a.flanks.length c7] 44)).alloc (.cells #[.int .i64 b.frm,.int .i64 b.til,.slice B2 b.steps.length d2,.slice B3 b.lies.length d3,.slice B4 b.crosses.length d4,.slice B5 b.parts.length d5,.slice B6 b.over.length d6,.slice B7 b.flanks.length d7] 44)):=h1.alloc h1.size _
  exact ⟨_,rfl,h2,Lib.hid ((Blk.new w 44 [.int .i64 a.frm,.int .i64 a.til,.slice A2 a.steps.length c2,.slice A3 a.lies.length c3,.slice A4 a.crosses.length c4,.slice A5 a.parts.length c5,.slice A6 a.over.length c6,.slice A7 a.flanks.length c7] rfl).alloc _),Lib.hid (Blk.new _ _ _ (part_alloc1 _ _).symm),Lib.hid (h.below h2),Lib.hid (h'.below h2)⟩
 have hlen:True:=trivial
 have m2:=h.h2.1
 have n2:=h'.h2.1
 have m3:=h.h3.1
 have n3:=h'.h3.1
 have m4:=h.h4.1
 have n4:=h'.h4.1
 have m5:=h.h5.1
 have n5:=h'.h5.1
 have m6:=h.h6.1
 have n6:=h'.h6.1
 have m7:=h.h7.1
 have n7:=h'.h7.1
 clear h h'
 by_cases e0:a.frm=b.frm
 rotate_left
 ·have d0:(a.frm == b.frm)=false:=int_eqf e0
  have d1:(a.frm != b.frm)=true:=neq_t e0
  have HN:Hid (partsF a b=3):=Lib.hid (by have:=eqv_false e0;simp [partsF,sameF,this])
  clear e0
  go_enter Try.func40,Try.ntmps40
  go_wp2
  go_ret
  exact ⟨by rw [HN.out];rfl,by rw [←hW0];exact hB0⟩
 have HE0:Hid (eqv a.frm b.frm=true):=Lib.hid (eqv_true e0)
 have p0:(a.frm == b.frm)=true:=by rw [e0];exact beq_self_eq_true _
 have r0:(a.frm != b.frm)=false:=neq_f e0
 clear e0
 by_cases e1:a.til=b.til
 rotate_left
 ·have d0:(a.til == b.til)=false:=int_eqf e1
  have d1:(a.til != b.til)=true:=neq_t e1
  have HN:Hid (partsF a b=3):=Lib.hid (by have:=eqv_false e1;simp [partsF,sameF,this])
  clear e1
  go_enter Try.func40,Try.ntmps40
  go_wp2
  go_ret
  exact ⟨by rw [HN.out];rfl,by rw [←hW0];exact hB0⟩
 have HE1:Hid (eqv a.til b.til=true):=Lib.hid (eqv_true e1)
 have p1:(a.til == b.til)=true:=by rw [e1];exact beq_self_eq_true _
 have r1:(a.til != b.til)=false:=neq_f e1
 clear e1
 go_enter Try.func40,Try.ntmps40
 go_wp2_with fail
 rw [←hW0]
 clear hW0
 refine (equalStep A2 B2 c2 d2 a.steps b.steps _ HC.out.h2 HD.out.h2).mono ?_
 rintro e w1 ⟨rfl,hb⟩
 have BW:Hid (Below w.heap.size w W0):=Lib.hid hB0
 clear hB0
 have HA:=Lib.hid (HA.out.below hb HA.out.lt)
 have HB:=Lib.hid (HB.out.below hb HB.out.lt)
 have HC:=Lib.hid (HC.out.below hb)
 have HD:=Lib.hid (HD.out.below hb)
 have BW:=Lib.hid (BW.out.trans (hb.mono BW.out.size))
 have za:w.heap.size < w1.heap.size:=HA.out.lt
 have zb:w.heap.size+1 < w1.heap.size:=HB.out.lt
 clear hb
 by_cases hE:a.steps=b.steps
 rotate_left
 ·rw [eqv_false hE]
  have HN:Hid (partsF a b=3):=Lib.hid (by have:=eqv_false hE;simp [partsF,sameF,this,HE0.out,HE1.out])
  clear hE
  go_wp2
  go_ret
  exact ⟨by rw [HN.out];rfl,BW.out⟩
 rw [eqv_true hE]
 have HE2:Hid (eqv a.steps b.steps=true):=Lib.hid (eqv_true hE)
 clear hE
 have x3:=HA.out.cell 3 rfl
 have y3:=HB.out.cell 3 rfl
 go_wp2_with fail
 refine (equalLie A3 B3 c3 d3 a.lies b.lies _ HC.out.h3 HD.out.h3).mono ?_
 rintro e w2 ⟨rfl,hb⟩
 clear x3 y3
 have HA:=Lib.hid (HA.out.below hb HA.out.lt)
 have HB:=Lib.hid (HB.out.below hb HB.out.lt)
 have HC:=Lib.hid (HC.out.below hb)
 have HD:=Lib.hid (HD.out.below hb)
 have BW:=Lib.hid (BW.out.trans (hb.mono BW.out.size))
 have za:w.heap.size < w2.heap.size:=HA.out.lt
 have zb:w.heap.size+1 < w2.heap.size:=HB.out.lt
 clear hb
 by_cases hE:a.lies=b.lies
 rotate_left
 ·rw [eqv_false hE]
  have HN:Hid (partsF a b=4):=Lib.hid (by have:=eqv_false hE;simp [partsF,sameF,this,HE0.out,HE1.out,HE2.out])
  clear hE
  go_wp2
  go_ret
  exact ⟨by rw [HN.out];rfl,BW.out⟩
 rw [eqv_true hE]
 have HE3:Hid (eqv a.lies b.lies=true):=Lib.hid (eqv_true hE)
 clear hE
 have x4:=HA.out.cell 4 rfl
 have y4:=HB.out.cell 4 rfl
 go_wp2_with fail
 refine (equalInt A4 B4 c4 d4 a.crosses b.crosses _ HC.out.h4 HD.out.h4).mono ?_
 rintro e w3 ⟨rfl,hb⟩
 clear x4 y4
 have HA:=Lib.hid (HA.out.below hb HA.out.lt)
 have HB:=Lib.hid (HB.out.below hb HB.out.lt)
 have HC:=Lib.hid (HC.out.below hb)
 have HD:=Lib.hid (HD.out.below hb)
 have BW:=Lib.hid (BW.out.trans (hb.mono BW.out.size))
 have za:w.heap.size < w3.heap.size:=HA.out.lt
 have zb:w.heap.size+1 < w3.heap.size:=HB.out.lt
 clear hb
 by_cases hE:a.crosses=b.crosses
 rotate_left
 ·rw [eqv_false hE]
  have HN:Hid (partsF a b=4):=Lib.hid (by have:=eqv_false hE;simp [partsF,sameF,this,HE0.out,HE1.out,HE2.out,HE3.out])
  clear hE
  go_wp2
  go_ret
  exact ⟨by rw [HN.out];rfl,BW.out⟩
 rw [eqv_true hE]
 have HE4:Hid (eqv a.crosses b.crosses=true):=Lib.hid (eqv_true hE)
 clear hE
 have x5:=HA.out.cell 5 rfl
 have y5:=HB.out.cell 5 rfl
 go_wp2_with fail
 refine (equalPart A5 B5 c5 d5 a.parts b.parts _ HC.out.h5 HD.out.h5).mono ?_
 rintro e w4 ⟨rfl,hb⟩
 clear x5 y5
 have HA:=Lib.hid (HA.out.below hb HA.out.lt)
 have HB:=Lib.hid (HB.out.below hb HB.out.lt)
 have HC:=Lib.hid (HC.out.below hb)
 have HD:=Lib.hid (HD.out.below hb)
 have BW:=Lib.hid (BW.out.trans (hb.mono BW.out.size))
 have za:w.heap.size < w4.heap.size:=HA.out.lt
 have zb:w.heap.size+1 < w4.heap.size:=HB.out.lt
 clear hb
 by_cases hE:a.parts=b.parts
 rotate_left
 ·rw [eqv_false hE]
  have HN:Hid (partsF a b=5):=Lib.hid (by have:=eqv_false hE;simp [partsF,sameF,this,HE0.out,HE1.out,HE2.out,HE3.out,HE4.out])
  clear hE
  go_wp2
  go_ret
  exact ⟨by rw [HN.out];rfl,BW.out⟩
 rw [eqv_true hE]
 have HE5:Hid (eqv a.parts b.parts=true):=Lib.hid (eqv_true hE)
 clear hE
 have x6:=HA.out.cell 6 rfl
 have y6:=HB.out.cell 6 rfl
 go_wp2_with fail
 refine (equalPart A6 B6 c6 d6 a.over b.over _ HC.out.h6 HD.out.h6).mono ?_
 rintro e w5 ⟨rfl,hb⟩
 clear x6 y6
 have HA:=Lib.hid (HA.out.below hb HA.out.lt)
 have HB:=Lib.hid (HB.out.below hb HB.out.lt)
 have HC:=Lib.hid (HC.out.below hb)
 have HD:=Lib.hid (HD.out.below hb)
 have BW:=Lib.hid (BW.out.trans (hb.mono BW.out.size))
 have za:w.heap.size < w5.heap.size:=HA.out.lt
 have zb:w.heap.size+1 < w5.heap.size:=HB.out.lt
 clear hb
 by_cases hE:a.over=b.over
 rotate_left
 ·rw [eqv_false hE]
  have HN:Hid (partsF a b=5):=Lib.hid (by have:=eqv_false hE;simp [partsF,sameF,this,HE0.out,HE1.out,HE2.out,HE3.out,HE4.out,HE5.out])
  clear hE
  go_wp2
  go_ret
  exact ⟨by rw [HN.out];rfl,BW.out⟩
 rw [eqv_true hE]
 have HE6:Hid (eqv a.over b.over=true):=Lib.hid (eqv_true hE)
 clear hE
 have x7:=HA.out.cell 7 rfl
 have y7:=HB.out.cell 7 rfl
 go_wp2_with fail
 refine (equalFlank A7 B7 c7 d7 a.flanks b.flanks _ HC.out.h7 HD.out.h7).mono ?_
 rintro e w6 ⟨rfl,hb⟩
 clear x7 y7
 have HA:=Lib.hid (HA.out.below hb HA.out.lt)
 have HB:=Lib.hid (HB.out.below hb HB.out.lt)
 have HC:=Lib.hid (HC.out.below hb)
 have HD:=Lib.hid (HD.out.below hb)
 have BW:=Lib.hid (BW.out.trans (hb.mono BW.out.size))
 have za:w.heap.size < w6.heap.size:=HA.out.lt
 have zb:w.heap.size+1 < w6.heap.size:=HB.out.lt
 clear hb
 by_cases hE:a.flanks=b.flanks
 rotate_left
 ·rw [eqv_false hE]
  have HN:Hid (partsF a b=6):=Lib.hid (by have:=eqv_false hE;simp [partsF,sameF,this,HE0.out,HE1.out,HE2.out,HE3.out,HE4.out,HE5.out,HE6.out])
  clear hE
  go_wp2
  go_ret
  exact ⟨by rw [HN.out];rfl,BW.out⟩
 rw [eqv_true hE]
 have HE7:Hid (eqv a.flanks b.flanks=true):=Lib.hid (eqv_true hE)
 clear hE
 have HN:Hid (partsF a b=0):=Lib.hid (by simp [partsF,sameF,HE0.out,HE1.out,HE2.out,HE3.out,HE4.out,HE5.out,HE6.out,HE7.out])
 go_wp2
 go_ret
 exact ⟨by rw [HN.out];rfl,BW.out⟩
end Go.Proofs.Ytjccgneimknbpaa.L
namespace Go.Proofs.Ytjccgneimknbpaa.L
open Classical
noncomputable def faultR:List Route→List Route→Nat→Option Wrong
 | [],[],_=>none
 | [],_::_,k=>some ⟨2,k,0⟩
 | _::_,[],k=>some ⟨2,k,0⟩
 | a::l,b::m,k=>if a=b then faultR l m (k+1) else some ⟨partsF a b,k,0⟩
noncomputable def faultV:List Int→List Int→Nat→Nat→Option Wrong
 | a::l,b::m,i,k=>if a=b then faultV l m i (k+1) else some ⟨7,i,k⟩
 | _,_,_,_=>none
noncomputable def faultT:List (List Int)→List (List Int)→Nat→Option Wrong
 | a::l,b::m,i=>if b.length=a.length then (faultV a b i 0).orElse (fun _=>faultT l m (i+1)) else some ⟨7,i,b.length⟩
 | _,_,_=>none
noncomputable def tableW (rs:List Route) (tb:List (List Int)):Wrong:=if tb.length=rs.length then (faultT (tabF rs) tb 0).getD ⟨0,0,0⟩ else ⟨7,tb.length,0⟩
noncomputable def checkF (n:Net) (ss:List Signal) (ov:Int) (gs:List Route) (tb:List (List Int)):Wrong :=
 if signalsOk n ss=⟨0,0⟩∧0≤ov∧ov≤100000 then (faultR (routesF n ss ov) gs 0).getD (tableW (routesF n ss ov) tb) else ⟨1,0,0⟩
section
variable {rs gs:List Route} {k:Nat} {a b:Route}
theorem faultR_step (ha:rs[k]?=some a) (hb:gs[k]?=some a):faultR (rs.drop k) (gs.drop k) k=faultR (rs.drop (k+1)) (gs.drop (k+1)) (k+1):=by
 obtain ⟨h1,e1⟩:=List.getElem?_eq_some_iff.1 ha
 obtain ⟨h2,e2⟩:=List.getElem?_eq_some_iff.1 hb
 rw [List.drop_eq_getElem_cons h1,List.drop_eq_getElem_cons h2,faultR,if_pos (e1.trans e2.symm)]
theorem faultR_ne (ha:rs[k]?=some a) (hb:gs[k]?=some b) (hne:¬a=b):faultR (rs.drop k) (gs.drop k) k=some ⟨partsF a b,k,0⟩:=by
 obtain ⟨h1,e1⟩:=List.getElem?_eq_some_iff.1 ha
 obtain ⟨h2,e2⟩:=List.getElem?_eq_some_iff.1 hb
 rw [List.drop_eq_getElem_cons h1,List.drop_eq_getElem_cons h2,faultR,e1,e2,if_neg hne]
theorem faultR_few (h1:rs.length≤k) (h2:k < gs.length):faultR (rs.drop k) (gs.drop k) k=some ⟨2,k,0⟩:=by
 rw [List.drop_eq_nil_of_le h1,List.drop_eq_getElem_cons h2,faultR]
theorem faultR_many (h1:k < rs.length) (h2:gs.length≤k):faultR (rs.drop k) (gs.drop k) k=some ⟨2,k,0⟩:=by
 rw [List.drop_eq_nil_of_le h2,List.drop_eq_getElem_cons h1,faultR]
theorem faultR_end (h1:rs.length≤k) (h2:gs.length≤k):faultR (rs.drop k) (gs.drop k) k=none:=by
 rw [List.drop_eq_nil_of_le h1,List.drop_eq_nil_of_le h2,faultR]
end
section
variable {rs gs:List Int} {i k:Nat} {a b:Int}
theorem faultV_step (ha:rs[k]?=some a) (hb:gs[k]?=some a):faultV (rs.drop k) (gs.drop k) i k=faultV (rs.drop (k+1)) (gs.drop (k+1)) i (k+1):=by
 obtain ⟨h1,e1⟩:=List.getElem?_eq_some_iff.1 ha
 obtain ⟨h2,e2⟩:=List.getElem?_eq_some_iff.1 hb
 rw [List.drop_eq_getElem_cons h1,List.drop_eq_getElem_cons h2,faultV,if_pos (e1.trans e2.symm)]
theorem faultV_ne (ha:rs[k]?=some a) (hb:gs[k]?=some b) (hne:¬a=b):faultV (rs.drop k) (gs.drop k) i k=some ⟨7,i,k⟩:=by
 obtain ⟨h1,e1⟩:=List.getElem?_eq_some_iff.1 ha
 obtain ⟨h2,e2⟩:=List.getElem?_eq_some_iff.1 hb
 rw [List.drop_eq_getElem_cons h1,List.drop_eq_getElem_cons h2,faultV,e1,e2,if_neg hne]
theorem faultV_end (h1:rs.length≤k):faultV (rs.drop k) (gs.drop k) i k=none:=by
 rw [List.drop_eq_nil_of_le h1,faultV]
 intro _ _ _ _ h
 cases h
end
section
variable {rs gs:List (List Int)} {k:Nat} {a b:List Int}
theorem faultT_len (ha:rs[k]?=some a) (hb:gs[k]?=some b) (hne:¬b.length=a.length):faultT (rs.drop k) (gs.drop k) k=some ⟨7,k,b.length⟩:=by
 obtain ⟨h1,e1⟩:=List.getElem?_eq_some_iff.1 ha
 obtain ⟨h2,e2⟩:=List.getElem?_eq_some_iff.1 hb
 rw [List.drop_eq_getElem_cons h1,List.drop_eq_getElem_cons h2,faultT,e1,e2,if_neg hne]
theorem faultT_ne {x:Wrong} (ha:rs[k]?=some a) (hb:gs[k]?=some b) (hl:b.length=a.length) (hv:faultV a b k 0=some x):faultT (rs.drop k) (gs.drop k) k=some x:=by
 obtain ⟨h1,e1⟩:=List.getElem?_eq_some_iff.1 ha
 obtain ⟨h2,e2⟩:=List.getElem?_eq_some_iff.1 hb
 rw [List.drop_eq_getElem_cons h1,List.drop_eq_getElem_cons h2,faultT,e1,e2,if_pos hl,hv]
 rfl
theorem faultT_step (ha:rs[k]?=some a) (hb:gs[k]?=some b) (hl:b.length=a.length) (hv:faultV a b k 0=none):faultT (rs.drop k) (gs.drop k) k=faultT (rs.drop (k+1)) (gs.drop (k+1)) (k+1):=by
 obtain ⟨h1,e1⟩:=List.getElem?_eq_some_iff.1 ha
 obtain ⟨h2,e2⟩:=List.getElem?_eq_some_iff.1 hb
 rw [List.drop_eq_getElem_cons h1,List.drop_eq_getElem_cons h2,faultT,e1,e2,if_pos hl,hv]
 rfl
theorem faultT_end (h1:rs.length≤k):faultT (rs.drop k) (gs.drop k) k=none:=by
 rw [List.drop_eq_nil_of_le h1,faultT]
 intro _ _ _ _ h
 cases h
end
section
variable {n:Net} {ss:List Signal} {ov:Int} {gs rs:List Route} {tb:List (List Int)}
theorem checkF_bad (h:¬(signalsOk n ss=⟨0,0⟩∧0≤ov∧ov≤100000)):checkF n ss ov gs tb=⟨1,0,0⟩:=by unfold checkF;rw [if_neg h]
theorem checkF_route {x:Wrong} (h:signalsOk n ss=⟨0,0⟩∧0≤ov∧ov≤100000) (hr:routesF n ss ov=rs) (hx:faultR rs gs 0=some x):checkF n ss ov gs tb=x:=by
 unfold checkF
 rw [if_pos h,hr,hx]
 rfl
theorem checkF_table (h:signalsOk n ss=⟨0,0⟩∧0≤ov∧ov≤100000) (hr:routesF n ss ov=rs) (hx:faultR rs gs 0=none):checkF n ss ov gs tb=tableW rs tb:=by
 unfold checkF
 rw [if_pos h,hr,hx]
 rfl
theorem tableW_len (h:¬tb.length=rs.length):tableW rs tb=⟨7,tb.length,0⟩:=by unfold tableW;rw [if_neg h]
theorem tableW_some {x:Wrong} (h:tb.length=rs.length) (hx:faultT (tabF rs) tb 0=some x):tableW rs tb=x:=by
 unfold tableW
 rw [if_pos h,hx]
 rfl
theorem tableW_none (h:tb.length=rs.length) (hx:faultT (tabF rs) tb 0=none):tableW rs tb=⟨0,0,0⟩:=by
 unfold tableW
 rw [if_pos h,hx]
 rfl
theorem tabF_few (h:rs.length≤300):tabF rs=rs.map (fun a=>rs.map (excl a)):=by unfold tabF;rw [if_neg (by omega)]
theorem tabF_row {k:Nat} {a:Route} (h:rs.length≤300) (ha:rs[k]?=some a):(tabF rs)[k]?=some (rs.map (excl a)):=by
 rw [tabF_few h,List.getElem?_map,ha]
 rfl
theorem tabF_length (h:rs.length≤300):(tabF rs).length=rs.length:=by rw [tabF_few h,List.length_map]
end
end Go.Proofs.Ytjccgneimknbpaa.L
