/- A net that is spoilt in one place, as drawn: the walk. -/
import Derived.Test.YtjccgneimknbpaaXj
import Derived.Deep.CutBlock
set_option linter.unusedVariables false
set_option linter.unusedSimpArgs false
namespace Go.Proofs.Ytjccgneimknbpaa.L
open Go.RowKit
theorem endK_own (w:World) (x:End):endK.O w x x.cs []:=⟨_,_,[],[],rfl,rfl,⟨rfl,rfl⟩,⟨rfl,rfl⟩,List.nodup_nil⟩
theorem endK_O {w:World} {x:End} {cs:List Value} {F:List Nat} (h:endK.O w x cs F):cs=x.cs∧F=[]:=by
 obtain ⟨_,_,_,_,rfl,rfl,⟨rfl,rfl⟩,⟨rfl,rfl⟩,_⟩:=h
 exact ⟨rfl,rfl⟩
end Go.Proofs.Ytjccgneimknbpaa.L
namespace Go.Proofs.Ytjccgneimknbpaa.L
open Go.RowKit
theorem jointK_own {e:Nat} {w:World} {x:Joint} {v:Value} {F:List Nat} (h:(Kn.slice e endK).O w x.ends [v] F):(jointK e).O w x [.int .i64 x.kind,.string x.name,v] F :=
 ⟨_,_,[],F,rfl,rfl,⟨rfl,rfl⟩,⟨_,_,[],F,rfl,rfl,⟨rfl,rfl⟩,h,(Kn.slice e endK).O_nodup h⟩,(Kn.slice e endK).O_nodup h⟩
end Go.Proofs.Ytjccgneimknbpaa.L
namespace Go.Proofs.Ytjccgneimknbpaa.L
open Go.RowKit
open Classical
section
variable {n:Net} {ss:List Signal} {ov:Int}
end
theorem needsTo_pre (ls:List Lie) (fs:List Flank):∀k,∃t,needsTo ls fs k=ls++t∧t.Nodup
 | 0=>⟨[],by rw [List.append_nil];rfl,List.nodup_nil⟩
 | k+1=>by
  obtain ⟨t,h,hn⟩:=needsTo_pre ls fs k
  cases hf:fs[k]? with
  | none =>
   refine ⟨t,?_,hn⟩
   rw [needsTo]
   simp only [hf]
   exact h
  | some f =>
   by_cases hk:f.kind=3
   ·by_cases hm:(⟨f.of_,f.lie⟩:Lie)∈needsTo ls fs k
    ·exact ⟨t,by rw [needsTo_had hf hm,h],hn⟩
    ·refine ⟨t++[⟨f.of_,f.lie⟩],by rw [needsTo_new hf hk hm,h,List.append_assoc],?_⟩
     rw [h] at hm
     rw [List.nodup_append]
     refine ⟨hn,by simp,fun a ha b hb=>?_⟩
     rw [List.mem_singleton.1 hb]
     exact fun e=>hm (List.mem_append_right _ (e▸ha))
   ·exact ⟨t,by rw [needsTo_skip hf hk,h],hn⟩
theorem needs_pre (r:Route):∃t,needs r=r.lies++t∧t.Nodup:=needsTo_pre _ _ _
theorem needs_lie (r:Route) {i:Nat} {x:Lie} (hi:i < r.lies.length) (h:(needs r)[i]?=some x):r.lies[i]?=some x:=by
 obtain ⟨t,ht,_⟩:=needs_pre r
 rw [ht,List.getElem?_append_left hi] at h
 exact h
theorem needs_len (r:Route):r.lies.length≤(needs r).length:=by
 obtain ⟨t,ht,_⟩:=needs_pre r
 rw [ht,List.length_append]
 omega
theorem needs_new (r:Route) {i k:Nat} {x y:Lie} (hk:r.lies.length≤k) (hki:k < i) (hx:(needs r)[k]?=some x) (hy:(needs r)[i]?=some y):¬x=y:=by
 obtain ⟨t,ht,hn⟩:=needs_pre r
 rw [ht,List.getElem?_append_right (by omega)] at hx hy
 rintro rfl
 obtain ⟨h1,h2⟩:=List.getElem?_eq_some_iff.1 hx
 obtain ⟨h3,h4⟩:=List.getElem?_eq_some_iff.1 hy
 exact (List.pairwise_iff_getElem.1 hn) _ _ h1 h3 (by omega) (by rw [h2,h4])
end Go.Proofs.Ytjccgneimknbpaa.L
namespace Go.Proofs.Ytjccgneimknbpaa.L
open Go.RowKit
theorem R_Rw {α:Type} {d:Kn α} {e:Nat} {w:World} {v:Value} {ps:List (α × List Nat)} (h:d.R e w v ps):d.Rw e w (fun b=>b∈(ps.map Prod.snd).flatten) v (ps.map Prod.fst):=by
 obtain ⟨inner,ho,hi,hn⟩:=h
 refine ⟨inner,by rw [List.length_map];exact ho,fun j x hj=>?_⟩
 rw [List.getElem?_map,Option.map_eq_some_iff] at hj
 obtain ⟨p,hp,rfl⟩:=hj
 exact d.K_mono (fun b hb=>List.mem_flatten.2 ⟨p.2,List.mem_map.2 ⟨p,List.mem_of_getElem? hp,rfl⟩,hb⟩) (d.K_of (hi j p hp))
structure LP (W1 wr:World) (h:Nat) (v0 v1:Value) (ps:List Piece) (qs:List (Joint × List Nat)):Prop where
 f:Blk wr h 26 [v0,v1]
 p:pieceK.Rw 64 wr nobody v0 ps
 j:(jointK 102).R 97 wr v1 qs
 o0:∀b,v0.ownBlock=some b→W1.heap.size≤b
 o1:∀b,b∈Kn.foot v1 qs→W1.heap.size≤b
 h1:h < W1.heap.size
 K:Keep (fun b=>b=h) W1 wr
section
variable {W1 wr wa w2 w':World} {h:Nat} {v0 v1 v':Value} {ps:List Piece} {qs:List (Joint × List Nat)}
theorem LP.below (L:LP W1 wr h v0 v1 ps qs) (hb:Below wr.heap.size wr w'):LP W1 w' h v0 v1 ps qs :=
 ⟨L.f.below hb L.f.lt,L.p.below hb,Kn.R_move (fun b hb'=>hb.block b (Kn.R_lt L.j b hb')) L.j,L.o0,L.o1,L.h1,L.K.below hb⟩
theorem LP.addP {x:Piece} (L:LP W1 wr h v0 (.slice none 0 0) ps []) (hb:Below wr.heap.size wr wa) (hr:pieceK.Rw 64 w2 nobody v' (ps++[x])) (hg:wa.grownBy w2 v0.ownBlock) (hat:v'.ownBlock=v0.ownBlock∨v'.ownBlock=some wa.heap.size) :
  LP W1 (w2.setCell ⟨h,0,none⟩ v') h v' (.slice none 0 0) (ps++[x]) []:=by
 have hf:Blk wa h 26 [v0,.slice none 0 0]:=L.f.below hb L.f.lt
 have hn0:¬v0.ownBlock=some h:=own_not L.p L.f (by decide)
 have hf2:Blk w2 h 26 [v0,.slice none 0 0]:=(hg.block h hf.lt (fun e=>hn0 e.symm)).trans hf
 have hn':¬v'.ownBlock=some h:=own_not hr hf2 (by decide)
 have hs:=L.K.size
 refine ⟨hf2.set_ 0 v',Kn.Rw.move (fun b hb=>Below.heap_setCell _ _ _ _ (fun e=>hn' (by rw [←show b=h from e];exact hb))) (fun _ e=>e.elim) hr,R_nil,own_next L.o0 hat (Nat.le_trans hs hb.size),by simp [Kn.foot,Value.ownBlock],L.h1,?_⟩
 exact (((L.K.below hb).grown hg (fun k hk hlt=>by have:=L.o0 k hk;omega)).setCell (p:=⟨h,0,none⟩) (fun _=>rfl) v')
theorem LP.addJ {y:Joint} {F:List Nat} (L:LP W1 wr h v0 v1 ps qs) (hb:Below wr.heap.size wr wa) (hr:(jointK 102).R 97 w2 v' (qs++[(y,F)])) (hg:wa.grownBy w2 v1.ownBlock) (hat:v'.ownBlock=v1.ownBlock∨v'.ownBlock=some wa.heap.size) (hF:∀b,b∈F→W1.heap.size≤b) :
  LP W1 (w2.setCell ⟨h,1,none⟩ v') h v0 v' ps (qs++[(y,F)]):=by
 have hf:Blk wa h 26 [v0,v1]:=L.f.below hb L.f.lt
 have hn1:¬v1.ownBlock=some h:=own_not (R_Rw L.j) L.f (by decide)
 have hf2:Blk w2 h 26 [v0,v1]:=(hg.block h hf.lt (fun e=>hn1 e.symm)).trans hf
 have hs:=L.K.size
 have ho1:=foot_next (x:=y) (F:=F) L.o1 hF hat (Nat.le_trans hs hb.size)
 have hh:=L.h1
 have hz:=L.f.lt
 have hbs:=hb.size
 have hk2:Keep (fun b=>v1.ownBlock=some b∨b=h) wr (w2.setCell ⟨h,1,none⟩ v'):=(((Keep.of_below hb).grown hg (fun k hk hlt=>.inl hk)).setCell (p:=⟨h,1,none⟩) (fun _=>.inr rfl) v')
 refine ⟨hf2.set_ 1 v',L.p.grownK hk2 (fun b hb' e=>?_) (fun _ e=>e.elim),Kn.R_move (fun b hb'=>Below.heap_setCell _ _ _ _ (fun e=>?_)) hr,L.o0,ho1,L.h1,?_⟩
 ·rcases e with e | e
  ·exact own_apart (R_Rw L.j) L.p (by decide) e hb'
  ·exact own_not L.p L.f (by decide) (e▸hb')
 ·have h1:=ho1 b hb'
  have h2:b=h:=e
  omega
 ·exact (((L.K.below hb).grown hg (fun k hk hlt=>by have:=L.o1 k (Kn.mem_foot_own hk);omega)).setCell (p:=⟨h,1,none⟩) (fun _=>rfl) v')
end
theorem endK_flatO:∀(w:World) (ok:Nat→Prop) (x:End) (cs:List Value),endK.K w ok x cs→endK.O w x cs []:=fun w ok x cs h=>by
 rw [endK_open h]
 exact endK_own w x
def RetNc (n:Net) (w:World) (e:Ending) (w':World):Prop :=
 ∃(A0 A1:Option Addr) (c0 c1:Nat) (qs:List (Joint × List Nat)),e=.returned (.agg #[.slice A0 n.pieces.length c0,.slice A1 n.joints.length c1])∧Hid (pieceK.Rw 64 w' nobody (.slice A0 n.pieces.length c0) n.pieces)∧Hid ((jointK 102).R 97 w' (.slice A1 n.joints.length c1) qs)∧Hid (qs.map Prod.fst=n.joints) ∧
  Hid (∀b,(Value.slice A0 n.pieces.length c0).ownBlock=some b→w.heap.size≤b)∧Hid (∀b,b∈Kn.foot (.slice A1 n.joints.length c1) qs→w.heap.size≤b)∧Hid (Below w.heap.size w w')
set_option maxRecDepth 100000 in
set_option maxHeartbeats 8000000 in
theorem spCopy {ok:Nat→Prop} (n:Net) (A0 A1:Option Addr) (c0 c1:Nat) (w:World) (h:NC 102 w ok n A0 A1) (hs:Hid (Sm n)):Calls Try.prog 105 #[.agg #[.slice A0 n.pieces.length c0,.slice A1 n.joints.length c1]] w (RetNc n w):=by
 have hpl:=hs.out.p
 have hjl:=hs.out.j
 have HN0:=Lib.hid h
 clear h
 obtain ⟨iP,hiP,hzP,hyP,hxP⟩:=info_parts dinfo64
 obtain ⟨iJ,hiJ,hzJ,hyJ,hxJ⟩:=info_parts dinfo97
 obtain ⟨iE,hiE,hzE,hyE,hxE⟩:=info_parts dinfo102
 go_enter Try.func105,Try.ntmps105
 go_upto_region 2 with (fail)
 obtain ⟨W1,hW1,hWs,hb1,HBs,HBr,HBo⟩:∃W,W=((w.alloc (.cells #[.slice A0 n.pieces.length c0,.slice A1 n.joints.length c1] 26)).alloc (.cells #[.slice none 0 0,.slice none 0 0] 26)).alloc (.cells #[.slice none 0 0,.slice none 0 0] 26)∧Hid (W.heap.size=w.heap.size+3)∧Hid (Below w.heap.size w W)∧Hid (Blk W w.heap.size 26 [.slice A0 n.pieces.length c0,.slice A1 n.joints.length c1])∧Hid (Blk W (w.heap.size+1) 26 [.slice none 0 0,.slice none 0 0])∧Hid (Blk W (w.heap.size+2) 26 [.slice none 0 0,.slice none 0 0]):=by
  refine ⟨_,rfl,Lib.hid (by rw [size_alloc,size_alloc,size_alloc]),Lib.hid (((below_alloc _ _).alloc (by rw [size_alloc];omega) _).alloc (by rw [size_alloc,size_alloc];omega) _),Lib.hid (((Blk.new w 26 [.slice A0 n.pieces.length c0,.slice A1 n.joints.length c1] rfl).alloc _).alloc _),Lib.hid ((Blk.new _ 26 [.slice none 0 0,.slice none 0 0] (by rw [size_alloc])).alloc _),Lib.hid (Blk.new _ 26 [.slice none 0 0,.slice none 0 0] (by rw [size_alloc,size_alloc]))⟩
 rw [←hW1]
 clear hW1
 have HN1:=Lib.hid (Kn.C_bound (Kn.C_below hb1.out (Kn.C_bound HN0.out.p)))
 have HJ1:=Lib.hid (Kn.C_bound (Kn.C_below hb1.out (Kn.C_bound HN0.out.j)))
 have n0:=HBs.out.cell 0 rfl
 have hz0:w.heap.size < W1.heap.size:=HBs.out.lt
 have hzo:w.heap.size+2 < W1.heap.size:=HBo.out.lt
 go_wp2
 clear n0
 go_loopw [14] (fun iv wr=>∃(k:Nat) (v0:Value),k≤n.pieces.length∧iv=.int .i64 k∧Hid (LP W1 wr (w.heap.size+2) v0 (.slice none 0 0) (n.pieces.take k) [])) (fun iv _=>n.pieces.length - (intOf iv).toNat)
 case atStart=>exact ⟨0,.slice none 0 0,Nat.zero_le _,rfl,Lib.hid ⟨HBo.out,by rw [List.take_zero];exact Kn.Rw.nil,R_nil,by simp [Value.ownBlock],by simp [Kn.foot,Value.ownBlock],hzo,Keep.refl _ _⟩⟩
 case round =>
 obtain ⟨wo,rfl⟩:∃W:World,W=wr:=⟨_,rfl⟩
 obtain ⟨k,v0,hk,rfl,HL⟩:=hrel
 have hW1o:=HL.out.K.size
 by_cases hlk:k < n.pieces.length
 ·as_aux_lemma =>
  have d0:decide ((k:Int) < (n.pieces.length:Int))=true:=decide_eq_true (by omega)
  have k0:(0:Int)≤(k:Int):=Int.natCast_nonneg _
  have k1:(k:Int) < (n.pieces.length:Int):=by omega
  obtain ⟨ap,rfl,y0,y1,y2,y3,EY,p0,p1,p2,p3⟩:=pieceK_at (Kn.C_move (fun b hb=>HL.out.K.block b (by have:=hb.1.2;exact hb.2) (fun e=>by have:=hb.1.2;omega)) HN1.out) k hlk
  obtain ⟨pt,hpt⟩:∃l,Hid (n.pieces.take k=l):=⟨_,Lib.hid rfl⟩
  have htl:Hid (pt.length=k):=Lib.hid (by rw [←hpt.out,List.length_take];omega)
  rw [hpt.out] at HL
  obtain ⟨Av,cv,rfl,hcv,_⟩:=HL.out.p.form
  have hkb:=World.block_lt_of_cell? _ _ p0
  go_upto_region 5 with (fail)
  obtain ⟨W3,hW3,hb3,HB3⟩:∃W,W=wo.alloc (.cells #[.string y0,.int .i64 y1,.int .i64 y2,.int .i64 y3] 64)∧Below wo.heap.size wo W∧Hid (Blk W wo.heap.size 64 [.string y0,.int .i64 y1,.int .i64 y2,.int .i64 y3]):=⟨_,rfl,below_alloc _ _,Lib.hid (Blk.new _ _ _ rfl)⟩
  rw [←hW3]
  clear hW3 p0 p1 p2 p3 hkb
  have L3:=Lib.hid (HL.out.below hb3)
  have s0:=L3.out.f.cell 0 rfl
  have q0:=HB3.out.cell 0 rfl
  have q1:=HB3.out.cell 1 rfl
  have q2:=HB3.out.cell 2 rfl
  have q3:=HB3.out.cell 3 rfl
  have hz3:wo.heap.size < W3.heap.size:=HB3.out.lt
  have hzh:w.heap.size+2 < W3.heap.size:=L3.out.f.lt
  obtain ⟨W4,hW4,hb4,SRC⟩:∃W,W=W3.alloc (.cells #[.string y0,.int .i64 y1,.int .i64 y2,.int .i64 y3] 64)∧Below W3.heap.size W3 W∧Hid (Kn.Src pieceK W nobody (some ⟨W3.heap.size,0,none⟩) [⟨y0,y1,y2,y3⟩]):=⟨_,rfl,below_alloc _ _,Lib.hid (Kn.Src.one (pieceK_mk _ _ ⟨y0,y1,y2,y3⟩) (new_cells _ _ _ rfl))⟩
  have m63:pt.length+1≤maxLen:=by have:=htl.out;simp only [maxLen];omega
  have mby2:(pt.length+1)*40≤140737488355328:=by have:=htl.out;omega
  go_upto_region 6 with (at_builtin;(try rw [←hW4]);refine wpList_append_rw _ rfl (.tmp 19) (.tmp 21) 23 rfl 64 iP _ 40 Try.underlying23 hiP hzP hyP hxP rfl (by decide) (.slice Av pt.length cv) pt [⟨y0,y1,y2,y3⟩] rfl (L3.out.p.below hb4) (fun _ h=>h.elim) (some ⟨W3.heap.size,0,none⟩) 1 1 rfl rfl SRC.out m63 mby2 ?_;intro v' w5 HR hg hat;obtain ⟨A9,c9,rfl,hc9⟩:=HR.form1;have hA:=L3.out.addP hb4 HR hg hat;have hBf:Blk w5 (w.heap.size+2) 26 [.slice Av pt.length cv,.slice none 0 0]:=(hg.block (w.heap.size+2) (by have:=hb4.size;omega) (fun e=>own_not L3.out.p L3.out.f (by decide) e.symm)).trans (L3.out.f.below hb4 L3.out.f.lt);have u0:=hBf.frozen 0;have hz5:w.heap.size+2 < w5.heap.size:=hBf.lt;have u1:=hBf.cell 0 rfl)
  have HA:Hid (LP W1 (w5.setCell ⟨w.heap.size+2,0,none⟩ (.slice A9 (pt.length+1) c9)) (w.heap.size+2) (.slice A9 (pt.length+1) c9) (.slice none 0 0) (n.pieces.take (k+1)) []):=Lib.hid (by rw [take_push EY.out,hpt.out];exact hA)
  go_wp2
  go_roundw
  case rel=>exact ⟨k+1,_,by omega,by go_num,HA⟩
  case measure=>simp [intOf];omega
 obtain rfl:k=n.pieces.length:=by omega
 have d0:decide ((n.pieces.length:Int) < (n.pieces.length:Int))=false:=decide_eq_false (by omega)
 have HL:=Lib.hid (by rw [List.take_length] at HL;exact HL.out)
 have HBs2:=Lib.hid (HBs.out.keep HL.out.K (by omega))
 have HBr2:=Lib.hid (HBr.out.keep HL.out.K (by omega))
 have n1:=HBs2.out.cell 1 rfl
 have hz0:w.heap.size < wo.heap.size:=HBs2.out.lt
 go_wp2
 clear n1 d0 hz0 HBs2 HBr2
 go_loopw [28] (fun iv wr=>∃(k:Nat) (v1:Value) (qs:List (Joint × List Nat)),k≤n.joints.length∧iv=.int .i64 k∧Hid (qs.map Prod.fst=n.joints.take k)∧Hid (LP W1 wr (w.heap.size+2) v0 v1 n.pieces qs)) (fun iv _=>n.joints.length - (intOf iv).toNat)
 case atStart=>exact ⟨0,.slice none 0 0,[],Nat.zero_le _,rfl,Lib.hid (by rw [List.take_zero];rfl),HL⟩
 case round =>
 clear HL
 obtain ⟨wp,rfl⟩:∃W:World,W=wr:=⟨_,rfl⟩
 obtain ⟨k,v1,qs,hk,rfl,HQS,HL⟩:=hrel
 have hW1p:=HL.out.K.size
 have hqk:qs.length=k:=by
  have:=congrArg List.length HQS.out
  rw [List.length_map,List.length_take] at this
  omega
 by_cases hlk:k < n.joints.length
 rotate_left
 ·as_aux_lemma =>
  obtain rfl:k=n.joints.length:=by omega
  have d0:decide ((n.joints.length:Int) < (n.joints.length:Int))=false:=decide_eq_false (by omega)
  have HQS:=Lib.hid (by rw [List.take_length] at HQS;exact HQS.out)
  have HBr3:=Lib.hid (HBr.out.keep HL.out.K (by omega))
  obtain ⟨Av,cv,rfl,hcv,_⟩:=HL.out.p.form
  obtain ⟨Aj,cj,hvj,hcj,_⟩:=Kn.R_len HL.out.j
  rw [hqk] at hvj
  subst hvj
  have s0:=HL.out.f.cell 0 rfl
  have s1:=HL.out.f.cell 1 rfl
  have hzh:w.heap.size+2 < wp.heap.size:=HL.out.f.lt
  have r0:=HBr3.out.frozen 0
  have r1:=HBr3.out.frozen 1
  have rc0:=HBr3.out.cell 0 rfl
  have rc1:=HBr3.out.cell 1 rfl
  have hzr:w.heap.size+1 < wp.heap.size:=HBr3.out.lt
  have hWs:=hWs.out
  have hK9:Keep (fun b=>b=w.heap.size+1) wp ((wp.setCell ⟨w.heap.size+1,0,none⟩ (.slice Av n.pieces.length cv)).setCell ⟨w.heap.size+1,1,none⟩ (.slice Aj n.joints.length cj)):=((Keep.refl (fun b=>b=w.heap.size+1) wp).setCell (p:=⟨w.heap.size+1,0,none⟩) (fun _=>rfl) _).setCell (p:=⟨w.heap.size+1,1,none⟩) (fun _=>rfl) _
  have hbe:Below w.heap.size w ((wp.setCell ⟨w.heap.size+1,0,none⟩ (.slice Av n.pieces.length cv)).setCell ⟨w.heap.size+1,1,none⟩ (.slice Aj n.joints.length cj)) :=
   (((Keep.of_below (S:=fun b=>b=w.heap.size+1∨b=w.heap.size+2) hb1.out).trans HL.out.K (fun _ _ e=>.inr e)).trans hK9 (fun _ _ e=>.inl e)).to_below (Nat.le_refl _) (fun b hb e=>by omega)
  have hfin:RetNc n w (.returned (.agg #[.slice Av n.pieces.length cv,.slice Aj n.joints.length cj])) ((wp.setCell ⟨w.heap.size+1,0,none⟩ (.slice Av n.pieces.length cv)).setCell ⟨w.heap.size+1,1,none⟩ (.slice Aj n.joints.length cj)) :=
   ⟨Av,Aj,cv,cj,qs,rfl,Lib.hid (HL.out.p.grownK hK9 (fun b hb e=>by have:=HL.out.o0 b hb;omega) (fun _ e=>e.elim)),Lib.hid (Kn.R_move (fun b hb=>hK9.block b (Kn.R_lt HL.out.j b hb) (fun e=>by have:=HL.out.o1 b hb;omega)) HL.out.j),HQS,Lib.hid (fun b hb=>by have:=HL.out.o0 b hb;omega),Lib.hid (fun b hb=>by have:=HL.out.o1 b hb;omega),Lib.hid hbe⟩
  have HF:=Lib.hid hfin
  clear hfin hbe hK9 hqk
  go_wp2
  exact bodyPost_ret (v:=.agg #[.slice Av n.pieces.length cv,.slice Aj n.joints.length cj]) (by simp [results,Try.results105,go_sem,hzr,r0,r1,rc0,rc1]) rfl HF.out
 have d0:decide ((k:Int) < (n.joints.length:Int))=true:=decide_eq_true (by omega)
 have k0:(0:Int)≤(k:Int):=Int.natCast_nonneg _
 have k1:(k:Int) < (n.joints.length:Int):=by omega
 have HJp:=Lib.hid (Kn.C_move (fun b hb=>HL.out.K.block b hb.2 (fun e=>by have:=hb.1.2;omega)) HJ1.out)
 obtain ⟨aj,rfl,y,EY,AE,cE,j0,j1,j2,hce,CE⟩:=jointK_at HJp.out k hlk
 have hyb:=(hs.out.jn y (mem_of_get EY.out)).2
 have HCE:=Lib.hid (Kn.C_bound CE)
 have hme:=CE.1
 have hkb:=World.block_lt_of_cell? _ _ j0
 clear CE
 go_upto_region 10 with (fail)
 obtain ⟨W3,hW3,hW3s,hb3,HB3⟩:∃W,W=wp.alloc (.cells #[.int .i64 y.kind,.string y.name,.slice AE y.ends.length cE] 97)∧Hid (W.heap.size=wp.heap.size+1)∧Below wp.heap.size wp W∧Hid (Blk W wp.heap.size 97 [.int .i64 y.kind,.string y.name,.slice AE y.ends.length cE]):=⟨_,rfl,Lib.hid (size_alloc _ _),below_alloc _ _,Lib.hid (Blk.new _ _ _ rfl)⟩
 rw [←hW3]
 clear hW3 j0 j1 j2 hkb
 have b0:=HB3.out.cell 0 rfl
 have b1:=HB3.out.cell 1 rfl
 have hz3:wp.heap.size < W3.heap.size:=HB3.out.lt
 go_upto_region 11 with (fail)
 obtain ⟨W4,hW4,hW4s,hb4,HB4⟩:∃W,W=W3.alloc (.cells #[.int .i64 y.kind,.string y.name,.slice none 0 0] 97)∧Hid (W.heap.size=W3.heap.size+1)∧Below W3.heap.size W3 W∧Hid (Blk W W3.heap.size 97 [.int .i64 y.kind,.string y.name,.slice none 0 0]):=⟨_,rfl,Lib.hid (size_alloc _ _),below_alloc _ _,Lib.hid (Blk.new _ _ _ rfl)⟩
 rw [←hW4]
 clear hW4 b0 b1 hz3
 have hbp:Below wp.heap.size wp W4:=hb3.trans (hb4.mono hb3.size)
 have HB5:=Lib.hid (HB3.out.below hb4 HB3.out.lt)
 have HC4:=Lib.hid (Kn.C_bound (Kn.C_below hbp HCE.out))
 have b2:=HB5.out.cell 2 rfl
 have hz3:wp.heap.size < W4.heap.size:=HB5.out.lt
 go_wp2
 clear b2 HB3 hz3
 go_loopw [40] (fun iv wr=>∃(m:Nat) (vE:Value),m≤y.ends.length∧iv=.int .i64 m∧Hid (Blk wr W3.heap.size 97 [.int .i64 y.kind,.string y.name,vE])∧Hid (endK.Rw 102 wr nobody vE (y.ends.take m))∧Hid (∀b,vE.ownBlock=some b→W4.heap.size≤b)∧Hid (Keep (fun b=>b=W3.heap.size) W4 wr)) (fun iv _=>y.ends.length - (intOf iv).toNat)
 case atStart=>exact ⟨0,.slice none 0 0,Nat.zero_le _,rfl,HB4,Lib.hid (by rw [List.take_zero];exact Kn.Rw.nil),Lib.hid (by simp [Value.ownBlock]),Lib.hid (Keep.refl _ _)⟩
 case round =>
 obtain ⟨wq,rfl⟩:∃W:World,W=wr:=⟨_,rfl⟩
 obtain ⟨m,vE,hm,rfl,HBX,HRE,HOE,HKE⟩:=hrel
 have hW4q:=HKE.out.size
 have hbp:=Lib.hid hbp
 by_cases hlm:m < y.ends.length
 ·as_aux_lemma =>
  have d1:decide ((m:Int) < (y.ends.length:Int))=true:=decide_eq_true (by omega)
  have m0:(0:Int)≤(m:Int):=Int.natCast_nonneg _
  have m1:(m:Int) < (y.ends.length:Int):=by omega
  obtain ⟨ae,rfl,y0,y1,EE,e0,e1⟩:=endK_at (Kn.C_move (fun b hb=>HKE.out.block b hb.2 (fun e=>by have:=hb.1.2;have:=hW3s.out;omega)) HC4.out) m hlm
  have hkb:=World.block_lt_of_cell? _ _ e0
  obtain ⟨et,het⟩:∃l,Hid (y.ends.take m=l):=⟨_,Lib.hid rfl⟩
  have htl:Hid (et.length=m):=Lib.hid (by rw [←het.out,List.length_take];omega)
  rw [het.out] at HRE
  obtain ⟨Av,cv,rfl,hcv,_⟩:=HRE.out.form
  go_upto_region 14 with (fail)
  obtain ⟨W5,hW5,hb5,BE⟩:∃W,W=wq.alloc (.cells #[.int .i64 y0,.int .i64 y1] 102)∧Below wq.heap.size wq W∧Hid (Blk W wq.heap.size 102 [.int .i64 y0,.int .i64 y1]):=⟨_,rfl,below_alloc _ _,Lib.hid (Blk.new _ _ _ rfl)⟩
  rw [←hW5]
  clear hW5 e0 e1 hkb
  have HBX5:=Lib.hid (HBX.out.below hb5 HBX.out.lt)
  have HRE5:=Lib.hid (HRE.out.below hb5)
  have s2:=HBX5.out.cell 2 rfl
  have q0:=BE.out.cell 0 rfl
  have q1:=BE.out.cell 1 rfl
  have hz5:wq.heap.size < W5.heap.size:=BE.out.lt
  have hzx:W3.heap.size < W5.heap.size:=HBX5.out.lt
  obtain ⟨W6,hW6,hb6,SRC⟩:∃W,W=W5.alloc (.cells #[.int .i64 y0,.int .i64 y1] 102)∧Below W5.heap.size W5 W∧Hid (Kn.Src endK W nobody (some ⟨W5.heap.size,0,none⟩) [⟨y0,y1⟩]):=⟨_,rfl,below_alloc _ _,Lib.hid (Kn.Src.one (endK_mk _ _ ⟨y0,y1⟩) (new_cells _ _ _ rfl))⟩
  have m63:et.length+1≤maxLen:=by have:=htl.out;simp only [maxLen];omega
  have mby:(et.length+1)*16≤140737488355328:=by have:=htl.out;omega
  go_upto_region 15 with (at_builtin;(try rw [←hW6]);refine wpList_append_rw _ rfl (.tmp 45) (.tmp 47) 82 rfl 102 iE _ 16 Try.underlying82 hiE hzE hyE hxE rfl (by decide) (.slice Av et.length cv) et [⟨y0,y1⟩] rfl (HRE5.out.below hb6) (fun _ h=>h.elim) (some ⟨W5.heap.size,0,none⟩) 1 1 rfl rfl SRC.out m63 mby ?_;intro v' w7 HR hg hat;obtain ⟨A9,c9,rfl,hc9⟩:=HR.form1;have hBf:Blk w7 W3.heap.size 97 [.int .i64 y.kind,.string y.name,.slice Av et.length cv]:=(hg.block W3.heap.size (by have:=hb6.size;omega) (fun e=>own_not HRE5.out HBX5.out (by decide) e.symm)).trans (HBX5.out.below hb6 HBX5.out.lt);have u0:=hBf.frozen 2;have hz7:W3.heap.size < w7.heap.size:=hBf.lt;have u1:=hBf.cell 2 rfl)
  have hn':=own_not HR hBf (by decide)
  have HB7:=Lib.hid (hBf.set_ 2 (.slice A9 (et.length+1) c9))
  have HR7:Hid (endK.Rw 102 (w7.setCell ⟨W3.heap.size,2,none⟩ (.slice A9 (et.length+1) c9)) nobody (.slice A9 (et.length+1) c9) (y.ends.take (m+1))):=Lib.hid (by
   rw [take_push EE.out,het.out]
   exact Kn.Rw.move (fun b hb=>Below.heap_setCell _ _ _ _ (fun e=>hn' (by rw [←show b=W3.heap.size from e];exact hb))) (fun _ e=>e.elim) HR)
  have HO7:=Lib.hid (own_next HOE.out hat (by have:=hb5.size;have:=hb6.size;omega))
  have HK7:Hid (Keep (fun b=>b=W3.heap.size) W4 (w7.setCell ⟨W3.heap.size,2,none⟩ (.slice A9 (et.length+1) c9))):=Lib.hid ((((HKE.out.below hb5).below hb6).grown hg (fun b hb hlt=>by have:=HOE.out b hb;omega)).setCell (p:=⟨W3.heap.size,2,none⟩) (fun _=>rfl) _)
  go_wp2
  go_roundw
  case rel=>exact ⟨m+1,_,by omega,by go_num,HB7,HR7,HO7,HK7⟩
  case measure=>simp [intOf];omega
 as_aux_lemma =>
 obtain rfl:m=y.ends.length:=by omega
 have d1:decide ((y.ends.length:Int) < (y.ends.length:Int))=false:=decide_eq_false (by omega)
 have HRE:=Lib.hid (by rw [List.take_length] at HRE;exact HRE.out)
 obtain ⟨Ae,ce,rfl,hce2,_⟩:=HRE.out.form
 have HBq:Hid (Below wp.heap.size wp wq):=Lib.hid (((Keep.of_below (S:=fun b=>b=W3.heap.size) hbp.out).trans HKE.out (fun _ _ e=>e)).to_below (Nat.le_refl _) (fun b hb e=>by have:=hW3s.out;omega))
 have Lq:=Lib.hid (HL.out.below HBq.out)
 obtain ⟨Aj,cj,hvj,hcj,_⟩:=Kn.R_len Lq.out.j
 subst hvj
 have HOq:=Lib.hid (jointK_own (x:=y) (HRE.out.own endK_flatO))
 have HRL:=Lib.hid (Kn.R_lt HL.out.j)
 have s1:=Lq.out.f.cell 1 rfl
 have q0:=HBX.out.cell 0 rfl
 have q1:=HBX.out.cell 1 rfl
 have q2:=HBX.out.cell 2 rfl
 have hzh:w.heap.size+2 < wq.heap.size:=Lq.out.f.lt
 have hzx:W3.heap.size < wq.heap.size:=HBX.out.lt
 have hFl:Hid (∀b,b∈(Value.slice Ae y.ends.length ce).ownBlock.toList→W4.heap.size≤b):=Lib.hid (fun b hb=>HOE.out b (by simpa using hb))
 obtain ⟨W6,hW6,hb6⟩:∃W,W=wq.alloc (.cells #[.int .i64 y.kind,.string y.name,.slice Ae y.ends.length ce] 97)∧Below wq.heap.size wq W:=⟨_,rfl,below_alloc _ _⟩
 have HNC:Hid (∀(i:Nat) (u:Value),[Value.int .i64 y.kind,.string y.name,.slice Ae y.ends.length ce][i]?=some u→W6.cell? ((⟨wq.heap.size,0,none⟩:Addr).add i)=some u):=Lib.hid (by rw [hW6];exact new_cells _ _ _ rfl)
 have m63:qs.length+1≤maxLen:=by simp only [maxLen];omega
 have mby:(qs.length+1)*48≤140737488355328:=by omega
 have L6:=Lib.hid (Lq.out.below hb6)
 have HO6:=Lib.hid ((jointK 102).O_move (w1:=W6) (fun b hb=>hb6.block b ((jointK 102).O_lt HOq.out b hb)) HOq.out)
 have HQL:=Lib.hid hqk
 clear hqk
 go_upto_region 17 with (at_builtin;(try rw [←hW6]);refine wpList_append_R _ rfl (.tmp 52) (.tmp 54) 24 rfl 97 iJ _ 48 Try.underlying24 hiJ hzJ hyJ hxJ rfl (by decide) (.slice Aj qs.length cj) qs rfl L6.out.j ⟨wq.heap.size,0,none⟩ y [.int .i64 y.kind,.string y.name,.slice Ae y.ends.length ce] (Value.slice Ae y.ends.length ce).ownBlock.toList 1 rfl HO6.out HNC.out (fun b hb hf=>by have:=hFl.out b hb;have:=HRL.out b hf;have:=hW3s.out;have:=hW4s.out;omega) m63 mby ?_;intro v' w7 HR7 hg7 hat7;obtain ⟨A9,c9,hv9,hc9,_⟩:=Kn.R_len HR7;rw [List.length_append,List.length_singleton] at hv9;subst hv9;have hA:=Lq.out.addJ hb6 HR7 hg7 hat7 (fun b hb=>by have:=hFl.out b hb;have:=hW3s.out;have:=hW4s.out;omega);have hBf:Blk w7 (w.heap.size+2) 26 [v0,.slice Aj qs.length cj]:=(hg7.block (w.heap.size+2) (by have:=hb6.size;omega) (fun e=>own_not (R_Rw Lq.out.j) Lq.out.f (by decide) e.symm)).trans (Lq.out.f.below hb6 Lq.out.f.lt);have u0:=hBf.frozen 1;have hz7:w.heap.size+2 < w7.heap.size:=hBf.lt;have u1:=hBf.cell 1 rfl)
 have HA:=Lib.hid hA
 have HQ9:Hid ((qs++[(y,(Value.slice Ae y.ends.length ce).ownBlock.toList)]).map Prod.fst=n.joints.take (k+1)):=Lib.hid (by rw [List.map_append,HQS.out,take_push EY.out];rfl)
 clear hA
 go_wp2
 go_roundw
 case rel=>exact ⟨k+1,_,_,by omega,by go_num,HQ9,HA⟩
 case measure=>simp [intOf];omega
end Go.Proofs.Ytjccgneimknbpaa.L
namespace Go.Proofs.Ytjccgneimknbpaa.L
open Go.RowKit
theorem chunk_set {inner:List Value} {k sz f:Nat} {u:Value} (hf:f < sz):((inner.set (k*sz+f) u).drop (k*sz)).take sz=((inner.drop (k*sz)).take sz).set f u:=by
 apply List.ext_getElem?
 intro i
 rw [List.getElem?_take,List.getElem?_drop]
 by_cases hi:i < sz
 ·rw [if_pos hi]
  by_cases e:i=f
  ·subst e
   by_cases hl:k*sz+i < inner.length
   ·rw [List.getElem?_set_self hl,List.getElem?_set_self (by rw [List.length_take,List.length_drop];omega)]
   ·rw [List.getElem?_eq_none (by rw [List.length_set];omega),List.getElem?_eq_none (by rw [List.length_set,List.length_take,List.length_drop];omega)]
  ·rw [List.getElem?_set_ne (by omega),List.getElem?_set_ne (fun h=>e h.symm),List.getElem?_take,if_pos hi,List.getElem?_drop]
 ·rw [if_neg hi,List.getElem?_eq_none (by rw [List.length_set,List.length_take];omega)]
theorem chunk_set_ne {inner:List Value} {j k sz f:Nat} {u:Value} (hf:f < sz) (hj:j≠k):((inner.set (k*sz+f) u).drop (j*sz)).take sz=(inner.drop (j*sz)).take sz:=by
 apply List.ext_getElem?
 intro i
 rw [List.getElem?_take,List.getElem?_take]
 split
 ·rw [List.getElem?_drop,List.getElem?_drop,List.getElem?_set_ne]
  intro e
  rcases Nat.lt_or_gt_of_ne hj with h | h
  ·have:j*sz+sz≤k*sz:=by rw [←Nat.succ_mul];exact Nat.mul_le_mul_right _ h
   omega
  ·have:k*sz+sz≤j*sz:=by rw [←Nat.succ_mul];exact Nat.mul_le_mul_right _ h
   omega
 ·rfl
theorem Rw_put {α:Type} {d:Kn α} {e n c b j f:Nat} {w:World} {ok:Nat→Prop} {xs:List α} {x y:α} {u:Value} (h:d.Rw e w ok (.slice (some ⟨b,0,none⟩) n c) xs) (hx:xs[j]?=some x) (hf:f < d.sz) (hk:∀w cs,d.K w ok x cs→d.K w ok y (cs.set f u)) (hok:∀z,ok z→z≠b) :
  d.Rw e (w.setCell ⟨b,j*d.sz+f,none⟩ u) ok (.slice (some ⟨b,0,none⟩) n c) (xs.set j y):=by
 have hn:=(Rw_slice h).1
 subst hn
 obtain ⟨inner,ho,hi⟩:=h
 have h1:=(ho.stored (j*d.sz+f) u).1
 refine ⟨inner.set (j*d.sz+f) u,by rw [List.length_set];exact h1,fun i z hz=>?_⟩
 have hm:∀{x:α} {cs:List Value},d.K w ok x cs→d.K (w.setCell ⟨b,j*d.sz+f,none⟩ u) ok x cs:=fun hkk=>d.K_move (fun z hz=>Below.heap_setCell _ _ _ _ (hok z hz)) hkk
 by_cases e:i=j
 ·subst e
  have hjl:=(List.getElem?_eq_some_iff.1 hx).1
  rw [List.getElem?_set_self hjl] at hz
  obtain rfl:=Option.some.inj hz
  rw [chunk_set hf]
  exact hk _ _ (hm (hi i x hx))
 ·rw [List.getElem?_set_ne (fun q=>e q.symm)] at hz
  rw [chunk_set_ne hf e]
  exact hm (hi i z hz)
theorem row_cell {w:World} {e sz g n c N j i:Nat} {inner:List Value} {u:Value} (ho:w.ownsRow 0 e sz (.slice (some ⟨g,0,none⟩) n c) N inner) (hu:((inner.drop (j*sz)).take sz)[i]?=some u):w.cell? ⟨g,j*sz+i,none⟩=some u:=by
 rw [List.getElem?_take] at hu
 split at hu
 ·rw [List.getElem?_drop] at hu
  have:=ho.cells (g:=g) rfl _ u hu
  rw [add_zero] at this
  exact this
 ·cases hu
theorem foot_apart {α:Type} {d:Kn α} {e:Nat} {w:World} {v:Value} {qs:List (α × List Nat)} (h:d.R e w v qs):(∀b,b∈(qs.map Prod.snd).flatten→¬v.ownBlock=some b)∧∀(i j:Nat) p q,qs[i]?=some p→qs[j]?=some q→i≠j→∀b,b∈p.2→¬b∈q.2:=by
 obtain ⟨inner,ho,hi,hn⟩:=h
 unfold Kn.foot at hn
 rw [List.nodup_append] at hn
 obtain ⟨n1,n2,n3⟩:=hn
 refine ⟨fun b hb hv=>n3 b (by rw [hv];simp) b hb rfl,fun i j p q hp hq hij b hb hb'=>?_⟩
 have hpw:=(List.pairwise_flatten.1 n2).2
 rw [List.pairwise_map] at hpw
 obtain ⟨hil,hpe⟩:=List.getElem?_eq_some_iff.1 hp
 obtain ⟨hjl,hqe⟩:=List.getElem?_eq_some_iff.1 hq
 have hpw:=List.pairwise_iff_getElem.1 hpw
 rcases Nat.lt_or_gt_of_ne hij with h | h
 ·have h2:=hpw i j hil hjl h
  rw [hpe,hqe] at h2
  exact h2 b hb b hb' rfl
 ·have h2:=hpw j i hjl hil h
  rw [hpe,hqe] at h2
  exact h2 b hb' b hb rfl
theorem R_upd {α:Type} {d:Kn α} {e j:Nat} {w w1:World} {ok:Nat→Prop} {v:Value} {qs:List (α × List Nat)} {x y:α} {F:List Nat} (h:d.R e w v qs) (hj:qs[j]?=some (x,F)) (hs:∀b,b < w.heap.size→¬b∈F→w1.heap[b]?=w.heap[b]?) (hy:∀cs,d.O w x cs F→(∀g n c i u,v=.slice (some ⟨g,0,none⟩) n c→cs[i]?=some u→w.cell? ⟨g,j*d.sz+i,none⟩=some u)→d.K w1 ok y cs) (hok:∀b,b∈(qs.map Prod.snd).flatten→ok b) :
  d.Rw e w1 ok v ((qs.map Prod.fst).set j y):=by
 obtain ⟨a1,a2⟩:=foot_apart h
 have hlt:=Kn.R_lt h
 obtain ⟨inner,ho,hi,hn⟩:=h
 have hjl:=(List.getElem?_eq_some_iff.1 hj).1
 refine ⟨inner,by rw [List.length_set,List.length_map];exact Kn.own_move ho (fun b hb=>hs b (hlt b (Kn.mem_foot_own hb)) (fun hF=>a1 b (List.mem_flatten.2 ⟨F,List.mem_map.2 ⟨_,List.mem_of_getElem? hj,rfl⟩,hF⟩) hb)),fun i z hz=>?_⟩
 by_cases ej:i=j
 ·subst ej
  rw [List.getElem?_set_self (by rw [List.length_map];exact hjl)] at hz
  obtain rfl:=Option.some.inj hz
  exact hy _ (hi i _ hj) (fun g n c o u hv hu=>row_cell (by rw [←hv];exact ho) hu)
 ·rw [List.getElem?_set_ne (fun q=>ej q.symm),List.getElem?_map,Option.map_eq_some_iff] at hz
  obtain ⟨p,hp,rfl⟩:=hz
  have hO:=hi i p hp
  refine d.K_mono (fun b hb=>hok b (List.mem_flatten.2 ⟨p.2,List.mem_map.2 ⟨p,List.mem_of_getElem? hp,rfl⟩,hb⟩)) (d.K_move (fun b hb=>hs b (d.O_lt hO b hb) (a2 i j p _ hp hj ej b hb)) (d.K_of hO))
theorem R_upd2 {α:Type} {d:Kn α} {e j b n c f:Nat} {w w1:World} {ok:Nat→Prop} {qs:List (α × List Nat)} {x y:α} {F:List Nat} {u:Value} (h:d.R e w (.slice (some ⟨b,0,none⟩) n c) qs) (hj:qs[j]?=some (x,F)) (hf:f < d.sz) (hs:∀b,b < w.heap.size→¬b∈F→w1.heap[b]?=w.heap[b]?) (hy:∀cs,d.O w x cs F→(∀i u,cs[i]?=some u→w.cell? ⟨b,j*d.sz+i,none⟩=some u)→d.K (w1.setCell ⟨b,j*d.sz+f,none⟩ u) ok y (cs.set f u)) (hok:∀b,b∈(qs.map Prod.snd).flatten→ok b) :
  d.Rw e (w1.setCell ⟨b,j*d.sz+f,none⟩ u) ok (.slice (some ⟨b,0,none⟩) n c) ((qs.map Prod.fst).set j y):=by
 obtain ⟨a1,a2⟩:=foot_apart h
 have hlt:=Kn.R_lt h
 obtain ⟨A',c',hv,_,_⟩:=Kn.R_len h
 injection hv with hv1 hv2 hv3
 subst hv2
 clear hv1 hv3
 obtain ⟨inner,ho,hi,hn⟩:=h
 have hjl:=(List.getElem?_eq_some_iff.1 hj).1
 have ho1:=Kn.own_move ho (fun b hb=>hs b (hlt b (Kn.mem_foot_own hb)) (fun hF=>a1 b (List.mem_flatten.2 ⟨F,List.mem_map.2 ⟨_,List.mem_of_getElem? hj,rfl⟩,hF⟩) hb))
 refine ⟨inner.set (j*d.sz+f) u,by rw [List.length_set,List.length_map];exact (ho1.stored (j*d.sz+f) u).1,fun i z hz=>?_⟩
 by_cases ej:i=j
 ·subst ej
  rw [List.getElem?_set_self (by rw [List.length_map];exact hjl)] at hz
  obtain rfl:=Option.some.inj hz
  rw [chunk_set hf]
  exact hy _ (hi i _ hj) (fun o u hu=>row_cell ho hu)
 ·rw [List.getElem?_set_ne (fun q=>ej q.symm),List.getElem?_map,Option.map_eq_some_iff] at hz
  obtain ⟨p,hp,rfl⟩:=hz
  have hO:=hi i p hp
  rw [chunk_set_ne hf ej]
  refine d.K_mono (fun b hb=>hok b (List.mem_flatten.2 ⟨p.2,List.mem_map.2 ⟨p,List.mem_of_getElem? hp,rfl⟩,hb⟩)) (d.K_move (fun z hz=>?_) (d.K_of hO))
  rw [Below.heap_setCell _ _ _ _ (fun e=>a1 z (List.mem_flatten.2 ⟨p.2,List.mem_map.2 ⟨p,List.mem_of_getElem? hp,rfl⟩,hz⟩) (by rw [show z=b from e];rfl))]
  exact hs z (d.O_lt hO z hz) (a2 i j p _ hp hj ej z hz)
theorem jointO_open {e:Nat} {w:World} {x:Joint} {cs:List Value} {F:List Nat} (h:(jointK e).O w x cs F):∃v,cs=[.int .i64 x.kind,.string x.name,v]∧endK.Rw e w nobody v x.ends∧F=v.ownBlock.toList:=by
 obtain ⟨c0,c1,F0,F1,rfl,rfl,⟨rfl,rfl⟩,⟨c2,c3,F2,F3,rfl,rfl,⟨rfl,rfl⟩,⟨v,ps,rfl,hx,hR,rfl⟩,_⟩,_⟩:=h
 have hfl:(ps.map Prod.snd).flatten=[]:=by
  obtain ⟨inner,ho,hi,hn⟩:=hR
  rw [List.eq_nil_iff_forall_not_mem]
  intro b hb
  obtain ⟨l,hl,hb⟩:=List.mem_flatten.1 hb
  obtain ⟨p,hp,rfl⟩:=List.mem_map.1 hl
  obtain ⟨j,hj⟩:=List.mem_iff_getElem?.1 hp
  rw [(endK_O (hi j p hj)).2] at hb
  cases hb
 refine ⟨v,rfl,?_,?_⟩
 ·have hx':x.ends=ps.map Prod.fst:=hx
  rw [hx']
  have:=R_Rw hR
  rw [hfl] at this
  exact this.mono (fun b hb=>by cases hb)
 ·show []++([]++Kn.foot v ps)=_
  unfold Kn.foot
  rw [hfl]
  simp
structure SN (We w:World) (h r g k Bb:Nat) (ps:List Piece) (js:List Joint) (v0 v1:Value):Prop where
 ns:NS We w h g k Bb ps js v0 v1
 rk:Blk w r 26 [.slice none 0 0,.slice none 0 0]
 rh:¬r=h
 rB:We.heap.size≤r
section
variable {We w w' wa w2:World} {h r g k m Bb:Nat} {ps:List Piece} {js:List Joint} {v0 v1 v':Value}
theorem SN.below (H:SN We w h r g k Bb ps js v0 v1) (hb:Below w.heap.size w w'):SN We w' h r g k Bb ps js v0 v1:=⟨H.ns.below hb,H.rk.below hb H.rk.lt,H.rh,H.rB⟩
theorem SN.cursor (H:SN We w h r g k Bb ps js v0 v1) (hk:Keep (fun b=>b=g) w w') (hc:Cb w' g m Bb):SN We w' h r g m Bb ps js v0 v1 :=
 ⟨H.ns.cursor hk hc,H.rk.keep hk (fun e=>by have:=H.rB;have:=H.ns.gB;omega),H.rh,H.rB⟩
theorem SN.addP {x:Piece} (H:SN We w h r g k Bb ps js v0 v1) (hb:Below w.heap.size w wa) (hr:pieceK.Rw 64 w2 nobody v' (ps++[x])) (hg:wa.grownBy w2 v0.ownBlock) (hat:v'.ownBlock=v0.ownBlock∨v'.ownBlock=some wa.heap.size) :
  SN We (w2.setCell ⟨h,0,none⟩ v') h r g k Bb (ps++[x]) js v' v1:=by
 obtain ⟨h1,h2⟩:=H.ns.addP hb hr hg hat
 refine ⟨h1,H.rk.keep h2 (fun e=>?_),H.rh,H.rB⟩
 rcases e with e | e
 ·exact H.rh e
 ·exact own_not H.ns.p H.rk (by decide) e
theorem SN.addJ {x:Joint} (H:SN We w h r g k Bb ps js v0 v1) (hb:Below w.heap.size w wa) (hr:(jointK 102).Rw 97 w2 (fun b=>OkJ We.heap.size h v0 v1 b∧b < wa.heap.size) v' (js++[x])) (hg:wa.grownBy w2 v1.ownBlock) (hat:v'.ownBlock=v1.ownBlock∨v'.ownBlock=some wa.heap.size) :
  SN We (w2.setCell ⟨h,1,none⟩ v') h r g k Bb ps (js++[x]) v0 v':=by
 obtain ⟨h1,h2⟩:=H.ns.addJ hb hr hg hat
 refine ⟨h1,H.rk.keep h2 (fun e=>?_),H.rh,H.rB⟩
 rcases e with e | e
 ·exact H.rh e
 ·exact own_not H.ns.j H.rk (by decide) e
theorem SN.side {u:Value} {b o:Nat} (H:SN We w h r g k Bb ps js v0 v1) (hB:We.heap.size≤b) (hh:¬h=b) (hr:¬r=b) :
  Blk (w.setCell ⟨b,o,none⟩ u) h 26 [v0,v1]∧Blk (w.setCell ⟨b,o,none⟩ u) r 26 [.slice none 0 0,.slice none 0 0]∧Cb (w.setCell ⟨b,o,none⟩ u) g k Bb∧Keep (fun x=>x=g) We (w.setCell ⟨b,o,none⟩ u)∧Keep (fun x=>x=b) w (w.setCell ⟨b,o,none⟩ u):=by
 have hK:Keep (fun x=>x=b) w (w.setCell ⟨b,o,none⟩ u):=(Keep.refl (fun x=>x=b) w).setCell (p:=⟨b,o,none⟩) (fun _=>rfl) u
 have hgB:=H.ns.gB
 have hbB:=H.ns.bB
 exact ⟨H.ns.f.keep hK hh,H.rk.keep hK hr,H.ns.c.keep hK (by omega) (fun x hx _ e=>by omega),H.ns.K.trans hK (fun x hx e=>by omega),hK⟩
theorem SN.putP {b N c j f:Nat} {x y:Piece} {u:Value} (H:SN We w h r g k Bb ps js (.slice (some ⟨b,0,none⟩) N c) v1) (hx:ps[j]?=some x) (hf:f < 4) (hk:∀w cs,pieceK.K w nobody x cs→pieceK.K w nobody y (cs.set f u)) :
  SN We (w.setCell ⟨b,j*4+f,none⟩ u) h r g k Bb (ps.set j y) js (.slice (some ⟨b,0,none⟩) N c) v1:=by
 have hb:(Value.slice (some ⟨b,0,none⟩) N c).ownBlock=some b:=rfl
 obtain ⟨s1,s2,s3,s4,s5⟩:=H.side (u:=u) (o:=j*4+f) (H.ns.o0 b hb) (fun e=>own_not H.ns.p H.ns.f (by decide) (e▸hb)) (fun e=>own_not H.ns.p H.rk (by decide) (e▸hb))
 refine ⟨⟨s1,Rw_put (d:=pieceK) H.ns.p hx hf hk (fun z hz=>hz.elim),H.ns.j.grownK s5 (fun z hz e=>own_apart H.ns.p H.ns.j (by decide) hb (e▸hz)) (fun z hz _ e=>hz.2.2.1 (e▸hb)),H.ns.hB,H.ns.o0,H.ns.o1,H.ns.gB,H.ns.bB,s3,s4⟩,s2,H.rh,H.rB⟩
theorem SN.putJ {b N c j f:Nat} {x y:Joint} {u:Value} (H:SN We w h r g k Bb ps js v0 (.slice (some ⟨b,0,none⟩) N c)) (hx:js[j]?=some x) (hf:f < 3) (hk:∀w ok cs,(jointK 102).K w ok x cs→(jointK 102).K w ok y (cs.set f u)) :
  SN We (w.setCell ⟨b,j*3+f,none⟩ u) h r g k Bb ps (js.set j y) v0 (.slice (some ⟨b,0,none⟩) N c):=by
 have hb:(Value.slice (some ⟨b,0,none⟩) N c).ownBlock=some b:=rfl
 obtain ⟨s1,s2,s3,s4,s5⟩:=H.side (u:=u) (o:=j*3+f) (H.ns.o1 b hb) (fun e=>own_not H.ns.j H.ns.f (by decide) (e▸hb)) (fun e=>own_not H.ns.j H.rk (by decide) (e▸hb))
 refine ⟨⟨s1,H.ns.p.grownK s5 (fun z hz e=>own_apart H.ns.j H.ns.p (by decide) hb (e▸hz)) (fun _ e=>e.elim),Rw_put (d:=jointK 102) H.ns.j hx hf (fun w cs hc=>hk w _ cs hc) (fun z hz e=>hz.2.2.2 (e▸hb)),H.ns.hB,H.ns.o0,H.ns.o1,H.ns.gB,H.ns.bB,s3,s4⟩,s2,H.rh,H.rB⟩
theorem SN.nilP (H:SN We w h r g k Bb ps js v0 v1):SN We (w.setCell ⟨h,0,none⟩ (.slice none 0 0)) h r g k Bb [] js (.slice none 0 0) v1:=by
 have hK:Keep (fun x=>x=h) w (w.setCell ⟨h,0,none⟩ (.slice none 0 0)):=(Keep.refl (fun x=>x=h) w).setCell (p:=⟨h,0,none⟩) (fun _=>rfl) _
 have h1:=H.ns.hB
 have h2:=H.ns.gB
 have h3:=H.ns.bB
 refine ⟨⟨H.ns.f.set_ 0 _,Kn.Rw.nil,Kn.Rw.mono (fun b hb=>⟨hb.1,hb.2.1,by simp [Value.ownBlock],hb.2.2.2⟩) (H.ns.j.grownK hK (fun z hz e=>own_not H.ns.j H.ns.f (by decide) (e▸hz)) (fun z hz _ e=>hz.2.1 e)),H.ns.hB,by simp [Value.ownBlock],H.ns.o1,H.ns.gB,H.ns.bB,H.ns.c.keep hK (by omega) (fun x hx _ e=>by omega),H.ns.K.trans hK (fun x hx e=>by omega)⟩,H.rk.keep hK H.rh,H.rh,H.rB⟩
theorem SN.popJ {A:Option Addr} {N c:Nat} {x:Joint} (hN:N=js.length) (H:SN We w h r g k Bb ps (js++[x]) v0 (.slice A (N+1) c)):SN We (w.setCell ⟨h,1,none⟩ (.slice A N c)) h r g k Bb ps js v0 (.slice A N c):=by
 have hK:Keep (fun x=>x=h) w (w.setCell ⟨h,1,none⟩ (.slice A N c)):=(Keep.refl (fun x=>x=h) w).setCell (p:=⟨h,1,none⟩) (fun _=>rfl) _
 have h1:=H.ns.hB
 have h2:=H.ns.gB
 have h3:=H.ns.bB
 have ho:(Value.slice A N c).ownBlock=(Value.slice A (N+1) c).ownBlock:=by cases A <;> rfl
 refine ⟨⟨H.ns.f.set_ 1 _,H.ns.p.grownK hK (fun z hz e=>own_not H.ns.p H.ns.f (by decide) (e▸hz)) (fun _ e=>e.elim),Kn.Rw.mono (fun b hb=>⟨hb.1,hb.2.1,hb.2.2.1,by rw [ho];exact hb.2.2.2⟩) (Rw_pop hN (H.ns.j.grownK hK (fun z hz e=>own_not H.ns.j H.ns.f (by decide) (e▸hz)) (fun z hz _ e=>hz.2.1 e))),H.ns.hB,H.ns.o0,(fun b hb=>H.ns.o1 b (by rw [←ho];exact hb)),H.ns.gB,H.ns.bB,H.ns.c.keep hK (by omega) (fun x hx _ e=>by omega),H.ns.K.trans hK (fun x hx e=>by omega)⟩,H.rk.keep hK H.rh,H.rh,H.rB⟩
theorem R_joint_at {b1 N c:Nat} {qs:List (Joint × List Nat)} (hR:(jointK 102).R 97 w (.slice (some ⟨b1,0,none⟩) N c) qs) {j:Nat} (hj:j < qs.length) :
  ∃x F v,qs[j]?=some (x,F)∧w.cell? ⟨b1,j*3,none⟩=some (.int .i64 x.kind)∧w.cell? ⟨b1,j*3+1,none⟩=some (.string x.name)∧w.cell? ⟨b1,j*3+2,none⟩=some v∧endK.Rw 102 w nobody v x.ends∧F=v.ownBlock.toList:=by
 obtain ⟨inner,ho,hi,hn⟩:=hR
 obtain ⟨x,F⟩:=qs[j]
 have hq:qs[j]?=some qs[j]:=List.getElem?_eq_getElem hj
 obtain ⟨v,hv,hE,hF⟩:=jointO_open (hi j _ hq)
 have hc:∀(i:Nat) (u:Value),[Value.int .i64 qs[j].1.kind,.string qs[j].1.name,v][i]?=some u→w.cell? ⟨b1,j*3+i,none⟩=some u:=fun i u hu=>row_cell (sz:=3) ho (by rw [←hv] at hu;exact hu)
 exact ⟨qs[j].1,qs[j].2,v,hq,hc 0 _ rfl,hc 1 _ rfl,hc 2 _ rfl,hE,hF⟩
theorem SN.ends {j b b1 N c:Nat} {qs:List (Joint × List Nat)} {x:Joint} {F:List Nat} {es:List End} {v:Value} (H:SN We w h r g k Bb ps (qs.map Prod.fst) v0 (.slice (some ⟨b1,0,none⟩) N c)) (hR:(jointK 102).R 97 w (.slice (some ⟨b1,0,none⟩) N c) qs) (hok:∀z,z∈(qs.map Prod.snd).flatten→OkJ We.heap.size h v0 (.slice (some ⟨b1,0,none⟩) N c) z)
  (hj:qs[j]?=some (x,F)) (hc:w.cell? ⟨b1,j*3+2,none⟩=some v) (hE:endK.Rw 102 w nobody v x.ends) (hF:F=v.ownBlock.toList) (hvb:v.ownBlock=some b)
  (hl:es.length=x.ends.length) (hg:w.grownBy w' (some b)) (hr:endK.Rw 102 w' nobody v es):SN We w' h r g k Bb ps ((qs.map Prod.fst).set j { x with ends:=es }) v0 (.slice (some ⟨b1,0,none⟩) N c):=by
 have hbF:b∈F:=by rw [hF,hvb];simp
 have hbl:b∈(qs.map Prod.snd).flatten:=List.mem_flatten.2 ⟨F,List.mem_map.2 ⟨_,List.mem_of_getElem? hj,rfl⟩,hbF⟩
 have hbO:=hok b hbl
 have hbr:¬r=b:=fun e=>own_not hE H.rk (by decide) (e▸hvb)
 have hK:Keep (fun z=>z=b) w w':=(Keep.refl _ _).grown hg (fun z hz _=>by injection hz with hz;exact hz.symm)
 have hgB:=H.ns.gB
 have hbB:=H.ns.bB
 have hB:=hbO.1
 refine ⟨⟨H.ns.f.keep hK (fun e=>hbO.2.1 e.symm),H.ns.p.grownK hK (fun z hz e=>hbO.2.2.1 (e▸hz)) (fun _ e=>e.elim),R_upd hR hj (fun z hz hn=>hK.block z hz (fun e=>hn (e▸hbF))) (fun cs hO hcs=>?_) hok,H.ns.hB,H.ns.o0,H.ns.o1,H.ns.gB,H.ns.bB,H.ns.c.keep hK (by omega) (fun z hz _ e=>by omega),H.ns.K.trans hK (fun z hz e=>by omega)⟩,H.rk.keep hK hbr,H.rh,H.rB⟩
 obtain ⟨v2,rfl,_,_⟩:=jointO_open hO
 have h2:=hcs b1 N c 2 v2 rfl rfl
 obtain rfl:v2=v:=Option.some.inj (h2.symm.trans hc)
 obtain ⟨A,cc,rfl,hcc,_⟩:=hr.form
 refine jointK_mk (x:={ x with ends:=es }) hcc (Kn.C_mono (fun z hz=>?_) (Rw_slice hr).2.2)
 rcases hz with hz | hz
 ·exact hz.elim
 ·rw [hvb] at hz
  exact Option.some.inj hz▸hbO
theorem SN.endsApp {j b1 N c:Nat} {qs:List (Joint × List Nat)} {x:Joint} {F:List Nat} {z:End} {v v':Value} (H:SN We w h r g k Bb ps (qs.map Prod.fst) v0 (.slice (some ⟨b1,0,none⟩) N c)) (hR:(jointK 102).R 97 w (.slice (some ⟨b1,0,none⟩) N c) qs) (hok:∀z,z∈(qs.map Prod.snd).flatten→OkJ We.heap.size h v0 (.slice (some ⟨b1,0,none⟩) N c) z)
  (hj:qs[j]?=some (x,F)) (hE:endK.Rw 102 w nobody v x.ends) (hF:F=v.ownBlock.toList) (hb:Below w.heap.size w wa)
  (hr:endK.Rw 102 w2 nobody v' (x.ends++[z])) (hg:wa.grownBy w2 v.ownBlock) (hat:v'.ownBlock=v.ownBlock∨v'.ownBlock=some wa.heap.size) (hcv:w.cell? ⟨b1,j*3+2,none⟩=some v) :
  SN We (w2.setCell ⟨b1,j*3+2,none⟩ v') h r g k Bb ps ((qs.map Prod.fst).set j { x with ends:=x.ends++[z] }) v0 (.slice (some ⟨b1,0,none⟩) N c):=by
 have hb1:(Value.slice (some ⟨b1,0,none⟩) N c).ownBlock=some b1:=rfl
 have hFl:∀y,y∈F→y∈(qs.map Prod.snd).flatten:=fun y hy=>List.mem_flatten.2 ⟨F,List.mem_map.2 ⟨_,List.mem_of_getElem? hj,rfl⟩,hy⟩
 have hvF:∀y,v.ownBlock=some y→y∈F:=fun y hy=>by rw [hF,hy];simp
 have hK2:Keep (fun y=>y∈F) w w2:=(Keep.of_below hb).grown hg (fun y hy _=>hvF y hy)
 have hK:Keep (fun y=>y∈F∨y=b1) w (w2.setCell ⟨b1,j*3+2,none⟩ v'):=(hK2.mono (fun _ _ e=>.inl e)).setCell (p:=⟨b1,j*3+2,none⟩) (fun _=>.inr rfl) _
 have hgB:=H.ns.gB
 have hbB:=H.ns.bB
 have h1B:=H.ns.o1 b1 hb1
 have hsz:=H.ns.K.size
 have hbs:=hb.size
 have hap:=foot_apart hR
 have hlt1:=Kn.R_lt hR b1 (Kn.mem_foot_own hb1)
 have hFv:∀y,y∈F→v.ownBlock=some y:=fun y hy=>by rw [hF] at hy;simpa using hy
 have hvO:∀y,v'.ownBlock=some y→¬y=b1∧OkJ We.heap.size h v0 (.slice (some ⟨b1,0,none⟩) N c) y:=fun y hy=>by
  rcases hat with hat | hat
  ·have hyl:=hFl y (hvF y (by rw [←hat];exact hy))
   exact ⟨fun e=>hap.1 y hyl (by rw [e];rfl),hok y hyl⟩
  ·have hyw:wa.heap.size=y:=Option.some.inj (hat.symm.trans hy)
   exact ⟨by omega,(H.ns.okNew (wa:=w2) (by omega) (hr.lt y hy)).1⟩
 refine ⟨⟨H.ns.f.keep hK (fun e=>?_),H.ns.p.grownK hK (fun y hy e=>?_) (fun _ e=>e.elim),?_,H.ns.hB,H.ns.o0,H.ns.o1,H.ns.gB,H.ns.bB,H.ns.c.keep hK (fun e=>?_) (fun y hy _ e=>?_),H.ns.K.trans hK (fun y hy e=>?_)⟩,H.rk.keep hK (fun e=>?_),H.rh,H.rB⟩
 ·rcases e with e | e
  ·exact (hok h (hFl h e)).2.1 rfl
  ·exact own_not H.ns.j H.ns.f (by decide) (e▸hb1)
 ·rcases e with e | e
  ·exact (hok y (hFl y e)).2.2.1 hy
  ·exact own_apart H.ns.j H.ns.p (by decide) hb1 (e▸hy)
 ·refine R_upd2 hR hj (by decide) (fun y hy hn=>hK2.block y hy hn) (fun cs hO hcs=>?_) hok
  obtain ⟨v2,rfl,_,_⟩:=jointO_open hO
  obtain ⟨A,cc,rfl,hcc,_⟩:=hr.form
  show (jointK 102).K _ _ _ [.int .i64 x.kind,.string x.name,.slice A (x.ends++[z]).length cc]
  refine jointK_mk (x:={ x with ends:=x.ends++[z] }) hcc (Kn.C_mono (fun y hy=>?_) (Kn.C_move (fun y hy=>Below.heap_setCell _ _ _ _ (fun e=>?_)) (Rw_slice hr).2.2))
  ·rcases hy with hy | hy
   ·exact hy.elim
   ·exact (hvO y hy).2
  ·rcases hy with hy | hy
   ·exact hy.elim
   ·exact (hvO y hy).1 e
 ·rcases e with e | e
  ·have:=(hok g (hFl g e)).1;omega
  ·omega
 ·rcases e with e | e
  ·have:=(hok y (hFl y e)).1;omega
  ·omega
 ·rcases e with e | e
  ·have:=(hok y (hFl y e)).1;omega
  ·omega
 ·rcases e with e | e
  ·exact own_not hE H.rk (by decide) (hFv r e)
  ·exact own_not H.ns.j H.rk (by decide) (e▸hb1)
theorem Sm.setP {ps:List Piece} {js:List Joint} {j:Nat} {y:Piece} (h:Sm ⟨ps,js⟩) (hy:y.name.size≤40):Sm ⟨ps.set j y,js⟩ :=
 ⟨by show (ps.set j y).length≤300;rw [List.length_set];exact h.p,h.j,fun p hp=>(List.mem_or_eq_of_mem_set hp).elim (fun e=>h.pn p e) (fun e=>by rw [e];exact hy),h.jn⟩
theorem Sm.setJ {ps:List Piece} {js:List Joint} {j:Nat} {y:Joint} (h:Sm ⟨ps,js⟩) (hy:y.name.size≤40∧y.ends.length≤40):Sm ⟨ps,js.set j y⟩ :=
 ⟨h.p,by show (js.set j y).length≤300;rw [List.length_set];exact h.j,h.pn,fun p hp=>(List.mem_or_eq_of_mem_set hp).elim (fun e=>h.jn p e) (fun e=>by rw [e];exact hy)⟩
theorem Sm.addP {ps:List Piece} {js:List Joint} {y:Piece} (h:Sm ⟨ps,js⟩) (hl:ps.length+1≤300) (hy:y.name.size≤40):Sm ⟨ps++[y],js⟩ :=
 ⟨by show (ps++[y]).length≤300;rw [List.length_append];exact hl,h.j,fun p hp=>(List.mem_append.1 hp).elim (fun e=>h.pn p e) (fun e=>by rw [List.mem_singleton.1 e];exact hy),h.jn⟩
theorem Sm.addJ {ps:List Piece} {js:List Joint} {y:Joint} (h:Sm ⟨ps,js⟩) (hl:js.length+1≤300) (hy:y.name.size≤40∧y.ends.length≤40):Sm ⟨ps,js++[y]⟩ :=
 ⟨h.p,by show (js++[y]).length≤300;rw [List.length_append];exact hl,h.pn,fun p hp=>(List.mem_append.1 hp).elim (fun e=>h.jn p e) (fun e=>by rw [List.mem_singleton.1 e];exact hy)⟩
theorem Sm.nilP {ps:List Piece} {js:List Joint} (h:Sm ⟨ps,js⟩):Sm ⟨[],js⟩:=⟨by simp,h.j,fun p hp=>(by cases hp),h.jn⟩
theorem Sm.popJ {ps:List Piece} {js:List Joint} {y:Joint} (h:Sm ⟨ps,js++[y]⟩):Sm ⟨ps,js⟩ :=
 ⟨h.p,by have:=h.j;simp only [List.length_append,List.length_singleton] at this;show js.length≤300;omega,h.pn,fun p hp=>h.jn p (List.mem_append_left _ hp)⟩
theorem Sm.atP {ps:List Piece} {js:List Joint} {j:Nat} {y:Piece} (h:Sm ⟨ps,js⟩) (hy:ps[j]?=some y):y.name.size≤40:=h.pn y (List.mem_of_getElem? hy)
theorem Sm.atJ {ps:List Piece} {js:List Joint} {j:Nat} {y:Joint} (h:Sm ⟨ps,js⟩) (hy:js[j]?=some y):y.name.size≤40∧y.ends.length≤40:=h.jn y (List.mem_of_getElem? hy)
theorem blk_mem {w:World} {g t:Nat} {cs:List Value} {p:Addr} {u:Value} (h:Blk w g t cs) (hp:p.block=g) (hu:w.cell? p=some u):u∈cs:=by
 unfold Blk at h
 unfold World.cell? at hu
 rw [hp,h] at hu
 have h2:p.spot=none∧cs[p.off]?=some u:=by simpa using hu
 exact List.mem_of_getElem? h2.2
theorem endsC_not {w:World} {ok:Nat→Prop} {A:Option Addr} {es:List End} {r t:Nat} {s0 s1:Value} (hr:Blk w r t [s0,s1]) (h0:∀i,¬s0=.int .i64 i) (h1:∀i,¬s1=.int .i64 i) (h:endK.C w ok A es):endK.C w (fun b=>ok b∧¬b=r) A es:=by
 refine ⟨h.1,fun hp=>?_⟩
 obtain ⟨ad,e,ho,hl,hx⟩:=h.2 hp
 refine ⟨ad,e,⟨ho,fun er=>?_⟩,hl,fun j x hj=>?_⟩
 ·obtain ⟨c,hk,hc⟩:=hx 0 _ (List.getElem?_eq_getElem hp)
  have hk2:=endK_open hk
  have h2:=hc 0 (.int .i64 (es[0]).piece) (by rw [hk2];rfl)
  have h3:=blk_mem hr (by rw [add_block];exact er) h2
  simp only [List.mem_cons,List.not_mem_nil,or_false] at h3
  rcases h3 with h3 | h3
  ·exact h0 _ h3.symm
  ·exact h1 _ h3.symm
 ·obtain ⟨c,hk,hc⟩:=hx j x hj
  exact ⟨c,endK_open hk▸endK_mk _ _ x,hc⟩
def RetSp (g k Bb:Nat) (w:World) (e:Ending) (w':World):Prop :=
 ∃(n:Net) (A0 A1:Option Addr) (c0 c1:Nat),e=.returned (.agg #[.slice A0 n.pieces.length c0,.slice A1 n.joints.length c1])∧Hid (Sm n)∧Hid (NC 102 w' (fun b=>w.heap.size≤b) n A0 A1)∧Hid (Cb w' g k Bb)∧Hid (Keep (fun b=>b=g) w w')
theorem SN.ret {A0 A1:Option Addr} {c0 c1:Nat} (H:SN We w h r g k Bb ps js (.slice A0 ps.length c0) (.slice A1 js.length c1)) (hs:Sm ⟨ps,js⟩) :
  RetSp g k Bb We (.returned (.agg #[.slice A0 ps.length c0,.slice A1 js.length c1])) ((w.setCell ⟨r,0,none⟩ (.slice A0 ps.length c0)).setCell ⟨r,1,none⟩ (.slice A1 js.length c1)):=by
 have hK:Keep (fun z=>z=r) w ((w.setCell ⟨r,0,none⟩ (.slice A0 ps.length c0)).setCell ⟨r,1,none⟩ (.slice A1 js.length c1)):=((Keep.refl (fun z=>z=r) w).setCell (p:=⟨r,0,none⟩) (fun _=>rfl) _).setCell (p:=⟨r,1,none⟩) (fun _=>rfl) _
 have h1:=H.ns.gB
 have h2:=H.ns.bB
 have h3:=H.rB
 refine ⟨⟨ps,js⟩,A0,A1,c0,c1,rfl,Lib.hid hs,Lib.hid ⟨?_,?_⟩,Lib.hid (H.ns.c.keep hK (by omega) (fun z hz _ e=>by omega)),Lib.hid (H.ns.K.trans hK (fun z hz e=>by omega))⟩
 ·exact Kn.C_mono (fun b hb=>hb.elim (fun e=>e.elim) (fun e=>H.ns.o0 b e)) (Rw_slice (H.ns.p.grownK hK (fun z hz e=>own_not H.ns.p H.rk (by decide) (e▸hz)) (fun _ e=>e.elim))).2.2
 ·obtain ⟨inner,ho,hi⟩:=H.ns.j
  have hRw:(jointK 102).Rw 97 w (fun b=>OkJ We.heap.size h (.slice A0 ps.length c0) (.slice A1 js.length c1) b∧¬b=r) (.slice A1 js.length c1) js:=⟨inner,ho,fun i x hx=>by
   obtain ⟨Ae,ce,hcs,hce,hC⟩:=jointK_open (hi i x hx)
   rw [hcs]
   exact jointK_mk hce (endsC_not H.rk (fun _ e=>by cases e) (fun _ e=>by cases e) hC)⟩
  refine Kn.C_mono (fun b hb=>hb.elim (fun e=>e.1.1) (fun e=>H.ns.o1 b e)) (Rw_slice (hRw.grownK hK (fun z hz e=>own_not H.ns.j H.rk (by decide) (e▸hz)) (fun z hz _ e=>hz.2 e))).2.2
end
end Go.Proofs.Ytjccgneimknbpaa.L
namespace Go.Proofs.Ytjccgneimknbpaa.L
open Go
section
variable {P:Program} {l:List Oper} {Q:Exit→Act→World→Prop} {S:World→Prop} {t:Nat}
theorem Rg.p {fuel:Nat} {listed:Array Bool} {a:Act} {w:World} (i:Nat) {oi:Oper} {v:Value} (hS:S w) (ho:(l.drop i).head?=some oi:=by rfl) (hB:rgT l listed t i=true:=by kernel_rfl)
  (hQ:∀c a w,Q (.panic c) (a.put oi.dst v) w→Q (.panic c) a w:=by exact fun _ _ _ h=>h) (hw:Region.wanted oi (yielded l.toArray a.tmps)=true:=by rfl) (hy:∀w,(execOp a.eval oi).run P w=.ok (.value v) w:=by (intro wA;go_simp;first | done | with_reducible rfl))
  (h:Rg P l.toArray Q S t fuel (listed.setIfInBounds i true) (a.put oi.dst v) w):Rg P l.toArray Q S t (fuel+1) listed a w:=Rg.pure i ho hB hQ hw hS hy h
theorem Rg.h {fuel:Nat} {listed:Array Bool} {a:Act} {w:World} (i:Nat) {oi:Oper} {v:Value} (hS:S w) (ho:(l.drop i).head?=some oi:=by rfl) (hB:(rgT l listed t i && rgA l.toArray 6 t i)=true:=by kernel_rfl)
  (hQ:∀c a w,Q (.panic c) (a.put oi.dst v) w→Q (.panic c) a w:=by exact fun _ _ _ h=>h) (hw:Region.wanted oi (yielded l.toArray a.tmps)=true:=by rfl) (hy:∀w,S w→(execOp a.eval oi).run P w=.ok (.value v) w:=by (intro wA hSw;(try dsimp only at hSw);go_simp;first | done | with_reducible rfl))
  (h:Rg P l.toArray Q S t fuel (listed.setIfInBounds i true) (a.put oi.dst v) w):Rg P l.toArray Q S t (fuel+1) listed a w:=Rg.held i ho hB hQ hw hS hy h
end
end Go.Proofs.Ytjccgneimknbpaa.L
namespace Go.Proofs.Ytjccgneimknbpaa.L
open Go.RowKit
theorem Rw_addr {α:Type} {d:Kn α} {e:Nat} {w:World} {ok:Nat→Prop} {A:Option Addr} {N c:Nat} {xs:List α} (h:d.Rw e w ok (.slice A N c) xs) (h0:0 < xs.length):∃b,A=some ⟨b,0,none⟩:=by
 obtain ⟨inner,ho,_⟩:=h
 rcases ho.2 with ⟨_,h1⟩ | ⟨b,cap,cur,he,_⟩
 ·omega
 ·injection he with he
  exact ⟨b,he⟩
theorem Rw_cell {α:Type} {d:Kn α} {e b N c j f:Nat} {w:World} {ok:Nat→Prop} {xs:List α} (h:d.Rw e w ok (.slice (some ⟨b,0,none⟩) N c) xs) (hj:j < xs.length) (hf:f < d.sz):(∃u,w.cell? ⟨b,j*d.sz+f,none⟩=some u)∧w.frozen? ⟨b,j*d.sz+f,none⟩=false:=by
 have hn:=(Rw_slice h).1
 subst hn
 obtain ⟨inner,ho,_⟩:=h
 refine ⟨?_,ho.frozenAt _⟩
 have hl:j*d.sz+f < inner.length:=by
  have:j*d.sz+d.sz≤xs.length*d.sz:=by rw [←Nat.succ_mul];exact Nat.mul_le_mul_right _ hj
  rw [ho.1]
  omega
 have:=ho.cells (g:=b) rfl _ _ (List.getElem?_eq_getElem hl)
 rw [add_zero] at this
 exact ⟨_,this⟩
theorem pieceK_put0 {x:Piece} {s:ByteArray}:∀(w:World) (cs:List Value),pieceK.K w nobody x cs→pieceK.K w nobody { x with name:=s } (cs.set 0 (.string s)):=fun w cs h=>by rw [pieceK_open h];exact pieceK_mk _ _ { x with name:=s }
theorem pieceK_put1 {x:Piece} {z:Int}:∀(w:World) (cs:List Value),pieceK.K w nobody x cs→pieceK.K w nobody { x with len:=z } (cs.set 1 (.int .i64 z)):=fun w cs h=>by rw [pieceK_open h];exact pieceK_mk _ _ { x with len:=z }
theorem pieceK_put2 {x:Piece} {z:Int}:∀(w:World) (cs:List Value),pieceK.K w nobody x cs→pieceK.K w nobody { x with speed:=z } (cs.set 2 (.int .i64 z)):=fun w cs h=>by rw [pieceK_open h];exact pieceK_mk _ _ { x with speed:=z }
theorem pieceK_put3 {x:Piece} {z:Int}:∀(w:World) (cs:List Value),pieceK.K w nobody x cs→pieceK.K w nobody { x with brake:=z } (cs.set 3 (.int .i64 z)):=fun w cs h=>by rw [pieceK_open h];exact pieceK_mk _ _ { x with brake:=z }
theorem jointK_put0 {x:Joint} {z:Int}:∀(w:World) (ok:Nat→Prop) (cs:List Value),(jointK 102).K w ok x cs→(jointK 102).K w ok { x with kind:=z } (cs.set 0 (.int .i64 z)):=fun w ok cs h=>by
 obtain ⟨A,c,rfl,hc,hC⟩:=jointK_open h
 exact jointK_mk (x:={ x with kind:=z }) hc hC
theorem jointK_put1 {x:Joint} {s:ByteArray}:∀(w:World) (ok:Nat→Prop) (cs:List Value),(jointK 102).K w ok x cs→(jointK 102).K w ok { x with name:=s } (cs.set 1 (.string s)):=fun w ok cs h=>by
 obtain ⟨A,c,rfl,hc,hC⟩:=jointK_open h
 exact jointK_mk (x:={ x with name:=s }) hc hC
theorem jointK_put2 {x:Joint}:∀(w:World) (ok:Nat→Prop) (cs:List Value),(jointK 102).K w ok x cs→(jointK 102).K w ok { x with ends:=[] } (cs.set 2 (.slice none 0 0)):=fun w ok cs h=>by
 obtain ⟨A,c,rfl,hc,hC⟩:=jointK_open h
 exact jointK_mk (x:={ x with ends:=[] }) (Nat.le_refl _) Kn.C_nil
theorem tab_int {w:World} {g t:Nat} {zs:List Int} (h:Blk w g t (zs.map (Value.int .i64))) {j:Nat} (hj:j < zs.length):∃z,w.cell? ⟨g,j,none⟩=some (.int .i64 z) :=
 ⟨_,h.cell j (by rw [List.getElem?_map,List.getElem?_eq_getElem hj];rfl)⟩
theorem tab_str {w:World} {g t:Nat} {zs:List ByteArray} (h:Blk w g t (zs.map Value.string)) (hs:zs.all (fun s=>decide (s.size≤40))=true) {j:Nat} (hj:j < zs.length):∃s,w.cell? ⟨g,j,none⟩=some (.string s)∧s.size≤40 :=
 ⟨_,h.cell j (by rw [List.getElem?_map,List.getElem?_eq_getElem hj];rfl),of_decide_eq_true (List.all_eq_true.1 hs _ (List.getElem_mem hj))⟩
section
variable {We W1 w2:World} {h r g k Bb:Nat} {n:Net} {qs:List (Joint × List Nat)} {v0 v1 x0 x1:Value}
theorem SN.of_copy (hbh:Blk w2 h 26 [x0,x1]) (hbr:Blk w2 r 26 [.slice none 0 0,.slice none 0 0]) (hrh:¬r=h) (hB:We.heap.size≤h) (rB:We.heap.size≤r) (h1:h < W1.heap.size) (hP:pieceK.Rw 64 w2 nobody v0 n.pieces) (hR:(jointK 102).R 97 w2 v1 qs) (hQ:qs.map Prod.fst=n.joints)
  (hO0:∀b,v0.ownBlock=some b→W1.heap.size≤b) (hO1:∀b,b∈Kn.foot v1 qs→W1.heap.size≤b) (gB:g < We.heap.size) (bB:Bb≤We.heap.size) (hW:We.heap.size≤W1.heap.size) (hc:Cb w2 g k Bb) (hK:Keep (fun b=>b=g) We w2) :
  SN We ((w2.setCell ⟨h,0,none⟩ v0).setCell ⟨h,1,none⟩ v1) h r g k Bb n.pieces n.joints v0 v1∧(jointK 102).R 97 ((w2.setCell ⟨h,0,none⟩ v0).setCell ⟨h,1,none⟩ v1) v1 qs∧∀z,z∈(qs.map Prod.snd).flatten→OkJ We.heap.size h v0 v1 z:=by
 have hKf:Keep (fun b=>b=h) w2 ((w2.setCell ⟨h,0,none⟩ v0).setCell ⟨h,1,none⟩ v1):=((Keep.refl (fun b=>b=h) w2).setCell (p:=⟨h,0,none⟩) (fun _=>rfl) _).setCell (p:=⟨h,1,none⟩) (fun _=>rfl) _
 have hap:=foot_apart hR
 have hok:∀z,z∈(qs.map Prod.snd).flatten→OkJ We.heap.size h v0 v1 z:=fun z hz=>by
  have hzf:z∈Kn.foot v1 qs:=List.mem_append_right _ hz
  have h2:=hO1 z hzf
  refine ⟨by omega,by omega,fun e=>?_,hap.1 z hz⟩
  obtain ⟨l,hl,hzl⟩:=List.mem_flatten.1 hz
  obtain ⟨p,hp,rfl⟩:=List.mem_map.1 hl
  obtain ⟨j,hj⟩:=List.mem_iff_getElem?.1 hp
  obtain ⟨inner,ho,hi,hn⟩:=hR
  obtain ⟨v,_,hE,hF⟩:=jointO_open (hi j p hj)
  rw [hF] at hzl
  exact own_apart hE hP (by decide) (by simpa using hzl) e
 have hR3:(jointK 102).R 97 ((w2.setCell ⟨h,0,none⟩ v0).setCell ⟨h,1,none⟩ v1) v1 qs:=Kn.R_move (fun b hb=>hKf.block b (Kn.R_lt hR b hb) (fun e=>by have:=hO1 b hb;omega)) hR
 refine ⟨⟨⟨(hbh.set_ 0 v0).set_ 1 v1,hP.grownK hKf (fun b hb e=>by have:=hO0 b hb;omega) (fun _ e=>e.elim),?_,hB,fun b hb=>by have:=hO0 b hb;omega,fun b hb=>by have:=hO1 b (Kn.mem_foot_own hb);omega,gB,bB,hc.keep hKf (by omega) (fun b hb _ e=>by omega),hK.trans hKf (fun b hb e=>by omega)⟩,hbr.keep hKf hrh,hrh,rB⟩,hR3,hok⟩
 rw [←hQ]
 exact (R_Rw hR3).mono hok
end
theorem SN.later {We w:World} {h r g k m Bb:Nat} {ps:List Piece} {js:List Joint} {v0 v1:Value} (H:SN We w h r g k Bb ps js v0 v1) (hm:k≤m):SN We w h r g m Bb ps js v0 v1 :=
 ⟨⟨H.ns.f,H.ns.p,H.ns.j,H.ns.hB,H.ns.o0,H.ns.o1,H.ns.gB,H.ns.bB,H.ns.c.mono hm (Nat.le_refl _),H.ns.K⟩,H.rk,H.rh,H.rB⟩
end Go.Proofs.Ytjccgneimknbpaa.L
namespace Go.Proofs.Ytjccgneimknbpaa.L
open Go.RowKit
structure Ce (w:World) (g B:Nat) (A:Option Addr) (c i:Nat) (bs:List Int) (sd:Int):Prop where
 b:Blk w g 75 [.slice A bs.length c,.int .i64 i,.int .u64 sd]
 C:byteK.C w (fun b=>¬b=g∧b < B) A bs
theorem Ce.keep {w w1:World} {g B c i:Nat} {A:Option Addr} {bs:List Int} {sd:Int} {S:Nat→Prop} (h:Ce w g B A c i bs sd) (hk:Keep S w w1) (hg:¬S g) (hS:∀b,b < B→¬S b):Ce w1 g B A c i bs sd :=
 ⟨h.b.keep hk hg,Kn.C_mono (fun b hb=>hb.1) (Kn.C_move (fun b hb=>hk.block b hb.2 (hS b hb.1.2)) (Kn.C_bound h.C))⟩
theorem Cb.ce {w:World} {g k B:Nat} (h:Cb w g k B):∃(A:Option Addr) (c i:Nat) (bs:List Int) (sd:Int),Ce w g B A c i bs sd∧(∀x∈bs,0≤x∧x≤255)∧i≤k:=by
 obtain ⟨A,c,bs,i,sd,h1,h2,h3,h4⟩:=h.ex
 exact ⟨A,c,i,bs,sd,⟨h1,h2⟩,h3,h4⟩
set_option maxRecDepth 100000 in
set_option maxHeartbeats 4000000 in
theorem curNextE (g k B c i:Nat) (A:Option Addr) (bs:List Int) (sd:Int) (hr:∀x∈bs,0≤x∧x≤255) (hi:i≤k) (hk:k≤1125899906842624):∃v:Int,0≤v∧v≤255∧∀w,Hid (Ce w g B A c i bs sd)→Calls Try.prog 61 #[.pointer (some ⟨g,0,none⟩)] w (RetCu v v g (k+1) B w):=by
 have HR:=Lib.hid hr
 by_cases hlt:i < bs.length
 ·refine ⟨bs[i],(hr _ (List.getElem_mem hlt)).1,(hr _ (List.getElem_mem hlt)).2,fun w H=>?_⟩
  have HB:=Lib.hid H.out.b
  have HC:=Lib.hid H.out.C
  have hg:g < w.heap.size:=HB.out.lt
  have s0:=HB.out.cell 0 rfl
  have s1:=HB.out.cell 1 rfl
  have s2:=HB.out.cell 2 rfl
  have f0:=HB.out.frozen 0
  have f1:=HB.out.frozen 1
  have f2:=HB.out.frozen 2
  have hm:=HC.out.1
  obtain ⟨ad,rfl,y,EY,c0⟩:=byte_at HC.out i hlt
  have hyy:Hid (bs[i]=y):=Lib.hid (Option.some.inj ((List.getElem?_eq_getElem hlt).symm.trans EY.out))
  have hy:=HR.out y (List.mem_of_getElem? EY.out)
  have i0:(0:Int)≤(i:Int):=Int.natCast_nonneg _
  have i1:(i:Int) < (bs.length:Int):=by omega
  have d0:decide ((i:Int) < (bs.length:Int))=true:=decide_eq_true i1
  rw [hyy.out]
  clear hr H
  go_enter Try.func61,Try.ntmps61
  go_wp2
  go_quiet (fail)
  go_wp2
  go_quiet (fail)
  go_wp2
  go_ret
  refine ⟨y,rfl,Lib.hid ⟨Int.le_refl _,Int.le_refl _⟩,Lib.hid (Cb.put (i:=i) (j:=i+1) HC.out HR.out (by omega) (((HB.out.drewN _).set_ 1 _).set_ 2 _) ?_),Lib.hid ?_⟩
  ·exact (((Keep.refl (fun b=>b=g) w).drewN _).setCell (p:=⟨g,1,none⟩) (fun _=>rfl) _).setCell (p:=⟨g,2,none⟩) (fun _=>rfl) _
  ·exact (((Keep.refl (fun b=>b=g) w).drewN _).setCell (p:=⟨g,1,none⟩) (fun _=>rfl) _).setCell (p:=⟨g,2,none⟩) (fun _=>rfl) _
 ·have d0:decide ((i:Int) < (bs.length:Int))=false:=decide_eq_false (by omega)
  clear hr
  refine ⟨wrap64 (bits BinOp.and IntKind.u64 (IntKind.u64.wrap (IntKind.u64.wrap (sd*6364136223846793005)+1442695040888963407) / 1099511627776) 255),?h0,?h1,fun w H=>?hc⟩
  case hc =>
   have HB:=Lib.hid H.out.b
   have HC:=Lib.hid H.out.C
   have hg:g < w.heap.size:=HB.out.lt
   have s0:=HB.out.cell 0 rfl
   have s1:=HB.out.cell 1 rfl
   have s2:=HB.out.cell 2 rfl
   have f0:=HB.out.frozen 0
   have f1:=HB.out.frozen 1
   have f2:=HB.out.frozen 2
   have hm:=HC.out.1
   clear H
   go_enter Try.func61,Try.ntmps61
   go_wp2
   go_quiet (fail)
   go_wp2
   go_ret
   refine ⟨_,rfl,Lib.hid ⟨Int.le_refl _,Int.le_refl _⟩,Lib.hid (Cb.put (i:=i) (j:=i+1) HC.out HR.out (by omega) (((HB.out.drewN _).set_ 2 _).set_ 1 _) ?_),Lib.hid ?_⟩
   ·exact (((Keep.refl (fun b=>b=g) w).drewN _).setCell (p:=⟨g,2,none⟩) (fun _=>rfl) _).setCell (p:=⟨g,1,none⟩) (fun _=>rfl) _
   ·exact (((Keep.refl (fun b=>b=g) w).drewN _).setCell (p:=⟨g,2,none⟩) (fun _=>rfl) _).setCell (p:=⟨g,1,none⟩) (fun _=>rfl) _
  case h0=>exact (and255 _ (by rw [IntKind.wrap_u64];omega) (by rw [IntKind.wrap_u64];omega)).1
  case h1=>exact (and255 _ (by rw [IntKind.wrap_u64];omega) (by rw [IntKind.wrap_u64];omega)).2
set_option maxRecDepth 100000 in
set_option maxHeartbeats 4000000 in
/-- A choice among few. -/
theorem curPickE (n:Int) (g k B c i:Nat) (A:Option Addr) (bs:List Int) (sd:Int) (hr:∀x∈bs,0≤x∧x≤255) (hi:i≤k) (hk:k≤1125899906842620) (h1:1 < n) (h2:n≤200):∃v:Int,0≤v∧v≤n - 1∧∀w,Hid (Ce w g B A c i bs sd)→Calls Try.prog 33 #[.pointer (some ⟨g,0,none⟩),.int .i64 n] w (RetCu v v g (k+2) B w):=by
 obtain ⟨v,v0,v1,hv⟩:=curNextE g k B c i A bs sd hr hi (by omega)
 have dz2:¬n=0:=by omega
 refine ⟨v % n,Int.emod_nonneg _ dz2,by have:=Int.emod_lt_of_pos v (show 0 < n by omega);omega,fun w H=>?_⟩
 have d0:decide (n≤1)=false:=decide_eq_false (by omega)
 have dz:(n == 0)=false:=by simp;omega
 have d1:decide (200 < n)=false:=decide_eq_false (by omega)
 have HV:=Lib.hid hv
 clear hv hr
 go_enter Try.func33,Try.ntmps33
 go_wp2_with fail
 refine (HV.out _ H).mono ?_
 rintro e w1 ⟨v',rfl,HV1,HC1,HK1⟩
 obtain rfl:v'=v:=by have:=HV1.out;omega
 go_wp2
 go_ret
 exact ⟨_,rfl,Lib.hid ⟨Int.le_refl _,Int.le_refl _⟩,Lib.hid (HC1.out.mono (by omega) (Nat.le_refl _)),HK1⟩
end Go.Proofs.Ytjccgneimknbpaa.L
namespace Go.Proofs.Ytjccgneimknbpaa.L
open Go.RowKit
set_option maxRecDepth 100000 in
set_option maxHeartbeats 32000000 in
theorem drSpoilA {ok:Nat→Prop} (v:Int) (hvX:v=0) (n:Net) (A0 A1:Option Addr) (c0 c1:Nat) (w:World) (g k Bb:Nat) (hc:Hid (Cb w g k Bb)) (Ac:Option Addr) (cc ic:Nat) (bs:List Int) (sd:Int) (hce:Hid (Ce w g Bb Ac cc ic bs sd)) (hpk:Hid (∀w',Hid (Ce w' g Bb Ac cc ic bs sd)→Calls Try.prog 33 #[.pointer (some ⟨g,0,none⟩),.int .i64 10] w' (RetCu v v g (k+2) Bb w'))) (hB:Bb≤w.heap.size) (hs:Hid (Sm n)) (h0:0 < n.pieces.length) (h1:n.pieces.length≤40) (h2:n.joints.length≤40) (h3:∀x∈n.joints,x.ends.length≤39) (h:Hid (NC 102 w ok n A0 A1)) (hk:k≤1125899906840000) :
  Calls Try.prog 83 #[.pointer (some ⟨g,0,none⟩),.agg #[.slice A0 n.pieces.length c0,.slice A1 n.joints.length c1]] w (RetSp g (k+400) Bb w):=by
 obtain ⟨iP,hiP,hzP,hyP,hxP⟩:=info_parts dinfo64
 obtain ⟨iJ,hiJ,hzJ,hyJ,hxJ⟩:=info_parts dinfo97
 obtain ⟨iE,hiE,hzE,hyE,hxE⟩:=info_parts dinfo102
 have hgw:=hc.out.lt
 go_enter Try.func83,Try.ntmps83
 go_upto_region 1 with (fail)
 obtain ⟨W1,hW1,hWs,hb1,HBh,HBr⟩:∃W,W=(w.alloc (.cells #[.slice A0 n.pieces.length c0,.slice A1 n.joints.length c1] 26)).alloc (.cells #[.slice none 0 0,.slice none 0 0] 26)∧Hid (W.heap.size=w.heap.size+2)∧Hid (Below w.heap.size w W)∧Hid (Blk W w.heap.size 26 [.slice A0 n.pieces.length c0,.slice A1 n.joints.length c1])∧Hid (Blk W (w.heap.size+1) 26 [.slice none 0 0,.slice none 0 0]):=by
  refine ⟨_,rfl,Lib.hid (by rw [size_alloc,size_alloc]),Lib.hid ((below_alloc _ _).alloc (by rw [size_alloc];omega) _),Lib.hid ((Blk.new w 26 [.slice A0 n.pieces.length c0,.slice A1 n.joints.length c1] rfl).alloc _),Lib.hid (Blk.new _ 26 [.slice none 0 0,.slice none 0 0] (by rw [size_alloc]))⟩
 rw [←hW1]
 clear hW1
 have HN1:=Lib.hid (h.out.below hb1.out)
 have n0:=HBh.out.cell 0 rfl
 have n1:=HBh.out.cell 1 rfl
 have hz0:w.heap.size < W1.heap.size:=HBh.out.lt
 go_wp2_with fail
 refine (spCopy n A0 A1 c0 c1 W1 HN1.out hs).mono ?_
 rintro e w2 ⟨B0,B1,e0,e1,qs,rfl,HP,HR,HQ,HO0,HO1,HB2⟩
 have HBh2:=Lib.hid (HBh.out.below HB2.out HBh.out.lt)
 have HBr2:=Lib.hid (HBr.out.below HB2.out HBr.out.lt)
 have HK2:Hid (Keep (fun b=>b=g) w w2):=Lib.hid (Keep.of_below (hb1.out.trans (HB2.out.mono hb1.out.size)))
 obtain ⟨H3,HR3,HOK⟩:Hid (SN w ((w2.setCell ⟨w.heap.size,0,none⟩ (.slice B0 n.pieces.length e0)).setCell ⟨w.heap.size,1,none⟩ (.slice B1 n.joints.length e1)) w.heap.size (w.heap.size+1) g k Bb n.pieces n.joints (.slice B0 n.pieces.length e0) (.slice B1 n.joints.length e1))∧Hid ((jointK 102).R 97 ((w2.setCell ⟨w.heap.size,0,none⟩ (.slice B0 n.pieces.length e0)).setCell ⟨w.heap.size,1,none⟩ (.slice B1 n.joints.length e1)) (.slice B1 n.joints.length e1) qs)∧Hid (∀z,z∈(qs.map Prod.snd).flatten→OkJ w.heap.size w.heap.size (.slice B0 n.pieces.length e0) (.slice B1 n.joints.length e1) z):=by
  obtain ⟨a1,a2,a3⟩:=SN.of_copy (h:=w.heap.size) (r:=w.heap.size+1) (g:=g) (k:=k) (Bb:=Bb) (We:=w) (W1:=W1) HBh2.out HBr2.out (by omega) (Nat.le_refl _) (by omega) hz0 HP.out HR.out HQ.out HO0.out HO1.out hgw hB (by omega) ((hc.out.below hb1.out).below HB2.out) HK2.out
  exact ⟨Lib.hid a1,Lib.hid a2,Lib.hid a3⟩
 have HCe2:Hid (Ce w2 g Bb Ac cc ic bs sd):=Lib.hid (hce.out.keep (Keep.of_below (S:=fun _=>False) (hb1.out.trans (HB2.out.mono hb1.out.size))) (fun e=>e) (fun _ _ e=>e))
 have HCe3:Hid (Ce ((w2.setCell ⟨w.heap.size,0,none⟩ (.slice B0 n.pieces.length e0)).setCell ⟨w.heap.size,1,none⟩ (.slice B1 n.joints.length e1)) g Bb Ac cc ic bs sd):=Lib.hid (HCe2.out.keep (S:=fun b=>b=w.heap.size) (((Keep.refl (fun b=>b=w.heap.size) w2).setCell (p:=⟨w.heap.size,0,none⟩) (fun _=>rfl) _).setCell (p:=⟨w.heap.size,1,none⟩) (fun _=>rfl) _) (by omega) (fun b hb e=>by omega))
 have u0:=HBh2.out.frozen 0
 have u1:=HBh2.out.frozen 1
 have u2:=HBh2.out.cell 0 rfl
 have u3:=HBh2.out.cell 1 rfl
 have hz2:w.heap.size < w2.heap.size:=HBh2.out.lt
 have HO1g:Hid (∀b,b∈Kn.foot (.slice B1 n.joints.length e1) qs→¬b=g):=Lib.hid (fun b hb e=>by have:=HO1.out b hb;omega)
 have HSM:=hs
 clear n0 n1 hz0 HBh HBr HN1 hc hs
 go_upto_region 2 with (fail)
 obtain ⟨W3,hW3⟩:∃W,W=(w2.setCell ⟨w.heap.size,0,none⟩ (.slice B0 n.pieces.length e0)).setCell ⟨w.heap.size,1,none⟩ (.slice B1 n.joints.length e1):=⟨_,rfl⟩
 rw [←hW3] at H3 HR3 HCe3
 rw [←hW3]
 clear hW3 u0 u1 u2 u3 hz2 HP HR HBh2 HBr2 HB2 HK2 HO0 HO1
 go_wp2_with fail
 refine (hpk.out _ HCe3).mono ?_
 rintro e w4 ⟨v',rfl,HV,HC4,HK4⟩
 obtain rfl:v'=v:=by have:=HV.out;omega
 have H4:=Lib.hid (H3.out.cursor HK4.out HC4.out)
 have HR4:=Lib.hid (Kn.R_move (fun b hb=>HK4.out.block b (Kn.R_lt HR3.out b hb) (HO1g.out b hb)) HR3.out)
 clear HV HC4 HK4 HCe2 HCe3 hce hpk
 go_upto_block 0 with (fail)
 go_cut [] (fun wc=>∃(ps:List Piece) (js:List Joint) (D0 D1:Option Addr) (x0 x1:Nat),Hid (Sm ⟨ps,js⟩)∧Hid (SN w wc w.heap.size (w.heap.size+1) g (k+400) Bb ps js (.slice D0 ps.length x0) (.slice D1 js.length x1)))
 case first =>
  have hS0:Hid (Sm ⟨n.pieces,n.joints⟩):=HSM
  obtain rfl:v'=0:=hvX
  obtain ⟨b0,rfl⟩:=Rw_addr H4.out.ns.p h0
  have s0:=H4.out.ns.f.cell 0 rfl
  have hzh:w.heap.size < w4.heap.size:=H4.out.ns.f.lt
  have hlc:=H4.out.ns.p.form
  have dl1:decide ((0:Int) < (n.pieces.length:Int))=true:=decide_eq_true (by omega)
  have dl2:decide (0 < n.pieces.length)=true:=decide_eq_true h0
  go_upto_region 9 with (fail)
  refine Rg.start 7 (fun w'=>w'.cell? ⟨w.heap.size,0,none⟩=some (.slice (some ⟨b0,0,none⟩) n.pieces.length e0)) 9 rfl (by kernel_rfl) ?_
  have hHeld:w4.drew.cell? ⟨w.heap.size,0,none⟩=some (.slice (some ⟨b0,0,none⟩) n.pieces.length e0):=s0
  refine Rg.p 0 hHeld (h:=?_)
  simp only [Act.put,List.setIfInBounds_toArray,List.set_cons_zero,List.set_cons_succ]
  refine Rg.h 1 hHeld (h:=?_)
  simp only [Act.put,List.setIfInBounds_toArray,List.set_cons_zero,List.set_cons_succ]
  refine Rg.p 2 hHeld (h:=?_)
  simp only [Act.put,List.setIfInBounds_toArray,List.set_cons_zero,List.set_cons_succ]
  refine Rg.p 3 hHeld (h:=?_)
  simp only [Act.put,List.setIfInBounds_toArray,List.set_cons_zero,List.set_cons_succ]
  refine Rg.h 4 hHeld (h:=?_)
  simp only [Act.put,List.setIfInBounds_toArray,List.set_cons_zero,List.set_cons_succ]
  refine Rg.p 5 hHeld (h:=?_)
  simp only [Act.put,List.setIfInBounds_toArray,List.set_cons_zero,List.set_cons_succ]
  refine Rg.one 6 rfl (by kernel_rfl) (fun K hK=>?_)
  refine step_call 33 rfl rfl ?_
  go_simp
  go_at_call 33
  (with_reducible refine (curPick n.pieces.length ((n.pieces.length:Int) - 1) g (k+2) Bb _ (Lib.hid (H4.out.below (Below.refl _ _).drew).ns.c) (by omega) (by omega) (by omega) (by omega)).mono ?_)
  rintro e w5 ⟨v5,rfl,HV5,HC5,HK5⟩
  obtain ⟨u,rfl,hu⟩:=pickup HV5.out.1 HV5.out.2
  have HK5:Hid (Keep (fun b=>b=g) w4 w5):=Lib.hid ((Keep.refl _ _).drew.trans HK5.out (fun _ _ e=>e))
  have H5:=Lib.hid (H4.out.cursor HK5.out HC5.out)
  have HR5:=Lib.hid (Kn.R_move (fun b hb=>HK5.out.block b (Kn.R_lt HR4.out b hb) (HO1g.out b hb)) HR4.out)
  refine hK.out _ _ (H5.out.ns.f.cell 0 rfl) ?_
  clear hK K hHeld HV5
  try simp only [Act.put,List.setIfInBounds_toArray,List.set_cons_zero,List.set_cons_succ]
  refine Rg.row [7,8] [_,_] rfl (by kernel_rfl) ?_
  have q0:(0:Int)≤(u:Int):=Int.natCast_nonneg _
  have q1:(u:Int) < (n.pieces.length:Int):=by omega
  clear s0 hzh H4 HR4 HC5 HK5
  go_wp2_with fail
  refine (curPick 4 3 g (k+2+2) Bb _ (Lib.hid H5.out.ns.c) (by omega) (by omega) (by omega) (by omega)).mono ?_
  rintro e w6 ⟨v6,rfl,HV6,HC6,HK6⟩
  have H6:=Lib.hid (H5.out.cursor HK6.out HC6.out)
  clear H5 HC6 HK6
  have hv6:v6=0∨v6=1∨v6=2∨v6=3:=by have:=HV6.out;omega
  clear HV6
  rcases hv6 with rfl | rfl | rfl | rfl
  ·
   obtain ⟨W7,hW7,hb7,HT7⟩:∃W,W=w6.alloc (.cells #[.int .i64 0,.int .i64 (-1),.int .i64 10000000,.int .i64 10000001] 3)∧Below w6.heap.size w6 W∧Hid (Blk W w6.heap.size 3 [.int .i64 0,.int .i64 (-1),.int .i64 10000000,.int .i64 10000001]):=⟨_,rfl,below_alloc _ _,Lib.hid (Blk.new _ _ _ rfl)⟩
   have H7:=Lib.hid (H6.out.below hb7)
   have htg:¬w6.heap.size=g:=by have:=H6.out.ns.c.lt;omega
   go_wp2_with fail
   rw [←hW7]
   clear hW7
   refine (curPick 4 3 g (k+2+2+2) Bb _ (Lib.hid H7.out.ns.c) (by omega) (by omega) (by omega) (by omega)).mono ?_
   rintro e w8 ⟨t8,rfl,HV8,HC8,HK8⟩
   obtain ⟨t,rfl,ht⟩:∃t:Nat,t8=t∧t < 4:=⟨t8.toNat,by have:=HV8.out;omega,by have:=HV8.out;omega⟩
   have H8:=Lib.hid (H7.out.cursor HK8.out HC8.out)
   have HT8:=Lib.hid (HT7.out.keep HK8.out htg)
   obtain ⟨z,hz⟩:=tab_int (zs:=[0,-1,10000000,10000001]) HT8.out (j:=t) (by simpa using ht)
   have t0:(0:Int)≤(t:Int):=Int.natCast_nonneg _
   have t1:(t:Int) < 4:=by omega
   obtain ⟨⟨y8,c8⟩,f8⟩:=Rw_cell (f:=1) H8.out.ns.p hu (by decide)
   have hsz:pieceK.sz=4:=rfl
   rw [hsz] at c8 f8
   have hzt:w6.heap.size < w8.heap.size:=HT8.out.lt
   have hzb:b0 < w8.heap.size:=World.block_lt_of_cell? _ _ c8
   obtain ⟨x,hx⟩:∃x,n.pieces[u]?=some x:=⟨_,List.getElem?_eq_getElem hu⟩
   have HFIN:=Lib.hid (H8.out.putP (j:=u) (f:=1) hx (by decide) (pieceK_put1 (z:=z)))
   have HSM:=Lib.hid (hS0.out.setP (j:=u) (y:={ x with len:=z }) ((show x.name.size≤40 from hS0.out.atP hx)))
   clear H6 H7 H8 HC8 HK8 HT7 HT8 HV8 hb7 hx
   go_wp2
   go_meet
   case rel=>exact ⟨_,n.joints,_,B1,e0,e1,HSM,Lib.hid (by rw [List.length_set];exact SN.later HFIN.out (by omega))⟩
  ·
   obtain ⟨W7,hW7,hb7,HT7⟩:∃W,W=w6.alloc (.cells #[.int .i64 0,.int .i64 10000,.int .i64 10001] 3)∧Below w6.heap.size w6 W∧Hid (Blk W w6.heap.size 3 [.int .i64 0,.int .i64 10000,.int .i64 10001]):=⟨_,rfl,below_alloc _ _,Lib.hid (Blk.new _ _ _ rfl)⟩
   have H7:=Lib.hid (H6.out.below hb7)
   have htg:¬w6.heap.size=g:=by have:=H6.out.ns.c.lt;omega
   go_wp2_with fail
   rw [←hW7]
   clear hW7
   refine (curPick 3 2 g (k+2+2+2) Bb _ (Lib.hid H7.out.ns.c) (by omega) (by omega) (by omega) (by omega)).mono ?_
   rintro e w8 ⟨t8,rfl,HV8,HC8,HK8⟩
   obtain ⟨t,rfl,ht⟩:∃t:Nat,t8=t∧t < 3:=⟨t8.toNat,by have:=HV8.out;omega,by have:=HV8.out;omega⟩
   have H8:=Lib.hid (H7.out.cursor HK8.out HC8.out)
   have HT8:=Lib.hid (HT7.out.keep HK8.out htg)
   obtain ⟨z,hz⟩:=tab_int (zs:=[0,10000,10001]) HT8.out (j:=t) (by simpa using ht)
   have t0:(0:Int)≤(t:Int):=Int.natCast_nonneg _
   have t1:(t:Int) < 3:=by omega
   obtain ⟨⟨y8,c8⟩,f8⟩:=Rw_cell (f:=2) H8.out.ns.p hu (by decide)
   have hsz:pieceK.sz=4:=rfl
   rw [hsz] at c8 f8
   have hzt:w6.heap.size < w8.heap.size:=HT8.out.lt
   have hzb:b0 < w8.heap.size:=World.block_lt_of_cell? _ _ c8
   obtain ⟨x,hx⟩:∃x,n.pieces[u]?=some x:=⟨_,List.getElem?_eq_getElem hu⟩
   have HFIN:=Lib.hid (H8.out.putP (j:=u) (f:=2) hx (by decide) (pieceK_put2 (z:=z)))
   have HSM:=Lib.hid (hS0.out.setP (j:=u) (y:={ x with speed:=z }) ((show x.name.size≤40 from hS0.out.atP hx)))
   clear H6 H7 H8 HC8 HK8 HT7 HT8 HV8 hb7 hx
   go_wp2
   go_meet
   case rel=>exact ⟨_,n.joints,_,B1,e0,e1,HSM,Lib.hid (by rw [List.length_set];exact SN.later HFIN.out (by omega))⟩
  ·
   obtain ⟨W7,hW7,hb7,HT7⟩:∃W,W=w6.alloc (.cells #[.int .i64 0,.int .i64 1000,.int .i64 1001] 3)∧Below w6.heap.size w6 W∧Hid (Blk W w6.heap.size 3 [.int .i64 0,.int .i64 1000,.int .i64 1001]):=⟨_,rfl,below_alloc _ _,Lib.hid (Blk.new _ _ _ rfl)⟩
   have H7:=Lib.hid (H6.out.below hb7)
   have htg:¬w6.heap.size=g:=by have:=H6.out.ns.c.lt;omega
   go_wp2_with fail
   rw [←hW7]
   clear hW7
   refine (curPick 3 2 g (k+2+2+2) Bb _ (Lib.hid H7.out.ns.c) (by omega) (by omega) (by omega) (by omega)).mono ?_
   rintro e w8 ⟨t8,rfl,HV8,HC8,HK8⟩
   obtain ⟨t,rfl,ht⟩:∃t:Nat,t8=t∧t < 3:=⟨t8.toNat,by have:=HV8.out;omega,by have:=HV8.out;omega⟩
   have H8:=Lib.hid (H7.out.cursor HK8.out HC8.out)
   have HT8:=Lib.hid (HT7.out.keep HK8.out htg)
   obtain ⟨z,hz⟩:=tab_int (zs:=[0,1000,1001]) HT8.out (j:=t) (by simpa using ht)
   have t0:(0:Int)≤(t:Int):=Int.natCast_nonneg _
   have t1:(t:Int) < 3:=by omega
   obtain ⟨⟨y8,c8⟩,f8⟩:=Rw_cell (f:=3) H8.out.ns.p hu (by decide)
   have hsz:pieceK.sz=4:=rfl
   rw [hsz] at c8 f8
   have hzt:w6.heap.size < w8.heap.size:=HT8.out.lt
   have hzb:b0 < w8.heap.size:=World.block_lt_of_cell? _ _ c8
   obtain ⟨x,hx⟩:∃x,n.pieces[u]?=some x:=⟨_,List.getElem?_eq_getElem hu⟩
   have HFIN:=Lib.hid (H8.out.putP (j:=u) (f:=3) hx (by decide) (pieceK_put3 (z:=z)))
   have HSM:=Lib.hid (hS0.out.setP (j:=u) (y:={ x with brake:=z }) ((show x.name.size≤40 from hS0.out.atP hx)))
   clear H6 H7 H8 HC8 HK8 HT7 HT8 HV8 hb7 hx
   go_wp2
   go_meet
   case rel=>exact ⟨_,n.joints,_,B1,e0,e1,HSM,Lib.hid (by rw [List.length_set];exact SN.later HFIN.out (by omega))⟩
  ·
   obtain ⟨W7,hW7,hb7,HT7⟩:∃W,W=w6.alloc (.cells #[.string ⟨#[]⟩,.string ⟨#[65]⟩,.string ⟨#[97,48]⟩,.string ⟨#[97,32,98]⟩,.string ⟨#[97,98,99,100,101,102,103,104,105,106,107,108,109,110,111,112,113,114,115,116]⟩,.string ⟨#[97,98,99,100,101,102,103,104,105,106,107,108,109,110,111,112,113,114,115,116,117]⟩] 9)∧Below w6.heap.size w6 W∧Hid (Blk W w6.heap.size 9 [.string ⟨#[]⟩,.string ⟨#[65]⟩,.string ⟨#[97,48]⟩,.string ⟨#[97,32,98]⟩,.string ⟨#[97,98,99,100,101,102,103,104,105,106,107,108,109,110,111,112,113,114,115,116]⟩,.string ⟨#[97,98,99,100,101,102,103,104,105,106,107,108,109,110,111,112,113,114,115,116,117]⟩]):=⟨_,rfl,below_alloc _ _,Lib.hid (Blk.new _ _ _ rfl)⟩
   have H7:=Lib.hid (H6.out.below hb7)
   have htg:¬w6.heap.size=g:=by have:=H6.out.ns.c.lt;omega
   go_wp2_with fail
   rw [←hW7]
   clear hW7
   refine (curPick 6 5 g (k+2+2+2) Bb _ (Lib.hid H7.out.ns.c) (by omega) (by omega) (by omega) (by omega)).mono ?_
   rintro e w8 ⟨t8,rfl,HV8,HC8,HK8⟩
   obtain ⟨t,rfl,ht⟩:∃t:Nat,t8=t∧t < 6:=⟨t8.toNat,by have:=HV8.out;omega,by have:=HV8.out;omega⟩
   have H8:=Lib.hid (H7.out.cursor HK8.out HC8.out)
   have HT8:=Lib.hid (HT7.out.keep HK8.out htg)
   obtain ⟨z,hz,hzs⟩:=tab_str (zs:=[⟨#[]⟩,⟨#[65]⟩,⟨#[97,48]⟩,⟨#[97,32,98]⟩,⟨#[97,98,99,100,101,102,103,104,105,106,107,108,109,110,111,112,113,114,115,116]⟩,⟨#[97,98,99,100,101,102,103,104,105,106,107,108,109,110,111,112,113,114,115,116,117]⟩]) HT8.out (by kernel_rfl) (j:=t) (by simpa using ht)
   have t0:(0:Int)≤(t:Int):=Int.natCast_nonneg _
   have t1:(t:Int) < 6:=by omega
   obtain ⟨⟨y8,c8⟩,f8⟩:=Rw_cell (f:=0) H8.out.ns.p hu (by decide)
   have hsz:pieceK.sz=4:=rfl
   rw [hsz,Nat.add_zero] at c8 f8
   have hzt:w6.heap.size < w8.heap.size:=HT8.out.lt
   have hzb:b0 < w8.heap.size:=World.block_lt_of_cell? _ _ c8
   obtain ⟨x,hx⟩:∃x,n.pieces[u]?=some x:=⟨_,List.getElem?_eq_getElem hu⟩
   have HFIN:=Lib.hid (H8.out.putP (j:=u) (f:=0) hx (by decide) (pieceK_put0 (s:=z)))
   have HSM:=Lib.hid (hS0.out.setP (j:=u) (y:={ x with name:=z }) (hzs))
   clear H6 H7 H8 HC8 HK8 HT7 HT8 HV8 hb7 hx
   go_wp2
   go_meet
   case rel=>exact ⟨_,n.joints,_,B1,e0,e1,HSM,Lib.hid (by rw [List.length_set];exact SN.later HFIN.out (by omega))⟩
 obtain ⟨ps,js,D0,D1,x0,x1,HS,HSN⟩:=hcut
 have s0:=HSN.out.ns.f.cell 0 rfl
 have s1:=HSN.out.ns.f.cell 1 rfl
 have hzh:w.heap.size < wc.heap.size:=HSN.out.ns.f.lt
 have r0:=HSN.out.rk.frozen 0
 have r1:=HSN.out.rk.frozen 1
 have rc0:=HSN.out.rk.cell 0 rfl
 have rc1:=HSN.out.rk.cell 1 rfl
 have hzr:w.heap.size+1 < wc.heap.size:=HSN.out.rk.lt
 have HF:=Lib.hid (HSN.out.ret HS.out)
 go_wp2
 exact bodyPost_ret (v:=.agg #[.slice D0 ps.length x0,.slice D1 js.length x1]) (by simp [results,Try.results83,go_sem,hzr,r0,r1,rc0,rc1]) rfl HF.out
end Go.Proofs.Ytjccgneimknbpaa.L
