/- A drawn track with signals and a length behind them. -/
import Derived.Test.YtjccgneimknbpaaXe
set_option linter.unusedVariables false
set_option linter.unusedSimpArgs false
namespace Go.Proofs.Ytjccgneimknbpaa.L
open Go.RowKit
theorem endRw_set {e:Nat} {w w1:World} {g n cap i:Nat} {xs:List End} {x:End} {inner:List Value} (hn:n=xs.length) (ho:w.ownsRow 0 e 2 (.slice (some ⟨g,0,none⟩) n cap) xs.length inner)
  (hi:∀j x,xs[j]?=some x→endK.K w nobody x ((inner.drop (j*2)).take 2)) (hlt:i < xs.length) (ho1:w1.ownsRow 0 e 2 (.slice (some ⟨g,0,none⟩) n cap) n (setAll inner (i*2) x.cs)) :
  endK.Rw e w1 nobody (.slice (some ⟨g,0,none⟩) n cap) (xs.set i x):=by
 subst hn
 refine ⟨_,by rw [List.length_set];exact ho1,fun j y hj=>?_⟩
 have hil:=ho.1
 have hend:endK.sz=2:=rfl
 rw [hend]
 by_cases e:j=i
 ·subst e
  rw [List.getElem?_set_self hlt] at hj
  obtain rfl:=Option.some.inj hj
  have hm:j*2+2≤inner.length:=by rw [hil];omega
  have:=setAll_chunk (cs:=x.cs) (xs:=inner) (sz:=2) (k:=j) rfl hm
  rw [this]
  exact endK_mk _ _ x
 ·rw [List.getElem?_set_ne (fun q=>e q.symm)] at hj
  rw [setAll_other (cs:=x.cs) (sz:=2) rfl e]
  exact endK_open (hi j y hj)▸endK_mk _ _ y
theorem add_add3 (a:Addr) (m k:Nat):(a.add m).add k=a.add (m+k):=by
 unfold Addr.add
 by_cases hm:m=0
 ·subst hm
  simp
 ·by_cases hk:k=0
  ·subst hk
   simp [hm]
  ·simp [hm,hk,Nat.add_assoc]
theorem C_drop {α:Type} {d:Kn α} {w:World} {ok:Nat→Prop} {A:Addr} {xs:List α} (k:Nat) (hk:k≤xs.length) (h:d.C w ok (some A) xs):d.C w ok (some (A.add (k*d.sz))) (xs.drop k):=by
 refine ⟨by rw [List.length_drop];have:=h.1;omega,fun h0=>?_⟩
 rw [List.length_drop] at h0
 obtain ⟨ad,e,ho,hl,hx⟩:=h.2 (by omega)
 obtain rfl:=Option.some.inj e
 refine ⟨_,rfl,by rw [add_block];exact ho,by rw [add_block];exact hl,fun j x hj=>?_⟩
 rw [List.getElem?_drop] at hj
 obtain ⟨c,hk',hc⟩:=hx _ x hj
 refine ⟨c,hk',fun i u hu=>?_⟩
 rw [add_add3,show k*d.sz+(j*d.sz+i)=(k+j)*d.sz+i by rw [Nat.add_mul];omega]
 exact hc i u hu
def lenV:Value→Nat
 | .slice _ n _=>n
 | _=>0
theorem take_succ_get {α:Type} {xs:List α} {x:Nat} {y:α} (h:xs[x]?=some y):xs.take (x+1)=xs.take x++[y]:=by
 rw [List.take_add_one,h]
 rfl
theorem below_grown' {B:Nat} {w w1 w2:World} {r:Option Nat} (hb:Below B w w1) (hg:w1.grownBy w2 r) (hr:∀b,some b=r→B≤b) (hs:B≤w1.heap.size):Below B w w2 :=
 hb.grown hg hs (fun k hk=>hr k hk.symm)
section
variable {We w w' wa w2:World} {h g k m Bb:Nat} {ps:List Piece} {js:List Joint} {v0 v1 v' v4:Value} {es:List End}
structure EW (We w:World) (v4:Value) (es:List End):Prop where
 r:endK.Rw 102 w nobody v4 es
 o:∀b,v4.ownBlock=some b→We.heap.size≤b
theorem EW.below (E:EW We w v4 es) (hb:Below w.heap.size w w'):EW We w' v4 es:=⟨E.r.below hb,E.o⟩
theorem EW.cursor (E:EW We w v4 es) (H:NS We w h g k Bb ps js v0 v1) (hk:Keep (fun b=>b=g) w w'):EW We w' v4 es :=
 ⟨E.r.grownK hk (fun b hb e=>by have:=E.o b hb;have:=H.gB;omega) (fun _ e=>e.elim),E.o⟩
theorem EW.sideP (E:EW We w v4 es) (H:NS We w h g k Bb ps js v0 v1) (hK:Keep (fun b=>b=g∨b=h∨v0.ownBlock=some b) w w'):EW We w' v4 es :=
 ⟨E.r.grownK hK (fun b hb e=>by
  rcases e with e | e | e
  ·have:=E.o b hb;have:=H.gB;omega
  ·exact own_not E.r H.f (by decide) (e▸hb)
  ·exact own_apart E.r H.p (by decide) hb e) (fun _ e=>e.elim),E.o⟩
theorem NS.otherE (H:NS We w h g k Bb ps [] v0 (.slice none 0 0)) (E:EW We w v4 es) (hb:Below w.heap.size w wa) (hg:wa.grownBy w2 v4.ownBlock):NS We w2 h g k Bb ps [] v0 (.slice none 0 0):=by
 have hK:Keep (fun b=>v4.ownBlock=some b) w w2:=(Keep.of_below hb).grown hg (fun k hk _=>hk)
 have hgB:=H.gB
 have hbB:=H.bB
 refine ⟨H.f.keep hK (fun e=>own_not E.r H.f (by decide) e),H.p.grownK hK (fun b hb e=>own_apart H.p E.r (by decide) hb e) (fun _ e=>e.elim),Kn.Rw.nil,H.hB,H.o0,H.o1,H.gB,H.bB,H.c.keep hK (fun e=>?_) (fun b hb' _ e=>?_),H.K.trans hK (fun x hx e=>?_)⟩
 ·have:=E.o g e;omega
 ·have:=E.o b e;omega
 ·have:=E.o x e;omega
theorem NS.restJ {A:Option Addr} {s:Nat} (H:NS We w h g k Bb ps js v0 v1) (hC:endK.C w (OkJ We.heap.size h v0 v1) A es) (hK:Keep (fun b=>b=h∨v1.ownBlock=some b) w w') (hat:v'.ownBlock=v1.ownBlock∨v'.ownBlock=some s) (hs:w.heap.size≤s) :
  endK.C w' (OkJ We.heap.size h v0 v') A es:=by
 refine Kn.C_mono (fun b hb=>?_) (Kn.C_move (fun b hb=>hK.block b hb.2 (fun e=>?_)) (Kn.C_bound hC))
 ·obtain ⟨⟨a1,a2,a3,a4⟩,a5⟩:=hb
  refine ⟨a1,a2,a3,fun e=>?_⟩
  rcases hat with hat | hat
  ·exact a4 (hat▸e)
  ·rw [hat] at e
   have:=Option.some.inj e
   omega
 ·rcases e with e | e
  ·exact hb.1.2.1 e
  ·exact hb.1.2.2.2 e
theorem EW.okJ (E:EW We w v4 es) (H:NS We w h g k Bb ps js v0 v1) {b:Nat} (hb:v4.ownBlock=some b):OkJ We.heap.size h v0 v1 b :=
 ⟨E.o b hb,fun e=>own_not E.r H.f (by decide) (e▸hb),fun e=>own_apart E.r H.p (by decide) hb e,fun e=>own_apart E.r H.j (by decide) hb e⟩
end
set_option maxRecDepth 100000 in
set_option maxHeartbeats 8000000 in
theorem drNet (w:World) (g k Bb:Nat) (hc:Hid (Cb w g k Bb)) (hB:Bb≤w.heap.size) (hk:k≤1125899906841000):Calls Try.prog 58 #[.pointer (some ⟨g,0,none⟩)] w (RetDr g (k+200) Bb w):=by
 have hgw:g < w.heap.size:=hc.out.lt
 obtain ⟨iJ,hiJ,hzJ,hyJ,hxJ⟩:=info_parts dinfo97
 obtain ⟨iP,hiP,hzP,hyP,hxP⟩:=info_parts dinfo64
 obtain ⟨iE,hiE,hzE,hyE,hxE⟩:=info_parts dinfo102
 go_enter Try.func58,Try.ntmps58
 go_upto_region 3 with (fail)
 obtain ⟨We,hWe,hWs,hbe,HRe⟩:∃W,Hid (W=w.alloc (.cells #[.slice none 0 0,.slice none 0 0] 26))∧W.heap.size=w.heap.size+1∧Hid (Below w.heap.size w W)∧Hid (Blk W w.heap.size 26 [.slice none 0 0,.slice none 0 0]):=⟨_,Lib.hid rfl,size_alloc _ _,Lib.hid (below_alloc _ _),Lib.hid (Blk.new _ _ _ rfl)⟩
 obtain ⟨W1,hW1,H1⟩:∃W,W=(w.alloc (.cells #[.slice none 0 0,.slice none 0 0] 26)).alloc (.cells #[.slice none 0 0,.slice none 0 0] 26)∧Hid (NS We W (w.heap.size+1) g k Bb [] [] (.slice none 0 0) (.slice none 0 0)):=by
  rw [←hWe.out]
  have hb:Below We.heap.size We (We.alloc (.cells #[.slice none 0 0,.slice none 0 0] 26)):=below_alloc _ _
  exact ⟨_,rfl,Lib.hid ⟨Blk.new _ _ _ hWs.symm,Kn.Rw.nil,Kn.Rw.nil,by omega,by simp [Value.ownBlock],by simp [Value.ownBlock],by omega,by omega,(hc.out.below hbe.out).below hb,Keep.of_below hb⟩⟩
 rw [←hW1]
 clear hW1
 have hrg:¬w.heap.size=g:=by omega
 go_wp2_with fail
 refine (curPick 9 8 g k Bb _ (Lib.hid H1.out.c) (by omega) (by omega) (by omega) (by omega)).mono ?_
 rintro e w3 ⟨v3,rfl,HV3,HC3,HK3⟩
 have v3a:=HV3.out.1
 have v3b:=HV3.out.2
 have H3:=Lib.hid (H1.out.cursor HK3.out HC3.out)
 clear H1 HC3 HK3 HV3
 obtain ⟨kk,hkk,hkk1,hkv⟩:∃kk:Nat,Hid ((1:Int)+v3=kk)∧1≤kk∧kk≤9:=⟨(1+v3).toNat,Lib.hid (by omega),by omega⟩
 go_wp2
 rw [hkk.out]
 clear v3a v3b
 go_loopw [4,5] (fun ev iv wr=>∃(n m:Nat) (ps:List Piece) (es:List End) (v0 v4:Value),n≤kk∧v4=ev∧iv=.int .i64 n∧m≤k+2+8*n∧Hid (Dn n ps [] es)∧Hid (NS We wr (w.heap.size+1) g m Bb ps [] v0 (.slice none 0 0))∧Hid (EW We wr v4 es)) (fun _ iv _=>kk - (intOf iv).toNat)
 case atStart=>exact ⟨0,k+2,[],[],_,.slice none 0 0,by omega,rfl,rfl,by omega,Lib.hid Dn.nil,H3,Lib.hid ⟨Kn.Rw.nil,by simp [Value.ownBlock]⟩⟩
 case round =>
 clear H3
 obtain ⟨n,m,ps,es,v0,v4,hnk,rfl,rfl,hm,HD,H,HE⟩:=hrel
 have hpl:ps.length=n:=HD.out.len
 have HPL:=Lib.hid hpl
 have hel:es.length≤18:=by have:=HD.out.jlen;omega
 have hpl9:ps.length≤9:=by omega
 clear hpl
 by_cases hlt:n < kk
 ·have d0:decide ((n:Int) < (kk:Int))=true:=decide_eq_true (by omega)
  go_upto_region 6 with (fail)
  go_cut [] (fun wc=>∃x v0',Hid (PcOk n x)∧Hid (NS We wc (w.heap.size+1) g (m+2+2+2) Bb (ps++[x]) [] v0' (.slice none 0 0))∧Hid (Keep (fun b=>b=g∨b=w.heap.size+1∨v0.ownBlock=some b) wr wc))
  case first =>
   obtain ⟨A0,c0,rfl,hc0,_⟩:=H.out.p.form
   have s0:=H.out.f.cell 0 rfl
   have hhz:w.heap.size+1 < wr.heap.size:=H.out.f.lt
   have hgh:¬w.heap.size+1=g:=by omega
   have m63:ps.length+1≤maxLen:=by simp only [maxLen];omega
   have mby:(ps.length+1)*40≤140737488355328:=by omega
   refine Rg.start 16 (fun w'=>w'.cell? ⟨w.heap.size+1,0,none⟩=some (.slice A0 ps.length c0)) 19 rfl (by kernel_rfl) ?_
   have hHeld:wr.drew.cell? ⟨w.heap.size+1,0,none⟩=some (.slice A0 ps.length c0):=s0
   refine Rg.pure 0 (v:=?v1) rfl (by kernel_rfl) (fun _ _ _ h=>h) (by rfl) hHeld ?y1 ?h1
   case y1=>(intro wA;go_simp;first | done | with_reducible rfl)
   simp only [Act.put,List.setIfInBounds_toArray,List.set_cons_zero,List.set_cons_succ]
   refine Rg.held 1 (v:=?v2) rfl (by kernel_rfl) (fun _ _ _ h=>h) (by rfl) hHeld ?y2 ?h2
   case y2=>(intro wA hSw;(try dsimp only at hSw);go_simp;first | done | with_reducible rfl)
   simp only [Act.put,List.setIfInBounds_toArray,List.set_cons_zero,List.set_cons_succ]
   refine Rg.pure 2 (v:=?v3) rfl (by kernel_rfl) (fun _ _ _ h=>h) (by rfl) hHeld ?y3 ?h3
   case y3=>(intro wA;go_simp;first | done | with_reducible rfl)
   simp only [Act.put,List.setIfInBounds_toArray,List.set_cons_zero,List.set_cons_succ]
   refine Rg.pure 3 (v:=?v4) rfl (by kernel_rfl) (fun _ _ _ h=>h) (by rfl) hHeld ?y4 ?h4
   case y4=>(intro wA;go_simp;first | done | with_reducible rfl)
   simp only [Act.put,List.setIfInBounds_toArray,List.set_cons_zero,List.set_cons_succ]
   refine Rg.pure 5 (v:=?v5) rfl (by kernel_rfl) (fun _ _ _ h=>h) (by rfl) hHeld ?y5 ?h5
   case y5=>(intro wA;go_simp;first | done | with_reducible rfl)
   simp only [Act.put,List.setIfInBounds_toArray,List.set_cons_zero,List.set_cons_succ]
   refine Rg.pure 8 (v:=?v6) rfl (by kernel_rfl) (fun _ _ _ h=>h) (by rfl) hHeld ?y6 ?h6
   case y6=>(intro wA;go_simp;first | done | with_reducible rfl)
   simp only [Act.put,List.setIfInBounds_toArray,List.set_cons_zero,List.set_cons_succ]
   refine Rg.pure 11 (v:=?v7) rfl (by kernel_rfl) (fun _ _ _ h=>h) (by rfl) hHeld ?y7 ?h7
   case y7=>(intro wA;go_simp;first | done | with_reducible rfl)
   simp only [Act.put,List.setIfInBounds_toArray,List.set_cons_zero,List.set_cons_succ]
   refine Rg.one 4 rfl (by kernel_rfl) (fun K hK=>?_)
   refine step_call 59 rfl rfl ?_
   go_simp
   go_at_call 59
   (with_reducible refine (curName n g _ (by omega)).mono ?_)
   rintro e w1 ⟨rfl,hb1⟩
   have hb1:Below wr.heap.size wr w1:=Below.trans (Below.refl _ _).drew hb1
   have H1:=Lib.hid (H.out.below hb1)
   have hHeld:w1.cell? ⟨w.heap.size+1,0,none⟩=some (.slice A0 ps.length c0):=H1.out.f.cell 0 rfl
   refine hK.out _ _ hHeld ?_
   clear hK K
   try simp only [Act.put,List.setIfInBounds_toArray,List.set_cons_zero,List.set_cons_succ]
   refine Rg.one 6 rfl (by kernel_rfl) (fun K hK=>?_)
   refine step_call 32 rfl rfl ?_
   go_simp
   go_at_call 32
   (with_reducible refine (curWide 300 299 g m Bb _ (Lib.hid H1.out.c) (by omega) (by omega) (by omega)).mono ?_)
   rintro e w2 ⟨a1,rfl,HV1,HC1,HK1⟩
   have a1a:=HV1.out.1
   have a1b:=HV1.out.2
   have H2:=Lib.hid (H1.out.cursor HK1.out HC1.out)
   have hHeld:w2.cell? ⟨w.heap.size+1,0,none⟩=some (.slice A0 ps.length c0):=H2.out.f.cell 0 rfl
   refine hK.out _ _ hHeld ?_
   clear hK K
   try simp only [Act.put,List.setIfInBounds_toArray,List.set_cons_zero,List.set_cons_succ]
   refine Rg.pure 7 (v:=?v8) rfl (by kernel_rfl) (fun _ _ _ h=>h) (by rfl) hHeld ?y8 ?h8
   case y8=>(intro wA;go_simp;first | done | with_reducible rfl)
   simp only [Act.put,List.setIfInBounds_toArray,List.set_cons_zero,List.set_cons_succ]
   have wa1:IntKind.i64.wrap (1+a1)=1+a1:=by rw [IntKind.wrap_i64];omega
   try simp only [wa1]
   refine Rg.one 9 rfl (by kernel_rfl) (fun K hK=>?_)
   refine step_call 33 rfl rfl ?_
   go_simp
   go_at_call 33
   (with_reducible refine (curPick 200 199 g (m+2) Bb _ (Lib.hid H2.out.c) (by omega) (by omega) (by omega) (by omega)).mono ?_)
   rintro e w3 ⟨a2,rfl,HV2,HC2,HK2⟩
   have a2a:=HV2.out.1
   have a2b:=HV2.out.2
   have H3:=Lib.hid (H2.out.cursor HK2.out HC2.out)
   have hHeld:w3.cell? ⟨w.heap.size+1,0,none⟩=some (.slice A0 ps.length c0):=H3.out.f.cell 0 rfl
   refine hK.out _ _ hHeld ?_
   clear hK K
   try simp only [Act.put,List.setIfInBounds_toArray,List.set_cons_zero,List.set_cons_succ]
   refine Rg.pure 10 (v:=?v9) rfl (by kernel_rfl) (fun _ _ _ h=>h) (by rfl) hHeld ?y9 ?h9
   case y9=>(intro wA;go_simp;first | done | with_reducible rfl)
   simp only [Act.put,List.setIfInBounds_toArray,List.set_cons_zero,List.set_cons_succ]
   have wa2:IntKind.i64.wrap (1+a2)=1+a2:=by rw [IntKind.wrap_i64];omega
   try simp only [wa2]
   refine Rg.one 12 rfl (by kernel_rfl) (fun K hK=>?_)
   refine step_call 33 rfl rfl ?_
   go_simp
   go_at_call 33
   (with_reducible refine (curPick 90 89 g (m+2+2) Bb _ (Lib.hid H3.out.c) (by omega) (by omega) (by omega) (by omega)).mono ?_)
   rintro e w4 ⟨a3,rfl,HV3,HC3,HK3⟩
   have a3a:=HV3.out.1
   have a3b:=HV3.out.2
   have H4:=Lib.hid (H3.out.cursor HK3.out HC3.out)
   have hHeld:w4.cell? ⟨w.heap.size+1,0,none⟩=some (.slice A0 ps.length c0):=H4.out.f.cell 0 rfl
   refine hK.out _ _ hHeld ?_
   clear hK K
   try simp only [Act.put,List.setIfInBounds_toArray,List.set_cons_zero,List.set_cons_succ]
   have wa3:IntKind.i64.wrap (1+a3)=1+a3:=by rw [IntKind.wrap_i64];omega
   refine Rg.pure 13 (v:=?v10) rfl (by kernel_rfl) (fun _ _ _ h=>h) (by rfl) hHeld ?y10 ?h10
   case y10=>(intro wA;go_simp;first | done | with_reducible rfl)
   simp only [Act.put,List.setIfInBounds_toArray,List.set_cons_zero,List.set_cons_succ]
   refine Rg.pure 14 (v:=?v11) rfl (by kernel_rfl) (fun _ _ _ h=>h) (by rfl) hHeld ?y11 ?h11
   case y11=>(intro wA;go_simp;first | done | with_reducible rfl)
   simp only [Act.put,List.setIfInBounds_toArray,List.set_cons_zero,List.set_cons_succ]
   try simp only [wa3]
   refine Rg.one 15 rfl (by kernel_rfl) (fun K hK=>?_)
   go_simp
   have hba:Below w4.heap.size w4 (w4.alloc (.cells #[.string (nameF n),.int .i64 (1+a1),.int .i64 (1+a2),.int .i64 (1+a3)] 64)):=below_alloc _ _
   refine hK.out _ _ (cell_below hba hHeld) ?_
   clear hK K
   try simp only [Act.put,List.setIfInBounds_toArray,List.set_cons_zero,List.set_cons_succ]
   refine Rg.row [16,17,18] [_,_,_] rfl (by kernel_rfl) ?_
   have HX:Hid (PcOk n ⟨nameF n,1+a1,1+a2,1+a3⟩):=Lib.hid (by refine ⟨rfl,?_⟩;simp only;omega)
   have SRC:Hid (Kn.Src pieceK (w4.alloc (.cells #[.string (nameF n),.int .i64 (1+a1),.int .i64 (1+a2),.int .i64 (1+a3)] 64)) nobody (some ⟨w4.heap.size,0,none⟩) [⟨nameF n,1+a1,1+a2,1+a3⟩]):=Lib.hid (Kn.Src.one (pieceK_mk _ _ ⟨nameF n,1+a1,1+a2,1+a3⟩) (new_cells _ _ _ rfl))
   have hKK:Hid (Keep (fun b=>b=g∨b=w.heap.size+1∨(Value.slice A0 ps.length c0).ownBlock=some b) wr w4):=Lib.hid ((((Keep.of_below (S:=fun b=>b=g∨b=w.heap.size+1∨(Value.slice A0 ps.length c0).ownBlock=some b) hb1).trans HK1.out (fun _ _ e=>.inl e)).trans HK2.out (fun _ _ e=>.inl e)).trans HK3.out (fun _ _ e=>.inl e))
   clear hHeld s0
   go_wp2_with (at_builtin;refine wpList_append_rw _ rfl (.tmp 23) (.tmp 37) 23 rfl 64 iP _ 40 Try.underlying23 hiP hzP hyP hxP rfl (by decide) (.slice A0 ps.length c0) ps [⟨nameF n,1+a1,1+a2,1+a3⟩] rfl (H4.out.p.below hba) (fun _ h=>h.elim) (some ⟨w4.heap.size,0,none⟩) 1 1 rfl rfl SRC.out m63 mby ?_;intro v' w5 HR hg hat;obtain ⟨A9,c9,rfl,hc9⟩:=HR.form1;have hA:=H4.out.addP hba HR hg hat;have hBf:Blk w5 (w.heap.size+1) 26 [.slice A0 ps.length c0,.slice none 0 0]:=(hg.block _ (by have:=H4.out.f.lt;rw [size_alloc];omega) (fun e=>own_not H4.out.p H4.out.f (by decide) e.symm)).trans (H4.out.f.below hba H4.out.f.lt);have u0:=hBf.frozen 0;have hz3:w.heap.size+1 < w5.heap.size:=hBf.lt;have u1:=hBf.cell 0 rfl)
   go_meet
   case rel=>exact ⟨_,_,HX,Lib.hid hA.1,Lib.hid (hKK.out.trans hA.2 (fun _ _ e=>e.elim (fun e=>.inr (.inl e)) (fun e=>.inr (.inr e))))⟩
  obtain ⟨x,v0b,HX,Hb,HKb⟩:=hcut
  have HEb:=Lib.hid (HE.out.sideP H.out HKb.out)
  clear H HE HKb
  obtain ⟨A4,c4,rfl,hc4,_⟩:=HEb.out.r.form
  have hba:Below wc.heap.size wc (wc.alloc (.cells #[.int .i64 n,.int .i64 0,.int .i64 n,.int .i64 1] 102)):=below_alloc _ _
  have SRC:Hid (Kn.Src endK (wc.alloc (.cells #[.int .i64 n,.int .i64 0,.int .i64 n,.int .i64 1] 102)) nobody (some ⟨wc.heap.size,0,none⟩) [⟨n,0⟩,⟨n,1⟩]):=Lib.hid (Kn.Src.flat (fun _ _ _ _ _ h=>h) (endsC [⟨n,0⟩,⟨n,1⟩] (by rfl) (Blk.new wc 102 [.int .i64 n,.int .i64 0,.int .i64 n,.int .i64 1] rfl)))
  have m63:es.length+2≤maxLen:=by simp only [maxLen];omega
  have mby:(es.length+2)*16≤140737488355328:=by omega
  go_wp2_with (at_builtin;refine wpList_append_rw _ rfl (.tmp 40) (.tmp 45) 82 rfl 102 iE _ 16 Try.underlying82 hiE hzE hyE hxE rfl (by decide) (.slice A4 es.length c4) es [⟨n,0⟩,⟨n,1⟩] rfl (HEb.out.r.below hba) (fun _ h=>h.elim) (some ⟨wc.heap.size,0,none⟩) 2 2 rfl rfl SRC.out m63 mby ?_;intro v' w5 HR hg hat)
  have HN:=Lib.hid (Hb.out.otherE HEb.out hba hg)
  have HE5:Hid (EW We w5 v' (es++[⟨n,0⟩,⟨n,1⟩])):=Lib.hid ⟨HR,own_next HEb.out.o hat (Nat.le_trans Hb.out.size hba.size)⟩
  have HDN:=Lib.hid (HD.out.piece HX.out)
  clear Hb HEb HR hg hat
  go_roundw
  case rel=>exact ⟨n+1,m+2+2+2,ps++[x],_,v0b,v',by omega,rfl,by go_num,by omega,HDN,HN,HE5⟩
  case measure=>simp [intOf];omega
 obtain rfl:n=kk:=by omega
 have d0:decide ((n:Int) < (n:Int))=false:=decide_eq_false (by omega)
 clear d0 hlt hel hnk
 have HEL:Hid (es.length=2*n):=Lib.hid (by have:=HD.out.t;simp only [tot_nil] at this;omega)
 have hel1:2≤es.length:=by have:=HEL.out;omega
 have hel2:es.length≤18:=by have:=HEL.out;omega
 obtain ⟨gE,c4,rfl⟩:∃gE c4,v4=.slice (some ⟨gE,0,none⟩) es.length c4:=by
  obtain ⟨inner,ho,_⟩:=HE.out.r
  rcases ho.2 with ⟨_,h0⟩ | ⟨b,cap,cur,he,_⟩
  ·omega
  ·exact ⟨b,cap,he⟩
 go_upto_region 8 with (fail)
 have dnn:decide ((n:Int) < (n:Int))=false:=decide_eq_false (by omega)
 go_wp2
 go_loopw [7] (fun iv wr=>∃(i m:Nat) (es':List End),i < es.length∧iv=.int .i64 i∧m+4*i≤k+2+72+72∧Hid (es'.length=es.length)∧Hid (Dn n ps [] es')∧Hid (NS We wr (w.heap.size+1) g m Bb ps [] v0 (.slice none 0 0))∧Hid (EW We wr (.slice (some ⟨gE,0,none⟩) es.length c4) es')) (fun iv _=>(intOf iv).toNat)
 case atStart=>exact ⟨es.length - 1,m,es,by omega,by go_num,by omega,Lib.hid rfl,HD,H,HE⟩
 case round =>
 clear HD H HE hm
 obtain ⟨i,m,es',hi,rfl,hm,HL,HD,H,HE⟩:=hrel
 by_cases hip:0 < i
 ·have d0:decide ((0:Int) < (i:Int))=true:=decide_eq_true (by omega)
  go_wp2_with fail
  refine (curPick (i+1) i g m Bb _ (Lib.hid H.out.c) (by omega) (by omega) (by omega) (by omega)).mono ?_
  rintro e w1 ⟨a,rfl,HV1,HC1,HK1⟩
  have a0:=HV1.out.1
  have a1:=HV1.out.2
  have H1:=Lib.hid (H.out.cursor HK1.out HC1.out)
  have HE1:=Lib.hid (HE.out.cursor H.out HK1.out)
  clear H HE HV1 HC1 HK1
  go_wp2_with fail
  refine (curPick 3 2 g (m+2) Bb _ (Lib.hid H1.out.c) (by omega) (by omega) (by omega) (by omega)).mono ?_
  rintro e w2 ⟨b,rfl,HV2,HC2,HK2⟩
  have b0:=HV2.out.1
  have b1:=HV2.out.2
  have H2:=Lib.hid (H1.out.cursor HK2.out HC2.out)
  have HE2:=Lib.hid (HE1.out.cursor H1.out HK2.out)
  clear H1 HE1 HV2 HC2 HK2
  have dq:((1:Int)+b == 0)=false:=by simp;omega
  have dq2:¬(1:Int)+b=0:=by omega
  obtain ⟨q,hq,q0,q1⟩:∃q:Int,a / (1+b)=q∧0≤q∧q≤i:=by
   refine ⟨_,rfl,Int.ediv_nonneg a0 (by omega),?_⟩
   exact Int.le_trans (Int.ediv_le_self _ a0) a1
  go_upto_region 12 with (fail)
  obtain ⟨kq,hkq,hkl⟩:∃kq:Nat,(i:Int) - q=kq∧kq≤i:=⟨((i:Int) - q).toNat,by omega,by omega⟩
  rw [hkq]
  clear hkq hq q0 q1 a0 a1 b0 b1 dq dq2
  have HLL:=Lib.hid HL.out
  have hl2:(i:Int) < (es.length:Int):=by omega
  have hl3:(kq:Int) < (es.length:Int):=by omega
  have hl0:(0:Int)≤(i:Int):=by omega
  have hl1:(0:Int)≤(kq:Int):=by omega
  have hCe:=(Rw_slice HE2.out.r).2.2
  obtain ⟨ad,hade,x0,x1,EX,cx0,cx1⟩:=endK_at hCe i (by have:=HLL.out;omega)
  obtain ⟨ad2,hade2,y0,y1,EY,cy0,cy1⟩:=endK_at hCe kq (by have:=HLL.out;omega)
  obtain rfl:=Option.some.inj hade
  obtain rfl:=Option.some.inj hade2
  clear hade hade2 hCe
  rw [add_zero] at cx0 cx1 cy0 cy1
  have gE2:gE < w2.heap.size:=HE2.out.r.lt gE rfl
  go_upto_region 14 with (fail)
  obtain ⟨W4,hW4,hb4,BX,BY⟩:∃W,W=(w2.alloc (.cells #[.int .i64 x0,.int .i64 x1] 102)).alloc (.cells #[.int .i64 y0,.int .i64 y1] 102)∧Below w2.heap.size w2 W∧Hid (Blk W w2.heap.size 102 [.int .i64 x0,.int .i64 x1])∧Hid (Blk W (w2.heap.size+1) 102 [.int .i64 y0,.int .i64 y1]) :=
   ⟨_,rfl,(below_alloc _ _).alloc (by rw [size_alloc];omega) _,Lib.hid ((Blk.new w2 102 [.int .i64 x0,.int .i64 x1] rfl).alloc _),Lib.hid (Blk.new _ _ _ (by rw [size_alloc]))⟩
  rw [←hW4]
  clear hW4 cx0 cx1 cy0 cy1
  have H4:=Lib.hid (H2.out.below hb4)
  have HE4:=Lib.hid (HE2.out.below hb4)
  clear H2 HE2
  obtain ⟨inner,ho,hin⟩:=HE4.out.r
  have HIN:=Lib.hid hin
  have HOW:=Lib.hid ho
  rw [HLL.out] at ho
  have ho:W4.ownsRow 0 102 2 (.slice (some ⟨gE,0,none⟩) es.length c4) es.length inner:=ho
  have z0:=BY.out.cell 0 rfl
  have z1:=BY.out.cell 1 rfl
  clear hin
  go_upto_region 15 with (refine wpList_store_own rfl _ _ _ rfl [.int .i64 y0,.int .i64 y1] ho rfl rfl ?_ (size_of_info dinfo102) rfl ?_;(simp;omega);intro w5 ho5 hg5)
  have H5:=Lib.hid (H4.out.otherE HE4.out (Below.refl _ _) hg5)
  have HE5:Hid (EW We w5 (.slice (some ⟨gE,0,none⟩) es.length c4) (es'.set i ⟨y0,y1⟩)):=Lib.hid ⟨endRw_set HLL.out.symm HOW.out HIN.out (by rw [HLL.out];exact hi) ho5,HE4.out.o⟩
  have BX5:Hid (Blk w5 w2.heap.size 102 [.int .i64 x0,.int .i64 x1]):=Lib.hid ((hg5.block _ BX.out.lt (fun e=>by have:=Option.some.inj e;omega)).trans BX.out)
  clear H4 HE4 ho ho5 hg5 HIN HOW BX BY z0 z1 hb4
  obtain ⟨inner2,ho,hin⟩:=HE5.out.r
  have HIN:=Lib.hid hin
  have HOW:=Lib.hid ho
  rw [List.length_set,HLL.out] at ho
  have ho:w5.ownsRow 0 102 2 (.slice (some ⟨gE,0,none⟩) es.length c4) es.length inner2:=ho
  have z0:=BX5.out.cell 0 rfl
  have z1:=BX5.out.cell 1 rfl
  clear hin
  go_wp2_with (refine wpList_store_own rfl _ _ _ rfl [.int .i64 x0,.int .i64 x1] ho rfl rfl ?_ (size_of_info dinfo102) rfl ?_;(simp;omega);intro w6 ho6 hg6)
  have H6:=Lib.hid (H5.out.otherE HE5.out (Below.refl _ _) hg6)
  have HE6:Hid (EW We w6 (.slice (some ⟨gE,0,none⟩) es.length c4) ((es'.set i ⟨y0,y1⟩).set kq ⟨x0,x1⟩)):=Lib.hid ⟨endRw_set (by rw [List.length_set];exact HLL.out.symm) HOW.out HIN.out (by rw [List.length_set,HLL.out];omega) ho6,HE5.out.o⟩
  have HD6:=Lib.hid (HD.out.swap EX.out EY.out)
  have HL6:Hid (((es'.set i ⟨y0,y1⟩).set kq ⟨x0,x1⟩).length=es.length):=Lib.hid (by rw [List.length_set,List.length_set];exact HLL.out)
  clear H5 HE5 ho ho6 hg6 HIN HOW BX5 z0 z1 HD HL
  go_roundw
  case rel=>exact ⟨i - 1,m+2+2,_,by omega,by go_num,by omega,HL6,HD6,H6,HE6⟩
  case measure=>simp [intOf];omega
 obtain rfl:i=0:=by omega
 have d0:decide ((0:Int) < ((0:Nat):Int))=false:=rfl
 have HC:Hid (endK.C wr (OkJ We.heap.size (w.heap.size+1) v0 (.slice none 0 0)) (some ⟨gE,0,none⟩) es'):=Lib.hid (Kn.C_mono (fun b hb=>hb.elim (fun e=>e.elim) (fun e=>HE.out.okJ H.out e)) (Rw_slice HE.out.r).2.2)
 have hc4:es'.length≤c4:=(Rw_slice HE.out.r).2.1
 have hel3:es'.length≤18:=by have:=HL.out;omega
 clear HE
 go_upto_region 16 with (fail)
 rw [←HL.out]
 clear hel1 hel2
 go_loopw [4] (fun ev wr=>∃(m c:Nat) (js:List Joint) (rest:List End) (A:Addr) (v1:Value),ev=.slice (some A) rest.length c∧rest.length≤c∧m+2*rest.length≤k+190∧Hid (Dn n ps js rest)∧Hid (NS We wr (w.heap.size+1) g m Bb ps js v0 v1)∧Hid (endK.C wr (OkJ We.heap.size (w.heap.size+1) v0 v1) (some A) rest)) (fun ev _=>lenV ev)
 case atStart=>exact ⟨m,c4,[],es',⟨gE,0,none⟩,.slice none 0 0,rfl,hc4,by omega,HD,H,HC⟩
 case round =>
 clear HD H HC HL hm hi
 obtain ⟨m,c,js,rest,A,v1,rfl,hrc,hm,HD,H,HC⟩:=hrel
 have hjr:js.length+rest.length≤18:=by have:=HD.out.jlen;omega
 by_cases hlt:0 < rest.length
 rotate_left
 ·have d0:decide ((0:Int) < (rest.length:Int))=false:=decide_eq_false (by omega)
  go_upto_region 29 with (fail)
  obtain rfl:rest=[]:=List.eq_nil_of_length_eq_zero (by omega)
  have hdr:Hid (Dr ⟨ps,js⟩):=Lib.hid ⟨by rw [HPL.out];exact HD.out,by rw [HPL.out];exact hkk1,by rw [HPL.out];omega,.inl (by rw [HPL.out];omega)⟩
  have HR6:=Lib.hid (HRe.out.keep H.out.K hrg)
  obtain ⟨A0,c0,rfl,hc0,_⟩:=H.out.p.form
  obtain ⟨A1,c1,rfl,hc1,_⟩:=H.out.j.form
  have f0:=H.out.f.cell 0 rfl
  have f1:=H.out.f.cell 1 rfl
  have r0:=HR6.out.frozen 0
  have r1:=HR6.out.frozen 1
  have rc0:=HR6.out.cell 0 rfl
  have rc1:=HR6.out.cell 1 rfl
  have hzr:w.heap.size < wr.heap.size:=HR6.out.lt
  have hzn:w.heap.size+1 < wr.heap.size:=H.out.f.lt
  go_wp2
  obtain ⟨_,_,hCp⟩:=Rw_slice H.out.p
  obtain ⟨_,_,hCj⟩:=Rw_slice H.out.j
  have hKf:Keep (fun b=>b=w.heap.size) wr ((wr.setCell ⟨w.heap.size,0,none⟩ (.slice A0 ps.length c0)).setCell ⟨w.heap.size,1,none⟩ (.slice A1 js.length c1)):=((Keep.refl (fun b=>b=w.heap.size) wr).setCell (p:=⟨w.heap.size,0,none⟩) (fun _=>rfl) _).setCell (p:=⟨w.heap.size,1,none⟩) (fun _=>rfl) _
  have hKW:Keep (fun b=>b=g) w wr:=(Keep.of_below hbe.out).trans H.out.K (fun _ _ e=>e)
  have hbB:∀b,We.heap.size≤b→¬b=w.heap.size:=fun b hb e=>by omega
  have hNC:NC 102 ((wr.setCell ⟨w.heap.size,0,none⟩ (.slice A0 ps.length c0)).setCell ⟨w.heap.size,1,none⟩ (.slice A1 js.length c1)) (fun b=>w.heap.size≤b) ⟨ps,js⟩ A0 A1:=by
   refine ⟨Kn.C_mono (fun b hb=>?_) (Kn.C_move (fun b hb=>hKf.block b hb.2 ?_) (Kn.C_bound hCp)),Kn.C_mono (fun b hb=>?_) (Kn.C_move (fun b hb=>hKf.block b hb.2 ?_) (Kn.C_bound hCj))⟩
   ·rcases hb.1 with e | e
    ·exact e.elim
    ·have:=H.out.o0 b e;omega
   ·rcases hb.1 with e | e
    ·exact e.elim
    ·exact hbB b (H.out.o0 b e)
   ·rcases hb.1 with e | e
    ·have:=e.1;omega
    ·have:=H.out.o1 b e;omega
   ·rcases hb.1 with e | e
    ·exact hbB b e.1
    ·exact hbB b (H.out.o1 b e)
  have hfin:RetDr g (k+200) Bb w (.returned (.agg #[.slice A0 ps.length c0,.slice A1 js.length c1])) ((wr.setCell ⟨w.heap.size,0,none⟩ (.slice A0 ps.length c0)).setCell ⟨w.heap.size,1,none⟩ (.slice A1 js.length c1)) :=
   ⟨⟨ps,js⟩,A0,A1,c0,c1,rfl,hdr,Lib.hid hNC,Lib.hid ((H.out.c.keep hKf (fun e=>hrg e.symm) (fun b hb _ e=>by omega)).mono (by omega) (Nat.le_refl _)),Lib.hid (hKW.trans hKf (fun x hx e=>by omega))⟩
  exact bodyPost_ret (v:=.agg #[.slice A0 ps.length c0,.slice A1 js.length c1]) (by simp [results,Try.results58,go_sem,hzr,r0,r1,rc0,rc1]) rfl hfin
 have d0:decide ((0:Int) < (rest.length:Int))=true:=decide_eq_true (by omega)
 obtain ⟨W2,hW2,hb2,B7⟩:∃W,W=wr.alloc (.cells #[.int .i64 1,.int .i64 2,.int .i64 2,.int .i64 3,.int .i64 3,.int .i64 3,.int .i64 4] 3)∧Hid (Below wr.heap.size wr W)∧Hid (Blk W wr.heap.size 3 [.int .i64 1,.int .i64 2,.int .i64 2,.int .i64 3,.int .i64 3,.int .i64 3,.int .i64 4]):=⟨_,rfl,Lib.hid (below_alloc _ _),Lib.hid (Blk.new _ _ _ rfl)⟩
 have H2:=Lib.hid (H.out.below hb2.out)
 have HC2:=Lib.hid (Kn.C_below hb2.out HC.out)
 have hzz:=H.out.size
 go_wp2_with fail
 rw [←hW2]
 refine (curPick 7 6 g m Bb _ (Lib.hid H2.out.c) (by omega) (by omega) (by omega) (by omega)).mono ?_
 rintro e w3 ⟨v,rfl,HV,HCu,HK3⟩
 have va:=HV.out.1
 have vb:=HV.out.2
 have H3:=Lib.hid (H2.out.cursor HK3.out HCu.out)
 have HC3:Hid (endK.C w3 (OkJ We.heap.size (w.heap.size+1) v0 v1) (some A) rest):=Lib.hid (Kn.C_mono (fun b hb=>hb.1) (Kn.C_move (fun b hb=>HK3.out.block b hb.2 (fun e=>by have h1:=hb.1.1;omega)) (Kn.C_bound HC2.out)))
 have B73:Hid (Blk w3 wr.heap.size 3 [.int .i64 1,.int .i64 2,.int .i64 2,.int .i64 3,.int .i64 3,.int .i64 3,.int .i64 4]):=Lib.hid (B7.out.keep HK3.out (by omega))
 clear H H2 HC HC2 B7 hb2 hW2 HV HCu HK3
 obtain ⟨kd,kd1,kd4,hcell⟩:∃kd:Int,1≤kd∧kd≤4∧w3.cell? ⟨wr.heap.size,v.toNat,none⟩=some (.int .i64 kd):=by
  obtain ⟨u,rfl⟩:∃u:Nat,v=u:=⟨v.toNat,by omega⟩
  have hu:u < 7:=by omega
  match u,hu with
  | 0,_=>exact ⟨1,by omega,by omega,B73.out.cell 0 rfl⟩
  | 1,_=>exact ⟨2,by omega,by omega,B73.out.cell 1 rfl⟩
  | 2,_=>exact ⟨2,by omega,by omega,B73.out.cell 2 rfl⟩
  | 3,_=>exact ⟨3,by omega,by omega,B73.out.cell 3 rfl⟩
  | 4,_=>exact ⟨3,by omega,by omega,B73.out.cell 4 rfl⟩
  | 5,_=>exact ⟨3,by omega,by omega,B73.out.cell 5 rfl⟩
  | 6,_=>exact ⟨4,by omega,by omega,B73.out.cell 6 rfl⟩
 have vlt:v < 7:=by omega
 go_upto_if 91 with (fail)
 go_cut [11] (fun kv wc=>∃kind:Nat,kv=.int .i64 kind∧1≤kind∧kind≤4∧kind≤rest.length∧wc=w3)
 case first =>
  by_cases hkl:(rest.length:Int) < kd
  ·have dk:decide ((rest.length:Int) < kd)=true:=decide_eq_true hkl
   go_wp2
   go_meet
   case rel=>exact ⟨1,rfl,by omega,by omega,by omega,rfl⟩
  ·have dk:decide ((rest.length:Int) < kd)=false:=decide_eq_false hkl
   go_wp2
   go_meet
   case rel=>exact ⟨kd.toNat,by rw [Int.toNat_of_nonneg (by omega)],by omega,by omega,by omega,rfl⟩
 obtain ⟨kind,rfl,k1,k4,kl,rfl⟩:=hcut
 clear hcell B73 va vb vlt kd1 kd4
 obtain ⟨wo,hwo⟩:∃wo:World,wo=wc:=⟨_,rfl⟩
 rw [←hwo] at H3 HC3 ⊢
 clear hwo
 obtain ⟨W4,hW4,hb4,BJ⟩:∃W,W=wo.alloc (.cells #[.int .i64 kind,.string ⟨#[]⟩,.slice none 0 0] 97)∧Hid (Below wo.heap.size wo W)∧Hid (Blk W wo.heap.size 97 [.int .i64 kind,.string ⟨#[]⟩,.slice none 0 0]):=⟨_,rfl,Lib.hid (below_alloc _ _),Lib.hid (Blk.new _ _ _ rfl)⟩
 go_upto_region 21 with (fail)
 rw [←hW4]
 clear hW4
 go_wp2
 go_loopw [13] (fun xv wr=>∃(x:Nat) (vE:Value),x≤kind∧xv=.int .i64 x∧Hid (Below wo.heap.size wo wr)∧Hid (Blk wr wo.heap.size 97 [.int .i64 kind,.string ⟨#[]⟩,vE])∧Hid (endK.Rw 102 wr nobody vE (rest.take x))∧Hid (∀b,vE.ownBlock=some b→wo.heap.size≤b)) (fun xv _=>kind - (intOf xv).toNat)
 case atStart=>exact ⟨0,_,by omega,rfl,hb4,BJ,Lib.hid (by rw [List.take_zero];exact Kn.Rw.nil),Lib.hid (by simp [Value.ownBlock])⟩
 case round =>
  clear hb4 BJ
  obtain ⟨wq,rfl⟩:∃wq:World,wq=wr:=⟨_,rfl⟩
  obtain ⟨x,vE,hxk,rfl,HB,BJ,RE,OE⟩:=hrel
  by_cases hx:x < kind
  ·have dx:decide ((x:Int) < (kind:Int))=true:=decide_eq_true (by omega)
   have hx0:(0:Int)≤(x:Int):=by omega
   have hx1:(x:Int) < (rest.length:Int):=by omega
   obtain ⟨ad,hade,y0,y1,EY,cy0,cy1⟩:=endK_at (Kn.C_below HB.out HC3.out) x (by omega)
   obtain rfl:=Option.some.inj hade
   obtain ⟨A7,c7,rfl,hc7,_⟩:=RE.out.form
   have hlx:(rest.take x).length=x:=by rw [List.length_take];omega
   have HLX:=Lib.hid hlx
   rw [hlx] at BJ RE OE hc7
   clear hlx hade
   have s2:=BJ.out.cell 2 rfl
   have hjz:wo.heap.size < wq.heap.size:=BJ.out.lt
   have m63:(rest.take x).length+1≤maxLen:=by rw [HLX.out];simp only [maxLen];omega
   have mby:((rest.take x).length+1)*16≤140737488355328:=by rw [HLX.out];omega
   go_upto_region 24 with (fail)
   refine Rg.start 7 (fun w'=>w'.cell? ⟨wo.heap.size,2,none⟩=some (.slice A7 x c7)∧w'.cell? (A.add (x*2))=some (.int .i64 y0)∧w'.cell? ⟨(A.add (x*2)).block,(A.add (x*2)).off+1,none⟩=some (.int .i64 y1)) 10 rfl (by kernel_rfl) ?_
   have hHeld:wq.drew.cell? ⟨wo.heap.size,2,none⟩=some (.slice A7 x c7)∧wq.drew.cell? (A.add (x*2))=some (.int .i64 y0)∧wq.drew.cell? ⟨(A.add (x*2)).block,(A.add (x*2)).off+1,none⟩=some (.int .i64 y1):=⟨s2,cy0,cy1⟩
   refine Rg.pure 0 (v:=?v12) rfl (by kernel_rfl) (fun _ _ _ h=>h) (by rfl) hHeld ?y12 ?h12
   case y12=>(intro wA;go_simp;first | done | with_reducible rfl)
   simp only [Act.put,List.setIfInBounds_toArray,List.set_cons_zero,List.set_cons_succ]
   refine Rg.held 1 (v:=?v13) rfl (by kernel_rfl) (fun _ _ _ h=>h) (by rfl) hHeld ?y13 ?h13
   case y13=>(intro wA hSw;(try dsimp only at hSw);go_simp;first | done | with_reducible rfl)
   simp only [Act.put,List.setIfInBounds_toArray,List.set_cons_zero,List.set_cons_succ]
   refine Rg.pure 2 (v:=?v14) rfl (by kernel_rfl) (fun _ _ _ h=>h) (by rfl) hHeld ?y14 ?h14
   case y14=>(intro wA;go_simp;first | done | with_reducible rfl)
   simp only [Act.put,List.setIfInBounds_toArray,List.set_cons_zero,List.set_cons_succ]
   refine Rg.pure 3 (v:=?v15) rfl (by kernel_rfl) (fun _ _ _ h=>h) (by rfl) hHeld ?y15 ?h15
   case y15=>(intro wA;go_simp;first | done | with_reducible rfl)
   simp only [Act.put,List.setIfInBounds_toArray,List.set_cons_zero,List.set_cons_succ]
   refine Rg.pure 4 (v:=?v16) rfl (by kernel_rfl) (fun _ _ _ h=>h) (by rfl) hHeld ?y16 ?h16
   case y16=>(intro wA;go_simp;first | done | with_reducible rfl)
   simp only [Act.put,List.setIfInBounds_toArray,List.set_cons_zero,List.set_cons_succ]
   refine Rg.held 5 (v:=?v17) rfl (by kernel_rfl) (fun _ _ _ h=>h) (by rfl) hHeld ?y17 ?h17
   case y17=>(intro wA hSw;(try dsimp only at hSw);go_simp;first | done | with_reducible rfl)
   simp only [Act.put,List.setIfInBounds_toArray,List.set_cons_zero,List.set_cons_succ]
   refine Rg.one 6 rfl (by kernel_rfl) (fun K hK=>?_)
   go_simp
   have hba:Below wq.heap.size wq (wq.alloc (.cells #[.int .i64 y0,.int .i64 y1] 102)).drew:=(below_alloc _ _).drew
   refine hK.out _ _ ⟨cell_below hba s2,cell_below hba cy0,cell_below hba cy1⟩ ?_
   clear hK K
   try simp only [Act.put,List.setIfInBounds_toArray,List.set_cons_zero,List.set_cons_succ]
   refine Rg.row [7,8,9] [_,_,_] rfl (by kernel_rfl) ?_
   clear hHeld s2 cy0 cy1
   have SRC:Hid (Kn.Src endK (wq.alloc (.cells #[.int .i64 y0,.int .i64 y1] 102)).drew nobody (some ⟨wq.heap.size,0,none⟩) [⟨y0,y1⟩]):=Lib.hid (Kn.Src.one (endK_mk _ _ ⟨y0,y1⟩) (new_cells _ _ _ rfl))
   go_wp2_with (at_builtin;go_loud (refine wpList_append_rw _ rfl (.tmp 100) (.tmp 105) 82 rfl 102 iE _ 16 Try.underlying82 hiE hzE hyE hxE rfl (by decide) (.slice A7 x c7) (rest.take x) [⟨y0,y1⟩] rfl (RE.out.below hba) (fun _ h=>h.elim) (some ⟨wq.heap.size,0,none⟩) 1 1 rfl rfl SRC.out m63 mby ?_;intro v' w5 HR hg hat;obtain ⟨A8,c8,hv8,hc8⟩:=HR.form1;rw [HLX.out] at hv8;subst hv8;have hBf:Blk w5 wo.heap.size 97 [.int .i64 kind,.string ⟨#[]⟩,.slice A7 x c7]:=(hg.block _ (Nat.lt_of_lt_of_le BJ.out.lt hba.size) (fun e=>own_not RE.out BJ.out (by decide) e.symm)).trans (BJ.out.below hba BJ.out.lt);have u0:=hBf.frozen 2;have hz3:wo.heap.size < w5.heap.size:=hBf.lt;have u1:=hBf.cell 2 rfl))
   have hn':¬(Value.slice A8 (x+1) c8).ownBlock=some wo.heap.size:=own_not HR hBf (by decide)
   have HBn:Hid (Below wo.heap.size wo (w5.setCell ⟨wo.heap.size,2,none⟩ (.slice A8 (x+1) c8))):=Lib.hid (Below.setCell (below_grown' (HB.out.trans (hba.mono HB.out.size)) hg (fun b hb=>OE.out b hb.symm) (Nat.le_trans HB.out.size hba.size)) (Nat.le_refl _) _)
   have REn:Hid (endK.Rw 102 (w5.setCell ⟨wo.heap.size,2,none⟩ (.slice A8 (x+1) c8)) nobody (.slice A8 (x+1) c8) (rest.take (x+1))):=Lib.hid (by
    rw [take_succ_get EY.out]
    exact Kn.Rw.move (fun b hb=>Below.heap_setCell _ _ _ _ (fun e=>hn' (by rw [←show b=wo.heap.size from e];exact hb))) (fun _ e=>e.elim) HR)
   have BJn:=Lib.hid (hBf.set_ 2 (.slice A8 (x+1) c8))
   have OEn:=Lib.hid (own_next OE.out hat (Nat.le_trans HB.out.size hba.size))
   clear HB BJ RE OE HR hg hat hBf hn' u0 hz3 u1
   go_roundw
   case rel=>exact ⟨x+1,(.slice A8 (x+1) c8),by omega,by go_num,HBn,BJn,REn,OEn⟩
   case measure=>simp [intOf];omega
  obtain rfl:x=kind:=by omega
  have dx:decide ((x:Int) < (x:Int))=false:=decide_eq_false (by omega)
  go_upto_if 109 with (fail)
  obtain ⟨A1,c1,rfl,hc1,_⟩:=H3.out.j.form
  have HQ:=Lib.hid (H3.out.below HB.out)
  have s1:=HQ.out.f.cell 1 rfl
  have hjn:w.heap.size+1 < wq.heap.size:=HQ.out.f.lt
  have hjz:wo.heap.size < wq.heap.size:=BJ.out.lt
  go_cut [] (fun wc=>∃nm,Hid (((x:Int) < 3→nm=⟨#[]⟩)∧(3≤(x:Int)→nm=nameF (100+js.length)))∧Hid (Below wo.heap.size wo wc)∧Hid (Blk wc wo.heap.size 97 [.int .i64 x,.string nm,vE])∧Hid (endK.Rw 102 wc nobody vE (rest.take x)))
  case first =>
   by_cases h3:(3:Int)≤(x:Int)
   ·have d3:decide ((3:Int)≤(x:Int))=true:=decide_eq_true h3
    go_wp2_with fail
    refine (curNameZ (100+js.length) g _ _ (by omega) (by omega)).mono ?_
    rintro e w1 ⟨rfl,hb1⟩
    have BJ1:=Lib.hid (BJ.out.below hb1 BJ.out.lt)
    have RE1:=Lib.hid (RE.out.below hb1)
    have HB1:=Lib.hid (HB.out.trans (hb1.mono HB.out.size))
    have u0:=BJ1.out.frozen 1
    have hz1:wo.heap.size < w1.heap.size:=BJ1.out.lt
    have u1:=BJ1.out.cell 1 rfl
    clear hb1
    go_wp2
    go_meet
    case rel=>exact ⟨_,Lib.hid ⟨fun h=>by omega,fun _=>rfl⟩,Lib.hid (HB1.out.setCell (Nat.le_refl _) _),Lib.hid (BJ1.out.set_ 1 _),Lib.hid (Kn.Rw.move (fun b hb=>Below.heap_setCell _ _ _ _ (fun e=>own_not RE1.out BJ1.out (by decide) (by rw [←show b=wo.heap.size from e];exact hb))) (fun _ e=>e.elim) RE1.out)⟩
   ·have d3:decide ((3:Int)≤(x:Int))=false:=decide_eq_false h3
    go_wp2
    go_meet
    case rel=>exact ⟨_,Lib.hid ⟨fun _=>rfl,fun h=>absurd h (by omega)⟩,HB,BJ,RE⟩
  obtain ⟨nm,HNM,HBn,BJn,REn⟩:=hcut
  clear HB BJ RE HQ s1 hjn hjz
  have HQ:=Lib.hid (H3.out.below HBn.out)
  obtain ⟨A7,c7,rfl,hc7,_⟩:=REn.out.form
  have hlx:(rest.take x).length=x:=by rw [List.length_take];omega
  have HLX:=Lib.hid hlx
  obtain ⟨ends,hends,HLe⟩:∃l,Hid (rest.take x=l)∧Hid (l.length=x):=⟨_,Lib.hid rfl,HLX⟩
  rw [hends.out] at REn BJn hc7 OE
  have HJ:Hid (JnOk js.length ⟨x,nm,ends⟩):=Lib.hid ⟨⟨by show (1:Int)≤(x:Int);omega,by show (x:Int)≤4;omega⟩,by show ((ends.length:Nat):Int)=(x:Int);rw [HLe.out],HNM.out.1,HNM.out.2⟩
  have HDN:Hid (Dn n ps (js++[⟨x,nm,ends⟩]) (rest.drop x)):=Lib.hid (Dn.joint (x:=⟨x,nm,ends⟩) (by show Dn n ps js (ends++rest.drop x);rw [←hends.out,List.take_append_drop];exact HD.out) HJ.out)
  have f1:=HQ.out.f.cell 1 rfl
  have j0:=BJn.out.cell 0 rfl
  have j1:=BJn.out.cell 1 rfl
  have j2:=BJn.out.cell 2 rfl
  have hjn:w.heap.size+1 < wc.heap.size:=HQ.out.f.lt
  have hjz:wo.heap.size < wc.heap.size:=BJn.out.lt
  have m63:js.length+1≤maxLen:=by simp only [maxLen];omega
  have mby:(js.length+1)*48≤140737488355328:=by omega
  obtain ⟨W5,hW5,hb5,SRC5⟩:∃W,W=wc.alloc (.cells #[.int .i64 x,.string nm,.slice A7 ends.length c7] 97)∧Below wc.heap.size wc W∧Hid (Kn.Src (jointK 102) W (fun b=>OkJ We.heap.size (w.heap.size+1) v0 (.slice A1 js.length c1) b∧b < W.heap.size) (some ⟨wc.heap.size,0,none⟩) [⟨x,nm,ends⟩]):=by
   refine ⟨_,rfl,below_alloc _ _,Lib.hid (Kn.Src.one (jointK_mk (x:=⟨x,nm,ends⟩) hc7 (Kn.C_mono (fun b hb=>?_) (Kn.C_bound (Kn.C_below (below_alloc _ _) (Rw_slice REn.out).2.2)))) (new_cells _ _ _ rfl))⟩
   exact H3.out.okNew (hb.1.elim (fun e=>e.elim) (fun e=>OE.out b e)) hb.2
  have hn1:=own_not HQ.out.j HQ.out.f (by decide)
  go_upto_region 28 with (at_builtin;(try rw [←hW5]);refine wpList_append_rw _ rfl (.tmp 118) (.tmp 120) 24 rfl 97 iJ _ 48 Try.underlying24 hiJ hzJ hyJ hxJ rfl (by decide) (.slice A1 js.length c1) js [⟨x,nm,ends⟩] rfl (HQ.out.forJ hb5) (fun b hb=>hb.1.2.2.2) (some ⟨wc.heap.size,0,none⟩) 1 1 rfl rfl SRC5.out m63 mby ?_;intro v' w6 HR' hg hat;obtain ⟨A9,c9,rfl,hc9⟩:=HR'.form1;have hA:=HQ.out.addJ hb5 HR' hg hat;have hBf:Blk w6 (w.heap.size+1) 26 [v0,.slice A1 js.length c1]:=(hg.block (w.heap.size+1) (by have h1:=HQ.out.f.lt;have h2:=hb5.size;omega) (fun e=>hn1 e.symm)).trans (HQ.out.f.below hb5 HQ.out.f.lt);have u0:=hBf.frozen 1;have hz3:w.heap.size+1 < w6.heap.size:=hBf.lt;have u1:=hBf.cell 1 rfl)
  have H6:=Lib.hid hA.1
  have HC6:Hid (endK.C (w6.setCell ⟨w.heap.size+1,1,none⟩ (.slice A9 (js.length+1) c9)) (OkJ We.heap.size (w.heap.size+1) v0 (.slice A9 (js.length+1) c9)) (some A) rest):=Lib.hid (HQ.out.restJ (Kn.C_below HBn.out HC3.out) hA.2 hat hb5.size)
  have HC7:=Lib.hid (C_drop x (by omega) HC6.out)
  have hdl:Hid ((rest.drop x).length=rest.length - x):=Lib.hid (by rw [List.length_drop])
  have hxr:(x:Int)≤(rest.length:Int):=by omega
  have hx0:(0:Int)≤(x:Int):=by omega
  have hxc:(rest.length:Int)≤(c:Int):=by omega
  clear HQ HBn BJn REn hA hBf u0 hz3 u1 HR' hn1 f1 j0 j1 j2 hjn hjz hW5 hb5 SRC5 m63 mby hg hat HD HC6 HC3 H3
  go_wp2
  ·refine ⟨⟨m+2,0,js++[⟨x,nm,ends⟩],rest.drop x,A,⟨rfl,hdl.out.symm,rfl⟩,by rw [hdl.out];omega,by rw [hdl.out];omega,HDN,_,H6,Lib.hid ?_⟩,by simp only [lenV];omega⟩
   rw [List.drop_eq_nil_of_le (by omega)]
   exact Kn.C_nil
  ·refine ⟨⟨m+2,c - x,js++[⟨x,nm,ends⟩],rest.drop x,_,⟨rfl,hdl.out.symm,rfl⟩,by rw [hdl.out];omega,by rw [hdl.out];omega,HDN,_,H6,?_⟩,by simp only [lenV];omega⟩
   rw [hWs] at HC7
   exact HC7
end Go.Proofs.Ytjccgneimknbpaa.L
namespace Go.Proofs.Ytjccgneimknbpaa.L
open Go.RowKit
theorem RetDr.later {g k m Bb:Nat} {w:World} {e:Ending} {w':World} (h:RetDr g k Bb w e w') (hm:k≤m):RetDr g m Bb w e w':=by
 obtain ⟨n,A0,A1,c0,c1,h1,h2,h3,h4,h5⟩:=h
 exact ⟨n,A0,A1,c0,c1,h1,h2,h3,Lib.hid (h4.out.mono hm (Nat.le_refl _)),h5⟩
set_option maxRecDepth 100000 in
set_option maxHeartbeats 4000000 in
theorem drTrack (w:World) (g k Bb:Nat) (hc:Hid (Cb w g k Bb)) (hB:Bb≤w.heap.size) (hk:k≤1125899906840000):Calls Try.prog 30 #[.pointer (some ⟨g,0,none⟩)] w (RetDr g (k+210) Bb w):=by
 have hgw:g < w.heap.size:=hc.out.lt
 go_enter Try.func30,Try.ntmps30
 go_upto_region 1 with (fail)
 obtain ⟨We,hWe,hWs,hbe,HRe⟩:∃W,W=w.alloc (.cells #[.slice none 0 0,.slice none 0 0] 26)∧W.heap.size=w.heap.size+1∧Hid (Below w.heap.size w W)∧Hid (Blk W w.heap.size 26 [.slice none 0 0,.slice none 0 0]):=⟨_,rfl,size_alloc _ _,Lib.hid (below_alloc _ _),Lib.hid (Blk.new _ _ _ rfl)⟩
 rw [←hWe]
 clear hWe
 have hrg:¬w.heap.size=g:=by omega
 have HCe:=Lib.hid (hc.out.below hbe.out)
 go_wp2_with fail
 refine (curPick 2 1 g k Bb _ HCe (by omega) (by omega) (by omega) (by omega)).mono ?_
 rintro e w2 ⟨v,rfl,HV,HC,HK⟩
 have va:=HV.out.1
 have vb:=HV.out.2
 have fin:∀e w3,RetDr g (k+2+200) Bb w2 e w3→∃(n:Net) (A0 A1:Option Addr) (c0 c1:Nat),e=.returned (.agg #[.slice A0 n.pieces.length c0,.slice A1 n.joints.length c1])∧Blk w3 w.heap.size 26 [.slice none 0 0,.slice none 0 0]∧RetDr g (k+210) Bb w e ((w3.setCell ⟨w.heap.size,0,none⟩ (.slice A0 n.pieces.length c0)).setCell ⟨w.heap.size,1,none⟩ (.slice A1 n.joints.length c1)):=by
  rintro e w3 ⟨n,A0,A1,c0,c1,he,hd,hn,hcc,hkk⟩
  have hs2:We.heap.size≤w2.heap.size:=HK.out.size
  have hR3:Blk w3 w.heap.size 26 [.slice none 0 0,.slice none 0 0]:=(HRe.out.keep HK.out hrg).keep hkk.out hrg
  have hKf:Keep (fun b=>b=w.heap.size) w3 ((w3.setCell ⟨w.heap.size,0,none⟩ (.slice A0 n.pieces.length c0)).setCell ⟨w.heap.size,1,none⟩ (.slice A1 n.joints.length c1)):=((Keep.refl (fun b=>b=w.heap.size) w3).setCell (p:=⟨w.heap.size,0,none⟩) (fun _=>rfl) _).setCell (p:=⟨w.heap.size,1,none⟩) (fun _=>rfl) _
  have hKW:Keep (fun b=>b=g) w w3:=((Keep.of_below hbe.out).trans HK.out (fun _ _ e=>e)).trans hkk.out (fun _ _ e=>e)
  refine ⟨n,A0,A1,c0,c1,he,hR3,n,A0,A1,c0,c1,he,hd,Lib.hid ⟨?_,?_⟩,Lib.hid ((hcc.out.keep hKf (fun e=>hrg e.symm) (fun b hb _ e=>by omega)).mono (by omega) (Nat.le_refl _)),Lib.hid (hKW.trans hKf (fun x hx e=>by omega))⟩
  ·exact Kn.C_mono (fun b hb=>by have:=hb.1;omega) (Kn.C_move (fun b hb=>hKf.block b hb.2 (by have:=hb.1;omega)) (Kn.C_bound hn.out.p))
  ·exact Kn.C_mono (fun b hb=>by have:=hb.1;omega) (Kn.C_move (fun b hb=>hKf.block b hb.2 (by have:=hb.1;omega)) (Kn.C_bound hn.out.j))
 have FIN:=Lib.hid fin
 have hB2:Bb≤w2.heap.size:=by have:=HK.out.size;omega
 clear fin HCe
 by_cases hv:v=0
 ·have dv:(v == 0)=true:=by simp [hv]
  go_wp2_with fail
  refine (drStation w2 g (k+2) Bb HC hB2 (by omega)).mono ?_
  intro e w3 hr
  obtain ⟨n,A0,A1,c0,c1,rfl,hR3,hfin⟩:=FIN.out e w3 (hr.later (by omega))
  have HF:=Lib.hid hfin
  have r0:=hR3.frozen 0
  have r1:=hR3.frozen 1
  have rc0:=hR3.cell 0 rfl
  have rc1:=hR3.cell 1 rfl
  have hzr:w.heap.size < w3.heap.size:=hR3.lt
  clear hr hfin
  go_wp2
  exact bodyPost_ret (v:=.agg #[.slice A0 n.pieces.length c0,.slice A1 n.joints.length c1]) (by simp [results,Try.results30,go_sem,hzr,r0,r1,rc0,rc1]) rfl HF.out
 ·have dv:(v == 0)=false:=by simp [hv]
  go_wp2_with fail
  refine (drNet w2 g (k+2) Bb HC hB2 (by omega)).mono ?_
  intro e w3 hr
  obtain ⟨n,A0,A1,c0,c1,rfl,hR3,hfin⟩:=FIN.out e w3 (hr.later (by omega))
  have HF:=Lib.hid hfin
  have r0:=hR3.frozen 0
  have r1:=hR3.frozen 1
  have rc0:=hR3.cell 0 rfl
  have rc1:=hR3.cell 1 rfl
  have hzr:w.heap.size < w3.heap.size:=hR3.lt
  clear hr hfin
  go_wp2
  exact bodyPost_ret (v:=.agg #[.slice A0 n.pieces.length c0,.slice A1 n.joints.length c1]) (by simp [results,Try.results30,go_sem,hzr,r0,r1,rc0,rc1]) rfl HF.out
theorem Rw_pop {α:Type} {d:Kn α} {e:Nat} {w:World} {ok:Nat→Prop} {A:Option Addr} {n c:Nat} {xs:List α} {x:α} (hn:n=xs.length) (h:d.Rw e w ok (.slice A (n+1) c) (xs++[x])):d.Rw e w ok (.slice A n c) xs:=by
 subst hn
 obtain ⟨inner,ho,hi⟩:=h
 refine ⟨inner.take (xs.length*d.sz),?_,fun j y hj=>?_⟩
 ·rcases ho.2 with ⟨he,h0⟩ | ⟨g,cap,cur,he,hb,hh,hc,hm,hz,ht⟩
  ·rw [List.length_append,List.length_singleton] at h0
   omega
  ·injection he with h1 h2 h3
   subst h1 h3
   have hl:=ho.1
   rw [List.length_append,List.length_singleton] at hl hc ht
   have hs:(xs.length+1)*d.sz=xs.length*d.sz+d.sz:=Nat.succ_mul _ _
   refine ⟨by rw [List.length_take];omega,.inr ⟨g,c,cur,rfl,hb,hh,by omega,hm,hz,?_⟩⟩
   rw [←ht,List.take_take]
   congr 1
   omega
 ·have hj':j < xs.length:=(List.getElem?_eq_some_iff.1 hj).1
  have h1:=hi j y (by rw [List.getElem?_append_left hj'];exact hj)
  have hle:j*d.sz+d.sz≤xs.length*d.sz:=by rw [←Nat.succ_mul];exact Nat.mul_le_mul_right _ hj'
  have e:((inner.take (xs.length*d.sz)).drop (j*d.sz)).take d.sz=(inner.drop (j*d.sz)).take d.sz:=by
   rw [List.drop_take,List.take_take]
   congr 1
   omega
  rw [e]
  exact h1
def RetSg (n:Net) (g k Bb:Nat) (w:World) (e:Ending) (w':World):Prop :=
 ∃ss A c,e=.returned (.slice A ss.length c)∧ss.length≤c∧Hid (Ss n ss)∧Hid (signalK.Rw 62 w' nobody (.slice A ss.length c) ss)∧Hid (∀b,(Value.slice A ss.length c).ownBlock=some b→w.heap.size≤b)∧Hid (Cb w' g k Bb)∧Hid (Keep (fun b=>b=g) w w')
theorem l1beforeN {ok:Nat→Prop} (ss:List Signal) (A0:Option Addr) (c0 i N:Nat) (z:Int) (w:World) (hN:Hid (ss.length=N)) (hz:z=(i:Int)) (hs:signalK.C w ok A0 ss) (hi:i < ss.length):Calls Try.prog 60 #[.slice A0 N c0,.int .i64 z] w (RetB (pv (before ss i i)) w):=by
 obtain ⟨rfl⟩:=hN
 subst hz
 exact l1before ss A0 c0 i w hs hi
theorem pickup {α:Type} {xs:List α} {v:Int} (h0:0≤v) (h1:v≤(xs.length:Int) - 1):∃u:Nat,v=u∧u < xs.length:=⟨v.toNat,by omega,by omega⟩
set_option maxRecDepth 100000 in
set_option maxHeartbeats 8000000 in
theorem drSignals (n:Net) (A0 A1:Option Addr) (c0 c1:Nat) (w:World) (g k Bb:Nat) (hc:Hid (Cb w g k Bb)) (hB:Bb≤w.heap.size) (hd:Hid (Dr n)) (hn:Hid (NC 102 w (fun b=>¬b=g) n A0 A1)) (hk:k≤1125899906840000) :
  Calls Try.prog 31 #[.pointer (some ⟨g,0,none⟩),.agg #[.slice A0 n.pieces.length c0,.slice A1 n.joints.length c1]] w (RetSg n g (k+110) Bb w):=by
 have hgw:g < w.heap.size:=hc.out.lt
 obtain ⟨iS,hiS,hzS,hyS,hxS⟩:=info_parts dinfo62
 have hp1:=hd.out.pos
 have hp2:=hd.out.le
 go_enter Try.func31,Try.ntmps31
 go_upto_region 2 with (fail)
 obtain ⟨W1,hW1,hWs,hb1,HN1⟩:∃W,W=w.alloc (.cells #[.slice A0 n.pieces.length c0,.slice A1 n.joints.length c1] 26)∧W.heap.size=w.heap.size+1∧Hid (Below w.heap.size w W)∧Hid (Blk W w.heap.size 26 [.slice A0 n.pieces.length c0,.slice A1 n.joints.length c1]):=⟨_,rfl,size_alloc _ _,Lib.hid (below_alloc _ _),Lib.hid (Blk.new _ _ _ rfl)⟩
 rw [←hW1]
 clear hW1
 have HC1:=Lib.hid (hc.out.below hb1.out)
 have HP1:Hid (pieceK.C W1 (fun b=>¬b=g) A0 n.pieces):=Lib.hid (Kn.C_below hb1.out hn.out.p)
 have hrg:¬w.heap.size=g:=by omega
 go_wp2_with fail
 refine (curPick 8 7 g k Bb _ HC1 (by omega) (by omega) (by omega) (by omega)).mono ?_
 rintro e w2 ⟨v,rfl,HV,HC,HK⟩
 have va:=HV.out.1
 have vb:=HV.out.2
 have HWz:=Lib.hid hWs
 clear HC1 HV
 go_wp2
 go_loopw [5,6] (fun ov kv wr=>∃(t m c:Nat) (ss:List Signal) (A:Option Addr),ov=.slice A ss.length c∧kv=.int .i64 t∧ss.length+t≤8∧m+12*t≤k+2+96∧Hid (Ss n ss)∧Hid (signalK.Rw 62 wr nobody (.slice A ss.length c) ss)∧Hid (∀b,(Value.slice A ss.length c).ownBlock=some b→W1.heap.size≤b)∧Hid (Cb wr g m Bb)∧Hid (Keep (fun b=>b=g) W1 wr)) (fun _ kv _=>(intOf kv).toNat)
 case atStart=>exact ⟨(1+v).toNat,k+2,0,[],none,rfl,by rw [Int.toNat_of_nonneg (by omega)],by simp only [List.length_nil];omega,by omega,Lib.hid Ss.nil,Lib.hid Kn.Rw.nil,Lib.hid (by simp [Value.ownBlock]),HC,HK⟩
 case round =>
 clear HC HK va vb
 obtain ⟨t,m,c,ss,A,rfl,rfl,hst,hm,HS,HR,HO,HC,HK⟩:=hrel
 by_cases htp:0 < t
 rotate_left
 ·obtain rfl:t=0:=by omega
  have d0:decide ((0:Int) < ((0:Nat):Int))=false:=rfl
  have hcl:=(Rw_slice HR.out).2.1
  go_wp2
  go_ret
  exact ⟨ss,A,c,rfl,hcl,HS,HR,Lib.hid (fun b hb=>by have:=HO.out b hb;omega),Lib.hid (HC.out.mono (by omega) (Nat.le_refl _)),Lib.hid ((Keep.of_below hb1.out).trans HK.out (fun _ _ e=>e))⟩
 have d0:decide ((0:Int) < (t:Int))=true:=decide_eq_true (by omega)
 have HN:=Lib.hid (HN1.out.keep HK.out hrg)
 have n0:=HN.out.cell 0 rfl
 have hnz:w.heap.size < wr.heap.size:=HN.out.lt
 have HP:Hid (pieceK.C wr (fun b=>¬b=g) A0 n.pieces):=Lib.hid (Kn.C_mono (fun b hb=>hb.1) (Kn.C_move (fun b hb=>HK.out.block b hb.2 hb.1) (Kn.C_bound HP1.out)))
 go_wp2_with fail
 refine (curPick n.pieces.length ((n.pieces.length:Int) - 1) g m Bb _ HC (by omega) (by omega) (by omega) (by omega)).mono ?_
 rintro e w3 ⟨p0,rfl,HV3,HC3,HK3⟩
 obtain ⟨u,rfl,hu⟩:=pickup HV3.out.1 HV3.out.2
 have HN3:=Lib.hid (HN.out.keep HK3.out hrg)
 have HP3:Hid (pieceK.C w3 (fun b=>¬b=g) A0 n.pieces):=Lib.hid (Kn.C_mono (fun b hb=>hb.1) (Kn.C_move (fun b hb=>HK3.out.block b hb.2 hb.1) (Kn.C_bound HP.out)))
 have hOg:∀b,(Value.slice A ss.length c).ownBlock=some b→¬b=g:=fun b hb e=>by have:=HO.out b hb;omega
 have HR3:=Lib.hid (HR.out.grownK HK3.out (fun b hb e=>hOg b hb e) (fun _ e=>e.elim))
 have HKK3:=Lib.hid (HK.out.trans HK3.out (fun _ _ e=>e))
 clear HR HC HK HK3 HN HP n0 hnz HV3 hOg
 have n0:=HN3.out.cell 0 rfl
 have hnz:w.heap.size < w3.heap.size:=HN3.out.lt
 obtain ⟨ap,rfl,y0,y1,y2,y3,EY,k0,k1,k2,k3⟩:=pieceK_at HP3.out u hu
 have u0:(0:Int)≤(u:Int):=Int.natCast_nonneg _
 have u1:(u:Int) < (n.pieces.length:Int):=by omega
 have hkb:=World.block_lt_of_cell? _ _ k0
 have hlen:1≤y1∧y1≤320:=by
  have h1:=(hd.out.d.p u _ EY.out).2.1
  exact h1
 by_cases hl3:y1 < 3
 ·have dl:decide (y1 < 3)=true:=decide_eq_true hl3
  go_wp2
  go_roundw
  case rel=>exact ⟨t - 1,m+2,c,ss,A,rfl,by go_num,by omega,by omega,HS,HR3,HO,HC3,HKK3⟩
  case measure=>simp [intOf];omega
 have dl:decide (y1 < 3)=false:=decide_eq_false hl3
 have hapg:¬(ap.add (u*4)).block=g:=by
  obtain ⟨ad,e,ho,_⟩:=HP3.out.2 (by omega)
  obtain rfl:=Option.some.inj e
  rw [add_block]
  exact ho
 go_upto_region 7 with (fail)
 go_cut [8] (fun sv wc=>∃(sb:Nat) (a wy:Int),sv=.pointer (some ⟨sb,0,none⟩)∧(1≤a∧a≤y1 - 1)∧(wy=1∨wy=-1)∧w3.heap.size≤sb∧Hid (Blk wc sb 62 [.string (nameF ss.length),.int .i64 u,.int .i64 a,.int .i64 wy])∧Hid (Cb wc g (m+2+2+2) Bb)∧Hid (Keep (fun b=>b=g) w3 wc))
 case first =>
  refine Rg.start 21 (fun w'=>w'.cell? ⟨w.heap.size,0,none⟩=some (.slice (some ap) n.pieces.length c0)∧w'.cell? ⟨(ap.add (u*4)).block,(ap.add (u*4)).off+1,none⟩=some (.int .i64 y1)) 22 rfl (by kernel_rfl) ?_
  have hHeld:w3.drew.cell? ⟨w.heap.size,0,none⟩=some (.slice (some ap) n.pieces.length c0)∧w3.drew.cell? ⟨(ap.add (u*4)).block,(ap.add (u*4)).off+1,none⟩=some (.int .i64 y1):=⟨n0,k1⟩
  refine Rg.pure 0 (v:=?v1) rfl (by kernel_rfl) (fun _ _ _ h=>h) (by rfl) hHeld ?y1 ?h1
  case y1=>(intro wA;go_simp;first | done | with_reducible rfl)
  simp only [Act.put,List.setIfInBounds_toArray,List.set_cons_zero,List.set_cons_succ]
  refine Rg.pure 1 (v:=?v2) rfl (by kernel_rfl) (fun _ _ _ h=>h) (by rfl) hHeld ?y2 ?h2
  case y2=>(intro wA;go_simp;first | done | with_reducible rfl)
  simp only [Act.put,List.setIfInBounds_toArray,List.set_cons_zero,List.set_cons_succ]
  refine Rg.pure 2 (v:=?v3) rfl (by kernel_rfl) (fun _ _ _ h=>h) (by rfl) hHeld ?y3 ?h3
  case y3=>(intro wA;go_simp;first | done | with_reducible rfl)
  simp only [Act.put,List.setIfInBounds_toArray,List.set_cons_zero,List.set_cons_succ]
  refine Rg.pure 4 (v:=?v4) rfl (by kernel_rfl) (fun _ _ _ h=>h) (by rfl) hHeld ?y4 ?h4
  case y4=>(intro wA;go_simp;first | done | with_reducible rfl)
  simp only [Act.put,List.setIfInBounds_toArray,List.set_cons_zero,List.set_cons_succ]
  refine Rg.pure 5 (v:=?v5) rfl (by kernel_rfl) (fun _ _ _ h=>h) (by rfl) hHeld ?y5 ?h5
  case y5=>(intro wA;go_simp;first | done | with_reducible rfl)
  simp only [Act.put,List.setIfInBounds_toArray,List.set_cons_zero,List.set_cons_succ]
  refine Rg.pure 6 (v:=?v6) rfl (by kernel_rfl) (fun _ _ _ h=>h) (by rfl) hHeld ?y6 ?h6
  case y6=>(intro wA;go_simp;first | done | with_reducible rfl)
  simp only [Act.put,List.setIfInBounds_toArray,List.set_cons_zero,List.set_cons_succ]
  refine Rg.held 7 (v:=?v7) rfl (by kernel_rfl) (fun _ _ _ h=>h) (by rfl) hHeld ?y7 ?h7
  case y7=>(intro wA hSw;(try dsimp only at hSw);go_simp;first | done | with_reducible rfl)
  simp only [Act.put,List.setIfInBounds_toArray,List.set_cons_zero,List.set_cons_succ]
  refine Rg.pure 8 (v:=?v8) rfl (by kernel_rfl) (fun _ _ _ h=>h) (by rfl) hHeld ?y8 ?h8
  case y8=>(intro wA;go_simp;first | done | with_reducible rfl)
  simp only [Act.put,List.setIfInBounds_toArray,List.set_cons_zero,List.set_cons_succ]
  refine Rg.pure 9 (v:=?v9) rfl (by kernel_rfl) (fun _ _ _ h=>h) (by rfl) hHeld ?y9 ?h9
  case y9=>(intro wA;go_simp;first | done | with_reducible rfl)
  simp only [Act.put,List.setIfInBounds_toArray,List.set_cons_zero,List.set_cons_succ]
  refine Rg.pure 10 (v:=?v10) rfl (by kernel_rfl) (fun _ _ _ h=>h) (by rfl) hHeld ?y10 ?h10
  case y10=>(intro wA;go_simp;first | done | with_reducible rfl)
  simp only [Act.put,List.setIfInBounds_toArray,List.set_cons_zero,List.set_cons_succ]
  refine Rg.held 11 (v:=?v11) rfl (by kernel_rfl) (fun _ _ _ h=>h) (by rfl) hHeld ?y11 ?h11
  case y11=>(intro wA hSw;(try dsimp only at hSw);go_simp;first | done | with_reducible rfl)
  simp only [Act.put,List.setIfInBounds_toArray,List.set_cons_zero,List.set_cons_succ]
  refine Rg.pure 12 (v:=?v12) rfl (by kernel_rfl) (fun _ _ _ h=>h) (by rfl) hHeld ?y12 ?h12
  case y12=>(intro wA;go_simp;first | done | with_reducible rfl)
  simp only [Act.put,List.setIfInBounds_toArray,List.set_cons_zero,List.set_cons_succ]
  refine Rg.pure 15 (v:=?v13) rfl (by kernel_rfl) (fun _ _ _ h=>h) (by rfl) hHeld ?y13 ?h13
  case y13=>(intro wA;go_simp;first | done | with_reducible rfl)
  simp only [Act.put,List.setIfInBounds_toArray,List.set_cons_zero,List.set_cons_succ]
  have wy1:IntKind.i64.wrap (y1 - 1)=y1 - 1:=by rw [IntKind.wrap_i64];omega
  try simp only [wy1]
  have hzr0:w.heap.size < w3.drew.heap.size:=hnz
  have hzk0:(ap.add (u*4)).block < w3.drew.heap.size:=hkb
  have hzB:=hb1.out.size
  have hz13:=HKK3.out.size
  have HKw:Hid (Keep (fun b=>b=g) w3 w3.drew):=Lib.hid (Keep.refl _ _).drew
  have HCn:Hid (Cb w3.drew g (m+2) Bb):=Lib.hid (HC3.out.below (Below.refl _ _).drew)
  refine Rg.two 3 20 rfl rfl (by kernel_rfl) (fun K hK=>?_) (fun K hK=>?_)
  ·refine step_call 59 rfl rfl ?_
   go_simp
   go_at_call 59
   (with_reducible refine (curName ss.length g _ (by omega)).mono ?_)
   rintro e wn1 ⟨rfl,hbn⟩
   have hKn:Keep (fun b=>b=g) w3.drew wn1:=Keep.of_below hbn
   have HCm:=Lib.hid (HCn.out.below hbn)
   have HKw:=Lib.hid (HKw.out.trans hKn (fun _ _ e=>e))
   have hHeld:wn1.cell? ⟨w.heap.size,0,none⟩=some (.slice (some ap) n.pieces.length c0)∧wn1.cell? ⟨(ap.add (u*4)).block,(ap.add (u*4)).off+1,none⟩=some (.int .i64 y1):=⟨(hKn.cell (p:=⟨w.heap.size,0,none⟩) hzr0 hrg).trans hHeld.1,(hKn.cell (p:=⟨(ap.add (u*4)).block,(ap.add (u*4)).off+1,none⟩) hzk0 hapg).trans hHeld.2⟩
   have hzr0:w.heap.size < wn1.heap.size:=Nat.lt_of_lt_of_le hzr0 hKn.size
   have hzk0:(ap.add (u*4)).block < wn1.heap.size:=Nat.lt_of_lt_of_le hzk0 hKn.size
   clear HCn
   have HCn:=HCm
   clear HCm hKn
   refine hK.out _ _ hHeld ?_
   clear hK K
   try simp only [Act.put,List.setIfInBounds_toArray,List.set_cons_zero,List.set_cons_succ]
   refine Rg.two 13 20 rfl rfl (by kernel_rfl) (fun K hK=>?_) (fun K hK=>?_)
   ·refine step_call 32 rfl rfl ?_
    go_simp
    go_at_call 32
    (with_reducible refine (curWide (y1 - 1) (y1 - 2) g (m+2) Bb _ HCn (by omega) (by omega) (by omega)).mono ?_)
    rintro e wn3 ⟨a,rfl,HVa,HCm,HKm⟩
    have a0:=HVa.out.1
    have a1:=HVa.out.2
    have hKn:=HKm.out
    have HKw:=Lib.hid (HKw.out.trans hKn (fun _ _ e=>e))
    have hHeld:wn3.cell? ⟨w.heap.size,0,none⟩=some (.slice (some ap) n.pieces.length c0)∧wn3.cell? ⟨(ap.add (u*4)).block,(ap.add (u*4)).off+1,none⟩=some (.int .i64 y1):=⟨(hKn.cell (p:=⟨w.heap.size,0,none⟩) hzr0 hrg).trans hHeld.1,(hKn.cell (p:=⟨(ap.add (u*4)).block,(ap.add (u*4)).off+1,none⟩) hzk0 hapg).trans hHeld.2⟩
    have hzr0:w.heap.size < wn3.heap.size:=Nat.lt_of_lt_of_le hzr0 hKn.size
    have hzk0:(ap.add (u*4)).block < wn3.heap.size:=Nat.lt_of_lt_of_le hzk0 hKn.size
    clear HCn
    have HCn:=HCm
    clear HCm hKn
    refine hK.out _ _ hHeld ?_
    clear hK K
    try simp only [Act.put,List.setIfInBounds_toArray,List.set_cons_zero,List.set_cons_succ]
    have wa:IntKind.i64.wrap (1+a)=1+a:=by rw [IntKind.wrap_i64];omega
    refine Rg.pure 14 (v:=?v14) rfl (by kernel_rfl) (fun _ _ _ h=>h) (by rfl) hHeld ?y14 ?h14
    case y14=>(intro wA;go_simp;first | done | with_reducible rfl)
    simp only [Act.put,List.setIfInBounds_toArray,List.set_cons_zero,List.set_cons_succ]
    try simp only [wa]
    refine Rg.two 16 20 rfl rfl (by kernel_rfl) (fun K hK=>?_) (fun K hK=>?_)
    ·refine step_call 33 rfl rfl ?_
     go_simp
     go_at_call 33
     (with_reducible refine (curPick 2 1 g (m+2+2) Bb _ HCn (by omega) (by omega) (by omega) (by omega)).mono ?_)
     rintro e wn5 ⟨b,rfl,HVb,HCm,HKm⟩
     have b0:=HVb.out.1
     have b1:=HVb.out.2
     have hKn:=HKm.out
     have HKw:=Lib.hid (HKw.out.trans hKn (fun _ _ e=>e))
     have hHeld:wn5.cell? ⟨w.heap.size,0,none⟩=some (.slice (some ap) n.pieces.length c0)∧wn5.cell? ⟨(ap.add (u*4)).block,(ap.add (u*4)).off+1,none⟩=some (.int .i64 y1):=⟨(hKn.cell (p:=⟨w.heap.size,0,none⟩) hzr0 hrg).trans hHeld.1,(hKn.cell (p:=⟨(ap.add (u*4)).block,(ap.add (u*4)).off+1,none⟩) hzk0 hapg).trans hHeld.2⟩
     have hzr0:w.heap.size < wn5.heap.size:=Nat.lt_of_lt_of_le hzr0 hKn.size
     have hzk0:(ap.add (u*4)).block < wn5.heap.size:=Nat.lt_of_lt_of_le hzk0 hKn.size
     clear HCn
     have HCn:=HCm
     clear HCm hKn
     refine hK.out _ _ hHeld ?_
     clear hK K
     try simp only [Act.put,List.setIfInBounds_toArray,List.set_cons_zero,List.set_cons_succ]
     have wb:IntKind.i64.wrap (2*b)=2*b:=by rw [IntKind.wrap_i64];omega
     have wb2:IntKind.i64.wrap (1 - 2*b)=1 - 2*b:=by rw [IntKind.wrap_i64];omega
     refine Rg.pure 17 (v:=?v15) rfl (by kernel_rfl) (fun _ _ _ h=>h) (by rfl) hHeld ?y15 ?h15
     case y15=>(intro wA;go_simp;first | done | with_reducible rfl)
     simp only [Act.put,List.setIfInBounds_toArray,List.set_cons_zero,List.set_cons_succ]
     refine Rg.pure 18 (v:=?v16) rfl (by kernel_rfl) (fun _ _ _ h=>h) (by rfl) hHeld ?y16 ?h16
     case y16=>(intro wA;go_simp;first | done | with_reducible rfl)
     simp only [Act.put,List.setIfInBounds_toArray,List.set_cons_zero,List.set_cons_succ]
     refine Rg.pure 19 (v:=?v17) rfl (by kernel_rfl) (fun _ _ _ h=>h) (by rfl) hHeld ?y17 ?h17
     case y17=>(intro wA;go_simp;first | done | with_reducible rfl)
     simp only [Act.put,List.setIfInBounds_toArray,List.set_cons_zero,List.set_cons_succ]
     try simp only [wb,wb2]
     refine Rg.one 20 rfl (by kernel_rfl) (fun K hK=>?_)
     go_simp
     have hba:Below wn5.heap.size wn5 (wn5.alloc (.cells #[.string ⟨#[]⟩,.int .i64 0,.int .i64 0,.int .i64 0] 62)):=below_alloc _ _
     refine hK.out _ _ ⟨cell_below hba hHeld.1,cell_below hba hHeld.2⟩ ?_
     clear hK K
     try simp only [Act.put,List.setIfInBounds_toArray,List.set_cons_zero,List.set_cons_succ]
     refine Rg.row [21] [_] rfl (by kernel_rfl) ?_
     clear hHeld
     go_wp2
     go_meet
     case rel=>exact ⟨_,1+a,1 - 2*b,rfl,by omega,by omega,HKw.out.size,Lib.hid (Blk.new wn5 62 [.string (nameF ss.length),.int .i64 u,.int .i64 (1+a),.int .i64 (1 - 2*b)] rfl),Lib.hid (HCn.out.below (below_alloc _ _)),Lib.hid (HKw.out.alloc _)⟩
    ·go_simp
     obtain ⟨wn6,hwn,hbn,HSB⟩:∃W,W=(wn3.alloc (.cells #[.string ⟨#[]⟩,.int .i64 0,.int .i64 0,.int .i64 0] 62))∧Below wn3.heap.size wn3 W∧Hid (Blk W wn3.heap.size 62 [.string ⟨#[]⟩,.int .i64 0,.int .i64 0,.int .i64 0]):=⟨_,rfl,below_alloc _ _,Lib.hid (Blk.new _ _ _ rfl)⟩
     rw [←hwn]
     clear hwn
     have hsbz:w3.heap.size≤wn3.heap.size:=HKw.out.size
     have hsbg:¬wn3.heap.size=g:=by omega
     have HKw:=Lib.hid (HKw.out.below hbn)
     have HCm:=Lib.hid (HCn.out.below hbn)
     clear HCn
     have HCn:=HCm
     clear HCm
     have hHeld:wn6.cell? ⟨w.heap.size,0,none⟩=some (.slice (some ap) n.pieces.length c0)∧wn6.cell? ⟨(ap.add (u*4)).block,(ap.add (u*4)).off+1,none⟩=some (.int .i64 y1):=⟨cell_below hbn hHeld.1,cell_below hbn hHeld.2⟩
     have hzr0:w.heap.size < wn6.heap.size:=Nat.lt_of_lt_of_le hzr0 hbn.size
     have hzk0:(ap.add (u*4)).block < wn6.heap.size:=Nat.lt_of_lt_of_le hzk0 hbn.size
     refine hK.out _ _ hHeld ?_
     clear hK K hbn
     try simp only [Act.put,List.setIfInBounds_toArray,List.set_cons_zero,List.set_cons_succ]
     refine Rg.one 16 rfl (by kernel_rfl) (fun K hK=>?_)
     refine step_call 33 rfl rfl ?_
     go_simp
     go_at_call 33
     (with_reducible refine (curPick 2 1 g (m+2+2) Bb _ HCn (by omega) (by omega) (by omega) (by omega)).mono ?_)
     rintro e wn7 ⟨b,rfl,HVb,HCm,HKm⟩
     have b0:=HVb.out.1
     have b1:=HVb.out.2
     have hKn:=HKm.out
     have HKw:=Lib.hid (HKw.out.trans hKn (fun _ _ e=>e))
     have hHeld:wn7.cell? ⟨w.heap.size,0,none⟩=some (.slice (some ap) n.pieces.length c0)∧wn7.cell? ⟨(ap.add (u*4)).block,(ap.add (u*4)).off+1,none⟩=some (.int .i64 y1):=⟨(hKn.cell (p:=⟨w.heap.size,0,none⟩) hzr0 hrg).trans hHeld.1,(hKn.cell (p:=⟨(ap.add (u*4)).block,(ap.add (u*4)).off+1,none⟩) hzk0 hapg).trans hHeld.2⟩
     have hzr0:w.heap.size < wn7.heap.size:=Nat.lt_of_lt_of_le hzr0 hKn.size
     have hzk0:(ap.add (u*4)).block < wn7.heap.size:=Nat.lt_of_lt_of_le hzk0 hKn.size
     have HSB:=Lib.hid (HSB.out.keep hKn (by omega))
     clear HCn
     have HCn:=HCm
     clear HCm hKn
     refine hK.out _ _ hHeld ?_
     clear hK K
     try simp only [Act.put,List.setIfInBounds_toArray,List.set_cons_zero,List.set_cons_succ]
     have wb:IntKind.i64.wrap (2*b)=2*b:=by rw [IntKind.wrap_i64];omega
     have wb2:IntKind.i64.wrap (1 - 2*b)=1 - 2*b:=by rw [IntKind.wrap_i64];omega
     refine Rg.pure 17 (v:=?v18) rfl (by kernel_rfl) (fun _ _ _ h=>h) (by rfl) hHeld ?y18 ?h18
     case y18=>(intro wA;go_simp;first | done | with_reducible rfl)
     simp only [Act.put,List.setIfInBounds_toArray,List.set_cons_zero,List.set_cons_succ]
     refine Rg.pure 18 (v:=?v19) rfl (by kernel_rfl) (fun _ _ _ h=>h) (by rfl) hHeld ?y19 ?h19
     case y19=>(intro wA;go_simp;first | done | with_reducible rfl)
     simp only [Act.put,List.setIfInBounds_toArray,List.set_cons_zero,List.set_cons_succ]
     refine Rg.pure 19 (v:=?v20) rfl (by kernel_rfl) (fun _ _ _ h=>h) (by rfl) hHeld ?y20 ?h20
     case y20=>(intro wA;go_simp;first | done | with_reducible rfl)
     simp only [Act.put,List.setIfInBounds_toArray,List.set_cons_zero,List.set_cons_succ]
     try simp only [wb,wb2]
     refine Rg.row [21] [_] rfl (by kernel_rfl) ?_
     clear hHeld
     have q0:=HSB.out.frozen 0
     have q1:=HSB.out.frozen 1
     have q2:=HSB.out.frozen 2
     have q3:=HSB.out.frozen 3
     have q4:=HSB.out.cell 0 rfl
     have q5:=HSB.out.cell 1 rfl
     have q6:=HSB.out.cell 2 rfl
     have q7:=HSB.out.cell 3 rfl
     have q8:wn3.heap.size < wn7.heap.size:=HSB.out.lt
     go_wp2
     go_meet
     case rel =>
      have hkf:Keep (fun b=>b=wn3.heap.size) wn7 ((((wn7.setCell ⟨wn3.heap.size,0,none⟩ (.string (nameF ss.length))).setCell ⟨wn3.heap.size,1,none⟩ (.int .i64 u)).setCell ⟨wn3.heap.size,2,none⟩ (.int .i64 (1+a))).setCell ⟨wn3.heap.size,3,none⟩ (.int .i64 (1 - 2*b))):=((((Keep.refl (fun b=>b=wn3.heap.size) wn7).setCell (p:=⟨wn3.heap.size,0,none⟩) (fun _=>rfl) _).setCell (p:=⟨wn3.heap.size,1,none⟩) (fun _=>rfl) _).setCell (p:=⟨wn3.heap.size,2,none⟩) (fun _=>rfl) _).setCell (p:=⟨wn3.heap.size,3,none⟩) (fun _=>rfl) _
      exact ⟨_,1+a,1 - 2*b,rfl,by omega,by omega,hsbz,Lib.hid ((((HSB.out.set_ 0 _).set_ 1 _).set_ 2 _).set_ 3 _),Lib.hid (HCn.out.keep hkf (fun e=>hsbg e.symm) (fun x hx _ e=>by have h1:=hb1.out.size;omega)),Lib.hid (HKw.out.trans hkf (fun x hx e=>by omega))⟩
   ·go_simp
    obtain ⟨wn4,hwn,hbn,HSB⟩:∃W,W=(wn1.alloc (.cells #[.string ⟨#[]⟩,.int .i64 0,.int .i64 0,.int .i64 0] 62))∧Below wn1.heap.size wn1 W∧Hid (Blk W wn1.heap.size 62 [.string ⟨#[]⟩,.int .i64 0,.int .i64 0,.int .i64 0]):=⟨_,rfl,below_alloc _ _,Lib.hid (Blk.new _ _ _ rfl)⟩
    rw [←hwn]
    clear hwn
    have hsbz:w3.heap.size≤wn1.heap.size:=HKw.out.size
    have hsbg:¬wn1.heap.size=g:=by omega
    have HKw:=Lib.hid (HKw.out.below hbn)
    have HCm:=Lib.hid (HCn.out.below hbn)
    clear HCn
    have HCn:=HCm
    clear HCm
    have hHeld:wn4.cell? ⟨w.heap.size,0,none⟩=some (.slice (some ap) n.pieces.length c0)∧wn4.cell? ⟨(ap.add (u*4)).block,(ap.add (u*4)).off+1,none⟩=some (.int .i64 y1):=⟨cell_below hbn hHeld.1,cell_below hbn hHeld.2⟩
    have hzr0:w.heap.size < wn4.heap.size:=Nat.lt_of_lt_of_le hzr0 hbn.size
    have hzk0:(ap.add (u*4)).block < wn4.heap.size:=Nat.lt_of_lt_of_le hzk0 hbn.size
    refine hK.out _ _ hHeld ?_
    clear hK K hbn
    try simp only [Act.put,List.setIfInBounds_toArray,List.set_cons_zero,List.set_cons_succ]
    refine Rg.one 13 rfl (by kernel_rfl) (fun K hK=>?_)
    refine step_call 32 rfl rfl ?_
    go_simp
    go_at_call 32
    (with_reducible refine (curWide (y1 - 1) (y1 - 2) g (m+2) Bb _ HCn (by omega) (by omega) (by omega)).mono ?_)
    rintro e wn8 ⟨a,rfl,HVa,HCm,HKm⟩
    have a0:=HVa.out.1
    have a1:=HVa.out.2
    have hKn:=HKm.out
    have HKw:=Lib.hid (HKw.out.trans hKn (fun _ _ e=>e))
    have hHeld:wn8.cell? ⟨w.heap.size,0,none⟩=some (.slice (some ap) n.pieces.length c0)∧wn8.cell? ⟨(ap.add (u*4)).block,(ap.add (u*4)).off+1,none⟩=some (.int .i64 y1):=⟨(hKn.cell (p:=⟨w.heap.size,0,none⟩) hzr0 hrg).trans hHeld.1,(hKn.cell (p:=⟨(ap.add (u*4)).block,(ap.add (u*4)).off+1,none⟩) hzk0 hapg).trans hHeld.2⟩
    have hzr0:w.heap.size < wn8.heap.size:=Nat.lt_of_lt_of_le hzr0 hKn.size
    have hzk0:(ap.add (u*4)).block < wn8.heap.size:=Nat.lt_of_lt_of_le hzk0 hKn.size
    have HSB:=Lib.hid (HSB.out.keep hKn (by omega))
    clear HCn
    have HCn:=HCm
    clear HCm hKn
    refine hK.out _ _ hHeld ?_
    clear hK K
    try simp only [Act.put,List.setIfInBounds_toArray,List.set_cons_zero,List.set_cons_succ]
    have wa:IntKind.i64.wrap (1+a)=1+a:=by rw [IntKind.wrap_i64];omega
    refine Rg.pure 14 (v:=?v21) rfl (by kernel_rfl) (fun _ _ _ h=>h) (by rfl) hHeld ?y21 ?h21
    case y21=>(intro wA;go_simp;first | done | with_reducible rfl)
    simp only [Act.put,List.setIfInBounds_toArray,List.set_cons_zero,List.set_cons_succ]
    try simp only [wa]
    refine Rg.one 16 rfl (by kernel_rfl) (fun K hK=>?_)
    refine step_call 33 rfl rfl ?_
    go_simp
    go_at_call 33
    (with_reducible refine (curPick 2 1 g (m+2+2) Bb _ HCn (by omega) (by omega) (by omega) (by omega)).mono ?_)
    rintro e wn9 ⟨b,rfl,HVb,HCm,HKm⟩
    have b0:=HVb.out.1
    have b1:=HVb.out.2
    have hKn:=HKm.out
    have HKw:=Lib.hid (HKw.out.trans hKn (fun _ _ e=>e))
    have hHeld:wn9.cell? ⟨w.heap.size,0,none⟩=some (.slice (some ap) n.pieces.length c0)∧wn9.cell? ⟨(ap.add (u*4)).block,(ap.add (u*4)).off+1,none⟩=some (.int .i64 y1):=⟨(hKn.cell (p:=⟨w.heap.size,0,none⟩) hzr0 hrg).trans hHeld.1,(hKn.cell (p:=⟨(ap.add (u*4)).block,(ap.add (u*4)).off+1,none⟩) hzk0 hapg).trans hHeld.2⟩
    have hzr0:w.heap.size < wn9.heap.size:=Nat.lt_of_lt_of_le hzr0 hKn.size
    have hzk0:(ap.add (u*4)).block < wn9.heap.size:=Nat.lt_of_lt_of_le hzk0 hKn.size
    have HSB:=Lib.hid (HSB.out.keep hKn (by omega))
    clear HCn
    have HCn:=HCm
    clear HCm hKn
    refine hK.out _ _ hHeld ?_
    clear hK K
    try simp only [Act.put,List.setIfInBounds_toArray,List.set_cons_zero,List.set_cons_succ]
    have wb:IntKind.i64.wrap (2*b)=2*b:=by rw [IntKind.wrap_i64];omega
    have wb2:IntKind.i64.wrap (1 - 2*b)=1 - 2*b:=by rw [IntKind.wrap_i64];omega
    refine Rg.pure 17 (v:=?v22) rfl (by kernel_rfl) (fun _ _ _ h=>h) (by rfl) hHeld ?y22 ?h22
    case y22=>(intro wA;go_simp;first | done | with_reducible rfl)
    simp only [Act.put,List.setIfInBounds_toArray,List.set_cons_zero,List.set_cons_succ]
    refine Rg.pure 18 (v:=?v23) rfl (by kernel_rfl) (fun _ _ _ h=>h) (by rfl) hHeld ?y23 ?h23
    case y23=>(intro wA;go_simp;first | done | with_reducible rfl)
    simp only [Act.put,List.setIfInBounds_toArray,List.set_cons_zero,List.set_cons_succ]
    refine Rg.pure 19 (v:=?v24) rfl (by kernel_rfl) (fun _ _ _ h=>h) (by rfl) hHeld ?y24 ?h24
    case y24=>(intro wA;go_simp;first | done | with_reducible rfl)
    simp only [Act.put,List.setIfInBounds_toArray,List.set_cons_zero,List.set_cons_succ]
    try simp only [wb,wb2]
    refine Rg.row [21] [_] rfl (by kernel_rfl) ?_
    clear hHeld
    have q0:=HSB.out.frozen 0
    have q1:=HSB.out.frozen 1
    have q2:=HSB.out.frozen 2
    have q3:=HSB.out.frozen 3
    have q4:=HSB.out.cell 0 rfl
    have q5:=HSB.out.cell 1 rfl
    have q6:=HSB.out.cell 2 rfl
    have q7:=HSB.out.cell 3 rfl
    have q8:wn1.heap.size < wn9.heap.size:=HSB.out.lt
    go_wp2
    go_meet
    case rel =>
     have hkf:Keep (fun b=>b=wn1.heap.size) wn9 ((((wn9.setCell ⟨wn1.heap.size,0,none⟩ (.string (nameF ss.length))).setCell ⟨wn1.heap.size,1,none⟩ (.int .i64 u)).setCell ⟨wn1.heap.size,2,none⟩ (.int .i64 (1+a))).setCell ⟨wn1.heap.size,3,none⟩ (.int .i64 (1 - 2*b))):=((((Keep.refl (fun b=>b=wn1.heap.size) wn9).setCell (p:=⟨wn1.heap.size,0,none⟩) (fun _=>rfl) _).setCell (p:=⟨wn1.heap.size,1,none⟩) (fun _=>rfl) _).setCell (p:=⟨wn1.heap.size,2,none⟩) (fun _=>rfl) _).setCell (p:=⟨wn1.heap.size,3,none⟩) (fun _=>rfl) _
     exact ⟨_,1+a,1 - 2*b,rfl,by omega,by omega,hsbz,Lib.hid ((((HSB.out.set_ 0 _).set_ 1 _).set_ 2 _).set_ 3 _),Lib.hid (HCn.out.keep hkf (fun e=>hsbg e.symm) (fun x hx _ e=>by have h1:=hb1.out.size;omega)),Lib.hid (HKw.out.trans hkf (fun x hx e=>by omega))⟩
  ·go_simp
   obtain ⟨wn2,hwn,hbn,HSB⟩:∃W,W=(w3.alloc (.cells #[.string ⟨#[]⟩,.int .i64 0,.int .i64 0,.int .i64 0] 62)).drew∧Below w3.drew.heap.size w3.drew W∧Hid (Blk W w3.heap.size 62 [.string ⟨#[]⟩,.int .i64 0,.int .i64 0,.int .i64 0]):=⟨_,rfl,(let h:=(below_alloc w3 (.cells #[.string ⟨#[]⟩,.int .i64 0,.int .i64 0,.int .i64 0] 62)).drew;⟨h.os,h.tape,h.output,h.size,h.block⟩),Lib.hid (Blk.new w3 _ _ rfl)⟩
   rw [←hwn]
   clear hwn
   have hsbz:w3.heap.size≤w3.heap.size:=Nat.le_refl _
   have hsbg:¬w3.heap.size=g:=by omega
   have HKw:=Lib.hid (HKw.out.below hbn)
   have HCm:=Lib.hid (HCn.out.below hbn)
   clear HCn
   have HCn:=HCm
   clear HCm
   have hHeld:wn2.cell? ⟨w.heap.size,0,none⟩=some (.slice (some ap) n.pieces.length c0)∧wn2.cell? ⟨(ap.add (u*4)).block,(ap.add (u*4)).off+1,none⟩=some (.int .i64 y1):=⟨cell_below hbn hHeld.1,cell_below hbn hHeld.2⟩
   have hzr0:w.heap.size < wn2.heap.size:=Nat.lt_of_lt_of_le hzr0 hbn.size
   have hzk0:(ap.add (u*4)).block < wn2.heap.size:=Nat.lt_of_lt_of_le hzk0 hbn.size
   refine hK.out _ _ hHeld ?_
   clear hK K hbn
   try simp only [Act.put,List.setIfInBounds_toArray,List.set_cons_zero,List.set_cons_succ]
   refine Rg.one 3 rfl (by kernel_rfl) (fun K hK=>?_)
   refine step_call 59 rfl rfl ?_
   go_simp
   go_at_call 59
   (with_reducible refine (curName ss.length g _ (by omega)).mono ?_)
   rintro e wn10 ⟨rfl,hbn⟩
   have hKn:Keep (fun b=>b=g) wn2 wn10:=Keep.of_below hbn
   have HCm:=Lib.hid (HCn.out.below hbn)
   have HKw:=Lib.hid (HKw.out.trans hKn (fun _ _ e=>e))
   have hHeld:wn10.cell? ⟨w.heap.size,0,none⟩=some (.slice (some ap) n.pieces.length c0)∧wn10.cell? ⟨(ap.add (u*4)).block,(ap.add (u*4)).off+1,none⟩=some (.int .i64 y1):=⟨(hKn.cell (p:=⟨w.heap.size,0,none⟩) hzr0 hrg).trans hHeld.1,(hKn.cell (p:=⟨(ap.add (u*4)).block,(ap.add (u*4)).off+1,none⟩) hzk0 hapg).trans hHeld.2⟩
   have hzr0:w.heap.size < wn10.heap.size:=Nat.lt_of_lt_of_le hzr0 hKn.size
   have hzk0:(ap.add (u*4)).block < wn10.heap.size:=Nat.lt_of_lt_of_le hzk0 hKn.size
   have HSB:=Lib.hid (HSB.out.keep hKn (by omega))
   clear HCn
   have HCn:=HCm
   clear HCm hKn
   refine hK.out _ _ hHeld ?_
   clear hK K
   try simp only [Act.put,List.setIfInBounds_toArray,List.set_cons_zero,List.set_cons_succ]
   refine Rg.one 13 rfl (by kernel_rfl) (fun K hK=>?_)
   refine step_call 32 rfl rfl ?_
   go_simp
   go_at_call 32
   (with_reducible refine (curWide (y1 - 1) (y1 - 2) g (m+2) Bb _ HCn (by omega) (by omega) (by omega)).mono ?_)
   rintro e wn11 ⟨a,rfl,HVa,HCm,HKm⟩
   have a0:=HVa.out.1
   have a1:=HVa.out.2
   have hKn:=HKm.out
   have HKw:=Lib.hid (HKw.out.trans hKn (fun _ _ e=>e))
   have hHeld:wn11.cell? ⟨w.heap.size,0,none⟩=some (.slice (some ap) n.pieces.length c0)∧wn11.cell? ⟨(ap.add (u*4)).block,(ap.add (u*4)).off+1,none⟩=some (.int .i64 y1):=⟨(hKn.cell (p:=⟨w.heap.size,0,none⟩) hzr0 hrg).trans hHeld.1,(hKn.cell (p:=⟨(ap.add (u*4)).block,(ap.add (u*4)).off+1,none⟩) hzk0 hapg).trans hHeld.2⟩
   have hzr0:w.heap.size < wn11.heap.size:=Nat.lt_of_lt_of_le hzr0 hKn.size
   have hzk0:(ap.add (u*4)).block < wn11.heap.size:=Nat.lt_of_lt_of_le hzk0 hKn.size
   have HSB:=Lib.hid (HSB.out.keep hKn (by omega))
   clear HCn
   have HCn:=HCm
   clear HCm hKn
   refine hK.out _ _ hHeld ?_
   clear hK K
   try simp only [Act.put,List.setIfInBounds_toArray,List.set_cons_zero,List.set_cons_succ]
   have wa:IntKind.i64.wrap (1+a)=1+a:=by rw [IntKind.wrap_i64];omega
   refine Rg.pure 14 (v:=?v25) rfl (by kernel_rfl) (fun _ _ _ h=>h) (by rfl) hHeld ?y25 ?h25
   case y25=>(intro wA;go_simp;first | done | with_reducible rfl)
   simp only [Act.put,List.setIfInBounds_toArray,List.set_cons_zero,List.set_cons_succ]
   try simp only [wa]
   refine Rg.one 16 rfl (by kernel_rfl) (fun K hK=>?_)
   refine step_call 33 rfl rfl ?_
   go_simp
   go_at_call 33
   (with_reducible refine (curPick 2 1 g (m+2+2) Bb _ HCn (by omega) (by omega) (by omega) (by omega)).mono ?_)
   rintro e wn12 ⟨b,rfl,HVb,HCm,HKm⟩
   have b0:=HVb.out.1
   have b1:=HVb.out.2
   have hKn:=HKm.out
   have HKw:=Lib.hid (HKw.out.trans hKn (fun _ _ e=>e))
   have hHeld:wn12.cell? ⟨w.heap.size,0,none⟩=some (.slice (some ap) n.pieces.length c0)∧wn12.cell? ⟨(ap.add (u*4)).block,(ap.add (u*4)).off+1,none⟩=some (.int .i64 y1):=⟨(hKn.cell (p:=⟨w.heap.size,0,none⟩) hzr0 hrg).trans hHeld.1,(hKn.cell (p:=⟨(ap.add (u*4)).block,(ap.add (u*4)).off+1,none⟩) hzk0 hapg).trans hHeld.2⟩
   have hzr0:w.heap.size < wn12.heap.size:=Nat.lt_of_lt_of_le hzr0 hKn.size
   have hzk0:(ap.add (u*4)).block < wn12.heap.size:=Nat.lt_of_lt_of_le hzk0 hKn.size
   have HSB:=Lib.hid (HSB.out.keep hKn (by omega))
   clear HCn
   have HCn:=HCm
   clear HCm hKn
   refine hK.out _ _ hHeld ?_
   clear hK K
   try simp only [Act.put,List.setIfInBounds_toArray,List.set_cons_zero,List.set_cons_succ]
   have wb:IntKind.i64.wrap (2*b)=2*b:=by rw [IntKind.wrap_i64];omega
   have wb2:IntKind.i64.wrap (1 - 2*b)=1 - 2*b:=by rw [IntKind.wrap_i64];omega
   refine Rg.pure 17 (v:=?v26) rfl (by kernel_rfl) (fun _ _ _ h=>h) (by rfl) hHeld ?y26 ?h26
   case y26=>(intro wA;go_simp;first | done | with_reducible rfl)
   simp only [Act.put,List.setIfInBounds_toArray,List.set_cons_zero,List.set_cons_succ]
   refine Rg.pure 18 (v:=?v27) rfl (by kernel_rfl) (fun _ _ _ h=>h) (by rfl) hHeld ?y27 ?h27
   case y27=>(intro wA;go_simp;first | done | with_reducible rfl)
   simp only [Act.put,List.setIfInBounds_toArray,List.set_cons_zero,List.set_cons_succ]
   refine Rg.pure 19 (v:=?v28) rfl (by kernel_rfl) (fun _ _ _ h=>h) (by rfl) hHeld ?y28 ?h28
   case y28=>(intro wA;go_simp;first | done | with_reducible rfl)
   simp only [Act.put,List.setIfInBounds_toArray,List.set_cons_zero,List.set_cons_succ]
   try simp only [wb,wb2]
   refine Rg.row [21] [_] rfl (by kernel_rfl) ?_
   clear hHeld
   have q0:=HSB.out.frozen 0
   have q1:=HSB.out.frozen 1
   have q2:=HSB.out.frozen 2
   have q3:=HSB.out.frozen 3
   have q4:=HSB.out.cell 0 rfl
   have q5:=HSB.out.cell 1 rfl
   have q6:=HSB.out.cell 2 rfl
   have q7:=HSB.out.cell 3 rfl
   have q8:w3.heap.size < wn12.heap.size:=HSB.out.lt
   go_wp2
   go_meet
   case rel =>
    have hkf:Keep (fun b=>b=w3.heap.size) wn12 ((((wn12.setCell ⟨w3.heap.size,0,none⟩ (.string (nameF ss.length))).setCell ⟨w3.heap.size,1,none⟩ (.int .i64 u)).setCell ⟨w3.heap.size,2,none⟩ (.int .i64 (1+a))).setCell ⟨w3.heap.size,3,none⟩ (.int .i64 (1 - 2*b))):=((((Keep.refl (fun b=>b=w3.heap.size) wn12).setCell (p:=⟨w3.heap.size,0,none⟩) (fun _=>rfl) _).setCell (p:=⟨w3.heap.size,1,none⟩) (fun _=>rfl) _).setCell (p:=⟨w3.heap.size,2,none⟩) (fun _=>rfl) _).setCell (p:=⟨w3.heap.size,3,none⟩) (fun _=>rfl) _
    exact ⟨_,1+a,1 - 2*b,rfl,by omega,by omega,hsbz,Lib.hid ((((HSB.out.set_ 0 _).set_ 1 _).set_ 2 _).set_ 3 _),Lib.hid (HCn.out.keep hkf (fun e=>hsbg e.symm) (fun x hx _ e=>by have h1:=hb1.out.size;omega)),Lib.hid (HKw.out.trans hkf (fun x hx e=>by omega))⟩
 obtain ⟨sb,a,wy,rfl,ha,hwy,hsb,HB,HCb,HKc⟩:=hcut
 have hsg:¬sb=g:=by have h1:=HKK3.out.size;omega
 have hnz3:=hnz
 have hsn:¬sb=w.heap.size:=by omega
 have HNc:=Lib.hid (HN3.out.keep HKc.out hrg)
 have kc1:wc.cell? ⟨(ap.add (u*4)).block,(ap.add (u*4)).off+1,none⟩=some (.int .i64 y1):=(HKc.out.cell (p:=⟨(ap.add (u*4)).block,(ap.add (u*4)).off+1,none⟩) hkb hapg).trans k1
 have hOg:∀b,(Value.slice A ss.length c).ownBlock=some b→¬b=g:=fun b hb e=>by have:=HO.out b hb;have:=hb1.out.size;omega
 have HRc:=Lib.hid (HR3.out.grownK HKc.out (fun b hb e=>hOg b hb e) (fun _ e=>e.elim))
 have HKKc:=Lib.hid (HKK3.out.trans HKc.out (fun _ _ e=>e))
 have hkbc:(ap.add (u*4)).block < w3.heap.size:=hkb
 have HOs:Hid (∀b,(Value.slice A ss.length c).ownBlock=some b→¬b=sb):=Lib.hid (fun b hb e=>by have:=HR3.out.lt b hb;omega)
 clear HR3 HN3 HP3 HC3 HKK3 HKc k0 k1 k2 k3 n0 hnz
 go_wp2_with fail
 refine (curPick 3 2 g (m+2+2+2) Bb _ HCb (by omega) (by omega) (by omega) (by omega)).mono ?_
 rintro e wd ⟨vd,rfl,HVd,HCd,HKd⟩
 have HBd:=Lib.hid (HB.out.keep HKd.out hsg)
 have HNd:=Lib.hid (HNc.out.keep HKd.out hrg)
 have kd1:wd.cell? ⟨(ap.add (u*4)).block,(ap.add (u*4)).off+1,none⟩=some (.int .i64 y1):=(HKd.out.cell (p:=⟨(ap.add (u*4)).block,(ap.add (u*4)).off+1,none⟩) (World.block_lt_of_cell? _ _ kc1) hapg).trans kc1
 have HRd:=Lib.hid (HRc.out.grownK HKd.out (fun b hb e=>hOg b hb e) (fun _ e=>e.elim))
 have HKKd:=Lib.hid (HKKc.out.trans HKd.out (fun _ _ e=>e))
 clear HB HNc kc1 HRc HKKc HCb HKd
 go_upto_if 50 with (fail)
 go_cut [] (fun wc=>∃a:Int,(1≤a∧a≤y1 - 1)∧Hid (Blk wc sb 62 [.string (nameF ss.length),.int .i64 u,.int .i64 a,.int .i64 wy])∧Hid (Keep (fun b=>b=sb) wd wc))
 case first =>
  have n0:=HNd.out.cell 0 rfl
  have hnz:w.heap.size < wd.heap.size:=HNd.out.lt
  have f2:=HBd.out.frozen 2
  have b2:=HBd.out.cell 2 rfl
  have b3:=HBd.out.cell 3 rfl
  have hbz:sb < wd.heap.size:=HBd.out.lt
  have hapb:¬(ap.add (u*4)).block=sb:=by omega
  have hapb2:¬sb=(ap.add (u*4)).block:=fun e=>hapb e.symm
  by_cases hv:vd=0
  ·have dv:(vd == 0)=true:=by simp [hv]
   by_cases hw:wy=1
   ·have dw:(wy == 1)=true:=by simp [hw]
    go_wp2
    go_meet
    case rel=>exact ⟨y1 - 1,by omega,Lib.hid ((HBd.out.set_ 2 _).set_ 2 _),Lib.hid (((Keep.refl (fun b=>b=sb) wd).setCell (p:=⟨sb,2,none⟩) (fun _=>rfl) _).setCell (p:=⟨sb,2,none⟩) (fun _=>rfl) _)⟩
   ·have dw:(wy == 1)=false:=by simp [hw]
    go_wp2
    go_meet
    case rel=>exact ⟨1,by omega,Lib.hid (HBd.out.set_ 2 _),Lib.hid ((Keep.refl (fun b=>b=sb) wd).setCell (p:=⟨sb,2,none⟩) (fun _=>rfl) _)⟩
  ·have dv:(vd == 0)=false:=by simp [hv]
   go_wp2
   go_meet
   case rel=>exact ⟨a,ha,HBd,Lib.hid (Keep.refl _ _)⟩
 obtain ⟨a',ha',HBe,HKe⟩:=hcut
 obtain ⟨we,rfl⟩:∃we:World,we=wc:=⟨_,rfl⟩
 have HCe:=Lib.hid (HCd.out.keep HKe.out (fun e=>hsg e.symm) (fun b hb _ e=>by have h1:=hb1.out.size;omega))
 have HRe:=Lib.hid (HRd.out.grownK HKe.out (fun b hb e=>HOs.out b hb e) (fun _ e=>e.elim))
 have HKKe:=Lib.hid (HKKd.out.trans HKe.out (fun x hx e=>by have h1:=HWz.out;omega))
 clear HRd HKKd HCd HKe HBd HNd kd1
 obtain ⟨xs,hxs⟩:∃x:Signal,Hid (x=⟨nameF ss.length,u,a',wy⟩):=⟨_,Lib.hid rfl⟩
 have e0:=HBe.out.cell 0 rfl
 have e1:=HBe.out.cell 1 rfl
 have e2:=HBe.out.cell 2 rfl
 have e3:=HBe.out.cell 3 rfl
 have hez:sb < we.heap.size:=HBe.out.lt
 have hba:Below we.heap.size we (we.alloc (.cells #[.string (nameF ss.length),.int .i64 u,.int .i64 a',.int .i64 wy] 62)):=below_alloc _ _
 have SRC:Hid (Kn.Src signalK (we.alloc (.cells #[.string (nameF ss.length),.int .i64 u,.int .i64 a',.int .i64 wy] 62)) nobody (some ⟨we.heap.size,0,none⟩) [xs]):=Lib.hid (by rw [hxs.out];exact Kn.Src.one (signalK_mk _ _ ⟨nameF ss.length,u,a',wy⟩) (new_cells _ _ _ rfl))
 have m63:ss.length+1≤maxLen:=by simp only [maxLen];omega
 have mby:(ss.length+1)*40≤140737488355328:=by omega
 go_upto_region 13 with (at_builtin;refine wpList_append_rw _ rfl (.tmp 63) (.tmp 65) 27 rfl 62 iS _ 40 Try.underlying27 hiS hzS hyS hxS rfl (by decide) (.slice A ss.length c) ss [xs] rfl (HRe.out.below hba) (fun _ h=>h.elim) (some ⟨we.heap.size,0,none⟩) 1 1 rfl rfl SRC.out m63 mby ?_;intro v' w6 HR hg hat;obtain ⟨A9,c9,rfl,hc9⟩:=HR.form1)
 have hK6:Keep (fun b=>(Value.slice A ss.length c).ownBlock=some b) we w6:=(Keep.of_below hba).grown hg (fun k hk _=>hk)
 have HC6:=Lib.hid (HCe.out.keep hK6 (fun e=>hOg g e rfl) (fun b hb _ e=>by have h1:=HO.out b e;have h2:=hb1.out.size;omega))
 have HKK6:=Lib.hid (HKKe.out.trans hK6 (fun x hx e=>by have h1:=HO.out x e;omega))
 have HO6:Hid (∀b,(Value.slice A9 (ss.length+1) c9).ownBlock=some b→W1.heap.size≤b):=Lib.hid (own_next HO.out hat (Nat.le_trans HKKe.out.size hba.size))
 have HR6:=Lib.hid HR
 obtain ⟨ss',hss',hsl',hsb'⟩:∃l,Hid (l=ss++[xs])∧Hid (l.length=ss.length+1)∧l.length≤9:=⟨_,Lib.hid rfl,Lib.hid (by rw [List.length_append,List.length_singleton]),by rw [List.length_append,List.length_singleton];omega⟩
 have HX:Hid (xs.name=nameF ss.length∧signalP n xs):=Lib.hid (by
  rw [hxs.out]
  exact ⟨rfl,nameF_ok (by omega),⟨by show (0:Int)≤(u:Int);omega,by show (u:Int)≤(n.pieces.length:Int) - 1;omega⟩,hwy,_,by rw [show ((u:Int)).toNat=u from rfl];exact EY.out,ha'.1,ha'.2⟩)
 clear HR hg hat hK6 HCe HRe HKKe SRC e0 e1 e2 e3 hba
 go_wp2_with fail
 refine (l1beforeN ss' A9 c9 ss.length (ss.length+1) _ w6 hsl' (by omega) (by rw [←hss'.out] at HR6;exact (Rw_slice HR6.out).2.2) (by have:=hsl'.out;omega)).mono ?_
 rintro e w7 ⟨rfl,hb7⟩
 have HR7:=Lib.hid (HR6.out.below hb7)
 have HC7:=Lib.hid (HC6.out.below hb7)
 have HKK7:=Lib.hid (HKK6.out.below hb7)
 clear HR6 HC6 HKK6 hb7
 have h9:(ss.length:Int)≤(c9:Int):=by omega
 have h90:(0:Int)≤(ss.length:Int):=by omega
 by_cases hbf:before ss' ss.length ss.length
 ·rw [pv_true hbf]
  go_wp2
  go_roundw
  case rel=>exact ⟨t - 1,m+2+2+2+2,c9,ss,A9,rfl,by go_num,by omega,by omega,HS,Lib.hid (Rw_pop rfl HR7.out),Lib.hid (fun b hb=>HO6.out b (by cases A9 with | none=>exact hb | some z=>exact hb)),HC7,HKK7⟩
  case measure=>simp [intOf];omega
 ·rw [pv_false hbf]
  have HS2:Hid (Ss n ss'):=Lib.hid (by
   rw [hss'.out] at hbf ⊢
   exact HS.out.snoc HX.out hbf (by omega))
  go_wp2
  go_roundw
  case rel=>exact ⟨t - 1,m+2+2+2+2,c9,ss',A9,by rw [hsl'.out],by go_num,by rw [hsl'.out];omega,by omega,HS2,by rw [hsl'.out,hss'.out];exact HR7,by rw [hsl'.out];exact HO6,HC7,HKK7⟩
  case measure=>simp [intOf];omega
end Go.Proofs.Ytjccgneimknbpaa.L
namespace Go.Proofs.Ytjccgneimknbpaa.L
open Go.RowKit
def RetDrawn (w:World) (e:Ending) (w':World):Prop :=
 ∃(n:Net) (ss:List Signal) (ov:Int) (A0 A1 A2:Option Addr) (c0 c1 c2:Nat),e=.returned (.tuple #[.agg #[.slice A0 n.pieces.length c0,.slice A1 n.joints.length c1],.slice A2 ss.length c2,.int .i64 ov])∧Hid (Dr n)∧Hid (Ss n ss)∧ss.length≤c2∧0≤ov∧ov≤199 ∧
  Hid (NC 102 w' (fun _=>True) n A0 A1)∧Hid (signalK.C w' (fun _=>True) A2 ss)∧Hid (Below w.heap.size w w')
theorem NC.keepD {eE:Nat} {w w1:World} {ok:Nat→Prop} {S:Nat→Prop} {x:Net} {A0 A1:Option Addr} (h:NC eE w ok x A0 A1) (hk:Keep S w w1) (hn:∀b,ok b→b < w.heap.size→¬S b):NC eE w1 ok x A0 A1 :=
 ⟨Kn.C_mono (fun b hb=>hb.1) (Kn.C_move (fun b hb=>hk.block b hb.2 (hn b hb.1 hb.2)) (Kn.C_bound h.p)),Kn.C_mono (fun b hb=>hb.1) (Kn.C_move (fun b hb=>hk.block b hb.2 (hn b hb.1 hb.2)) (Kn.C_bound h.j))⟩
set_option maxRecDepth 100000 in
set_option maxHeartbeats 4000000 in
theorem drDrawn {ok:Nat→Prop} (bs:List Int) (Ac:Option Addr) (cc:Nat) (w:World) (h:byteK.C w ok Ac bs) (hb:Hid (∀x∈bs,0≤x∧x≤255)):Calls Try.prog 9 #[.slice Ac bs.length cc] w (RetDrawn w):=by
 have HBy:=Lib.hid (Kn.C_bound h)
 clear h
 go_enter Try.func9,Try.ntmps9
 go_upto_region 2 with (fail)
 obtain ⟨W1,hW1,hWs,hb1,HRr,HC1⟩:∃W,W=(w.alloc (.cells #[.slice none 0 0,.slice none 0 0] 26)).alloc (.cells #[.slice Ac bs.length cc,.int .i64 0,.int .u64 0] 75)∧W.heap.size=w.heap.size+2∧Hid (Below w.heap.size w W)∧Hid (Blk W w.heap.size 26 [.slice none 0 0,.slice none 0 0])∧Hid (Cb W (w.heap.size+1) 0 w.heap.size):=by
  have hbb:Below w.heap.size w ((w.alloc (.cells #[.slice none 0 0,.slice none 0 0] 26)).alloc (.cells #[.slice Ac bs.length cc,.int .i64 0,.int .u64 0] 75)):=(below_alloc _ _).alloc (by rw [size_alloc];omega) _
  refine ⟨_,rfl,by rw [size_alloc,size_alloc],Lib.hid hbb,Lib.hid ((Blk.new w 26 [.slice none 0 0,.slice none 0 0] rfl).alloc _),Lib.hid ⟨Ac,cc,bs,0,0,?_,?_,hb.out,Nat.le_refl _⟩⟩
  ·exact Blk.new _ 75 [.slice Ac bs.length cc,.int .i64 ((0:Nat):Int),.int .u64 0] (by rw [size_alloc])
  ·exact Kn.C_mono (fun b hb'=>⟨by have:=hb'.2;omega,hb'.2⟩) (Kn.C_below hbb HBy.out)
 rw [←hW1]
 clear hW1
 have hrg:¬w.heap.size=w.heap.size+1:=by omega
 have HWs:=Lib.hid hWs
 have hWl:w.heap.size+1 < W1.heap.size:=by omega
 have hWb:w.heap.size≤W1.heap.size:=by omega
 clear hWs
 go_wp2_with fail
 refine (drTrack W1 (w.heap.size+1) 0 w.heap.size HC1 hWb (by omega)).mono ?_
 rintro e w2 ⟨n,A0,A1,c0,c1,rfl,HD,HN,HC2,HK2⟩
 have HR2:=Lib.hid (HRr.out.keep HK2.out hrg)
 have hz2:=HK2.out.size
 clear HC1 HRr
 obtain ⟨W3,hW3,hb3,HB3⟩:∃W,W=w2.alloc (.cells #[.slice A0 n.pieces.length c0,.slice A1 n.joints.length c1] 26)∧Hid (Below w2.heap.size w2 W)∧Hid (Blk W w2.heap.size 26 [.slice A0 n.pieces.length c0,.slice A1 n.joints.length c1]):=⟨_,rfl,Lib.hid (below_alloc _ _),Lib.hid (Blk.new _ _ _ rfl)⟩
 have b0:=HB3.out.cell 0 rfl
 have b1:=HB3.out.cell 1 rfl
 have hbz:w2.heap.size < W3.heap.size:=HB3.out.lt
 go_upto_region 3 with (fail)
 rw [←hW3]
 clear hW3
 have HC3:=Lib.hid (HC2.out.below hb3.out)
 have HN3:Hid (NC 102 W3 (fun b=>W1.heap.size≤b) n A0 A1):=Lib.hid (HN.out.below hb3.out)
 have hz3:=hb3.out.size
 go_wp2_with fail
 refine (drSignals n A0 A1 c0 c1 W3 (w.heap.size+1) 210 w.heap.size (Lib.hid (HC3.out.mono (by omega) (Nat.le_refl _))) (by omega) HD (Lib.hid (HN3.out.mono (fun b hb e=>by omega))) (by omega)).mono ?_
 rintro e w4 ⟨ss,A2,c2,rfl,hc2,HS,HSR,HSO,HC4,HK4⟩
 have HB4:=Lib.hid (HB3.out.keep HK4.out (by omega))
 have HR4:=Lib.hid ((HR2.out.below hb3.out HR2.out.lt).keep HK4.out hrg)
 have HN4:=Lib.hid (HN3.out.keepD HK4.out (fun b hb _ e=>by omega))
 have hz4:=HK4.out.size
 have b0:=HB4.out.cell 0 rfl
 have b1:=HB4.out.cell 1 rfl
 clear HN3 HC3 HB3 HR2 HC2
 go_upto_region 4 with (fail)
 refine Rg.start 7 (fun w'=>w'.cell? ⟨w2.heap.size,0,none⟩=some (.slice A0 n.pieces.length c0)∧w'.cell? ⟨w2.heap.size,1,none⟩=some (.slice A1 n.joints.length c1)) 10 rfl (by kernel_rfl) ?_
 have hHeld:w4.drew.cell? ⟨w2.heap.size,0,none⟩=some (.slice A0 n.pieces.length c0)∧w4.drew.cell? ⟨w2.heap.size,1,none⟩=some (.slice A1 n.joints.length c1):=⟨b0,b1⟩
 refine Rg.held 0 (v:=?v1) rfl (by kernel_rfl) (fun _ _ _ h=>h) (by rfl) hHeld ?y1 ?h1
 case y1=>(intro wA hSw;(try dsimp only at hSw);go_simp;first | done | with_reducible rfl)
 simp only [Act.put,List.setIfInBounds_toArray,List.set_cons_zero,List.set_cons_succ]
 refine Rg.pure 1 (v:=?v2) rfl (by kernel_rfl) (fun _ _ _ h=>h) (by rfl) hHeld ?y2 ?h2
 case y2=>(intro wA;go_simp;first | done | with_reducible rfl)
 simp only [Act.put,List.setIfInBounds_toArray,List.set_cons_zero,List.set_cons_succ]
 refine Rg.pure 2 (v:=?v3) rfl (by kernel_rfl) (fun _ _ _ h=>h) (by rfl) hHeld ?y3 ?h3
 case y3=>(intro wA;go_simp;first | done | with_reducible rfl)
 simp only [Act.put,List.setIfInBounds_toArray,List.set_cons_zero,List.set_cons_succ]
 refine Rg.pure 4 (v:=?v4) rfl (by kernel_rfl) (fun _ _ _ h=>h) (by rfl) hHeld ?y4 ?h4
 case y4=>(intro wA;go_simp;first | done | with_reducible rfl)
 simp only [Act.put,List.setIfInBounds_toArray,List.set_cons_zero,List.set_cons_succ]
 refine Rg.one 3 rfl (by kernel_rfl) (fun K hK=>?_)
 refine step_call 32 rfl rfl ?_
 go_simp
 go_at_call 32
 (with_reducible refine (curWide 200 199 (w.heap.size+1) 320 w.heap.size _ (Lib.hid (HC4.out.below (Below.refl _ _).drew)) (by omega) (by omega) (by omega)).mono ?_)
 rintro e w5 ⟨a,rfl,HVa,HC5,HK5⟩
 have a0:=HVa.out.1
 have a1:=HVa.out.2
 have HK5:Hid (Keep (fun b=>b=w.heap.size+1) w4 w5):=Lib.hid ((Keep.refl _ _).drew.trans HK5.out (fun _ _ e=>e))
 have HB5:=Lib.hid (HB4.out.keep HK5.out (by omega))
 have hHeld:w5.cell? ⟨w2.heap.size,0,none⟩=some (.slice A0 n.pieces.length c0)∧w5.cell? ⟨w2.heap.size,1,none⟩=some (.slice A1 n.joints.length c1):=⟨HB5.out.cell 0 rfl,HB5.out.cell 1 rfl⟩
 refine hK.out _ _ hHeld ?_
 clear hK K
 try simp only [Act.put,List.setIfInBounds_toArray,List.set_cons_zero,List.set_cons_succ]
 refine Rg.one 5 rfl (by kernel_rfl) (fun K hK=>?_)
 refine step_call 33 rfl rfl ?_
 go_simp
 go_at_call 33
 (with_reducible refine (curPick 2 1 (w.heap.size+1) (320+2) w.heap.size _ HC5 (by omega) (by omega) (by omega) (by omega)).mono ?_)
 rintro e w6 ⟨b,rfl,HVb,HC6,HK6⟩
 have b2:=HVb.out.1
 have b3:=HVb.out.2
 have HK6:=Lib.hid (HK5.out.trans HK6.out (fun _ _ e=>e))
 have HB6:=Lib.hid (HB4.out.keep HK6.out (by omega))
 have HR6:=Lib.hid (HR4.out.keep HK6.out hrg)
 have hHeld:w6.cell? ⟨w2.heap.size,0,none⟩=some (.slice A0 n.pieces.length c0)∧w6.cell? ⟨w2.heap.size,1,none⟩=some (.slice A1 n.joints.length c1):=⟨HB6.out.cell 0 rfl,HB6.out.cell 1 rfl⟩
 refine hK.out _ _ hHeld ?_
 clear hK K
 try simp only [Act.put,List.setIfInBounds_toArray,List.set_cons_zero,List.set_cons_succ]
 obtain ⟨q,hq,hq0,hq1⟩:∃q:Int,a*b=q∧0≤q∧q≤199:=by
  refine ⟨_,rfl,Int.mul_nonneg a0 b2,?_⟩
  rcases (show b=0∨b=1 by omega) with rfl | rfl
  ·rw [Int.mul_zero];omega
  ·rw [Int.mul_one];omega
 have wq:IntKind.i64.wrap q=q:=by rw [IntKind.wrap_i64];omega
 refine Rg.pure 6 (v:=?v5) rfl (by kernel_rfl) (fun _ _ _ h=>h) (by rfl) hHeld ?y5 ?h5
 case y5=>(intro wA;go_simp;first | done | with_reducible rfl)
 simp only [Act.put,List.setIfInBounds_toArray,List.set_cons_zero,List.set_cons_succ]
 try simp only [hq,wq]
 refine Rg.row [7,8,9] [_,_,_] rfl (by kernel_rfl) ?_
 have r0:=HR6.out.frozen 0
 have r1:=HR6.out.frozen 1
 have rc0:=HR6.out.cell 0 rfl
 have rc1:=HR6.out.cell 1 rfl
 have hzr:w.heap.size < w6.heap.size:=HR6.out.lt
 clear hHeld
 go_wp2
 have hKf:Keep (fun b=>b=w.heap.size) w6 ((w6.setCell ⟨w.heap.size,0,none⟩ (.slice A0 n.pieces.length c0)).setCell ⟨w.heap.size,1,none⟩ (.slice A1 n.joints.length c1)):=((Keep.refl (fun b=>b=w.heap.size) w6).setCell (p:=⟨w.heap.size,0,none⟩) (fun _=>rfl) _).setCell (p:=⟨w.heap.size,1,none⟩) (fun _=>rfl) _
 have hzW:=HWs.out
 have hKA:Keep (fun b=>b=w.heap.size+1) W1 w6:=((HK2.out.below hb3.out).trans HK4.out (fun _ _ e=>e)).trans HK6.out (fun _ _ e=>e)
 have hbe:Below w.heap.size w ((w6.setCell ⟨w.heap.size,0,none⟩ (.slice A0 n.pieces.length c0)).setCell ⟨w.heap.size,1,none⟩ (.slice A1 n.joints.length c1)) :=
  ((Keep.of_below (S:=fun b=>b=w.heap.size∨b=w.heap.size+1) hb1.out).trans ((hKA.mono (S:=fun b=>b=w.heap.size∨b=w.heap.size+1) (fun _ _ e=>.inr e)).trans hKf (fun _ _ e=>.inl e)) (fun _ _ e=>e)).to_below (Nat.le_refl _) (fun k hk e=>by omega)
 have hSC:signalK.C w4 (fun b=>W3.heap.size≤b) A2 ss:=Kn.C_mono (fun b hb=>hb.elim (fun e=>e.elim) (fun e=>HSO.out b e)) (Rw_slice HSR.out).2.2
 have hfin:RetDrawn w (.returned (.tuple #[.agg #[.slice A0 n.pieces.length c0,.slice A1 n.joints.length c1],.slice A2 ss.length c2,.int .i64 q])) ((w6.setCell ⟨w.heap.size,0,none⟩ (.slice A0 n.pieces.length c0)).setCell ⟨w.heap.size,1,none⟩ (.slice A1 n.joints.length c1)) :=
  ⟨n,ss,q,A0,A1,A2,c0,c1,c2,rfl,HD,HS,hc2,hq0,hq1,Lib.hid (((HN4.out.keepD HK6.out (fun b hb _ e=>by omega)).keepD hKf (fun b hb _ e=>by omega)).mono (fun _ _=>trivial)),Lib.hid (Kn.C_mono (fun _ _=>trivial) (Kn.C_move (fun b hb=>(hKf.block b (Nat.lt_of_lt_of_le hb.2 HK6.out.size) (by have:=hb.1;omega)).trans (HK6.out.block b hb.2 (by have:=hb.1;omega))) (Kn.C_bound hSC))),Lib.hid hbe⟩
 exact bodyPost_ret (v:=.tuple #[.agg #[.slice A0 n.pieces.length c0,.slice A1 n.joints.length c1],.slice A2 ss.length c2,.int .i64 q]) (by simp [results,Try.results9,go_sem,hzr,r0,r1,rc0,rc1]) rfl hfin
end Go.Proofs.Ytjccgneimknbpaa.L
