/- A route that is bent, in memory. Lemmas alone. -/
import Derived.Test.YtjccgneimknbpaaNb
import Derived.Deep.CutBlock
import Derived.Laws.AppendOwn
set_option linter.unusedVariables false
set_option linter.unusedSimpArgs false
namespace Go.Proofs.Ytjccgneimknbpaa.L
open Go.RowKit
set_option maxRecDepth 100000 in
set_option maxHeartbeats 32000000 in
theorem drSpoilC {ok:Nat→Prop} (v:Int) (hvX:v=1∨v=6∨v=7∨v=8∨v=9) (n:Net) (A0 A1:Option Addr) (c0 c1:Nat) (w:World) (g k Bb:Nat) (hc:Hid (Cb w g k Bb)) (Ac:Option Addr) (cc ic:Nat) (bs:List Int) (sd:Int) (hce:Hid (Ce w g Bb Ac cc ic bs sd)) (hpk:Hid (∀w',Hid (Ce w' g Bb Ac cc ic bs sd)→Calls Try.prog 33 #[.pointer (some ⟨g,0,none⟩),.int .i64 10] w' (RetCu v v g (k+2) Bb w'))) (hB:Bb≤w.heap.size) (hs:Hid (Sm n)) (h0:0 < n.pieces.length) (h1:n.pieces.length≤40) (h2:n.joints.length≤40) (h3:∀x∈n.joints,x.ends.length≤39) (h:Hid (NC 102 w ok n A0 A1)) (hk:k≤1125899906840000) :
  Calls Try.prog 83 #[.pointer (some ⟨g,0,none⟩),.agg #[.slice A0 n.pieces.length c0,.slice A1 n.joints.length c1]] w (RetSp g (k+400) Bb w):=by
 obtain ⟨iP,hiP,hzP,hyP,hxP⟩:=info_parts dinfo64
 obtain ⟨iJ,hiJ,hzJ,hyJ,hxJ⟩:=info_parts dinfo97
 obtain ⟨iE,hiE,hzE,hyE,hxE⟩:=info_parts dinfo102
 have hgw:=hc.out.lt
 go_enter Try.func83,Try.ntmps83
 go_upto_region 1 with (fail)
 obtain ⟨W1,hW1,hWs,hb1,HBh,HBr⟩:∃W,W=(w.alloc (.cells #[.slice A0 n.pieces.length c0,.slice A1 n.joints.length c1] 26)).alloc (.cells #[.slice none 0 0,.slice none 0 0] 26)∧Hid (W.heap.size=w.heap.size+2)∧Hid (Below w.heap.size w W)∧Hid (Blk W w.heap.size 26 [.slice A0 n.pieces.length c0,.slice A1 n.joints.length c1])∧Hid (Blk W (w.heap.size+1) 26 [.slice none 0 0,.slice none 0 0]):=by
  refine ⟨_,rfl,Lib.hid (by rw [size_alloc,size_alloc]),Lib.hid ((below_alloc _ _).alloc (by rw [size_alloc];omega) _),Lib.hid ((Blk.new w 26 [.slice A0 n.pieces.length c0,.slice A1 n.joints.length c1] rfl).alloc _),Lib.hid (Blk.new _ 26 [.slice none 0 0,.slice none 0 0] (by rw [size_alloc]))⟩
 rw [←hW1]
 clear hW1
 have HN1:=Lib.hid (h.out.below hb1.out)
 have n0:=HBh.out.cell 0 rfl
 have n1:=HBh.out.cell 1 rfl
 have hz0:w.heap.size < W1.heap.size:=HBh.out.lt
 go_wp2_with fail
 refine (spCopy n A0 A1 c0 c1 W1 HN1.out hs).mono ?_
 rintro e w2 ⟨B0,B1,e0,e1,qs,rfl,HP,HR,HQ,HO0,HO1,HB2⟩
 have HBh2:=Lib.hid (HBh.out.below HB2.out HBh.out.lt)
 have HBr2:=Lib.hid (HBr.out.below HB2.out HBr.out.lt)
 have HK2:Hid (Keep (fun b=>b=g) w w2):=Lib.hid (Keep.of_below (hb1.out.trans (HB2.out.mono hb1.out.size)))
 obtain ⟨H3,HR3,HOK⟩:Hid (SN w ((w2.setCell ⟨w.heap.size,0,none⟩ (.slice B0 n.pieces.length e0)).setCell ⟨w.heap.size,1,none⟩ (.slice B1 n.joints.length e1)) w.heap.size (w.heap.size+1) g k Bb n.pieces n.joints (.slice B0 n.pieces.length e0) (.slice B1 n.joints.length e1))∧Hid ((jointK 102).R 97 ((w2.setCell ⟨w.heap.size,0,none⟩ (.slice B0 n.pieces.length e0)).setCell ⟨w.heap.size,1,none⟩ (.slice B1 n.joints.length e1)) (.slice B1 n.joints.length e1) qs)∧Hid (∀z,z∈(qs.map Prod.snd).flatten→OkJ w.heap.size w.heap.size (.slice B0 n.pieces.length e0) (.slice B1 n.joints.length e1) z):=by
  obtain ⟨a1,a2,a3⟩:=SN.of_copy (h:=w.heap.size) (r:=w.heap.size+1) (g:=g) (k:=k) (Bb:=Bb) (We:=w) (W1:=W1) HBh2.out HBr2.out (by omega) (Nat.le_refl _) (by omega) hz0 HP.out HR.out HQ.out HO0.out HO1.out hgw hB (by omega) ((hc.out.below hb1.out).below HB2.out) HK2.out
  exact ⟨Lib.hid a1,Lib.hid a2,Lib.hid a3⟩
 have HCe2:Hid (Ce w2 g Bb Ac cc ic bs sd):=Lib.hid (hce.out.keep (Keep.of_below (S:=fun _=>False) (hb1.out.trans (HB2.out.mono hb1.out.size))) (fun e=>e) (fun _ _ e=>e))
 have HCe3:Hid (Ce ((w2.setCell ⟨w.heap.size,0,none⟩ (.slice B0 n.pieces.length e0)).setCell ⟨w.heap.size,1,none⟩ (.slice B1 n.joints.length e1)) g Bb Ac cc ic bs sd):=Lib.hid (HCe2.out.keep (S:=fun b=>b=w.heap.size) (((Keep.refl (fun b=>b=w.heap.size) w2).setCell (p:=⟨w.heap.size,0,none⟩) (fun _=>rfl) _).setCell (p:=⟨w.heap.size,1,none⟩) (fun _=>rfl) _) (by omega) (fun b hb e=>by omega))
 have u0:=HBh2.out.frozen 0
 have u1:=HBh2.out.frozen 1
 have u2:=HBh2.out.cell 0 rfl
 have u3:=HBh2.out.cell 1 rfl
 have hz2:w.heap.size < w2.heap.size:=HBh2.out.lt
 have HO1g:Hid (∀b,b∈Kn.foot (.slice B1 n.joints.length e1) qs→¬b=g):=Lib.hid (fun b hb e=>by have:=HO1.out b hb;omega)
 have HSM:=hs
 clear n0 n1 hz0 HBh HBr HN1 hc hs
 go_upto_region 2 with (fail)
 obtain ⟨W3,hW3⟩:∃W,W=(w2.setCell ⟨w.heap.size,0,none⟩ (.slice B0 n.pieces.length e0)).setCell ⟨w.heap.size,1,none⟩ (.slice B1 n.joints.length e1):=⟨_,rfl⟩
 rw [←hW3] at H3 HR3 HCe3
 rw [←hW3]
 clear hW3 u0 u1 u2 u3 hz2 HP HR HBh2 HBr2 HB2 HK2 HO0 HO1
 go_wp2_with fail
 refine (hpk.out _ HCe3).mono ?_
 rintro e w4 ⟨v',rfl,HV,HC4,HK4⟩
 obtain rfl:v'=v:=by have:=HV.out;omega
 have H4:=Lib.hid (H3.out.cursor HK4.out HC4.out)
 have HR4:=Lib.hid (Kn.R_move (fun b hb=>HK4.out.block b (Kn.R_lt HR3.out b hb) (HO1g.out b hb)) HR3.out)
 clear HV HC4 HK4 HCe2 HCe3 hce hpk
 go_upto_block 0 with (fail)
 go_cut [] (fun wc=>∃(ps:List Piece) (js:List Joint) (D0 D1:Option Addr) (x0 x1:Nat),Hid (Sm ⟨ps,js⟩)∧Hid (SN w wc w.heap.size (w.heap.size+1) g (k+400) Bb ps js (.slice D0 ps.length x0) (.slice D1 js.length x1)))
 case first =>
  have hS0:Hid (Sm ⟨n.pieces,n.joints⟩):=HSM
  have hvv:=hvX
  clear hvX
  rcases hvv with rfl | rfl | rfl | rfl | rfl
  ·have s0:=H4.out.ns.f.cell 0 rfl
   have f0:=H4.out.ns.f.frozen 0
   have hzh:w.heap.size < w4.heap.size:=H4.out.ns.f.lt
   have HFIN:=Lib.hid (H4.out.nilP)
   have HSM:=Lib.hid hS0.out.nilP
   go_wp2
   go_meet
   case rel=>exact ⟨[],n.joints,none,B1,0,e1,HSM,Lib.hid (SN.later HFIN.out (by omega))⟩
  ·by_cases hj0:0 < n.joints.length
   rotate_left
   ·
    have dl1:decide ((0:Int) < (n.joints.length:Int))=false:=decide_eq_false (by omega)
    have dl2:decide (0 < n.joints.length)=false:=decide_eq_false hj0
    have s1:=H4.out.ns.f.cell 1 rfl
    have hzh:w.heap.size < w4.heap.size:=H4.out.ns.f.lt
    go_wp2
    go_meet
    case rel=>exact ⟨n.pieces,n.joints,B0,B1,e0,e1,hS0,Lib.hid (SN.later H4.out (by omega))⟩
   have dl1:decide ((0:Int) < (n.joints.length:Int))=true:=decide_eq_true (by omega)
   have dl2:decide (0 < n.joints.length)=true:=decide_eq_true hj0
   obtain ⟨js',x,hjs⟩:∃js' x,n.joints=js'++[x]:=⟨n.joints.dropLast,n.joints.getLast (by intro e;rw [e] at hj0;simp at hj0),(List.dropLast_concat_getLast _).symm⟩
   have hjl:n.joints.length=js'.length+1:=by rw [hjs,List.length_append,List.length_singleton]
   obtain ⟨m,hm⟩:∃m:Nat,m=js'.length:=⟨_,rfl⟩
   have HM:=Lib.hid hm
   have HSM:Hid (Sm ⟨n.pieces,js'⟩):=Lib.hid (by have h1:=hS0.out;rw [hjs] at h1;exact h1.popJ)
   have hcap:n.joints.length≤e1:=(Rw_slice H4.out.ns.j).2.1
   have H4b:Hid (SN w w4 w.heap.size (w.heap.size+1) g (k+2) Bb n.pieces (js'++[x]) (.slice B0 n.pieces.length e0) (.slice B1 (m+1) e1)):=Lib.hid (by rw [hm,←hjl,←hjs];exact H4.out)
   have HFIN:=Lib.hid (H4b.out.popJ hm)
   have s1:=H4.out.ns.f.cell 1 rfl
   have f1:=H4.out.ns.f.frozen 1
   have hzh:w.heap.size < w4.heap.size:=H4.out.ns.f.lt
   have wl:IntKind.i64.wrap ((n.joints.length:Int) - 1)=(m:Int):=by rw [IntKind.wrap_i64];omega
   have wl2:(n.joints.length:Int) - 1=(m:Int):=by omega
   have m0:(0:Int)≤(m:Int):=by omega
   have m1:(m:Int)≤(e1:Int):=by omega
   clear hm hjl hjs
   go_wp2
   go_meet
   case rel=>exact ⟨n.pieces,js',B0,B1,e0,e1,HSM,Lib.hid (by have h1:=HFIN.out;rw [HM.out] at h1;rw [←HM.out];rw [←HM.out] at h1;exact SN.later h1 (by omega))⟩
  ·have s1:=H4.out.ns.f.cell 1 rfl
   have hzh:w.heap.size < w4.heap.size:=H4.out.ns.f.lt
   obtain ⟨W5,hW5,hb5,SRC⟩:∃W,W=(w4.alloc (.cells #[.int .i64 0,.int .i64 0] 102)).alloc (.cells #[.int .i64 1,.string ⟨#[]⟩,.slice (some ⟨w4.heap.size,0,none⟩) 1 1] 97)∧Below w4.heap.size w4 W∧Hid (Kn.Src (jointK 102) W (fun b=>OkJ w.heap.size w.heap.size (.slice B0 n.pieces.length e0) (.slice B1 n.joints.length e1) b∧b < W.heap.size) (some ⟨w4.heap.size+1,0,none⟩) [⟨1,⟨#[]⟩,[⟨0,0⟩]⟩]):=by
    have hb:Below w4.heap.size w4 ((w4.alloc (.cells #[.int .i64 0,.int .i64 0] 102)).alloc (.cells #[.int .i64 1,.string ⟨#[]⟩,.slice (some ⟨w4.heap.size,0,none⟩) 1 1] 97)):=(below_alloc _ _).alloc (by rw [size_alloc];omega) _
    refine ⟨_,rfl,hb,Lib.hid (Kn.Src.one (jointK_mk (x:=⟨1,⟨#[]⟩,[⟨0,0⟩]⟩) (Nat.le_refl _) (Kn.C_mono (fun z hz=>H4.out.ns.okNew (by subst hz;exact Nat.le_refl _) (by subst hz;rw [size_alloc,size_alloc];omega)) (Kn.C_below (below_alloc _ _) (endsC [⟨0,0⟩] (by rfl) (Blk.new w4 102 [.int .i64 0,.int .i64 0] rfl))))) (new_cells _ _ _ (by rw [size_alloc])))⟩
   have m63:n.joints.length+1≤maxLen:=by simp only [maxLen];omega
   have mby:(n.joints.length+1)*48≤140737488355328:=by omega
   have hn1:=own_not H4.out.ns.j H4.out.ns.f (by decide)
   have HSM:=Lib.hid (hS0.out.addJ (y:=⟨1,⟨#[]⟩,[⟨0,0⟩]⟩) (by omega) ⟨by decide,by decide⟩)
   go_wp2_with (at_builtin;(try rw [←hW5]);refine wpList_append_rw _ rfl (.tmp 198) (.tmp 202) 24 rfl 97 iJ _ 48 Try.underlying24 hiJ hzJ hyJ hxJ rfl (by decide) (.slice B1 n.joints.length e1) n.joints [⟨1,⟨#[]⟩,[⟨0,0⟩]⟩] rfl (H4.out.ns.forJ hb5) (fun b hb=>hb.1.2.2.2) (some ⟨w4.heap.size+1,0,none⟩) 1 1 rfl rfl SRC.out m63 mby ?_;intro v' w5 HRn hg hat;obtain ⟨A9,c9,rfl,hc9⟩:=HRn.form1;have hA:=H4.out.addJ hb5 HRn hg hat;have hBf:Blk w5 w.heap.size 26 [.slice B0 n.pieces.length e0,.slice B1 n.joints.length e1]:=(hg.block w.heap.size (by have h1:=H4.out.ns.f.lt;have h2:=hb5.size;omega) (fun e=>hn1 e.symm)).trans (H4.out.ns.f.below hb5 H4.out.ns.f.lt);have u0:=hBf.frozen 1;have hz3:w.heap.size < w5.heap.size:=hBf.lt;have u1:=hBf.cell 1 rfl)
   go_meet
   case rel=>exact ⟨n.pieces,_,B0,A9,e0,c9,HSM,Lib.hid (by rw [List.length_append,List.length_singleton];exact SN.later hA (by omega))⟩
  ·have s0:=H4.out.ns.f.cell 0 rfl
   have hzh:w.heap.size < w4.heap.size:=H4.out.ns.f.lt
   have hba:Below w4.heap.size w4 (w4.alloc (.cells #[.string ⟨#[122]⟩,.int .i64 1,.int .i64 1,.int .i64 1] 64)):=below_alloc _ _
   have SRC:Hid (Kn.Src pieceK (w4.alloc (.cells #[.string ⟨#[122]⟩,.int .i64 1,.int .i64 1,.int .i64 1] 64)) nobody (some ⟨w4.heap.size,0,none⟩) [⟨⟨#[122]⟩,1,1,1⟩]):=Lib.hid (Kn.Src.one (pieceK_mk _ _ ⟨⟨#[122]⟩,1,1,1⟩) (new_cells _ _ _ rfl))
   have m63:n.pieces.length+1≤maxLen:=by simp only [maxLen];omega
   have mby:(n.pieces.length+1)*40≤140737488355328:=by omega
   have HSM:=Lib.hid (hS0.out.addP (y:=⟨⟨#[122]⟩,1,1,1⟩) (by omega) (by decide))
   go_wp2_with (at_builtin;refine wpList_append_rw _ rfl (.tmp 208) (.tmp 210) 23 rfl 64 iP _ 40 Try.underlying23 hiP hzP hyP hxP rfl (by decide) (.slice B0 n.pieces.length e0) n.pieces [⟨⟨#[122]⟩,1,1,1⟩] rfl (H4.out.ns.p.below hba) (fun _ h=>h.elim) (some ⟨w4.heap.size,0,none⟩) 1 1 rfl rfl SRC.out m63 mby ?_;intro v' w5 HRn hg hat;obtain ⟨A9,c9,rfl,hc9⟩:=HRn.form1;have hA:=H4.out.addP hba HRn hg hat;have hBf:Blk w5 w.heap.size 26 [.slice B0 n.pieces.length e0,.slice B1 n.joints.length e1]:=(hg.block w.heap.size (by have h1:=H4.out.ns.f.lt;rw [size_alloc];omega) (fun e=>own_not H4.out.ns.p H4.out.ns.f (by decide) e.symm)).trans (H4.out.ns.f.below hba H4.out.ns.f.lt);have u0:=hBf.frozen 0;have hz3:w.heap.size < w5.heap.size:=hBf.lt;have u1:=hBf.cell 0 rfl)
   go_meet
   case rel=>exact ⟨_,n.joints,A9,B1,c9,e1,HSM,Lib.hid (by rw [List.length_append,List.length_singleton];exact SN.later hA (by omega))⟩
  ·go_wp2
   go_loopw [7] (fun iv wr=>∃(ps:List Piece) (js:List Joint) (D0 D1:Option Addr) (x0 x1 m:Nat),Hid (Sm ⟨ps,js⟩)∧ps.length≤101∧js.length≤40+ps.length∧m≤k+2+2*ps.length∧Hid (SN w wr w.heap.size (w.heap.size+1) g m Bb ps js (.slice D0 ps.length x0) (.slice D1 js.length x1))) (fun _ wr=>102 - lenV ((wr.cell? ⟨w.heap.size,0,none⟩).getD undef))
   case atStart=>exact ⟨n.pieces,n.joints,B0,B1,e0,e1,k+2,hS0,by omega,by omega,by omega,H4⟩
   case round =>
   clear H4 HR4 HOK HO1g HQ hS0 h0 h1 h2
   obtain ⟨wo,rfl⟩:∃W:World,W=wr:=⟨_,rfl⟩
   obtain ⟨ps,js,D0,D1,x0,x1,m,HS,hp1,hj1,hm,H⟩:=hrel
   have s0:=H.out.ns.f.cell 0 rfl
   have HS0:=Lib.hid s0
   have hzh:w.heap.size < wo.heap.size:=H.out.ns.f.lt
   go_upto_region 3 with (fail)
   refine Rg.start 6 (fun w'=>w'.cell? ⟨w.heap.size,0,none⟩=some (.slice D0 ps.length x0)) 7 rfl (by kernel_rfl) ?_
   have hHeld:wo.drew.cell? ⟨w.heap.size,0,none⟩=some (.slice D0 ps.length x0):=s0
   refine Rg.p 0 hHeld (h:=?_)
   simp only [Act.put,List.setIfInBounds_toArray,List.set_cons_zero,List.set_cons_succ]
   refine Rg.h 1 hHeld (h:=?_)
   simp only [Act.put,List.setIfInBounds_toArray,List.set_cons_zero,List.set_cons_succ]
   refine Rg.p 2 hHeld (h:=?_)
   simp only [Act.put,List.setIfInBounds_toArray,List.set_cons_zero,List.set_cons_succ]
   refine Rg.p 3 hHeld (h:=?_)
   simp only [Act.put,List.setIfInBounds_toArray,List.set_cons_zero,List.set_cons_succ]
   refine Rg.one 4 rfl (by kernel_rfl) (fun K hK=>?_)
   refine step_call 33 rfl rfl ?_
   go_simp
   go_at_call 33
   (with_reducible refine (curPick 2 1 g m Bb _ (Lib.hid (H.out.below (Below.refl _ _).drew).ns.c) (by omega) (by omega) (by omega) (by omega)).mono ?_)
   rintro e w5 ⟨q,rfl,HV5,HC5,HK5⟩
   have qa:=HV5.out.1
   have qb:=HV5.out.2
   have H5:=Lib.hid (H.out.cursor ((Keep.refl _ _).drew.trans HK5.out (fun _ _ e=>e)) HC5.out)
   refine hK.out _ _ (H5.out.ns.f.cell 0 rfl) ?_
   clear hK K hHeld HC5 HK5 s0 hzh
   try simp only [Act.put,List.setIfInBounds_toArray,List.set_cons_zero,List.set_cons_succ]
   have wq:IntKind.i64.wrap (100+q)=100+q:=by rw [IntKind.wrap_i64];omega
   try simp only [wq]
   have hHeld:w5.cell? ⟨w.heap.size,0,none⟩=some (.slice D0 ps.length x0):=H5.out.ns.f.cell 0 rfl
   refine Rg.p 5 hHeld (h:=?_)
   simp only [Act.put,List.setIfInBounds_toArray,List.set_cons_zero,List.set_cons_succ]
   try simp only [wq]
   refine Rg.row [6] [_] rfl (by kernel_rfl) ?_
   clear hHeld
   by_cases hlt:(ps.length:Int) < 100+q
   rotate_left
   ·have dq:decide ((ps.length:Int) < 100+q)=false:=decide_eq_false hlt
    go_wp2
    go_meet
    case rel=>exact ⟨ps,js,D0,D1,x0,x1,HS,Lib.hid (SN.later H5.out (by omega))⟩
   have dq:decide ((ps.length:Int) < 100+q)=true:=decide_eq_true hlt
   obtain ⟨i,hi⟩:∃i:Nat,Hid (i=ps.length):=⟨_,Lib.hid rfl⟩
   have s0:=H5.out.ns.f.cell 0 rfl
   have hzh:w.heap.size < w5.heap.size:=H5.out.ns.f.lt
   go_upto_region 5 with (fail)
   refine Rg.start 7 (fun w'=>w'.cell? ⟨w.heap.size,0,none⟩=some (.slice D0 ps.length x0)) 10 rfl (by kernel_rfl) ?_
   have hHeld:w5.drew.cell? ⟨w.heap.size,0,none⟩=some (.slice D0 ps.length x0):=s0
   refine Rg.p 0 hHeld (h:=?_)
   simp only [Act.put,List.setIfInBounds_toArray,List.set_cons_zero,List.set_cons_succ]
   refine Rg.h 1 hHeld (h:=?_)
   simp only [Act.put,List.setIfInBounds_toArray,List.set_cons_zero,List.set_cons_succ]
   refine Rg.p 2 hHeld (h:=?_)
   simp only [Act.put,List.setIfInBounds_toArray,List.set_cons_zero,List.set_cons_succ]
   refine Rg.p 3 hHeld (h:=?_)
   simp only [Act.put,List.setIfInBounds_toArray,List.set_cons_zero,List.set_cons_succ]
   refine Rg.one 4 rfl (by kernel_rfl) (fun K hK=>?_)
   refine step_call 59 rfl rfl ?_
   go_simp
   go_at_call 59
   (with_reducible refine (curName ps.length g _ (by omega)).mono ?_)
   rintro e w6 ⟨rfl,hb6⟩
   have hb6:Below w5.heap.size w5 w6:=Below.trans (Below.refl _ _).drew hb6
   have H6:=Lib.hid (H5.out.below hb6)
   have hHeld:w6.cell? ⟨w.heap.size,0,none⟩=some (.slice D0 ps.length x0):=cell_below hb6 s0
   refine hK.out _ _ hHeld ?_
   clear hK K
   try simp only [Act.put,List.setIfInBounds_toArray,List.set_cons_zero,List.set_cons_succ]
   refine Rg.p 5 hHeld (h:=?_)
   simp only [Act.put,List.setIfInBounds_toArray,List.set_cons_zero,List.set_cons_succ]
   refine Rg.one 6 rfl (by kernel_rfl) (fun K hK=>?_)
   go_simp
   have hba:Below w6.heap.size w6 (w6.alloc (.cells #[.string (nameF ps.length),.int .i64 5,.int .i64 9,.int .i64 9] 64)):=below_alloc _ _
   refine hK.out _ _ (cell_below hba hHeld) ?_
   clear hK K
   try simp only [Act.put,List.setIfInBounds_toArray,List.set_cons_zero,List.set_cons_succ]
   refine Rg.row [7,8,9] [_,_,_] rfl (by kernel_rfl) ?_
   have SRC:Hid (Kn.Src pieceK (w6.alloc (.cells #[.string (nameF ps.length),.int .i64 5,.int .i64 9,.int .i64 9] 64)) nobody (some ⟨w6.heap.size,0,none⟩) [⟨nameF ps.length,5,9,9⟩]):=Lib.hid (Kn.Src.one (pieceK_mk _ _ ⟨nameF ps.length,5,9,9⟩) (new_cells _ _ _ rfl))
   have m63:ps.length+1≤maxLen:=by simp only [maxLen];omega
   have mby:(ps.length+1)*40≤140737488355328:=by omega
   have HSM:=Lib.hid (HS.out.addP (y:=⟨nameF ps.length,5,9,9⟩) (by omega) (by have:=(nameF_size (i:=ps.length) (by omega)).1;show (nameF ps.length).size≤40;omega))
   clear hHeld s0 hzh H5
   go_upto_region 6 with (at_builtin;refine wpList_append_rw _ rfl (.tmp 23) (.tmp 28) 23 rfl 64 iP _ 40 Try.underlying23 hiP hzP hyP hxP rfl (by decide) (.slice D0 ps.length x0) ps [⟨nameF ps.length,5,9,9⟩] rfl (H6.out.ns.p.below hba) (fun _ h=>h.elim) (some ⟨w6.heap.size,0,none⟩) 1 1 rfl rfl SRC.out m63 mby ?_;intro v' w7 HRn hg hat;obtain ⟨A9,c9,rfl,hc9⟩:=HRn.form1;have hA:=H6.out.addP hba HRn hg hat;have hBf:Blk w7 w.heap.size 26 [.slice D0 ps.length x0,.slice D1 js.length x1]:=(hg.block w.heap.size (by have h1:=H6.out.ns.f.lt;rw [size_alloc];omega) (fun e=>own_not H6.out.ns.p H6.out.ns.f (by decide) e.symm)).trans (H6.out.ns.f.below hba H6.out.ns.f.lt);have u0:=hBf.frozen 0;have hz3:w.heap.size < w7.heap.size:=hBf.lt;have u1:=hBf.cell 0 rfl)
   obtain ⟨W8,hW8,H8⟩:∃W,W=w7.setCell ⟨w.heap.size,0,none⟩ (.slice A9 (ps.length+1) c9)∧Hid (SN w W w.heap.size (w.heap.size+1) g (m+2) Bb (ps++[⟨nameF ps.length,5,9,9⟩]) js (.slice A9 (ps.length+1) c9) (.slice D1 js.length x1)):=⟨_,rfl,Lib.hid hA⟩
   rw [←hW8]
   clear hW8 hA hBf u0 hz3 u1 HRn hg hat SRC m63 mby H6 hba hb6
   have s1:=H8.out.ns.f.cell 1 rfl
   have hzh:w.heap.size < W8.heap.size:=H8.out.ns.f.lt
   obtain ⟨W5,hW5,hb5,SRC⟩:∃W,W=(W8.alloc (.cells #[.int .i64 ps.length,.int .i64 0,.int .i64 ps.length,.int .i64 1] 102)).alloc (.cells #[.int .i64 2,.string ⟨#[]⟩,.slice (some ⟨W8.heap.size,0,none⟩) 2 2] 97)∧Below W8.heap.size W8 W∧Hid (Kn.Src (jointK 102) W (fun b=>OkJ w.heap.size w.heap.size (.slice A9 (ps.length+1) c9) (.slice D1 js.length x1) b∧b < W.heap.size) (some ⟨W8.heap.size+1,0,none⟩) [⟨2,⟨#[]⟩,[⟨ps.length,0⟩,⟨ps.length,1⟩]⟩]):=by
    have hb:Below W8.heap.size W8 ((W8.alloc (.cells #[.int .i64 ps.length,.int .i64 0,.int .i64 ps.length,.int .i64 1] 102)).alloc (.cells #[.int .i64 2,.string ⟨#[]⟩,.slice (some ⟨W8.heap.size,0,none⟩) 2 2] 97)):=(below_alloc _ _).alloc (by rw [size_alloc];omega) _
    refine ⟨_,rfl,hb,Lib.hid (Kn.Src.one (jointK_mk (x:=⟨2,⟨#[]⟩,[⟨ps.length,0⟩,⟨ps.length,1⟩]⟩) (Nat.le_refl _) (Kn.C_mono (fun z hz=>H8.out.ns.okNew (by subst hz;exact Nat.le_refl _) (by subst hz;rw [size_alloc,size_alloc];omega)) (Kn.C_below (below_alloc _ _) (endsC [⟨ps.length,0⟩,⟨ps.length,1⟩] (by rfl) (Blk.new W8 102 [.int .i64 ps.length,.int .i64 0,.int .i64 ps.length,.int .i64 1] rfl))))) (new_cells _ _ _ (by rw [size_alloc])))⟩
   have m63:js.length+1≤maxLen:=by simp only [maxLen];omega
   have mby:(js.length+1)*48≤140737488355328:=by omega
   have hn1:=own_not H8.out.ns.j H8.out.ns.f (by decide)
   have HSM2:=Lib.hid (HSM.out.addJ (y:=⟨2,⟨#[]⟩,[⟨ps.length,0⟩,⟨ps.length,1⟩]⟩) (by omega) ⟨by show (0:Nat)≤40;omega,by show 2≤40;omega⟩)
   go_wp2_with (at_builtin;(try rw [←hW5]);refine wpList_append_rw _ rfl (.tmp 32) (.tmp 39) 24 rfl 97 iJ _ 48 Try.underlying24 hiJ hzJ hyJ hxJ rfl (by decide) (.slice D1 js.length x1) js [⟨2,⟨#[]⟩,[⟨ps.length,0⟩,⟨ps.length,1⟩]⟩] rfl (H8.out.ns.forJ hb5) (fun b hb=>hb.1.2.2.2) (some ⟨W8.heap.size+1,0,none⟩) 1 1 rfl rfl SRC.out m63 mby ?_;intro v' w9 HRn hg hat;obtain ⟨A8,c8,rfl,hc8⟩:=HRn.form1;have hA:=H8.out.addJ hb5 HRn hg hat;have hBf:Blk w9 w.heap.size 26 [.slice A9 (ps.length+1) c9,.slice D1 js.length x1]:=(hg.block w.heap.size (by have h1:=H8.out.ns.f.lt;have h2:=hb5.size;omega) (fun e=>hn1 e.symm)).trans (H8.out.ns.f.below hb5 H8.out.ns.f.lt);have u0:=hBf.frozen 1;have hz3:w.heap.size < w9.heap.size:=hBf.lt;have u1:=hBf.cell 1 rfl)
   have HA:=Lib.hid hA
   have hc0:=hA.ns.f.cell 0 rfl
   have HC0:=Lib.hid hc0
   clear hA hc0 hBf u0 hz3 u1
   go_roundw
   case rel=>exact ⟨_,_,A9,A8,c9,c8,m+2,HSM2,by rw [List.length_append,List.length_singleton];omega,by rw [List.length_append,List.length_append,List.length_singleton,List.length_singleton];omega,by rw [List.length_append,List.length_singleton];omega,Lib.hid (by rw [List.length_append,List.length_append,List.length_singleton,List.length_singleton];exact HA.out)⟩
   case measure=>rw [HC0.out,HS0.out];simp only [Option.getD_some,lenV];omega
 obtain ⟨ps,js,D0,D1,x0,x1,HS,HSN⟩:=hcut
 have s0:=HSN.out.ns.f.cell 0 rfl
 have s1:=HSN.out.ns.f.cell 1 rfl
 have hzh:w.heap.size < wc.heap.size:=HSN.out.ns.f.lt
 have r0:=HSN.out.rk.frozen 0
 have r1:=HSN.out.rk.frozen 1
 have rc0:=HSN.out.rk.cell 0 rfl
 have rc1:=HSN.out.rk.cell 1 rfl
 have hzr:w.heap.size+1 < wc.heap.size:=HSN.out.rk.lt
 have HF:=Lib.hid (HSN.out.ret HS.out)
 go_wp2
 exact bodyPost_ret (v:=.agg #[.slice D0 ps.length x0,.slice D1 js.length x1]) (by simp [results,Try.results83,go_sem,hzr,r0,r1,rc0,rc1]) rfl HF.out
end Go.Proofs.Ytjccgneimknbpaa.L
namespace Go.Proofs.Ytjccgneimknbpaa.L
open Go.RowKit
theorem drSpoil {ok:Nat→Prop} (n:Net) (A0 A1:Option Addr) (c0 c1:Nat) (w:World) (g k Bb:Nat) (hc:Hid (Cb w g k Bb)) (hB:Bb≤w.heap.size) (hs:Hid (Sm n)) (h0:0 < n.pieces.length) (h1:n.pieces.length≤40) (h2:n.joints.length≤40) (h3:∀x∈n.joints,x.ends.length≤39) (h:Hid (NC 102 w ok n A0 A1)) (hk:k≤1125899906840000) :
  Calls Try.prog 83 #[.pointer (some ⟨g,0,none⟩),.agg #[.slice A0 n.pieces.length c0,.slice A1 n.joints.length c1]] w (RetSp g (k+400) Bb w):=by
 obtain ⟨Ac,cc,ic,bs,sd,hce,hr,hi⟩:=hc.out.ce
 obtain ⟨v,v0,v9,hv⟩:=curPickE 10 g k Bb cc ic Ac bs sd hr hi (by omega) (by omega) (by omega)
 have hvv:v=0∨(v=2∨v=3∨v=4∨v=5)∨(v=1∨v=6∨v=7∨v=8∨v=9):=by omega
 rcases hvv with hvv | hvv | hvv
 ·exact drSpoilA v hvv n A0 A1 c0 c1 w g k Bb hc Ac cc ic bs sd (Lib.hid hce) (Lib.hid hv) hB hs h0 h1 h2 h3 h hk
 ·exact drSpoilB v hvv n A0 A1 c0 c1 w g k Bb hc Ac cc ic bs sd (Lib.hid hce) (Lib.hid hv) hB hs h0 h1 h2 h3 h hk
 ·exact drSpoilC v hvv n A0 A1 c0 c1 w g k Bb hc Ac cc ic bs sd (Lib.hid hce) (Lib.hid hv) hB hs h0 h1 h2 h3 h hk
end Go.Proofs.Ytjccgneimknbpaa.L
namespace Go.Proofs.Ytjccgneimknbpaa.L
open Go.RowKit
section
variable {P:Program} (w:World)
theorem run_zeros_grow (t tn ty e:TypeId) (i:TypeInfo) (z:Value) (ht:P.underlying t=some (.slice e)) (htn:P.underlying tn=some (.int .i64)) (hi:P.info? e=some i) (hz:i.zero=some z)
  (b:Addr) (sLen sCap:Nat) (olds:List Value) (hlo:olds.length=sLen*i.size) (holds:∀j v,olds[j]?=some v→w.cell? (b.add j)=some v)
  (n:Nat) (hn0:¬n*i.size=0) (hn1:n≤1000) (hb1:i.bytes≤1000) (hg:sCap < sLen+n) (h63:((sLen+n:Nat):Int)≤9223372036854775807) (hfit:Builtin.nextslicecap (sLen+n) sCap*i.bytes≤281474976710656) :
  (Builtin.append_ #[t,tn] ty #[.slice (some b) sLen sCap,.int .i64 n]).run P w =
   .ok (.slice (some ⟨w.heap.size,0,none⟩) (sLen+n) (grownCap w (sLen+n) sCap e))
    (w.drew.alloc (.cells (olds.toArray++Builtin.zeroCells z.cells n++Builtin.zeroCells z.cells (grownCap w (sLen+n) sCap e - (sLen+n))) e)):=by
 have hn:¬(sLen+n≤sCap):=by omega
 have h63':¬(9223372036854775807 < ((sLen:Int)+(n:Int))):=by omega
 have h48':¬(281474976710656 < Builtin.nextslicecap (sLen+n) sCap*i.bytes):=by omega
 have hw:IntKind.i64.wrap (n:Int)=n:=by rw [IntKind.wrap_i64];omega
 have hneg:¬((n:Int) < 0):=by omega
 have hm:n*i.bytes≤1000*1000:=Nat.mul_le_mul hn1 hb1
 have h48i:¬(281474976710656 < (n:Int)*(i.bytes:Int)):=by
  rw [←Int.natCast_mul]
  omega
 obtain ⟨hna,hnb⟩:¬n=0∧¬i.size=0:=⟨fun e=>hn0 (by rw [e,Nat.zero_mul]),fun e=>hn0 (by rw [e,Nat.mul_zero])⟩
 have hfo:=run_firstCells_some (P:=P) w.drew i.size sLen b sLen sCap olds hlo (by simpa using holds)
 simp [Builtin.append_,run_underlying ht,run_underlying htn,sizeOf,typeInfo,zeroValue,asInt,asIntOf,hi,hz,hw,hneg,h48i,hna,hnb,hn,h63',h48',Question.forced,hfo,newRow,grownCap]
 exact fun h=>absurd h hn0
theorem run_zeros_room (t tn ty e:TypeId) (i:TypeInfo) (z:Value) (ht:P.underlying t=some (.slice e)) (htn:P.underlying tn=some (.int .i64)) (hi:P.info? e=some i) (hz:i.zero=some z)
  (g sLen sCap:Nat) (cur:Array Value) (hg:w.heap[g]?=some (.cells cur e (0,0))) (n:Nat) (hn0:¬n*i.size=0) (hn1:n≤1000) (hb1:i.bytes≤1000) (h1:∀u∈(Builtin.zeroCells z.cells n).toList,u.oneCell'=true)
  (hroom:sLen+n≤sCap) (hfit:sLen*i.size+(Builtin.zeroCells z.cells n).toList.length≤cur.size) :
  (Builtin.append_ #[t,tn] ty #[.slice (some ⟨g,0,none⟩) sLen sCap,.int .i64 n]).run P w =
   .ok (.slice (some ⟨g,0,none⟩) (sLen+n) sCap) (w.setRow g (cur.toList.take (sLen*i.size)++(Builtin.zeroCells z.cells n).toList++cur.toList.drop (sLen*i.size+(Builtin.zeroCells z.cells n).toList.length)).toArray):=by
 have hst:=run_storeCells_at P g (sLen*i.size) e (Builtin.zeroCells z.cells n).toList 0 cur w hg (by simpa using hfit) h1
 simp only [Nat.add_zero] at hst
 have hw:IntKind.i64.wrap (n:Int)=n:=by rw [IntKind.wrap_i64];omega
 have hneg:¬((n:Int) < 0):=by omega
 have hm:n*i.bytes≤1000*1000:=Nat.mul_le_mul hn1 hb1
 have h48i:¬(281474976710656 < (n:Int)*(i.bytes:Int)):=by
  rw [←Int.natCast_mul]
  omega
 obtain ⟨hna,hnb⟩:¬n=0∧¬i.size=0:=⟨fun e=>hn0 (by rw [e,Nat.zero_mul]),fun e=>hn0 (by rw [e,Nat.mul_zero])⟩
 simp [Builtin.append_,run_underlying ht,run_underlying htn,sizeOf,typeInfo,zeroValue,asInt,asIntOf,hi,hz,hw,hneg,h48i,hna,hnb,hroom,Addr.add_lit]
 rw [if_neg hn0,hst]
 simp
theorem zero_get {z:Array Value} {n k:Nat} {u:Value} (h:(Builtin.zeroCells z n).toList[k]?=some u):z.toList[k % z.size]?=some u:=by
 unfold Builtin.zeroCells at h
 rw [Array.getElem?_toList,Array.getElem?_map,Option.map_eq_some_iff] at h
 obtain ⟨i,hi,hu⟩:=h
 obtain ⟨hk,hi⟩:=Array.getElem?_eq_some_iff.1 hi
 simp only [Array.size_range] at hk
 simp only [Array.getElem_range] at hi
 subst hi
 have hz:0 < z.size:=by
  rcases Nat.eq_zero_or_pos z.size with e | e
  ·rw [e,Nat.mul_zero] at hk
   omega
  ·exact e
 have hl:k % z.size < z.size:=Nat.mod_lt _ hz
 rw [Array.getElem?_toList,Array.getElem?_eq_getElem hl,←hu,getElem!_pos z (k % z.size) hl]
variable {α:Type} {d:Kn α} {ok:Nat→Prop}
theorem run_append_zeros (t tn ty e:TypeId) (i:TypeInfo) (z:Value) (ht:P.underlying t=some (.slice e)) (htn:P.underlying tn=some (.int .i64)) (hi:P.info? e=some i) (hz:i.zero=some z)
  (hsize:i.size=d.sz) (hb1:i.bytes≤1000) (hzs:z.cells.size=d.sz) (hsz:0 < d.sz) (v:Value) (xs:List α) (hown:d.Rw e w ok v xs) (h0:0 < xs.length) (hok:∀b,ok b→¬v.ownBlock=some b) (m:Nat) (hm0:0 < m) (hm:m≤1000) (zx:α) (hzk:∀w,d.K w ok zx z.cells.toList)
  (h63:xs.length+m≤1000000) :
  ∃v' w',(Builtin.append_ #[t,tn] ty #[v,.int .i64 m]).run P w=.ok v' w'∧d.Rw e w' ok v' (xs++List.replicate m zx)∧w.grownBy w' v.ownBlock∧(v'.ownBlock=v.ownBlock∨v'.ownBlock=some w.heap.size):=by
 obtain ⟨inner,ho,hinner⟩:=hown
 have keep:∀{w1:World},w.grownBy w1 v.ownBlock→∀{x:α} {cs:List Value},d.K w ok x cs→d.K w1 ok x cs:=fun hg x cs hk =>
  d.K_mono (fun b hb=>hb.1) (d.K_move (fun b hb=>hg.block b hb.2 (fun e=>hok b hb.1 e.symm)) (d.K_bound hk))
 have hms:¬m*i.size=0:=by
  rw [hsize]
  exact fun e=>by
   rcases Nat.mul_eq_zero.1 e with e | e <;> omega
 have hbytes:(xs.length+m)*i.bytes≤140737488355328:=by
  have:=Nat.mul_le_mul h63 hb1
  omega
 have hzl:(Builtin.zeroCells z.cells m).toList.length=m*d.sz:=by rw [Array.length_toList,size_zeroCells,hzs]
 have hzk2:∀(w:World) (j:Nat) (y:α),(List.replicate m zx)[j]?=some y→d.K w ok y (((Builtin.zeroCells z.cells m).toList.drop (j*d.sz)).take d.sz):=fun w j y hj=>by
  have hjm:j < m:=by
   have:=(List.getElem?_eq_some_iff.1 hj).1
   rwa [List.length_replicate] at this
  obtain rfl:zx=y:=by
   rw [List.getElem?_replicate,if_pos hjm] at hj
   exact Option.some.inj hj
  have hle:j*d.sz+d.sz≤m*d.sz:=by rw [←Nat.succ_mul];exact Nat.mul_le_mul_right _ hjm
  have hc:((Builtin.zeroCells z.cells m).toList.drop (j*d.sz)).take d.sz=z.cells.toList:=by
   apply List.ext_getElem?
   intro k
   rw [List.getElem?_take]
   by_cases hk:k < d.sz
   ·rw [if_pos hk,List.getElem?_drop]
    have hlt:j*d.sz+k < (Builtin.zeroCells z.cells m).toList.length:=by rw [hzl];omega
    have h1:=zero_get (List.getElem?_eq_getElem hlt)
    have hmod:(j*d.sz+k) % d.sz=k:=by rw [Nat.mul_comm,Nat.mul_add_mod,Nat.mod_eq_of_lt hk]
    rw [hzs,hmod] at h1
    rw [List.getElem?_eq_getElem hlt,h1]
   ·rw [if_neg hk,List.getElem?_eq_none (by rw [Array.length_toList,hzs];omega)]
  rw [hc]
  exact hzk w
 have h1:∀u∈(Builtin.zeroCells z.cells m).toList,u.oneCell'=true:=fun u hu=>by
  obtain ⟨k,hk⟩:=List.mem_iff_getElem?.1 hu
  exact d.K_one (hzk w) u (List.mem_of_getElem? (zero_get hk))
 rcases ho.2 with ⟨_,he⟩ | ⟨g,cap,cur,rfl,hbg,hg,hnc,hcm,hcs,htake⟩
 ·omega
 by_cases hroom:xs.length+m≤cap
 ·have hfit:xs.length*i.size+(Builtin.zeroCells z.cells m).toList.length≤cur.size:=by rw [hzl,hcs,hsize,←Nat.add_mul];exact Nat.mul_le_mul_right _ hroom
  have hr:=run_zeros_room (P:=P) w t tn ty e i z ht htn hi hz g xs.length cap cur hg m hms hm hb1 h1 hroom hfit
  have hgr:w.grownBy (w.setRow g (cur.toList.take (xs.length*i.size)++(Builtin.zeroCells z.cells m).toList++cur.toList.drop (xs.length*i.size+(Builtin.zeroCells z.cells m).toList.length)).toArray) (Value.slice (some ⟨g,0,none⟩) xs.length cap).ownBlock:=⟨rfl,rfl,rfl,by simp,fun k _ hk=>setRow_other w g k _ (fun e=>hk (by simp [Value.ownBlock,e]))⟩
  refine ⟨_,_,hr,?_,hgr,Or.inl rfl⟩
  refine Kn.Rw.app (ys:=List.replicate m zx) (inner:=inner) (news:=(Builtin.zeroCells z.cells m).toList) ?_ ho.1 (by rw [List.length_replicate];exact hzl) (fun j x hj=>keep hgr (hinner j x hj)) (fun j y hj=>hzk2 _ j y hj)
  rw [List.length_replicate]
  refine ⟨by rw [List.length_append,ho.1,hzl,Nat.add_mul],.inr ⟨g,cap,_,rfl,hbg,setRow_heap w g cur _ e _ hg,hroom,hcm,?_,?_⟩⟩
  ·simp only [List.size_toArray,List.length_append,List.length_take,List.length_drop,Array.length_toList]
   rw [hzl] at hfit
   have hz2:(Builtin.zeroCells z.cells m).size=m*d.sz:=by rw [size_zeroCells,hzs]
   rw [hz2]
   omega
  ·have hl2:(inner++(Builtin.zeroCells z.cells m).toList).length=(xs.length+m)*d.sz:=by rw [List.length_append,ho.1,hzl,Nat.add_mul]
   rw [hsize,htake,←hl2]
   exact List.take_left
 ·have holds:∀j u,inner[j]?=some u→w.cell? ((⟨g,0,none⟩:Addr).add j)=some u:=ho.cells (g:=g) rfl
  have hr:=run_zeros_grow (P:=P) w t tn ty e i z ht htn hi hz ⟨g,0,none⟩ xs.length cap inner (by rw [hsize];exact ho.1) holds m hms hm hb1 (by omega) (by omega) (growslice_fits (by omega) hbytes)
  have hge:=grownCap_ge w (xs.length+m) cap e
  have hcm2:grownCap w (xs.length+m) cap e≤maxLen:=grownCap_le_maxLen w (xs.length+m) cap e (by simp only [maxLen];omega)
  have hgr:w.grownBy (w.drew.alloc (.cells (inner.toArray++Builtin.zeroCells z.cells m++Builtin.zeroCells z.cells (grownCap w (xs.length+m) cap e - (xs.length+m))) e)) (Value.slice (some ⟨g,0,none⟩) xs.length cap).ownBlock:=⟨rfl,rfl,rfl,by simp,fun k hk _=>heap_alloc_old w.drew _ hk⟩
  refine ⟨_,_,hr,?_,hgr,Or.inr rfl⟩
  refine Kn.Rw.app (ys:=List.replicate m zx) (inner:=inner) (news:=(Builtin.zeroCells z.cells m).toList) ?_ ho.1 (by rw [List.length_replicate];exact hzl) (fun j x hj=>keep hgr (hinner j x hj)) (fun j y hj=>hzk2 _ j y hj)
  rw [List.length_replicate]
  refine ⟨by rw [List.length_append,ho.1,hzl,Nat.add_mul],.inr ⟨w.heap.size,_,_,rfl,Nat.zero_le _,heap_alloc_new w.drew _,hge,hcm2,?_,?_⟩⟩
  ·simp only [Array.size_append,List.size_toArray,size_zeroCells,hzs,ho.1,←Nat.add_mul]
   congr 1
   omega
  ·have hl2:(inner++(Builtin.zeroCells z.cells m).toList).length=(xs.length+m)*d.sz:=by rw [List.length_append,ho.1,hzl,Nat.add_mul]
   simp only [Array.toList_append,List.append_assoc]
   rw [←List.append_assoc,←hl2]
   exact List.take_left
theorem wpList_append_zeros {ops:Array Oper} {rest:List Oper} {o:Oper} {a:Act} {Q:Exit→Act→World→Prop} (hgd:o.guard=none) (s x:Operand) (t tn:TypeId)
  (ho:o.op=.call { callee:=.builtin .append,args:=#[s,x],argTypes:=#[t,tn] })
  (e:TypeId) (i:TypeInfo) (z:Value) (ht:P.underlying t=some (.slice e)) (htn:P.underlying tn=some (.int .i64)) (hi:P.info? e=some i) (hz:i.zero=some z)
  (hsize:i.size=d.sz) (hb1:i.bytes≤1000) (hzs:z.cells.size=d.sz) (hsz:0 < d.sz) (v:Value) (xs:List α) (hs:a.eval s=v) (hown:d.Rw e w ok v xs) (h0:0 < xs.length) (hok:∀b,ok b→¬v.ownBlock=some b) (m:Nat) (hx:a.eval x=.int .i64 m) (hm0:0 < m) (hm:m≤1000) (zx:α) (hzk:∀w,d.K w ok zx z.cells.toList)
  (h63:xs.length+m≤1000000)
  (h:∀v' w',d.Rw e w' ok v' (xs++List.replicate m zx)→w.grownBy w' v.ownBlock→(v'.ownBlock=v.ownBlock∨v'.ownBlock=some w.heap.size)→wpList P ops Q rest (a.put o.dst v') w'):wpList P ops Q (o::rest) a w :=
 wpList_plain hgd fun K hK=>by
  obtain ⟨v',w',hrun,h2,h3,h4⟩:=run_append_zeros (P:=P) w t tn o.type e i z ht htn hi hz hsize hb1 hzs hsz v xs hown h0 hok m hm0 hm zx hzk h63
  unfold Oper.wp execOp
  simp only [ho,resolve,invoke,builtin,Sem.run_bind,Sem.run_pure,Result.andThen_ok,List.map_toArray,List.map_cons,List.map_nil,hs,hx,hrun]
  exact hK _ _ (h v' w' h2 h3 h4)
end
end Go.Proofs.Ytjccgneimknbpaa.L
namespace Go.Proofs.Ytjccgneimknbpaa.L
open Go.RowKit
theorem signalK_put0 {x:Signal} {z:ByteArray}:∀(w:World) (cs:List Value),signalK.K w nobody x cs→signalK.K w nobody { x with name:=z } (cs.set 0 (.string z)):=fun w cs h=>by rw [signalK_open h];exact signalK_mk _ _ { x with name:=z }
theorem signalK_put1 {x:Signal} {z:Int}:∀(w:World) (cs:List Value),signalK.K w nobody x cs→signalK.K w nobody { x with piece:=z } (cs.set 1 (.int .i64 z)):=fun w cs h=>by rw [signalK_open h];exact signalK_mk _ _ { x with piece:=z }
theorem signalK_put2 {x:Signal} {z:Int}:∀(w:World) (cs:List Value),signalK.K w nobody x cs→signalK.K w nobody { x with at_:=z } (cs.set 2 (.int .i64 z)):=fun w cs h=>by rw [signalK_open h];exact signalK_mk _ _ { x with at_:=z }
theorem signalK_put3 {x:Signal} {z:Int}:∀(w:World) (cs:List Value),signalK.K w nobody x cs→signalK.K w nobody { x with way:=z } (cs.set 3 (.int .i64 z)):=fun w cs h=>by rw [signalK_open h];exact signalK_mk _ _ { x with way:=z }
structure SS5 (We w:World) (g k Bb B m:Nat) (v:Value) (v0:Value) (ss:List Signal):Prop where
 r:signalK.Rw 62 w nobody v ss
 o:∀b,v.ownBlock=some b→B≤b
 gB:g < B
 bB:Bb≤B
 BW:B≤We.heap.size
 len:ss.length≤m
 nm:∀s∈ss,s.name.size≤40
 c:Cb w g k Bb
 K:Keep (fun b=>b=g∨v0.ownBlock=some b) We w
 f:∀b,v.ownBlock=some b→v0.ownBlock=some b∨We.heap.size≤b
section
variable {We w w' wa w2:World} {g k m q Bb B:Nat} {v v' v0:Value} {ss:List Signal}
theorem SS5.below (H:SS5 We w g k Bb B m v v0 ss) (hb:Below w.heap.size w w'):SS5 We w' g k Bb B m v v0 ss:=⟨H.r.below hb,H.o,H.gB,H.bB,H.BW,H.len,H.nm,H.c.below hb,H.K.below hb,H.f⟩
theorem SS5.cursor (H:SS5 We w g k Bb B m v v0 ss) (hk:Keep (fun b=>b=g) w w') (hc:Cb w' g q Bb):SS5 We w' g q Bb B m v v0 ss :=
 ⟨H.r.grownK hk (fun b hb e=>by have:=H.o b hb;have:=H.gB;omega) (fun _ e=>e.elim),H.o,H.gB,H.bB,H.BW,H.len,H.nm,hc,H.K.trans hk (fun x _ e=>.inl e),H.f⟩
theorem SS5.later (H:SS5 We w g k Bb B m v v0 ss) (hq:k≤q):SS5 We w g q Bb B m v v0 ss:=⟨H.r,H.o,H.gB,H.bB,H.BW,H.len,H.nm,H.c.mono hq (Nat.le_refl _),H.K,H.f⟩
theorem SS5.more (H:SS5 We w g k Bb B m v v0 ss) (hq:m≤q):SS5 We w g k Bb B q v v0 ss:=⟨H.r,H.o,H.gB,H.bB,H.BW,Nat.le_trans H.len hq,H.nm,H.c,H.K,H.f⟩
theorem SS5.put {b N c j f:Nat} {x y:Signal} {u:Value} (H:SS5 We w g k Bb B m (.slice (some ⟨b,0,none⟩) N c) v0 ss) (hx:ss[j]?=some x) (hf:f < 4) (hk:∀w cs,signalK.K w nobody x cs→signalK.K w nobody y (cs.set f u)) (hy:y.name.size≤40) :
  SS5 We (w.setCell ⟨b,j*4+f,none⟩ u) g k Bb B m (.slice (some ⟨b,0,none⟩) N c) v0 (ss.set j y):=by
 have hb:(Value.slice (some ⟨b,0,none⟩) N c).ownBlock=some b:=rfl
 have hK:Keep (fun x=>x=b) w (w.setCell ⟨b,j*4+f,none⟩ u):=(Keep.refl (fun x=>x=b) w).setCell (p:=⟨b,j*4+f,none⟩) (fun _=>rfl) u
 have h1:=H.o b hb
 have h2:=H.gB
 have h3:=H.bB
 refine ⟨Rw_put (d:=signalK) H.r hx hf hk (fun z hz=>hz.elim),H.o,H.gB,H.bB,H.BW,by rw [List.length_set];exact H.len,fun s hs=>(List.mem_or_eq_of_mem_set hs).elim (fun e=>H.nm s e) (fun e=>by rw [e];exact hy),H.c.keep hK (by omega) (fun x hx _ e=>by omega),H.K.trans hK (fun x hx e=>?_),H.f⟩
 have e':x=b:=e
 subst e'
 rcases H.f x hb with e2 | e2
 ·exact .inr e2
 ·omega
theorem SS5.app {ss':List Signal} (H:SS5 We w g k Bb B m v v0 ss) (hb:Below w.heap.size w wa) (hr:signalK.Rw 62 w2 nobody v' ss') (hg:wa.grownBy w2 v.ownBlock) (hat:v'.ownBlock=v.ownBlock∨v'.ownBlock=some wa.heap.size) (hl:ss'.length≤q) (hn:∀s∈ss',s.name.size≤40):SS5 We w2 g k Bb B q v' v0 ss':=by
 have hK:Keep (fun x=>v.ownBlock=some x) w w2:=(Keep.of_below hb).grown hg (fun k hk _=>hk)
 have h2:=H.gB
 have h3:=H.bB
 have hs:=H.K.size
 have hbs:=hb.size
 refine ⟨hr,own_next H.o hat (by have:=H.BW;omega),H.gB,H.bB,H.BW,hl,hn,H.c.keep hK (fun e=>by have:=H.o g e;omega) (fun x hx _ e=>by have:=H.o x e;omega),H.K.trans hK (fun x hx e=>?_),fun b hb'=>?_⟩
 ·rcases H.f x e with e2 | e2
  ·exact .inr e2
  ·omega
 ·rcases hat with hat | hat
  ·exact H.f b (by rw [←hat];exact hb')
  ·have:wa.heap.size=b:=Option.some.inj (hat.symm.trans hb')
   exact .inr (by omega)
end
def RetSs (g k Bb B m:Nat) (v0:Value) (w:World) (e:Ending) (w':World):Prop :=
 ∃(ss:List Signal) (A:Option Addr) (c:Nat),e=.returned (.slice A ss.length c)∧Hid (SS5 w w' g k Bb B m (.slice A ss.length c) v0 ss)
set_option maxRecDepth 100000 in
set_option maxHeartbeats 16000000 in
theorem drSpoilS (N m:Nat) (v1:Value) (A0 Ac:Option Addr) (c0 cc:Nat) (ss:List Signal) (w:World) (g k Bb B:Nat) (H:Hid (SS5 w w g k Bb B m (.slice Ac ss.length cc) (.slice Ac ss.length cc) ss)) (hN:N≤1000) (hm:m≤200) (hk:k≤1125899906840000) :
  Calls Try.prog 84 #[.pointer (some ⟨g,0,none⟩),.agg #[.slice A0 N c0,v1],.slice Ac ss.length cc] w (RetSs g (k+10) Bb B (m+60) (.slice Ac ss.length cc) w):=by
 obtain ⟨iS,hiS,hzS,hyS,hxS⟩:=info_parts dinfo62
 have hsl:=H.out.len
 by_cases h0:ss.length=0
 ·have d0:((ss.length:Int) == 0)=true:=int_eqt (by omega)
  have d0':(ss.length == 0)=true:=by simpa using h0
  have HF:Hid (SS5 w w g (k+10) Bb B (m+60) (.slice Ac ss.length cc) (.slice Ac ss.length cc) ss):=Lib.hid ((H.out.later (by omega)).more (by omega))
  clear h0
  go_enter Try.func84,Try.ntmps84
  have HF2:Hid (SS5 w (w.alloc (.cells #[.slice A0 N c0,v1] 26)) g (k+10) Bb B (m+60) (.slice Ac ss.length cc) (.slice Ac ss.length cc) ss):=Lib.hid (HF.out.below (below_alloc _ _))
  go_wp2
  go_ret
  exact ⟨ss,Ac,cc,rfl,HF2⟩
 have d0:((ss.length:Int) == 0)=false:=int_eqf (by omega)
 have d0':(ss.length == 0)=false:=by simpa using h0
 have hp0:0 < ss.length:=by omega
 clear h0
 obtain ⟨b0,rfl⟩:=Rw_addr H.out.r hp0
 go_enter Try.func84,Try.ntmps84
 obtain ⟨W1,hW1,hb1,HBn⟩:∃W,W=w.alloc (.cells #[.slice A0 N c0,v1] 26)∧Below w.heap.size w W∧Hid (Blk W w.heap.size 26 [.slice A0 N c0,v1]):=⟨_,rfl,below_alloc _ _,Lib.hid (Blk.new _ _ _ rfl)⟩
 have H1:=Lib.hid (H.out.below hb1)
 have hng:¬w.heap.size=g:=by have:=H.out.gB;have:=H.out.BW;omega
 go_wp2_with fail
 rw [←hW1]
 clear hW1
 refine (curPick ss.length ((ss.length:Int) - 1) g k Bb _ (Lib.hid H1.out.c) (by omega) (by omega) (by omega) (by omega)).mono ?_
 rintro e w2 ⟨v2,rfl,HV2,HC2,HK2⟩
 obtain ⟨u,rfl,hu⟩:=pickup HV2.out.1 HV2.out.2
 have H2:=Lib.hid (H1.out.cursor HK2.out HC2.out)
 have HB2:=Lib.hid (HBn.out.keep HK2.out hng)
 have q0:(0:Int)≤(u:Int):=Int.natCast_nonneg _
 have q1:(u:Int) < (ss.length:Int):=by omega
 clear H1 HV2 HC2 HK2 HBn
 go_wp2_with fail
 refine (curPick 6 5 g (k+2) Bb _ (Lib.hid H2.out.c) (by omega) (by omega) (by omega) (by omega)).mono ?_
 rintro e w6 ⟨v,rfl,HV6,HC6,HK6⟩
 have H6:=Lib.hid (H2.out.cursor HK6.out HC6.out)
 have HB6:=Lib.hid (HB2.out.keep HK6.out hng)
 have hv0:=HV6.out.1
 have hv5:=HV6.out.2
 clear H2 HV6 HC6 HK6 HB2
 go_upto_block 0 with (fail)
 go_cut [2] (fun sv wc=>∃(ss':List Signal) (A':Option Addr) (c':Nat),sv=.slice A' ss'.length c'∧Hid (SS5 w wc g (k+10) Bb B (m+60) (.slice A' ss'.length c') (.slice (some ⟨b0,0,none⟩) ss.length cc) ss'))
 case first =>
  obtain ⟨x,hx⟩:∃x,ss[u]?=some x:=⟨_,List.getElem?_eq_getElem hu⟩
  have hxn:=H6.out.nm x (List.mem_of_getElem? hx)
  have HXX:=Lib.hid hx
  clear hx
  have hvv:v=0∨v=1∨v=2∨v=3∨v=4∨v=5:=by omega
  rcases hvv with rfl | rfl | rfl | rfl | rfl | rfl
  ·obtain ⟨W7,hW7,hb7,HT7⟩:∃W,W=w6.alloc (.cells #[.string ⟨#[]⟩,.string ⟨#[97,48]⟩,.string ⟨#[65]⟩,.string ⟨#[98,49]⟩] 9)∧Below w6.heap.size w6 W∧Hid (Blk W w6.heap.size 9 [.string ⟨#[]⟩,.string ⟨#[97,48]⟩,.string ⟨#[65]⟩,.string ⟨#[98,49]⟩]):=⟨_,rfl,below_alloc _ _,Lib.hid (Blk.new _ _ _ rfl)⟩
   have H7:=Lib.hid (H6.out.below hb7)
   have htg:¬w6.heap.size=g:=by have:=H6.out.c.lt;omega
   go_wp2_with fail
   rw [←hW7]
   clear hW7
   refine (curPick 4 3 g (k+2+2) Bb _ (Lib.hid H7.out.c) (by omega) (by omega) (by omega) (by omega)).mono ?_
   rintro e w8 ⟨t8,rfl,HV8,HC8,HK8⟩
   obtain ⟨t,rfl,ht⟩:∃t:Nat,t8=t∧t < 4:=⟨t8.toNat,by have:=HV8.out;omega,by have:=HV8.out;omega⟩
   have H8:=Lib.hid (H7.out.cursor HK8.out HC8.out)
   have HT8:=Lib.hid (HT7.out.keep HK8.out htg)
   obtain ⟨z,hz,hzs⟩:=tab_str (zs:=[⟨#[]⟩,⟨#[97,48]⟩,⟨#[65]⟩,⟨#[98,49]⟩]) HT8.out (by kernel_rfl) (j:=t) (by simpa using ht)
   have t0:(0:Int)≤(t:Int):=Int.natCast_nonneg _
   have t1:(t:Int) < 4:=by omega
   have hzt:w6.heap.size < w8.heap.size:=HT8.out.lt
   clear H7 HT7 hb7
   obtain ⟨⟨yc,c8⟩,f8⟩:=Rw_cell (f:=0) H8.out.r hu (by decide)
   have hsz:signalK.sz=4:=rfl
   rw [hsz,Nat.add_zero] at c8 f8
   have hzb:b0 < w8.heap.size:=World.block_lt_of_cell? _ _ c8
   have HFIN:=Lib.hid (H8.out.put (j:=u) (f:=0) HXX.out (by decide) (signalK_put0 (z:=z)) hzs)
   obtain ⟨sn,hsn⟩:∃l,Hid (ss.set u { x with name:=z }=l):=⟨_,Lib.hid rfl⟩
   rw [hsn.out] at HFIN
   have HLS:Hid (Value.slice (some ⟨b0,0,none⟩) ss.length cc=.slice (some ⟨b0,0,none⟩) sn.length cc):=Lib.hid (by rw [←hsn.out,List.length_set])
   have HF2:Hid (SS5 w _ g (k+10) Bb B (m+60) (.slice (some ⟨b0,0,none⟩) sn.length cc) (.slice (some ⟨b0,0,none⟩) ss.length cc) sn):=Lib.hid (by rw [←HLS.out];exact (HFIN.out.later (show k+2+2+2≤k+10 by omega)).more (show m≤m+60 by omega))
   clear H6 H8 HC8 HK8 HV8
   go_wp2
   go_meet
   case rel=>exact ⟨_,some ⟨b0,0,none⟩,cc,HLS.out,HF2⟩
  ·have n0:=HB6.out.cell 0 rfl
   have hzn:w.heap.size < w6.heap.size:=HB6.out.lt
   have wN:IntKind.i64.wrap ((N:Int)+2)=(N:Int)+2:=by rw [IntKind.wrap_i64];omega
   go_wp2_with fail
   refine (curPick ((N:Int)+2) ((N:Int)+1) g (k+2+2) Bb _ (Lib.hid H6.out.c) (by omega) (by omega) (by omega) (by omega)).mono ?_
   rintro e w8 ⟨z0,rfl,HV8,HC8,HK8⟩
   have hza:=HV8.out.1
   have hzb':=HV8.out.2
   obtain ⟨z,hz⟩:∃z,Hid (z0 - 1=z):=⟨_,Lib.hid rfl⟩
   have wz:IntKind.i64.wrap (z0 - 1)=z:=by rw [←hz.out,IntKind.wrap_i64];omega
   have H8:=Lib.hid (H6.out.cursor HK8.out HC8.out)
   clear n0 hzn
   obtain ⟨⟨yc,c8⟩,f8⟩:=Rw_cell (f:=1) H8.out.r hu (by decide)
   have hsz:signalK.sz=4:=rfl
   rw [hsz] at c8 f8
   have hzb:b0 < w8.heap.size:=World.block_lt_of_cell? _ _ c8
   have HFIN:=Lib.hid (H8.out.put (j:=u) (f:=1) HXX.out (by decide) (signalK_put1 (z:=z)) hxn)
   obtain ⟨sn,hsn⟩:∃l,Hid (ss.set u { x with piece:=z }=l):=⟨_,Lib.hid rfl⟩
   rw [hsn.out] at HFIN
   have HLS:Hid (Value.slice (some ⟨b0,0,none⟩) ss.length cc=.slice (some ⟨b0,0,none⟩) sn.length cc):=Lib.hid (by rw [←hsn.out,List.length_set])
   have HF2:Hid (SS5 w _ g (k+10) Bb B (m+60) (.slice (some ⟨b0,0,none⟩) sn.length cc) (.slice (some ⟨b0,0,none⟩) ss.length cc) sn):=Lib.hid (by rw [←HLS.out];exact (HFIN.out.later (show k+2+2+2≤k+10 by omega)).more (show m≤m+60 by omega))
   clear H6 H8 HC8 HK8 HV8
   go_wp2
   go_meet
   case rel=>exact ⟨_,some ⟨b0,0,none⟩,cc,HLS.out,HF2⟩
  ·obtain ⟨W7,hW7,hb7,HT7⟩:∃W,W=w6.alloc (.cells #[.int .i64 0,.int .i64 1,.int .i64 (-1),.int .i64 100000] 3)∧Below w6.heap.size w6 W∧Hid (Blk W w6.heap.size 3 [.int .i64 0,.int .i64 1,.int .i64 (-1),.int .i64 100000]):=⟨_,rfl,below_alloc _ _,Lib.hid (Blk.new _ _ _ rfl)⟩
   have H7:=Lib.hid (H6.out.below hb7)
   have htg:¬w6.heap.size=g:=by have:=H6.out.c.lt;omega
   go_wp2_with fail
   rw [←hW7]
   clear hW7
   refine (curPick 4 3 g (k+2+2) Bb _ (Lib.hid H7.out.c) (by omega) (by omega) (by omega) (by omega)).mono ?_
   rintro e w8 ⟨t8,rfl,HV8,HC8,HK8⟩
   obtain ⟨t,rfl,ht⟩:∃t:Nat,t8=t∧t < 4:=⟨t8.toNat,by have:=HV8.out;omega,by have:=HV8.out;omega⟩
   have H8:=Lib.hid (H7.out.cursor HK8.out HC8.out)
   have HT8:=Lib.hid (HT7.out.keep HK8.out htg)
   obtain ⟨z,hz⟩:=tab_int (zs:=[0,1,-1,100000]) HT8.out (j:=t) (by simpa using ht)
   have t0:(0:Int)≤(t:Int):=Int.natCast_nonneg _
   have t1:(t:Int) < 4:=by omega
   have hzt:w6.heap.size < w8.heap.size:=HT8.out.lt
   clear H7 HT7 hb7
   obtain ⟨⟨yc,c8⟩,f8⟩:=Rw_cell (f:=2) H8.out.r hu (by decide)
   have hsz:signalK.sz=4:=rfl
   rw [hsz] at c8 f8
   have hzb:b0 < w8.heap.size:=World.block_lt_of_cell? _ _ c8
   have HFIN:=Lib.hid (H8.out.put (j:=u) (f:=2) HXX.out (by decide) (signalK_put2 (z:=z)) hxn)
   obtain ⟨sn,hsn⟩:∃l,Hid (ss.set u { x with at_:=z }=l):=⟨_,Lib.hid rfl⟩
   rw [hsn.out] at HFIN
   have HLS:Hid (Value.slice (some ⟨b0,0,none⟩) ss.length cc=.slice (some ⟨b0,0,none⟩) sn.length cc):=Lib.hid (by rw [←hsn.out,List.length_set])
   have HF2:Hid (SS5 w _ g (k+10) Bb B (m+60) (.slice (some ⟨b0,0,none⟩) sn.length cc) (.slice (some ⟨b0,0,none⟩) ss.length cc) sn):=Lib.hid (by rw [←HLS.out];exact (HFIN.out.later (show k+2+2+2≤k+10 by omega)).more (show m≤m+60 by omega))
   clear H6 H8 HC8 HK8 HV8
   go_wp2
   go_meet
   case rel=>exact ⟨_,some ⟨b0,0,none⟩,cc,HLS.out,HF2⟩
  ·go_wp2_with fail
   refine (curPick 4 3 g (k+2+2) Bb _ (Lib.hid H6.out.c) (by omega) (by omega) (by omega) (by omega)).mono ?_
   rintro e w8 ⟨z0,rfl,HV8,HC8,HK8⟩
   have hza:=HV8.out.1
   have hzb':=HV8.out.2
   obtain ⟨z,hz⟩:∃z,Hid (z0 - 2=z):=⟨_,Lib.hid rfl⟩
   have wz:IntKind.i64.wrap (z0 - 2)=z:=by rw [←hz.out,IntKind.wrap_i64];omega
   have H8:=Lib.hid (H6.out.cursor HK8.out HC8.out)
   obtain ⟨⟨yc,c8⟩,f8⟩:=Rw_cell (f:=3) H8.out.r hu (by decide)
   have hsz:signalK.sz=4:=rfl
   rw [hsz] at c8 f8
   have hzb:b0 < w8.heap.size:=World.block_lt_of_cell? _ _ c8
   have HFIN:=Lib.hid (H8.out.put (j:=u) (f:=3) HXX.out (by decide) (signalK_put3 (z:=z)) hxn)
   obtain ⟨sn,hsn⟩:∃l,Hid (ss.set u { x with way:=z }=l):=⟨_,Lib.hid rfl⟩
   rw [hsn.out] at HFIN
   have HLS:Hid (Value.slice (some ⟨b0,0,none⟩) ss.length cc=.slice (some ⟨b0,0,none⟩) sn.length cc):=Lib.hid (by rw [←hsn.out,List.length_set])
   have HF2:Hid (SS5 w _ g (k+10) Bb B (m+60) (.slice (some ⟨b0,0,none⟩) sn.length cc) (.slice (some ⟨b0,0,none⟩) ss.length cc) sn):=Lib.hid (by rw [←HLS.out];exact (HFIN.out.later (show k+2+2+2≤k+10 by omega)).more (show m≤m+60 by omega))
   clear H6 H8 HC8 HK8 HV8
   go_wp2
   go_meet
   case rel=>exact ⟨_,some ⟨b0,0,none⟩,cc,HLS.out,HF2⟩
  ·obtain ⟨a0,ha0,y0,y1,y2,y3,EY,s0,s1,s2,s3⟩:=signalK_at (Rw_slice H6.out.r).2.2 0 hp0
   injection ha0 with ha0
   subst ha0
   rw [Nat.zero_mul,add_zero] at s0 s1 s2 s3
   have hzb:b0 < w6.heap.size:=World.block_lt_of_cell? _ _ s0
   have i0:(0:Int) < (ss.length:Int):=by omega
   have hba:Below w6.heap.size w6 (w6.alloc (.cells #[.string y0,.int .i64 y1,.int .i64 y2,.int .i64 y3] 62)):=below_alloc _ _
   have SRC:Hid (Kn.Src signalK (w6.alloc (.cells #[.string y0,.int .i64 y1,.int .i64 y2,.int .i64 y3] 62)) nobody (some ⟨w6.heap.size,0,none⟩) [⟨y0,y1,y2,y3⟩]):=Lib.hid (Kn.Src.one (signalK_mk _ _ ⟨y0,y1,y2,y3⟩) (new_cells _ _ _ rfl))
   have m63:ss.length+1≤maxLen:=by simp only [maxLen];omega
   have mby:(ss.length+1)*40≤140737488355328:=by omega
   have hny:(⟨y0,y1,y2,y3⟩:Signal).name.size≤40:=H6.out.nm _ (List.mem_of_getElem? EY.out)
   have HNM:=Lib.hid (fun (s:Signal) (hs:s∈ss++[(⟨y0,y1,y2,y3⟩:Signal)])=>(List.mem_append.1 hs).elim (fun e=>H6.out.nm s e) (fun e=>by rw [List.mem_singleton.1 e];exact hny))
   go_wp2_with (at_builtin;refine wpList_append_rw _ rfl (.tmp 64) (.tmp 68) 27 rfl 62 iS _ 40 Try.underlying27 hiS hzS hyS hxS rfl (by decide) (.slice (some ⟨b0,0,none⟩) ss.length cc) ss [⟨y0,y1,y2,y3⟩] rfl (H6.out.r.below hba) (fun _ h=>h.elim) (some ⟨w6.heap.size,0,none⟩) 1 1 rfl rfl SRC.out m63 mby ?_;intro v' w8 HRn hg hat;obtain ⟨A9,c9,rfl,hc9⟩:=HRn.form1;have hA:=H6.out.app (q:=m+60) hba HRn hg hat (by rw [List.length_append,List.length_singleton];omega) HNM.out)
   go_meet
   case rel =>
    have hl9:ss.length+1=(ss++[(⟨y0,y1,y2,y3⟩:Signal)]).length:=by rw [List.length_append,List.length_singleton]
    rw [hl9] at hA
    exact ⟨_,A9,c9,by rw [hl9],Lib.hid (hA.later (by omega))⟩
  ·have HNM:=Lib.hid (fun (s:Signal) (hs:s∈ss++List.replicate 60 (⟨⟨#[]⟩,0,0,0⟩:Signal))=>(List.mem_append.1 hs).elim (fun e=>H6.out.nm s e) (fun e=>by rw [(List.mem_replicate.1 e).2];exact Nat.zero_le _))
   go_wp2_with (at_builtin;refine wpList_append_zeros _ rfl (.tmp 20) (.const (.int .i64 60)) 27 3 rfl 62 iS _ Try.underlying27 Try.underlying3 hiS hzS hyS (by rw [hxS];omega) rfl (by decide) (.slice (some ⟨b0,0,none⟩) ss.length cc) ss rfl H6.out.r hp0 (fun _ h=>h.elim) 60 rfl (by omega) (by omega) ⟨⟨#[]⟩,0,0,0⟩ (fun w=>signalK_mk _ _ ⟨⟨#[]⟩,0,0,0⟩) (by omega) ?_;intro v' w8 HRn hg hat;obtain ⟨A9,c9,hv9,hc9,_⟩:=HRn.form;rw [List.length_append,List.length_replicate] at hv9;subst hv9;have hA:=H6.out.app (q:=m+60) (Below.refl _ _) HRn hg hat (by rw [List.length_append,List.length_replicate];omega) HNM.out)
   go_meet
   case rel =>
    have hl9:ss.length+60=(ss++List.replicate 60 (⟨⟨#[]⟩,0,0,0⟩:Signal)).length:=by rw [List.length_append,List.length_replicate]
    rw [hl9] at hA
    exact ⟨_,A9,c9,by rw [hl9],Lib.hid (hA.later (by omega))⟩
 obtain ⟨ss',A',c',rfl,HS⟩:=hcut
 go_wp2
 go_ret
 exact ⟨ss',A',c',rfl,HS⟩
end Go.Proofs.Ytjccgneimknbpaa.L
namespace Go.Proofs.Ytjccgneimknbpaa.L
open Go.RowKit
structure AL (B:Nat) (w:World) (n:Net) (ss:List Signal) (A0 A1 A2:Option Addr) (c0 c1 c2:Nat):Prop where
 sm:Sm n
 nm:∀s∈ss,s.name.size≤40
 sl:ss.length≤80
 sc:ss.length≤c2
 N:NC 102 w (fun b=>B≤b) n A0 A1
 S:signalK.C w (fun b=>B≤b) A2 ss
theorem AL.keep {B g:Nat} {w w1:World} {n:Net} {ss:List Signal} {A0 A1 A2:Option Addr} {c0 c1 c2:Nat} (H:AL B w n ss A0 A1 A2 c0 c1 c2) (hk:Keep (fun b=>b=g) w w1) (hg:g < B):AL B w1 n ss A0 A1 A2 c0 c1 c2 :=
 ⟨H.sm,H.nm,H.sl,H.sc,H.N.keepD hk (fun b hb _ e=>by omega),Kn.C_mono (fun b hb=>hb.1) (Kn.C_move (fun b hb=>hk.block b hb.2 (fun e=>by have:=hb.1;omega)) (Kn.C_bound H.S))⟩
theorem AL.below {B:Nat} {w w1:World} {n:Net} {ss:List Signal} {A0 A1 A2:Option Addr} {c0 c1 c2:Nat} (H:AL B w n ss A0 A1 A2 c0 c1 c2) (hb:Below w.heap.size w w1):AL B w1 n ss A0 A1 A2 c0 c1 c2 :=
 ⟨H.sm,H.nm,H.sl,H.sc,H.N.below hb,Kn.C_below hb H.S⟩
theorem AL.sigIn {B:Nat} {w:World} {n:Net} {ss:List Signal} {A0 A1 A2:Option Addr} {c0 c1 c2:Nat} (H:AL B w n ss A0 A1 A2 c0 c1 c2):SigIn ss:=sigIn_of (by have:=H.sl;omega) H.nm
def RetAll (g k Bb:Nat) (w:World) (e:Ending) (w':World):Prop :=
 ∃(n:Net) (ss:List Signal) (A0 A1 A2:Option Addr) (c0 c1 c2:Nat),e=.returned (.tuple #[.agg #[.slice A0 n.pieces.length c0,.slice A1 n.joints.length c1],.slice A2 ss.length c2])∧Hid (AL w.heap.size w' n ss A0 A1 A2 c0 c1 c2)∧Hid (Cb w' g k Bb)∧Hid (Keep (fun b=>b=g) w w')
set_option maxRecDepth 100000 in
set_option maxHeartbeats 8000000 in
theorem drAll (w:World) (g k Bb:Nat) (hc:Hid (Cb w g k Bb)) (hB:Bb≤w.heap.size) (hk:k≤1125899906830000):Calls Try.prog 54 #[.pointer (some ⟨g,0,none⟩)] w (RetAll g (k+1000) Bb w):=by
 have hgw:=hc.out.lt
 go_enter Try.func54,Try.ntmps54
 go_upto_region 1 with (fail)
 obtain ⟨W1,hW1,hWs,hb1,HBr⟩:∃W,W=w.alloc (.cells #[.slice none 0 0,.slice none 0 0] 26)∧Hid (W.heap.size=w.heap.size+1)∧Below w.heap.size w W∧Hid (Blk W w.heap.size 26 [.slice none 0 0,.slice none 0 0]):=⟨_,rfl,Lib.hid (size_alloc _ _),below_alloc _ _,Lib.hid (Blk.new _ _ _ rfl)⟩
 rw [←hW1]
 clear hW1
 have HC1:=Lib.hid (hc.out.below hb1)
 have hB1:Bb≤W1.heap.size:=by have:=hb1.size;omega
 go_wp2_with fail
 refine (drTrack W1 g k Bb HC1 hB1 (by omega)).mono ?_
 rintro e w2 ⟨n,A0,A1,c0,c1,rfl,HD,HN,HC2,HK2⟩
 have HBr2:=Lib.hid (HBr.out.keep HK2.out (by omega))
 obtain ⟨W3,hW3,hb3,HB3⟩:∃W,W=w2.alloc (.cells #[.slice A0 n.pieces.length c0,.slice A1 n.joints.length c1] 26)∧Below w2.heap.size w2 W∧Hid (Blk W w2.heap.size 26 [.slice A0 n.pieces.length c0,.slice A1 n.joints.length c1]):=⟨_,rfl,below_alloc _ _,Lib.hid (Blk.new _ _ _ rfl)⟩
 have b0:=HB3.out.cell 0 rfl
 have b1:=HB3.out.cell 1 rfl
 have hbz:w2.heap.size < W3.heap.size:=HB3.out.lt
 go_upto_region 2 with (fail)
 rw [←hW3]
 clear hW3
 have hz12:=HK2.out.size
 have hgw2:g < w2.heap.size∧w.heap.size < w2.heap.size∧w.heap.size < W1.heap.size∧w2.heap.size < W3.heap.size:=by have:=hWs.out;have:=HB3.out.lt;omega
 have HN3:Hid (NC 102 W3 (fun b=>W1.heap.size≤b∧b < w2.heap.size) n A0 A1):=Lib.hid ((NC.below hb3 ⟨Kn.C_bound HN.out.p,Kn.C_bound HN.out.j⟩))
 have HC3:=Lib.hid (HC2.out.below hb3)
 have HBr3:=Lib.hid (HBr2.out.below hb3 HBr2.out.lt)
 have HK3:Hid (Keep (fun b=>b=g) w W3):=Lib.hid (((Keep.of_below hb1).trans HK2.out (fun _ _ e=>e)).below hb3)
 clear HC1 HBr HBr2 HN HC2 HK2
 go_wp2_with fail
 refine (drSignals n A0 A1 c0 c1 W3 g (k+210) Bb HC3 (by omega) HD (Lib.hid (HN3.out.mono (fun b hb e=>by have:=hWs.out;omega))) (by omega)).mono ?_
 rintro e w4 ⟨ss,A2,c2,rfl,hc2,HS,HSR,HSO,HC4,HK4⟩
 have HB4:=Lib.hid (HB3.out.keep HK4.out (by omega))
 have HBr4:=Lib.hid (HBr3.out.keep HK4.out (by omega))
 have HN4:=Lib.hid (HN3.out.keepD HK4.out (fun b hb _ e=>by have:=hWs.out;omega))
 have HKa:=Lib.hid (HK3.out.trans HK4.out (fun _ _ e=>e))
 have hsl:=HS.out.len
 clear b0 b1 HN3 HC3 HB3 HBr3 HK3
 have HSM:Hid (Sm n):=Lib.hid HD.out.sm
 go_wp2_with fail
 refine (curPick 24 23 g (k+210+110) Bb _ HC4 (by omega) (by omega) (by omega) (by omega)).mono ?_
 rintro e w5 ⟨v,rfl,HV,HC5,HK5⟩
 have HB5:=Lib.hid (HB4.out.keep HK5.out (by omega))
 have HBr5:=Lib.hid (HBr4.out.keep HK5.out (by omega))
 have HN5:=Lib.hid (HN4.out.keepD HK5.out (fun b hb _ e=>by have:=hWs.out;omega))
 have HR5:=Lib.hid (HSR.out.grownK HK5.out (fun b hb e=>by have:=HSO.out b hb;omega) (fun _ e=>e.elim))
 have HKb:=Lib.hid (HKa.out.trans HK5.out (fun _ _ e=>e))
 have hz35:W3.heap.size≤w5.heap.size:=Nat.le_trans HK4.out.size HK5.out.size
 clear HB4 HBr4 HN4 HSR HKa HK4 HC4
 go_upto_block 0 with (fail)
 go_cut [5] (fun sv wc=>∃(n':Net) (ss':List Signal) (B0 B1 B2:Option Addr) (e0 e1 e2:Nat),sv=.slice B2 ss'.length e2∧Hid (AL W1.heap.size wc n' ss' B0 B1 B2 e0 e1 e2)∧Hid (Cb wc g (k+1000) Bb)∧Hid (Keep (fun b=>b=g) w wc)∧Hid (Blk wc w2.heap.size 26 [.slice B0 n'.pieces.length e0,.slice B1 n'.joints.length e1])∧Hid (Blk wc w.heap.size 26 [.slice none 0 0,.slice none 0 0]))
 case first =>
  have b0:=HB5.out.cell 0 rfl
  have b1:=HB5.out.cell 1 rfl
  have hnz:w2.heap.size < w5.heap.size:=HB5.out.lt
  have HWs:=hWs
  by_cases hv0:v=0
  ·have dv:(v == 0)=true:=int_eqt hv0
   clear hv0
   go_wp2_with fail
   refine (drSpoil n A0 A1 c0 c1 w5 g (k+210+110+2) Bb HC5 (by omega) HSM HD.out.pos (by have:=HD.out.le;omega) (by have:=HD.out.le;have:=HD.out.jle;omega) (fun x hx=>by obtain ⟨i,hi⟩:=List.mem_iff_getElem?.1 hx;have:=(HD.out.d.j i x hi).2.1;have:=(HD.out.d.j i x hi).1.2;omega) HN5 (by omega)).mono ?_
   rintro e w6 ⟨n',D0,D1,x0,x1,rfl,HS6,HN6,HC6,HK6⟩
   have HB6:=Lib.hid (HB5.out.keep HK6.out (by omega))
   have HBr6:=Lib.hid (HBr5.out.keep HK6.out (by omega))
   have HR6:=Lib.hid (HR5.out.grownK HK6.out (fun b hb e=>by have:=HSO.out b hb;omega) (fun _ e=>e.elim))
   have hKf:Keep (fun b=>b=w2.heap.size) w6 ((w6.setCell ⟨w2.heap.size,0,none⟩ (.slice D0 n'.pieces.length x0)).setCell ⟨w2.heap.size,1,none⟩ (.slice D1 n'.joints.length x1)):=((Keep.refl (fun b=>b=w2.heap.size) w6).setCell (p:=⟨w2.heap.size,0,none⟩) (fun _=>rfl) _).setCell (p:=⟨w2.heap.size,1,none⟩) (fun _=>rfl) _
   have HAL:Hid (AL W1.heap.size ((w6.setCell ⟨w2.heap.size,0,none⟩ (.slice D0 n'.pieces.length x0)).setCell ⟨w2.heap.size,1,none⟩ (.slice D1 n'.joints.length x1)) n' ss D0 D1 A2 x0 x1 c2):=Lib.hid ⟨HS6.out,HS.out.names,by omega,hc2,(HN6.out.keepD hKf (fun b hb _ e=>by omega)).mono (fun b hb=>by omega),Kn.C_mono (fun b hb=>hb.elim (fun e=>e.elim) (fun e=>by have:=HSO.out b e;omega)) (Rw_slice (HR6.out.grownK hKf (fun b hb e=>by have:=HSO.out b hb;omega) (fun _ e=>e.elim))).2.2⟩
   have HBf:=Lib.hid ((HB6.out.set_ 0 (.slice D0 n'.pieces.length x0)).set_ 1 (.slice D1 n'.joints.length x1))
   have HBrf:=Lib.hid (HBr6.out.keep hKf (by omega))
   have HCf:=Lib.hid ((HC6.out.keep hKf (by omega) (fun b hb _ e=>by omega)).mono (show k+210+110+2+400≤k+1000 by omega) (Nat.le_refl _))
   have HKf:=Lib.hid ((HKb.out.trans HK6.out (fun _ _ e=>e)).trans hKf (fun b hb e=>by omega))
   have f0:=HB6.out.frozen 0
   have f1:=HB6.out.frozen 1
   have g0:=HB6.out.cell 0 rfl
   have g1:=HB6.out.cell 1 rfl
   have hnz6:w2.heap.size < w6.heap.size:=HB6.out.lt
   clear hKf HN5 HR5 HR6 HB5 HBr5 HN6 HK6
   go_wp2
   go_meet
   case rel=>exact ⟨n',ss,D0,D1,A2,x0,x1,c2,rfl,HAL,HCf,HKf,HBf,HBrf⟩
  ·have dv:(v == 0)=false:=int_eqf hv0
   clear hv0
   by_cases hv1:v=1
   ·have dv1:(v == 1)=true:=int_eqt hv1
    clear hv1
    have HSS:Hid (SS5 w5 w5 g (k+210+110+2) Bb W3.heap.size 8 (.slice A2 ss.length c2) (.slice A2 ss.length c2) ss):=Lib.hid ⟨HR5.out,HSO.out,by omega,by omega,hz35,hsl,HS.out.names,HC5.out,Keep.refl _ _,fun b hb=>.inl hb⟩
    go_wp2_with fail
    refine (drSpoilS n.pieces.length 8 _ A0 A2 c0 c2 ss w5 g (k+210+110+2) Bb W3.heap.size HSS (by have:=HD.out.le;omega) (by omega) (by omega)).mono ?_
    rintro e w6 ⟨ss',D2,x2,rfl,H6⟩
    have hK6:=H6.out.K
    have HAL:Hid (AL W1.heap.size w6 n ss' A0 A1 D2 c0 c1 x2):=Lib.hid ⟨HSM.out,H6.out.nm,by have:=H6.out.len;omega,(Rw_slice H6.out.r).2.1,(HN5.out.keepD hK6 (fun b hb _ e=>by
     rcases e with e | e
     ·have:=HWs.out;omega
     ·have:=HSO.out b e;omega)).mono (fun b hb=>hb.1),Kn.C_mono (fun b hb=>hb.elim (fun e=>e.elim) (fun e=>by have:=H6.out.o b e;omega)) (Rw_slice H6.out.r).2.2⟩
    have HBf:=Lib.hid (HB5.out.keep hK6 (fun e=>by
     rcases e with e | e
     ·omega
     ·have:=HSO.out _ e;omega))
    have HBrf:=Lib.hid (HBr5.out.keep hK6 (fun e=>by
     rcases e with e | e
     ·omega
     ·have:=HSO.out _ e;omega))
    have HCf:=Lib.hid (H6.out.c.mono (show k+210+110+2+10≤k+1000 by omega) (Nat.le_refl _))
    have HKf:=Lib.hid (HKb.out.trans hK6 (fun b hb e=>by
     rcases e with e | e
     ·exact e
     ·have:=HSO.out _ e;omega))
    clear hK6 HN5 HR5 HB5 HBr5 H6 HSS
    go_wp2
    go_meet
    case rel=>exact ⟨n,ss',A0,A1,D2,c0,c1,x2,rfl,HAL,HCf,HKf,HBf,HBrf⟩
   ·have dv1:(v == 1)=false:=int_eqf hv1
    clear hv1
    have HAL:Hid (AL W1.heap.size w5 n ss A0 A1 A2 c0 c1 c2):=Lib.hid ⟨HSM.out,HS.out.names,by omega,hc2,HN5.out.mono (fun b hb=>hb.1),Kn.C_mono (fun b hb=>hb.elim (fun e=>e.elim) (fun e=>by have:=HSO.out b e;omega)) (Rw_slice HR5.out).2.2⟩
    have HCf:=Lib.hid (HC5.out.mono (show k+210+110+2≤k+1000 by omega) (Nat.le_refl _))
    go_wp2
    go_meet
    case rel=>exact ⟨n,ss,A0,A1,A2,c0,c1,c2,rfl,HAL,HCf,HKb,HB5,HBr5⟩
 obtain ⟨n',ss',B0,B1,B2,e0,e1,e2,rfl,HAL,HCf,HKf,HBf,HBrf⟩:=hcut
 have s0:=HBf.out.cell 0 rfl
 have s1:=HBf.out.cell 1 rfl
 have hzh:w2.heap.size < wc.heap.size:=HBf.out.lt
 have r0:=HBrf.out.frozen 0
 have r1:=HBrf.out.frozen 1
 have rc0:=HBrf.out.cell 0 rfl
 have rc1:=HBrf.out.cell 1 rfl
 have hzr:w.heap.size < wc.heap.size:=HBrf.out.lt
 have hKr:Keep (fun b=>b=w.heap.size) wc ((wc.setCell ⟨w.heap.size,0,none⟩ (.slice B0 n'.pieces.length e0)).setCell ⟨w.heap.size,1,none⟩ (.slice B1 n'.joints.length e1)):=((Keep.refl (fun b=>b=w.heap.size) wc).setCell (p:=⟨w.heap.size,0,none⟩) (fun _=>rfl) _).setCell (p:=⟨w.heap.size,1,none⟩) (fun _=>rfl) _
 have hWs1:=hWs.out
 have HFIN:Hid (RetAll g (k+1000) Bb w (.returned (.tuple #[.agg #[.slice B0 n'.pieces.length e0,.slice B1 n'.joints.length e1],.slice B2 ss'.length e2])) ((wc.setCell ⟨w.heap.size,0,none⟩ (.slice B0 n'.pieces.length e0)).setCell ⟨w.heap.size,1,none⟩ (.slice B1 n'.joints.length e1))) :=
  Lib.hid ⟨n',ss',B0,B1,B2,e0,e1,e2,rfl,Lib.hid ⟨HAL.out.sm,HAL.out.nm,HAL.out.sl,HAL.out.sc,(HAL.out.N.keepD hKr (fun b hb _ e=>by omega)).mono (fun b hb=>by omega),Kn.C_mono (fun b hb=>by have:=hb.1;omega) (Kn.C_move (fun b hb=>hKr.block b hb.2 (fun e=>by have:=hb.1;omega)) (Kn.C_bound HAL.out.S))⟩,Lib.hid (HCf.out.keep hKr (by omega) (fun b hb _ e=>by omega)),Lib.hid (HKf.out.trans hKr (fun b hb e=>by omega))⟩
 clear hKr hWs1
 go_wp2
 exact bodyPost_ret (v:=.tuple #[.agg #[.slice B0 n'.pieces.length e0,.slice B1 n'.joints.length e1],.slice B2 ss'.length e2]) (by simp [results,Try.results54,go_sem,hzr,r0,r1,rc0,rc1]) rfl HFIN.out
end Go.Proofs.Ytjccgneimknbpaa.L
namespace Go.Proofs.Ytjccgneimknbpaa.L
open Go.RowKit
def RetOv (g k Bb:Nat) (w:World) (e:Ending) (w':World):Prop:=∃v:Int,e=.returned (.int .i64 v)∧Hid (Cb w' g k Bb)∧Hid (Keep (fun b=>b=g) w w')
theorem three {v:Int} (h0:0≤v) (h1:v≤2):v=0∨v=1∨v=2:=by omega
set_option maxRecDepth 100000 in
set_option maxHeartbeats 4000000 in
theorem drOver (w:World) (g k Bb:Nat) (hc:Hid (Cb w g k Bb)) (hk:k≤1125899906840000):Calls Try.prog 55 #[.pointer (some ⟨g,0,none⟩)] w (RetOv g (k+4) Bb w):=by
 go_enter Try.func55,Try.ntmps55
 go_wp2_with fail
 refine (curPick 14 13 g k Bb _ hc (by omega) (by omega) (by omega) (by omega)).mono ?_
 rintro e w2 ⟨v,rfl,HV,HC,HK⟩
 have v0:=HV.out.1
 have v1:=HV.out.2
 by_cases h0:v=0
 ·as_aux_lemma =>
  have d0:(v == 0)=true:=int_eqt h0
  clear h0
  obtain ⟨W3,hW3,hb3,HB3⟩:∃W,W=w2.alloc (.cells #[.int .i64 (-1),.int .i64 100000,.int .i64 100001] 3)∧Below w2.heap.size w2 W∧Hid (Blk W w2.heap.size 3 [.int .i64 (-1),.int .i64 100000,.int .i64 100001]):=⟨_,rfl,below_alloc _ _,Lib.hid (Blk.new _ _ _ rfl)⟩
  have HC3:=Lib.hid (HC.out.below hb3)
  have hg2:¬w2.heap.size=g:=by have:=HC.out.lt;omega
  go_wp2_with fail
  rw [←hW3]
  clear hW3
  refine (curPick 3 2 g (k+2) Bb _ HC3 (by omega) (by omega) (by omega) (by omega)).mono ?_
  rintro e w4 ⟨u,rfl,HU,HC4,HK4⟩
  have HB4:=Lib.hid (HB3.out.keep HK4.out hg2)
  have q0:=HB4.out.cell 0 rfl
  have q1:=HB4.out.cell 1 rfl
  have q2:=HB4.out.cell 2 rfl
  have hz:w2.heap.size < w4.heap.size:=HB4.out.lt
  have HKf:=Lib.hid ((HK.out.below hb3).trans HK4.out (fun _ _ e=>e))
  rcases three HU.out.1 HU.out.2 with rfl | rfl | rfl
  ·go_wp2
   go_ret
   exact ⟨_,rfl,HC4,HKf⟩
  ·go_wp2
   go_ret
   exact ⟨_,rfl,HC4,HKf⟩
  ·go_wp2
   go_ret
   exact ⟨_,rfl,HC4,HKf⟩
 have d0:(v == 0)=false:=int_eqf h0
 by_cases h1:v=1
 ·as_aux_lemma =>
  have d1:(v == 1)=true:=int_eqt h1
  clear h0 h1
  go_wp2
  go_ret
  exact ⟨_,rfl,Lib.hid (HC.out.mono (by omega) (Nat.le_refl _)),HK⟩
 have d1:(v == 1)=false:=int_eqf h1
 by_cases h2:v=2
 ·as_aux_lemma =>
  have d2:(v == 2)=true:=int_eqt h2
  clear h0 h1 h2
  go_wp2
  go_ret
  exact ⟨_,rfl,Lib.hid (HC.out.mono (by omega) (Nat.le_refl _)),HK⟩
 have d2:(v == 2)=false:=int_eqf h2
 by_cases h3:v=3
 ·as_aux_lemma =>
  have d3:(v == 3)=true:=int_eqt h3
  clear h0 h1 h2 h3
  go_wp2
  go_ret
  exact ⟨_,rfl,Lib.hid (HC.out.mono (by omega) (Nat.le_refl _)),HK⟩
 have d3:(v == 3)=false:=int_eqf h3
 clear h0 h1 h2 h3
 go_wp2_with fail
 refine (curWide 300 299 g (k+2) Bb _ HC (by omega) (by omega) (by omega)).mono ?_
 rintro e w3 ⟨u,rfl,HU,HC3,HK3⟩
 go_wp2
 go_ret
 exact ⟨_,rfl,HC3,Lib.hid (HK.out.trans HK3.out (fun _ _ e=>e))⟩
end Go.Proofs.Ytjccgneimknbpaa.L
namespace Go.Proofs.Ytjccgneimknbpaa.L
open Go.RowKit
open Classical
def Rs (r:Route):Prop:=r.steps.length≤201∧r.lies.length≤201∧r.crosses.length≤201∧r.parts.length≤201∧r.over.length≤100000∧r.flanks.length≤40200
theorem routesF_rs {n:Net} {ss:List Signal} {ov:Int} {r:Route} (h:r∈routesF n ss ov):Rs r:=by
 obtain ⟨h1,h2,h3,h4⟩:=routesF_rt h
 exact Rt.size h1 h4 h3
def RetLi (g k Bb:Nat) (w:World) (e:Ending) (w':World):Prop :=
 ∃(rs:List Route) (A:Option Addr) (c:Nat),e=.returned (.slice A rs.length c)∧rs.length≤300∧Hid (∀r∈rs,Rs r)∧Hid (rK.Rw 44 w' (fun _=>True) (.slice A rs.length c) rs)∧Hid (∀b,(Value.slice A rs.length c).ownBlock=some b→w.heap.size≤b)∧Hid (Cb w' g k Bb)∧Hid (Keep (fun b=>b=g) w w')
set_option maxRecDepth 100000 in
set_option maxHeartbeats 8000000 in
theorem drList (w:World) (g k Bb:Nat) (hc:Hid (Cb w g k Bb)) (hB:Bb≤w.heap.size) (hk:k≤1125899906820000):Calls Try.prog 47 #[.pointer (some ⟨g,0,none⟩)] w (RetLi g (k+1004) Bb w):=by
 have hgw:=hc.out.lt
 go_enter Try.func47,Try.ntmps47
 go_wp2_with fail
 refine (drAll _ g k Bb hc hB (by omega)).mono ?_
 rintro e w1 ⟨n,ss,A0,A1,A2,c0,c1,c2,rfl,HA,HC,HK⟩
 have hz1:=HK.out.size
 obtain ⟨W2,hW2,hb2,BN⟩:∃W,W=w1.alloc (.cells #[.slice A0 n.pieces.length c0,.slice A1 n.joints.length c1] 26)∧Below w1.heap.size w1 W∧Hid (Blk W w1.heap.size 26 [.slice A0 n.pieces.length c0,.slice A1 n.joints.length c1]):=⟨_,rfl,below_alloc _ _,Lib.hid (Blk.new _ _ _ rfl)⟩
 go_upto_region 2 with (fail)
 rw [←hW2]
 clear hW2
 have HA2:=Lib.hid (HA.out.below hb2)
 have HC2:=Lib.hid (HC.out.below hb2)
 have HK2:=Lib.hid (HK.out.below hb2)
 have s0:=BN.out.cell 0 rfl
 have s1:=BN.out.cell 1 rfl
 have hz:w1.heap.size < W2.heap.size:=BN.out.lt
 clear HA HC HK
 refine Rg.start 5 (fun w'=>w'.cell? ⟨w1.heap.size,0,none⟩=some (.slice A0 n.pieces.length c0)∧w'.cell? ⟨w1.heap.size,1,none⟩=some (.slice A1 n.joints.length c1)) 6 rfl (by kernel_rfl) ?_
 have hHeld:W2.drew.cell? ⟨w1.heap.size,0,none⟩=some (.slice A0 n.pieces.length c0)∧W2.drew.cell? ⟨w1.heap.size,1,none⟩=some (.slice A1 n.joints.length c1):=⟨s0,s1⟩
 refine Rg.h 0 hHeld (h:=?_)
 simp only [Act.put,List.setIfInBounds_toArray,List.set_cons_zero,List.set_cons_succ]
 refine Rg.p 1 hHeld (h:=?_)
 simp only [Act.put,List.setIfInBounds_toArray,List.set_cons_zero,List.set_cons_succ]
 refine Rg.p 2 hHeld (h:=?_)
 simp only [Act.put,List.setIfInBounds_toArray,List.set_cons_zero,List.set_cons_succ]
 refine Rg.one 3 rfl (by kernel_rfl) (fun K hK=>?_)
 refine step_call 55 rfl rfl ?_
 go_simp
 go_at_call 55
 (with_reducible refine (drOver _ g (k+1000) Bb (Lib.hid (HC2.out.below (Below.refl _ _).drew)) (by omega)).mono ?_)
 rintro e w3 ⟨ov,rfl,HC3,HK3⟩
 have HK3:Hid (Keep (fun b=>b=g) W2 w3):=Lib.hid ((Keep.refl _ _).drew.trans HK3.out (fun _ _ e=>e))
 have HA3:=Lib.hid (HA2.out.keep HK3.out hgw)
 have BN3:=Lib.hid (BN.out.keep HK3.out (by omega))
 have HKa:=Lib.hid (HK2.out.trans HK3.out (fun _ _ e=>e))
 have hHeld:w3.cell? ⟨w1.heap.size,0,none⟩=some (.slice A0 n.pieces.length c0)∧w3.cell? ⟨w1.heap.size,1,none⟩=some (.slice A1 n.joints.length c1):=⟨BN3.out.cell 0 rfl,BN3.out.cell 1 rfl⟩
 refine hK.out _ _ hHeld ?_
 clear hK K
 try simp only [Act.put,List.setIfInBounds_toArray,List.set_cons_zero,List.set_cons_succ]
 refine Rg.one 4 rfl (by kernel_rfl) (fun K hK=>?_)
 refine step_call 10 rfl rfl ?_
 go_simp
 go_at_call 10
 (with_reducible refine (specRoutes n ss ov A0 A1 A2 c0 c1 c2 _ HA3.out.N HA3.out.S HA3.out.sm.netIn HA3.out.sigIn).mono ?_)
 intro e w4 hr
 obtain ⟨A,c,rfl,hcp,hR,hO,hb4⟩:=hr
 refine hK.out _ _ ⟨cell_below hb4 hHeld.1,cell_below hb4 hHeld.2⟩ ?_
 clear hK K hHeld
 try simp only [Act.put,List.setIfInBounds_toArray,List.set_cons_zero,List.set_cons_succ]
 refine Rg.row [5] [_] rfl (by kernel_rfl) ?_
 have HC4:=Lib.hid (HC3.out.below hb4)
 have HKf:=Lib.hid (HKa.out.below hb4)
 have HRR:=hR
 have hz3:=HKa.out.size
 have hlen:=routesF_len n ss ov
 obtain ⟨rs,hrs⟩:∃l,Hid (routesF n ss ov=l):=⟨_,Lib.hid rfl⟩
 have HRS:Hid (∀r∈rs,Rs r):=Lib.hid (fun r hr=>by rw [←hrs.out] at hr;exact routesF_rs hr)
 rw [hrs.out] at HRR hO hlen ⊢
 have HCR:Hid (rK.Rw 44 w4 (fun _=>True) (.slice A rs.length c) rs):=Lib.hid (HRR.out.mono (fun _ _=>trivial))
 have HCO:Hid (∀b,(Value.slice A rs.length c).ownBlock=some b→w.heap.size≤b):=Lib.hid (fun b hb=>by have:=hO.out b hb;omega)
 go_wp2
 go_ret
 exact ⟨rs,A,c,rfl,hlen,HRS,HCR,HCO,Lib.hid (HC4.out.mono (by omega) (Nat.le_refl _)),HKf⟩
end Go.Proofs.Ytjccgneimknbpaa.L
namespace Go.Proofs.Ytjccgneimknbpaa.L
open Go.RowKit
open Classical
def Ip (w w':World):Prop:=∀p u,w.cell? p=some (.int .i64 u)→∃u',w'.cell? p=some (.int .i64 u')
theorem Ip.refl (w:World):Ip w w:=fun p u h=>⟨u,h⟩
theorem Ip.trans {a b c:World} (h:Ip a b) (k:Ip b c):Ip a c:=fun p u hp=>by obtain ⟨u',h1⟩:=h p u hp;exact k p u' h1
theorem Ip.of_below {w w':World} (h:Below w.heap.size w w'):Ip w w':=fun p u hp=>⟨u,cell_below h hp⟩
theorem Cb.ip {w w':World} {g k k' B B':Nat} (h:Cb w g k B) (h':Cb w' g k' B') (hk:Keep (fun b=>b=g) w w'):Ip w w':=fun p u hp=>by
 by_cases hb:p.block=g
 ·obtain ⟨A,c,bs,i,sd,h1,_⟩:=h.ex
  obtain ⟨A',c',bs',i',sd',h1',_⟩:=h'.ex
  unfold Blk at h1 h1'
  unfold World.cell? at hp ⊢
  rw [hb,h1] at hp
  rw [hb,h1']
  have h2:p.spot=none∧[Value.slice A bs.length c,.int .i64 i,.int .u64 sd][p.off]?=some (.int .i64 u):=by simpa using hp
  have ho:p.off=1:=by
   match hq:p.off with
   | 0=>rw [hq] at h2;simp at h2
   | 1=>rfl
   | 2=>rw [hq] at h2;simp at h2
   | q+3=>rw [hq] at h2;simp at h2
  refine ⟨i',?_⟩
  simp [h2.1,ho]
 ·exact ⟨u,(hk.cell (World.block_lt_of_cell? _ _ hp) hb).trans hp⟩
theorem C_shape {α:Type} {d:Kn α} {w w':World} {ok:Nat→Prop} {A:Option Addr} {xs:List α} (mk:∀cs:List Int,cs.length=d.sz→∃y,∀(w:World) (ok:Nat→Prop),d.K w ok y (cs.map (Value.int .i64)))
  (op:∀(w:World) (ok:Nat→Prop) (x:α) (cs:List Value),d.K w ok x cs→∃zs:List Int,zs.length=d.sz∧cs=zs.map (Value.int .i64)) (hI:Ip w w') (hs:w.heap.size≤w'.heap.size) (h:d.C w ok A xs):∃ys:List α,ys.length=xs.length∧d.C w' (fun _=>True) A ys:=by
 have key:∀j,j < xs.length→∃y:α,∀ad,A=some ad→∃c,(∀(w:World) (ok:Nat→Prop),d.K w ok y c)∧∀i u,c[i]?=some u→w'.cell? (ad.add (j*d.sz+i))=some u:=fun j hj=>by
  obtain ⟨ad,e,ho,hl,hx⟩:=h.2 (by omega)
  obtain ⟨c,hk,hc⟩:=hx j _ (List.getElem?_eq_getElem hj)
  obtain ⟨zs,hz,rfl⟩:=op _ _ _ _ hk
  have hall:∀i,i < zs.length→∃u',w'.cell? (ad.add (j*d.sz+i))=some (.int .i64 u'):=fun i hi=>hI _ _ (hc i _ (by rw [List.getElem?_map,List.getElem?_eq_getElem hi];rfl))
  let zs':List Int:=(List.range zs.length).map (fun i=>if hi:i < zs.length then (hall i hi).choose else 0)
  have hzl:zs'.length=d.sz:=by show ((List.range zs.length).map _).length=_;rw [List.length_map,List.length_range,hz]
  obtain ⟨y,hy⟩:=mk zs' hzl
  refine ⟨y,fun ad' e'=>⟨_,hy,fun i u hu=>?_⟩⟩
  obtain rfl:ad=ad':=Option.some.inj (e.symm.trans e')
  rw [List.getElem?_map,Option.map_eq_some_iff] at hu
  obtain ⟨z,hz',rfl⟩:=hu
  have hi:i < zs.length:=by
   have:=(List.getElem?_eq_some_iff.1 hz').1
   rw [hzl,←hz] at this
   exact this
  have hze:z=(hall i hi).choose:=by
   have h1:zs'[i]?=some ((hall i hi).choose):=by
    show ((List.range zs.length).map _)[i]?=_
    rw [List.getElem?_map,List.getElem?_range hi]
    simp [hi]
   exact Option.some.inj (hz'.symm.trans h1)
  rw [hze]
  exact (hall i hi).choose_spec
 let ys:List α:=(List.range xs.length).pmap (fun j (hj:j < xs.length)=>(key j hj).choose) (fun j hj=>List.mem_range.1 hj)
 have hyl:ys.length=xs.length:=by show (List.pmap _ _ _).length=_;rw [List.length_pmap,List.length_range]
 refine ⟨ys,hyl,by rw [hyl];exact h.1,fun h0=>?_⟩
 obtain ⟨ad,e,ho,hl,hx⟩:=h.2 (by omega)
 refine ⟨ad,e,trivial,by omega,fun j y hj=>?_⟩
 have hjl:j < xs.length:=by rw [←hyl];exact (List.getElem?_eq_some_iff.1 hj).1
 have hye:y=(key j hjl).choose:=by
  have h1:ys[j]?=some ((key j hjl).choose):=by
   show (List.pmap _ _ _)[j]?=_
   rw [List.getElem?_eq_getElem (by rw [List.length_pmap,List.length_range];exact hjl),List.getElem_pmap]
   simp
  exact Option.some.inj (hj.symm.trans h1)
 obtain ⟨c,hk,hc⟩:=(key j hjl).choose_spec ad e
 rw [hye]
 exact ⟨c,hk _ _,hc⟩
theorem two_ints {cs:List Int} (h:cs.length=2):∃a b,cs=[a,b]:=by
 match cs,h with
 | [a,b],_=>exact ⟨a,b,rfl⟩
theorem three_ints {cs:List Int} (h:cs.length=3):∃a b c,cs=[a,b,c]:=by
 match cs,h with
 | [a,b,c],_=>exact ⟨a,b,c,rfl⟩
theorem four_ints {cs:List Int} (h:cs.length=4):∃a b c d,cs=[a,b,c,d]:=by
 match cs,h with
 | [a,b,c,d],_=>exact ⟨a,b,c,d,rfl⟩
theorem RC.shape {w w':World} {ok:Nat→Prop} {x:Route} {A2 A3 A4 A5 A6 A7:Option Addr} (h:RC w ok x A2 A3 A4 A5 A6 A7) (hI:Ip w w') (hs:w.heap.size≤w'.heap.size) :
  ∃y:Route,y.frm=x.frm∧y.til=x.til∧y.steps.length=x.steps.length∧y.lies.length=x.lies.length∧y.crosses.length=x.crosses.length∧y.parts.length=x.parts.length∧y.over.length=x.over.length∧y.flanks.length=x.flanks.length∧RC w' (fun _=>True) y A2 A3 A4 A5 A6 A7:=by
 obtain ⟨s,es,hs'⟩:=C_shape (d:=stepK) (fun cs hc=>by obtain ⟨a,b,rfl⟩:=two_ints hc;exact ⟨(⟨a,b⟩:Step),fun w ok=>stepK_mk w ok ⟨a,b⟩⟩) (fun w ok x cs hk=>⟨[x.piece,x.way],rfl,stepK_open hk⟩) hI hs h.h2
 obtain ⟨l,el,hl⟩:=C_shape (d:=lieK) (fun cs hc=>by obtain ⟨a,b,rfl⟩:=two_ints hc;exact ⟨(⟨a,b⟩:Lie),fun w ok=>lieK_mk w ok ⟨a,b⟩⟩) (fun w ok x cs hk=>⟨[x.joint,x.lie],rfl,lieK_open hk⟩) hI hs h.h3
 obtain ⟨c,ec,hc⟩:=C_shape (d:=Kn.int) (fun cs hc=>by
  match cs,hc with
  | [a],_=>exact ⟨a,fun w ok=>rfl⟩) (fun w ok x cs hk=>⟨[x],rfl,hk⟩) hI hs h.h4
 obtain ⟨p,ep,hp⟩:=C_shape (d:=partK) (fun cs hc=>by obtain ⟨a,b,c,rfl⟩:=three_ints hc;exact ⟨(⟨a,b,c⟩:Part),fun w ok=>partK_mk w ok ⟨a,b,c⟩⟩) (fun w ok x cs hk=>⟨[x.piece,x.frm,x.til],rfl,partK_open hk⟩) hI hs h.h5
 obtain ⟨o,eo,ho⟩:=C_shape (d:=partK) (fun cs hc=>by obtain ⟨a,b,c,rfl⟩:=three_ints hc;exact ⟨(⟨a,b,c⟩:Part),fun w ok=>partK_mk w ok ⟨a,b,c⟩⟩) (fun w ok x cs hk=>⟨[x.piece,x.frm,x.til],rfl,partK_open hk⟩) hI hs h.h6
 obtain ⟨f,ef,hf⟩:=C_shape (d:=flankK) (fun cs hc=>by obtain ⟨a,b,c,d,rfl⟩:=four_ints hc;exact ⟨(⟨a,b,c,d⟩:Flank),fun w ok=>flankK_mk w ok ⟨a,b,c,d⟩⟩) (fun w ok x cs hk=>⟨[x.at_,x.kind,x.of_,x.lie],rfl,flankK_open hk⟩) hI hs h.h7
 exact ⟨⟨x.frm,x.til,s,l,c,p,o,f⟩,rfl,rfl,es,el,ec,ep,eo,ef,hs',hl,hc,hp,ho,hf⟩
end Go.Proofs.Ytjccgneimknbpaa.L
namespace Go.Proofs.Ytjccgneimknbpaa.L
open Go.RowKit
def zeroR:List Value:=[.int .i64 0,.int .i64 0,.slice none 0 0,.slice none 0 0,.slice none 0 0,.slice none 0 0,.slice none 0 0,.slice none 0 0]
structure BN (We w:World) (h q g k Bb:Nat) (r:Route) (v2 v3 v4 v5 v6 v7:Value):Prop where
 f:Blk w h 44 [.int .i64 r.frm,.int .i64 r.til,v2,v3,v4,v5,v6,v7]
 rk:Blk w q 44 zeroR
 s:stepK.Rw 46 w nobody v2 r.steps
 l:lieK.Rw 52 w nobody v3 r.lies
 c:Kn.int.Rw 3 w nobody v4 r.crosses
 p:partK.Rw 48 w nobody v5 r.parts
 o:partK.Rw 48 w nobody v6 r.over
 fl:flankK.Rw 50 w nobody v7 r.flanks
 os:∀b,v2.ownBlock=some b→We.heap.size≤b
 ol:∀b,v3.ownBlock=some b→We.heap.size≤b
 oc:∀b,v4.ownBlock=some b→We.heap.size≤b
 op:∀b,v5.ownBlock=some b→We.heap.size≤b
 oo:∀b,v6.ownBlock=some b→We.heap.size≤b
 ofl:∀b,v7.ownBlock=some b→We.heap.size≤b
 po:∀b,v5.ownBlock=some b→¬v6.ownBlock=some b
 qh:¬q=h
 hB:We.heap.size≤h
 qB:We.heap.size≤q
 gB:g < We.heap.size
 bB:Bb≤We.heap.size
 cu:Cb w g k Bb
 K:Keep (fun b=>b=g) We w
section
variable {We w w' wa w2:World} {h q g k m Bb:Nat} {r:Route} {v2 v3 v4 v5 v6 v7 v':Value}
theorem BN.below (H:BN We w h q g k Bb r v2 v3 v4 v5 v6 v7) (hb:Below w.heap.size w w'):BN We w' h q g k Bb r v2 v3 v4 v5 v6 v7 :=
 ⟨H.f.below hb H.f.lt,H.rk.below hb H.rk.lt,H.s.below hb,H.l.below hb,H.c.below hb,H.p.below hb,H.o.below hb,H.fl.below hb,H.os,H.ol,H.oc,H.op,H.oo,H.ofl,H.po,H.qh,H.hB,H.qB,H.gB,H.bB,H.cu.below hb,H.K.below hb⟩
theorem BN.cursor (H:BN We w h q g k Bb r v2 v3 v4 v5 v6 v7) (hk:Keep (fun b=>b=g) w w') (hc:Cb w' g m Bb):BN We w' h q g m Bb r v2 v3 v4 v5 v6 v7:=by
 have hg:=H.gB
 refine ⟨H.f.keep hk (fun e=>by have:=H.hB;omega),H.rk.keep hk (fun e=>by have:=H.qB;omega),?_,?_,?_,?_,?_,?_,H.os,H.ol,H.oc,H.op,H.oo,H.ofl,H.po,H.qh,H.hB,H.qB,H.gB,H.bB,hc,H.K.trans hk (fun _ _ e=>e)⟩
 ·exact H.s.grownK hk (fun b hb e=>by have:=H.os b hb;omega) (fun _ e=>e.elim)
 ·exact H.l.grownK hk (fun b hb e=>by have:=H.ol b hb;omega) (fun _ e=>e.elim)
 ·exact H.c.grownK hk (fun b hb e=>by have:=H.oc b hb;omega) (fun _ e=>e.elim)
 ·exact H.p.grownK hk (fun b hb e=>by have:=H.op b hb;omega) (fun _ e=>e.elim)
 ·exact H.o.grownK hk (fun b hb e=>by have:=H.oo b hb;omega) (fun _ e=>e.elim)
 ·exact H.fl.grownK hk (fun b hb e=>by have:=H.ofl b hb;omega) (fun _ e=>e.elim)
theorem BN.later (H:BN We w h q g k Bb r v2 v3 v4 v5 v6 v7) (hm:k≤m):BN We w h q g m Bb r v2 v3 v4 v5 v6 v7 :=
 ⟨H.f,H.rk,H.s,H.l,H.c,H.p,H.o,H.fl,H.os,H.ol,H.oc,H.op,H.oo,H.ofl,H.po,H.qh,H.hB,H.qB,H.gB,H.bB,H.cu.mono hm (Nat.le_refl _),H.K⟩
theorem BN.side (H:BN We w h q g k Bb r v2 v3 v4 v5 v6 v7) {S:Nat→Prop} (hK:Keep S w w') (hS:∀b,S b→We.heap.size≤b):Cb w' g k Bb∧Keep (fun b=>b=g) We w':=by
 have hg:=H.gB
 have hb:=H.bB
 exact ⟨H.cu.keep hK (fun e=>by have:=hS g e;omega) (fun b hb' _ e=>by have:=hS b e;omega),H.K.trans hK (fun b hb' e=>by have:=hS b e;omega)⟩
theorem BN.put0 {z:Int} (H:BN We w h q g k Bb r v2 v3 v4 v5 v6 v7):BN We (w.setCell ⟨h,0,none⟩ (.int .i64 z)) h q g k Bb { r with frm:=z } v2 v3 v4 v5 v6 v7:=by
 have hK:Keep (fun x=>x=h) w (w.setCell ⟨h,0,none⟩ (.int .i64 z)):=(Keep.refl (fun x=>x=h) w).setCell (p:=⟨h,0,none⟩) (fun _=>rfl) _
 obtain ⟨s1,s2⟩:=H.side hK (fun b e=>e▸H.hB)
 exact ⟨H.f.set_ 0 _,H.rk.keep hK H.qh,H.s.grownK hK (fun b hb e=>own_not H.s H.f (by decide) (e▸hb)) (fun _ e=>e.elim),H.l.grownK hK (fun b hb e=>own_not H.l H.f (by decide) (e▸hb)) (fun _ e=>e.elim),H.c.grownK hK (fun b hb e=>own_not H.c H.f (by decide) (e▸hb)) (fun _ e=>e.elim),H.p.grownK hK (fun b hb e=>own_not H.p H.f (by decide) (e▸hb)) (fun _ e=>e.elim),H.o.grownK hK (fun b hb e=>own_not H.o H.f (by decide) (e▸hb)) (fun _ e=>e.elim),H.fl.grownK hK (fun b hb e=>own_not H.fl H.f (by decide) (e▸hb)) (fun _ e=>e.elim),H.os,H.ol,H.oc,H.op,H.oo,H.ofl,H.po,H.qh,H.hB,H.qB,H.gB,H.bB,s1,s2⟩
theorem BN.put1 {z:Int} (H:BN We w h q g k Bb r v2 v3 v4 v5 v6 v7):BN We (w.setCell ⟨h,1,none⟩ (.int .i64 z)) h q g k Bb { r with til:=z } v2 v3 v4 v5 v6 v7:=by
 have hK:Keep (fun x=>x=h) w (w.setCell ⟨h,1,none⟩ (.int .i64 z)):=(Keep.refl (fun x=>x=h) w).setCell (p:=⟨h,1,none⟩) (fun _=>rfl) _
 obtain ⟨s1,s2⟩:=H.side hK (fun b e=>e▸H.hB)
 exact ⟨H.f.set_ 1 _,H.rk.keep hK H.qh,H.s.grownK hK (fun b hb e=>own_not H.s H.f (by decide) (e▸hb)) (fun _ e=>e.elim),H.l.grownK hK (fun b hb e=>own_not H.l H.f (by decide) (e▸hb)) (fun _ e=>e.elim),H.c.grownK hK (fun b hb e=>own_not H.c H.f (by decide) (e▸hb)) (fun _ e=>e.elim),H.p.grownK hK (fun b hb e=>own_not H.p H.f (by decide) (e▸hb)) (fun _ e=>e.elim),H.o.grownK hK (fun b hb e=>own_not H.o H.f (by decide) (e▸hb)) (fun _ e=>e.elim),H.fl.grownK hK (fun b hb e=>own_not H.fl H.f (by decide) (e▸hb)) (fun _ e=>e.elim),H.os,H.ol,H.oc,H.op,H.oo,H.ofl,H.po,H.qh,H.hB,H.qB,H.gB,H.bB,s1,s2⟩
theorem BN.putS {b0 N cc j f:Nat} {x y:Step} {u:Value} (H:BN We w h q g k Bb r (.slice (some ⟨b0,0,none⟩) N cc) v3 v4 v5 v6 v7) (hx:r.steps[j]?=some x) (hf:f < 2) (hk:∀w cs,stepK.K w nobody x cs→stepK.K w nobody y (cs.set f u)) :
  BN We (w.setCell ⟨b0,j*2+f,none⟩ u) h q g k Bb { r with steps:=r.steps.set j y } (.slice (some ⟨b0,0,none⟩) N cc) v3 v4 v5 v6 v7:=by
 have hb0:(Value.slice (some ⟨b0,0,none⟩) N cc).ownBlock=some b0:=rfl
 have hK:Keep (fun x=>x=b0) w (w.setCell ⟨b0,j*2+f,none⟩ u):=(Keep.refl (fun x=>x=b0) w).setCell (p:=⟨b0,j*2+f,none⟩) (fun _=>rfl) _
 obtain ⟨s1,s2⟩:=H.side hK (fun b e=>e▸H.os b0 hb0)
 exact ⟨H.f.keep hK (fun e=>own_not H.s H.f (by decide) (e▸hb0)),H.rk.keep hK (fun e=>own_not H.s H.rk (by decide) (e▸hb0)),Rw_put (d:=stepK) H.s hx hf hk (fun z hz=>hz.elim),H.l.grownK hK (fun b hb e=>own_apart H.s H.l (by decide) hb0 (e▸hb)) (fun _ e=>e.elim),H.c.grownK hK (fun b hb e=>own_apart H.s H.c (by decide) hb0 (e▸hb)) (fun _ e=>e.elim),H.p.grownK hK (fun b hb e=>own_apart H.s H.p (by decide) hb0 (e▸hb)) (fun _ e=>e.elim),H.o.grownK hK (fun b hb e=>own_apart H.s H.o (by decide) hb0 (e▸hb)) (fun _ e=>e.elim),H.fl.grownK hK (fun b hb e=>own_apart H.s H.fl (by decide) hb0 (e▸hb)) (fun _ e=>e.elim),H.os,H.ol,H.oc,H.op,H.oo,H.ofl,H.po,H.qh,H.hB,H.qB,H.gB,H.bB,s1,s2⟩
theorem BN.putL {b0 N cc j f:Nat} {x y:Lie} {u:Value} (H:BN We w h q g k Bb r v2 (.slice (some ⟨b0,0,none⟩) N cc) v4 v5 v6 v7) (hx:r.lies[j]?=some x) (hf:f < 2) (hk:∀w cs,lieK.K w nobody x cs→lieK.K w nobody y (cs.set f u)) :
  BN We (w.setCell ⟨b0,j*2+f,none⟩ u) h q g k Bb { r with lies:=r.lies.set j y } v2 (.slice (some ⟨b0,0,none⟩) N cc) v4 v5 v6 v7:=by
 have hb0:(Value.slice (some ⟨b0,0,none⟩) N cc).ownBlock=some b0:=rfl
 have hK:Keep (fun x=>x=b0) w (w.setCell ⟨b0,j*2+f,none⟩ u):=(Keep.refl (fun x=>x=b0) w).setCell (p:=⟨b0,j*2+f,none⟩) (fun _=>rfl) _
 obtain ⟨s1,s2⟩:=H.side hK (fun b e=>e▸H.ol b0 hb0)
 exact ⟨H.f.keep hK (fun e=>own_not H.l H.f (by decide) (e▸hb0)),H.rk.keep hK (fun e=>own_not H.l H.rk (by decide) (e▸hb0)),H.s.grownK hK (fun b hb e=>own_apart H.l H.s (by decide) hb0 (e▸hb)) (fun _ e=>e.elim),Rw_put (d:=lieK) H.l hx hf hk (fun z hz=>hz.elim),H.c.grownK hK (fun b hb e=>own_apart H.l H.c (by decide) hb0 (e▸hb)) (fun _ e=>e.elim),H.p.grownK hK (fun b hb e=>own_apart H.l H.p (by decide) hb0 (e▸hb)) (fun _ e=>e.elim),H.o.grownK hK (fun b hb e=>own_apart H.l H.o (by decide) hb0 (e▸hb)) (fun _ e=>e.elim),H.fl.grownK hK (fun b hb e=>own_apart H.l H.fl (by decide) hb0 (e▸hb)) (fun _ e=>e.elim),H.os,H.ol,H.oc,H.op,H.oo,H.ofl,H.po,H.qh,H.hB,H.qB,H.gB,H.bB,s1,s2⟩
theorem BN.putP {b0 N cc j f:Nat} {x y:Part} {u:Value} (H:BN We w h q g k Bb r v2 v3 v4 (.slice (some ⟨b0,0,none⟩) N cc) v6 v7) (hx:r.parts[j]?=some x) (hf:f < 3) (hk:∀w cs,partK.K w nobody x cs→partK.K w nobody y (cs.set f u)) :
  BN We (w.setCell ⟨b0,j*3+f,none⟩ u) h q g k Bb { r with parts:=r.parts.set j y } v2 v3 v4 (.slice (some ⟨b0,0,none⟩) N cc) v6 v7:=by
 have hb0:(Value.slice (some ⟨b0,0,none⟩) N cc).ownBlock=some b0:=rfl
 have hK:Keep (fun x=>x=b0) w (w.setCell ⟨b0,j*3+f,none⟩ u):=(Keep.refl (fun x=>x=b0) w).setCell (p:=⟨b0,j*3+f,none⟩) (fun _=>rfl) _
 obtain ⟨s1,s2⟩:=H.side hK (fun b e=>e▸H.op b0 hb0)
 exact ⟨H.f.keep hK (fun e=>own_not H.p H.f (by decide) (e▸hb0)),H.rk.keep hK (fun e=>own_not H.p H.rk (by decide) (e▸hb0)),H.s.grownK hK (fun b hb e=>own_apart H.p H.s (by decide) hb0 (e▸hb)) (fun _ e=>e.elim),H.l.grownK hK (fun b hb e=>own_apart H.p H.l (by decide) hb0 (e▸hb)) (fun _ e=>e.elim),H.c.grownK hK (fun b hb e=>own_apart H.p H.c (by decide) hb0 (e▸hb)) (fun _ e=>e.elim),Rw_put (d:=partK) H.p hx hf hk (fun z hz=>hz.elim),H.o.grownK hK (fun b hb e=>H.po _ hb0 (e▸hb)) (fun _ e=>e.elim),H.fl.grownK hK (fun b hb e=>own_apart H.p H.fl (by decide) hb0 (e▸hb)) (fun _ e=>e.elim),H.os,H.ol,H.oc,H.op,H.oo,H.ofl,H.po,H.qh,H.hB,H.qB,H.gB,H.bB,s1,s2⟩
theorem BN.putFL {b0 N cc j f:Nat} {x y:Flank} {u:Value} (H:BN We w h q g k Bb r v2 v3 v4 v5 v6 (.slice (some ⟨b0,0,none⟩) N cc)) (hx:r.flanks[j]?=some x) (hf:f < 4) (hk:∀w cs,flankK.K w nobody x cs→flankK.K w nobody y (cs.set f u)) :
  BN We (w.setCell ⟨b0,j*4+f,none⟩ u) h q g k Bb { r with flanks:=r.flanks.set j y } v2 v3 v4 v5 v6 (.slice (some ⟨b0,0,none⟩) N cc):=by
 have hb0:(Value.slice (some ⟨b0,0,none⟩) N cc).ownBlock=some b0:=rfl
 have hK:Keep (fun x=>x=b0) w (w.setCell ⟨b0,j*4+f,none⟩ u):=(Keep.refl (fun x=>x=b0) w).setCell (p:=⟨b0,j*4+f,none⟩) (fun _=>rfl) _
 obtain ⟨s1,s2⟩:=H.side hK (fun b e=>e▸H.ofl b0 hb0)
 exact ⟨H.f.keep hK (fun e=>own_not H.fl H.f (by decide) (e▸hb0)),H.rk.keep hK (fun e=>own_not H.fl H.rk (by decide) (e▸hb0)),H.s.grownK hK (fun b hb e=>own_apart H.fl H.s (by decide) hb0 (e▸hb)) (fun _ e=>e.elim),H.l.grownK hK (fun b hb e=>own_apart H.fl H.l (by decide) hb0 (e▸hb)) (fun _ e=>e.elim),H.c.grownK hK (fun b hb e=>own_apart H.fl H.c (by decide) hb0 (e▸hb)) (fun _ e=>e.elim),H.p.grownK hK (fun b hb e=>own_apart H.fl H.p (by decide) hb0 (e▸hb)) (fun _ e=>e.elim),H.o.grownK hK (fun b hb e=>own_apart H.fl H.o (by decide) hb0 (e▸hb)) (fun _ e=>e.elim),Rw_put (d:=flankK) H.fl hx hf hk (fun z hz=>hz.elim),H.os,H.ol,H.oc,H.op,H.oo,H.ofl,H.po,H.qh,H.hB,H.qB,H.gB,H.bB,s1,s2⟩
theorem BN.appFL {x:Flank} (H:BN We w h q g k Bb r v2 v3 v4 v5 v6 v7) (hb:Below w.heap.size w wa) (hr:flankK.Rw 50 w2 nobody v' (r.flanks++[x])) (hg:wa.grownBy w2 v7.ownBlock) (hat:v'.ownBlock=v7.ownBlock∨v'.ownBlock=some wa.heap.size) :
  BN We (w2.setCell ⟨h,7,none⟩ v') h q g k Bb { r with flanks:=r.flanks++[x] } v2 v3 v4 v5 v6 v':=by
 have hK2:Keep (fun x=>v7.ownBlock=some x) w w2:=(Keep.of_below hb).grown hg (fun k hk _=>hk)
 have hK:Keep (fun x=>v7.ownBlock=some x∨x=h) w (w2.setCell ⟨h,7,none⟩ v'):=(hK2.mono (fun _ _ e=>.inl e)).setCell (p:=⟨h,7,none⟩) (fun _=>.inr rfl) _
 have hf2:=H.f.keep hK2 (fun e=>own_not H.fl H.f (by decide) e)
 have hn2:¬v'.ownBlock=some h:=own_not hr hf2 (by decide)
 obtain ⟨s1,s2⟩:=H.side hK (fun b e=>e.elim (fun e=>H.ofl b e) (fun e=>e▸H.hB))
 exact ⟨hf2.set_ 7 v',H.rk.keep hK (fun e=>e.elim (fun e=>own_not H.fl H.rk (by decide) e) (fun e=>H.qh e)),H.s.grownK hK (fun b hb e=>e.elim (fun e=>own_apart H.fl H.s (by decide) e hb) (fun e=>own_not H.s H.f (by decide) (e▸hb))) (fun _ e=>e.elim),H.l.grownK hK (fun b hb e=>e.elim (fun e=>own_apart H.fl H.l (by decide) e hb) (fun e=>own_not H.l H.f (by decide) (e▸hb))) (fun _ e=>e.elim),H.c.grownK hK (fun b hb e=>e.elim (fun e=>own_apart H.fl H.c (by decide) e hb) (fun e=>own_not H.c H.f (by decide) (e▸hb))) (fun _ e=>e.elim),H.p.grownK hK (fun b hb e=>e.elim (fun e=>own_apart H.fl H.p (by decide) e hb) (fun e=>own_not H.p H.f (by decide) (e▸hb))) (fun _ e=>e.elim),H.o.grownK hK (fun b hb e=>e.elim (fun e=>own_apart H.fl H.o (by decide) e hb) (fun e=>own_not H.o H.f (by decide) (e▸hb))) (fun _ e=>e.elim),(Kn.Rw.move (fun b hb=>Below.heap_setCell _ _ _ _ (fun e=>hn2 (by rw [←show b=h from e];exact hb))) (fun _ e=>e.elim) hr),H.os,H.ol,H.oc,H.op,H.oo,own_next H.ofl hat (Nat.le_trans H.K.size hb.size),H.po,H.qh,H.hB,H.qB,H.gB,H.bB,s1,s2⟩
theorem BN.appC {x:Int} (H:BN We w h q g k Bb r v2 v3 v4 v5 v6 v7) (hb:Below w.heap.size w wa) (hr:Kn.int.Rw 3 w2 nobody v' (r.crosses++[x])) (hg:wa.grownBy w2 v4.ownBlock) (hat:v'.ownBlock=v4.ownBlock∨v'.ownBlock=some wa.heap.size) :
  BN We (w2.setCell ⟨h,4,none⟩ v') h q g k Bb { r with crosses:=r.crosses++[x] } v2 v3 v' v5 v6 v7:=by
 have hK2:Keep (fun x=>v4.ownBlock=some x) w w2:=(Keep.of_below hb).grown hg (fun k hk _=>hk)
 have hK:Keep (fun x=>v4.ownBlock=some x∨x=h) w (w2.setCell ⟨h,4,none⟩ v'):=(hK2.mono (fun _ _ e=>.inl e)).setCell (p:=⟨h,4,none⟩) (fun _=>.inr rfl) _
 have hf2:=H.f.keep hK2 (fun e=>own_not H.c H.f (by decide) e)
 have hn2:¬v'.ownBlock=some h:=own_not hr hf2 (by decide)
 obtain ⟨s1,s2⟩:=H.side hK (fun b e=>e.elim (fun e=>H.oc b e) (fun e=>e▸H.hB))
 exact ⟨hf2.set_ 4 v',H.rk.keep hK (fun e=>e.elim (fun e=>own_not H.c H.rk (by decide) e) (fun e=>H.qh e)),H.s.grownK hK (fun b hb e=>e.elim (fun e=>own_apart H.c H.s (by decide) e hb) (fun e=>own_not H.s H.f (by decide) (e▸hb))) (fun _ e=>e.elim),H.l.grownK hK (fun b hb e=>e.elim (fun e=>own_apart H.c H.l (by decide) e hb) (fun e=>own_not H.l H.f (by decide) (e▸hb))) (fun _ e=>e.elim),(Kn.Rw.move (fun b hb=>Below.heap_setCell _ _ _ _ (fun e=>hn2 (by rw [←show b=h from e];exact hb))) (fun _ e=>e.elim) hr),H.p.grownK hK (fun b hb e=>e.elim (fun e=>own_apart H.c H.p (by decide) e hb) (fun e=>own_not H.p H.f (by decide) (e▸hb))) (fun _ e=>e.elim),H.o.grownK hK (fun b hb e=>e.elim (fun e=>own_apart H.c H.o (by decide) e hb) (fun e=>own_not H.o H.f (by decide) (e▸hb))) (fun _ e=>e.elim),H.fl.grownK hK (fun b hb e=>e.elim (fun e=>own_apart H.c H.fl (by decide) e hb) (fun e=>own_not H.fl H.f (by decide) (e▸hb))) (fun _ e=>e.elim),H.os,H.ol,own_next H.oc hat (Nat.le_trans H.K.size hb.size),H.op,H.oo,H.ofl,H.po,H.qh,H.hB,H.qB,H.gB,H.bB,s1,s2⟩
structure BF (We w:World) (h q g k Bb:Nat) (r:Route) (A2 A3 A4 A5 A6 A7:Option Addr) (c2 c3 c4 c5 c6 c7:Nat):Prop where
 f:Blk w h 44 [.int .i64 r.frm,.int .i64 r.til,.slice A2 r.steps.length c2,.slice A3 r.lies.length c3,.slice A4 r.crosses.length c4,.slice A5 r.parts.length c5,.slice A6 r.over.length c6,.slice A7 r.flanks.length c7]
 rk:Blk w q 44 zeroR
 R:RC w (fun b=>We.heap.size≤b∧¬b=q) r A2 A3 A4 A5 A6 A7
 cap:r.steps.length≤c2∧r.lies.length≤c3∧r.crosses.length≤c4∧r.parts.length≤c5∧r.over.length≤c6∧r.flanks.length≤c7
 qB:We.heap.size≤q
 gB:g < We.heap.size
 bB:Bb≤We.heap.size
 cu:Cb w g k Bb
 K:Keep (fun b=>b=g) We w
theorem BN.fin {A2 A3 A4 A5 A6 A7:Option Addr} {n2 n3 n4 n5 n6 n7 c2 c3 c4 c5 c6 c7:Nat} (H:BN We w h q g k Bb r (.slice A2 n2 c2) (.slice A3 n3 c3) (.slice A4 n4 c4) (.slice A5 n5 c5) (.slice A6 n6 c6) (.slice A7 n7 c7)):BF We w h q g k Bb r A2 A3 A4 A5 A6 A7 c2 c3 c4 c5 c6 c7:=by
 obtain ⟨rfl,k2,C2⟩:=Rw_slice H.s
 obtain ⟨rfl,k3,C3⟩:=Rw_slice H.l
 obtain ⟨rfl,k4,C4⟩:=Rw_slice H.c
 obtain ⟨rfl,k5,C5⟩:=Rw_slice H.p
 obtain ⟨rfl,k6,C6⟩:=Rw_slice H.o
 obtain ⟨rfl,k7,C7⟩:=Rw_slice H.fl
 exact ⟨H.f,H.rk,⟨Kn.C_mono (fun b hb=>hb.elim (fun e=>e.elim) (fun e=>⟨H.os b e,fun e2=>own_not H.s H.rk (by decide) (e2▸e)⟩)) C2,Kn.C_mono (fun b hb=>hb.elim (fun e=>e.elim) (fun e=>⟨H.ol b e,fun e2=>own_not H.l H.rk (by decide) (e2▸e)⟩)) C3,Kn.C_mono (fun b hb=>hb.elim (fun e=>e.elim) (fun e=>⟨H.oc b e,fun e2=>own_not H.c H.rk (by decide) (e2▸e)⟩)) C4,Kn.C_mono (fun b hb=>hb.elim (fun e=>e.elim) (fun e=>⟨H.op b e,fun e2=>own_not H.p H.rk (by decide) (e2▸e)⟩)) C5,Kn.C_mono (fun b hb=>hb.elim (fun e=>e.elim) (fun e=>⟨H.oo b e,fun e2=>own_not H.o H.rk (by decide) (e2▸e)⟩)) C6,Kn.C_mono (fun b hb=>hb.elim (fun e=>e.elim) (fun e=>⟨H.ofl b e,fun e2=>own_not H.fl H.rk (by decide) (e2▸e)⟩)) C7⟩,⟨k2,k3,k4,k5,k6,k7⟩,H.qB,H.gB,H.bB,H.cu,H.K⟩
def RetBe (g k Bb:Nat) (w:World) (e:Ending) (w':World):Prop :=
 ∃(r:Route) (A2 A3 A4 A5 A6 A7:Option Addr) (c2 c3 c4 c5 c6 c7:Nat),e=.returned (.agg #[.int .i64 r.frm,.int .i64 r.til,.slice A2 r.steps.length c2,.slice A3 r.lies.length c3,.slice A4 r.crosses.length c4,.slice A5 r.parts.length c5,.slice A6 r.over.length c6,.slice A7 r.flanks.length c7])∧Hid (RC w' (fun b=>w.heap.size≤b) r A2 A3 A4 A5 A6 A7)∧Hid (r.n≤200000) ∧
  Hid (r.steps.length≤c2∧r.lies.length≤c3∧r.crosses.length≤c4∧r.parts.length≤c5∧r.over.length≤c6∧r.flanks.length≤c7)∧Hid (Cb w' g k Bb)∧Hid (Keep (fun b=>b=g) w w')
end
end Go.Proofs.Ytjccgneimknbpaa.L
