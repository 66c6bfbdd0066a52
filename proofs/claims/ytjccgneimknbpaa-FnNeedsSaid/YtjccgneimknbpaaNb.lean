/- A net that is spoilt in one place, as drawn: the walk. -/
import Derived.Test.YtjccgneimknbpaaNa
import Derived.Deep.CutBlock
set_option linter.unusedVariables false
set_option linter.unusedSimpArgs false
namespace Go.Proofs.Ytjccgneimknbpaa.L
open Go.RowKit
set_option maxRecDepth 100000 in
set_option maxHeartbeats 32000000 in
theorem drSpoilB {ok:Nat→Prop} (v:Int) (hvX:v=2∨v=3∨v=4∨v=5) (n:Net) (A0 A1:Option Addr) (c0 c1:Nat) (w:World) (g k Bb:Nat) (hc:Hid (Cb w g k Bb)) (Ac:Option Addr) (cc ic:Nat) (bs:List Int) (sd:Int) (hce:Hid (Ce w g Bb Ac cc ic bs sd)) (hpk:Hid (∀w',Hid (Ce w' g Bb Ac cc ic bs sd)→Calls Try.prog 33 #[.pointer (some ⟨g,0,none⟩),.int .i64 10] w' (RetCu v v g (k+2) Bb w'))) (hB:Bb≤w.heap.size) (hs:Hid (Sm n)) (h0:0 < n.pieces.length) (h1:n.pieces.length≤40) (h2:n.joints.length≤40) (h3:∀x∈n.joints,x.ends.length≤39) (h:Hid (NC 102 w ok n A0 A1)) (hk:k≤1125899906840000) :
  Calls Try.prog 83 #[.pointer (some ⟨g,0,none⟩),.agg #[.slice A0 n.pieces.length c0,.slice A1 n.joints.length c1]] w (RetSp g (k+400) Bb w):=by
 obtain ⟨iP,hiP,hzP,hyP,hxP⟩:=info_parts dinfo64
 obtain ⟨iJ,hiJ,hzJ,hyJ,hxJ⟩:=info_parts dinfo97
 obtain ⟨iE,hiE,hzE,hyE,hxE⟩:=info_parts dinfo102
 have hgw:=hc.out.lt
 go_enter Try.func83,Try.ntmps83
 go_upto_region 1 with (fail)
 obtain ⟨W1,hW1,hWs,hb1,HBh,HBr⟩:∃W,W=(w.alloc (.cells #[.slice A0 n.pieces.length c0,.slice A1 n.joints.length c1] 26)).alloc (.cells #[.slice none 0 0,.slice none 0 0] 26)∧Hid (W.heap.size=w.heap.size+2)∧Hid (Below w.heap.size w W)∧Hid (Blk W w.heap.size 26 [.slice A0 n.pieces.length c0,.slice A1 n.joints.length c1])∧Hid (Blk W (w.heap.size+1) 26 [.slice none 0 0,.slice none 0 0]):=by
  refine ⟨_,rfl,Lib.hid (by rw [size_alloc,size_alloc]),Lib.hid ((below_alloc _ _).alloc (by rw [size_alloc];omega) _),Lib.hid ((Blk.new w 26 [.slice A0 n.pieces.length c0,.slice A1 n.joints.length c1] rfl).alloc _),Lib.hid (Blk.new _ 26 [.slice none 0 0,.slice none 0 0] (by rw [size_alloc]))⟩
 rw [←hW1]
 clear hW1
 have HN1:=Lib.hid (h.out.below hb1.out)
 have n0:=HBh.out.cell 0 rfl
 have n1:=HBh.out.cell 1 rfl
 have hz0:w.heap.size < W1.heap.size:=HBh.out.lt
 go_wp2_with fail
 refine (spCopy n A0 A1 c0 c1 W1 HN1.out hs).mono ?_
 rintro e w2 ⟨B0,B1,e0,e1,qs,rfl,HP,HR,HQ,HO0,HO1,HB2⟩
 have HBh2:=Lib.hid (HBh.out.below HB2.out HBh.out.lt)
 have HBr2:=Lib.hid (HBr.out.below HB2.out HBr.out.lt)
 have HK2:Hid (Keep (fun b=>b=g) w w2):=Lib.hid (Keep.of_below (hb1.out.trans (HB2.out.mono hb1.out.size)))
 obtain ⟨H3,HR3,HOK⟩:Hid (SN w ((w2.setCell ⟨w.heap.size,0,none⟩ (.slice B0 n.pieces.length e0)).setCell ⟨w.heap.size,1,none⟩ (.slice B1 n.joints.length e1)) w.heap.size (w.heap.size+1) g k Bb n.pieces n.joints (.slice B0 n.pieces.length e0) (.slice B1 n.joints.length e1))∧Hid ((jointK 102).R 97 ((w2.setCell ⟨w.heap.size,0,none⟩ (.slice B0 n.pieces.length e0)).setCell ⟨w.heap.size,1,none⟩ (.slice B1 n.joints.length e1)) (.slice B1 n.joints.length e1) qs)∧Hid (∀z,z∈(qs.map Prod.snd).flatten→OkJ w.heap.size w.heap.size (.slice B0 n.pieces.length e0) (.slice B1 n.joints.length e1) z):=by
  obtain ⟨a1,a2,a3⟩:=SN.of_copy (h:=w.heap.size) (r:=w.heap.size+1) (g:=g) (k:=k) (Bb:=Bb) (We:=w) (W1:=W1) HBh2.out HBr2.out (by omega) (Nat.le_refl _) (by omega) hz0 HP.out HR.out HQ.out HO0.out HO1.out hgw hB (by omega) ((hc.out.below hb1.out).below HB2.out) HK2.out
  exact ⟨Lib.hid a1,Lib.hid a2,Lib.hid a3⟩
 have HCe2:Hid (Ce w2 g Bb Ac cc ic bs sd):=Lib.hid (hce.out.keep (Keep.of_below (S:=fun _=>False) (hb1.out.trans (HB2.out.mono hb1.out.size))) (fun e=>e) (fun _ _ e=>e))
 have HCe3:Hid (Ce ((w2.setCell ⟨w.heap.size,0,none⟩ (.slice B0 n.pieces.length e0)).setCell ⟨w.heap.size,1,none⟩ (.slice B1 n.joints.length e1)) g Bb Ac cc ic bs sd):=Lib.hid (HCe2.out.keep (S:=fun b=>b=w.heap.size) (((Keep.refl (fun b=>b=w.heap.size) w2).setCell (p:=⟨w.heap.size,0,none⟩) (fun _=>rfl) _).setCell (p:=⟨w.heap.size,1,none⟩) (fun _=>rfl) _) (by omega) (fun b hb e=>by omega))
 have u0:=HBh2.out.frozen 0
 have u1:=HBh2.out.frozen 1
 have u2:=HBh2.out.cell 0 rfl
 have u3:=HBh2.out.cell 1 rfl
 have hz2:w.heap.size < w2.heap.size:=HBh2.out.lt
 have HO1g:Hid (∀b,b∈Kn.foot (.slice B1 n.joints.length e1) qs→¬b=g):=Lib.hid (fun b hb e=>by have:=HO1.out b hb;omega)
 have HSM:=hs
 clear n0 n1 hz0 HBh HBr HN1 hc hs
 go_upto_region 2 with (fail)
 obtain ⟨W3,hW3⟩:∃W,W=(w2.setCell ⟨w.heap.size,0,none⟩ (.slice B0 n.pieces.length e0)).setCell ⟨w.heap.size,1,none⟩ (.slice B1 n.joints.length e1):=⟨_,rfl⟩
 rw [←hW3] at H3 HR3 HCe3
 rw [←hW3]
 clear hW3 u0 u1 u2 u3 hz2 HP HR HBh2 HBr2 HB2 HK2 HO0 HO1
 go_wp2_with fail
 refine (hpk.out _ HCe3).mono ?_
 rintro e w4 ⟨v',rfl,HV,HC4,HK4⟩
 obtain rfl:v'=v:=by have:=HV.out;omega
 have H4:=Lib.hid (H3.out.cursor HK4.out HC4.out)
 have HR4:=Lib.hid (Kn.R_move (fun b hb=>HK4.out.block b (Kn.R_lt HR3.out b hb) (HO1g.out b hb)) HR3.out)
 clear HV HC4 HK4 HCe2 HCe3 hce hpk
 go_upto_block 0 with (fail)
 go_cut [] (fun wc=>∃(ps:List Piece) (js:List Joint) (D0 D1:Option Addr) (x0 x1:Nat),Hid (Sm ⟨ps,js⟩)∧Hid (SN w wc w.heap.size (w.heap.size+1) g (k+400) Bb ps js (.slice D0 ps.length x0) (.slice D1 js.length x1)))
 case first =>
  have hS0:Hid (Sm ⟨n.pieces,n.joints⟩):=HSM
  have hvv:=hvX
  have hv0':(v' == 0)=false:=int_eqf (by omega)
  have hv1':(v' == 1)=false:=int_eqf (by omega)
  go_upto_if 99 with (fail)
  go_cut [99] (fun bv wc=>bv=.bool true∧w4=wc)
  case first =>
   rcases hvv with rfl | rfl | rfl | rfl
   all_goals
    go_wp2
    go_meet
    case rel=>exact ⟨rfl,rfl⟩
  obtain ⟨rfl,rfl⟩:=hcut
  by_cases hj0:0 < n.joints.length
  rotate_left
  ·have dl1:decide ((0:Int) < (n.joints.length:Int))=false:=decide_eq_false (by omega)
   have dl2:decide (0 < n.joints.length)=false:=decide_eq_false hj0
   have s1:=H4.out.ns.f.cell 1 rfl
   have hzh:w.heap.size < w4.heap.size:=H4.out.ns.f.lt
   go_wp2
   go_meet
   case rel=>exact ⟨n.pieces,n.joints,B0,B1,e0,e1,hS0,Lib.hid (SN.later H4.out (by omega))⟩
  obtain ⟨b1,rfl⟩:=Rw_addr H4.out.ns.j hj0
  have s0:=H4.out.ns.f.cell 1 rfl
  have hzh:w.heap.size < w4.heap.size:=H4.out.ns.f.lt
  have hlc:=H4.out.ns.j.form
  have dl1:decide ((0:Int) < (n.joints.length:Int))=true:=decide_eq_true (by omega)
  have dl2:decide (0 < n.joints.length)=true:=decide_eq_true hj0
  go_upto_region 25 with (fail)
  refine Rg.start 7 (fun w'=>w'.cell? ⟨w.heap.size,1,none⟩=some (.slice (some ⟨b1,0,none⟩) n.joints.length e1)) 9 rfl (by kernel_rfl) ?_
  have hHeld:w4.drew.cell? ⟨w.heap.size,1,none⟩=some (.slice (some ⟨b1,0,none⟩) n.joints.length e1):=s0
  refine Rg.p 0 hHeld (h:=?_)
  simp only [Act.put,List.setIfInBounds_toArray,List.set_cons_zero,List.set_cons_succ]
  refine Rg.h 1 hHeld (h:=?_)
  simp only [Act.put,List.setIfInBounds_toArray,List.set_cons_zero,List.set_cons_succ]
  refine Rg.p 2 hHeld (h:=?_)
  simp only [Act.put,List.setIfInBounds_toArray,List.set_cons_zero,List.set_cons_succ]
  refine Rg.p 3 hHeld (h:=?_)
  simp only [Act.put,List.setIfInBounds_toArray,List.set_cons_zero,List.set_cons_succ]
  refine Rg.h 4 hHeld (h:=?_)
  simp only [Act.put,List.setIfInBounds_toArray,List.set_cons_zero,List.set_cons_succ]
  refine Rg.p 5 hHeld (h:=?_)
  simp only [Act.put,List.setIfInBounds_toArray,List.set_cons_zero,List.set_cons_succ]
  refine Rg.one 6 rfl (by kernel_rfl) (fun K hK=>?_)
  refine step_call 33 rfl rfl ?_
  go_simp
  go_at_call 33
  (with_reducible refine (curPick n.joints.length ((n.joints.length:Int) - 1) g (k+2) Bb _ (Lib.hid (H4.out.below (Below.refl _ _).drew).ns.c) (by omega) (by omega) (by omega) (by omega)).mono ?_)
  rintro e w5 ⟨v5,rfl,HV5,HC5,HK5⟩
  obtain ⟨u,rfl,hu⟩:=pickup HV5.out.1 HV5.out.2
  have HK5:Hid (Keep (fun b=>b=g) w4 w5):=Lib.hid ((Keep.refl _ _).drew.trans HK5.out (fun _ _ e=>e))
  have H5:=Lib.hid (H4.out.cursor HK5.out HC5.out)
  have HR5:=Lib.hid (Kn.R_move (fun b hb=>HK5.out.block b (Kn.R_lt HR4.out b hb) (HO1g.out b hb)) HR4.out)
  refine hK.out _ _ (H5.out.ns.f.cell 1 rfl) ?_
  clear hK K hHeld HV5
  try simp only [Act.put,List.setIfInBounds_toArray,List.set_cons_zero,List.set_cons_succ]
  refine Rg.row [7,8] [_,_] rfl (by kernel_rfl) ?_
  have q0:(0:Int)≤(u:Int):=Int.natCast_nonneg _
  have q1:(u:Int) < (n.joints.length:Int):=by omega
  clear s0 hzh H4 HR4 HC5 HK5
  go_wp2_with fail
  refine (curPick 5 4 g (k+2+2) Bb _ (Lib.hid H5.out.ns.c) (by omega) (by omega) (by omega) (by omega)).mono ?_
  rintro e w6 ⟨v6,rfl,HV6,HC6,HK6⟩
  have H6:=Lib.hid (H5.out.cursor HK6.out HC6.out)
  have HR6:=Lib.hid (Kn.R_move (fun b hb=>HK6.out.block b (Kn.R_lt HR5.out b hb) (HO1g.out b hb)) HR5.out)
  clear H5 HC6 HK6 HR5
  have hv6:v6=0∨v6=1∨v6=2∨v6=3∨v6=4:=by have:=HV6.out;omega
  clear HV6
  rcases hv6 with rfl | rfl | rfl | rfl | rfl
  ·go_wp2_with fail
   refine (curPick 6 5 g (k+2+2+2) Bb _ (Lib.hid H6.out.ns.c) (by omega) (by omega) (by omega) (by omega)).mono ?_
   rintro e w8 ⟨z,rfl,HV8,HC8,HK8⟩
   have H8:=Lib.hid (H6.out.cursor HK8.out HC8.out)
   obtain ⟨⟨yc,c8⟩,f8⟩:=Rw_cell (f:=0) H8.out.ns.j hu (by decide)
   have hsz:(jointK 102).sz=3:=rfl
   rw [hsz,Nat.add_zero] at c8 f8
   have hzb:b1 < w8.heap.size:=World.block_lt_of_cell? _ _ c8
   obtain ⟨x,hx⟩:∃x,n.joints[u]?=some x:=⟨_,List.getElem?_eq_getElem hu⟩
   have HFIN:=Lib.hid (H8.out.putJ (j:=u) (f:=0) hx (by decide) (jointK_put0 (z:=z)))
   have HSM:=Lib.hid (hS0.out.setJ (j:=u) (y:={ x with kind:=z }) (show x.name.size≤40∧x.ends.length≤40 from hS0.out.atJ hx))
   clear H6 H8 HC8 HK8 HV8 hx
   go_wp2
   go_meet
   case rel=>exact ⟨n.pieces,_,B0,_,e0,e1,HSM,Lib.hid (by rw [List.length_set];exact SN.later HFIN.out (by omega))⟩
  ·obtain ⟨W7,hW7,hb7,HT7⟩:∃W,W=w6.alloc (.cells #[.string ⟨#[]⟩,.string ⟨#[119]⟩,.string ⟨#[87]⟩,.string ⟨#[120,49,48,48]⟩] 9)∧Below w6.heap.size w6 W∧Hid (Blk W w6.heap.size 9 [.string ⟨#[]⟩,.string ⟨#[119]⟩,.string ⟨#[87]⟩,.string ⟨#[120,49,48,48]⟩]):=⟨_,rfl,below_alloc _ _,Lib.hid (Blk.new _ _ _ rfl)⟩
   have H7:=Lib.hid (H6.out.below hb7)
   have htg:¬w6.heap.size=g:=by have:=H6.out.ns.c.lt;omega
   go_wp2_with fail
   rw [←hW7]
   clear hW7
   refine (curPick 4 3 g (k+2+2+2) Bb _ (Lib.hid H7.out.ns.c) (by omega) (by omega) (by omega) (by omega)).mono ?_
   rintro e w8 ⟨t8,rfl,HV8,HC8,HK8⟩
   obtain ⟨t,rfl,ht⟩:∃t:Nat,t8=t∧t < 4:=⟨t8.toNat,by have:=HV8.out;omega,by have:=HV8.out;omega⟩
   have H8:=Lib.hid (H7.out.cursor HK8.out HC8.out)
   have HT8:=Lib.hid (HT7.out.keep HK8.out htg)
   obtain ⟨z,hz,hzs⟩:=tab_str (zs:=[⟨#[]⟩,⟨#[119]⟩,⟨#[87]⟩,⟨#[120,49,48,48]⟩]) HT8.out (by kernel_rfl) (j:=t) (by simpa using ht)
   have t0:(0:Int)≤(t:Int):=Int.natCast_nonneg _
   have t1:(t:Int) < 4:=by omega
   obtain ⟨⟨y8,c8⟩,f8⟩:=Rw_cell (f:=1) H8.out.ns.j hu (by decide)
   have hsz:(jointK 102).sz=3:=rfl
   rw [hsz] at c8 f8
   have hzt:w6.heap.size < w8.heap.size:=HT8.out.lt
   have hzb:b1 < w8.heap.size:=World.block_lt_of_cell? _ _ c8
   obtain ⟨x,hx⟩:∃x,n.joints[u]?=some x:=⟨_,List.getElem?_eq_getElem hu⟩
   have HFIN:=Lib.hid (H8.out.putJ (j:=u) (f:=1) hx (by decide) (jointK_put1 (s:=z)))
   have HSM:=Lib.hid (hS0.out.setJ (j:=u) (y:={ x with name:=z }) (⟨hzs,(hS0.out.atJ hx).2⟩))
   clear H6 H7 H8 HC8 HK8 HT7 HT8 HV8 hb7 hx
   go_wp2
   go_meet
   case rel=>exact ⟨n.pieces,_,B0,_,e0,e1,HSM,Lib.hid (by rw [List.length_set];exact SN.later HFIN.out (by omega))⟩
  ·have hql:u < qs.length:=by have:=congrArg List.length HQ.out;rw [List.length_map] at this;omega
   obtain ⟨x,F,ve,hqx,j0,j1,j2,HE,hF⟩:=R_joint_at HR6.out hql
   have HQX:=Lib.hid hqx
   have HEE:=Lib.hid HE
   have HFF:=Lib.hid hF
   have hxj:n.joints[u]?=some x:=by rw [←HQ.out,List.getElem?_map,hqx];rfl
   have hxb:=hS0.out.atJ hxj
   have HXJ:=Lib.hid hxj
   obtain ⟨Ae,ce,rfl,hce,_⟩:=HE.form
   have hzb:b1 < w6.heap.size:=World.block_lt_of_cell? _ _ j2
   have H6q:Hid (SN w w6 w.heap.size (w.heap.size+1) g (k+2+2+2) Bb n.pieces (qs.map Prod.fst) (.slice B0 n.pieces.length e0) (.slice (some ⟨b1,0,none⟩) n.joints.length e1)):=Lib.hid (by rw [HQ.out];exact H6.out)
   clear hqx HE hF hxj j0 j1
   by_cases hxe:0 < x.ends.length
   rotate_left
   ·have dx1:decide ((0:Int) < (x.ends.length:Int))=false:=decide_eq_false (by omega)
    have dx2:decide (0 < x.ends.length)=false:=decide_eq_false hxe
    go_wp2
    go_meet
    case rel=>exact ⟨n.pieces,n.joints,B0,_,e0,e1,hS0,Lib.hid (SN.later H6.out (by omega))⟩
   have dx1:decide ((0:Int) < (x.ends.length:Int))=true:=decide_eq_true (by omega)
   have dx2:decide (0 < x.ends.length)=true:=decide_eq_true hxe
   obtain ⟨be,rfl⟩:=Rw_addr HEE.out hxe
   have hbeF:be∈F:=by rw [HFF.out];simp [Value.ownBlock]
   have hbeO:=HOK.out be (List.mem_flatten.2 ⟨F,List.mem_map.2 ⟨_,List.mem_of_getElem? HQX.out,rfl⟩,hbeF⟩)
   have hbeg:¬be=g:=by have:=hbeO.1;omega
   have hb1g:¬b1=g:=by have:=H6.out.ns.o1 b1 rfl;omega
   have s0:=H6.out.ns.f.cell 0 rfl
   have hzh:w.heap.size < w6.heap.size:=H6.out.ns.f.lt
   have HBE:=Lib.hid hbeO
   have wN:IntKind.i64.wrap ((n.pieces.length:Int)+2)=(n.pieces.length:Int)+2:=by rw [IntKind.wrap_i64];omega
   clear hbeO hbeF
   go_upto_region 34 with (fail)
   refine Rg.start 22 (fun w'=>w'.cell? ⟨b1,u*3+2,none⟩=some (.slice (some ⟨be,0,none⟩) x.ends.length ce)∧w'.cell? ⟨w.heap.size,0,none⟩=some (.slice B0 n.pieces.length e0)) 24 rfl (by kernel_rfl) ?_
   have hHeld:w6.drew.cell? ⟨b1,u*3+2,none⟩=some (.slice (some ⟨be,0,none⟩) x.ends.length ce)∧w6.drew.cell? ⟨w.heap.size,0,none⟩=some (.slice B0 n.pieces.length e0):=⟨j2,s0⟩
   refine Rg.p 0 hHeld (h:=?_)
   simp only [Act.put,List.setIfInBounds_toArray,List.set_cons_zero,List.set_cons_succ]
   refine Rg.p 1 hHeld (h:=?_)
   simp only [Act.put,List.setIfInBounds_toArray,List.set_cons_zero,List.set_cons_succ]
   refine Rg.p 2 hHeld (h:=?_)
   simp only [Act.put,List.setIfInBounds_toArray,List.set_cons_zero,List.set_cons_succ]
   refine Rg.h 3 hHeld (h:=?_)
   simp only [Act.put,List.setIfInBounds_toArray,List.set_cons_zero,List.set_cons_succ]
   refine Rg.p 4 hHeld (h:=?_)
   simp only [Act.put,List.setIfInBounds_toArray,List.set_cons_zero,List.set_cons_succ]
   refine Rg.p 5 hHeld (h:=?_)
   simp only [Act.put,List.setIfInBounds_toArray,List.set_cons_zero,List.set_cons_succ]
   refine Rg.p 6 hHeld (h:=?_)
   simp only [Act.put,List.setIfInBounds_toArray,List.set_cons_zero,List.set_cons_succ]
   refine Rg.p 7 hHeld (h:=?_)
   simp only [Act.put,List.setIfInBounds_toArray,List.set_cons_zero,List.set_cons_succ]
   refine Rg.h 8 hHeld (h:=?_)
   simp only [Act.put,List.setIfInBounds_toArray,List.set_cons_zero,List.set_cons_succ]
   refine Rg.p 9 hHeld (h:=?_)
   simp only [Act.put,List.setIfInBounds_toArray,List.set_cons_zero,List.set_cons_succ]
   refine Rg.p 11 hHeld (h:=?_)
   simp only [Act.put,List.setIfInBounds_toArray,List.set_cons_zero,List.set_cons_succ]
   refine Rg.p 12 hHeld (h:=?_)
   simp only [Act.put,List.setIfInBounds_toArray,List.set_cons_zero,List.set_cons_succ]
   refine Rg.h 13 hHeld (h:=?_)
   simp only [Act.put,List.setIfInBounds_toArray,List.set_cons_zero,List.set_cons_succ]
   refine Rg.p 14 hHeld (h:=?_)
   simp only [Act.put,List.setIfInBounds_toArray,List.set_cons_zero,List.set_cons_succ]
   refine Rg.p 15 hHeld (h:=?_)
   simp only [Act.put,List.setIfInBounds_toArray,List.set_cons_zero,List.set_cons_succ]
   refine Rg.p 18 hHeld (h:=?_)
   simp only [Act.put,List.setIfInBounds_toArray,List.set_cons_zero,List.set_cons_succ]
   refine Rg.one 10 rfl (by kernel_rfl) (fun K hK=>?_)
   refine step_call 33 rfl rfl ?_
   go_simp
   go_at_call 33
   (with_reducible refine (curPick x.ends.length ((x.ends.length:Int) - 1) g (k+2+2+2) Bb _ (Lib.hid (H6q.out.below (Below.refl _ _).drew |> Lib.hid).out.ns.c) (by omega) (by omega) (by omega) (by omega)).mono ?_)
   rintro e w7 ⟨tt,rfl,HVtt,HCw7,HKw7⟩
   have tt0:=HVtt.out.1
   have tt1:=HVtt.out.2
   have HKw7:Hid (Keep (fun b=>b=g) w6 w7):=Lib.hid (((Keep.refl _ _).drew).trans HKw7.out (fun _ _ e=>e))
   have Hw7:=Lib.hid (H6q.out.cursor HKw7.out HCw7.out)
   have j2w7:=(HKw7.out.cell (p:=⟨b1,u*3+2,none⟩) hzb hb1g).trans j2
   have hzbw7:b1 < w7.heap.size:=World.block_lt_of_cell? _ _ j2w7
   have HEEw7:=Lib.hid (HEE.out.grownK HKw7.out (fun b hb e=>hbeg (by injection (show some be=some b from hb) with h9;rw [h9];exact e)) (fun _ e=>e.elim))
   have HRRw7:=Lib.hid (Kn.R_move (fun b hb=>HKw7.out.block b (Kn.R_lt HR6.out b hb) (HO1g.out b hb)) HR6.out)
   refine hK.out _ _ ⟨j2w7,Hw7.out.ns.f.cell 0 rfl⟩ ?_
   clear hK K
   try simp only [Act.put,List.setIfInBounds_toArray,List.set_cons_zero,List.set_cons_succ]
   refine Rg.one 16 rfl (by kernel_rfl) (fun K hK=>?_)
   refine step_call 33 rfl rfl ?_
   go_simp
   go_at_call 33
   (with_reducible refine (curPick ((n.pieces.length:Int)+2) ((n.pieces.length:Int)+1) g (k+2+2+2+2) Bb _ (Lib.hid Hw7.out.ns.c) (by omega) (by omega) (by omega) (by omega)).mono ?_)
   rintro e w8 ⟨pp,rfl,HVpp,HCw8,HKw8⟩
   have pp0:=HVpp.out.1
   have pp1:=HVpp.out.2
   have HKw8:Hid (Keep (fun b=>b=g) w7 w8):=Lib.hid ((Keep.refl _ _).trans HKw8.out (fun _ _ e=>e))
   have Hw8:=Lib.hid (Hw7.out.cursor HKw8.out HCw8.out)
   have j2w8:=(HKw8.out.cell (p:=⟨b1,u*3+2,none⟩) hzbw7 hb1g).trans j2w7
   have hzbw8:b1 < w8.heap.size:=World.block_lt_of_cell? _ _ j2w8
   have HEEw8:=Lib.hid (HEEw7.out.grownK HKw8.out (fun b hb e=>hbeg (by injection (show some be=some b from hb) with h9;rw [h9];exact e)) (fun _ e=>e.elim))
   have HRRw8:=Lib.hid (Kn.R_move (fun b hb=>HKw8.out.block b (Kn.R_lt HRRw7.out b hb) (HO1g.out b hb)) HRRw7.out)
   refine hK.out _ _ ⟨j2w8,Hw8.out.ns.f.cell 0 rfl⟩ ?_
   clear hK K
   try simp only [Act.put,List.setIfInBounds_toArray,List.set_cons_zero,List.set_cons_succ]
   have wpp:IntKind.i64.wrap (pp - 1)=pp - 1:=by rw [IntKind.wrap_i64];omega
   try simp only [wpp]
   have hHeld:w8.cell? ⟨b1,u*3+2,none⟩=some (.slice (some ⟨be,0,none⟩) x.ends.length ce)∧w8.cell? ⟨w.heap.size,0,none⟩=some (.slice B0 n.pieces.length e0):=⟨j2w8,Hw8.out.ns.f.cell 0 rfl⟩
   refine Rg.p 17 hHeld (h:=?_)
   simp only [Act.put,List.setIfInBounds_toArray,List.set_cons_zero,List.set_cons_succ]
   refine Rg.one 19 rfl (by kernel_rfl) (fun K hK=>?_)
   refine step_call 33 rfl rfl ?_
   go_simp
   go_at_call 33
   (with_reducible refine (curPick 4 3 g (k+2+2+2+2+2) Bb _ (Lib.hid Hw8.out.ns.c) (by omega) (by omega) (by omega) (by omega)).mono ?_)
   rintro e w9 ⟨ss,rfl,HVss,HCw9,HKw9⟩
   have ss0:=HVss.out.1
   have ss1:=HVss.out.2
   have HKw9:Hid (Keep (fun b=>b=g) w8 w9):=Lib.hid ((Keep.refl _ _).trans HKw9.out (fun _ _ e=>e))
   have Hw9:=Lib.hid (Hw8.out.cursor HKw9.out HCw9.out)
   have j2w9:=(HKw9.out.cell (p:=⟨b1,u*3+2,none⟩) hzbw8 hb1g).trans j2w8
   have hzbw9:b1 < w9.heap.size:=World.block_lt_of_cell? _ _ j2w9
   have HEEw9:=Lib.hid (HEEw8.out.grownK HKw9.out (fun b hb e=>hbeg (by injection (show some be=some b from hb) with h9;rw [h9];exact e)) (fun _ e=>e.elim))
   have HRRw9:=Lib.hid (Kn.R_move (fun b hb=>HKw9.out.block b (Kn.R_lt HRRw8.out b hb) (HO1g.out b hb)) HRRw8.out)
   refine hK.out _ _ ⟨j2w9,Hw9.out.ns.f.cell 0 rfl⟩ ?_
   clear hK K
   try simp only [Act.put,List.setIfInBounds_toArray,List.set_cons_zero,List.set_cons_succ]
   have wss:IntKind.i64.wrap (ss - 1)=ss - 1:=by rw [IntKind.wrap_i64];omega
   try simp only [wss,wpp]
   have hHeld:w9.cell? ⟨b1,u*3+2,none⟩=some (.slice (some ⟨be,0,none⟩) x.ends.length ce)∧w9.cell? ⟨w.heap.size,0,none⟩=some (.slice B0 n.pieces.length e0):=⟨j2w9,Hw9.out.ns.f.cell 0 rfl⟩
   refine Rg.p 20 hHeld (h:=?_)
   simp only [Act.put,List.setIfInBounds_toArray,List.set_cons_zero,List.set_cons_succ]
   refine Rg.p 21 hHeld (h:=?_)
   simp only [Act.put,List.setIfInBounds_toArray,List.set_cons_zero,List.set_cons_succ]
   refine Rg.row [22,23] [_,_] rfl (by kernel_rfl) ?_
   clear hHeld
   obtain ⟨t,rfl,ht⟩:∃t:Nat,tt=t∧t < x.ends.length:=⟨tt.toNat,by omega,by omega⟩
   obtain ⟨inner,ho,hin⟩:=HEEw9.out
   have HIN:=Lib.hid hin
   have HOW:=Lib.hid ho
   have t0:(0:Int)≤(t:Int):=Int.natCast_nonneg _
   have t1:(t:Int) < (x.ends.length:Int):=by omega
   have HSM:=Lib.hid (hS0.out.setJ (j:=u) (y:={ x with ends:=x.ends.set t ⟨pp - 1,ss - 1⟩ }) ⟨hxb.1,by show (x.ends.set t ⟨pp - 1,ss - 1⟩).length≤40;rw [List.length_set];exact hxb.2⟩)
   clear hin H6 H6q Hw7 Hw8 HR6 HRRw7 HRRw8 HEE HEEw7 HEEw8 HCw7 HCw8 HCw9 HKw7 HKw8 HKw9
   go_wp2_with (refine wpList_store_own rfl _ _ _ rfl [.int .i64 (pp - 1),.int .i64 (ss - 1)] ho rfl rfl (show t*2+2≤x.ends.length*2 by omega) (size_of_info dinfo102) rfl ?_;intro w10 ho10 hg10)
   have HR10:=endRw_set (x:=⟨pp - 1,ss - 1⟩) rfl HOW.out HIN.out ht ho10
   have HFIN:=Lib.hid (Hw9.out.ends HRRw9.out HOK.out HQX.out j2w9 HEEw9.out HFF.out rfl (List.length_set) hg10 HR10)
   go_meet
   case rel=>exact ⟨n.pieces,_,B0,_,e0,e1,HSM,Lib.hid (by rw [List.length_set,←HQ.out];have h9:=SN.later HFIN.out (show k+2+2+2+2+2+2≤k+400 by omega);rw [HQ.out] at h9 ⊢;exact h9)⟩
  ·have hql:u < qs.length:=by have:=congrArg List.length HQ.out;rw [List.length_map] at this;omega
   obtain ⟨x,F,ve,hqx,j0,j1,j2,HE,hF⟩:=R_joint_at HR6.out hql
   have HQX:=Lib.hid hqx
   have HEE:=Lib.hid HE
   have HFF:=Lib.hid hF
   have hxj:n.joints[u]?=some x:=by rw [←HQ.out,List.getElem?_map,hqx];rfl
   have hxb:=hS0.out.atJ hxj
   have HXJ:=Lib.hid hxj
   obtain ⟨Ae,ce,rfl,hce,_⟩:=HE.form
   have hzb:b1 < w6.heap.size:=World.block_lt_of_cell? _ _ j2
   have H6q:Hid (SN w w6 w.heap.size (w.heap.size+1) g (k+2+2+2) Bb n.pieces (qs.map Prod.fst) (.slice B0 n.pieces.length e0) (.slice (some ⟨b1,0,none⟩) n.joints.length e1)):=Lib.hid (by rw [HQ.out];exact H6.out)
   clear hqx HE hF hxj j0 j1
   have hba:Below w6.heap.size w6 (w6.alloc (.cells #[.int .i64 0,.int .i64 0] 102)):=below_alloc _ _
   have SRC:Hid (Kn.Src endK (w6.alloc (.cells #[.int .i64 0,.int .i64 0] 102)) nobody (some ⟨w6.heap.size,0,none⟩) [⟨0,0⟩]):=Lib.hid (Kn.Src.one (endK_mk _ _ ⟨0,0⟩) (new_cells _ _ _ rfl))
   have m63:x.ends.length+1≤maxLen:=by simp only [maxLen];omega
   have mby:(x.ends.length+1)*16≤140737488355328:=by omega
   obtain ⟨⟨yc,c8⟩,f8⟩:=Rw_cell (f:=2) H6.out.ns.j hu (by decide)
   have hsz:(jointK 102).sz=3:=rfl
   rw [hsz] at c8 f8
   have HSMx:=Lib.hid (fun (h9:x.ends.length≤39)=>hS0.out.setJ (j:=u) (y:={ x with ends:=x.ends++[⟨0,0⟩] }) ⟨hxb.1,by show (x.ends++[(⟨0,0⟩:End)]).length≤40;rw [List.length_append,List.length_singleton];omega⟩)
   have hx39:x.ends.length≤39:=h3 x (List.mem_of_getElem? HXJ.out)
   go_wp2_with (at_builtin;refine wpList_append_rw _ rfl (.tmp 175) (.tmp 177) 82 rfl 102 iE _ 16 Try.underlying82 hiE hzE hyE hxE rfl (by decide) (.slice Ae x.ends.length ce) x.ends [⟨0,0⟩] rfl (HEE.out.below hba) (fun _ h=>h.elim) (some ⟨w6.heap.size,0,none⟩) 1 1 rfl rfl SRC.out m63 mby ?_;intro v' w8 HRn hg hat;obtain ⟨A9,c9,rfl,hc9⟩:=HRn.form1;have hA:=H6q.out.endsApp HR6.out HOK.out HQX.out HEE.out HFF.out hba HRn hg hat j2;have hbw:w8.heap[b1]?=w6.heap[b1]?:=(hg.block b1 (by rw [size_alloc];omega) (fun e=>own_apart HEE.out H6.out.ns.j (by decide) e.symm rfl)).trans (hba.block b1 hzb);have u1:=(World.cell?_of_block (a:=⟨b1,u*3+2,none⟩) hbw).trans c8;have u0:=(World.frozen?_of_block (a:=⟨b1,u*3+2,none⟩) hbw).trans f8;have hz8:b1 < w8.heap.size:=World.block_lt_of_cell? _ _ u1)
   go_meet
   case rel=>exact ⟨n.pieces,_,B0,_,e0,e1,Lib.hid (HSMx.out hx39),Lib.hid (by have h9:=SN.later hA (show k+2+2+2≤k+400 by omega);rw [HQ.out] at h9;rw [List.length_set];exact h9)⟩
  ·obtain ⟨⟨yc,c8⟩,f8⟩:=Rw_cell (f:=2) H6.out.ns.j hu (by decide)
   have hsz:(jointK 102).sz=3:=rfl
   rw [hsz] at c8 f8
   have hzb:b1 < w6.heap.size:=World.block_lt_of_cell? _ _ c8
   obtain ⟨x,hx⟩:∃x,n.joints[u]?=some x:=⟨_,List.getElem?_eq_getElem hu⟩
   have HFIN:=Lib.hid (H6.out.putJ (j:=u) (f:=2) hx (by decide) jointK_put2)
   have HSM:=Lib.hid (hS0.out.setJ (j:=u) (y:={ x with ends:=[] }) ⟨(hS0.out.atJ hx).1,by simp⟩)
   clear H6 hx
   go_wp2
   go_meet
   case rel=>exact ⟨n.pieces,_,B0,_,e0,e1,HSM,Lib.hid (by rw [List.length_set];exact SN.later HFIN.out (by omega))⟩
 obtain ⟨ps,js,D0,D1,x0,x1,HS,HSN⟩:=hcut
 have s0:=HSN.out.ns.f.cell 0 rfl
 have s1:=HSN.out.ns.f.cell 1 rfl
 have hzh:w.heap.size < wc.heap.size:=HSN.out.ns.f.lt
 have r0:=HSN.out.rk.frozen 0
 have r1:=HSN.out.rk.frozen 1
 have rc0:=HSN.out.rk.cell 0 rfl
 have rc1:=HSN.out.rk.cell 1 rfl
 have hzr:w.heap.size+1 < wc.heap.size:=HSN.out.rk.lt
 have HF:=Lib.hid (HSN.out.ret HS.out)
 go_wp2
 exact bodyPost_ret (v:=.agg #[.slice D0 ps.length x0,.slice D1 js.length x1]) (by simp [results,Try.results83,go_sem,hzr,r0,r1,rc0,rc1]) rfl HF.out
end Go.Proofs.Ytjccgneimknbpaa.L
