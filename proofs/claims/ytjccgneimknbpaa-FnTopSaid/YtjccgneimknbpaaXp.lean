/- The law FnTop, walked: it answers true. -/
import Derived.Test.YtjccgneimknbpaaXo
set_option linter.unusedVariables false
set_option linter.unusedSimpArgs false
namespace Go.Proofs.Ytjccgneimknbpaa.L
open Go.RowKit
open Classical
theorem RetRR.Cdt {rs:List Route} {w w':World} {e:Ending} (h:RetRR rs w e w'):∃A c,e=.returned (.slice A rs.length c)∧rs.length≤c∧Hid (rK.C w' (fun _=>True) A rs)∧Below w.heap.size w w':=by
 obtain ⟨A,c,rfl,hl,hR,_,hb⟩:=h
 exact ⟨A,c,rfl,hl,Lib.hid (Kn.C_mono (fun _ _=>trivial) (Rw_slice hR.out).2.2),hb⟩
set_option maxRecDepth 100000 in
set_option maxHeartbeats 16000000 in
theorem lawTop {ok:Nat→Prop} (bs:List Int) (A:Option Addr) (c:Nat) (w:World) (hx:byteK.C w ok A bs) (hbs:Hid (∀x∈bs,0≤x∧x≤255)):Calls Try.prog 3 #[.slice A bs.length c] w (RetB true w):=by
 have hm:=hx.1
 have HX:=Lib.hid hx
 clear hx
 by_cases hl:1048576 < bs.length
 ·have d0:decide ((1048576:Int) < (bs.length:Int))=true:=decide_eq_true (by omega)
  go_enter Try.func3,Try.ntmps3
  go_wp2
  go_ret
  exact ⟨rfl,Below.refl _ _⟩
 have d0:decide ((1048576:Int) < (bs.length:Int))=false:=decide_eq_false (by omega)
 go_enter Try.func3,Try.ntmps3
 go_wp2_with fail
 refine (drDrawn bs A c _ HX.out hbs).mono ?_
 rintro e w1 ⟨n,ss,ov,A0,A1,A2,c0,c1,c2,rfl,HD,HS,hc2,ov0,ov1,HN,HSg,HB1⟩
 clear d0 hl
 obtain ⟨W2,hW2,hb2,BN⟩:∃W,W=w1.alloc (.cells #[.slice A0 n.pieces.length c0,.slice A1 n.joints.length c1] 26)∧Hid (Below w1.heap.size w1 W)∧Hid (Blk W w1.heap.size 26 [.slice A0 n.pieces.length c0,.slice A1 n.joints.length c1]):=⟨_,rfl,Lib.hid (below_alloc _ _),Lib.hid (Blk.new _ _ _ rfl)⟩
 go_upto_region 4 with (fail)
 rw [←hW2]
 clear hW2
 have HN:=Lib.hid (HN.out.below hb2.out)
 have HSg:=Lib.hid (Kn.C_below hb2.out HSg.out)
 have HB2:=Lib.hid (HB1.out.trans (hb2.out.mono HB1.out.size))
 have s0:=BN.out.cell 0 rfl
 have s1:=BN.out.cell 1 rfl
 have hz:w1.heap.size < W2.heap.size:=BN.out.lt
 go_wp2_with fail
 refine (specRoutes n ss ov A0 A1 A2 c0 c1 c2 _ HN.out HSg.out HD.out.sm.netIn HS.out.sigIn).mono ?_
 intro e w3 hr
 obtain ⟨P,cp,rfl,hcp,HC,hb3⟩:=RetRR.Cdt hr
 obtain ⟨gs,hgs⟩:∃l,Hid (routesF n ss ov=l):=⟨_,Lib.hid rfl⟩
 rw [hgs.out] at HC ⊢
 have hgl:gs.length≤300:=by rw [←hgs.out];exact routesF_len n ss ov
 have HRT:Hid (∀r∈gs,Right n ss∧Rt n ss ov r∧r.n≤1048576):=Lib.hid (fun r hr=>by
  rw [←hgs.out] at hr
  refine ⟨(routesF_rt hr).1,(routesF_rt hr).2.2.2,?_⟩
  have h2:=Rt.size (routesF_rt hr).1 (routesF_rt hr).2.2.2 (by omega)
  show r.steps.length+r.lies.length+r.crosses.length+r.parts.length+r.over.length+r.flanks.length≤1048576
  omega)
 have HB3:=Lib.hid (HB2.out.trans (hb3.mono HB2.out.size))
 have HN:=Lib.hid (HN.out.below hb3)
 have HSg:=Lib.hid (Kn.C_below hb3 HSg.out)
 have BN:=Lib.hid (BN.out.below hb3 BN.out.lt)
 have HOK:=Lib.hid (Ss.ok HD.out HS.out)
 clear hr hb3 hb2 HB1 HB2 s0 s1 hz
 have s0:=BN.out.cell 0 rfl
 have s1:=BN.out.cell 1 rfl
 have hz:w1.heap.size < w3.heap.size:=BN.out.lt
 go_wp2_with fail
 refine (implRoutes n ss ov A0 A1 A2 c0 c1 c2 _ HN.out HSg.out hc2 HD.out.sm.netIn HS.out.sigIn).mono ?_
 intro e w4 hr
 rw [hgs.out] at hr
 obtain ⟨G,cg,ps,rfl,HG,HR,HPS,HFT,hb4⟩:=RetS.R hr
 have HB34:=Lib.hid hb4
 clear hr s0 s1 hz
 have BN4:=Lib.hid (BN.out.below hb4 BN.out.lt)
 have s0:=BN4.out.cell 0 rfl
 have s1:=BN4.out.cell 1 rfl
 have hz:w1.heap.size < w4.heap.size:=BN4.out.lt
 have HN4:=Lib.hid (HN.out.below hb4)
 have HS4:=Lib.hid (Kn.C_below hb4 HSg.out)
 have HC4:=Lib.hid (Kn.C_below hb4 HC.out)
 have HGN:Hid (∀x∈gs,x.n≤1048576):=Lib.hid (fun r hr=>(HRT.out r hr).2.2)
 have HTI:Hid ((tabF gs).length≤300∧∀r∈tabF gs,r.length≤300):=Lib.hid (tabF_len gs)
 have HCH:Hid (checkF n ss ov gs (tabF gs)=⟨0,0,0⟩):=Lib.hid (by rw [←hgs.out];exact checkF_own ⟨HOK.out,ov0,by omega⟩)
 clear hb4
 go_wp2
 go_region_held3 (fun w'=>Below w4.heap.size w4 w'∧w'.cell? ⟨w1.heap.size,0,none⟩=some (.slice A0 n.pieces.length c0)∧w'.cell? ⟨w1.heap.size,1,none⟩=some (.slice A1 n.joints.length c1))
  (first | exact ⟨(Below.refl _ _).drew,s0,s1⟩ | exact ⟨hbS.trans (hbc.mono hbS.size),cell_below (hbS.trans (hbc.mono hbS.size)) s0,cell_below (hbS.trans (hbc.mono hbS.size)) s1⟩)
  (first | (go_at_call 12;obtain ⟨hbS,_⟩:=‹Below w4.heap.size w4 _∧_›;(with_reducible refine (wRoutes gs G P cg cp _ (Kn.C_below hbS HG.out) (Kn.C_below hbS HC4.out) HGN).mono ?_);rintro e wz ⟨rfl,hbc⟩) | (go_at_call 14;obtain ⟨hbS,_⟩:=‹Below w4.heap.size w4 _∧_›;(with_reducible refine (specTable P cp gs _ (Kn.C_below hbS HC4.out) HGN).mono ?_);intro e wz htab;obtain ⟨T,cT,rfl,hcT,HT,hbc⟩:=RetS.opC htab) | (go_at_call 13;obtain ⟨hbS,_⟩:=‹Below w4.heap.size w4 _∧_›;(with_reducible refine (implCheck n ss ov gs (tabF gs) A0 A1 A2 P T c0 c1 c2 cp cT _ (HN4.out.below hbS) (Kn.C_below hbS HS4.out) hc2 (Kn.C_below hbS HC4.out) HT.out HGN (by omega) (by have:=HTI.out.1;omega) (Lib.hid (fun r hr=>by have:=HTI.out.2 r hr;omega)) HD.out.sm.netIn HS.out.sigIn).mono ?_);rintro e wz ⟨rfl,hbc⟩;rw [HCH.out]))
 obtain ⟨hbF,_⟩:=‹Below w4.heap.size w4 wz∧_›
 have hpl:ps.length=gs.length:=by rw [←HPS.out,List.length_map]
 have HR0:Hid (rK.R 44 wz (.slice G ps.length cg) ps):=Lib.hid (by rw [hpl];exact Kn.R_move (fun b hb=>hbF.block b (HFT.out b hb).2) HR.out)
 have HB3z:=Lib.hid (HB34.out.trans (hbF.mono HB34.out.size))
 have HFB:Hid (∀m b,Firsts ps m b→w3.heap.size≤b):=Lib.hid (fun m b hb=>(HFT.out b (List.mem_append_right _ (firsts_mem hb))).1)
 obtain ⟨w0,rfl⟩:∃w0:World,w0=wz:=⟨_,rfl⟩
 clear s0 s1 hz BN4 HN4 HS4 HC4 HR HG HFT HB34 hbF HCH HTI
 go_wp2
 go_loopw [49] (fun iv wr=>∃i:Nat,i≤gs.length∧iv=.int .i64 i∧Hid (TJ ps i w0 wr)) (fun iv _=>gs.length - (intOf iv).toNat)
 case atStart=>exact ⟨0,Nat.zero_le _,rfl,Lib.hid TJ.refl⟩
 case round =>
 obtain ⟨wo,rfl⟩:∃wo:World,wo=wr:=⟨_,rfl⟩
 obtain ⟨i,hi,rfl,HT⟩:=hrel
 by_cases hli:i < gs.length
 rotate_left
 ·as_aux_lemma =>
  have d1:decide ((i:Int) < (gs.length:Int))=false:=decide_eq_false (by omega)
  have HBw:=Lib.hid (HB3z.out.trans (HT.out.k.to_below HB3z.out.size (fun k hk hF=>by have:=HFB.out _ _ hF;omega)))
  have BNw:=Lib.hid (BN.out.below HBw.out BN.out.lt)
  have s0:=BNw.out.cell 0 rfl
  have s1:=BNw.out.cell 1 rfl
  have hz:w1.heap.size < wo.heap.size:=BNw.out.lt
  go_wp2_with fail
  refine (implRoutes n ss ov A0 A1 A2 c0 c1 c2 _ (HN.out.below HBw.out) (Kn.C_below HBw.out HSg.out) hc2 HD.out.sm.netIn HS.out.sigIn).mono ?_
  intro e w5 hr
  rw [hgs.out] at hr
  obtain ⟨G5,c5,rfl,hc5,HG5,hb5⟩:=RetS.opC hr
  clear s0 s1 hz
  have HBv:=Lib.hid (HBw.out.trans (hb5.mono HBw.out.size))
  go_wp2_with fail
  refine (wRoutes gs G5 P c5 cp _ HG5.out (Kn.C_below HBv.out HC.out) HGN).mono ?_
  rintro e w6 ⟨rfl,hb6⟩
  have hfin:=HB3.out.trans ((HBv.out.trans (hb6.mono HBv.out.size)).mono HB3.out.size)
  go_wp2
  go_ret
  exact ⟨rfl,hfin⟩
 have d1:decide ((i:Int) < (gs.length:Int))=true:=decide_eq_true (by omega)
 have i0:(0:Int)≤(i:Int):=Int.natCast_nonneg _
 have i1:(i:Int) < (gs.length:Int):=by omega
 obtain ⟨g,p,rfl,hg,hp,hgf,hpf,B2,B3,B4,B5,B6,B7,e2,e3,e4,e5,e6,e7,p0,p1,p2,p3,p4,p5,p6,p7,HRC,I2,I3,I4,I5,I6,I7⟩:=top_at HR0.out (j:=i) (by omega)
 obtain ⟨x,F⟩:=p
 simp only at p0 p1 p2 p3 p4 p5 p6 p7 HRC I2 I3 I4 I5 I6 I7 hpf
 have hxg:gs[i]?=some x:=by rw [←HPS.out,List.getElem?_map,hp];rfl
 obtain ⟨z2,z3,z4,z5,z6,z7⟩:=Rt.size (HRT.out x (List.mem_of_getElem? hxg)).1 (HRT.out x (List.mem_of_getElem? hxg)).2.1 (by omega)
 have HGF:=Lib.hid (hgf (i+1))
 have HPP:=Lib.hid hp
 have HTI:=Lib.hid (HT.out.mono (Nat.le_succ i))
 have P2:=Lib.hid p2
 have P3:=Lib.hid p3
 have P4:=Lib.hid p4
 have P5:=Lib.hid p5
 have P6:=Lib.hid p6
 have P7:=Lib.hid p7
 clear p0 p1 p2 p3 p4 p5 p6 p7 hgf hpf hp hg HRC
 have q2:=HTI.out.cell HGF.out P2.out
 go_wp2
 go_loopw [58] (fun v wr=>∃k:Nat,k≤x.steps.length∧v=.int .i64 k∧Hid (TJ ps (i+1) w0 wr)) (fun v _=>x.steps.length - (intOf v).toNat)
 case atStart=>exact ⟨0,Nat.zero_le _,rfl,HTI⟩
 case round =>
 obtain ⟨wl0,rfl⟩:∃wl:World,wl=wr:=⟨_,rfl⟩
 obtain ⟨k,hk,rfl,HT0⟩:=hrel
 have q2:=HT0.out.cell HGF.out P2.out
 by_cases hlk:k < x.steps.length
 ·as_aux_lemma =>
  have d2:decide ((k:Int) < (x.steps.length:Int))=true:=decide_eq_true (by omega)
  have k0:(0:Int)≤(k:Int):=Int.natCast_nonneg _
  have k1:(k:Int) < (x.steps.length:Int):=by omega
  obtain ⟨b,hB,hbF,hbz,⟨u,hu⟩,hfz⟩:=InL.at_ HT0.out I2.out (i:=k*2) (by omega)
  subst hB
  have HW:=Lib.hid (HT0.out.put (p:=⟨b,k*2,none⟩) ⟨i,_,Nat.lt_succ_self i,HPP.out,hbF⟩ (.int .i64 77))
  clear hbF
  go_wp2
  go_roundw
  case rel=>exact ⟨k+1,by omega,by go_num,HW⟩
  case measure=>simp [intOf];omega
 obtain rfl:k=x.steps.length:=by omega
 have d2:decide ((x.steps.length:Int) < (x.steps.length:Int))=false:=decide_eq_false (by omega)
 have q5:=HT0.out.cell HGF.out P5.out
 go_wp2
 clear d2 q2 hk hlk
 go_loopw [76] (fun v wr=>∃k:Nat,k≤x.parts.length∧v=.int .i64 k∧Hid (TJ ps (i+1) w0 wr)) (fun v _=>x.parts.length - (intOf v).toNat)
 case atStart=>exact ⟨0,Nat.zero_le _,rfl,HT0⟩
 case round =>
 obtain ⟨wl1,rfl⟩:∃wl:World,wl=wr:=⟨_,rfl⟩
 obtain ⟨k,hk,rfl,HT1⟩:=hrel
 have q5:=HT1.out.cell HGF.out P5.out
 by_cases hlk:k < x.parts.length
 ·as_aux_lemma =>
  have d2:decide ((k:Int) < (x.parts.length:Int))=true:=decide_eq_true (by omega)
  have k0:(0:Int)≤(k:Int):=Int.natCast_nonneg _
  have k1:(k:Int) < (x.parts.length:Int):=by omega
  obtain ⟨b,hB,hbF,hbz,⟨u,hu⟩,hfz⟩:=InL.at_ HT1.out I5.out (i:=k*3) (by omega)
  subst hB
  have HW:=Lib.hid (HT1.out.put (p:=⟨b,k*3,none⟩) ⟨i,_,Nat.lt_succ_self i,HPP.out,hbF⟩ (.int .i64 77))
  clear hbF
  go_wp2
  go_roundw
  case rel=>exact ⟨k+1,by omega,by go_num,HW⟩
  case measure=>simp [intOf];omega
 obtain rfl:k=x.parts.length:=by omega
 have d2:decide ((x.parts.length:Int) < (x.parts.length:Int))=false:=decide_eq_false (by omega)
 have q7:=HT1.out.cell HGF.out P7.out
 go_wp2
 clear d2 q5 hk hlk
 go_loopw [94] (fun v wr=>∃k:Nat,k≤x.flanks.length∧v=.int .i64 k∧Hid (TJ ps (i+1) w0 wr)) (fun v _=>x.flanks.length - (intOf v).toNat)
 case atStart=>exact ⟨0,Nat.zero_le _,rfl,HT1⟩
 case round =>
 obtain ⟨wl2,rfl⟩:∃wl:World,wl=wr:=⟨_,rfl⟩
 obtain ⟨k,hk,rfl,HT2⟩:=hrel
 have q7:=HT2.out.cell HGF.out P7.out
 by_cases hlk:k < x.flanks.length
 ·as_aux_lemma =>
  have d2:decide ((k:Int) < (x.flanks.length:Int))=true:=decide_eq_true (by omega)
  have k0:(0:Int)≤(k:Int):=Int.natCast_nonneg _
  have k1:(k:Int) < (x.flanks.length:Int):=by omega
  obtain ⟨b,hB,hbF,hbz,⟨u,hu⟩,hfz⟩:=InL.at_ HT2.out I7.out (i:=k*4+1) (by omega)
  subst hB
  have HW:=Lib.hid (HT2.out.put (p:=⟨b,k*4+1,none⟩) ⟨i,_,Nat.lt_succ_self i,HPP.out,hbF⟩ (.int .i64 77))
  clear hbF
  go_wp2
  go_roundw
  case rel=>exact ⟨k+1,by omega,by go_num,HW⟩
  case measure=>simp [intOf];omega
 obtain rfl:k=x.flanks.length:=by omega
 have d2:decide ((x.flanks.length:Int) < (x.flanks.length:Int))=false:=decide_eq_false (by omega)
 have q6:=HT2.out.cell HGF.out P6.out
 go_wp2
 clear d2 q7 hk hlk
 go_loopw [112] (fun v wr=>∃k:Nat,k≤x.over.length∧v=.int .i64 k∧Hid (TJ ps (i+1) w0 wr)) (fun v _=>x.over.length - (intOf v).toNat)
 case atStart=>exact ⟨0,Nat.zero_le _,rfl,HT2⟩
 case round =>
 obtain ⟨wl3,rfl⟩:∃wl:World,wl=wr:=⟨_,rfl⟩
 obtain ⟨k,hk,rfl,HT3⟩:=hrel
 have q6:=HT3.out.cell HGF.out P6.out
 by_cases hlk:k < x.over.length
 ·as_aux_lemma =>
  have d2:decide ((k:Int) < (x.over.length:Int))=true:=decide_eq_true (by omega)
  have k0:(0:Int)≤(k:Int):=Int.natCast_nonneg _
  have k1:(k:Int) < (x.over.length:Int):=by omega
  obtain ⟨b,hB,hbF,hbz,⟨u,hu⟩,hfz⟩:=InL.at_ HT3.out I6.out (i:=k*3) (by omega)
  subst hB
  have HW:=Lib.hid (HT3.out.put (p:=⟨b,k*3,none⟩) ⟨i,_,Nat.lt_succ_self i,HPP.out,hbF⟩ (.int .i64 77))
  clear hbF
  go_wp2
  go_roundw
  case rel=>exact ⟨k+1,by omega,by go_num,HW⟩
  case measure=>simp [intOf];omega
 obtain rfl:k=x.over.length:=by omega
 have d2:decide ((x.over.length:Int) < (x.over.length:Int))=false:=decide_eq_false (by omega)
 have q3:=HT3.out.cell HGF.out P3.out
 go_wp2
 clear d2 q6 hk hlk
 go_loopw [130] (fun v wr=>∃k:Nat,k≤x.lies.length∧v=.int .i64 k∧Hid (TJ ps (i+1) w0 wr)) (fun v _=>x.lies.length - (intOf v).toNat)
 case atStart=>exact ⟨0,Nat.zero_le _,rfl,HT3⟩
 case round =>
 obtain ⟨wl4,rfl⟩:∃wl:World,wl=wr:=⟨_,rfl⟩
 obtain ⟨k,hk,rfl,HT4⟩:=hrel
 have q3:=HT4.out.cell HGF.out P3.out
 by_cases hlk:k < x.lies.length
 ·as_aux_lemma =>
  have d2:decide ((k:Int) < (x.lies.length:Int))=true:=decide_eq_true (by omega)
  have k0:(0:Int)≤(k:Int):=Int.natCast_nonneg _
  have k1:(k:Int) < (x.lies.length:Int):=by omega
  obtain ⟨b,hB,hbF,hbz,⟨u,hu⟩,hfz⟩:=InL.at_ HT4.out I3.out (i:=k*2+1) (by omega)
  subst hB
  have HW:=Lib.hid (HT4.out.put (p:=⟨b,k*2+1,none⟩) ⟨i,_,Nat.lt_succ_self i,HPP.out,hbF⟩ (.int .i64 77))
  clear hbF
  go_wp2
  go_roundw
  case rel=>exact ⟨k+1,by omega,by go_num,HW⟩
  case measure=>simp [intOf];omega
 obtain rfl:k=x.lies.length:=by omega
 have d2:decide ((x.lies.length:Int) < (x.lies.length:Int))=false:=decide_eq_false (by omega)
 have q4:=HT4.out.cell HGF.out P4.out
 go_wp2
 clear d2 q3 hk hlk
 go_loopw [148] (fun v wr=>∃k:Nat,k≤x.crosses.length∧v=.int .i64 k∧Hid (TJ ps (i+1) w0 wr)) (fun v _=>x.crosses.length - (intOf v).toNat)
 case atStart=>exact ⟨0,Nat.zero_le _,rfl,HT4⟩
 case round =>
 obtain ⟨wl5,rfl⟩:∃wl:World,wl=wr:=⟨_,rfl⟩
 obtain ⟨k,hk,rfl,HT5⟩:=hrel
 have q4:=HT5.out.cell HGF.out P4.out
 by_cases hlk:k < x.crosses.length
 ·as_aux_lemma =>
  have d2:decide ((k:Int) < (x.crosses.length:Int))=true:=decide_eq_true (by omega)
  have k0:(0:Int)≤(k:Int):=Int.natCast_nonneg _
  have k1:(k:Int) < (x.crosses.length:Int):=by omega
  obtain ⟨b,hB,hbF,hbz,⟨u,hu⟩,hfz⟩:=InL.at_ HT5.out I4.out (i:=k) (by omega)
  subst hB
  have HW:=Lib.hid (HT5.out.put (p:=⟨b,k,none⟩) ⟨i,_,Nat.lt_succ_self i,HPP.out,hbF⟩ (.int .i64 77))
  clear hbF
  go_wp2
  go_roundw
  case rel=>exact ⟨k+1,by omega,by go_num,HW⟩
  case measure=>simp [intOf];omega
 obtain rfl:k=x.crosses.length:=by omega
 have d2:decide ((x.crosses.length:Int) < (x.crosses.length:Int))=false:=decide_eq_false (by omega)
 go_wp2
 clear d2 q4 hk hlk
 obtain ⟨wv,rfl⟩:∃wv:World,wv=wl5:=⟨_,rfl⟩
 have HTV:=HT5
 obtain ⟨i',hi'⟩:∃i':Nat,i'=i+1:=⟨_,rfl⟩
 have HI':=Lib.hid hi'
 have e1:(i:Int)+1=(i':Int):=by omega
 have e1w:IntKind.i64.wrap ((i:Int)+1)=(i':Int):=by rw [IntKind.wrap_i64];omega
 have e1v:IntKind.i64.wrap (i':Int)=(i':Int):=by rw [IntKind.wrap_i64];omega
 clear hi'
 by_cases hl2:i' < gs.length
 rotate_left
 ·as_aux_lemma =>
  have d2:decide ((i':Int) < (gs.length:Int))=false:=decide_eq_false (by omega)
  go_wp2
  go_quiet (fail)
  go_wp2
  go_roundw
  case rel=>exact ⟨i+1,by have:=HI'.out;omega,by go_num,Lib.hid (HTV.out.below (below_drewN (Below.refl _ _) _))⟩
  case measure=>simp [intOf];omega
 as_aux_lemma =>
 have d2:decide ((i':Int) < (gs.length:Int))=true:=decide_eq_true (by omega)
 have j0:(0:Int)≤(i':Int):=Int.natCast_nonneg _
 have j1:(i':Int) < (gs.length:Int):=by omega
 obtain ⟨g',p',hgg,hg',hp',hgf',hpf',D2,D3,D4,D5,D6,D7,f2,f3,f4,f5,f6,f7,p0,p1,p2,p3,p4,p5,p6,p7,HRC,_⟩:=top_at HR0.out (j:=i') (by omega)
 injection hgg with hgg
 injection hgg with hgg _ _
 subst hgg
 obtain ⟨y,F'⟩:=p'
 simp only at p0 p1 p2 p3 p4 p5 p6 p7 HRC hpf'
 have hyg:gs[i']?=some y:=by rw [←HPS.out,List.getElem?_map,hp'];rfl
 rw [←HI'.out] at HTV
 have HRCv:Hid (RC wv (fun b=>b∈F') y D2 D3 D4 D5 D6 D7):=Lib.hid ⟨Kn.C_move (fun b hb=>HTV.out.k.block b (hpf' b hb).2 (hpf' b hb).1) HRC.out.h2,Kn.C_move (fun b hb=>HTV.out.k.block b (hpf' b hb).2 (hpf' b hb).1) HRC.out.h3,Kn.C_move (fun b hb=>HTV.out.k.block b (hpf' b hb).2 (hpf' b hb).1) HRC.out.h4,Kn.C_move (fun b hb=>HTV.out.k.block b (hpf' b hb).2 (hpf' b hb).1) HRC.out.h5,Kn.C_move (fun b hb=>HTV.out.k.block b (hpf' b hb).2 (hpf' b hb).1) HRC.out.h6,Kn.C_move (fun b hb=>HTV.out.k.block b (hpf' b hb).2 (hpf' b hb).1) HRC.out.h7⟩
 have p0:=HTV.out.cell (hgf' i') p0
 have p1:=HTV.out.cell (hgf' i') p1
 have p2:=HTV.out.cell (hgf' i') p2
 have p3:=HTV.out.cell (hgf' i') p3
 have p4:=HTV.out.cell (hgf' i') p4
 have p5:=HTV.out.cell (hgf' i') p5
 have p6:=HTV.out.cell (hgf' i') p6
 have p7:=HTV.out.cell (hgf' i') p7
 have HBv:=Lib.hid (HB3z.out.trans (HTV.out.k.to_below HB3z.out.size (fun k hk hF=>by have:=HFB.out _ _ hF;omega)))
 obtain ⟨gb,rfl,y',Ey,E2,E3,E4,E5,E6,E7,k2,k3,k4,k5,k6,k7,q0,q1,q2,q3,q4,q5,q6,q7,HRb⟩:=rC_at (Kn.C_below HBv.out HC.out) i' hl2
 obtain rfl:=Option.some.inj (hyg.symm.trans Ey.out)
 have hyn:=HGN.out y (List.mem_of_getElem? hyg)
 clear hgf' hpf' hp' hg' hyg
 go_wp2
 go_region_held3 (fun w'=>Below wv.heap.size wv w'∧w'.cell? ⟨g,i'*8,none⟩=some (.int .i64 y.frm)∧w'.cell? ⟨g,i'*8+1,none⟩=some (.int .i64 y.til)∧w'.cell? ⟨g,i'*8+2,none⟩=some (.slice D2 y.steps.length f2)∧w'.cell? ⟨g,i'*8+3,none⟩=some (.slice D3 y.lies.length f3)∧w'.cell? ⟨g,i'*8+4,none⟩=some (.slice D4 y.crosses.length f4)∧w'.cell? ⟨g,i'*8+5,none⟩=some (.slice D5 y.parts.length f5)∧w'.cell? ⟨g,i'*8+6,none⟩=some (.slice D6 y.over.length f6)∧w'.cell? ⟨g,i'*8+7,none⟩=some (.slice D7 y.flanks.length f7)∧w'.cell? (gb.add (i'*8))=some (.int .i64 y.frm)∧w'.cell? ⟨(gb.add (i'*8)).block,(gb.add (i'*8)).off+1,none⟩=some (.int .i64 y.til)∧w'.cell? ⟨(gb.add (i'*8)).block,(gb.add (i'*8)).off+2,none⟩=some (.slice E2 y.steps.length k2)∧w'.cell? ⟨(gb.add (i'*8)).block,(gb.add (i'*8)).off+3,none⟩=some (.slice E3 y.lies.length k3)∧w'.cell? ⟨(gb.add (i'*8)).block,(gb.add (i'*8)).off+4,none⟩=some (.slice E4 y.crosses.length k4)∧w'.cell? ⟨(gb.add (i'*8)).block,(gb.add (i'*8)).off+5,none⟩=some (.slice E5 y.parts.length k5)∧w'.cell? ⟨(gb.add (i'*8)).block,(gb.add (i'*8)).off+6,none⟩=some (.slice E6 y.over.length k6)∧w'.cell? ⟨(gb.add (i'*8)).block,(gb.add (i'*8)).off+7,none⟩=some (.slice E7 y.flanks.length k7))
  (first | exact ⟨(Below.refl _ _).drew,p0,p1,p2,p3,p4,p5,p6,p7,q0,q1,q2,q3,q4,q5,q6,q7⟩ | exact ⟨hbS.trans (hbc.mono hbS.size),cell_below (hbS.trans (hbc.mono hbS.size)) p0,cell_below (hbS.trans (hbc.mono hbS.size)) p1,cell_below (hbS.trans (hbc.mono hbS.size)) p2,cell_below (hbS.trans (hbc.mono hbS.size)) p3,cell_below (hbS.trans (hbc.mono hbS.size)) p4,cell_below (hbS.trans (hbc.mono hbS.size)) p5,cell_below (hbS.trans (hbc.mono hbS.size)) p6,cell_below (hbS.trans (hbc.mono hbS.size)) p7,cell_below (hbS.trans (hbc.mono hbS.size)) q0,cell_below (hbS.trans (hbc.mono hbS.size)) q1,cell_below (hbS.trans (hbc.mono hbS.size)) q2,cell_below (hbS.trans (hbc.mono hbS.size)) q3,cell_below (hbS.trans (hbc.mono hbS.size)) q4,cell_below (hbS.trans (hbc.mono hbS.size)) q5,cell_below (hbS.trans (hbc.mono hbS.size)) q6,cell_below (hbS.trans (hbc.mono hbS.size)) q7⟩)
  (first | (go_at_call 15;obtain ⟨hbS,_⟩:=‹Below wv.heap.size wv _∧_›;(with_reducible refine (wRoute y D2 D3 D4 D5 D6 D7 f2 f3 f4 f5 f6 f7 E2 E3 E4 E5 E6 E7 k2 k3 k4 k5 k6 k7 _ (HRCv.out.below hbS) (HRb.out.below hbS) hyn).mono ?_);rintro e wz ⟨rfl,hbc⟩))
 obtain ⟨hbF,_⟩:=‹Below wv.heap.size wv wz∧_›
 have HTN:=Lib.hid (HTV.out.below hbF)
 go_wp2
 go_roundw
 case rel=>exact ⟨i',by omega,by rw [HI'.out],HTN⟩
 case measure=>simp [intOf];omega
end Go.Proofs.Ytjccgneimknbpaa.L
