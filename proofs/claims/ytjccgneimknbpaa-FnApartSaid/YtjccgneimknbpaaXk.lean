/- The law FnApart, walked: it answers true. -/
import Derived.Test.YtjccgneimknbpaaXj
set_option linter.unusedVariables false
set_option linter.unusedSimpArgs false
namespace Go.Proofs.Ytjccgneimknbpaa.L
open Go.RowKit
open Classical
section
variable {n:Net} {ss:List Signal} {ov:Int}
end
theorem meets_comm {x y:Part}:meets x y↔meets y x:=⟨fun h=>⟨h.1.symm,h.2.2,h.2.1⟩,fun h=>⟨h.1.symm,h.2.2,h.2.1⟩⟩
theorem touch_comm {a b:List Part}:touch a b↔touch b a:=⟨fun ⟨x,hx,y,hy,h⟩=>⟨y,hy,x,hx,meets_comm.1 h⟩,fun ⟨x,hx,y,hy,h⟩=>⟨y,hy,x,hx,meets_comm.1 h⟩⟩
theorem excl_zero {a b:Route}:excl a b=0↔¬touch a.parts b.parts∧¬crossP a.crosses b.crosses∧¬needP a b∧¬touch a.over b.parts∧¬touch a.parts b.over:=by
 unfold excl
 constructor
 ·intro h
  split at h
  ·exact absurd h (by decide)
  split at h
  ·exact absurd h (by decide)
  split at h
  ·exact absurd h (by decide)
  split at h
  ·exact absurd h (by decide)
  rename_i h1 h2 h3 h4
  exact ⟨h1,h2,h3,fun e=>h4 (.inl e),fun e=>h4 (.inr e)⟩
 ·rintro ⟨h1,h2,h3,h4,h5⟩
  rw [if_neg h1,if_neg h2,if_neg h3,if_neg (fun e=>e.elim h4 h5)]
theorem excl_zero_comm {a b:Route}:excl a b=0↔excl b a=0:=by
 have key:∀{a b:Route},excl a b=0→excl b a=0:=fun {a b} h=>by
  rw [excl_zero] at h ⊢
  obtain ⟨h1,h2,h3,h4,h5⟩:=h
  exact ⟨fun e=>h1 (touch_comm.1 e),fun ⟨x,hx,hy⟩=>h2 ⟨x,hy,hx⟩,fun ⟨x,hx,y,hy,he⟩=>h3 ⟨y,hy,x,hx,he.1.symm,fun q=>he.2 q.symm⟩,fun e=>h5 (touch_comm.1 e),fun e=>h4 (touch_comm.1 e)⟩
 exact ⟨key,key⟩
theorem Rt.part0 {n:Net} {ss:List Signal} {ov:Int} {r:Route} (h:Rt n ss ov r):∃x,r.parts[0]?=some x∧x.frm≤x.til:=by
 have h1:0 < r.parts.length:=by rw [h.len];exact h.pos
 obtain ⟨_,_,_,h3,_⟩:=h.part 0 _ _ (List.getElem?_eq_getElem h1) (List.getElem?_eq_getElem h.pos)
 exact ⟨_,List.getElem?_eq_getElem h1,h3⟩
theorem excl_self {n:Net} {ss:List Signal} {ov:Int} {r:Route} (h:Rt n ss ov r):excl r r=1:=by
 obtain ⟨x,hx,hle⟩:=h.part0
 unfold excl
 rw [if_pos ⟨x,List.mem_of_getElem? hx,x,List.mem_of_getElem? hx,rfl,hle,hle⟩]
theorem apart_place {a b:Route} (h:excl a b=0) {p q:Part} (hp:p∈a.parts) (hq:q∈b.parts∨q∈b.over) {t:Int} (h1:p.frm≤t) (h2:t≤p.til) (h3:p.piece=q.piece) (h4:q.frm≤t) (h5:t≤q.til):False:=by
 obtain ⟨e1,_,_,_,e5⟩:=excl_zero.1 h
 have hm:meets p q:=⟨h3,by omega,by omega⟩
 rcases hq with hq | hq
 ·exact e1 ⟨p,hp,q,hq,hm⟩
 ·exact e5 ⟨p,hp,q,hq,hm⟩
theorem apart_need {a b:Route} (h:excl a b=0) {x y:Lie} (hx:x∈needs a) (hy:y∈needs b) (hj:x.joint=y.joint):x.lie=y.lie:=by
 obtain ⟨_,_,e3,_,_⟩:=excl_zero.1 h
 exact Classical.byContradiction fun hc=>e3 ⟨x,hx,y,hy,hj,hc⟩
end Go.Proofs.Ytjccgneimknbpaa.L
namespace Go.Proofs.Ytjccgneimknbpaa.L
open Go.RowKit
open Classical
def RetWb (w:World) (e:Ending) (w':World):Prop:=∃v:Nat,v≤255∧e=.returned (.int .i64 v)∧w=w'
theorem modAt {k:Int} {m:Nat} (hk:0≤k) (hm:0 < m):∃r:Nat,Hid (k.tmod (m:Int)=(r:Int))∧r < m:=by
 have h1:=Int.emod_nonneg k (show (m:Int)≠0 by omega)
 have h2:=Int.emod_lt_of_pos k (show (0:Int) < (m:Int) by omega)
 exact ⟨(k % (m:Int)).toNat,Lib.hid (by rw [Int.tmod_eq_emod_of_nonneg hk];omega),by omega⟩
set_option maxRecDepth 100000 in
set_option maxHeartbeats 4000000 in
theorem wByte {ok:Nat→Prop} (bs:List Int) (A:Option Addr) (c:Nat) (k:Int) (w:World) (hx:byteK.C w ok A bs) (hbs:Hid (∀x∈bs,0≤x∧x≤255)) (hl:bs.length≤1048576) (hk:0≤k∧k≤1048576):Calls Try.prog 17 #[.slice A bs.length c,.int .i64 k] w (RetWb w):=by
 by_cases h0:bs.length=0
 ·have d0:((bs.length:Int) == 0)=true:=int_eqt (by omega)
  clear h0
  go_enter Try.func17,Try.ntmps17
  go_wp2
  go_ret
  exact ⟨0,by omega,rfl,rfl⟩
 have d0:((bs.length:Int) == 0)=false:=int_eqf (by omega)
 obtain ⟨r,hr,hrl⟩:∃r:Nat,Hid (k.tmod (bs.length:Int)=(r:Int))∧r < bs.length :=
  modAt hk.1 (by omega)
 have e1:=hr.out
 have e2:k % (bs.length:Int)=(r:Int):=by rw [←e1,Int.tmod_eq_emod_of_nonneg hk.1]
 obtain ⟨ad,rfl,y,EY,c0⟩:=byte_at hx r hrl
 have hy:=hbs.out y (List.mem_of_getElem? EY.out)
 obtain ⟨v,rfl⟩:∃v:Nat,y=v:=⟨y.toNat,by omega⟩
 have r0:(0:Int)≤(r:Int):=Int.natCast_nonneg _
 have r1:(r:Int) < (bs.length:Int):=by omega
 have hx:=Lib.hid hx
 clear hr
 go_enter Try.func17,Try.ntmps17
 go_wp2
 go_ret
 exact ⟨v,by omega,by go_num,rfl⟩
set_option maxRecDepth 100000 in
set_option maxHeartbeats 4000000 in
/-- Where no part holds the place, wIn answers no. -/
theorem wInNo {ok:Nat→Prop} (xs:List Part) (A:Option Addr) (c:Nat) (q t:Int) (w:World) (hx:partK.C w ok A xs) (hl:xs.length≤1048576) (hn:Hid (∀p∈xs,¬(p.piece=q∧p.frm≤t∧t≤p.til))):Calls Try.prog 20 #[.slice A xs.length c,.int .i64 q,.int .i64 t] w (RetB false w):=by
 have hx:=Lib.hid hx
 go_enter Try.func20,Try.ntmps20
 go_wp2
 go_loopw [11] (fun iv wr=>∃j:Nat,j≤xs.length∧iv=.int .i64 j∧Hid (Below w.heap.size w wr)) (fun iv _=>xs.length - (intOf iv).toNat)
 case atStart=>exact ⟨0,Nat.zero_le _,rfl,Lib.hid (Below.refl _ _)⟩
 case round =>
 obtain ⟨j,hj,rfl,HB⟩:=hrel
 by_cases hlj:j < xs.length
 rotate_left
 ·obtain rfl:j=xs.length:=by omega
  have d0:decide ((xs.length:Int) < (xs.length:Int))=false:=decide_eq_false (by omega)
  go_wp2
  go_ret
  exact ⟨rfl,HB.out⟩
 have d0:decide ((j:Int) < (xs.length:Int))=true:=decide_eq_true (by omega)
 have a0:(0:Int)≤(j:Int):=Int.natCast_nonneg _
 have a1:(j:Int) < (xs.length:Int):=by omega
 obtain ⟨pa,rfl,X0,X1,X2,EX,p0,p1,p2⟩:=partK_at (Kn.C_below HB.out hx.out) j hlj
 have HNO:=Lib.hid (hn.out _ (List.mem_of_getElem? EX.out))
 have HBN:=Lib.hid (HB.out.alloc HB.out.size (.cells #[.int .i64 X0,.int .i64 X1,.int .i64 X2] 48))
 by_cases q0:X0=q
 rotate_left
 ·have b0:(X0 == q)=false:=int_eqf q0
  clear q0
  go_wp2
  go_roundw
  case rel=>exact ⟨j+1,by omega,by go_num,HBN⟩
  case measure=>simp [intOf];omega
 have b0:(X0 == q)=true:=int_eqt q0
 by_cases q1:X1≤t
 rotate_left
 ·have b1:decide (X1≤t)=false:=decide_eq_false q1
  clear q0 q1
  go_wp2
  go_roundw
  case rel=>exact ⟨j+1,by omega,by go_num,HBN⟩
  case measure=>simp [intOf];omega
 have b1:decide (X1≤t)=true:=decide_eq_true q1
 have b2:decide (t≤X2)=false:=decide_eq_false (fun h=>HNO.out ⟨q0,q1,h⟩)
 clear q0 q1
 go_wp2
 go_roundw
 case rel=>exact ⟨j+1,by omega,by go_num,HBN⟩
 case measure=>simp [intOf];omega
theorem implNeedsW {ok:Nat→Prop} (x:Route) (A2 A3 A4 A5 A6 A7:Option Addr) (c2 c3 c4 c5 c6 c7:Nat) (w:World) (h:RC w ok x A2 A3 A4 A5 A6 A7) (hn:x.n≤1048576) :
  Calls Try.prog 21 #[.agg #[.int .i64 x.frm,.int .i64 x.til,.slice A2 x.steps.length c2,.slice A3 x.lies.length c3,.slice A4 x.crosses.length c4,.slice A5 x.parts.length c5,.slice A6 x.over.length c6,.slice A7 x.flanks.length c7]] w (RetW 52 lieK nobody (needs x) w):=by
 unfold Route.n at hn
 exact implNeeds x _ _ _ _ _ _ A3 A7 c3 c7 w h.h3 h.h7 (by omega) (by omega)
end Go.Proofs.Ytjccgneimknbpaa.L
namespace Go.Proofs.Ytjccgneimknbpaa.L
open Go.RowKit
open Classical
theorem RetRR.Cda {rs:List Route} {w w':World} {e:Ending} (h:RetRR rs w e w'):∃A c,e=.returned (.slice A rs.length c)∧rs.length≤c∧Hid (rK.C w' (fun _=>True) A rs)∧Below w.heap.size w w':=by
 obtain ⟨A,c,rfl,hl,hR,_,hb⟩:=h
 exact ⟨A,c,rfl,hl,Lib.hid (Kn.C_mono (fun _ _=>trivial) (Rw_slice hR.out).2.2),hb⟩
theorem part_in {n:Net} {ss:List Signal} {ov:Int} {r:Route} (hr:Right n ss) (h:Rt n ss ov r) {j:Nat} {a b c:Int} (hj:r.parts[j]?=some ⟨a,b,c⟩):0≤b∧b≤c∧c≤10000000:=by
 have hl:j < r.steps.length:=by rw [←h.len];exact (List.getElem?_eq_some_iff.1 hj).1
 obtain ⟨s,hs⟩:∃s,r.steps[j]?=some s:=⟨_,List.getElem?_eq_getElem hl⟩
 obtain ⟨_,g1,g2,g3,g4,_⟩:=h.part j _ _ hj hs
 have hst:=h.stepP s (List.mem_of_getElem? hs)
 simp only at g1 g2 g3 g4
 rw [g1] at g4
 have:=(pl_in hr.g hst.1.1 (by have:=hst.1.2;omega)).2
 omega
theorem needs_few {x:Route} (h:x.n≤1048576):(needs x).length≤2097152:=by
 have h1:=needsTo_len x.lies x.flanks x.flanks.length
 unfold Route.n at h
 show (needsTo x.lies x.flanks x.flanks.length).length≤_
 omega
set_option maxRecDepth 100000 in
set_option maxHeartbeats 16000000 in
theorem lawApart {ok ok':Nat→Prop} (bs bs2:List Int) (A A':Option Addr) (c c':Nat) (w:World) (hx:byteK.C w ok A bs) (hx':byteK.C w ok' A' bs2) (hbs:Hid (∀x∈bs,0≤x∧x≤255)) (hbs2:Hid (∀x∈bs2,0≤x∧x≤255)):Calls Try.prog 4 #[.slice A bs.length c,.slice A' bs2.length c'] w (RetB true w):=by
 have hm:=hx.1
 have hm2:=hx'.1
 have HX:=Lib.hid hx
 have HX':=Lib.hid hx'
 clear hx hx'
 by_cases hl:1048576 < bs.length
 ·have d0:decide ((1048576:Int) < (bs.length:Int))=true:=decide_eq_true (by omega)
  go_enter Try.func4,Try.ntmps4
  go_wp2
  go_ret
  exact ⟨rfl,Below.refl _ _⟩
 have d0:decide ((1048576:Int) < (bs.length:Int))=false:=decide_eq_false (by omega)
 by_cases hl2:1048576 < bs2.length
 ·have d0':decide ((1048576:Int) < (bs2.length:Int))=true:=decide_eq_true (by omega)
  go_enter Try.func4,Try.ntmps4
  go_wp2
  go_ret
  exact ⟨rfl,Below.refl _ _⟩
 have d0':decide ((1048576:Int) < (bs2.length:Int))=false:=decide_eq_false (by omega)
 have hl2':bs2.length≤1048576:=by omega
 go_enter Try.func4,Try.ntmps4
 go_wp2_with fail
 refine (drDrawn bs A c _ HX.out hbs).mono ?_
 rintro e w1 ⟨n,ss,ov,A0,A1,A2,c0,c1,c2,rfl,HD,HS,hc2,ov0,ov1,HN,HSg,HB1⟩
 clear d0 hl d0' hl2
 obtain ⟨W2,hW2,hb2,BN⟩:∃W,W=w1.alloc (.cells #[.slice A0 n.pieces.length c0,.slice A1 n.joints.length c1] 26)∧Hid (Below w1.heap.size w1 W)∧Hid (Blk W w1.heap.size 26 [.slice A0 n.pieces.length c0,.slice A1 n.joints.length c1]):=⟨_,rfl,Lib.hid (below_alloc _ _),Lib.hid (Blk.new _ _ _ rfl)⟩
 go_upto_region 4 with (fail)
 rw [←hW2]
 clear hW2
 have HN:=Lib.hid (HN.out.below hb2.out)
 have HSg:=Lib.hid (Kn.C_below hb2.out HSg.out)
 have HB2:=Lib.hid (HB1.out.trans (hb2.out.mono HB1.out.size))
 have s0:=BN.out.cell 0 rfl
 have s1:=BN.out.cell 1 rfl
 have hz:w1.heap.size < W2.heap.size:=BN.out.lt
 go_wp2_with fail
 refine (specRoutes n ss ov A0 A1 A2 c0 c1 c2 _ HN.out HSg.out HD.out.sm.netIn HS.out.sigIn).mono ?_
 intro e w3 hr
 obtain ⟨P,cp,rfl,hcp,HC,hb3⟩:=RetRR.Cda hr
 obtain ⟨gs,hgs⟩:∃l,Hid (routesF n ss ov=l):=⟨_,Lib.hid rfl⟩
 rw [hgs.out] at HC ⊢
 have hgl:gs.length≤300:=by rw [←hgs.out];exact routesF_len n ss ov
 have HRT:Hid (∀r∈gs,Right n ss∧Rt n ss ov r∧r.n≤1048576):=Lib.hid (fun r hr=>by
  rw [←hgs.out] at hr
  refine ⟨(routesF_rt hr).1,(routesF_rt hr).2.2.2,?_⟩
  have h2:=Rt.size (routesF_rt hr).1 (routesF_rt hr).2.2.2 (by omega)
  show r.steps.length+r.lies.length+r.crosses.length+r.parts.length+r.over.length+r.flanks.length≤1048576
  omega)
 have HB3:=Lib.hid (HB2.out.trans (hb3.mono HB2.out.size))
 clear hr hb3 hb2 HB1 HB2 hcp s0 s1 hz
 go_wp2_with fail
 refine (implTable P cp gs _ HC.out (Lib.hid (fun r hr=>(HRT.out r hr).2.2))).mono ?_
 intro e w4 hr
 obtain ⟨T,cT,rfl,hcT,HT,hb4⟩:=RetS.opC hr
 have HTL:(tabF gs).length=gs.length:=tabF_length hgl
 have HTR:Hid (∀(i:Nat) (a:Route) (row:List Int),gs[i]?=some a→(tabF gs)[i]?=some row→row=gs.map (excl a)):=Lib.hid (fun i a row ha hrow=>Option.some.inj (hrow.symm.trans (tabF_row hgl ha)))
 obtain ⟨tb,htb⟩:∃l,Hid (tabF gs=l):=⟨_,Lib.hid rfl⟩
 rw [htb.out] at HT HTL HTR ⊢
 have HC:=Lib.hid (Kn.C_below hb4 HC.out)
 have HB4:=Lib.hid (HB3.out.trans (hb4.mono HB3.out.size))
 clear hr hb4 HB3 hcT htb
 rw [HTL]
 have d1:((gs.length:Int) != (gs.length:Int))=false:=len_eq rfl
 go_wp2
 go_loopw [49] (fun iv wr=>∃i:Nat,i≤gs.length∧iv=.int .i64 i∧Hid (Below w4.heap.size w4 wr)) (fun iv _=>gs.length - (intOf iv).toNat)
 case atStart=>exact ⟨0,Nat.zero_le _,rfl,Lib.hid (Below.refl _ _)⟩
 case round =>
 obtain ⟨wq,rfl⟩:∃wq:World,wq=wr:=⟨_,rfl⟩
 obtain ⟨i,hi,rfl,HBq⟩:=hrel
 by_cases hli:i < gs.length
 ·as_aux_lemma =>
  have d2:decide ((i:Int) < (gs.length:Int))=true:=decide_eq_true (by omega)
  have i0:(0:Int)≤(i:Int):=Int.natCast_nonneg _
  have i1:(i:Int) < (gs.length:Int):=by omega
  obtain ⟨ta,rfl,row,Erow,B,dB,g0,HROW⟩:=row_at (Kn.C_below HBq.out HT.out) i (by omega)
  obtain ⟨a,ha⟩:∃a,gs[i]?=some a:=⟨_,List.getElem?_eq_getElem hli⟩
  have HRE:=Lib.hid (HTR.out i a row ha Erow.out)
  have hrl:row.length=gs.length:=by rw [HRE.out,List.length_map]
  obtain ⟨va,rfl,y,Ey,g1⟩:=int_at HROW.out i (by omega)
  obtain rfl:y=1:=by
   have h1:=Ey.out
   rw [HRE.out,List.getElem?_map,ha] at h1
   have h2:=excl_self (HRT.out a (List.mem_of_getElem? ha)).2.1
   have h3:=Option.some.inj h1
   rw [←h3]
   exact h2
  clear ha
  rw [hrl] at g0
  go_wp2
  go_roundw
  case rel=>exact ⟨i+1,by omega,by go_num,HBq⟩
  case measure=>simp [intOf];omega
 obtain rfl:i=gs.length:=by omega
 have d2:decide ((gs.length:Int) < (gs.length:Int))=false:=decide_eq_false (by omega)
 have HB5:=Lib.hid (HB4.out.trans (HBq.out.mono HB4.out.size))
 have HC:=Lib.hid (Kn.C_below HBq.out HC.out)
 have HT:=Lib.hid (Kn.C_below HBq.out HT.out)
 go_wp2
 clear d1 d2 HB4 HBq
 go_loopw [11] (fun iv wr=>∃k:Nat,k≤12∧iv=.int .i64 k∧Hid (Below wq.heap.size wq wr)) (fun iv _=>12 - (intOf iv).toNat)
 case atStart=>exact ⟨0,Nat.zero_le _,rfl,Lib.hid (Below.refl _ _)⟩
 case round =>
 obtain ⟨wo,rfl⟩:∃wo:World,wo=wr:=⟨_,rfl⟩
 obtain ⟨k,hk,rfl,HBo⟩:=hrel
 have HBZ:=Lib.hid (HB5.out.trans (HBo.out.mono HB5.out.size))
 by_cases hlk:k < 12
 rotate_left
 ·as_aux_lemma =>
  have d3:decide ((k:Int) < 12)=false:=decide_eq_false (by omega)
  have hfin:=HBZ.out
  go_wp2
  go_ret
  exact ⟨rfl,hfin⟩
 have d3:decide ((k:Int) < 12)=true:=decide_eq_true (by omega)
 by_cases hg:gs.length=0
 ·as_aux_lemma =>
  have d4:decide ((0:Int) < (gs.length:Int))=false:=decide_eq_false (by omega)
  have d4':decide (0 < gs.length)=false:=decide_eq_false (by omega)
  have hfin:=HBZ.out
  clear hg
  go_wp2
  go_ret
  exact ⟨rfl,hfin⟩
 have hgp:0 < gs.length:=by omega
 have d4:decide ((0:Int) < (gs.length:Int))=true:=decide_eq_true (by omega)
 have d4':decide (0 < gs.length)=true:=decide_eq_true (by omega)
 have dz:((gs.length:Int) == 0)=false:=int_eqf (by omega)
 have dz2:¬(gs.length:Int)=0:=by omega
 have k0:(0:Int)≤(k:Int):=Int.natCast_nonneg _
 clear hg
 have HX2:=Lib.hid (Kn.C_below HBZ.out HX'.out)
 go_wp2_with fail
 refine (wByte bs2 A' c' k _ HX2.out hbs2 hl2' ⟨by omega,by omega⟩).mono ?_
 rintro e wz ⟨v,hv,rfl,rfl⟩
 obtain ⟨i,ei,hil⟩:=modAt (k:=(v:Int)) (by omega) hgp
 have e1:=ei.out
 have e2:(v:Int) % (gs.length:Int)=(i:Int):=by rw [←e1,Int.tmod_eq_emod_of_nonneg (by omega)]
 go_wp2_with fail
 refine (wByte bs2 A' c' (k+12) _ HX2.out hbs2 hl2' ⟨by omega,by omega⟩).mono ?_
 rintro e wz ⟨u,hu,rfl,rfl⟩
 clear e1 e2
 obtain ⟨j,ej,hjl⟩:=modAt (k:=(u:Int)) (by omega) hgp
 have e1:=ej.out
 have e2:(u:Int) % (gs.length:Int)=(j:Int):=by rw [←e1,Int.tmod_eq_emod_of_nonneg (by omega)]
 have i0:(0:Int)≤(i:Int):=Int.natCast_nonneg _
 have i1:(i:Int) < (gs.length:Int):=by omega
 have j0:(0:Int)≤(j:Int):=Int.natCast_nonneg _
 have j1:(j:Int) < (gs.length:Int):=by omega
 have HCo:=Lib.hid (Kn.C_below HBo.out HC.out)
 have HTo:=Lib.hid (Kn.C_below HBo.out HT.out)
 obtain ⟨ga,rfl,ra,Era,D2,D3,D4,D5,D6,D7,d2,d3x,d4x,d5,d6,d7,p0,p1,p2,p3,p4,p5,p6,p7,HRa⟩:=rC_at HCo.out i hil
 obtain ⟨ga',hga,rb,Erb,E2,E3,E4,E5,E6,E7,e2x,e3,e4,e5,e6,e7,q0,q1,q2,q3,q4,q5,q6,q7,HRb⟩:=rC_at HCo.out j hjl
 obtain rfl:=Option.some.inj hga
 clear hga
 obtain ⟨ta,rfl,row,Erow,B,dB,g0,HROW⟩:=row_at HTo.out i (by omega)
 obtain ⟨ta',hta,row',Erow',B',dB',h0,HROW'⟩:=row_at HTo.out j (by omega)
 obtain rfl:=Option.some.inj hta
 clear hta
 have HRE:=Lib.hid (HTR.out i ra row Era.out Erow.out)
 have HRE':=Lib.hid (HTR.out j rb row' Erb.out Erow'.out)
 have hrl:row.length=gs.length:=by rw [HRE.out,List.length_map]
 have hrl':row'.length=gs.length:=by rw [HRE'.out,List.length_map]
 obtain ⟨va,rfl,y,Ey,g1⟩:=int_at HROW.out j (by omega)
 obtain ⟨vb,rfl,z,Ez,h1⟩:=int_at HROW'.out i (by omega)
 have HY:Hid (excl ra rb=y):=Lib.hid (by
  have h2:=Ey.out
  rw [HRE.out,List.getElem?_map,Erb.out] at h2
  exact Option.some.inj h2)
 have HZ:Hid (excl rb ra=z):=Lib.hid (by
  have h2:=Ez.out
  rw [HRE'.out,List.getElem?_map,Era.out] at h2
  exact Option.some.inj h2)
 have HYZ:Hid (y=0↔z=0):=Lib.hid (by rw [←HY.out,←HZ.out];exact excl_zero_comm)
 have HQa:=Lib.hid (HRT.out ra (List.mem_of_getElem? Era.out))
 have HQb:=Lib.hid (HRT.out rb (List.mem_of_getElem? Erb.out))
 rw [hrl] at g0
 rw [hrl'] at h0
 go_upto_region 20 with (fail)
 clear e1 e2 d3 d4 d4' dz dz2
 by_cases hy:y=0
 rotate_left
 ·as_aux_lemma =>
  have hzn:¬z=0:=fun e=>hy (HYZ.out.2 e)
  have t0:(y == 0)=false:=int_eqf hy
  have t1:(z == 0)=false:=int_eqf hzn
  have t2:(y != 0)=true:=neq_t hy
  have t3:(y != y)=false:=neq_f rfl
  clear hy hzn
  go_region_held3 (fun w'=>Below wo.heap.size wo w'∧w'.cell? (ta.add i)=some (.slice (some va) gs.length dB)∧w'.cell? (va.add j)=some (.int .i64 y)∧w'.cell? (ta.add j)=some (.slice (some vb) gs.length dB')∧w'.cell? (vb.add i)=some (.int .i64 z)∧w'.cell? (ga.add (i*8))=some (.int .i64 ra.frm)∧w'.cell? ⟨(ga.add (i*8)).block,(ga.add (i*8)).off+1,none⟩=some (.int .i64 ra.til)∧w'.cell? ⟨(ga.add (i*8)).block,(ga.add (i*8)).off+2,none⟩=some (.slice D2 ra.steps.length d2)∧w'.cell? ⟨(ga.add (i*8)).block,(ga.add (i*8)).off+3,none⟩=some (.slice D3 ra.lies.length d3x)∧w'.cell? ⟨(ga.add (i*8)).block,(ga.add (i*8)).off+4,none⟩=some (.slice D4 ra.crosses.length d4x)∧w'.cell? ⟨(ga.add (i*8)).block,(ga.add (i*8)).off+5,none⟩=some (.slice D5 ra.parts.length d5)∧w'.cell? ⟨(ga.add (i*8)).block,(ga.add (i*8)).off+6,none⟩=some (.slice D6 ra.over.length d6)∧w'.cell? ⟨(ga.add (i*8)).block,(ga.add (i*8)).off+7,none⟩=some (.slice D7 ra.flanks.length d7)∧w'.cell? (ga.add (j*8))=some (.int .i64 rb.frm)∧w'.cell? ⟨(ga.add (j*8)).block,(ga.add (j*8)).off+1,none⟩=some (.int .i64 rb.til)∧w'.cell? ⟨(ga.add (j*8)).block,(ga.add (j*8)).off+2,none⟩=some (.slice E2 rb.steps.length e2x)∧w'.cell? ⟨(ga.add (j*8)).block,(ga.add (j*8)).off+3,none⟩=some (.slice E3 rb.lies.length e3)∧w'.cell? ⟨(ga.add (j*8)).block,(ga.add (j*8)).off+4,none⟩=some (.slice E4 rb.crosses.length e4)∧w'.cell? ⟨(ga.add (j*8)).block,(ga.add (j*8)).off+5,none⟩=some (.slice E5 rb.parts.length e5)∧w'.cell? ⟨(ga.add (j*8)).block,(ga.add (j*8)).off+6,none⟩=some (.slice E6 rb.over.length e6)∧w'.cell? ⟨(ga.add (j*8)).block,(ga.add (j*8)).off+7,none⟩=some (.slice E7 rb.flanks.length e7))
   (first | exact ⟨(Below.refl _ _).drew,g0,g1,h0,h1,p0,p1,p2,p3,p4,p5,p6,p7,q0,q1,q2,q3,q4,q5,q6,q7⟩ | exact ⟨hbS.trans (hbc.mono hbS.size),cell_below (hbS.trans (hbc.mono hbS.size)) g0,cell_below (hbS.trans (hbc.mono hbS.size)) g1,cell_below (hbS.trans (hbc.mono hbS.size)) h0,cell_below (hbS.trans (hbc.mono hbS.size)) h1,cell_below (hbS.trans (hbc.mono hbS.size)) p0,cell_below (hbS.trans (hbc.mono hbS.size)) p1,cell_below (hbS.trans (hbc.mono hbS.size)) p2,cell_below (hbS.trans (hbc.mono hbS.size)) p3,cell_below (hbS.trans (hbc.mono hbS.size)) p4,cell_below (hbS.trans (hbc.mono hbS.size)) p5,cell_below (hbS.trans (hbc.mono hbS.size)) p6,cell_below (hbS.trans (hbc.mono hbS.size)) p7,cell_below (hbS.trans (hbc.mono hbS.size)) q0,cell_below (hbS.trans (hbc.mono hbS.size)) q1,cell_below (hbS.trans (hbc.mono hbS.size)) q2,cell_below (hbS.trans (hbc.mono hbS.size)) q3,cell_below (hbS.trans (hbc.mono hbS.size)) q4,cell_below (hbS.trans (hbc.mono hbS.size)) q5,cell_below (hbS.trans (hbc.mono hbS.size)) q6,cell_below (hbS.trans (hbc.mono hbS.size)) q7⟩)
   (first | (go_at_call 18;obtain ⟨hbS,_⟩:=‹Below wo.heap.size wo _∧_›;(with_reducible refine (implExcludeC ra rb D2 D3 D4 D5 D6 D7 d2 d3x d4x d5 d6 d7 E2 E3 E4 E5 E6 E7 e2x e3 e4 e5 e6 e7 _ (HRa.out.below hbS) (HRb.out.below hbS) HQa.out.2.2 HQb.out.2.2).mono ?_);rintro e wz ⟨rfl,hbc⟩;rw [HY.out]) | (go_at_call 19;obtain ⟨hbS,_⟩:=‹Below wo.heap.size wo _∧_›;(with_reducible refine (specExcludeC ra rb D2 D3 D4 D5 D6 D7 d2 d3x d4x d5 d6 d7 E2 E3 E4 E5 E6 E7 e2x e3 e4 e5 e6 e7 _ (HRa.out.below hbS) (HRb.out.below hbS) HQa.out.2.2 HQb.out.2.2).mono ?_);rintro e wz ⟨rfl,hbc⟩;rw [HY.out]))
  obtain ⟨hbF,_⟩:=‹Below wo.heap.size wo wz∧_›
  have HBN:=Lib.hid (HBo.out.trans (hbF.mono HBo.out.size))
  go_wp2
  go_roundw
  case rel=>exact ⟨k+1,by omega,by go_num,HBN⟩
  case measure=>simp [intOf];omega
 subst hy
 obtain rfl:z=0:=HYZ.out.1 rfl
 have HE:=HY
 go_region_held3 (fun w'=>Below wo.heap.size wo w'∧w'.cell? (ta.add i)=some (.slice (some va) gs.length dB)∧w'.cell? (va.add j)=some (.int .i64 0)∧w'.cell? (ta.add j)=some (.slice (some vb) gs.length dB')∧w'.cell? (vb.add i)=some (.int .i64 0)∧w'.cell? (ga.add (i*8))=some (.int .i64 ra.frm)∧w'.cell? ⟨(ga.add (i*8)).block,(ga.add (i*8)).off+1,none⟩=some (.int .i64 ra.til)∧w'.cell? ⟨(ga.add (i*8)).block,(ga.add (i*8)).off+2,none⟩=some (.slice D2 ra.steps.length d2)∧w'.cell? ⟨(ga.add (i*8)).block,(ga.add (i*8)).off+3,none⟩=some (.slice D3 ra.lies.length d3x)∧w'.cell? ⟨(ga.add (i*8)).block,(ga.add (i*8)).off+4,none⟩=some (.slice D4 ra.crosses.length d4x)∧w'.cell? ⟨(ga.add (i*8)).block,(ga.add (i*8)).off+5,none⟩=some (.slice D5 ra.parts.length d5)∧w'.cell? ⟨(ga.add (i*8)).block,(ga.add (i*8)).off+6,none⟩=some (.slice D6 ra.over.length d6)∧w'.cell? ⟨(ga.add (i*8)).block,(ga.add (i*8)).off+7,none⟩=some (.slice D7 ra.flanks.length d7)∧w'.cell? (ga.add (j*8))=some (.int .i64 rb.frm)∧w'.cell? ⟨(ga.add (j*8)).block,(ga.add (j*8)).off+1,none⟩=some (.int .i64 rb.til)∧w'.cell? ⟨(ga.add (j*8)).block,(ga.add (j*8)).off+2,none⟩=some (.slice E2 rb.steps.length e2x)∧w'.cell? ⟨(ga.add (j*8)).block,(ga.add (j*8)).off+3,none⟩=some (.slice E3 rb.lies.length e3)∧w'.cell? ⟨(ga.add (j*8)).block,(ga.add (j*8)).off+4,none⟩=some (.slice E4 rb.crosses.length e4)∧w'.cell? ⟨(ga.add (j*8)).block,(ga.add (j*8)).off+5,none⟩=some (.slice E5 rb.parts.length e5)∧w'.cell? ⟨(ga.add (j*8)).block,(ga.add (j*8)).off+6,none⟩=some (.slice E6 rb.over.length e6)∧w'.cell? ⟨(ga.add (j*8)).block,(ga.add (j*8)).off+7,none⟩=some (.slice E7 rb.flanks.length e7))
  (first | exact ⟨(Below.refl _ _).drew,g0,g1,h0,h1,p0,p1,p2,p3,p4,p5,p6,p7,q0,q1,q2,q3,q4,q5,q6,q7⟩ | exact ⟨hbS.trans (hbc.mono hbS.size),cell_below (hbS.trans (hbc.mono hbS.size)) g0,cell_below (hbS.trans (hbc.mono hbS.size)) g1,cell_below (hbS.trans (hbc.mono hbS.size)) h0,cell_below (hbS.trans (hbc.mono hbS.size)) h1,cell_below (hbS.trans (hbc.mono hbS.size)) p0,cell_below (hbS.trans (hbc.mono hbS.size)) p1,cell_below (hbS.trans (hbc.mono hbS.size)) p2,cell_below (hbS.trans (hbc.mono hbS.size)) p3,cell_below (hbS.trans (hbc.mono hbS.size)) p4,cell_below (hbS.trans (hbc.mono hbS.size)) p5,cell_below (hbS.trans (hbc.mono hbS.size)) p6,cell_below (hbS.trans (hbc.mono hbS.size)) p7,cell_below (hbS.trans (hbc.mono hbS.size)) q0,cell_below (hbS.trans (hbc.mono hbS.size)) q1,cell_below (hbS.trans (hbc.mono hbS.size)) q2,cell_below (hbS.trans (hbc.mono hbS.size)) q3,cell_below (hbS.trans (hbc.mono hbS.size)) q4,cell_below (hbS.trans (hbc.mono hbS.size)) q5,cell_below (hbS.trans (hbc.mono hbS.size)) q6,cell_below (hbS.trans (hbc.mono hbS.size)) q7⟩)
  (first | (go_at_call 18;obtain ⟨hbS,_⟩:=‹Below wo.heap.size wo _∧_›;(with_reducible refine (implExcludeC ra rb D2 D3 D4 D5 D6 D7 d2 d3x d4x d5 d6 d7 E2 E3 E4 E5 E6 E7 e2x e3 e4 e5 e6 e7 _ (HRa.out.below hbS) (HRb.out.below hbS) HQa.out.2.2 HQb.out.2.2).mono ?_);rintro e wz ⟨rfl,hbc⟩;rw [HY.out]) | (go_at_call 19;obtain ⟨hbS,_⟩:=‹Below wo.heap.size wo _∧_›;(with_reducible refine (specExcludeC ra rb D2 D3 D4 D5 D6 D7 d2 d3x d4x d5 d6 d7 E2 E3 E4 E5 E6 E7 e2x e3 e4 e5 e6 e7 _ (HRa.out.below hbS) (HRb.out.below hbS) HQa.out.2.2 HQb.out.2.2).mono ?_);rintro e wz ⟨rfl,hbc⟩;rw [HY.out]))
 obtain ⟨hbF,_⟩:=‹Below wo.heap.size wo wz∧_›
 have HB8:=Lib.hid (HBo.out.trans (hbF.mono HBo.out.size))
 have HRa:=Lib.hid (HRa.out.below hbF)
 have HRb:=Lib.hid (HRb.out.below hbF)
 have p0:=cell_below hbF p0
 have p1:=cell_below hbF p1
 have p2:=cell_below hbF p2
 have p3:=cell_below hbF p3
 have p4:=cell_below hbF p4
 have p5:=cell_below hbF p5
 have p6:=cell_below hbF p6
 have p7:=cell_below hbF p7
 have q0:=cell_below hbF q0
 have q1:=cell_below hbF q1
 have q2:=cell_below hbF q2
 have q3:=cell_below hbF q3
 have q4:=cell_below hbF q4
 have q5:=cell_below hbF q5
 have q6:=cell_below hbF q6
 have q7:=cell_below hbF q7
 clear g0 g1 h0 h1 hbF HBo HBZ HX2 HCo HTo HROW HROW' Ey Ez HY HZ HYZ HRE HRE'
 obtain ⟨wy,rfl⟩:∃wy:World,wy=wz:=⟨_,rfl⟩
 have hla:ra.parts.length≤201:=(Rt.size HQa.out.1 HQa.out.2.1 (by omega)).2.2.2.1
 have hlb:rb.parts.length≤201:=(Rt.size HQb.out.1 HQb.out.2.1 (by omega)).2.2.2.1
 have hob:rb.over.length≤100000:=(Rt.size HQb.out.1 HQb.out.2.1 (by omega)).2.2.2.2.1
 go_wp2
 go_loopw [145] (fun iv wr=>∃m:Nat,m≤ra.parts.length∧iv=.int .i64 m∧Hid (Below wy.heap.size wy wr)) (fun iv _=>ra.parts.length - (intOf iv).toNat)
 case atStart=>exact ⟨0,Nat.zero_le _,rfl,Lib.hid (Below.refl _ _)⟩
 case round =>
 obtain ⟨wp,rfl⟩:∃wp:World,wp=wr:=⟨_,rfl⟩
 obtain ⟨m,hm1,rfl,HBp⟩:=hrel
 by_cases hlm:m < ra.parts.length
 ·as_aux_lemma =>
  have d1:decide ((m:Int) < (ra.parts.length:Int))=true:=decide_eq_true (by omega)
  have m0:(0:Int)≤(m:Int):=Int.natCast_nonneg _
  have m1:(m:Int) < (ra.parts.length:Int):=by omega
  obtain ⟨pa,hpa,X0,X1,X2,EX,x0,x1,x2⟩:=partK_at (Kn.C_below HBp.out HRa.out.h5) m hlm
  subst hpa
  obtain ⟨hx0,hx1,hx2⟩:=part_in HQa.out.1 HQa.out.2.1 EX.out
  obtain ⟨Wm,hWm,hbm,HPm⟩:∃W,W=wp.alloc (.cells #[.int .i64 X0,.int .i64 X1,.int .i64 X2] 48)∧Below wp.heap.size wp W∧Hid (Blk W wp.heap.size 48 [.int .i64 X0,.int .i64 X1,.int .i64 X2]):=⟨_,rfl,below_alloc _ _,Lib.hid (Blk.new _ _ _ rfl)⟩
  go_upto_region 26 with (fail)
  rw [←hWm]
  have HBm:=Lib.hid (HBp.out.trans (hbm.mono HBp.out.size))
  clear hWm x0 x1 x2 m0 m1 hbm
  have n1:=HPm.out.cell 1 rfl
  have hnz:wp.heap.size < Wm.heap.size:=HPm.out.lt
  go_wp2
  clear n1
  go_loopw [17] (fun av wr=>∃t:Int,X1≤t∧t≤X2+1+(X2 - X1)∧av=.int .i64 t∧Hid (Below Wm.heap.size Wm wr)) (fun av _=>(X2+1+(X2 - X1) - intOf av).toNat)
  case atStart=>exact ⟨X1,Int.le_refl _,by omega,rfl,Lib.hid (Below.refl _ _)⟩
  case round =>
  obtain ⟨wt,rfl⟩:∃wt:World,wt=wr:=⟨_,rfl⟩
  obtain ⟨t,ht0,ht1,rfl,HBt⟩:=hrel
  have HPt:=Lib.hid (HPm.out.below HBt.out HPm.out.lt)
  have n0:=HPt.out.cell 0 rfl
  have n1:=HPt.out.cell 1 rfl
  have n2:=HPt.out.cell 2 rfl
  have hnz:wp.heap.size < wt.heap.size:=HPt.out.lt
  by_cases htl:t≤X2
  rotate_left
  ·as_aux_lemma =>
   have d2:decide (t≤X2)=false:=decide_eq_false htl
   have HBN:=Lib.hid (HBm.out.trans (HBt.out.mono HBm.out.size))
   clear htl
   go_wp2
   go_roundw
   case rel=>exact ⟨m+1,by omega,by go_num,HBN⟩
   case measure=>simp [intOf];omega
  have d2:decide (t≤X2)=true:=decide_eq_true htl
  have HBy:=Lib.hid (HBm.out.trans (HBt.out.mono HBm.out.size))
  have HN5:Hid (∀p∈rb.parts,¬(p.piece=X0∧p.frm≤t∧t≤p.til)):=Lib.hid (fun p hp h=>apart_place HE.out (List.mem_of_getElem? EX.out) (.inl hp) ht0 htl h.1.symm h.2.1 h.2.2)
  have HN6:Hid (∀p∈rb.over,¬(p.piece=X0∧p.frm≤t∧t≤p.til)):=Lib.hid (fun p hp h=>apart_place HE.out (List.mem_of_getElem? EX.out) (.inr hp) ht0 htl h.1.symm h.2.1 h.2.2)
  have HRt:=Lib.hid (HRb.out.below HBy.out)
  have q5:=cell_below HBy.out q5
  have q6:=cell_below HBy.out q6
  clear d1
  go_wp2
  go_region_held3 (fun w'=>Below wt.heap.size wt w'∧w'.cell? ⟨(ga.add (j*8)).block,(ga.add (j*8)).off+5,none⟩=some (.slice E5 rb.parts.length e5)∧w'.cell? ⟨(ga.add (j*8)).block,(ga.add (j*8)).off+6,none⟩=some (.slice E6 rb.over.length e6)∧w'.cell? ⟨wp.heap.size,0,none⟩=some (.int .i64 X0))
   (first | exact ⟨(Below.refl _ _).drew,q5,q6,n0⟩ | exact ⟨hbS.trans (hbc.mono hbS.size),cell_below (hbS.trans (hbc.mono hbS.size)) q5,cell_below (hbS.trans (hbc.mono hbS.size)) q6,cell_below (hbS.trans (hbc.mono hbS.size)) n0⟩)
   (first | (go_at_call 20;obtain ⟨hbS,_⟩:=‹Below wt.heap.size wt _∧_›;first | (with_reducible refine (wInNo rb.parts E5 e5 X0 t _ (HRt.out.below hbS).h5 (by omega) HN5).mono ?_);rintro e wz ⟨rfl,hbc⟩ | (with_reducible refine (wInNo rb.over E6 e6 X0 t _ (HRt.out.below hbS).h6 (by omega) HN6).mono ?_);rintro e wz ⟨rfl,hbc⟩))
  obtain ⟨hbF,_⟩:=‹Below wt.heap.size wt wz∧_›
  have HPz:=Lib.hid (HPt.out.below hbF HPt.out.lt)
  clear n0 n1 n2 hnz
  have n0:=HPz.out.cell 0 rfl
  have n1:=HPz.out.cell 1 rfl
  have n2:=HPz.out.cell 2 rfl
  have hnz:wp.heap.size < wz.heap.size:=HPz.out.lt
  have HBN:=Lib.hid (HBt.out.trans (hbF.mono HBt.out.size))
  obtain ⟨s,hs,hs0,hs1⟩:∃s:Int,Hid ((X2 - X1).tdiv 9=s)∧0≤s∧s≤X2 - X1:=⟨_,Lib.hid rfl,Int.tdiv_nonneg (by omega) (by omega),by
   rw [Int.tdiv_eq_ediv_of_nonneg (by omega)]
   omega⟩
  have f1:=hs.out
  have f2:(X2 - X1) / 9=s:=by rw [←f1,Int.tdiv_eq_ediv_of_nonneg (by omega)]
  have wx:IntKind.i64.wrap (X2 - X1)=X2 - X1:=by rw [IntKind.wrap_i64];omega
  clear HN5 HN6 hbF q5 q6
  go_wp2
  go_roundw
  case rel=>exact ⟨t+(1+s),by omega,by omega,by go_num,HBN⟩
  case measure=>simp [intOf];omega
 obtain rfl:m=ra.parts.length:=by omega
 have d1:decide ((ra.parts.length:Int) < (ra.parts.length:Int))=false:=decide_eq_false (by omega)
 have HRa:=Lib.hid (HRa.out.below HBp.out)
 have HRb:=Lib.hid (HRb.out.below HBp.out)
 have HB9:=Lib.hid (HB8.out.trans (HBp.out.mono HB8.out.size))
 have p0:=cell_below HBp.out p0
 have p1:=cell_below HBp.out p1
 have p2:=cell_below HBp.out p2
 have p3:=cell_below HBp.out p3
 have p4:=cell_below HBp.out p4
 have p5:=cell_below HBp.out p5
 have p6:=cell_below HBp.out p6
 have p7:=cell_below HBp.out p7
 have q0:=cell_below HBp.out q0
 have q1:=cell_below HBp.out q1
 have q2:=cell_below HBp.out q2
 have q3:=cell_below HBp.out q3
 have q4:=cell_below HBp.out q4
 have q5:=cell_below HBp.out q5
 have q6:=cell_below HBp.out q6
 have q7:=cell_below HBp.out q7
 go_wp2_with fail
 refine (implNeedsW ra D2 D3 D4 D5 D6 D7 d2 d3x d4x d5 d6 d7 _ HRa.out HQa.out.2.2).mono ?_
 intro e wn hn
 obtain ⟨N,cN,rfl,hcN,HNa,hbn⟩:=RetW.open hn
 have hnl:=needs_few HQa.out.2.2
 obtain ⟨na,hna⟩:∃l,Hid (needs ra=l):=⟨_,Lib.hid rfl⟩
 rw [hna.out] at HNa hnl ⊢
 have HRb:=Lib.hid (HRb.out.below hbn)
 have HBn:=Lib.hid (HB9.out.trans (hbn.mono HB9.out.size))
 clear p0 p1 p2 p3 p4 p5 p6 p7
 have q0:=cell_below hbn q0
 have q1:=cell_below hbn q1
 have q2:=cell_below hbn q2
 have q3:=cell_below hbn q3
 have q4:=cell_below hbn q4
 have q5:=cell_below hbn q5
 have q6:=cell_below hbn q6
 have q7:=cell_below hbn q7
 clear hn hbn d1 hcN HB8 HB9
 go_wp2
 go_loopw [191] (fun iv wr=>∃m:Nat,m≤na.length∧iv=.int .i64 m∧Hid (Below wn.heap.size wn wr)) (fun iv _=>na.length - (intOf iv).toNat)
 case atStart=>exact ⟨0,Nat.zero_le _,rfl,Lib.hid (Below.refl _ _)⟩
 case round =>
 obtain ⟨wp',rfl⟩:∃wp:World,wp=wr:=⟨_,rfl⟩
 obtain ⟨m,hm1,rfl,HBm⟩:=hrel
 by_cases hlm:m < na.length
 rotate_left
 ·as_aux_lemma =>
  obtain rfl:m=na.length:=by omega
  have d1:decide ((na.length:Int) < (na.length:Int))=false:=decide_eq_false (by omega)
  have HBN:=Lib.hid (HBn.out.trans (HBm.out.mono HBn.out.size))
  go_wp2
  go_roundw
  case rel=>exact ⟨k+1,by omega,by go_num,HBN⟩
  case measure=>simp [intOf];omega
 have d1:decide ((m:Int) < (na.length:Int))=true:=decide_eq_true (by omega)
 have m0:(0:Int)≤(m:Int):=Int.natCast_nonneg _
 have m1:(m:Int) < (na.length:Int):=by omega
 obtain ⟨la,hla',L0,L1,EL,l0,l1⟩:=lieK_at (Kn.C_below HBm.out HNa.out) m hlm
 subst hla'
 obtain ⟨Wm,hWm,hbm,HLm⟩:∃W,W=wp'.alloc (.cells #[.int .i64 L0,.int .i64 L1] 52)∧Below wp'.heap.size wp' W∧Hid (Blk W wp'.heap.size 52 [.int .i64 L0,.int .i64 L1]):=⟨_,rfl,below_alloc _ _,Lib.hid (Blk.new _ _ _ rfl)⟩
 go_upto_region 35 with (fail)
 rw [←hWm]
 have HBw:=Lib.hid (HBm.out.trans (hbm.mono HBm.out.size))
 have HRb:=Lib.hid (HRb.out.below HBw.out)
 have q0:=cell_below HBw.out q0
 have q1:=cell_below HBw.out q1
 have q2:=cell_below HBw.out q2
 have q3:=cell_below HBw.out q3
 have q4:=cell_below HBw.out q4
 have q5:=cell_below HBw.out q5
 have q6:=cell_below HBw.out q6
 have q7:=cell_below HBw.out q7
 clear hWm l0 l1 m0 m1 hbm d1
 go_wp2_with fail
 refine (implNeedsW rb E2 E3 E4 E5 E6 E7 e2x e3 e4 e5 e6 e7 _ HRb.out HQb.out.2.2).mono ?_
 intro e wb hn
 obtain ⟨M,cM,rfl,hcM,HNb,hbb⟩:=RetW.open hn
 have hnlb:=needs_few HQb.out.2.2
 obtain ⟨nb,hnb⟩:∃l,Hid (needs rb=l):=⟨_,Lib.hid rfl⟩
 rw [hnb.out] at HNb hnlb ⊢
 have HLb:=Lib.hid (HLm.out.below hbb HLm.out.lt)
 have HBb:=Lib.hid (HBw.out.trans (hbb.mono HBw.out.size))
 clear hn hbb hcM q0 q1 q2 q3 q4 q5 q6 q7 HBw
 go_wp2
 go_loopw [201] (fun iv wr=>∃x:Nat,x≤nb.length∧iv=.int .i64 x∧Hid (Below wb.heap.size wb wr)) (fun iv _=>nb.length - (intOf iv).toNat)
 case atStart=>exact ⟨0,Nat.zero_le _,rfl,Lib.hid (Below.refl _ _)⟩
 case round =>
 obtain ⟨wx,rfl⟩:∃wx:World,wx=wr:=⟨_,rfl⟩
 obtain ⟨x,hx1,rfl,HBx⟩:=hrel
 by_cases hlx:x < nb.length
 rotate_left
 ·as_aux_lemma =>
  obtain rfl:x=nb.length:=by omega
  have d1:decide ((nb.length:Int) < (nb.length:Int))=false:=decide_eq_false (by omega)
  have HBN:=Lib.hid (HBb.out.trans (HBx.out.mono HBb.out.size))
  go_wp2
  go_roundw
  case rel=>exact ⟨m+1,by omega,by go_num,HBN⟩
  case measure=>simp [intOf];omega
 have d1:decide ((x:Int) < (nb.length:Int))=true:=decide_eq_true (by omega)
 have x0:(0:Int)≤(x:Int):=Int.natCast_nonneg _
 have x1:(x:Int) < (nb.length:Int):=by omega
 obtain ⟨lb,hlb',M0,M1,EM,y0,y1⟩:=lieK_at (Kn.C_below HBx.out HNb.out) x hlx
 subst hlb'
 have HLx:=Lib.hid (HLb.out.below HBx.out HLb.out.lt)
 have l0:=HLx.out.cell 0 rfl
 have l1:=HLx.out.cell 1 rfl
 have hlz:wp'.heap.size < wx.heap.size:=HLx.out.lt
 have HBN:=Lib.hid (HBx.out.alloc HBx.out.size (.cells #[.int .i64 M0,.int .i64 M1] 52))
 have HAP:Hid (L0=M0→L1=M1):=Lib.hid (fun h=>apart_need HE.out (x:=⟨L0,L1⟩) (y:=⟨M0,M1⟩) (by rw [hna.out];exact List.mem_of_getElem? EL.out) (by rw [hnb.out];exact List.mem_of_getElem? EM.out) h)
 by_cases hLM:L0=M0
 ·have b0:(L0 == M0)=true:=int_eqt hLM
  have b1:(L1 != M1)=false:=neq_f (HAP.out hLM)
  clear hLM
  go_wp2
  go_roundw
  case rel=>exact ⟨x+1,by omega,by go_num,HBN⟩
  case measure=>simp [intOf];omega
 ·have b0:(L0 == M0)=false:=int_eqf hLM
  clear hLM
  go_wp2
  go_roundw
  case rel=>exact ⟨x+1,by omega,by go_num,HBN⟩
  case measure=>simp [intOf];omega
end Go.Proofs.Ytjccgneimknbpaa.L
