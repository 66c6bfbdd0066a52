/- The reference looks for flanks. -/
import Derived.Test.YtjccgneimknbpaaXf
import Derived.Deep.RegionLaw
set_option linter.unusedVariables false
set_option linter.unusedSimpArgs false
namespace Go.Proofs.Ytjccgneimknbpaa.L
open Go.RowKit
set_option maxRecDepth 100000 in
set_option maxHeartbeats 16000000 in
theorem specFlank {n:Net} {ss:List Signal} {lies:List Lie} {A0 A1 A2 A3:Option Addr} {c0 c1 c2 c3:Nat} {ov tr a:Int} {vout v0 v1 v2 v4 v5 v6:Value} {g h:Nat} (hr:Hid (Right n ss)) (hll:lies.length≤1000):∀(m:Nat) (vs vf:Value) (seen:List End) (fl:List Flank) (e:End) (w:World),FS 84 44 102 50 w g h n ss lies A0 A1 A2 A3 c0 c1 c2 c3 ov tr vout v0 v1 v2 v4 v5 v6 vs vf seen fl→Hid (endP n.pieces.length e)→Hid (seen.Nodup∧∀x∈seen,endP n.pieces.length x)→Hid (2*n.pieces.length+1≤m+seen.length)→Hid (fl.length≤50000+seen.length) →
  Calls Try.prog 92 #[.pointer (some ⟨g,0,none⟩),.pointer (some ⟨h,0,none⟩),.int .i64 a,e.v] w (RetF 84 44 102 50 g h n ss lies A0 A1 A2 A3 c0 c1 c2 c3 ov tr vout v0 v1 v2 v4 v5 v6 vs vf (flankF n ss lies a m (seen,fl) e) w):=by
 intro m
 induction m with
 | zero =>
  intro vs vf seen fl e w F he hsn hm hfl
  have:=ends_bound hsn.out.1 hsn.out.2
  have:=hm.out
  omega
 | succ m ih =>
 have IH:=Lib.hid ih
 clear ih
 intro vs vf seen fl e w F he hsn hm hfl
 obtain ⟨p,s⟩:=e
 obtain ⟨u,rfl⟩:∃u:Nat,p=u:=⟨p.toNat,by have:=he.out.1.1;simp only at this;omega⟩
 have hu:u < n.pieces.length:=by have:=he.out.1;simp only at this;omega
 have hg:=hr.out.g
 have hpl:=hg.le
 have HG:=Lib.hid hg
 have hsl:seen.length≤200:=by have:=ends_bound hsn.out.1 hsn.out.2;omega
 have hfb:fl.length≤60000:=by have:=hfl.out;omega
 obtain ⟨i0,hi,hz0,hz1,hz2⟩:=info_parts info102
 obtain ⟨q0,qi,qz0,qz1,qz2⟩:=info_parts info50
 obtain ⟨As,cs,rfl,hcs,_⟩:=F.sn.form
 obtain ⟨Af,cf,rfl,hcf,_⟩:=F.fn.form
 have hnp:=F.net.p.1
 have hnj:=F.net.j.1
 have hns:=F.sig.1
 have hnl:=F.lie.1
 have HF:=Lib.hid F
 have k6:=F.f.cell 6 rfl
 have hgw:=F.f.lt
 clear F hg
 go_enter Try.func92,Try.ntmps92
 go_wp2
 obtain ⟨W0,hW,HB0,hs0,e0,e1,HE0⟩:∃W,W=w.alloc (.cells #[.int .i64 u,.int .i64 s] 102)∧Below w.heap.size w W∧w.heap.size < W.heap.size∧W.cell? ⟨w.heap.size,0,none⟩=some (.int .i64 u)∧W.cell? ⟨w.heap.size,1,none⟩=some (.int .i64 s)∧Hid (Blk W w.heap.size 102 [.int .i64 u,.int .i64 s]):=⟨_,rfl,below_alloc _ _,by simp,by simp,by simp,Lib.hid (Blk.new _ _ _ rfl)⟩
 rw [←hW]
 clear hW k6
 have F0:=Lib.hid (HF.out.below HB0)
 go_loopw [25] (fun i wr=>∃k:Nat,k≤seen.length∧i=.int .i64 k∧Hid (¬inTo seen k ⟨u,s⟩)∧Below W0.heap.size W0 wr) (fun i _=>seen.length - (intOf i).toNat)
 case atStart=>exact ⟨0,Nat.zero_le _,rfl,Lib.hid inTo_zero,Below.refl _ _⟩
 case round =>
 obtain ⟨k,hk,rfl,HNI,hb⟩:=hrel
 have t0:=cell_below hb e0
 have t1:=cell_below hb e1
 have hsr:w.heap.size < wr.heap.size:=by have:=hb.size;omega
 by_cases hlk:k < seen.length
 ·obtain ⟨a2,rfl,y0,y1,E1,g3,g4⟩:=endK_at (Rw_slice (F0.out.below hb).sn).2.2 k hlk
  have j0:(0:Int)≤(k:Int):=Int.natCast_nonneg _
  have j1:(k:Int) < (seen.length:Int):=by omega
  by_cases z0:y0=u
  rotate_left
  ·have d0:(y0 == (u:Int))=false:=int_eqf z0
   have HN2:=Lib.hid (inTo_snoc HNI.out E1.out (fun e=>by injection e with e _;exact z0 e))
   clear z0
   go_wp2
   go_roundw
   case rel=>exact ⟨k+1,by omega,by go_num,HN2,hb.alloc hb.size _⟩
   case measure=>simp [intOf];omega
  have d0:(y0 == (u:Int))=true:=int_eqt z0
  by_cases z1:y1=s
  rotate_left
  ·have d1:(y1 == s)=false:=int_eqf z1
   have HN2:=Lib.hid (inTo_snoc HNI.out E1.out (fun e=>by injection e with _ e;exact z1 e))
   clear z0 z1
   go_wp2
   go_roundw
   case rel=>exact ⟨k+1,by omega,by go_num,HN2,hb.alloc hb.size _⟩
   case measure=>simp [intOf];omega
  have d1:(y1 == s)=true:=int_eqt z1
  have HM:Hid ((⟨u,s⟩:End)∈seen):=Lib.hid (mem_of_get (by rw [E1.out,z0,z1]))
  clear z0 z1
  go_wp2
  go_end0
  have hbb:=HB0.trans ((hb.alloc hb.size (Obj.cells #[.int .i64 y0,.int .i64 y1] 102)).mono HB0.size)
  exact ⟨rfl,_,_,by rw [flankF_met HM.out];exact HF.out.below hbb,Keep.of_below hbb,Nx.refl _ _,Nx.refl _ _⟩
 have HNE:=Lib.hid (not_in_all HNI.out (by omega:seen.length≤k))
 have hlk2:seen.length≤k:=by omega
 have hbw:=HB0.trans (hb.mono HB0.size)
 have FR:=Lib.hid (F0.out.below hb)
 have k6:=FR.out.f.cell 6 rfl
 have k7:=FR.out.f.frozen 6
 have hgr:g < wr.heap.size:=FR.out.f.lt
 have HER:=Lib.hid (HE0.out.below hb hs0)
 go_upto_region 6 with (fail)
 go_cut [7] (fun ev wc=>ev=.pointer (some ⟨w.heap.size,0,none⟩)∧∃v',Hid (FS 84 44 102 50 wc g h n ss lies A0 A1 A2 A3 c0 c1 c2 c3 ov tr vout v0 v1 v2 v4 v5 v6 v' (.slice Af fl.length cf) (seen++[⟨u,s⟩]) fl)∧Hid (Keep (FSet g h (.slice As seen.length cs) (.slice Af fl.length cf)) w wc)∧Hid (Nx (.slice As seen.length cs) v' w.heap.size)∧Hid (Blk wc w.heap.size 102 [.int .i64 u,.int .i64 s]))
 case first =>
  as_aux_lemma =>
  have a63:seen.length+1≤maxLen:=by simp only [maxLen];omega
  have aby:(seen.length+1)*16≤140737488355328:=by omega
  go_region_law (first | (go_loud (refine step_append_rw _ rfl (.tmp 37) (.tmp 39) 82 rfl 102 i0 _ 16 Try.underlying82 hi hz0 hz1 hz2 rfl (by decide) (.slice As seen.length cs) seen [⟨u,s⟩] rfl (FR.out.sn.below (by repeat' first | exact Below.refl _ _ | (refine Below.drew ?_) | (refine Below.alloc ?_ (Nat.le_refl _) _))) (fun _ h=>h.elim) (some ⟨wr.heap.size,0,none⟩) 1 1 rfl rfl (Kn.Src.one (endK_mk _ _ ⟨u,s⟩) (new_cells _ _ _ rfl)) a63 aby ?_;intro v' w2 HR2 hg2 hat2;obtain ⟨A9,c9,rfl,hc9⟩:=HR2.form1;have B2:=FR.out.fMore (by decide) (by repeat' first | exact Below.refl _ _ | (refine Below.drew ?_) | (refine Below.alloc ?_ (Nat.le_refl _) _)) hg2;have r6:=B2.cell 6 rfl;have r7:=B2.frozen 6;have hgz:g < w2.heap.size:=B2.lt)))
  all_goals go_wp2
  all_goals go_meet
  all_goals (case rel =>
   refine ⟨rfl,.slice A9 (seen.length+1) c9,?_⟩
   obtain ⟨G1,G2,G3⟩:=FR.out.more (by decide) (by decide) (by decide) (by decide) (by decide) (by decide) (by repeat' first | exact Below.refl _ _ | (refine Below.drew ?_) | (refine Below.alloc ?_ (Nat.le_refl _) _)) hg2 HR2 hat2
   exact ⟨Lib.hid G1,Lib.hid ((Keep.of_below hbw).trans G2 (fun _ _ h=>h)),Lib.hid (G3.mono hbw.size),Lib.hid (HER.out.keep G2 (fun e=>HF.out.new (Nat.le_refl _) e))⟩)
 obtain ⟨rfl,v',HF1,HK1,HN1,HEc⟩:=hcut
 obtain ⟨Av,cv,rfl,hcv,_⟩:=HF1.out.sn.form
 clear k6 k7 hgr HER FR hb t0 t1 F0 HE0 e0 e1 hs0 HB0 HNI hk hlk hlk2 hbw hsr
 have hsz:=HK1.out.size
 have hsc:w.heap.size < wc.heap.size:=HEc.out.lt
 obtain ⟨bk,hbk⟩:∃bk,Hid (backOf ⟨u,s⟩=bk):=⟨_,Lib.hid rfl⟩
 have HBW:Hid (bk=1∨bk=-1):=Lib.hid (by rw [←hbk.out];unfold backOf;split <;> simp)
 have r0:=HEc.out.cell 0 rfl
 have r1:=HEc.out.cell 1 rfl
 go_upto_if 45 with (fail)
 go_cut [10] (fun bv w'=>bv=.int .i64 bk∧w'=wc)
 case first =>
  by_cases hs:s=0
  ·have d0:(s == 0)=true:=int_eqt hs
   have HB:Hid (bk=-1):=Lib.hid (by rw [←hbk.out];unfold backOf;rw [if_pos hs])
   clear hs
   go_wp2
   go_meet
   case rel=>exact ⟨by rw [HB.out],rfl⟩
  ·have d0:(s == 0)=false:=int_eqf hs
   have HB:Hid (bk=1):=Lib.hid (by rw [←hbk.out];unfold backOf;rw [if_neg hs])
   clear hs
   go_wp2
   go_meet
   case rel=>exact ⟨by rw [HB.out],rfl⟩
 obtain ⟨rfl,rfl⟩:=hcut
 have k0:=HF1.out.f.cell 0 rfl
 have k1:=HF1.out.f.cell 1 rfl
 have k2:=HF1.out.f.cell 2 rfl
 have hgc:g < wc.heap.size:=HF1.out.f.lt
 go_wp2
 go_loopw [11,51] (fun best i wr=>∃k:Nat,k≤ss.length∧best=.int .i64 (onum (lastTo n ss u bk k))∧i=.int .i64 k∧Below wc.heap.size wc wr) (fun _ i _=>ss.length - (intOf i).toNat)
 case atStart=>exact ⟨0,Nat.zero_le _,rfl,rfl,Below.refl _ _⟩
 case round =>
 obtain ⟨k,hk,rfl,rfl,hb⟩:=hrel
 obtain ⟨wo,rfl⟩:∃wo:World,wo=wr:=⟨_,rfl⟩
 have z0:=cell_below hb k0
 have z1:=cell_below hb k1
 have z2:=cell_below hb k2
 have z3:=cell_below hb r0
 have z4:=cell_below hb r1
 have hgo:g < wo.heap.size:=by have:=hb.size;omega
 have hso:w.heap.size < wo.heap.size:=by have:=hb.size;omega
 by_cases hlt:k < ss.length
 ·obtain ⟨ad,rfl,y0,y1,y2,y3,E,g0,g1,g2,g3⟩:=signalK_at (Kn.C_below hb HF1.out.sig) k hlt
  have i0:(0:Int)≤(k:Int):=Int.natCast_nonneg _
  have i1:(k:Int) < (ss.length:Int):=by omega
  have HI:=Lib.hid (sig_in hr.out E.out)
  have hb1:=hb.alloc hb.size (Obj.cells #[.string y0,.int .i64 y1,.int .i64 y2,.int .i64 y3] 62)
  by_cases q1:y1=u
  rotate_left
  ·have d0:(y1 == (u:Int))=false:=int_eqf q1
   have HL:Hid (lastTo n ss u bk (k+1)=lastTo n ss u bk k):=Lib.hid (lastTo_not E.out (fun e=>q1 e.1))
   clear q1
   go_wp2
   go_quiet (fail)
   go_wp2
   go_roundw
   case rel=>exact ⟨k+1,by omega,by rw [HL.out],by go_num,below_drewN hb1 _⟩
   case measure=>simp [intOf];omega
  have d0:(y1 == (u:Int))=true:=int_eqt q1
  by_cases q3:y3=bk
  rotate_left
  ·have d1:(y3 == bk)=false:=int_eqf q3
   have HL:Hid (lastTo n ss u bk (k+1)=lastTo n ss u bk k):=Lib.hid (lastTo_not E.out (fun e=>q3 e.2))
   clear q1 q3
   go_wp2
   go_quiet (fail)
   go_wp2
   go_roundw
   case rel=>exact ⟨k+1,by omega,by rw [HL.out],by go_num,below_drewN hb1 _⟩
   case measure=>simp [intOf];omega
  have d1:(y3 == bk)=true:=int_eqt q3
  have HT:Hid (y1=u∧y3=bk):=Lib.hid ⟨q1,q3⟩
  clear q1 q3
  cases hp:lastTo n ss u bk k with
  | none =>
   have HL:Hid (lastTo n ss u bk (k+1)=some k):=Lib.hid (lastTo_one E.out HT.out hp)
   clear hp
   rw [onum_none]
   go_wp2
   go_quiet (fail)
   go_wp2
   go_roundw
   case rel=>exact ⟨k+1,by omega,by rw [HL.out];rfl,by go_num,below_drewN hb1 _⟩
   case measure=>simp [intOf];omega
  | some b =>
   obtain ⟨l1,l2,t,e1,e2,e3⟩:=lastTo_lt hp
   obtain ⟨ad',he',t0,t1,t2,t3,ET,x0,x1,x2,x3⟩:=signalK_at (Kn.C_below hb HF1.out.sig) b l2
   obtain rfl:=Option.some.inj he'
   have HJ:=Lib.hid (sig_in hr.out ET.out)
   have b0:(0:Int)≤(b:Int):=Int.natCast_nonneg _
   have b1:(b:Int) < (ss.length:Int):=by omega
   have d5:decide ((b:Int) < 0)=false:=decide_eq_false (by omega)
   have hya:0≤y2∧y2≤10000000:=by have:=HI.out;simp only at this;omega
   have hta:0≤t2∧t2≤10000000:=by have:=HJ.out;simp only at this;omega
   obtain ⟨fa,hfa⟩:∃fa,Hid (farOf n u y2 bk=fa):=⟨_,Lib.hid rfl⟩
   obtain ⟨fb,hfb⟩:∃fb,Hid (farOf n u t2 bk=fb):=⟨_,Lib.hid rfl⟩
   have HPK:=Lib.hid hp
   clear hp he' e1 e2 e3 x0 x1 x3
   rw [onum_some]
   obtain ⟨W1,hW1,HB1,s0,s1,s2,s3,s5,s6⟩:∃W,W=wo.alloc (.cells #[.string y0,.int .i64 y1,.int .i64 y2,.int .i64 y3] 62)∧Below wo.heap.size wo W∧W.cell? ⟨g,0,none⟩=some (.slice A0 n.pieces.length c0)∧W.cell? ⟨g,1,none⟩=some (.slice A1 n.joints.length c1)∧W.cell? ⟨g,2,none⟩=some (.slice (some ad) ss.length c2)∧W.cell? ⟨w.heap.size,0,none⟩=some (.int .i64 u)∧Hid (Blk W wo.heap.size 62 [.string y0,.int .i64 y1,.int .i64 y2,.int .i64 y3])∧W.cell? ⟨(ad.add (b*4)).block,(ad.add (b*4)).off+2,none⟩=some (.int .i64 t2) :=
    ⟨_,rfl,below_alloc _ _,cell_below (below_alloc _ _) z0,cell_below (below_alloc _ _) z1,cell_below (below_alloc _ _) z2,cell_below (below_alloc _ _) z3,Lib.hid (Blk.new _ _ _ rfl),cell_below (below_alloc _ _) x2⟩
   have p1:=s5.out.cell 1 rfl
   have p2:=s5.out.cell 2 rfl
   have p3:=s5.out.cell 3 rfl
   have HC2:=Lib.hid (Kn.C_below (hb.trans (HB1.mono hb.size)) HF1.out.net.p)
   have hbz:=hb.trans (HB1.mono hb.size)
   go_wp2
   rw [←hW1]
   clear hW1 z0 z1 z2 z3 z4 g0 g1 g2 g3 x2 hb1 s5
   by_cases q5:fb < fa
   ·as_aux_lemma =>
    have d6:decide (fb < fa)=true:=decide_eq_true q5
    have HL:Hid (lastTo n ss u bk (k+1)=some k):=Lib.hid (lastTo_new E.out HT.out HPK.out ET.out (by rw [hfa.out,hfb.out];exact q5))
    clear q5
    go_region_held3 (fun w'=>Below W1.heap.size W1 w'∧w'.cell? ⟨g,0,none⟩=some (.slice A0 n.pieces.length c0)∧w'.cell? ⟨g,1,none⟩=some (.slice A1 n.joints.length c1)∧w'.cell? ⟨g,2,none⟩=some (.slice (some ad) ss.length c2)∧w'.cell? ⟨w.heap.size,0,none⟩=some (.int .i64 u)∧w'.cell? ⟨wo.heap.size,1,none⟩=some (.int .i64 y1)∧w'.cell? ⟨wo.heap.size,2,none⟩=some (.int .i64 y2)∧w'.cell? ⟨wo.heap.size,3,none⟩=some (.int .i64 y3)∧w'.cell? ⟨(ad.add (b*4)).block,(ad.add (b*4)).off+2,none⟩=some (.int .i64 t2))
     (first | exact ⟨(Below.refl _ _).drew,s0,s1,s2,s3,p1,p2,p3,s6⟩ | exact ⟨hbS.trans (hbc.mono hbS.size),cell_below (hbS.trans (hbc.mono hbS.size)) s0,cell_below (hbS.trans (hbc.mono hbS.size)) s1,cell_below (hbS.trans (hbc.mono hbS.size)) s2,cell_below (hbS.trans (hbc.mono hbS.size)) s3,cell_below (hbS.trans (hbc.mono hbS.size)) p1,cell_below (hbS.trans (hbc.mono hbS.size)) p2,cell_below (hbS.trans (hbc.mono hbS.size)) p3,cell_below (hbS.trans (hbc.mono hbS.size)) s6⟩)
     (first | (go_at_call 37;obtain ⟨hbS,_⟩:=‹Below W1.heap.size W1 _∧_›;(with_reducible refine (specFar n _ A0 c0 u _ bk _ (Kn.C_below hbS HC2.out) HG hu (by assumption)).mono ?_);rintro e w1 ⟨rfl,hbc⟩;first | rw [hfa.out] | rw [hfb.out]))
    all_goals obtain ⟨hbF,_⟩:=‹Below W1.heap.size W1 _∧_›
    all_goals go_wp2
    all_goals go_roundw
    all_goals first | exact ⟨k+1,by omega,by rw [HL.out];rfl,by go_num,hbz.trans (hbF.mono hbz.size)⟩ | (simp [intOf];omega)
   ·as_aux_lemma =>
    have d6:decide (fb < fa)=false:=decide_eq_false q5
    have HL:Hid (lastTo n ss u bk (k+1)=some b):=Lib.hid (lastTo_old E.out HPK.out ET.out (by rw [hfa.out,hfb.out];exact q5))
    clear q5
    go_region_held3 (fun w'=>Below W1.heap.size W1 w'∧w'.cell? ⟨g,0,none⟩=some (.slice A0 n.pieces.length c0)∧w'.cell? ⟨g,1,none⟩=some (.slice A1 n.joints.length c1)∧w'.cell? ⟨g,2,none⟩=some (.slice (some ad) ss.length c2)∧w'.cell? ⟨w.heap.size,0,none⟩=some (.int .i64 u)∧w'.cell? ⟨wo.heap.size,1,none⟩=some (.int .i64 y1)∧w'.cell? ⟨wo.heap.size,2,none⟩=some (.int .i64 y2)∧w'.cell? ⟨wo.heap.size,3,none⟩=some (.int .i64 y3)∧w'.cell? ⟨(ad.add (b*4)).block,(ad.add (b*4)).off+2,none⟩=some (.int .i64 t2))
     (first | exact ⟨(Below.refl _ _).drew,s0,s1,s2,s3,p1,p2,p3,s6⟩ | exact ⟨hbS.trans (hbc.mono hbS.size),cell_below (hbS.trans (hbc.mono hbS.size)) s0,cell_below (hbS.trans (hbc.mono hbS.size)) s1,cell_below (hbS.trans (hbc.mono hbS.size)) s2,cell_below (hbS.trans (hbc.mono hbS.size)) s3,cell_below (hbS.trans (hbc.mono hbS.size)) p1,cell_below (hbS.trans (hbc.mono hbS.size)) p2,cell_below (hbS.trans (hbc.mono hbS.size)) p3,cell_below (hbS.trans (hbc.mono hbS.size)) s6⟩)
     (first | (go_at_call 37;obtain ⟨hbS,_⟩:=‹Below W1.heap.size W1 _∧_›;(with_reducible refine (specFar n _ A0 c0 u _ bk _ (Kn.C_below hbS HC2.out) HG hu (by assumption)).mono ?_);rintro e w1 ⟨rfl,hbc⟩;first | rw [hfa.out] | rw [hfb.out]))
    all_goals obtain ⟨hbF,_⟩:=‹Below W1.heap.size W1 _∧_›
    all_goals go_wp2
    all_goals go_roundw
    all_goals first | exact ⟨k+1,by omega,by rw [HL.out];rfl,by go_num,hbz.trans (hbF.mono hbz.size)⟩ | (simp [intOf];omega)
 obtain rfl:k=ss.length:=by omega
 have FO:=Lib.hid (HF1.out.below hb)
 have hk7:=FO.out.r.cell 7 rfl
 have hkf:=FO.out.r.frozen 7
 have hho:h < wo.heap.size:=FO.out.r.lt
 have b63:fl.length+1≤maxLen:=by simp only [maxLen];omega
 have bby:(fl.length+1)*32≤140737488355328:=by omega
 have HKO:=Lib.hid (HK1.out.below hb)
 have HBO:=Lib.hid (HEc.out.below hb hsc)
 clear hb k0 k1 k2 r0 r1 HF1 HK1 HEc hgc
 cases hp:lastTo n ss u bk ss.length with
 | some b =>
  as_aux_lemma =>
  have b0:(0:Int)≤(b:Int):=Int.natCast_nonneg _
  have HL:Hid (flankF n ss lies a (m+1) (seen,fl) ⟨u,s⟩=(seen++[⟨u,s⟩],fl++[⟨a,2,b,0⟩])):=Lib.hid (flankF_sig HNE.out (by rw [hbk.out];exact hp))
  clear hp
  rw [onum_some]
  go_wp2_with (at_builtin;refine wpList_append_rw _ rfl (.tmp 108) (.tmp 112) 42 rfl 50 q0 _ 32 Try.underlying42 qi qz0 qz1 qz2 rfl (by decide) (.slice Af fl.length cf) fl [⟨a,2,b,0⟩] rfl (FO.out.fn.below (below_alloc _ _)) (fun _ h=>h.elim) (some ⟨wo.heap.size,0,none⟩) 1 1 rfl rfl (Kn.Src.one (flankK_mk _ _ ⟨a,2,b,0⟩) (new_cells _ _ _ rfl)) b63 bby ?_;intro v2 w2 HR2 hg2 hat2;obtain ⟨A9,c9,rfl,hc9⟩:=HR2.form1;have B2:=FO.out.rFound (by decide) (below_alloc _ _) hg2;have r7:=B2.cell 7 rfl;have r8:=B2.frozen 7;have hhz:h < w2.heap.size:=B2.lt)
  go_end0
  exact RetF.after (HKO.out) HN1.out (Nx.refl _ _) (by rw [HL.out];exact FO.out.last (by decide) (by decide) (by decide) (by decide) (by decide) (by decide) (below_alloc _ _) hg2 HR2 hat2)
 | none =>
 rw [onum_none]
 obtain ⟨s',hs'⟩:∃s',Hid (1 - s=s'):=⟨_,Lib.hid rfl⟩
 have hwr:IntKind.i64.wrap (1 - s)=s':=by rw [←hs'.out];have:=he.out.2;simp only at this;exact wrap_small (by omega) (by omega)
 have HOE:Hid (endP n.pieces.length ⟨u,s'⟩):=Lib.hid (by rw [←hs'.out];exact other_ok he.out)
 obtain ⟨j,k,x,hat,hjk,hx,hP,hjl,hkl⟩:=at_get HG.out HOE.out
 have HA:=Lib.hid hjk
 have HX:=Lib.hid hx
 have HAT:=Lib.hid hat
 have HJP:=Lib.hid hP
 have HLK:=Lib.hid (flankF_look (a:=a) (lies:=lies) (fl:=fl) (m:=m) HNE.out (by rw [hbk.out];exact hp) (by show atJ n ⟨u,1 - s⟩=(j,k);rw [hs'.out];exact hjk) hx)
 have m0:(0:Int)≤(j:Int):=Int.natCast_nonneg _
 have m1:(j:Int) < (n.joints.length:Int):=by omega
 clear hp hjk hx hat hP
 go_wp2
 go_region_held3 (fun w'=>Below wo.heap.size wo w'∧w'.cell? ⟨g,0,none⟩=some (.slice A0 n.pieces.length c0)∧w'.cell? ⟨g,1,none⟩=some (.slice A1 n.joints.length c1)∧w'.cell? ⟨w.heap.size,0,none⟩=some (.int .i64 u)∧w'.cell? ⟨w.heap.size,1,none⟩=some (.int .i64 s))
  (first | exact ⟨(Below.refl _ _).drew,z0,z1,z3,z4⟩ | exact ⟨hbS.trans (hbc.mono hbS.size),cell_below (hbS.trans (hbc.mono hbS.size)) z0,cell_below (hbS.trans (hbc.mono hbS.size)) z1,cell_below (hbS.trans (hbc.mono hbS.size)) z3,cell_below (hbS.trans (hbc.mono hbS.size)) z4⟩)
  (first | (go_at_call 50;obtain ⟨hbS,_⟩:=‹Below wo.heap.size wo _∧_›;(with_reducible refine (specAt n A0 A1 c0 c1 ⟨u,s'⟩ _ (FO.out.net.below hbS) HG HOE).mono ?_);rintro e wz ⟨rfl,hbc⟩;rw [HA.out]))
 obtain ⟨hbF,_⟩:=‹Below wo.heap.size wo _∧_›
 have FZ:=Lib.hid (FO.out.below hbF)
 have HKZ:=Lib.hid (HKO.out.below hbF)
 have HNZ:=Lib.hid (FZ.out.new (Nat.le_refl wz.heap.size))
 clear hwr z0 z1 z2 z3 z4 hk7 hkf hho FO HKO hgo hso HBO
 have z1:=FZ.out.f.cell 1 rfl
 have hgz:g < wz.heap.size:=FZ.out.f.lt
 obtain ⟨a1,rfl,y,E1,A4,c4,r0,r1,r2,l2,C2⟩:=jointK_at FZ.out.net.j j hjl
 have hy:=HAT.out.1.symm.trans E1.out
 injection hy with hy
 subst hy
 have hme:=C2.1
 obtain ⟨W2,hW2,HB2,HJB,FW,HKW,hk7,hkf,hhw,hk3⟩:∃W,W=wz.alloc (.cells #[.int .i64 x.kind,.string x.name,.slice A4 x.ends.length c4] 97)∧Below wz.heap.size wz W∧Hid (Blk W wz.heap.size 97 [.int .i64 x.kind,.string x.name,.slice A4 x.ends.length c4])∧Hid (FS 84 44 102 50 W g h n ss lies A0 (some a1) A2 A3 c0 c1 c2 c3 ov tr vout v0 v1 v2 v4 v5 v6 (.slice Av (seen++[(⟨u,s⟩:End)]).length cv) (.slice Af fl.length cf) (seen++[⟨u,s⟩]) fl)∧Hid (Keep (FSet g h (.slice As seen.length cs) (.slice Af fl.length cf)) w W)∧W.cell? ⟨h,7,none⟩=some (.slice Af fl.length cf)∧W.frozen? ⟨h,7,none⟩=false∧h < W.heap.size∧W.cell? ⟨h,3,none⟩=some (.slice A3 lies.length c3) :=
  ⟨_,rfl,below_alloc _ _,Lib.hid (Blk.new _ _ _ rfl),Lib.hid (FZ.out.below (below_alloc _ _)),Lib.hid (HKZ.out.below (below_alloc _ _)),(FZ.out.below (below_alloc _ _)).r.cell 7 rfl,(FZ.out.below (below_alloc _ _)).r.frozen 7,(FZ.out.below (below_alloc _ _)).r.lt,(FZ.out.below (below_alloc _ _)).r.cell 3 rfl⟩
 have C3:=Lib.hid (Kn.C_keep (Keep.of_below HB2) (fun _ _ h=>h) C2)
 have s0:=HJB.out.cell 0 rfl
 have s1:=HJB.out.cell 1 rfl
 have s2:=HJB.out.cell 2 rfl
 have hjw:wz.heap.size < W2.heap.size:=HJB.out.lt
 clear C2
 go_upto_region 21 with (fail)
 rw [←hW2]
 clear hW2 r0 r1 r2 z1 hgz FZ HKZ
 have HLK2:=HLK.out
 have hxl:(x.ends.length:Int)=x.kind:=HJP.out.2.1
 have hxk:=HJP.out.1
 have HSL:Hid (fl.length≤50000+(seen++[(⟨u,s⟩:End)]).length):=Lib.hid (by rw [List.length_append];have:=hfl.out;omega)
 have HSM:Hid (2*n.pieces.length+1≤m+(seen++[(⟨u,s⟩:End)]).length):=Lib.hid (by rw [List.length_append,List.length_singleton];have:=hm.out;omega)
 have HSN:Hid ((seen++[(⟨u,s⟩:End)]).Nodup∧∀x∈seen++[(⟨u,s⟩:End)],endP n.pieces.length x):=Lib.hid ⟨nodup_snoc hsn.out.1 HNE.out,fun x hx=>by
  rcases List.mem_append.1 hx with hx | hx
  ·exact hsn.out.2 x hx
  ·rw [List.mem_singleton.1 hx]
   exact he.out⟩
 by_cases q1:x.kind=1
 ·as_aux_lemma =>
  have d1:(x.kind == 1)=true:=int_eqt q1
  have HL:Hid (flankF n ss lies a (m+1) (seen,fl) ⟨u,s⟩=(seen++[⟨u,s⟩],fl++[⟨a,1,j,0⟩])):=Lib.hid (by rw [HLK2,if_pos q1])
  clear q1 HLK2 hxl hxk
  go_wp2_with (at_builtin;refine wpList_append_rw _ rfl (.tmp 156) (.tmp 160) 42 rfl 50 q0 _ 32 Try.underlying42 qi qz0 qz1 qz2 rfl (by decide) (.slice Af fl.length cf) fl [⟨a,1,j,0⟩] rfl (FW.out.fn.below (below_alloc _ _)) (fun _ h=>h.elim) (some ⟨W2.heap.size,0,none⟩) 1 1 rfl rfl (Kn.Src.one (flankK_mk _ _ ⟨a,1,j,0⟩) (new_cells _ _ _ rfl)) b63 bby ?_;intro v2 w2 HR2 hg2 hat2;obtain ⟨A9,c9,rfl,hc9⟩:=HR2.form1;have B2:=FW.out.rFound (by decide) (below_alloc _ _) hg2;have r7:=B2.cell 7 rfl;have r8:=B2.frozen 7;have hhz:h < w2.heap.size:=B2.lt)
  go_end0
  exact RetF.after (HKW.out) HN1.out (Nx.refl _ _) (by rw [HL.out];exact FW.out.last (by decide) (by decide) (by decide) (by decide) (by decide) (by decide) (below_alloc _ _) hg2 HR2 hat2)
 have d1:(x.kind == 1)=false:=int_eqf q1
 rw [if_neg q1] at HLK2
 by_cases q3:x.kind=3
 rotate_left
 ·as_aux_lemma =>
  have d3:(x.kind == 3)=false:=int_eqf q3
  rw [if_neg q3] at HLK2
  obtain ⟨e2,he2⟩:∃e2,Hid (across x k=[e2]):=one_across q1 q3 hxk
  have HL:Hid (flankF n ss lies a (m+1) (seen,fl) ⟨u,s⟩=flankF n ss lies a m (seen++[⟨u,s⟩],fl) e2):=Lib.hid (by rw [HLK2,he2.out];rfl)
  have H2P:Hid (endP n.pieces.length e2):=Lib.hid (by have:=head_across HJP.out hkl q1;rw [he2.out] at this;exact this)
  clear q1 q3 HLK2 hxl hxk
  go_wp2_with fail
  refine (specAcross x A4 c4 k n.pieces.length _ C3.out HJP.out hkl).mono ?_
  rintro e w3 hac
  obtain ⟨Al,cl,rfl,hcl,hAl,hb3⟩:=hac.to he2.out
  obtain ⟨al,rfl,t0,t1,t2⟩:=endC_head hAl
  have F3:=Lib.hid (FW.out.below hb3)
  have HK3:=Lib.hid (HKW.out.below hb3)
  clear hac hAl hb3
  simp only [List.length_singleton]
  go_wp2_with fail
  refine (IH.out _ _ _ _ e2 _ F3.out H2P HSN HSM HSL).mono ?_
  rintro e w4 hR
  have HR:=Lib.hid hR
  obtain rfl:=hR.1
  clear hR
  go_wp2
  go_end0
  exact RetF.after HK3.out HN1.out (Nx.refl _ _) (by rw [HL.out];exact HR.out)
 have d3:(x.kind == 3)=true:=int_eqt q3
 rw [if_pos q3] at HLK2
 have hlen3:x.ends.length=3:=by omega
 by_cases hk0:k=0
 ·as_aux_lemma =>
  have d4:((k:Int) == 0)=true:=int_eqt (by omega)
  rw [if_pos hk0] at HLK2
  obtain ⟨sn1,fl1,hst⟩:∃sn1 fl1,Hid (flankF n ss lies a m (seen++[⟨u,s⟩],fl) (en x 1)=(sn1,fl1)):=⟨_,_,Lib.hid rfl⟩
  have HL:Hid (flankF n ss lies a (m+1) (seen,fl) ⟨u,s⟩=flankF n ss lies a m (sn1,fl1) (en x 2)):=Lib.hid (by rw [HLK2,hst.out])
  have P1:Hid (endP n.pieces.length (en x 1)):=Lib.hid (en_ok HJP.out (by omega))
  have P2:Hid (endP n.pieces.length (en x 2)):=Lib.hid (en_ok HJP.out (by omega))
  have hse:=flankF_seen (ss:=ss) (lies:=lies) (a:=a) HG.out m (seen++[⟨u,s⟩],fl) (en x 1) P1.out HSN.out.1 HSN.out.2
  have hle:=flankF_len (n:=n) (ss:=ss) (lies:=lies) (a:=a) m (seen++[⟨u,s⟩],fl) (en x 1)
  rw [hst.out] at hse hle
  simp only at hse hle
  have HSN1:Hid (sn1.Nodup∧∀x∈sn1,endP n.pieces.length x):=Lib.hid ⟨hse.1,hse.2.1⟩
  have HSM1:Hid (2*n.pieces.length+1≤m+sn1.length):=Lib.hid (by have:=HSM.out;omega)
  have HSL1:Hid (fl1.length≤50000+sn1.length):=Lib.hid (by have:=HSL.out;omega)
  obtain ⟨al,rfl,t0,t1⟩:=en_pos (k:=1) (m:=2) C3.out (by omega) (by omega) rfl
  have l1:(1:Int) < (x.ends.length:Int):=by omega
  have l2':(2:Int) < (x.ends.length:Int):=by omega
  have HX3:=Lib.hid hlen3
  clear hk0 q1 q3 HLK2 hxl hxk hse hle hlen3
  go_wp2_with fail
  refine (IH.out _ _ _ _ (en x 1) _ FW.out P1 HSN HSM HSL).mono ?_
  rintro e w3 ⟨rfl,vs1,vf1,F3,K3,N3,M3⟩
  rw [hst.out] at F3
  have F3:=Lib.hid F3
  have K3':=Lib.hid K3
  have N3:=Lib.hid N3
  have M3:=Lib.hid M3
  have J3:=Lib.hid (HJB.out.keep K3 HNZ.out)
  have C5:=Lib.hid (Kn.C_keep K3 (FSet.next N3.out M3.out) C3.out)
  have s2':=J3.out.cell 2 rfl
  have hjw3:wz.heap.size < w3.heap.size:=J3.out.lt
  obtain ⟨al',he',t2,t3⟩:=en_pos (k:=2) (m:=4) C5.out (by have:=HX3.out;omega) (by omega) rfl
  obtain rfl:=Option.some.inj he'
  clear K3 s0 s1 s2 t0 t1 hjw hk7 hkf hhw hk3 he'
  go_wp2_with fail
  refine (IH.out _ _ _ _ (en x 2) _ F3.out P2 HSN1 HSM1 HSL1).mono ?_
  rintro e w4 hR
  have HR:=Lib.hid hR
  obtain rfl:=hR.1
  clear hR
  go_wp2
  go_end0
  exact RetF.after HKW.out HN1.out (Nx.refl _ _) (RetF.after K3'.out N3.out M3.out (by rw [HL.out];exact HR.out))
 as_aux_lemma =>
 have d4:((k:Int) == 0)=false:=int_eqf (by omega)
 rw [if_neg hk0] at HLK2
 have HLO:=Lib.hid HLK2
 have hk3l:k < 3:=by omega
 clear hk0 q1 q3 HLK2 hxl hxk hlen3 s1 s2
 go_wp2
 go_loopw [189] (fun i wr=>∃q:Nat,q≤lies.length∧i=.int .i64 q∧Hid (¬inTo lies q ⟨j,k⟩)∧Below W2.heap.size W2 wr) (fun i _=>lies.length - (intOf i).toNat)
 case atStart=>exact ⟨0,Nat.zero_le _,rfl,Lib.hid inTo_zero,Below.refl _ _⟩
 case round =>
 obtain ⟨q,hq,rfl,HNI,hb⟩:=hrel
 have FR:=Lib.hid (FW.out.below hb)
 have HKR:=Lib.hid (HKW.out.below hb)
 have x7:=FR.out.r.cell 7 rfl
 have xf:=FR.out.r.frozen 7
 have xh:h < wr.heap.size:=FR.out.r.lt
 by_cases hlq:q < lies.length
 ·obtain ⟨a5,rfl,y0,y1,E2,g0,g1⟩:=lieK_at FR.out.lie q hlq
  have i0:(0:Int)≤(q:Int):=Int.natCast_nonneg _
  have i1:(q:Int) < (lies.length:Int):=by omega
  by_cases e0:y0=j
  rotate_left
  ·have f0:(y0 == (j:Int))=false:=int_eqf e0
   have HN2:=Lib.hid (inTo_snoc HNI.out E2.out (fun e=>by injection e with e _;exact e0 e))
   clear e0
   go_wp2
   go_roundw
   case rel=>exact ⟨q+1,by omega,by go_num,HN2,hb.alloc hb.size _⟩
   case measure=>simp [intOf];omega
  have f0:(y0 == (j:Int))=true:=int_eqt e0
  by_cases e1:y1=k
  rotate_left
  ·have f1:(y1 == (k:Int))=false:=int_eqf e1
   have HN2:=Lib.hid (inTo_snoc HNI.out E2.out (fun e=>by injection e with _ e;exact e1 e))
   clear e0 e1
   go_wp2
   go_roundw
   case rel=>exact ⟨q+1,by omega,by go_num,HN2,hb.alloc hb.size _⟩
   case measure=>simp [intOf];omega
  have f1:(y1 == (k:Int))=true:=int_eqt e1
  have HL:Hid (flankF n ss lies a (m+1) (seen,fl) ⟨u,s⟩=(seen++[⟨u,s⟩],fl++[⟨a,4,j,0⟩])):=Lib.hid (by rw [HLO.out,if_pos (mem_of_get (by rw [E2.out,e0,e1]))])
  clear e0 e1
  have FX:=Lib.hid (FR.out.below (below_alloc wr (.cells #[.int .i64 y0,.int .i64 y1] 52)))
  have HKX:=Lib.hid (HKR.out.below (below_alloc wr (.cells #[.int .i64 y0,.int .i64 y1] 52)))
  go_wp2_with (at_builtin;refine wpList_append_rw _ rfl (.tmp 207) (.tmp 211) 42 rfl 50 q0 _ 32 Try.underlying42 qi qz0 qz1 qz2 rfl (by decide) (.slice Af fl.length cf) fl [⟨a,4,j,0⟩] rfl (FX.out.fn.below (below_alloc _ _)) (fun _ h=>h.elim) (some ⟨wr.heap.size+1,0,none⟩) 1 1 rfl rfl (Kn.Src.one (flankK_mk _ _ ⟨a,4,j,0⟩) (new_cells _ _ _ (by rw [size_alloc]))) b63 bby ?_;intro v2 w2 HR2 hg2 hat2;obtain ⟨A9,c9,rfl,hc9⟩:=HR2.form1;have B2:=FX.out.rFound (by decide) (below_alloc _ _) hg2;have r7:=B2.cell 7 rfl;have r8:=B2.frozen 7;have hhz:h < w2.heap.size:=B2.lt)
  go_end0
  exact RetF.after (HKX.out) HN1.out (Nx.refl _ _) (by rw [HL.out];exact FX.out.last (by decide) (by decide) (by decide) (by decide) (by decide) (by decide) (below_alloc _ _) hg2 HR2 hat2)
 have HL:Hid (flankF n ss lies a (m+1) (seen,fl) ⟨u,s⟩=(seen++[⟨u,s⟩],fl++[⟨a,3,j,3 - k⟩])):=Lib.hid (by rw [HLO.out,if_neg (not_in_all HNI.out (by omega))])
 go_wp2_with (at_builtin;refine wpList_append_rw _ rfl (.tmp 220) (.tmp 226) 42 rfl 50 q0 _ 32 Try.underlying42 qi qz0 qz1 qz2 rfl (by decide) (.slice Af fl.length cf) fl [⟨a,3,j,3 - k⟩] rfl (FR.out.fn.below (below_alloc _ _)) (fun _ h=>h.elim) (some ⟨wr.heap.size,0,none⟩) 1 1 rfl rfl (Kn.Src.one (flankK_mk _ _ ⟨a,3,j,3 - k⟩) (new_cells _ _ _ rfl)) b63 bby ?_;intro v2 w2 HR2 hg2 hat2;obtain ⟨A9,c9,rfl,hc9⟩:=HR2.form1;have B2:=FR.out.rFound (by decide) (below_alloc _ _) hg2;have r7:=B2.cell 7 rfl;have r8:=B2.frozen 7;have hhz:h < w2.heap.size:=B2.lt)
 go_end0
 exact RetF.after (HKR.out) HN1.out (Nx.refl _ _) (by rw [HL.out];exact FR.out.last (by decide) (by decide) (by decide) (by decide) (by decide) (by decide) (below_alloc _ _) hg2 HR2 hat2)
end Go.Proofs.Ytjccgneimknbpaa.L
