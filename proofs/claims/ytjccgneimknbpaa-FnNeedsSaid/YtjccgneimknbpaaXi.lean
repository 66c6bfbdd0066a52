/- Are two lists the same? Both sides' own comparers. -/
import Derived.Test.YtjccgneimknbpaaXh
set_option linter.unusedVariables false
set_option linter.unusedSimpArgs false
namespace Go.Proofs.Ytjccgneimknbpaa.L
open Go.RowKit
set_option maxRecDepth 100000 in
set_option maxHeartbeats 16000000 in
theorem specWalk {n:Net} {ss:List Signal} {A0 A1 A2:Option Addr} {c0 c1 c2:Nat} {ov:Int} {g:Nat} (hr:Hid (Right n ss)) (hov:Hid (0≤ov∧ov≤100000)):∀(m:Nat) (st:St) (vout vs:Value) (r:Route) (u:Nat) (way far:Int) (B2 B3 B4 B5:Option Addr) (d2 d3 d4 d5:Nat) (w:World) (F:Hid (WS w g n ss A0 A1 A2 c0 c1 c2 ov (st.2:Int) vout vs st.1))
  (h2:Hid (stepK.C w (Out w (WSet g vout)) B2 r.steps)) (h3:Hid (lieK.C w (Out w (WSet g vout)) B3 r.lies)) (h4:Hid (Kn.int.C w (Out w (WSet g vout)) B4 r.crosses)) (h5:Hid (partK.C w (Out w (WSet g vout)) B5 r.parts))
  (hI:Hid (RInv n ss r)) (hm:Hid (2*n.pieces.length+1≤m+r.steps.length)) (hst:Hid (st.1.length≤301∧st.2≤25000∧m≤201)) (hu:u < n.pieces.length) (hway:way=1∨way=-1) (hfar:Hid (0≤far∧far < pl n u)),
  Calls Try.prog 36 #[.pointer (some ⟨g,0,none⟩),.agg #[.int .i64 r.frm,.int .i64 r.til,.slice B2 r.steps.length d2,.slice B3 r.lies.length d3,.slice B4 r.crosses.length d4,.slice B5 r.parts.length d5,.slice none 0 0,.slice none 0 0],.int .i64 u,.int .i64 way,.int .i64 far] w
   (RetD g n ss A0 A1 A2 c0 c1 c2 ov vout ((walkF n ss ov m st r u way far).1,((walkF n ss ov m st r u way far).2:Int)) w):=by
 intro m
 induction m with
 | zero =>
  intro st vout vs r u way far B2 B3 B4 B5 d2 d3 d4 d5 w F h2 h3 h4 h5 hI hm
  have h1:=hI.out.bound
  have h2:=hm.out
  omega
 | succ m ih =>
 have IH:=Lib.hid ih
 clear ih
 intro st vout vs r u way far B2 B3 B4 B5 d2 d3 d4 d5 w HF H2 H3 H4 H5 hI hm hst hu hway hfar
 obtain ⟨iS,hiS,hzS,hyS,hxS⟩:=info_parts info46
 obtain ⟨iP,hiP,hzP,hyP,hxP⟩:=info_parts info48
 obtain ⟨iI,hiI,hzI,hyI,hxI⟩:=info_parts info3
 have HG:Hid (Good n):=Lib.hid hr.out.g
 have hgw:=HF.out.f.lt
 obtain ⟨Ao,co,rfl⟩:∃Ao co,vout=.slice Ao st.1.length co:=by obtain ⟨Ao,co,h1,_⟩:=HF.out.out.form;exact ⟨Ao,co,h1⟩
 have k4:=HF.out.f.cell 4 rfl
 have k5:=HF.out.f.cell 5 rfl
 have f5:=HF.out.f.frozen 5
 obtain ⟨q0,q1,q2⟩:=hst.out
 have hn2:=H2.out.1
 have hwr:IntKind.i64.wrap ((st.2:Int)+1)=((st.2:Int)+1):=wrap_small (by omega) (by omega)
 go_enter Try.func36,Try.ntmps36
 go_upto_region 2 with (fail)
 clear hwr
 obtain ⟨W1,hW1,hK1,hF1,hB1,hs1⟩:∃W,W=(w.setCell ⟨g,5,none⟩ (.int .i64 ((st.2:Int)+1))).alloc (.cells #[.int .i64 r.frm,.int .i64 r.til,.slice B2 r.steps.length d2,.slice B3 r.lies.length d3,.slice B4 r.crosses.length d4,.slice B5 r.parts.length d5,.slice none 0 0,.slice none 0 0] 44)∧Hid (Keep (fun b=>b=g) w W)∧Hid (Blk W g 84 (finder n A0 A1 c0 c1 (.slice A2 ss.length c2) ov (.slice Ao st.1.length co) ((st.2:Int)+1) vs))∧Hid (Blk W w.heap.size 44 [.int .i64 r.frm,.int .i64 r.til,.slice B2 r.steps.length d2,.slice B3 r.lies.length d3,.slice B4 r.crosses.length d4,.slice B5 r.parts.length d5,.slice none 0 0,.slice none 0 0])∧w.heap.size < W.heap.size:=by
  refine ⟨_,rfl,?_,?_,?_,?_⟩
  ·exact Lib.hid ((Keep.setCell (S:=fun b=>b=g) (p:=⟨g,5,none⟩) (Keep.refl _ _) (fun _=>rfl) _).alloc _)
  ·exact Lib.hid ((HF.out.f.set_ 5 _).alloc _)
  ·exact Lib.hid (Blk.new _ 44 [.int .i64 r.frm,.int .i64 r.til,.slice B2 r.steps.length d2,.slice B3 r.lies.length d3,.slice B4 r.crosses.length d4,.slice B5 r.parts.length d5,.slice none 0 0,.slice none 0 0] (by simp))
  ·simp
 rw [←hW1]
 clear hW1 k4 k5 f5
 have g4:=hF1.out.cell 4 rfl
 have g5:=hF1.out.cell 5 rfl
 have hgz:g < W1.heap.size:=hF1.out.lt
 by_cases hfu:full (st.1,st.2+1)
 ·have HW:Hid (walkF n ss ov (m+1) st r (u:Int) way far=(st.1,st.2+1)):=Lib.hid (walkF_full hfu)
  have hs:=HF.out.stop hK1.out hF1.out
  have hfu:300 < st.1.length∨20000 < st.2+1:=hfu
  by_cases l0:300 < st.1.length
  ·have d0:decide ((300:Int) < (st.1.length:Int))=true:=decide_eq_true (by omega)
   go_wp2
   go_end0
   rw [HW.out]
   exact hs
  ·have d0:decide ((300:Int) < (st.1.length:Int))=false:=decide_eq_false (by omega)
   have d1:decide ((20000:Int) < ((st.2:Int)+1))=true:=decide_eq_true (by omega)
   go_wp2
   go_end0
   rw [HW.out]
   exact hs
 have HNF:=Lib.hid hfu
 have l0:st.1.length≤300:=by have:=HNF.out;unfold full at this;simp only at this;omega
 have l1:st.2+1≤20000:=by have:=HNF.out;unfold full at this;simp only at this;omega
 have d0:decide ((300:Int) < (st.1.length:Int))=false:=decide_eq_false (by omega)
 have d1:decide ((20000:Int) < ((st.2:Int)+1))=false:=decide_eq_false (by omega)
 have b2:=hB1.out.cell 2 rfl
 have hS1:=Lib.hid (Kn.C_keep (hK1.out.mono (S:=WSet g (.slice Ao st.1.length co)) (fun x _ e=>.inl e)) (fun _ _ e=>e) H2.out)
 clear hfu
 go_wp2
 clear d0 d1 g4 g5
 go_loopw [10,46] (fun rv i wr=>∃(k:Nat) (rb:Bool),k≤r.steps.length∧rv=.bool rb∧i=.int .i64 k∧Hid (rb=pv (inTo r.steps k ⟨u,way⟩))∧Below W1.heap.size W1 wr) (fun _ i _=>r.steps.length - (intOf i).toNat)
 case atStart=>exact ⟨0,false,Nat.zero_le _,rfl,rfl,Lib.hid (by rw [pv_false inTo_zero]),Below.refl _ _⟩
 case round =>
  obtain ⟨k,rb,hk,rfl,rfl,HRV,hb⟩:=hrel
  by_cases hlt:k < r.steps.length
  ·obtain ⟨ad,rfl,y0,y1,E,g0,g1⟩:=stepK_at (Kn.C_below hb hS1.out) k hlt
   have i0:(0:Int)≤(k:Int):=Int.natCast_nonneg _
   have i1:(k:Int) < (r.steps.length:Int):=by omega
   have hb1:=hb.alloc hb.size (Obj.cells #[.int .i64 y0,.int .i64 y1] 46)
   by_cases hin:inTo r.steps k ⟨u,way⟩
   ·obtain rfl:rb=true:=by rw [HRV.out,pv_true hin]
    have HN:Hid (true=pv (inTo r.steps (k+1) ⟨u,way⟩)):=Lib.hid (by rw [pv_true (p:=inTo r.steps (k+1) ⟨u,way⟩) (hin.imp fun j h=>⟨by omega,h.2⟩)])
    clear hin
    go_wp2
    go_roundw
    case rel=>exact ⟨k+1,_,by omega,rfl,by go_num,HN,hb1⟩
    case measure=>simp [intOf];omega
   obtain rfl:rb=false:=by rw [HRV.out,pv_false hin]
   have HIN:=Lib.hid hin
   clear hin
   by_cases z0:y0=u
   ·have d0:(y0 == (u:Int))=true:=int_eqt z0
    by_cases z1:y1=way
    ·have d1:(y1 == way)=true:=int_eqt z1
     have HN:Hid (true=pv (inTo r.steps (k+1) ⟨u,way⟩)):=Lib.hid (by rw [pv_true ⟨k,by omega,by rw [E.out,z0,z1]⟩])
     clear z0 z1
     go_wp2
     go_roundw
     case rel=>exact ⟨k+1,_,by omega,rfl,by go_num,HN,hb1⟩
     case measure=>simp [intOf];omega
    ·have d1:(y1 == way)=false:=int_eqf z1
     have HN:Hid (false=pv (inTo r.steps (k+1) ⟨u,way⟩)):=Lib.hid (by rw [pv_false (inTo_snoc HIN.out E.out (fun e=>z1 (congrArg Step.way e)))])
     clear z0 z1
     go_wp2
     go_roundw
     case rel=>exact ⟨k+1,_,by omega,rfl,by go_num,HN,hb1⟩
     case measure=>simp [intOf];omega
   ·have d0:(y0 == (u:Int))=false:=int_eqf z0
    have HN:Hid (false=pv (inTo r.steps (k+1) ⟨u,way⟩)):=Lib.hid (by rw [pv_false (inTo_snoc HIN.out E.out (fun e=>z0 (congrArg Step.piece e)))])
    clear z0
    go_wp2
    go_roundw
    case rel=>exact ⟨k+1,_,by omega,rfl,by go_num,HN,hb1⟩
    case measure=>simp [intOf];omega
  have HRD:Hid (rb=pv ((⟨u,way⟩:Step)∈r.steps)):=by
   refine Lib.hid ?_
   rw [HRV.out]
   obtain rfl:k=r.steps.length:=by omega
   by_cases hin:inTo r.steps r.steps.length ⟨u,way⟩
   ·rw [pv_true hin,pv_true (by obtain ⟨j,_,hj⟩:=hin;exact mem_of_get hj)]
   ·rw [pv_false hin,pv_false (inTo_all hin)]
  have hlk:¬k < r.steps.length:=hlt
  have hKr:Hid (Keep (fun b=>b=g) w wr):=Lib.hid (hK1.out.below hb)
  have hFr:Hid (Blk wr g 84 (finder n A0 A1 c0 c1 (.slice A2 ss.length c2) ov (.slice Ao st.1.length co) ((st.2:Int)+1) vs)):=Lib.hid (hF1.out.below hb hF1.out.lt)
  have hBr:Hid (Blk wr w.heap.size 44 [.int .i64 r.frm,.int .i64 r.til,.slice B2 r.steps.length d2,.slice B3 r.lies.length d3,.slice B4 r.crosses.length d4,.slice B5 r.parts.length d5,.slice none 0 0,.slice none 0 0]):=Lib.hid (hB1.out.below hb hB1.out.lt)
  have hsr:w.heap.size < wr.heap.size:=hBr.out.lt
  have hgz:g < wr.heap.size:=hFr.out.lt
  clear b2
  obtain ⟨n1,n2,n3,n4,n5⟩:r.steps.length≤1000∧r.lies.length≤1000∧r.crosses.length≤1000∧r.parts.length≤1000∧r.steps.length≤2*n.pieces.length:=by
   have a1:=hI.out.bound
   have a2:=HG.out.le
   have a3:=hI.out.liesN
   have a4:=hI.out.crosses
   have a5:=hI.out.parts
   omega
  have HC:Hid (stepK.C wr (Out wr (WSet g (.slice Ao st.1.length co))) B2 r.steps∧lieK.C wr (Out wr (WSet g (.slice Ao st.1.length co))) B3 r.lies∧Kn.int.C wr (Out wr (WSet g (.slice Ao st.1.length co))) B4 r.crosses∧partK.C wr (Out wr (WSet g (.slice Ao st.1.length co))) B5 r.parts):=by
   have hk:=hKr.out.mono (S:=WSet g (.slice Ao st.1.length co)) (fun x _ e=>.inl e)
   exact Lib.hid ⟨Kn.C_keep hk (fun _ _ e=>e) H2.out,Kn.C_keep hk (fun _ _ e=>e) H3.out,Kn.C_keep hk (fun _ _ e=>e) H4.out,Kn.C_keep hk (fun _ _ e=>e) H5.out⟩
  have b0:=hBr.out.cell 0 rfl
  have b1:=hBr.out.cell 1 rfl
  have b3:=hBr.out.cell 3 rfl
  have b4:=hBr.out.cell 4 rfl
  have b5:=hBr.out.cell 5 rfl
  have b6:=hBr.out.cell 6 rfl
  have b7:=hBr.out.cell 7 rfl
  have b2:=hBr.out.cell 2 rfl
  clear hS1 hb
  go_wp2_with fail
  refine (specCopy r B2 B3 B4 B5 d2 d3 d4 d5 none none 0 0 0 0 wr HC.out.1 HC.out.2.1 HC.out.2.2.1 HC.out.2.2.2 ⟨n1,n2,n3,n4⟩).mono ?_
  rintro e wc ⟨E2,E3,E4,E5,x2,x3,x4,x5,rfl,HCP,hbc⟩
  obtain ⟨HBc,HC4⟩:Hid (Blk wc w.heap.size 44 [.int .i64 r.frm,.int .i64 r.til,.slice B2 r.steps.length d2,.slice B3 r.lies.length d3,.slice B4 r.crosses.length d4,.slice B5 r.parts.length d5,.slice none 0 0,.slice none 0 0])∧Hid (CP wc wr.heap.size r (.slice E2 r.steps.length x2) (.slice E3 r.lies.length x3) (.slice E4 r.crosses.length x4) (.slice E5 r.parts.length x5)):=⟨Lib.hid (hBr.out.below hbc hBr.out.lt),Lib.hid HCP⟩
  have hsc:w.heap.size < wc.heap.size:=HBc.out.lt
  have y0:=HBc.out.cell 0 rfl
  have z0:=HBc.out.frozen 0
  have y1:=HBc.out.cell 1 rfl
  have z1:=HBc.out.frozen 1
  have y2:=HBc.out.cell 2 rfl
  have z2:=HBc.out.frozen 2
  have y3:=HBc.out.cell 3 rfl
  have z3:=HBc.out.frozen 3
  have y4:=HBc.out.cell 4 rfl
  have z4:=HBc.out.frozen 4
  have y5:=HBc.out.cell 5 rfl
  have z5:=HBc.out.frozen 5
  have y6:=HBc.out.cell 6 rfl
  have z6:=HBc.out.frozen 6
  have y7:=HBc.out.cell 7 rfl
  have z7:=HBc.out.frozen 7
  clear HCP
  go_upto_region 10 with (fail)
  obtain ⟨W2,hW2,L2⟩:∃W,W=(((((((wc.setCell ⟨w.heap.size,0,none⟩ (.int .i64 r.frm)).setCell ⟨w.heap.size,1,none⟩ (.int .i64 r.til)).setCell ⟨w.heap.size,2,none⟩ (.slice E2 r.steps.length x2)).setCell ⟨w.heap.size,3,none⟩ (.slice E3 r.lies.length x3)).setCell ⟨w.heap.size,4,none⟩ (.slice E4 r.crosses.length x4)).setCell ⟨w.heap.size,5,none⟩ (.slice E5 r.parts.length x5)).setCell ⟨w.heap.size,6,none⟩ (.slice none 0 0)).setCell ⟨w.heap.size,7,none⟩ (.slice none 0 0)∧Hid (WL w W g w.heap.size n ss A0 A1 A2 c0 c1 c2 ov ((st.2:Int)+1) (.slice Ao st.1.length co) vs r r.til (.slice E2 r.steps.length x2) (.slice E3 r.lies.length x3) (.slice E4 r.crosses.length x4) (.slice E5 r.parts.length x5) (.slice none 0 0)) :=
   ⟨_,rfl,Lib.hid (WL.copy (Nat.le_refl _) hKr.out hFr.out hBr.out hbc HC4.out)⟩
  rw [←hW2]
  clear hW2 y0 z0 y1 z1 y2 z2 y3 z3 y4 z4 y5 z5 y6 z6 y7 z7 b0 b1 b3 b4 b5 b6 b7 HBc HC4 HC hBr hFr hKr hsc hsr hgz hbc
  have b2:=L2.out.B.cell 2 rfl
  have hsr:w.heap.size < W2.heap.size:=L2.out.B.lt
  have m63:r.steps.length+1≤maxLen:=by simp only [maxLen];omega
  have mby:(r.steps.length+1)*16≤140737488355328:=by omega
  go_upto_region 11 with (at_builtin;refine wpList_append_rw _ rfl (.tmp 67) (.tmp 71) 38 rfl 46 iS _ 16 Try.underlying38 hiS hzS hyS hxS rfl (by decide) (.slice E2 r.steps.length x2) r.steps [⟨u,way⟩] rfl (L2.out.C.s.below (below_alloc _ _)) (fun _ h=>h.elim) (some ⟨W2.heap.size,0,none⟩) 1 1 rfl rfl (Kn.Src.one (stepK_mk _ _ ⟨u,way⟩) (new_cells _ _ _ rfl)) m63 mby ?_;intro v' w2 HR2 hg2 hat2;obtain ⟨A9,c9,rfl,hc9⟩:=HR2.form1;have B2:=Lib.hid (L2.out.bAt L2.out.C.s (by decide) (below_alloc _ _) hg2);have r7:=B2.out.cell 2 rfl;have r8:=B2.out.frozen 2;have hhz:w.heap.size < w2.heap.size:=B2.out.lt)
  obtain ⟨W3,hW3,L3⟩:∃W,W=w2.setCell ⟨w.heap.size,2,none⟩ (.slice A9 (r.steps.length+1) c9)∧Hid (WL w W g w.heap.size n ss A0 A1 A2 c0 c1 c2 ov ((st.2:Int)+1) (.slice Ao st.1.length co) vs { r with steps:=r.steps++[⟨u,way⟩] } r.til (.slice A9 (r.steps.length+1) c9) (.slice E3 r.lies.length x3) (.slice E4 r.crosses.length x4) (.slice E5 r.parts.length x5) (.slice none 0 0)) :=
   ⟨_,rfl,Lib.hid (L2.out.step (Nat.le_refl _) (below_alloc _ _) hg2 HR2 hat2)⟩
  rw [←hW3]
  clear hW3 B2 r7 r8 hhz hsr b2 HR2 hg2 hat2 L2 m63 mby
  obtain ⟨ap,rfl,pl0,pl1,pl2,pl3,EP,p0,p1,p2,p3⟩:=pieceK_at HF.out.net.p u hu
  have HP:Hid (pl n u=pl1):=Lib.hid (pl_get EP.out)
  obtain ⟨hp1,hp2⟩:1≤pl1∧pl1≤10000000:=by have:=HG.out.piece _ (mem_of_get EP.out);exact ⟨this.2.1,this.2.2.1⟩
  have hap:(ap.add (u*4)).block < w.heap.size:=World.block_lt_of_cell? w ⟨(ap.add (u*4)).block,(ap.add (u*4)).off+1,none⟩ p1
  have S3:=Lib.hid (HF.out.later L3.out.K L3.out.F)
  clear p0 p1 p2 p3
  have s0:=L3.out.F.cell 0 rfl
  have s1:=L3.out.F.cell 1 rfl
  have s2:=L3.out.F.cell 2 rfl
  have hgz:g < W3.heap.size:=L3.out.F.lt
  have hfm:0≤far∧far≤10000000:=by
   have h1:=hfar.out
   have h2:=HP.out
   omega
  obtain ⟨hf0,hf1⟩:=hfm
  go_region_held3 (fun w'=>Below W3.heap.size W3 w'∧w'.cell? ⟨g,0,none⟩=some (.slice (some ap) n.pieces.length c0)∧w'.cell? ⟨g,1,none⟩=some (.slice A1 n.joints.length c1)∧w'.cell? ⟨g,2,none⟩=some (.slice A2 ss.length c2))
   (first | exact ⟨(Below.refl _ _).drew,s0,s1,s2⟩ | exact ⟨hbS.trans (hbc.mono hbS.size),cell_below (hbS.trans (hbc.mono hbS.size)) s0,cell_below (hbS.trans (hbc.mono hbS.size)) s1,cell_below (hbS.trans (hbc.mono hbS.size)) s2⟩)
   (first | (go_at_call 49;obtain ⟨hbS,_⟩:=‹Below W3.heap.size W3 _∧_›;(with_reducible refine (specSignal n ss _ (some ap) A2 c0 c2 u way far _ (S3.out.below hbS).net.p (S3.out.below hbS).sig hr hu hway hf0 hf1).mono ?_);rintro e wz ⟨rfl,hbc⟩))
  obtain ⟨hbF,_⟩:=‹Below W3.heap.size W3 wz∧_›
  have L4:=Lib.hid (L3.out.below hbF)
  have S4:=Lib.hid (S3.out.below hbF)
  clear s0 s1 s2 hgz hbF L3 S3
  cases hp:firstTo n ss u way far ss.length with
  | some b =>
   obtain ⟨b1,b2,t,e1,e2,e3,e4⟩:=firstTo_lt hp
   obtain ⟨az,rfl,t0,t1,t2,t3,ET,r0,r1,r2,r3⟩:=signalK_at S4.out.sig b b2
   have HJ:=Lib.hid (sig_in hr.out ET.out)
   obtain rfl:=Option.some.inj (e1.symm.trans ET.out)
   simp only at e2 e3 e4
   have hta:0≤t2∧t2≤10000000:=by have:=HJ.out;simp only at this;omega
   have i0:(0:Int)≤(b:Int):=Int.natCast_nonneg _
   have i1:(b:Int) < (ss.length:Int):=by omega
   obtain ⟨fb,hfb⟩:∃fb,Hid (farOf n u t2 way=fb):=⟨_,Lib.hid rfl⟩
   have HFS:Hid (sigFar n ss b u way=fb):=Lib.hid (by unfold sigFar;rw [ET.out];exact hfb.out)
   obtain ⟨fb0,fb1⟩:0≤fb∧fb < pl1:=by
    have h1:=HJ.out
    simp only at h1
    rw [e2,HP.out] at h1
    have h2:=hfb.out
    unfold farOf at h2
    rw [HP.out] at h2
    split at h2 <;> omega
   have HW:Hid (walkF n ss ov (m+1) st r (u:Int) way far=(st.1++[fin n ss (sigR n ss ov r u way far b)],st.2+1)):=Lib.hid (walkF_sig HNF.out hp)
   have d5:decide ((b:Int) < 0)=false:=decide_eq_false (by omega)
   have d6:decide ((0:Int)≤(b:Int))=true:=decide_eq_true (by omega)
   have s0:=L4.out.F.cell 0 rfl
   have s1:=L4.out.F.cell 1 rfl
   have s2:=L4.out.F.cell 2 rfl
   have hgz:g < wz.heap.size:=L4.out.F.lt
   clear hp e1 e2 e3 e4 r0 r1 r3
   rw [onum_some]
   go_wp2
   go_region_held3 (fun w'=>Below wz.heap.size wz w'∧w'.cell? ⟨g,0,none⟩=some (.slice (some ap) n.pieces.length c0)∧w'.cell? ⟨g,1,none⟩=some (.slice A1 n.joints.length c1)∧w'.cell? ⟨g,2,none⟩=some (.slice (some az) ss.length c2)∧w'.cell? ⟨(az.add (b*4)).block,(az.add (b*4)).off+2,none⟩=some (.int .i64 t2))
    (first | exact ⟨(Below.refl _ _).drew,s0,s1,s2,r2⟩ | exact ⟨hbS.trans (hbc.mono hbS.size),cell_below (hbS.trans (hbc.mono hbS.size)) s0,cell_below (hbS.trans (hbc.mono hbS.size)) s1,cell_below (hbS.trans (hbc.mono hbS.size)) s2,cell_below (hbS.trans (hbc.mono hbS.size)) r2⟩)
    (first | (go_at_call 37;obtain ⟨hbS,_⟩:=‹Below wz.heap.size wz _∧_›;(with_reducible refine (specFar n _ (some ap) c0 u t2 way _ (S4.out.below hbS).net.p HG hu hta).mono ?_);rintro e wy ⟨rfl,hbc⟩;rw [hfb.out]))
   obtain ⟨hbF,_⟩:=‹Below wz.heap.size wz wy∧_›
   have L5:=Lib.hid (L4.out.below hbF)
   have S5:=Lib.hid (S4.out.below hbF)
   clear s0 s1 s2 r2 hgz hbF L4 S4 d5 d6
   have s0:=L5.out.F.cell 0 rfl
   have s1:=L5.out.F.cell 1 rfl
   have s5:=L5.out.B.cell 5 rfl
   have hgz:g < wy.heap.size:=L5.out.F.lt
   have hhz:w.heap.size < wy.heap.size:=L5.out.B.lt
   have m63:r.parts.length+1≤maxLen:=by simp only [maxLen];omega
   have mby:(r.parts.length+1)*24≤140737488355328:=by omega
   obtain ⟨P,HPt⟩:∃P,Hid (partN n u way far fb=P):=⟨_,Lib.hid rfl⟩
   go_wp2
   go_cut [13] (fun sv W6=>sv=.int .i64 (b:Int)∧∃A8 c8,Hid (WL w W6 g w.heap.size n ss (some ap) A1 (some az) c0 c1 c2 ov ((st.2:Int)+1) (.slice Ao st.1.length co) vs { r with steps:=r.steps++[⟨u,way⟩],parts:=r.parts++[P] } r.til (.slice A9 (r.steps.length+1) c9) (.slice E3 r.lies.length x3) (.slice E4 r.crosses.length x4) (.slice A8 (r.parts.length+1) c8) (.slice none 0 0)))
   case first =>
    clear IH HF H2 H3 H4 H5 hI hm hst HNF HRV HRD hK1 hB1 hs1 hov hr hfar hap
    refine Rg.start 12 (fun w'=>Below wy.heap.size wy w'∧w'.cell? ⟨g,0,none⟩=some (.slice (some ap) n.pieces.length c0)∧w'.cell? ⟨g,1,none⟩=some (.slice A1 n.joints.length c1)∧w'.cell? ⟨w.heap.size,5,none⟩=some (.slice E5 r.parts.length x5)) 15 rfl (by kernel_rfl) ?_
    have hHeld:Below wy.heap.size wy wy.drew∧wy.drew.cell? ⟨g,0,none⟩=some (.slice (some ap) n.pieces.length c0)∧wy.drew.cell? ⟨g,1,none⟩=some (.slice A1 n.joints.length c1)∧wy.drew.cell? ⟨w.heap.size,5,none⟩=some (.slice E5 r.parts.length x5):=⟨(Below.refl _ _).drew,s0,s1,s5⟩
    refine Rg.pure 0 (v:=?v1) rfl (by kernel_rfl) (fun _ _ _ h=>h) (by rfl) hHeld ?y1 ?h1
    case y1=>(intro wA;go_simp;first | done | with_reducible rfl)
    simp only [Act.put,List.setIfInBounds_toArray,List.set_cons_zero,List.set_cons_succ]
    refine Rg.held 1 (v:=?v2) rfl (by kernel_rfl) (fun _ _ _ h=>h) (by rfl) hHeld ?y2 ?h2
    case y2=>(intro wA hSw;(try dsimp only at hSw);go_simp;first | done | with_reducible rfl)
    simp only [Act.put,List.setIfInBounds_toArray,List.set_cons_zero,List.set_cons_succ]
    refine Rg.pure 2 (v:=?v3) rfl (by kernel_rfl) (fun _ _ _ h=>h) (by rfl) hHeld ?y3 ?h3
    case y3=>(intro wA;go_simp;first | done | with_reducible rfl)
    simp only [Act.put,List.setIfInBounds_toArray,List.set_cons_zero,List.set_cons_succ]
    refine Rg.pure 3 (v:=?v4) rfl (by kernel_rfl) (fun _ _ _ h=>h) (by rfl) hHeld ?y4 ?h4
    case y4=>(intro wA;go_simp;first | done | with_reducible rfl)
    simp only [Act.put,List.setIfInBounds_toArray,List.set_cons_zero,List.set_cons_succ]
    refine Rg.pure 4 (v:=?v5) rfl (by kernel_rfl) (fun _ _ _ h=>h) (by rfl) hHeld ?y5 ?h5
    case y5=>(intro wA;go_simp;first | done | with_reducible rfl)
    simp only [Act.put,List.setIfInBounds_toArray,List.set_cons_zero,List.set_cons_succ]
    refine Rg.held 5 (v:=?v6) rfl (by kernel_rfl) (fun _ _ _ h=>h) (by rfl) hHeld ?y6 ?h6
    case y6=>(intro wA hSw;(try dsimp only at hSw);go_simp;first | done | with_reducible rfl)
    simp only [Act.put,List.setIfInBounds_toArray,List.set_cons_zero,List.set_cons_succ]
    refine Rg.pure 6 (v:=?v7) rfl (by kernel_rfl) (fun _ _ _ h=>h) (by rfl) hHeld ?y7 ?h7
    case y7=>(intro wA;go_simp;first | done | with_reducible rfl)
    simp only [Act.put,List.setIfInBounds_toArray,List.set_cons_zero,List.set_cons_succ]
    refine Rg.pure 7 (v:=?v8) rfl (by kernel_rfl) (fun _ _ _ h=>h) (by rfl) hHeld ?y8 ?h8
    case y8=>(intro wA;go_simp;first | done | with_reducible rfl)
    simp only [Act.put,List.setIfInBounds_toArray,List.set_cons_zero,List.set_cons_succ]
    refine Rg.pure 8 (v:=?v9) rfl (by kernel_rfl) (fun _ _ _ h=>h) (by rfl) hHeld ?y9 ?h9
    case y9=>(intro wA;go_simp;first | done | with_reducible rfl)
    simp only [Act.put,List.setIfInBounds_toArray,List.set_cons_zero,List.set_cons_succ]
    refine Rg.pure 9 (v:=?v10) rfl (by kernel_rfl) (fun _ _ _ h=>h) (by rfl) hHeld ?y10 ?h10
    case y10=>(intro wA;go_simp;first | done | with_reducible rfl)
    simp only [Act.put,List.setIfInBounds_toArray,List.set_cons_zero,List.set_cons_succ]
    refine Rg.one 10 rfl (by kernel_rfl) (fun K hK=>?_)
    refine step_is_call 64 rfl rfl ?_
    go_simp
    go_at_call 64
    (with_reducible refine (specPart n _ (some ap) c0 u way far fb _ (S5.out.below (by repeat' first | exact Below.refl _ _ | (refine Below.drew ?_))).net.p HG hu hway ⟨hf0,hf1⟩ ⟨fb0,by omega⟩).mono ?_)
    rintro e wx ⟨rfl,hbc⟩
    rw [HPt.out]
    have hbx:Below wy.heap.size wy wx:=Below.trans (by repeat' first | exact Below.refl _ _ | (refine Below.drew ?_)) hbc
    clear hHeld hbc
    have hHeld:Below wy.heap.size wy wx∧wx.cell? ⟨g,0,none⟩=some (.slice (some ap) n.pieces.length c0)∧wx.cell? ⟨g,1,none⟩=some (.slice A1 n.joints.length c1)∧wx.cell? ⟨w.heap.size,5,none⟩=some (.slice E5 r.parts.length x5):=⟨hbx,cell_below hbx s0,cell_below hbx s1,cell_below hbx s5⟩
    refine hK.out _ _ hHeld ?_
    clear hK K
    try simp only [Act.put,List.setIfInBounds_toArray,List.set_cons_zero,List.set_cons_succ]
    refine Rg.one 11 rfl (by kernel_rfl) (fun K hK=>?_)
    go_simp
    have hba:Below wy.heap.size wy (wx.alloc (.cells #[.int .i64 P.piece,.int .i64 P.frm,.int .i64 P.til] 48)):=hbx.alloc hbx.size _
    refine hK.out _ _ ⟨hba,cell_below hba s0,cell_below hba s1,cell_below hba s5⟩ ?_
    clear hK K hHeld
    refine Rg.row [12,12+1,14] [_,_,_] rfl (by kernel_rfl) ?_
    go_wp2_with (at_builtin;refine wpList_append_rw _ rfl (.tmp 109) (.tmp 119) 41 rfl 48 iP _ 24 Try.underlying41 hiP hzP hyP hxP rfl (by decide) (.slice E5 r.parts.length x5) r.parts [P] rfl (L5.out.C.p.below hba) (fun _ h=>h.elim) (some ⟨wx.heap.size,0,none⟩) 1 1 rfl rfl (Kn.Src.one (partK_mk _ _ P) (new_cells _ _ _ rfl)) m63 mby ?_;intro v' w2 HR2 hg2 hat2;obtain ⟨A8,c8,rfl,hc8⟩:=HR2.form1;have BG:=Lib.hid (L5.out.gAt L5.out.C.p (by decide) hba hg2);have BH:=Lib.hid (L5.out.bAt L5.out.C.p (by decide) hba hg2);have u5:=BH.out.cell 5 rfl;have u7:=BH.out.frozen 5;have hhz2:w.heap.size < w2.heap.size:=BH.out.lt)
    go_meet
    case rel=>exact ⟨rfl,A8,c8,Lib.hid (L5.out.part (Nat.le_refl _) hba hg2 HR2 hat2)⟩
   obtain ⟨rfl,A8,c8,L6⟩:=hcut
   clear s0 s1 s5 hgz hhz L5 S5 m63 mby
   have i1:=L6.out.B.cell 1 rfl
   have j1:=L6.out.B.frozen 1
   have hhz:w.heap.size < wc.heap.size:=L6.out.B.lt
   go_upto_region 17 with (fail)
   obtain ⟨W7,hW7,L7⟩:∃W,W=wc.setCell ⟨w.heap.size,1,none⟩ (.int .i64 b)∧Hid (WL w W g w.heap.size n ss (some ap) A1 (some az) c0 c1 c2 ov ((st.2:Int)+1) (.slice Ao st.1.length co) vs { r with steps:=r.steps++[⟨u,way⟩],parts:=r.parts++[P] } (b:Int) (.slice A9 (r.steps.length+1) c9) (.slice E3 r.lies.length x3) (.slice E4 r.crosses.length x4) (.slice A8 (r.parts.length+1) c8) (.slice none 0 0)):=⟨_,rfl,Lib.hid (L6.out.til (Nat.le_refl _) b)⟩
   rw [←hW7]
   clear hW7 i1 j1 hhz
   have S7:=Lib.hid (HF.out.later L7.out.K L7.out.F)
   go_wp2_with fail
   refine (specBeyond n (some ap) A1 c0 c1 _ _ vs ov _ g u way fb W7 L7.out.F S7.out.net HG hu (Lib.hid hway) (Lib.hid ⟨fb0,by rw [HP.out];exact fb1⟩) hov.out.1 hov.out.2).mono ?_
   rintro e w8 ⟨v6,rfl,HR6,HO6,hb6⟩
   obtain ⟨Bs,HBs⟩:∃Bs,Hid (beyond n (ov.toNat+1) u way fb ov=Bs):=⟨_,Lib.hid rfl⟩
   rw [HBs.out] at HR6
   obtain ⟨A6,c6,rfl,hc6,_⟩:=HR6.form
   have HR6:=Lib.hid HR6
   have L8:=Lib.hid (L7.out.below hb6)
   have i6:=L8.out.B.cell 6 rfl
   have j6:=L8.out.B.frozen 6
   have hhz:w.heap.size < w8.heap.size:=L8.out.B.lt
   have hh7:w.heap.size < W7.heap.size:=L7.out.B.lt
   go_upto_region 18 with (fail)
   obtain ⟨W9,hW9,L9,HR9⟩:∃W,W=w8.setCell ⟨w.heap.size,6,none⟩ (.slice A6 Bs.length c6)∧Hid (WL w W g w.heap.size n ss (some ap) A1 (some az) c0 c1 c2 ov ((st.2:Int)+1) (.slice Ao st.1.length co) vs { r with steps:=r.steps++[⟨u,way⟩],parts:=r.parts++[P] } (b:Int) (.slice A9 (r.steps.length+1) c9) (.slice E3 r.lies.length x3) (.slice E4 r.crosses.length x4) (.slice A8 (r.parts.length+1) c8) (.slice A6 Bs.length c6))∧Hid (partK.Rw 48 W nobody (.slice A6 Bs.length c6) Bs) :=
    ⟨_,rfl,Lib.hid (L8.out.over (Nat.le_refl _) _),Lib.hid (Kn.Rw.move (fun k hk=>Below.heap_setCell _ _ _ _ (fun e=>by have:=HO6 k hk;have:k=w.heap.size:=e;omega)) (fun _ h=>h.elim) HR6.out)⟩
   rw [←hW9]
   clear hW9 i6 j6 hhz
   have S9:=HF.out.later L9.out.K L9.out.F
   have y0:=L9.out.B.cell 0 rfl
   have y1:=L9.out.B.cell 1 rfl
   have y2:=L9.out.B.cell 2 rfl
   have y3:=L9.out.B.cell 3 rfl
   have y4:=L9.out.B.cell 4 rfl
   have y5:=L9.out.B.cell 5 rfl
   have y6:=L9.out.B.cell 6 rfl
   have y7:=L9.out.B.cell 7 rfl
   have hhz:w.heap.size < W9.heap.size:=L9.out.B.lt
   have hgz:g < W9.heap.size:=L9.out.F.lt
   have hrq:Hid (sigR n ss ov r u way far b={ r with til:=(b:Int),steps:=r.steps++[⟨u,way⟩],parts:=r.parts++[P],over:=Bs }):=Lib.hid (by unfold sigR Route.on;rw [HFS.out,HPt.out,HBs.out])
   go_wp2_with fail
   obtain ⟨q,HQ⟩:∃q:Route,Hid (q={ r with til:=(b:Int),steps:=r.steps++[⟨u,way⟩],parts:=r.parts++[P],over:=Bs }):=⟨_,Lib.hid rfl⟩
   have h2:stepK.C W9 (Out W9 (WSet g (.slice Ao st.1.length co))) A9 q.steps:=by rw [HQ.out];exact WL.reads HF.out L9.out.C.s L9.out.C.os
   have h3:lieK.C W9 (Out W9 (WSet g (.slice Ao st.1.length co))) E3 q.lies:=by rw [HQ.out];exact WL.reads HF.out L9.out.C.l L9.out.C.ol
   have h4:Kn.int.C W9 (Out W9 (WSet g (.slice Ao st.1.length co))) E4 q.crosses:=by rw [HQ.out];exact WL.reads HF.out L9.out.C.c L9.out.C.oc
   have h5:partK.C W9 (Out W9 (WSet g (.slice Ao st.1.length co))) A8 q.parts:=by rw [HQ.out];exact WL.reads HF.out L9.out.C.p L9.out.C.op
   have h6:partK.C W9 (Out W9 (WSet g (.slice Ao st.1.length co))) A6 q.over:=by rw [HQ.out];exact WL.reads HF.out HR9.out (fun k hk=>by have:=HO6 k hk;omega)
   have e1:q.frm=r.frm:=by rw [HQ.out]
   have e2:q.til=(b:Int):=by rw [HQ.out]
   have e3:q.steps.length=r.steps.length+1:=by rw [HQ.out];simp
   have e4:q.lies.length=r.lies.length:=by rw [HQ.out]
   have e5:q.crosses.length=r.crosses.length:=by rw [HQ.out]
   have e6:q.parts.length=r.parts.length+1:=by rw [HQ.out];simp
   have e7:q.over.length=Bs.length:=by rw [HQ.out]
   have hcap:Hid (q.steps.length≤c9∧q.lies.length≤x3∧q.crosses.length≤x4∧q.parts.length≤c8∧q.over.length≤c6):=Lib.hid (by
    have a1:=(Rw_slice L9.out.C.s).2.1
    have a2:=(Rw_slice L9.out.C.l).2.1
    have a3:=(Rw_slice L9.out.C.c).2.1
    have a4:=(Rw_slice L9.out.C.p).2.1
    rw [HQ.out]
    exact ⟨a1,a2,a3,a4,hc6⟩)
   have hll:q.lies.length≤201:=by have:=hI.out.liesN;have:=HG.out.le;omega
   have hlp:Hid (∀l∈q.lies,lieP n l):=Lib.hid (by rw [HQ.out];exact hI.out.lies)
   have hD:=specDone q hr S9 h2 h3 h4 h5 h6 hcap hll hlp l0
   rw [e1,e2,e3,e4,e5,e6,e7] at hD
   refine hD.mono ?_
   intro e wd hRD
   have hRD:=hRD.after (L9.out.K.mono (S:=WSet g (.slice Ao st.1.length co)) (fun x _ e=>.inl e)) (Nx.refl _ _)
   rw [HQ.out,←hrq.out] at hRD
   obtain ⟨rfl,hRD⟩:=id hRD
   go_wp2
   go_end0
   rw [HW.out]
   exact hRD
  | none =>
   by_cases hin:(⟨u,way⟩:Step)∈r.steps
   ·obtain rfl:rb=true:=by rw [HRD.out,pv_true hin]
    have HW:Hid (walkF n ss ov (m+1) st r (u:Int) way far=(st.1,st.2+1)):=Lib.hid (walkF_round HNF.out hp hin)
    have hs:=HF.out.stop L4.out.K L4.out.F
    clear hp
    rw [onum_none]
    go_wp2
    go_end0
    rw [HW.out]
    exact hs
   obtain rfl:rb=false:=by rw [HRD.out,pv_false hin]
   have HIN:=Lib.hid hin
   have HFN:=Lib.hid hp
   obtain ⟨ap',hap',z0,z1,z2,z3,EZ,r0,r1,r2,r3⟩:=pieceK_at S4.out.net.p u hu
   obtain rfl:=Option.some.inj hap'
   have hzl:z1=pl1:=by have h1:=pl_get EZ.out;rw [HP.out] at h1;exact h1.symm
   subst hzl
   have j0:(0:Int)≤(u:Int):=Int.natCast_nonneg _
   have j1:(u:Int) < (n.pieces.length:Int):=by omega
   clear hin hp hap' r0 r2 r3
   rw [onum_none]
   have s0:=L4.out.F.cell 0 rfl
   have s1:=L4.out.F.cell 1 rfl
   have s5:=L4.out.B.cell 5 rfl
   have hgz:g < wz.heap.size:=L4.out.F.lt
   have hhz:w.heap.size < wz.heap.size:=L4.out.B.lt
   have m63:r.parts.length+1≤maxLen:=by simp only [maxLen];omega
   have mby:(r.parts.length+1)*24≤140737488355328:=by omega
   obtain ⟨P,HPt⟩:∃P,Hid (partN n u way far z1=P):=⟨_,Lib.hid rfl⟩
   go_wp2
   go_cut [13] (fun sv W6=>sv=.int .i64 (-1)∧∃A8 c8,Hid (WL w W6 g w.heap.size n ss (some ap) A1 A2 c0 c1 c2 ov ((st.2:Int)+1) (.slice Ao st.1.length co) vs { r with steps:=r.steps++[⟨u,way⟩],parts:=r.parts++[P] } r.til (.slice A9 (r.steps.length+1) c9) (.slice E3 r.lies.length x3) (.slice E4 r.crosses.length x4) (.slice A8 (r.parts.length+1) c8) (.slice none 0 0)))
   case first =>
    clear IH HF H2 H3 H4 H5 hI hm hst HNF HRV HRD hK1 hB1 hs1 hov hr hfar hap
    refine Rg.start 20 (fun w'=>Below wz.heap.size wz w'∧w'.cell? ⟨g,0,none⟩=some (.slice (some ap) n.pieces.length c0)∧w'.cell? ⟨g,1,none⟩=some (.slice A1 n.joints.length c1)∧w'.cell? ⟨w.heap.size,5,none⟩=some (.slice E5 r.parts.length x5)∧w'.cell? ⟨(ap.add (u*4)).block,(ap.add (u*4)).off+1,none⟩=some (.int .i64 z1)) 23 rfl (by kernel_rfl) ?_
    have hHeld:Below wz.heap.size wz wz.drew∧wz.drew.cell? ⟨g,0,none⟩=some (.slice (some ap) n.pieces.length c0)∧wz.drew.cell? ⟨g,1,none⟩=some (.slice A1 n.joints.length c1)∧wz.drew.cell? ⟨w.heap.size,5,none⟩=some (.slice E5 r.parts.length x5)∧wz.drew.cell? ⟨(ap.add (u*4)).block,(ap.add (u*4)).off+1,none⟩=some (.int .i64 z1):=⟨(Below.refl _ _).drew,s0,s1,s5,r1⟩
    refine Rg.pure 0 (v:=?v11) rfl (by kernel_rfl) (fun _ _ _ h=>h) (by rfl) hHeld ?y11 ?h11
    case y11=>(intro wA;go_simp;first | done | with_reducible rfl)
    simp only [Act.put,List.setIfInBounds_toArray,List.set_cons_zero,List.set_cons_succ]
    refine Rg.held 1 (v:=?v12) rfl (by kernel_rfl) (fun _ _ _ h=>h) (by rfl) hHeld ?y12 ?h12
    case y12=>(intro wA hSw;(try dsimp only at hSw);go_simp;first | done | with_reducible rfl)
    simp only [Act.put,List.setIfInBounds_toArray,List.set_cons_zero,List.set_cons_succ]
    refine Rg.pure 2 (v:=?v13) rfl (by kernel_rfl) (fun _ _ _ h=>h) (by rfl) hHeld ?y13 ?h13
    case y13=>(intro wA;go_simp;first | done | with_reducible rfl)
    simp only [Act.put,List.setIfInBounds_toArray,List.set_cons_zero,List.set_cons_succ]
    refine Rg.pure 3 (v:=?v14) rfl (by kernel_rfl) (fun _ _ _ h=>h) (by rfl) hHeld ?y14 ?h14
    case y14=>(intro wA;go_simp;first | done | with_reducible rfl)
    simp only [Act.put,List.setIfInBounds_toArray,List.set_cons_zero,List.set_cons_succ]
    refine Rg.pure 4 (v:=?v15) rfl (by kernel_rfl) (fun _ _ _ h=>h) (by rfl) hHeld ?y15 ?h15
    case y15=>(intro wA;go_simp;first | done | with_reducible rfl)
    simp only [Act.put,List.setIfInBounds_toArray,List.set_cons_zero,List.set_cons_succ]
    refine Rg.held 5 (v:=?v16) rfl (by kernel_rfl) (fun _ _ _ h=>h) (by rfl) hHeld ?y16 ?h16
    case y16=>(intro wA hSw;(try dsimp only at hSw);go_simp;first | done | with_reducible rfl)
    simp only [Act.put,List.setIfInBounds_toArray,List.set_cons_zero,List.set_cons_succ]
    refine Rg.pure 6 (v:=?v17) rfl (by kernel_rfl) (fun _ _ _ h=>h) (by rfl) hHeld ?y17 ?h17
    case y17=>(intro wA;go_simp;first | done | with_reducible rfl)
    simp only [Act.put,List.setIfInBounds_toArray,List.set_cons_zero,List.set_cons_succ]
    refine Rg.pure 7 (v:=?v18) rfl (by kernel_rfl) (fun _ _ _ h=>h) (by rfl) hHeld ?y18 ?h18
    case y18=>(intro wA;go_simp;first | done | with_reducible rfl)
    simp only [Act.put,List.setIfInBounds_toArray,List.set_cons_zero,List.set_cons_succ]
    refine Rg.pure 8 (v:=?v19) rfl (by kernel_rfl) (fun _ _ _ h=>h) (by rfl) hHeld ?y19 ?h19
    case y19=>(intro wA;go_simp;first | done | with_reducible rfl)
    simp only [Act.put,List.setIfInBounds_toArray,List.set_cons_zero,List.set_cons_succ]
    refine Rg.pure 9 (v:=?v20) rfl (by kernel_rfl) (fun _ _ _ h=>h) (by rfl) hHeld ?y20 ?h20
    case y20=>(intro wA;go_simp;first | done | with_reducible rfl)
    simp only [Act.put,List.setIfInBounds_toArray,List.set_cons_zero,List.set_cons_succ]
    refine Rg.pure 10 (v:=?v21) rfl (by kernel_rfl) (fun _ _ _ h=>h) (by rfl) hHeld ?y21 ?h21
    case y21=>(intro wA;go_simp;first | done | with_reducible rfl)
    simp only [Act.put,List.setIfInBounds_toArray,List.set_cons_zero,List.set_cons_succ]
    refine Rg.pure 11 (v:=?v22) rfl (by kernel_rfl) (fun _ _ _ h=>h) (by rfl) hHeld ?y22 ?h22
    case y22=>(intro wA;go_simp;first | done | with_reducible rfl)
    simp only [Act.put,List.setIfInBounds_toArray,List.set_cons_zero,List.set_cons_succ]
    refine Rg.pure 12 (v:=?v23) rfl (by kernel_rfl) (fun _ _ _ h=>h) (by rfl) hHeld ?y23 ?h23
    case y23=>(intro wA;go_simp;first | done | with_reducible rfl)
    simp only [Act.put,List.setIfInBounds_toArray,List.set_cons_zero,List.set_cons_succ]
    refine Rg.held 13 (v:=?v24) rfl (by kernel_rfl) (fun _ _ _ h=>h) (by rfl) hHeld ?y24 ?h24
    case y24=>(intro wA hSw;(try dsimp only at hSw);go_simp;first | done | with_reducible rfl)
    simp only [Act.put,List.setIfInBounds_toArray,List.set_cons_zero,List.set_cons_succ]
    refine Rg.pure 14 (v:=?v25) rfl (by kernel_rfl) (fun _ _ _ h=>h) (by rfl) hHeld ?y25 ?h25
    case y25=>(intro wA;go_simp;first | done | with_reducible rfl)
    simp only [Act.put,List.setIfInBounds_toArray,List.set_cons_zero,List.set_cons_succ]
    refine Rg.pure 15 (v:=?v26) rfl (by kernel_rfl) (fun _ _ _ h=>h) (by rfl) hHeld ?y26 ?h26
    case y26=>(intro wA;go_simp;first | done | with_reducible rfl)
    simp only [Act.put,List.setIfInBounds_toArray,List.set_cons_zero,List.set_cons_succ]
    refine Rg.pure 16 (v:=?v27) rfl (by kernel_rfl) (fun _ _ _ h=>h) (by rfl) hHeld ?y27 ?h27
    case y27=>(intro wA;go_simp;first | done | with_reducible rfl)
    simp only [Act.put,List.setIfInBounds_toArray,List.set_cons_zero,List.set_cons_succ]
    refine Rg.held 17 (v:=?v28) rfl (by kernel_rfl) (fun _ _ _ h=>h) (by rfl) hHeld ?y28 ?h28
    case y28=>(intro wA hSw;(try dsimp only at hSw);go_simp;first | done | with_reducible rfl)
    simp only [Act.put,List.setIfInBounds_toArray,List.set_cons_zero,List.set_cons_succ]
    refine Rg.one 18 rfl (by kernel_rfl) (fun K hK=>?_)
    refine step_is_call 64 rfl rfl ?_
    go_simp
    go_at_call 64
    (with_reducible refine (specPart n _ (some ap) c0 u way far z1 _ (S4.out.below (by repeat' first | exact Below.refl _ _ | (refine Below.drew ?_))).net.p HG hu hway ⟨hf0,hf1⟩ ⟨by omega,by omega⟩).mono ?_)
    rintro e wx ⟨rfl,hbc⟩
    rw [HPt.out]
    have hbx:Below wz.heap.size wz wx:=Below.trans (by repeat' first | exact Below.refl _ _ | (refine Below.drew ?_)) hbc
    clear hHeld hbc
    have hHeld:Below wz.heap.size wz wx∧wx.cell? ⟨g,0,none⟩=some (.slice (some ap) n.pieces.length c0)∧wx.cell? ⟨g,1,none⟩=some (.slice A1 n.joints.length c1)∧wx.cell? ⟨w.heap.size,5,none⟩=some (.slice E5 r.parts.length x5)∧wx.cell? ⟨(ap.add (u*4)).block,(ap.add (u*4)).off+1,none⟩=some (.int .i64 z1):=⟨hbx,cell_below hbx s0,cell_below hbx s1,cell_below hbx s5,cell_below hbx r1⟩
    refine hK.out _ _ hHeld ?_
    clear hK K
    try simp only [Act.put,List.setIfInBounds_toArray,List.set_cons_zero,List.set_cons_succ]
    refine Rg.one 19 rfl (by kernel_rfl) (fun K hK=>?_)
    go_simp
    have hba:Below wz.heap.size wz (wx.alloc (.cells #[.int .i64 P.piece,.int .i64 P.frm,.int .i64 P.til] 48)):=hbx.alloc hbx.size _
    refine hK.out _ _ ⟨hba,cell_below hba s0,cell_below hba s1,cell_below hba s5,cell_below hba r1⟩ ?_
    clear hK K hHeld
    refine Rg.row [20,20+1,22] [_,_,_] rfl (by kernel_rfl) ?_
    go_wp2_with (at_builtin;refine wpList_append_rw _ rfl (.tmp 134) (.tmp 152) 41 rfl 48 iP _ 24 Try.underlying41 hiP hzP hyP hxP rfl (by decide) (.slice E5 r.parts.length x5) r.parts [P] rfl (L4.out.C.p.below hba) (fun _ h=>h.elim) (some ⟨wx.heap.size,0,none⟩) 1 1 rfl rfl (Kn.Src.one (partK_mk _ _ P) (new_cells _ _ _ rfl)) m63 mby ?_;intro v' w2 HR2 hg2 hat2;obtain ⟨A8,c8,rfl,hc8⟩:=HR2.form1;have BG:=Lib.hid (L4.out.gAt L4.out.C.p (by decide) hba hg2);have BH:=Lib.hid (L4.out.bAt L4.out.C.p (by decide) hba hg2);have u5:=BH.out.cell 5 rfl;have u7:=BH.out.frozen 5;have hhz2:w.heap.size < w2.heap.size:=BH.out.lt)
    go_meet
    case rel=>exact ⟨rfl,A8,c8,Lib.hid (L4.out.part (Nat.le_refl _) hba hg2 HR2 hat2)⟩
   obtain ⟨rfl,A8,c8,L6⟩:=hcut
   clear s0 s1 s5 hgz hhz L4 S4 m63 mby r1 j0 j1
   have HEP:Hid (stepP n.pieces.length ⟨u,way⟩):=Lib.hid ⟨⟨by show (0:Int)≤u;omega,by show (u:Int)≤_;omega⟩,hway⟩
   obtain ⟨e0,HE⟩:∃e0,Hid (headE u way=e0):=⟨_,Lib.hid rfl⟩
   have HEO:Hid (endP n.pieces.length e0):=Lib.hid (by rw [←HE.out];exact head_ok HEP.out)
   obtain ⟨j,kj,x,hat,hjk,hx,hP,hjl,hkl⟩:=at_get HG.out HEO.out
   have HA:=Lib.hid hjk
   have HX:=Lib.hid hx
   have HAT:=Lib.hid hat
   have HAH:Hid (atJ n (headE u way)=(j,kj)):=Lib.hid (by rw [HE.out];exact hjk)
   have HJP:=Lib.hid hP
   clear hjk hx hat hP
   have m0:(0:Int)≤(j:Int):=Int.natCast_nonneg _
   have m1:(j:Int) < (n.joints.length:Int):=by omega
   have S6:=Lib.hid (HF.out.later L6.out.K L6.out.F)
   have s0:=L6.out.F.cell 0 rfl
   have s1:=L6.out.F.cell 1 rfl
   have hgz:g < wc.heap.size:=L6.out.F.lt
   go_wp2
   go_region_held3 (fun w'=>Below wc.heap.size wc w'∧w'.cell? ⟨g,0,none⟩=some (.slice (some ap) n.pieces.length c0)∧w'.cell? ⟨g,1,none⟩=some (.slice A1 n.joints.length c1))
    (first | exact ⟨(Below.refl _ _).drew,s0,s1⟩ | exact ⟨hbS.trans (hbc.mono hbS.size),cell_below (hbS.trans (hbc.mono hbS.size)) s0,cell_below (hbS.trans (hbc.mono hbS.size)) s1⟩)
    (first | (go_at_call 51;obtain ⟨hbS,_⟩:=‹Below wc.heap.size wc _∧_›;(with_reducible refine (specHead _ _ _).mono ?_);rintro e wy ⟨rfl,hbc⟩;rw [HE.out]) | (go_at_call 50;obtain ⟨hbS,_⟩:=‹Below wc.heap.size wc _∧_›;(with_reducible refine (specAt n (some ap) A1 c0 c1 e0 _ (S6.out.below hbS).net HG HEO).mono ?_);rintro e wy ⟨rfl,hbc⟩;rw [HA.out]))
   obtain ⟨hbF,_⟩:=‹Below wc.heap.size wc wy∧_›
   have L7:=Lib.hid (L6.out.below hbF)
   have S7:=Lib.hid (S6.out.below hbF)
   clear s0 s1 hgz hbF L6 S6
   obtain ⟨aj,rfl,x1,E1,A3,c3,r0,r1,r2,l2,C2⟩:=jointK_at S7.out.net.j j hjl
   have hy:=HAT.out.1.symm.trans E1.out
   injection hy with hy
   subst hy
   have HC2:=Lib.hid C2
   have hme:=C2.1
   have t1:=L7.out.F.cell 1 rfl
   have hgz:g < wy.heap.size:=L7.out.F.lt
   clear C2
   go_upto_region 22 with (fail)
   obtain ⟨W5,hW5,hb5,HX5⟩:∃W,W=wy.alloc (.cells #[.int .i64 x.kind,.string x.name,.slice A3 x.ends.length c3] 97)∧Below wy.heap.size wy W∧Hid (Blk W wy.heap.size 97 [.int .i64 x.kind,.string x.name,.slice A3 x.ends.length c3]):=⟨_,rfl,below_alloc _ _,Lib.hid (Blk.new _ _ _ rfl)⟩
   rw [←hW5]
   clear hW5 t1 r0 r1 r2 hgz
   have L8:=Lib.hid (L7.out.below hb5)
   have S8:=Lib.hid (S7.out.below hb5)
   have HC5:=Lib.hid (Kn.C_below hb5 HC2.out)
   have hhy:w.heap.size≤wy.heap.size:=Nat.le_of_lt L7.out.B.lt
   clear L7 S7 HC2 hb5
   have q0:=HX5.out.cell 0 rfl
   have hzx:wy.heap.size < W5.heap.size:=HX5.out.lt
   by_cases hk1:x.kind=1
   ·have d1:(x.kind == 1)=true:=int_eqt hk1
    have HW:Hid (walkF n ss ov (m+1) st r (u:Int) way far=(st.1++[fin n ss { r.on n u way far (pl n u) with til:=-1 }],st.2+1)):=Lib.hid (walkF_end HNF.out HFN.out HIN.out HAH.out HX.out hk1)
    clear hk1
    have i1:=L8.out.B.cell 1 rfl
    have j1:=L8.out.B.frozen 1
    have hhz:w.heap.size < W5.heap.size:=L8.out.B.lt
    go_upto_region 24 with (fail)
    obtain ⟨W9,hW9,L9⟩:∃W,W=W5.setCell ⟨w.heap.size,1,none⟩ (.int .i64 (-1))∧Hid (WL w W g w.heap.size n ss (some ap) (some aj) A2 c0 c1 c2 ov ((st.2:Int)+1) (.slice Ao st.1.length co) vs { r with steps:=r.steps++[⟨u,way⟩],parts:=r.parts++[P] } (-1) (.slice A9 (r.steps.length+1) c9) (.slice E3 r.lies.length x3) (.slice E4 r.crosses.length x4) (.slice A8 (r.parts.length+1) c8) (.slice none 0 0)):=⟨_,rfl,Lib.hid (L8.out.til (Nat.le_refl _) (-1))⟩
    rw [←hW9]
    clear hW9 i1 j1 hhz
    have S9:=HF.out.later L9.out.K L9.out.F
    have y0:=L9.out.B.cell 0 rfl
    have y1:=L9.out.B.cell 1 rfl
    have y2:=L9.out.B.cell 2 rfl
    have y3:=L9.out.B.cell 3 rfl
    have y4:=L9.out.B.cell 4 rfl
    have y5:=L9.out.B.cell 5 rfl
    have y6:=L9.out.B.cell 6 rfl
    have y7:=L9.out.B.cell 7 rfl
    have hhz:w.heap.size < W9.heap.size:=L9.out.B.lt
    have hgz:g < W9.heap.size:=L9.out.F.lt
    have hrq:Hid ({ r.on n u way far (pl n u) with til:=-1 }={ r with til:=-1,steps:=r.steps++[⟨u,way⟩],parts:=r.parts++[P] }):=Lib.hid (by unfold Route.on;rw [HP.out,HPt.out])
    go_wp2_with fail
    obtain ⟨q,HQ⟩:∃q:Route,Hid (q={ r with til:=-1,steps:=r.steps++[⟨u,way⟩],parts:=r.parts++[P] }):=⟨_,Lib.hid rfl⟩
    have h2:stepK.C W9 (Out W9 (WSet g (.slice Ao st.1.length co))) A9 q.steps:=by rw [HQ.out];exact WL.reads HF.out L9.out.C.s L9.out.C.os
    have h3:lieK.C W9 (Out W9 (WSet g (.slice Ao st.1.length co))) E3 q.lies:=by rw [HQ.out];exact WL.reads HF.out L9.out.C.l L9.out.C.ol
    have h4:Kn.int.C W9 (Out W9 (WSet g (.slice Ao st.1.length co))) E4 q.crosses:=by rw [HQ.out];exact WL.reads HF.out L9.out.C.c L9.out.C.oc
    have h5:partK.C W9 (Out W9 (WSet g (.slice Ao st.1.length co))) A8 q.parts:=by rw [HQ.out];exact WL.reads HF.out L9.out.C.p L9.out.C.op
    have e0':q.over=[]:=by rw [HQ.out];exact hI.out.over
    have h6:partK.C W9 (Out W9 (WSet g (.slice Ao st.1.length co))) none q.over:=by rw [e0'];exact Kn.C_nil
    have e1:q.frm=r.frm:=by rw [HQ.out]
    have e2:q.til=-1:=by rw [HQ.out]
    have e3:q.steps.length=r.steps.length+1:=by rw [HQ.out];simp
    have e4:q.lies.length=r.lies.length:=by rw [HQ.out]
    have e5:q.crosses.length=r.crosses.length:=by rw [HQ.out]
    have e6:q.parts.length=r.parts.length+1:=by rw [HQ.out];simp
    have e7:q.over.length=0:=by rw [e0'];rfl
    have hcap:Hid (q.steps.length≤c9∧q.lies.length≤x3∧q.crosses.length≤x4∧q.parts.length≤c8∧q.over.length≤0):=Lib.hid (by
     have a1:=(Rw_slice L9.out.C.s).2.1
     have a2:=(Rw_slice L9.out.C.l).2.1
     have a3:=(Rw_slice L9.out.C.c).2.1
     have a4:=(Rw_slice L9.out.C.p).2.1
     rw [e7,HQ.out]
     exact ⟨a1,a2,a3,a4,Nat.le_refl _⟩)
    have hll:q.lies.length≤201:=by have:=hI.out.liesN;have:=HG.out.le;omega
    have hlp:Hid (∀l∈q.lies,lieP n l):=Lib.hid (by rw [HQ.out];exact hI.out.lies)
    have hD:=specDone q hr S9 h2 h3 h4 h5 h6 hcap hll hlp l0
    rw [e1,e2,e3,e4,e5,e6,e7] at hD
    refine hD.mono ?_
    intro e wd hRD
    have hRD:=hRD.after (L9.out.K.mono (S:=WSet g (.slice Ao st.1.length co)) (fun x _ e=>.inl e)) (Nx.refl _ _)
    rw [HQ.out,←hrq.out] at hRD
    obtain ⟨rfl,hRD⟩:=id hRD
    go_wp2
    go_end0
    rw [HW.out]
    exact hRD
   have d1:(x.kind == 1)=false:=int_eqf hk1
   have HK1:=Lib.hid hk1
   clear hk1
   obtain ⟨R1,HR1⟩:∃R1:Route,Hid (({ r with steps:=r.steps++[⟨u,way⟩],parts:=r.parts++[P] }:Route)=R1):=⟨_,Lib.hid rfl⟩
   have HON:Hid (r.on n u way far z1=R1):=Lib.hid (by rw [←HR1.out];unfold Route.on;rw [HPt.out])
   obtain ⟨L,HL⟩:∃L,Hid (across x kj=L):=⟨_,Lib.hid rfl⟩
   have hLL:L.length≤2:=by rw [←HL.out];exact across_len _ _
   have HLE:Hid (∀e∈L,endP n.pieces.length e):=Lib.hid (by rw [←HL.out];intro e he;exact across_ok HJP.out hkl he)
   obtain ⟨T,HT⟩:∃T:Nat→St,Hid (∀i,kidsTo (walkF n ss ov m) R1 x j kj L (st.1,st.2+1) i=T i):=⟨fun i=>kidsTo (walkF n ss ov m) R1 x j kj L (st.1,st.2+1) i,Lib.hid (fun _=>rfl)⟩
   have HT0:Hid (T 0=(st.1,st.2+1)):=Lib.hid (HT.out 0).symm
   have HTB:Hid (∀i,(T i).1.length≤301∧(T i).2≤20300+i):=Lib.hid (fun i=>by rw [←HT.out i];exact kids_bound (by show st.1.length≤301;omega) (by show st.2+1≤20300;omega) (by omega) i)
   have HTS:Hid (∀(i:Nat) (e:End),L[i]?=some e→goOn R1 x j kj i=none→T (i+1)=T i):=Lib.hid (fun i e he hq=>by rw [←HT.out,←HT.out];exact kidsTo_skip he hq)
   have HTG:Hid (∀(i:Nat) (e:End) (q:Route),L[i]?=some e→goOn R1 x j kj i=some q→T (i+1)=walkF n ss ov m (T i) q e.piece (wayOf e) 0):=Lib.hid (fun i e q he hq=>by rw [←HT.out,←HT.out];exact kidsTo_go he hq)
   have HW:Hid (walkF n ss ov (m+1) st r (u:Int) way far=T L.length):=Lib.hid (by rw [walkF_on HNF.out HFN.out HIN.out HAH.out HX.out HK1.out,HP.out,HON.out,HL.out];exact HT.out _)
   have HRK:Hid (∀(i:Nat) (q:Route),i < L.length→goOn R1 x j kj i=some q→RInv n ss q∧q.steps.length=r.steps.length+1):=Lib.hid (fun i q hi hq=>by
    obtain ⟨h1,h2⟩:=RInv.kid (far:=far) (b:=z1) hI.out HEP.out HIN.out HX.out hjl HJP.out hkl (by rw [HL.out];exact hi) (by rw [HON.out];exact hq)
    exact ⟨h1,by rw [h2];simp⟩)
   have L8:Hid (WL w W5 g w.heap.size n ss (some ap) (some aj) A2 c0 c1 c2 ov ((st.2:Int)+1) (.slice Ao st.1.length co) vs R1 r.til (.slice A9 (r.steps.length+1) c9) (.slice E3 r.lies.length x3) (.slice E4 r.crosses.length x4) (.slice A8 (r.parts.length+1) c8) (.slice none 0 0)):=Lib.hid (by have:=L8.out;rw [HR1.out] at this;exact this)
   have b1:=HX5.out.cell 1 rfl
   have b2:=HX5.out.cell 2 rfl
   go_wp2_with fail
   refine (specAcross x A3 c3 kj n.pieces.length W5 HC5.out HJP.out hkl).mono ?_
   rintro e w6 hRC
   obtain ⟨AL,cL,rfl,hcL,CL,hb6⟩:=hRC.to HL.out
   have L9:=Lib.hid (L8.out.below hb6)
   have S9:=Lib.hid (S8.out.below hb6)
   have HCL:=Lib.hid (Kn.C_bound CL)
   have HX6:Hid (Blk w6 wy.heap.size 97 [.int .i64 x.kind,.string x.name,.slice A3 x.ends.length c3]):=Lib.hid (HX5.out.below hb6 HX5.out.lt)
   have hW5:w.heap.size≤W5.heap.size:=by omega
   have HNW:Hid (∀b,w.heap.size≤b→¬WSet g (.slice Ao st.1.length co) b):=Lib.hid (fun b hb=>HF.out.new hb)
   clear L8 S8 HC5 HX5 CL hcL hb6 q0 b1 b2 hzx hRC HRD HNF HIN HFN HON HT H2 H3 H4 H5 hK1 hB1 hs1 hap HRV HK1 hfar d1
   go_wp2
   go_loopw [185] (fun iv wr=>∃(i:Nat) (vo vz:Value),i≤L.length∧iv=.int .i64 i∧Hid (WS wr g n ss (some ap) (some aj) A2 c0 c1 c2 ov ((T i).2:Int) vo vz (T i).1)∧Hid (Keep (WSet g (.slice Ao st.1.length co)) w6 wr)∧Hid (Nx (.slice Ao st.1.length co) vo w6.heap.size)) (fun iv _=>L.length - (intOf iv).toNat)
   case atStart=>exact ⟨0,(.slice Ao st.1.length co),vs,Nat.zero_le _,rfl,Lib.hid (by rw [HT0.out];exact S9.out),Lib.hid (Keep.refl _ _),Lib.hid (Nx.refl _ _)⟩
   case round =>
   obtain ⟨i,vo,vz,hi,rfl,HS,HKK,HNX⟩:=hrel
   have hgr:g < wr.heap.size:=HS.out.f.lt
   by_cases hlt:i < L.length
   rotate_left
   ·obtain rfl:i=L.length:=by omega
    have hs:RetD g n ss (some ap) (some aj) A2 c0 c1 c2 ov (.slice Ao st.1.length co) ((T L.length).1,((T L.length).2:Int)) w (.returned (.tuple #[])) wr:=⟨rfl,vo,vz,HS.out,(L9.out.K.mono (S:=WSet g (.slice Ao st.1.length co)) (fun x _ e=>.inl e)).trans HKK.out (fun x _ e=>e),HNX.out.mono L9.out.K.size⟩
    go_wp2
    go_end0
    rw [HW.out]
    exact hs
   have j0:(0:Int)≤(i:Int):=Int.natCast_nonneg _
   have j1:(i:Int) < (L.length:Int):=by omega
   obtain ⟨al,rfl,y0,y1,EE,g0,g1⟩:=endK_at (Kn.C_move (fun b hb=>HKK.out.block b hb.2 (HNW.out b (Nat.le_trans hW5 hb.1))) HCL.out) i hlt
   obtain ⟨u',hu',hy0,hs'⟩:∃u':Nat,u' < n.pieces.length∧y0=u'∧(y1=0∨y1=1):=by
    obtain ⟨⟨b1,b2⟩,b3,b4⟩:=HLE.out _ (mem_of_get EE.out)
    simp only at b1 b2 b3 b4
    exact ⟨y0.toNat,by omega,by omega,by omega⟩
   subst hy0
   have HBR:Hid (Blk wr w.heap.size 44 [.int .i64 R1.frm,.int .i64 r.til,.slice A9 (r.steps.length+1) c9,.slice E3 r.lies.length x3,.slice E4 r.crosses.length x4,.slice A8 (r.parts.length+1) c8,.slice none 0 0,.slice none 0 0]):=Lib.hid (Blk.eq (HKK.out.block _ L9.out.B.lt (HNW.out _ (Nat.le_refl _))) L9.out.B)
   have HXR:Hid (Blk wr wy.heap.size 97 [.int .i64 x.kind,.string x.name,.slice A3 x.ends.length c3]):=Lib.hid (Blk.eq (HKK.out.block _ HX6.out.lt (HNW.out _ hhy)) HX6.out)
   have HCC:=Lib.hid (L9.out.C.at_ HKK.out (fun b hb=>HNW.out b hb))
   have hhr:w.heap.size < wr.heap.size:=HBR.out.lt
   have hxr:wy.heap.size < wr.heap.size:=HXR.out.lt
   have hbe:Below wr.heap.size wr (wr.alloc (.cells #[.int .i64 u',.int .i64 y1] 102)):=below_alloc _ _
   have e2:R1.til=r.til:=by rw [←HR1.out]
   have e3:R1.steps.length=r.steps.length+1:=by rw [←HR1.out];simp
   have e4:R1.lies.length=r.lies.length:=by rw [←HR1.out]
   have e5:R1.crosses.length=r.crosses.length:=by rw [←HR1.out]
   have e6:R1.parts.length=r.parts.length+1:=by rw [←HR1.out];simp
   obtain ⟨hn0,hn2',hn3',hn4'⟩:r.steps.length≤200∧r.lies.length≤200∧r.crosses.length≤200∧r.parts.length≤200:=by
    have a1:=hI.out.bound
    have a2:=HG.out.le
    have a3:=hI.out.liesN
    have a4:=hI.out.crosses
    have a5:=hI.out.parts
    omega
   have hCP:=specCopy R1 A9 E3 E4 A8 c9 x3 x4 c8 none none 0 0 0 0 _ (Kn.C_below hbe HCC.out.1) (Kn.C_below hbe HCC.out.2.1) (Kn.C_below hbe HCC.out.2.2.1) (Kn.C_below hbe HCC.out.2.2.2) (by omega)
   rw [e2,e3,e4,e5,e6] at hCP
   have hn1:R1.lies.length≤500∧R1.crosses.length≤500:=by omega
   obtain ⟨hn3,hn4⟩:=hn1
   have a0:=HBR.out.cell 0 rfl
   have a1:=HBR.out.cell 1 rfl
   have a2:=HBR.out.cell 2 rfl
   have a3:=HBR.out.cell 3 rfl
   have a4:=HBR.out.cell 4 rfl
   have a5:=HBR.out.cell 5 rfl
   have a6:=HBR.out.cell 6 rfl
   have a7:=HBR.out.cell 7 rfl
   clear hbe e2 e3 e4 e5 e6 HCC
   go_wp2_with fail
   refine hCP.mono ?_
   rintro e wd ⟨G2,G3,G4,G5,p2,p3,p4,p5,rfl,hC,hbd⟩
   have hbe:Below wr.heap.size wr (wr.alloc (.cells #[.int .i64 u',.int .i64 y1] 102)):=below_alloc _ _
   have HED:Hid (Blk wd wr.heap.size 102 [.int .i64 u',.int .i64 y1]):=Lib.hid ((Blk.new wr 102 [.int .i64 u',.int .i64 y1] rfl).below hbd (by simp))
   have hbw:Below wr.heap.size wr wd:=hbe.trans (hbd.mono (by simp))
   clear hCP hbe hbd a0 a1 a2 a3 a4 a5 a6 a7 g0 g1
   go_upto_region 29 with (fail)
   obtain ⟨W7,hW7,LQ,HE7,HX7,hhq⟩:∃W,W=wd.alloc (.cells #[.int .i64 R1.frm,.int .i64 R1.til,.slice G2 R1.steps.length p2,.slice G3 R1.lies.length p3,.slice G4 R1.crosses.length p4,.slice G5 R1.parts.length p5,.slice none 0 0,.slice none 0 0] 44)∧Hid (WL wr W g wd.heap.size n ss (some ap) (some aj) A2 c0 c1 c2 ov ((T i).2:Int) vo vz R1 R1.til (.slice G2 R1.steps.length p2) (.slice G3 R1.lies.length p3) (.slice G4 R1.crosses.length p4) (.slice G5 R1.parts.length p5) (.slice none 0 0))∧Hid (Blk W wr.heap.size 102 [.int .i64 u',.int .i64 y1])∧Hid (Blk W wy.heap.size 97 [.int .i64 x.kind,.string x.name,.slice A3 x.ends.length c3])∧wr.heap.size≤wd.heap.size :=
    ⟨_,rfl,Lib.hid (WL.box HS.out hbw hC (by simp)),Lib.hid (HED.out.below (below_alloc _ _) HED.out.lt),Lib.hid ((HXR.out.below hbw HXR.out.lt).below (below_alloc _ _) (Nat.lt_of_lt_of_le hxr hbw.size)),hbw.size⟩
   rw [←hW7]
   have hed:wr.heap.size < wd.heap.size:=HED.out.lt
   clear hW7 hC HED hbw HBR HXR
   have z0:=HX7.out.cell 0 rfl
   have hxz7:wy.heap.size < W7.heap.size:=HX7.out.lt
   by_cases h3:x.kind=3
   ·have d3:(x.kind == 3)=true:=int_eqt h3
    by_cases hk0:kj=0
    ·have d5:((kj:Int) == 0)=true:=int_eqt (by omega)
     have HLV:Hid (lieAt kj i=((i:Int)+1)):=Lib.hid (by unfold lieAt;rw [if_pos hk0])
     have hZ:=specLies R1.lies G3 p3 wd.heap.size j ((i:Int)+1) (.int .i64 R1.frm) (.int .i64 R1.til) (.slice G2 R1.steps.length p2) (.slice G4 R1.crosses.length p4) (.slice G5 R1.parts.length p5) (.slice none 0 0) (.slice none 0 0) W7 LQ.out.B LQ.out.C.l (by omega)
     clear hk0
     cases hal:addLie R1.lies j ((i:Int)+1) with
     | none =>
      rw [hal] at hZ
      have HNO:Hid (T (i+1)=T i):=Lib.hid (HTS.out i _ EE.out (goOn_none h3 (by rw [HLV.out];exact hal)))
      clear hal h3
      go_wp2_with fail
      refine hZ.mono ?_
      rintro e w8 ⟨he,v8,HB8,HR8,HK8,HN8⟩
      have he:e=.returned (.bool false):=he
      subst he
      have LR:=LQ.out.lies hhq HB8 HR8 HK8 HN8
      have HSR:=Lib.hid (HS.out.later LR.K LR.F)
      have HKR:Hid (Keep (WSet g (.slice Ao st.1.length co)) w6 w8):=Lib.hid (HKK.out.trans LR.K (fun x _ e=>.inl e))
      clear hZ HB8 HR8 HK8 HN8 LR
      go_wp2
      go_roundw
      case rel=>exact ⟨i+1,vo,vz,by omega,by go_num,Lib.hid (by rw [HNO.out];exact HSR.out),HKR,HNX⟩
      case measure=>simp [intOf];omega
     | some ls =>
      rw [hal] at hZ
      obtain ⟨q,HQ⟩:∃q:Route,Hid (({ R1 with lies:=ls }:Route)=q):=⟨_,Lib.hid rfl⟩
      have HQG:Hid (goOn R1 x j kj i=some q):=Lib.hid (by rw [goOn_lie h3 (by rw [HLV.out];exact hal),HQ.out])
      have d6:(x.kind == 4)=false:=int_eqf (by omega)
      clear hal h3
      go_wp2_with fail
      refine hZ.mono ?_
      rintro e w8 ⟨he,v8,HB8,HR8,HK8,HN8⟩
      have he:e=.returned (.bool true):=he
      subst he
      obtain ⟨G9,p9,rfl,hp9,_⟩:=Kn.Rw.form (xs:=ls) HR8
      have LZ:Hid (WL wr w8 g wd.heap.size n ss (some ap) (some aj) A2 c0 c1 c2 ov ((T i).2:Int) vo vz q R1.til (.slice G2 R1.steps.length p2) (.slice G9 ls.length p9) (.slice G4 R1.crosses.length p4) (.slice G5 R1.parts.length p5) (.slice none 0 0)):=Lib.hid (by have:=LQ.out.lies hhq HB8 HR8 HK8 HN8;rw [show (Option.some ls).getD R1.lies=ls from rfl,HQ.out] at this;exact this)
      have hKW:∀b,b < W7.heap.size→b≠wd.heap.size→¬(Value.slice G3 R1.lies.length p3).ownBlock=some b→w8.heap[b]?=W7.heap[b]?:=fun b h1 h2 h3=>HK8.block b h1 (fun e=>e.elim h2 h3)
      have HXW:Hid (Blk w8 wy.heap.size 97 [.int .i64 x.kind,.string x.name,.slice A3 x.ends.length c3]):=Lib.hid (Blk.eq (hKW _ HX7.out.lt (by omega) (own_not LQ.out.C.l HX7.out (by decide))) HX7.out)
      have HEW:Hid (Blk w8 wr.heap.size 102 [.int .i64 u',.int .i64 y1]):=Lib.hid (Blk.eq (hKW _ HE7.out.lt (by omega) (own_not LQ.out.C.l HE7.out (by decide))) HE7.out)
      have x0:=HXW.out.cell 0 rfl
      have hxz:wy.heap.size < w8.heap.size:=HXW.out.lt
      clear hZ HB8 HR8 HK8 HN8 hKW z0 hxz7
      have SK:=Lib.hid (HS.out.later LZ.out.K LZ.out.F)
      obtain ⟨hRI,hRl⟩:=HRK.out i q hlt HQG.out
      have HRI:=Lib.hid hRI
      have f2:q.til=R1.til:=(goOn_same HQG.out).2.1
      have f3:q.steps.length=R1.steps.length:=(Rw_slice LZ.out.C.s).1.symm
      have f4:q.lies.length=ls.length:=(Rw_slice LZ.out.C.l).1.symm
      have f5:q.crosses.length=R1.crosses.length:=(Rw_slice LZ.out.C.c).1.symm
      have f6:q.parts.length=R1.parts.length:=(Rw_slice LZ.out.C.p).1.symm
      have y0:=LZ.out.B.cell 0 rfl
      have y1:=LZ.out.B.cell 1 rfl
      have y2:=LZ.out.B.cell 2 rfl
      have y3:=LZ.out.B.cell 3 rfl
      have y4:=LZ.out.B.cell 4 rfl
      have y5:=LZ.out.B.cell 5 rfl
      have y6:=LZ.out.B.cell 6 rfl
      have y7:=LZ.out.B.cell 7 rfl
      have e0:=HEW.out.cell 0 rfl
      have e1:=HEW.out.cell 1 rfl
      have hez:wr.heap.size < w8.heap.size:=HEW.out.lt
      have hqz:wd.heap.size < w8.heap.size:=LZ.out.B.lt
      clear hRI
      rcases hs' with rfl | rfl
      ·have hIH:=IH.out (T i) vo vz q u' 1 0 G2 G9 G4 G5 p2 p9 p4 p5 w8 SK (Lib.hid (WL.reads HS.out LZ.out.C.s LZ.out.C.os)) (Lib.hid (WL.reads HS.out LZ.out.C.l LZ.out.C.ol)) (Lib.hid (WL.reads HS.out LZ.out.C.c LZ.out.C.oc)) (Lib.hid (WL.reads HS.out LZ.out.C.p LZ.out.C.op)) HRI (Lib.hid (by have:=hm.out;omega)) (Lib.hid (by have:=HTB.out i;omega)) hu' (.inl rfl) (Lib.hid ⟨Int.le_refl _,by have:=(pl_in HG.out (p:=(u':Int)) (by omega) (by omega)).1;omega⟩)
       rw [f2,f3,f4,f5,f6] at hIH
       have HTN:Hid (T (i+1)=walkF n ss ov m (T i) q u' 1 0):=Lib.hid (by have:=HTG.out i _ q EE.out HQG.out;rw [way_zero rfl] at this;exact this)
       go_wp2_with fail
       refine hIH.mono ?_
       intro e w9 hRD
       obtain ⟨rfl,vo2,vz2,SZ,KZ,NZ⟩:=hRD
       obtain ⟨KF,NF⟩:=kid_mem HKK.out LZ.out.K KZ HNX.out NZ
       have HSZ:=Lib.hid SZ
       have HKF:=Lib.hid KF
       have HNF2:=Lib.hid NF
       clear SZ KZ NZ KF NF hIH
       go_wp2
       go_roundw
       case rel=>exact ⟨i+1,vo2,vz2,by omega,by go_num,Lib.hid (by rw [HTN.out];exact HSZ.out),HKF,HNF2⟩
       case measure=>simp [intOf];omega
      ·have hIH:=IH.out (T i) vo vz q u' (-1) 0 G2 G9 G4 G5 p2 p9 p4 p5 w8 SK (Lib.hid (WL.reads HS.out LZ.out.C.s LZ.out.C.os)) (Lib.hid (WL.reads HS.out LZ.out.C.l LZ.out.C.ol)) (Lib.hid (WL.reads HS.out LZ.out.C.c LZ.out.C.oc)) (Lib.hid (WL.reads HS.out LZ.out.C.p LZ.out.C.op)) HRI (Lib.hid (by have:=hm.out;omega)) (Lib.hid (by have:=HTB.out i;omega)) hu' (.inr rfl) (Lib.hid ⟨Int.le_refl _,by have:=(pl_in HG.out (p:=(u':Int)) (by omega) (by omega)).1;omega⟩)
       rw [f2,f3,f4,f5,f6] at hIH
       have HTN:Hid (T (i+1)=walkF n ss ov m (T i) q u' (-1) 0):=Lib.hid (by have:=HTG.out i _ q EE.out HQG.out;rw [way_one rfl] at this;exact this)
       go_wp2_with fail
       refine hIH.mono ?_
       intro e w9 hRD
       obtain ⟨rfl,vo2,vz2,SZ,KZ,NZ⟩:=hRD
       obtain ⟨KF,NF⟩:=kid_mem HKK.out LZ.out.K KZ HNX.out NZ
       have HSZ:=Lib.hid SZ
       have HKF:=Lib.hid KF
       have HNF2:=Lib.hid NF
       clear SZ KZ NZ KF NF hIH
       go_wp2
       go_roundw
       case rel=>exact ⟨i+1,vo2,vz2,by omega,by go_num,Lib.hid (by rw [HTN.out];exact HSZ.out),HKF,HNF2⟩
       case measure=>simp [intOf];omega
    ·have d5:((kj:Int) == 0)=false:=int_eqf (by omega)
     have HLV:Hid (lieAt kj i=(kj:Int)):=Lib.hid (by unfold lieAt;rw [if_neg hk0])
     have hZ:=specLies R1.lies G3 p3 wd.heap.size j (kj:Int) (.int .i64 R1.frm) (.int .i64 R1.til) (.slice G2 R1.steps.length p2) (.slice G4 R1.crosses.length p4) (.slice G5 R1.parts.length p5) (.slice none 0 0) (.slice none 0 0) W7 LQ.out.B LQ.out.C.l (by omega)
     clear hk0
     cases hal:addLie R1.lies j (kj:Int) with
     | none =>
      rw [hal] at hZ
      have HNO:Hid (T (i+1)=T i):=Lib.hid (HTS.out i _ EE.out (goOn_none h3 (by rw [HLV.out];exact hal)))
      clear hal h3
      go_wp2_with fail
      refine hZ.mono ?_
      rintro e w8 ⟨he,v8,HB8,HR8,HK8,HN8⟩
      have he:e=.returned (.bool false):=he
      subst he
      have LR:=LQ.out.lies hhq HB8 HR8 HK8 HN8
      have HSR:=Lib.hid (HS.out.later LR.K LR.F)
      have HKR:Hid (Keep (WSet g (.slice Ao st.1.length co)) w6 w8):=Lib.hid (HKK.out.trans LR.K (fun x _ e=>.inl e))
      clear hZ HB8 HR8 HK8 HN8 LR
      go_wp2
      go_roundw
      case rel=>exact ⟨i+1,vo,vz,by omega,by go_num,Lib.hid (by rw [HNO.out];exact HSR.out),HKR,HNX⟩
      case measure=>simp [intOf];omega
     | some ls =>
      rw [hal] at hZ
      obtain ⟨q,HQ⟩:∃q:Route,Hid (({ R1 with lies:=ls }:Route)=q):=⟨_,Lib.hid rfl⟩
      have HQG:Hid (goOn R1 x j kj i=some q):=Lib.hid (by rw [goOn_lie h3 (by rw [HLV.out];exact hal),HQ.out])
      have d6:(x.kind == 4)=false:=int_eqf (by omega)
      clear hal h3
      go_wp2_with fail
      refine hZ.mono ?_
      rintro e w8 ⟨he,v8,HB8,HR8,HK8,HN8⟩
      have he:e=.returned (.bool true):=he
      subst he
      obtain ⟨G9,p9,rfl,hp9,_⟩:=Kn.Rw.form (xs:=ls) HR8
      have LZ:Hid (WL wr w8 g wd.heap.size n ss (some ap) (some aj) A2 c0 c1 c2 ov ((T i).2:Int) vo vz q R1.til (.slice G2 R1.steps.length p2) (.slice G9 ls.length p9) (.slice G4 R1.crosses.length p4) (.slice G5 R1.parts.length p5) (.slice none 0 0)):=Lib.hid (by have:=LQ.out.lies hhq HB8 HR8 HK8 HN8;rw [show (Option.some ls).getD R1.lies=ls from rfl,HQ.out] at this;exact this)
      have hKW:∀b,b < W7.heap.size→b≠wd.heap.size→¬(Value.slice G3 R1.lies.length p3).ownBlock=some b→w8.heap[b]?=W7.heap[b]?:=fun b h1 h2 h3=>HK8.block b h1 (fun e=>e.elim h2 h3)
      have HXW:Hid (Blk w8 wy.heap.size 97 [.int .i64 x.kind,.string x.name,.slice A3 x.ends.length c3]):=Lib.hid (Blk.eq (hKW _ HX7.out.lt (by omega) (own_not LQ.out.C.l HX7.out (by decide))) HX7.out)
      have HEW:Hid (Blk w8 wr.heap.size 102 [.int .i64 u',.int .i64 y1]):=Lib.hid (Blk.eq (hKW _ HE7.out.lt (by omega) (own_not LQ.out.C.l HE7.out (by decide))) HE7.out)
      have x0:=HXW.out.cell 0 rfl
      have hxz:wy.heap.size < w8.heap.size:=HXW.out.lt
      clear hZ HB8 HR8 HK8 HN8 hKW z0 hxz7
      have SK:=Lib.hid (HS.out.later LZ.out.K LZ.out.F)
      obtain ⟨hRI,hRl⟩:=HRK.out i q hlt HQG.out
      have HRI:=Lib.hid hRI
      have f2:q.til=R1.til:=(goOn_same HQG.out).2.1
      have f3:q.steps.length=R1.steps.length:=(Rw_slice LZ.out.C.s).1.symm
      have f4:q.lies.length=ls.length:=(Rw_slice LZ.out.C.l).1.symm
      have f5:q.crosses.length=R1.crosses.length:=(Rw_slice LZ.out.C.c).1.symm
      have f6:q.parts.length=R1.parts.length:=(Rw_slice LZ.out.C.p).1.symm
      have y0:=LZ.out.B.cell 0 rfl
      have y1:=LZ.out.B.cell 1 rfl
      have y2:=LZ.out.B.cell 2 rfl
      have y3:=LZ.out.B.cell 3 rfl
      have y4:=LZ.out.B.cell 4 rfl
      have y5:=LZ.out.B.cell 5 rfl
      have y6:=LZ.out.B.cell 6 rfl
      have y7:=LZ.out.B.cell 7 rfl
      have e0:=HEW.out.cell 0 rfl
      have e1:=HEW.out.cell 1 rfl
      have hez:wr.heap.size < w8.heap.size:=HEW.out.lt
      have hqz:wd.heap.size < w8.heap.size:=LZ.out.B.lt
      clear hRI
      rcases hs' with rfl | rfl
      ·have hIH:=IH.out (T i) vo vz q u' 1 0 G2 G9 G4 G5 p2 p9 p4 p5 w8 SK (Lib.hid (WL.reads HS.out LZ.out.C.s LZ.out.C.os)) (Lib.hid (WL.reads HS.out LZ.out.C.l LZ.out.C.ol)) (Lib.hid (WL.reads HS.out LZ.out.C.c LZ.out.C.oc)) (Lib.hid (WL.reads HS.out LZ.out.C.p LZ.out.C.op)) HRI (Lib.hid (by have:=hm.out;omega)) (Lib.hid (by have:=HTB.out i;omega)) hu' (.inl rfl) (Lib.hid ⟨Int.le_refl _,by have:=(pl_in HG.out (p:=(u':Int)) (by omega) (by omega)).1;omega⟩)
       rw [f2,f3,f4,f5,f6] at hIH
       have HTN:Hid (T (i+1)=walkF n ss ov m (T i) q u' 1 0):=Lib.hid (by have:=HTG.out i _ q EE.out HQG.out;rw [way_zero rfl] at this;exact this)
       go_wp2_with fail
       refine hIH.mono ?_
       intro e w9 hRD
       obtain ⟨rfl,vo2,vz2,SZ,KZ,NZ⟩:=hRD
       obtain ⟨KF,NF⟩:=kid_mem HKK.out LZ.out.K KZ HNX.out NZ
       have HSZ:=Lib.hid SZ
       have HKF:=Lib.hid KF
       have HNF2:=Lib.hid NF
       clear SZ KZ NZ KF NF hIH
       go_wp2
       go_roundw
       case rel=>exact ⟨i+1,vo2,vz2,by omega,by go_num,Lib.hid (by rw [HTN.out];exact HSZ.out),HKF,HNF2⟩
       case measure=>simp [intOf];omega
      ·have hIH:=IH.out (T i) vo vz q u' (-1) 0 G2 G9 G4 G5 p2 p9 p4 p5 w8 SK (Lib.hid (WL.reads HS.out LZ.out.C.s LZ.out.C.os)) (Lib.hid (WL.reads HS.out LZ.out.C.l LZ.out.C.ol)) (Lib.hid (WL.reads HS.out LZ.out.C.c LZ.out.C.oc)) (Lib.hid (WL.reads HS.out LZ.out.C.p LZ.out.C.op)) HRI (Lib.hid (by have:=hm.out;omega)) (Lib.hid (by have:=HTB.out i;omega)) hu' (.inr rfl) (Lib.hid ⟨Int.le_refl _,by have:=(pl_in HG.out (p:=(u':Int)) (by omega) (by omega)).1;omega⟩)
       rw [f2,f3,f4,f5,f6] at hIH
       have HTN:Hid (T (i+1)=walkF n ss ov m (T i) q u' (-1) 0):=Lib.hid (by have:=HTG.out i _ q EE.out HQG.out;rw [way_one rfl] at this;exact this)
       go_wp2_with fail
       refine hIH.mono ?_
       intro e w9 hRD
       obtain ⟨rfl,vo2,vz2,SZ,KZ,NZ⟩:=hRD
       obtain ⟨KF,NF⟩:=kid_mem HKK.out LZ.out.K KZ HNX.out NZ
       have HSZ:=Lib.hid SZ
       have HKF:=Lib.hid KF
       have HNF2:=Lib.hid NF
       clear SZ KZ NZ KF NF hIH
       go_wp2
       go_roundw
       case rel=>exact ⟨i+1,vo2,vz2,by omega,by go_num,Lib.hid (by rw [HTN.out];exact HSZ.out),HKF,HNF2⟩
       case measure=>simp [intOf];omega
   have d3:(x.kind == 3)=false:=int_eqf h3
   by_cases h4:x.kind=4
   ·have d4:(x.kind == 4)=true:=int_eqt h4
    obtain ⟨q,HQ⟩:∃q:Route,Hid (({ R1 with crosses:=R1.crosses++[(j:Int)] }:Route)=q):=⟨_,Lib.hid rfl⟩
    have HQG:Hid (goOn R1 x j kj i=some q):=Lib.hid (by rw [goOn_cross h4,HQ.out])
    have hq4:=LQ.out.B.cell 4 rfl
    have hqz7:wd.heap.size < W7.heap.size:=LQ.out.B.lt
    have m63:R1.crosses.length+1≤maxLen:=by simp only [maxLen];omega
    have mby:(R1.crosses.length+1)*8≤140737488355328:=by omega
    clear h3 h4
    go_upto_region 36 with (at_builtin;refine wpList_append_rw _ rfl (.tmp 208) (.tmp 210) 40 rfl 3 iI _ 8 Try.underlying40 hiI hzI hyI hxI rfl (by decide) (.slice G4 R1.crosses.length p4) R1.crosses [(j:Int)] rfl (LQ.out.C.c.below (below_alloc _ _)) (fun _ h=>h.elim) (some ⟨W7.heap.size,0,none⟩) 1 1 rfl rfl (Kn.Src.one (show Kn.int.K _ _ (j:Int) [.int .i64 j] from rfl) (new_cells _ _ _ rfl)) m63 mby ?_;intro v' w7 HR2 hg2 hat2;obtain ⟨G9,p9,rfl,hp9⟩:=HR2.form1;have BQ:=Lib.hid (LQ.out.bAt LQ.out.C.c (by decide) (below_alloc _ _) hg2);have r7:=BQ.out.cell 4 rfl;have r8:=BQ.out.frozen 4;have hqz8:wd.heap.size < w7.heap.size:=BQ.out.lt)
    obtain ⟨W8,hW8,LZ,HXW,HEW⟩:∃W,W=w7.setCell ⟨wd.heap.size,4,none⟩ (.slice G9 (R1.crosses.length+1) p9)∧Hid (WL wr W g wd.heap.size n ss (some ap) (some aj) A2 c0 c1 c2 ov ((T i).2:Int) vo vz q R1.til (.slice G2 R1.steps.length p2) (.slice G3 R1.lies.length p3) (.slice G9 (R1.crosses.length+1) p9) (.slice G5 R1.parts.length p5) (.slice none 0 0))∧Hid (Blk W wy.heap.size 97 [.int .i64 x.kind,.string x.name,.slice A3 x.ends.length c3])∧Hid (Blk W wr.heap.size 102 [.int .i64 u',.int .i64 y1]):=by
     refine ⟨_,rfl,Lib.hid (by have:=LQ.out.cross hhq (below_alloc _ _) hg2 HR2 hat2;rw [HQ.out] at this;exact this),Lib.hid ?_,Lib.hid ?_⟩
     ·exact (Blk.eq (hg2.block _ (Nat.lt_of_lt_of_le HX7.out.lt (by simp)) (fun e=>own_not LQ.out.C.c HX7.out (by decide) e.symm)) (HX7.out.below (below_alloc _ _) HX7.out.lt)).far (p:=⟨wd.heap.size,4,none⟩) (by show wy.heap.size≠wd.heap.size;omega) _
     ·exact (Blk.eq (hg2.block _ (Nat.lt_of_lt_of_le HE7.out.lt (by simp)) (fun e=>own_not LQ.out.C.c HE7.out (by decide) e.symm)) (HE7.out.below (below_alloc _ _) HE7.out.lt)).far (p:=⟨wd.heap.size,4,none⟩) (by show wr.heap.size≠wd.heap.size;omega) _
    rw [←hW8]
    clear hW8 BQ r7 r8 hqz8 hq4 hqz7 HR2 hg2 hat2 m63 mby z0 hxz7
    have SK:=Lib.hid (HS.out.later LZ.out.K LZ.out.F)
    obtain ⟨hRI,hRl⟩:=HRK.out i q hlt HQG.out
    have HRI:=Lib.hid hRI
    have f2:q.til=R1.til:=(goOn_same HQG.out).2.1
    have f3:q.steps.length=R1.steps.length:=(Rw_slice LZ.out.C.s).1.symm
    have f4:q.lies.length=R1.lies.length:=(Rw_slice LZ.out.C.l).1.symm
    have f5:q.crosses.length=R1.crosses.length+1:=(Rw_slice LZ.out.C.c).1.symm
    have f6:q.parts.length=R1.parts.length:=(Rw_slice LZ.out.C.p).1.symm
    have y0:=LZ.out.B.cell 0 rfl
    have y1:=LZ.out.B.cell 1 rfl
    have y2:=LZ.out.B.cell 2 rfl
    have y3:=LZ.out.B.cell 3 rfl
    have y4:=LZ.out.B.cell 4 rfl
    have y5:=LZ.out.B.cell 5 rfl
    have y6:=LZ.out.B.cell 6 rfl
    have y7:=LZ.out.B.cell 7 rfl
    have e0:=HEW.out.cell 0 rfl
    have e1:=HEW.out.cell 1 rfl
    have hez:wr.heap.size < W8.heap.size:=HEW.out.lt
    have hqz:wd.heap.size < W8.heap.size:=LZ.out.B.lt
    clear hRI
    rcases hs' with rfl | rfl
    ·have hIH:=IH.out (T i) vo vz q u' 1 0 G2 G3 G9 G5 p2 p3 p9 p5 W8 SK (Lib.hid (WL.reads HS.out LZ.out.C.s LZ.out.C.os)) (Lib.hid (WL.reads HS.out LZ.out.C.l LZ.out.C.ol)) (Lib.hid (WL.reads HS.out LZ.out.C.c LZ.out.C.oc)) (Lib.hid (WL.reads HS.out LZ.out.C.p LZ.out.C.op)) HRI (Lib.hid (by have:=hm.out;omega)) (Lib.hid (by have:=HTB.out i;omega)) hu' (.inl rfl) (Lib.hid ⟨Int.le_refl _,by have:=(pl_in HG.out (p:=(u':Int)) (by omega) (by omega)).1;omega⟩)
     rw [f2,f3,f4,f5,f6] at hIH
     have HTN:Hid (T (i+1)=walkF n ss ov m (T i) q u' 1 0):=Lib.hid (by have:=HTG.out i _ q EE.out HQG.out;rw [way_zero rfl] at this;exact this)
     go_wp2_with fail
     refine hIH.mono ?_
     intro e w9 hRD
     obtain ⟨rfl,vo2,vz2,SZ,KZ,NZ⟩:=hRD
     obtain ⟨KF,NF⟩:=kid_mem HKK.out LZ.out.K KZ HNX.out NZ
     have HSZ:=Lib.hid SZ
     have HKF:=Lib.hid KF
     have HNF2:=Lib.hid NF
     clear SZ KZ NZ KF NF hIH
     go_wp2
     go_roundw
     case rel=>exact ⟨i+1,vo2,vz2,by omega,by go_num,Lib.hid (by rw [HTN.out];exact HSZ.out),HKF,HNF2⟩
     case measure=>simp [intOf];omega
    ·have hIH:=IH.out (T i) vo vz q u' (-1) 0 G2 G3 G9 G5 p2 p3 p9 p5 W8 SK (Lib.hid (WL.reads HS.out LZ.out.C.s LZ.out.C.os)) (Lib.hid (WL.reads HS.out LZ.out.C.l LZ.out.C.ol)) (Lib.hid (WL.reads HS.out LZ.out.C.c LZ.out.C.oc)) (Lib.hid (WL.reads HS.out LZ.out.C.p LZ.out.C.op)) HRI (Lib.hid (by have:=hm.out;omega)) (Lib.hid (by have:=HTB.out i;omega)) hu' (.inr rfl) (Lib.hid ⟨Int.le_refl _,by have:=(pl_in HG.out (p:=(u':Int)) (by omega) (by omega)).1;omega⟩)
     rw [f2,f3,f4,f5,f6] at hIH
     have HTN:Hid (T (i+1)=walkF n ss ov m (T i) q u' (-1) 0):=Lib.hid (by have:=HTG.out i _ q EE.out HQG.out;rw [way_one rfl] at this;exact this)
     go_wp2_with fail
     refine hIH.mono ?_
     intro e w9 hRD
     obtain ⟨rfl,vo2,vz2,SZ,KZ,NZ⟩:=hRD
     obtain ⟨KF,NF⟩:=kid_mem HKK.out LZ.out.K KZ HNX.out NZ
     have HSZ:=Lib.hid SZ
     have HKF:=Lib.hid KF
     have HNF2:=Lib.hid NF
     clear SZ KZ NZ KF NF hIH
     go_wp2
     go_roundw
     case rel=>exact ⟨i+1,vo2,vz2,by omega,by go_num,Lib.hid (by rw [HTN.out];exact HSZ.out),HKF,HNF2⟩
     case measure=>simp [intOf];omega
   ·have d4:(x.kind == 4)=false:=int_eqf h4
    obtain ⟨q,HQ⟩:∃q:Route,Hid (R1=q):=⟨_,Lib.hid rfl⟩
    have HQG:Hid (goOn R1 x j kj i=some q):=Lib.hid (by rw [goOn_plain h3 h4,HQ.out])
    have LZ:Hid (WL wr W7 g wd.heap.size n ss (some ap) (some aj) A2 c0 c1 c2 ov ((T i).2:Int) vo vz q R1.til (.slice G2 R1.steps.length p2) (.slice G3 R1.lies.length p3) (.slice G4 R1.crosses.length p4) (.slice G5 R1.parts.length p5) (.slice none 0 0)):=Lib.hid (by have:=LQ.out;rw [←HQ.out];exact this)
    have HEW:=HE7
    clear h3 h4
    have SK:=Lib.hid (HS.out.later LZ.out.K LZ.out.F)
    obtain ⟨hRI,hRl⟩:=HRK.out i q hlt HQG.out
    have HRI:=Lib.hid hRI
    have f2:q.til=R1.til:=(goOn_same HQG.out).2.1
    have f3:q.steps.length=R1.steps.length:=(Rw_slice LZ.out.C.s).1.symm
    have f4:q.lies.length=R1.lies.length:=(Rw_slice LZ.out.C.l).1.symm
    have f5:q.crosses.length=R1.crosses.length:=(Rw_slice LZ.out.C.c).1.symm
    have f6:q.parts.length=R1.parts.length:=(Rw_slice LZ.out.C.p).1.symm
    have y0:=LZ.out.B.cell 0 rfl
    have y1:=LZ.out.B.cell 1 rfl
    have y2:=LZ.out.B.cell 2 rfl
    have y3:=LZ.out.B.cell 3 rfl
    have y4:=LZ.out.B.cell 4 rfl
    have y5:=LZ.out.B.cell 5 rfl
    have y6:=LZ.out.B.cell 6 rfl
    have y7:=LZ.out.B.cell 7 rfl
    have e0:=HEW.out.cell 0 rfl
    have e1:=HEW.out.cell 1 rfl
    have hez:wr.heap.size < W7.heap.size:=HEW.out.lt
    have hqz:wd.heap.size < W7.heap.size:=LZ.out.B.lt
    clear hRI
    rcases hs' with rfl | rfl
    ·have hIH:=IH.out (T i) vo vz q u' 1 0 G2 G3 G4 G5 p2 p3 p4 p5 W7 SK (Lib.hid (WL.reads HS.out LZ.out.C.s LZ.out.C.os)) (Lib.hid (WL.reads HS.out LZ.out.C.l LZ.out.C.ol)) (Lib.hid (WL.reads HS.out LZ.out.C.c LZ.out.C.oc)) (Lib.hid (WL.reads HS.out LZ.out.C.p LZ.out.C.op)) HRI (Lib.hid (by have:=hm.out;omega)) (Lib.hid (by have:=HTB.out i;omega)) hu' (.inl rfl) (Lib.hid ⟨Int.le_refl _,by have:=(pl_in HG.out (p:=(u':Int)) (by omega) (by omega)).1;omega⟩)
     rw [f2,f3,f4,f5,f6] at hIH
     have HTN:Hid (T (i+1)=walkF n ss ov m (T i) q u' 1 0):=Lib.hid (by have:=HTG.out i _ q EE.out HQG.out;rw [way_zero rfl] at this;exact this)
     go_wp2_with fail
     refine hIH.mono ?_
     intro e w9 hRD
     obtain ⟨rfl,vo2,vz2,SZ,KZ,NZ⟩:=hRD
     obtain ⟨KF,NF⟩:=kid_mem HKK.out LZ.out.K KZ HNX.out NZ
     have HSZ:=Lib.hid SZ
     have HKF:=Lib.hid KF
     have HNF2:=Lib.hid NF
     clear SZ KZ NZ KF NF hIH
     go_wp2
     go_roundw
     case rel=>exact ⟨i+1,vo2,vz2,by omega,by go_num,Lib.hid (by rw [HTN.out];exact HSZ.out),HKF,HNF2⟩
     case measure=>simp [intOf];omega
    ·have hIH:=IH.out (T i) vo vz q u' (-1) 0 G2 G3 G4 G5 p2 p3 p4 p5 W7 SK (Lib.hid (WL.reads HS.out LZ.out.C.s LZ.out.C.os)) (Lib.hid (WL.reads HS.out LZ.out.C.l LZ.out.C.ol)) (Lib.hid (WL.reads HS.out LZ.out.C.c LZ.out.C.oc)) (Lib.hid (WL.reads HS.out LZ.out.C.p LZ.out.C.op)) HRI (Lib.hid (by have:=hm.out;omega)) (Lib.hid (by have:=HTB.out i;omega)) hu' (.inr rfl) (Lib.hid ⟨Int.le_refl _,by have:=(pl_in HG.out (p:=(u':Int)) (by omega) (by omega)).1;omega⟩)
     rw [f2,f3,f4,f5,f6] at hIH
     have HTN:Hid (T (i+1)=walkF n ss ov m (T i) q u' (-1) 0):=Lib.hid (by have:=HTG.out i _ q EE.out HQG.out;rw [way_one rfl] at this;exact this)
     go_wp2_with fail
     refine hIH.mono ?_
     intro e w9 hRD
     obtain ⟨rfl,vo2,vz2,SZ,KZ,NZ⟩:=hRD
     obtain ⟨KF,NF⟩:=kid_mem HKK.out LZ.out.K KZ HNX.out NZ
     have HSZ:=Lib.hid SZ
     have HKF:=Lib.hid KF
     have HNF2:=Lib.hid NF
     clear SZ KZ NZ KF NF hIH
     go_wp2
     go_roundw
     case rel=>exact ⟨i+1,vo2,vz2,by omega,by go_num,Lib.hid (by rw [HTN.out];exact HSZ.out),HKF,HNF2⟩
     case measure=>simp [intOf];omega
end Go.Proofs.Ytjccgneimknbpaa.L
namespace Go.Proofs.Ytjccgneimknbpaa.L
open Go.RowKit
open Classical
theorem sigOk_code (n:Net) (ss:List Signal):(signalsOk n ss).code=0↔signalsOk n ss=⟨0,0⟩:=by
 refine ⟨fun h=>?_,fun h=>by rw [h]⟩
 unfold signalsOk at h ⊢
 split at h
 ·simp at h
 split at h
 ·simp at h
 split at h
 ·simp at h
 split at h
 ·simp at h
 rename_i h1 h2 h3 h4
 rw [if_neg h1,if_neg h2,if_neg h3,if_neg h4]
def RetRR (rs:List Route) (w:World) (e:Ending) (w':World):Prop :=
 ∃A c,e=.returned (.slice A rs.length c)∧rs.length≤c∧Hid (rK.Rw 44 w' (Out w' (fun b=>(Value.slice A rs.length c).ownBlock=some b)) (.slice A rs.length c) rs)∧Hid (∀b,(Value.slice A rs.length c).ownBlock=some b→w.heap.size≤b)∧Below w.heap.size w w'
theorem RetRR.to {rs ss:List Route} {w w':World} {e:Ending} (h:RetRR rs w e w') (hx:rs=ss):RetRR ss w e w':=by subst hx;exact h
theorem RetRR.nil {w w':World} (hb:Below w.heap.size w w'):RetRR [] w (.returned (.slice none 0 0)) w':=⟨none,0,rfl,Nat.le_refl _,Lib.hid Kn.Rw.nil,Lib.hid (by simp [Value.ownBlock]),hb⟩
theorem routesF_bad {n:Net} {ss:List Signal} {ov:Int} (h:¬signalsOk n ss=⟨0,0⟩∨¬(0≤ov∧ov≤100000)):routesF n ss ov=[]:=by unfold routesF;rw [if_pos h]
theorem routesF_full {n:Net} {ss:List Signal} {ov:Int} (h:full (allF n ss ov ss.length)):routesF n ss ov=[]:=by
 unfold routesF
 by_cases hb:¬signalsOk n ss=⟨0,0⟩∨¬(0≤ov∧ov≤100000)
 ·rw [if_pos hb]
 ·rw [if_neg hb,if_pos h]
theorem routesF_all {n:Net} {ss:List Signal} {ov:Int} (h:signalsOk n ss=⟨0,0⟩) (h2:0≤ov∧ov≤100000) (hf:¬full (allF n ss ov ss.length)):routesF n ss ov=(allF n ss ov ss.length).1:=by
 unfold routesF
 rw [if_neg (fun e=>e.elim (fun e=>e h) (fun e=>e h2)),if_neg hf]
set_option maxHeartbeats 1000000 in
theorem l1all {ok ok':Nat→Prop} (n:Net) (ss:List Signal) (A0 A1 A2:Option Addr) (c0 c1 c2:Nat) (w:World) (h:NC 102 w ok n A0 A1) (hs:signalK.C w ok' A2 ss) (hn:NetIn n) (hi:SigIn ss) {b:Bool} (hb:Hid (eqv (signalsOk n ss) ⟨0,0⟩=b)) :
  Calls Try.prog 34 #[.agg #[.slice A0 n.pieces.length c0,.slice A1 n.joints.length c1],.slice A2 ss.length c2] w (RetB b w):=by
 cases b with
 | true =>
  have hk0:(((0:Int)) == 0)=true:=rfl
  have HN:Hid (signalsOk n ss=⟨0,0⟩):=Lib.hid (of_eqv hb.out)
  go_enter Try.func34,Try.ntmps34
  go_wp2_with fail
  refine (specSignalsOkC n ss A0 A1 A2 c0 c1 c2 _ (h.below (below_alloc _ _)) (Kn.C_below (below_alloc _ _) hs) hn hi).mono ?_
  rintro e w1 ⟨rfl,hb1⟩
  rw [HN.out]
  go_wp2
  go_ret
  exact ⟨rfl,(((below_alloc _ _).trans (hb1.mono (by simp))).alloc (by have:=hb1.size;simp at this;omega) _)⟩
 | false =>
  have hk0:((signalsOk n ss).code == 0)=false:=int_eqf (fun e=>by have h1:=hb.out;rw [eqv_true ((sigOk_code n ss).1 e)] at h1;cases h1)
  go_enter Try.func34,Try.ntmps34
  go_wp2_with fail
  refine (specSignalsOkC n ss A0 A1 A2 c0 c1 c2 _ (h.below (below_alloc _ _)) (Kn.C_below (below_alloc _ _) hs) hn hi).mono ?_
  rintro e w1 ⟨rfl,hb1⟩
  go_wp2
  go_ret
  exact ⟨rfl,(((below_alloc _ _).trans (hb1.mono (by simp))).alloc (by have:=hb1.size;simp at this;omega) _)⟩
set_option maxRecDepth 100000 in
set_option maxHeartbeats 4000000 in
theorem specRoutes {ok ok':Nat→Prop} (n:Net) (ss:List Signal) (ov:Int) (A0 A1 A2:Option Addr) (c0 c1 c2:Nat) (w:World) (h:NC 102 w ok n A0 A1) (hs:signalK.C w ok' A2 ss) (hn:NetIn n) (hi:SigIn ss) :
  Calls Try.prog 10 #[.agg #[.slice A0 n.pieces.length c0,.slice A1 n.joints.length c1],.slice A2 ss.length c2,.int .i64 ov] w (RetRR (routesF n ss ov) w):=by
 have hb0:Below w.heap.size w (w.alloc (.cells #[.slice A0 n.pieces.length c0,.slice A1 n.joints.length c1] 26)):=below_alloc _ _
 by_cases hk:signalsOk n ss=⟨0,0⟩
 rotate_left
 ·have HB:Hid (eqv (signalsOk n ss) ⟨0,0⟩=false):=Lib.hid (eqv_false hk)
  have HR:=Lib.hid (routesF_bad (ov:=ov) (.inl hk))
  clear hk
  go_enter Try.func10,Try.ntmps10
  go_wp2_with (go_at_call 34;refine (l1all n ss A0 A1 A2 c0 c1 c2 _ (h.below hb0) (Kn.C_below hb0 hs) hn hi HB).mono ?_;rintro e w1 ⟨rfl,hb1⟩)
  go_ret
  exact (RetRR.nil (hb0.trans (hb1.mono (by simp)))).to HR.out.symm
 have HB:Hid (eqv (signalsOk n ss) ⟨0,0⟩=true):=Lib.hid (eqv_true hk)
 by_cases ho:0≤ov∧ov≤100000
 rotate_left
 ·have HR:=Lib.hid (routesF_bad (n:=n) (ss:=ss) (.inr ho))
  have HO:Hid (decide ((0:Int)≤ov∧ov≤100000)=false):=Lib.hid (decide_eq_false ho)
  clear hk ho
  go_enter Try.func10,Try.ntmps10
  go_wp2_with (first | (go_at_call 34;refine (l1all n ss A0 A1 A2 c0 c1 c2 _ (h.below hb0) (Kn.C_below hb0 hs) hn hi HB).mono ?_;rintro e w1 ⟨rfl,hb1⟩) | (go_at_call 35;refine (l1in_q HO.out).mono ?_;rintro e w2 ⟨rfl,hw2⟩;have hw2:=hw2.symm;subst hw2))
  go_ret
  exact (RetRR.nil (hb0.trans (hb1.mono (by simp)))).to HR.out.symm
 have HR:=Lib.hid hk
 have HOV:=Lib.hid ho
 have HO:Hid (decide ((0:Int)≤ov∧ov≤100000)=true):=Lib.hid (decide_eq_true ho)
 have hr:Hid (Right n ss):=Lib.hid (right_of_ok hk)
 have HG:Hid (Good n):=Lib.hid hr.out.g
 have hsl:ss.length≤60:=by
  refine Classical.byContradiction fun hc=>?_
  unfold signalsOk at hk
  split at hk
  ·simp at hk
  rw [if_pos (by omega)] at hk
  simp at hk
 have hpl:n.pieces.length≤100:=HG.out.le
 have Hh:=Lib.hid (h:NC 102 w ok n A0 A1)
 have Hs:=Lib.hid hs
 clear hk ho
 go_enter Try.func10,Try.ntmps10
 go_upto_region 4 with (first | (go_at_call 34;refine (l1all n ss A0 A1 A2 c0 c1 c2 _ (h.below hb0) (Kn.C_below hb0 hs) hn hi HB).mono ?_;rintro e w1 ⟨rfl,hb1⟩;have HN1:Hid (Blk w1 w.heap.size 26 [.slice A0 n.pieces.length c0,.slice A1 n.joints.length c1]):=Lib.hid ((Blk.new w 26 [.slice A0 n.pieces.length c0,.slice A1 n.joints.length c1] rfl).below hb1 (by simp));have n0:=HN1.out.cell 0 rfl;have n1:=HN1.out.cell 1 rfl;have hnz:w.heap.size < w1.heap.size:=HN1.out.lt) | (go_at_call 35;refine (l1in_q HO.out).mono ?_;rintro e w2 ⟨rfl,hw2⟩;have hw2:=hw2.symm;subst hw2))
 obtain ⟨W1,hW1,hbW,HS1,HN2⟩:∃W,W=w1.alloc (.cells #[.slice A0 n.pieces.length c0,.slice A1 n.joints.length c1,.slice A2 ss.length c2,.int .i64 ov,.slice none 0 0,.int .i64 0,.slice none 0 0] 84)∧Below w.heap.size w W∧Hid (WS W w1.heap.size n ss A0 A1 A2 c0 c1 c2 ov 0 (.slice none 0 0) (.slice none 0 0) [])∧Hid (Blk W w.heap.size 26 [.slice A0 n.pieces.length c0,.slice A1 n.joints.length c1]):=by
  have hbw:Below w.heap.size w w1:=hb0.trans (hb1.mono (by simp))
  refine ⟨_,rfl,hbw.alloc hbw.size _,Lib.hid ⟨Blk.new _ _ _ rfl,Kn.Rw.nil,?_,?_⟩,Lib.hid (HN1.out.below (below_alloc _ _) HN1.out.lt)⟩
  ·refine ⟨Kn.C_mono (fun b hb=>?_) (Kn.C_below (hbw.alloc hbw.size _) (Kn.C_bound Hh.out.p)),Kn.C_mono (fun b hb=>?_) (Kn.C_below (hbw.alloc hbw.size _) (Kn.C_bound Hh.out.j))⟩
   ·exact ⟨by simp;omega,fun e=>by rcases e with e | e;(· omega);(· simp [Value.ownBlock] at e)⟩
   ·exact ⟨by simp;omega,fun e=>by rcases e with e | e;(· omega);(· simp [Value.ownBlock] at e)⟩
  ·refine Kn.C_mono (fun b hb=>?_) (Kn.C_below (hbw.alloc hbw.size _) (Kn.C_bound Hs.out))
   exact ⟨by simp;omega,fun e=>by rcases e with e | e;(· omega);(· simp [Value.ownBlock] at e)⟩
 rw [←hW1]
 have hgW:w.heap.size < w1.heap.size:=hnz
 obtain ⟨g,hg⟩:∃g,Hid (w1.heap.size=g):=⟨_,Lib.hid rfl⟩
 rw [hg.out] at HS1 hgW
 rw [hg.out]
 have hgW1:g < W1.heap.size:=HS1.out.f.lt
 clear hW1 n0 n1 hnz hb1 HN1 h hs
 go_wp2
 go_loopw [26] (fun iv wr=>∃(k:Nat) (vo vz:Value),k≤ss.length∧iv=.int .i64 k∧Hid (WS wr g n ss A0 A1 A2 c0 c1 c2 ov ((allF n ss ov k).2:Int) vo vz (allF n ss ov k).1)∧Hid (Keep (WSet g (.slice none 0 0)) W1 wr)∧Hid (Nx (.slice none 0 0) vo W1.heap.size)) (fun iv _=>ss.length - (intOf iv).toNat)
 case atStart=>exact ⟨0,.slice none 0 0,.slice none 0 0,Nat.zero_le _,rfl,Lib.hid HS1.out,Lib.hid (Keep.refl _ _),Lib.hid (Nx.refl _ _)⟩
 case round =>
 obtain ⟨k,vo,vz,hkk,rfl,HS,HK,HN⟩:=hrel
 have hgr:g < wr.heap.size:=HS.out.f.lt
 have HNR:Hid (Blk wr w.heap.size 26 [.slice A0 n.pieces.length c0,.slice A1 n.joints.length c1]):=Lib.hid (Blk.eq (HK.out.block _ HN2.out.lt (fun e=>by rcases e with e | e;(· omega);(· simp [Value.ownBlock] at e))) HN2.out)
 have hnr:w.heap.size < wr.heap.size:=HNR.out.lt
 by_cases hlt:k < ss.length
 ·obtain ⟨ag,rfl,z0,z1,z2,z3,EZ,k0,k1,k2,k3⟩:=signalK_at HS.out.sig k hlt
  have i0:(0:Int)≤(k:Int):=Int.natCast_nonneg _
  have i1:(k:Int) < (ss.length:Int):=by omega
  have HJ:=Lib.hid (sig_in hr.out EZ.out)
  obtain ⟨u,hu,hz1,hway⟩:∃u:Nat,u < n.pieces.length∧z1=u∧(z3=1∨z3=-1):=by
   obtain ⟨⟨⟨b1,b2⟩,b3⟩,b4,b5,b6⟩:=HJ.out
   simp only at b1 b2 b3
   exact ⟨z1.toNat,by omega,by omega,b3⟩
  subst hz1
  have hta:0≤z2∧z2≤10000000:=by have:=HJ.out;simp only at this;omega
  have HFAR:Hid (0≤farOf n u z2 z3∧farOf n u z2 z3 < pl n u):=Lib.hid (by have:=HJ.out;simp only at this;unfold farOf;split <;> omega)
  have HAB:=Lib.hid (allF_bounds (n:=n) (ss:=ss) (ov:=ov) k)
  have HAS:Hid (allF n ss ov (k+1)=walkF n ss ov (2*n.pieces.length+1) (allF n ss ov k) (startR k) u z3 (farOf n u z2 z3)):=Lib.hid (allF_succ EZ.out)
  have p0:=HNR.out.cell 0 rfl
  have p1:=HNR.out.cell 1 rfl
  go_upto_region 7 with (fail)
  obtain ⟨W2,hW2,HS2,HB2,HN3,hb2⟩:∃W,W=wr.alloc (.cells #[.string z0,.int .i64 u,.int .i64 z2,.int .i64 z3] 62)∧Hid (WS W g n ss A0 A1 (some ag) c0 c1 c2 ov ((allF n ss ov k).2:Int) vo vz (allF n ss ov k).1)∧Hid (Blk W wr.heap.size 62 [.string z0,.int .i64 u,.int .i64 z2,.int .i64 z3])∧Hid (Blk W w.heap.size 26 [.slice A0 n.pieces.length c0,.slice A1 n.joints.length c1])∧Below wr.heap.size wr W :=
   ⟨_,rfl,Lib.hid (HS.out.below (below_alloc _ _)),Lib.hid (Blk.new _ _ _ rfl),Lib.hid (HNR.out.below (below_alloc _ _) HNR.out.lt),below_alloc _ _⟩
  rw [←hW2]
  clear hW2 k0 k1 k2 k3 p0 p1
  have s0:=HN3.out.cell 0 rfl
  have s1:=HN3.out.cell 1 rfl
  have t1:=HB2.out.cell 1 rfl
  have t2:=HB2.out.cell 2 rfl
  have t3:=HB2.out.cell 3 rfl
  refine Rg.start 15 (fun w'=>Below W2.heap.size W2 w'∧w'.cell? ⟨w.heap.size,0,none⟩=some (.slice A0 n.pieces.length c0)∧w'.cell? ⟨w.heap.size,1,none⟩=some (.slice A1 n.joints.length c1)∧w'.cell? ⟨wr.heap.size,1,none⟩=some (.int .i64 u)∧w'.cell? ⟨wr.heap.size,2,none⟩=some (.int .i64 z2)∧w'.cell? ⟨wr.heap.size,3,none⟩=some (.int .i64 z3)) 16 rfl (by kernel_rfl) ?_
  have hHeld:Below W2.heap.size W2 W2.drew∧W2.drew.cell? ⟨w.heap.size,0,none⟩=some (.slice A0 n.pieces.length c0)∧W2.drew.cell? ⟨w.heap.size,1,none⟩=some (.slice A1 n.joints.length c1)∧W2.drew.cell? ⟨wr.heap.size,1,none⟩=some (.int .i64 u)∧W2.drew.cell? ⟨wr.heap.size,2,none⟩=some (.int .i64 z2)∧W2.drew.cell? ⟨wr.heap.size,3,none⟩=some (.int .i64 z3):=⟨(Below.refl _ _).drew,s0,s1,t1,t2,t3⟩
  refine Rg.pure 0 (v:=?v1) rfl (by kernel_rfl) (fun _ _ _ h=>h) (by rfl) hHeld ?y1 ?h1
  case y1=>(intro wA;go_simp;first | done | with_reducible rfl)
  simp only [Act.put,List.setIfInBounds_toArray,List.set_cons_zero,List.set_cons_succ]
  refine Rg.pure 1 (v:=?v2) rfl (by kernel_rfl) (fun _ _ _ h=>h) (by rfl) hHeld ?y2 ?h2
  case y2=>(intro wA;go_simp;first | done | with_reducible rfl)
  simp only [Act.put,List.setIfInBounds_toArray,List.set_cons_zero,List.set_cons_succ]
  refine Rg.pure 2 (v:=?v3) rfl (by kernel_rfl) (fun _ _ _ h=>h) (by rfl) hHeld ?y3 ?h3
  case y3=>(intro wA;go_simp;first | done | with_reducible rfl)
  simp only [Act.put,List.setIfInBounds_toArray,List.set_cons_zero,List.set_cons_succ]
  refine Rg.pure 3 (v:=?v4) rfl (by kernel_rfl) (fun _ _ _ h=>h) (by rfl) hHeld ?y4 ?h4
  case y4=>(intro wA;go_simp;first | done | with_reducible rfl)
  simp only [Act.put,List.setIfInBounds_toArray,List.set_cons_zero,List.set_cons_succ]
  refine Rg.held 4 (v:=?v5) rfl (by kernel_rfl) (fun _ _ _ h=>h) (by rfl) hHeld ?y5 ?h5
  case y5=>(intro wA hSw;(try dsimp only at hSw);go_simp;first | done | with_reducible rfl)
  simp only [Act.put,List.setIfInBounds_toArray,List.set_cons_zero,List.set_cons_succ]
  refine Rg.pure 5 (v:=?v6) rfl (by kernel_rfl) (fun _ _ _ h=>h) (by rfl) hHeld ?y6 ?h6
  case y6=>(intro wA;go_simp;first | done | with_reducible rfl)
  simp only [Act.put,List.setIfInBounds_toArray,List.set_cons_zero,List.set_cons_succ]
  refine Rg.held 6 (v:=?v7) rfl (by kernel_rfl) (fun _ _ _ h=>h) (by rfl) hHeld ?y7 ?h7
  case y7=>(intro wA hSw;(try dsimp only at hSw);go_simp;first | done | with_reducible rfl)
  simp only [Act.put,List.setIfInBounds_toArray,List.set_cons_zero,List.set_cons_succ]
  refine Rg.held 7 (v:=?v8) rfl (by kernel_rfl) (fun _ _ _ h=>h) (by rfl) hHeld ?y8 ?h8
  case y8=>(intro wA hSw;(try dsimp only at hSw);go_simp;first | done | with_reducible rfl)
  simp only [Act.put,List.setIfInBounds_toArray,List.set_cons_zero,List.set_cons_succ]
  refine Rg.pure 8 (v:=?v9) rfl (by kernel_rfl) (fun _ _ _ h=>h) (by rfl) hHeld ?y9 ?h9
  case y9=>(intro wA;go_simp;first | done | with_reducible rfl)
  simp only [Act.put,List.setIfInBounds_toArray,List.set_cons_zero,List.set_cons_succ]
  refine Rg.held 9 (v:=?v10) rfl (by kernel_rfl) (fun _ _ _ h=>h) (by rfl) hHeld ?y10 ?h10
  case y10=>(intro wA hSw;(try dsimp only at hSw);go_simp;first | done | with_reducible rfl)
  simp only [Act.put,List.setIfInBounds_toArray,List.set_cons_zero,List.set_cons_succ]
  refine Rg.pure 10 (v:=?v11) rfl (by kernel_rfl) (fun _ _ _ h=>h) (by rfl) hHeld ?y11 ?h11
  case y11=>(intro wA;go_simp;first | done | with_reducible rfl)
  simp only [Act.put,List.setIfInBounds_toArray,List.set_cons_zero,List.set_cons_succ]
  refine Rg.held 11 (v:=?v12) rfl (by kernel_rfl) (fun _ _ _ h=>h) (by rfl) hHeld ?y12 ?h12
  case y12=>(intro wA hSw;(try dsimp only at hSw);go_simp;first | done | with_reducible rfl)
  simp only [Act.put,List.setIfInBounds_toArray,List.set_cons_zero,List.set_cons_succ]
  refine Rg.pure 12 (v:=?v13) rfl (by kernel_rfl) (fun _ _ _ h=>h) (by rfl) hHeld ?y13 ?h13
  case y13=>(intro wA;go_simp;first | done | with_reducible rfl)
  simp only [Act.put,List.setIfInBounds_toArray,List.set_cons_zero,List.set_cons_succ]
  refine Rg.held 13 (v:=?v14) rfl (by kernel_rfl) (fun _ _ _ h=>h) (by rfl) hHeld ?y14 ?h14
  case y14=>(intro wA hSw;(try dsimp only at hSw);go_simp;first | done | with_reducible rfl)
  simp only [Act.put,List.setIfInBounds_toArray,List.set_cons_zero,List.set_cons_succ]
  refine Rg.one 14 rfl (by kernel_rfl) (fun K hK=>?_)
  refine step_is_call 37 rfl rfl ?_
  go_simp
  go_at_call 37
  (with_reducible refine (specFar n _ A0 c0 u z2 z3 _ (HS2.out.below (by repeat' first | exact Below.refl _ _ | (refine Below.drew ?_))).net.p HG hu hta).mono ?_)
  rintro e wx ⟨rfl,hbc⟩
  have hbx:Below W2.heap.size W2 wx:=Below.trans (by repeat' first | exact Below.refl _ _ | (refine Below.drew ?_)) hbc
  refine hK.out _ _ ⟨hbx,cell_below hbx s0,cell_below hbx s1,cell_below hbx t1,cell_below hbx t2,cell_below hbx t3⟩ ?_
  clear hK K hHeld
  try simp only [Act.put,List.setIfInBounds_toArray,List.set_cons_zero,List.set_cons_succ]
  refine Rg.row [15] [_] rfl (by kernel_rfl) ?_
  have HSX:=Lib.hid (HS2.out.below hbx)
  have hW:=specWalk (g:=g) (A0:=A0) (A1:=A1) (A2:=some ag) (c0:=c0) (c1:=c1) (c2:=c2) hr HOV (2*n.pieces.length+1) (allF n ss ov k) vo vz (startR k) u z3 (farOf n u z2 z3) none none none none 0 0 0 0 wx HSX (Lib.hid (show stepK.C _ _ none [] from Kn.C_nil)) (Lib.hid (show lieK.C _ _ none [] from Kn.C_nil)) (Lib.hid (show Kn.int.C _ _ none [] from Kn.C_nil)) (Lib.hid (show partK.C _ _ none [] from Kn.C_nil)) (Lib.hid (RInv.start n ss k)) (Lib.hid (by simp [startR])) (Lib.hid (by have:=HAB.out;omega)) hu hway HFAR
  rw [←HAS.out] at hW
  simp only [startR,List.length_nil] at hW
  clear s0 s1 t1 t2 t3
  go_wp2_with fail
  refine hW.mono ?_
  rintro e wz ⟨rfl,vo2,vz2,SZ,KZ,NZ⟩
  have HSZ:=Lib.hid SZ
  have HKZ:Hid (Keep (WSet g (.slice none 0 0)) W1 wz):=Lib.hid ((HK.out.trans (Keep.of_below (S:=fun _=>False) (hb2.trans (hbx.mono hb2.size))) (fun _ _ e=>e.elim)).trans KZ (WSet.next HN.out))
  have HNZ:Hid (Nx (.slice none 0 0) vo2 W1.heap.size):=Lib.hid (HN.out.trans NZ (Nat.le_trans HK.out.size (Nat.le_trans hb2.size hbx.size)))
  clear SZ KZ NZ hW
  go_wp2
  go_roundw
  case rel=>exact ⟨k+1,vo2,vz2,by omega,by go_num,HSZ,HKZ,HNZ⟩
  case measure=>simp [intOf];omega
 obtain rfl:k=ss.length:=by omega
 obtain ⟨st,hst⟩:∃st,Hid (allF n ss ov ss.length=st):=⟨_,Lib.hid rfl⟩
 rw [hst.out] at HS
 have hbZ:Below w.heap.size w wr:=hbW.trans (HK.out.to_below (B:=w.heap.size) (Nat.le_trans hbW.size (Nat.le_refl _)) (fun b hb e=>by rcases e with e | e;(· omega);(· simp [Value.ownBlock] at e)))
 obtain ⟨Ao,co,rfl,hco,_⟩:=HS.out.out.form
 have q4:=HS.out.f.cell 4 rfl
 have q5:=HS.out.f.cell 5 rfl
 have HAB:=allF_bounds (n:=n) (ss:=ss) (ov:=ov) ss.length
 rw [hst.out] at HAB
 obtain ⟨u0,u1⟩:=HAB
 have HOUT:Hid (∀b,(Value.slice Ao st.1.length co).ownBlock=some b→w.heap.size≤b):=Lib.hid (fun b hb=>by
  rcases HN.out b hb with e | e
  ·simp [Value.ownBlock] at e
  ·exact Nat.le_trans hbW.size e)
 by_cases hfu:full st
 ·have HRF:Hid (routesF n ss ov=[]):=Lib.hid (routesF_full (by rw [hst.out];exact hfu))
  have hfu:300 < st.1.length∨20000 < st.2:=hfu
  by_cases l0:300 < st.1.length
  ·have d0:decide ((300:Int) < (st.1.length:Int))=true:=decide_eq_true (by omega)
   go_wp2
   go_ret
   exact (RetRR.nil hbZ).to HRF.out.symm
  ·have d0:decide ((300:Int) < (st.1.length:Int))=false:=decide_eq_false (by omega)
   have d1:decide ((20000:Int) < (st.2:Int))=true:=decide_eq_true (by omega)
   go_wp2
   go_ret
   exact (RetRR.nil hbZ).to HRF.out.symm
 ·have HRF:Hid (routesF n ss ov=st.1):=Lib.hid (by rw [routesF_all HR.out HOV.out (by rw [hst.out];exact hfu),hst.out])
  have l0:¬300 < st.1.length:=fun e=>hfu (.inl e)
  have l1:¬20000 < st.2:=fun e=>hfu (.inr e)
  have d0:decide ((300:Int) < (st.1.length:Int))=false:=decide_eq_false (by omega)
  have d1:decide ((20000:Int) < (st.2:Int))=false:=decide_eq_false (by omega)
  have hfin:RetRR st.1 w (.returned (.slice Ao st.1.length co)) wr:=⟨Ao,co,rfl,hco,Lib.hid (HS.out.out.mono (fun b hb=>⟨hb.1,fun e=>hb.2 (.inr e)⟩)),HOUT,hbZ⟩
  clear hfu
  go_wp2
  go_ret
  exact hfin.to HRF.out.symm
end Go.Proofs.Ytjccgneimknbpaa.L
namespace Go.Proofs.Ytjccgneimknbpaa.L
open Go.RowKit
section
variable {α:Type} {d:Kn α} {P:Program} (w:World)
theorem R_nil {d:Kn α} {e:Nat} {w:World}:d.R e w (.slice none 0 0) []:=⟨[],World.ownsRow_nil w 0 e d.sz,fun j p h=>by simp at h,by simp [Kn.foot,Value.ownBlock]⟩
theorem run_append_R (t ty e:TypeId) (i:TypeInfo) (z:Value) (bytes:Nat) (ht:P.underlying t=some (.slice e)) (hi:P.info? e=some i) (hz:i.zero=some z)
  (hsize:i.size=d.sz) (hby:i.bytes=bytes) (hzs:z.cells.size=d.sz) (hsz:0 < d.sz)
  (v:Value) (ps:List (α × List Nat)) (hown:d.R e w v ps) (ad:Addr) (x:α) (cs:List Value) (F:List Nat) (hO:d.O w x cs F) (hcells:∀(i:Nat) (u:Value),cs[i]?=some u→w.cell? (ad.add i)=some u) (hdis:∀b,b∈F→¬b∈Kn.foot v ps)
  (h63:ps.length+1≤maxLen) (hbytes:(ps.length+1)*bytes≤140737488355328) (c:Nat) :
  ∃v' w',(Builtin.append_ #[t,t] ty #[v,.slice (some ad) 1 c]).run P w=.ok v' w'∧d.R e w' v' (ps++[(x,F)])∧w.grownBy w' v.ownBlock∧(v'.ownBlock=v.ownBlock∨v'.ownBlock=some w.heap.size):=by
 have hlt:=Kn.R_lt hown
 obtain ⟨inner,ho,hit,hnd⟩:=hown
 have hK:=d.K_of hO
 have hcl:=d.K_len hK
 obtain ⟨v',w',hrun,h2,h3,_,h5⟩:=run_append_own_at (P:=P) w 0 t ty e i z d.sz bytes ht hi hz hsize hby hzs hsz v ps.length inner ho ad 1 c cs (by rw [hcl,Nat.one_mul]) hcells (d.K_one hK) h63 hbytes (Nat.zero_le _)
 have hnd':=hnd
 unfold Kn.foot at hnd'
 rw [List.nodup_append] at hnd'
 have hno:∀b,b∈(ps.map Prod.snd).flatten→¬some b=v.ownBlock:=fun b hb e=>hnd'.2.2 b (by rw [←e];simp) b hb rfl
 refine ⟨v',w',hrun,⟨inner++cs,by rw [List.length_append];exact h2,fun j p hj=>?_,?_⟩,h3,h5⟩
 ·by_cases hjl:j < ps.length
  ·rw [List.getElem?_append_left hjl] at hj
   have hle:j*d.sz+d.sz≤ps.length*d.sz:=by rw [←Nat.succ_mul];exact Nat.mul_le_mul_right _ hjl
   have hil:=ho.1
   rw [List.drop_append_of_le_length (by omega),List.take_append_of_le_length (by rw [List.length_drop];omega)]
   refine d.O_move (fun b hb=>h3.block b (hlt b (Kn.mem_foot_item hj hb)) (hno b ?_)) (hit j p hj)
   exact List.mem_flatten.2 ⟨p.2,List.mem_map.2 ⟨p,List.mem_of_getElem? hj,rfl⟩,hb⟩
  ·have hjl':=(List.getElem?_eq_some_iff.1 hj).1
   rw [List.length_append,List.length_singleton] at hjl'
   obtain rfl:j=ps.length:=by omega
   rw [List.getElem?_append_right (Nat.le_refl _),Nat.sub_self] at hj
   obtain rfl:=Option.some.inj hj
   have hil:=ho.1
   rw [←hil,List.drop_left,List.take_of_length_le (by omega)]
   refine d.O_move (fun b hb=>h3.block b (d.O_lt hO b hb) (fun e=>hdis b hb ?_)) hO
   exact Kn.mem_foot_own e.symm
 ·unfold Kn.foot
  rw [List.map_append,List.flatten_append,List.nodup_append]
  refine ⟨by cases v'.ownBlock <;> simp,?_,fun a ha b hb e=>?_⟩
  ·rw [List.nodup_append]
   refine ⟨hnd'.2.1,by simpa using d.O_nodup hO,fun a ha b hb e=>?_⟩
   subst e
   exact hdis a (by simpa using hb) (List.mem_append_right _ ha)
  ·subst e
   rw [Option.mem_toList] at ha
   rcases List.mem_append.1 hb with hb | hb
   ·rcases h5 with h5 | h5
    ·exact hno a hb (by rw [←h5];exact ha.symm)
    ·rw [h5] at ha
     injection ha with ha
     have:=hlt a (List.mem_append_right _ hb)
     omega
   ·have hb':a∈F:=by simpa using hb
    rcases h5 with h5 | h5
    ·exact hdis a hb' (Kn.mem_foot_own (by rw [←h5];exact ha))
    ·rw [h5] at ha
     injection ha with ha
     have:=d.O_lt hO a hb'
     omega
theorem wp_append_R {o:Oper} {a:Act} {K:Act→World→Prop} {Q:Exit→Act→World→Prop} (s x:Operand) (t:TypeId)
  (ho:o.op=.call { callee:=.builtin .append,args:=#[s,x],argTypes:=#[t,t] })
  (e:TypeId) (i:TypeInfo) (z:Value) (bytes:Nat) (ht:P.underlying t=some (.slice e)) (hi:P.info? e=some i) (hz:i.zero=some z)
  (hsize:i.size=d.sz) (hby:i.bytes=bytes) (hzs:z.cells.size=d.sz) (hsz:0 < d.sz)
  (v:Value) (ps:List (α × List Nat)) (hs:a.eval s=v) (hown:d.R e w v ps) (ad:Addr) (y:α) (cs:List Value) (F:List Nat) (c:Nat) (hx:a.eval x=.slice (some ad) 1 c) (hO:d.O w y cs F) (hcells:∀(i:Nat) (u:Value),cs[i]?=some u→w.cell? (ad.add i)=some u) (hdis:∀b,b∈F→¬b∈Kn.foot v ps)
  (h63:ps.length+1≤maxLen) (hbytes:(ps.length+1)*bytes≤140737488355328)
  (h:∀v' w',d.R e w' v' (ps++[(y,F)])→w.grownBy w' v.ownBlock→(v'.ownBlock=v.ownBlock∨v'.ownBlock=some w.heap.size)→K (a.put o.dst v') w'):o.wp P a w K Q:=by
 obtain ⟨v',w',hrun,h2,h3,h4⟩:=run_append_R (P:=P) w t o.type e i z bytes ht hi hz hsize hby hzs hsz v ps hown ad y cs F hO hcells hdis h63 hbytes c
 unfold Oper.wp execOp
 simp only [ho,resolve,invoke,builtin,Sem.run_bind,Sem.run_pure,Result.andThen_ok,List.map_toArray,List.map_cons,List.map_nil,hs,hx,hrun]
 exact h v' w' h2 h3 h4
theorem wpList_append_R {ops:Array Oper} {rest:List Oper} {o:Oper} {a:Act} {Q:Exit→Act→World→Prop} (hgd:o.guard=none) (s x:Operand) (t:TypeId)
  (ho:o.op=.call { callee:=.builtin .append,args:=#[s,x],argTypes:=#[t,t] })
  (e:TypeId) (i:TypeInfo) (z:Value) (bytes:Nat) (ht:P.underlying t=some (.slice e)) (hi:P.info? e=some i) (hz:i.zero=some z)
  (hsize:i.size=d.sz) (hby:i.bytes=bytes) (hzs:z.cells.size=d.sz) (hsz:0 < d.sz)
  (v:Value) (ps:List (α × List Nat)) (hs:a.eval s=v) (hown:d.R e w v ps) (ad:Addr) (y:α) (cs:List Value) (F:List Nat) (c:Nat) (hx:a.eval x=.slice (some ad) 1 c) (hO:d.O w y cs F) (hcells:∀(i:Nat) (u:Value),cs[i]?=some u→w.cell? (ad.add i)=some u) (hdis:∀b,b∈F→¬b∈Kn.foot v ps)
  (h63:ps.length+1≤maxLen) (hbytes:(ps.length+1)*bytes≤140737488355328)
  (h:∀v' w',d.R e w' v' (ps++[(y,F)])→w.grownBy w' v.ownBlock→(v'.ownBlock=v.ownBlock∨v'.ownBlock=some w.heap.size)→wpList P ops Q rest (a.put o.dst v') w'):wpList P ops Q (o::rest) a w :=
 wpList_plain hgd fun _ hK=>wp_append_R w s x t ho e i z bytes ht hi hz hsize hby hzs hsz v ps hs hown ad y cs F c hx hO hcells hdis h63 hbytes fun v' w' h2 h3 h4=>hK _ _ (h v' w' h2 h3 h4)
end
theorem foot_next {α:Type} {v v':Value} {ps:List (α × List Nat)} {x:α} {F:List Nat} {B s:Nat} (h:∀b,b∈Kn.foot v ps→B≤b) (hF:∀b,b∈F→B≤b) (ha:v'.ownBlock=v.ownBlock∨v'.ownBlock=some s) (hs:B≤s):∀b,b∈Kn.foot v' (ps++[(x,F)])→B≤b:=by
 intro b hb
 unfold Kn.foot at hb
 rw [List.map_append,List.flatten_append] at hb
 rcases List.mem_append.1 hb with hb | hb
 ·rw [Option.mem_toList] at hb
  rcases ha with ha | ha
  ·exact h b (Kn.mem_foot_own (by rw [←ha];exact hb))
  ·rw [ha] at hb
   injection hb with hb
   omega
 ·rcases List.mem_append.1 hb with hb | hb
  ·exact h b (List.mem_append_right _ hb)
  ·exact hF b (by simpa using hb)
end Go.Proofs.Ytjccgneimknbpaa.L
namespace Go.Proofs.Ytjccgneimknbpaa.L
open Go.RowKit
noncomputable def tabF (rs:List Route):List (List Int):=if 300 < rs.length then [] else rs.map (fun a=>rs.map (excl a))
theorem tabF_len (rs:List Route):(tabF rs).length≤300∧∀r∈tabF rs,r.length≤300:=by
 unfold tabF
 split
 ·exact ⟨by simp,by simp⟩
 ·refine ⟨by rw [List.length_map];omega,fun r hr=>?_⟩
  obtain ⟨a,_,rfl⟩:=List.mem_map.1 hr
  rw [List.length_map]
  omega
theorem info40:(Try.prog.info? 40).map (fun i=>(i.zero,i.size,i.bytes))=some (some (.slice none 0 0),1,24):=by kernel_rfl
theorem intK_flat:∀(w:World) (ok:Nat→Prop) (x:Int) (cs:List Value),Kn.int.K w ok x cs→Kn.int.O w x cs []:=fun _ _ _ _ h=>⟨h,rfl⟩
abbrev rowK:Kn (List Int):=Kn.slice 3 Kn.int
theorem rC_at {eS eL eI eP eF:Nat} {w:World} {ok:Nat→Prop} {A:Option Addr} {xs:List Route} (h:(routeK eS eL eI eP eF).C w ok A xs) (k:Nat) (hk:k < xs.length) :
  ∃ad,A=some ad∧∃x,Hid (xs[k]?=some x)∧∃A2 A3 A4 A5 A6 A7 c2 c3 c4 c5 c6 c7,w.cell? (ad.add (k*8))=some (.int .i64 x.frm)∧w.cell? ⟨(ad.add (k*8)).block,(ad.add (k*8)).off+1,none⟩=some (.int .i64 x.til)∧w.cell? ⟨(ad.add (k*8)).block,(ad.add (k*8)).off+2,none⟩=some (.slice A2 x.steps.length c2)∧w.cell? ⟨(ad.add (k*8)).block,(ad.add (k*8)).off+3,none⟩=some (.slice A3 x.lies.length c3)∧w.cell? ⟨(ad.add (k*8)).block,(ad.add (k*8)).off+4,none⟩=some (.slice A4 x.crosses.length c4)∧w.cell? ⟨(ad.add (k*8)).block,(ad.add (k*8)).off+5,none⟩=some (.slice A5 x.parts.length c5)∧w.cell? ⟨(ad.add (k*8)).block,(ad.add (k*8)).off+6,none⟩=some (.slice A6 x.over.length c6)∧w.cell? ⟨(ad.add (k*8)).block,(ad.add (k*8)).off+7,none⟩=some (.slice A7 x.flanks.length c7)∧Hid (RC w ok x A2 A3 A4 A5 A6 A7):=by
 obtain ⟨ad,e,x,E,A2,c2,A3,c3,A4,c4,A5,c5,A6,c6,A7,c7,g0,g1,g2,g3,g4,g5,g6,g7,l2,q2,l3,q3,l4,q4,l5,q5,l6,q6,l7,q7⟩:=routeK_at h k hk
 exact ⟨ad,e,x,E,A2,A3,A4,A5,A6,A7,c2,c3,c4,c5,c6,c7,g0,g1,g2,g3,g4,g5,g6,g7,Lib.hid ⟨q2,q3,q4,q5,q6,q7⟩⟩
set_option maxRecDepth 100000 in
set_option maxHeartbeats 8000000 in
theorem specTable {ok:Nat→Prop} (A:Option Addr) (c:Nat) (rs:List Route) (w:World) (hr:rK.C w ok A rs) (hn:Hid (∀x∈rs,x.n≤1048576)) :
  Calls Try.prog 14 #[.slice A rs.length c] w (RetS 40 rowK (tabF rs) w):=by
 have hm:=hr.1
 by_cases q:300 < rs.length
 ·have HT:Hid (tabF rs=[]):=Lib.hid (by unfold tabF;rw [if_pos q])
  go_enter Try.func14,Try.ntmps14
  go_wp2
  go_ret
  exact ⟨none,0,[],by rw [HT.out];rfl,by rw [HT.out];exact ⟨_,[],rfl,rfl,R_nil,rfl⟩,by simp,Below.refl _ _⟩
 have HT:Hid (tabF rs=rs.map (fun a=>rs.map (excl a))):=Lib.hid (by unfold tabF;rw [if_neg q])
 obtain ⟨i0,hi,hz0,hz1,hz2⟩:=info_parts info3
 obtain ⟨j0,ji,jz0,jz1,jz2⟩:=info_parts info40
 have hq:rs.length≤300:=by omega
 clear q
 go_enter Try.func14,Try.ntmps14
 go_wp2
 go_loopw [3,14] (fun o i wr=>∃(k:Nat) (ps:List (List Int × List Nat)),k≤rs.length∧i=.int .i64 k∧Hid (rowK.R 40 wr o ps)∧Hid (ps.map Prod.fst=(rs.take k).map (fun a=>rs.map (excl a)))∧Hid (∀b,b∈Kn.foot o ps→w.heap.size≤b)∧Below w.heap.size w wr) (fun _ i _=>rs.length - (intOf i).toNat)
 case atStart=>exact ⟨0,[],Nat.zero_le _,rfl,Lib.hid R_nil,Lib.hid (by simp),Lib.hid (by simp [Kn.foot,Value.ownBlock]),Below.refl _ _⟩
 case round =>
  obtain ⟨k,ps,hk,rfl,HR,HP,HB,hb⟩:=hrel
  obtain ⟨wo,rfl⟩:∃wo:World,wo=wr:=⟨_,rfl⟩
  by_cases hlt:k < rs.length
  ·obtain ⟨ad,rfl,x,E,A2,A3,A4,A5,A6,A7,c2,c3,c4,c5,c6,c7,g0,g1,g2,g3,g4,g5,g6,g7,RX⟩:=rC_at (Kn.C_below hb hr) k hlt
   have i1:(0:Int)≤(k:Int):=Int.natCast_nonneg _
   have i2:(k:Int) < (rs.length:Int):=by omega
   have hxn:=hn.out _ (mem_of_get E.out)
   have hpl:ps.length=k:=by have:=congrArg List.length HP.out;rw [List.length_map,List.length_map,List.length_take] at this;omega
   go_wp2
   obtain ⟨W1,hW1,hB1,hs1,f0,f1,f2,f3,f4,f5,f6,f7⟩:∃W1,W1=wo.alloc (.cells #[.int .i64 x.frm,.int .i64 x.til,.slice A2 x.steps.length c2,.slice A3 x.lies.length c3,.slice A4 x.crosses.length c4,.slice A5 x.parts.length c5,.slice A6 x.over.length c6,.slice A7 x.flanks.length c7] 44)∧Below wo.heap.size wo W1∧wo.heap.size < W1.heap.size∧W1.cell? ⟨wo.heap.size,0,none⟩=some (.int .i64 x.frm)∧W1.cell? ⟨wo.heap.size,1,none⟩=some (.int .i64 x.til)∧W1.cell? ⟨wo.heap.size,2,none⟩=some (.slice A2 x.steps.length c2)∧W1.cell? ⟨wo.heap.size,3,none⟩=some (.slice A3 x.lies.length c3)∧W1.cell? ⟨wo.heap.size,4,none⟩=some (.slice A4 x.crosses.length c4)∧W1.cell? ⟨wo.heap.size,5,none⟩=some (.slice A5 x.parts.length c5)∧W1.cell? ⟨wo.heap.size,6,none⟩=some (.slice A6 x.over.length c6)∧W1.cell? ⟨wo.heap.size,7,none⟩=some (.slice A7 x.flanks.length c7):=⟨_,rfl,below_alloc _ _,by simp,by simp,by simp,by simp,by simp,by simp,by simp,by simp,by simp⟩
   rw [←hW1]
   clear hW1 g0 g1 g2 g3 g4 g5 g6 g7
   have RX:=Lib.hid (RX.out.below hB1)
   have HR:=Lib.hid (Kn.R_move (fun b hbb=>hB1.block b (Kn.R_lt HR.out b hbb)) HR.out)
   have hb1:=hb.trans (hB1.mono hb.size)
   have HL:=Lib.hid (Kn.R_lt HR.out)
   clear hB1
   go_loopw [6,20] (fun o i wr=>∃m:Nat,m≤rs.length∧i=.int .i64 m∧Hid (Kn.int.Rw 3 wr nobody o ((rs.take m).map (excl x)))∧Hid (∀b,o.ownBlock=some b→W1.heap.size≤b)∧Below W1.heap.size W1 wr) (fun _ i _=>rs.length - (intOf i).toNat)
   case atStart=>exact ⟨0,Nat.zero_le _,rfl,Lib.hid (by rw [List.take_zero];exact Kn.Rw.nil),Lib.hid (by simp [Value.ownBlock]),Below.refl _ _⟩
   case round =>
    obtain ⟨m,hmk,rfl,HI,HJ,hbi⟩:=hrel
    have hbj:=hb1.trans (hbi.mono hb1.size)
    by_cases hlm:m < rs.length
    ·obtain ⟨ad',he,y,E1,B2,B3,B4,B5,B6,B7,d2,d3,d4,d5,d6,d7,h0,h1,h2,h3,h4,h5,h6,h7,RY⟩:=rC_at (Kn.C_below hbj hr) m hlm
     obtain rfl:=Option.some.inj he
     clear he
     have m1:(0:Int)≤(m:Int):=Int.natCast_nonneg _
     have m2:(m:Int) < (rs.length:Int):=by omega
     have hyn:=hn.out _ (mem_of_get E1.out)
     have e0:=cell_below hbi f0
     have e1:=cell_below hbi f1
     have e2:=cell_below hbi f2
     have e3:=cell_below hbi f3
     have e4:=cell_below hbi f4
     have e5:=cell_below hbi f5
     have e6:=cell_below hbi f6
     have e7:=cell_below hbi f7
     have hsx:wo.heap.size < wr.heap.size:=by have:=hbi.size;omega
     obtain ⟨W2,hW2,hB2,hs2,hs3,t0,t1,t2,t3,t4,t5,t6,t7,s0,s1,s2,s3,s4,s5,s6,s7⟩:∃W2,W2=wr.alloc (.cells #[.int .i64 y.frm,.int .i64 y.til,.slice B2 y.steps.length d2,.slice B3 y.lies.length d3,.slice B4 y.crosses.length d4,.slice B5 y.parts.length d5,.slice B6 y.over.length d6,.slice B7 y.flanks.length d7] 44)∧Below wr.heap.size wr W2∧wr.heap.size < W2.heap.size∧wo.heap.size < W2.heap.size∧W2.cell? ⟨wo.heap.size,0,none⟩=some (.int .i64 x.frm)∧W2.cell? ⟨wo.heap.size,1,none⟩=some (.int .i64 x.til)∧W2.cell? ⟨wo.heap.size,2,none⟩=some (.slice A2 x.steps.length c2)∧W2.cell? ⟨wo.heap.size,3,none⟩=some (.slice A3 x.lies.length c3)∧W2.cell? ⟨wo.heap.size,4,none⟩=some (.slice A4 x.crosses.length c4)∧W2.cell? ⟨wo.heap.size,5,none⟩=some (.slice A5 x.parts.length c5)∧W2.cell? ⟨wo.heap.size,6,none⟩=some (.slice A6 x.over.length c6)∧W2.cell? ⟨wo.heap.size,7,none⟩=some (.slice A7 x.flanks.length c7)∧W2.cell? ⟨wr.heap.size,0,none⟩=some (.int .i64 y.frm)∧W2.cell? ⟨wr.heap.size,1,none⟩=some (.int .i64 y.til)∧W2.cell? ⟨wr.heap.size,2,none⟩=some (.slice B2 y.steps.length d2)∧W2.cell? ⟨wr.heap.size,3,none⟩=some (.slice B3 y.lies.length d3)∧W2.cell? ⟨wr.heap.size,4,none⟩=some (.slice B4 y.crosses.length d4)∧W2.cell? ⟨wr.heap.size,5,none⟩=some (.slice B5 y.parts.length d5)∧W2.cell? ⟨wr.heap.size,6,none⟩=some (.slice B6 y.over.length d6)∧W2.cell? ⟨wr.heap.size,7,none⟩=some (.slice B7 y.flanks.length d7):=⟨_,rfl,below_alloc _ _,by simp,by have:=hbi.size;simp;omega,cell_below (below_alloc _ _) e0,cell_below (below_alloc _ _) e1,cell_below (below_alloc _ _) e2,cell_below (below_alloc _ _) e3,cell_below (below_alloc _ _) e4,cell_below (below_alloc _ _) e5,cell_below (below_alloc _ _) e6,cell_below (below_alloc _ _) e7,by simp,by simp,by simp,by simp,by simp,by simp,by simp,by simp⟩
     go_wp2_with fail
     rw [←hW2]
     clear hW2 h0 h1 h2 h3 h4 h5 h6 h7 e0 e1 e2 e3 e4 e5 e6 e7 hsx
     refine (specExcludeC x y A2 A3 A4 A5 A6 A7 c2 c3 c4 c5 c6 c7 B2 B3 B4 B5 B6 B7 d2 d3 d4 d5 d6 d7 _ (RX.out.below (hbi.trans (hB2.mono hbi.size))) (RY.out.below hB2) hxn hyn).mono ?_
     rintro e w3 ⟨rfl,hb3⟩
     have hbx:=hB2.trans (hb3.mono hB2.size)
     have hb4:=(hbi.trans (hbx.mono hbi.size)).alloc (by have:=hbi.size;have:=hbx.size;omega) (Obj.cells #[.int .i64 (excl x y)] 3)
     have HI:=Lib.hid ((HI.out.below hbx).below (below_alloc w3 (.cells #[.int .i64 (excl x y)] 3)))
     clear t0 t1 t2 t3 t4 t5 t6 t7 s0 s1 s2 s3 s4 s5 s6 s7 hB2 hb3 RY hs2 hs3
     go_wp2_with (at_builtin;refine wpList_append_rw _ rfl (.tmp 24) (.tmp 28) 40 rfl 3 i0 _ 8 Try.underlying40 hi hz0 hz1 hz2 rfl (by decide) u6 ((rs.take m).map (excl x)) [excl x y] rfl HI.out (fun _ h=>h.elim) (some ⟨w3.heap.size,0,none⟩) 1 1 rfl rfl (Kn.Src.one rfl (new_cells _ [.int .i64 (excl x y)] _ rfl)) (by simp only [maxLen,List.length_map,List.length_take];omega) (by simp only [List.length_map,List.length_take];omega) ?_;intro v' w4 HI4 hg4 hat4)
     have HI5:Hid (Kn.int.Rw 3 w4 nobody v' ((rs.take (m+1)).map (excl x))):=Lib.hid (by rw [take_push E1.out,List.map_append];exact HI4)
     have HJ5:=Lib.hid (own_next HJ.out hat4 hb4.size)
     have hb5:=below_push hb4 hg4 HJ.out hb4.size
     clear HI4 hg4 hat4 HI HJ hb4 hbx
     go_wp2
     go_roundw
     case rel=>exact ⟨m+1,by omega,by go_num,HI5,HJ5,hb5⟩
     case measure=>simp [intOf];omega
    ·obtain rfl:m=rs.length:=by omega
     have HI:=Lib.hid (by rw [List.take_length] at HI;exact HI.out)
     have HR:=Lib.hid (Kn.R_move (fun b hbb=>hbi.block b (HL.out b hbb)) HR.out)
     obtain ⟨Ai,ci,rfl,hci,_⟩:=HI.out.form
     have HIo:=Lib.hid (HI.out.own intK_flat)
     have HIl:=Lib.hid HI.out.lt
     have hb6:=hbj.alloc hbj.size (Obj.cells #[.slice Ai (rs.map (excl x)).length ci] 40)
     have hbr:=hbi.size
     clear HI hbi
     rw [List.length_map] at HIo HIl HJ hb6
     obtain ⟨hla,hlb⟩:ps.length+1≤maxLen∧(ps.length+1)*24≤140737488355328:=⟨by simp only [maxLen];omega,by omega⟩
     go_wp2_with (at_builtin;refine wpList_append_R _ rfl (.tmp 31) (.tmp 33) 36 rfl 40 j0 _ 24 Try.underlying36 ji jz0 jz1 jz2 rfl (by decide) u3 ps rfl (Kn.R_move (fun b hbb=>(below_alloc wr _).block b (by have:=HL.out b hbb;omega)) HR.out) ⟨wr.heap.size,0,none⟩ (rs.map (excl x)) [.slice Ai rs.length ci] (Value.slice Ai rs.length ci).ownBlock.toList 1 rfl (rowK.O_move (fun b hbb=>(below_alloc wr _).block b (HIl.out b (by simpa using hbb))) HIo.out) (new_cells _ [.slice Ai rs.length ci] _ rfl) (fun b hbb hf=>by have:=HL.out b hf;have:=HJ.out b (by simpa using hbb);omega) hla hlb ?_;intro v' w4 HR4 hg4 hat4)
     have HR5:=Lib.hid HR4
     have HP5:Hid ((ps++[(rs.map (excl x),(Value.slice Ai rs.length ci).ownBlock.toList)]).map Prod.fst=(rs.take (k+1)).map (fun a=>rs.map (excl a))):=Lib.hid (by rw [List.map_append,HP.out,take_push E.out,List.map_append];rfl)
     have HB5:=Lib.hid (foot_next (x:=rs.map (excl x)) (F:=(Value.slice Ai rs.length ci).ownBlock.toList) HB.out (fun b hbb=>by have:=HJ.out b (by simpa using hbb);have:=hb1.size;omega) hat4 hb6.size)
     have hb7:=below_push hb6 hg4 (fun b h=>HB.out b (Kn.mem_foot_own h)) hb6.size
     clear HR4 hg4 hat4 HR HP HB hb6 HIo HIl HJ
     go_wp2
     go_roundw
     case rel=>exact ⟨k+1,_,by omega,by go_num,HR5,HP5,HB5,hb7⟩
     case measure=>simp [intOf];omega
  ·obtain rfl:k=rs.length:=by omega
   have HP:=Lib.hid (by rw [List.take_length] at HP;exact HP.out)
   obtain ⟨Ao,co,rfl,hco,_⟩:=Kn.R_len HR.out
   have hpl:ps.length=(tabF rs).length:=by rw [HT.out,←HP.out,List.length_map]
   go_wp2
   go_ret
   exact ⟨Ao,co,_,by rw [hpl];rfl,⟨_,ps,by rw [hpl],by rw [HT.out,HP.out],HR.out,rfl⟩,HB.out,hb⟩
set_option maxRecDepth 100000 in
set_option maxHeartbeats 8000000 in
theorem implTable {ok:Nat→Prop} (A:Option Addr) (c:Nat) (rs:List Route) (w:World) (hr:rK.C w ok A rs) (hn:Hid (∀x∈rs,x.n≤1048576)) :
  Calls Try.prog 16 #[.slice A rs.length c] w (RetS 40 rowK (tabF rs) w):=by
 have hm:=hr.1
 by_cases q:300 < rs.length
 ·have HT:Hid (tabF rs=[]):=Lib.hid (by unfold tabF;rw [if_pos q])
  go_enter Try.func16,Try.ntmps16
  go_wp2
  go_ret
  exact ⟨none,0,[],by rw [HT.out];rfl,by rw [HT.out];exact ⟨_,[],rfl,rfl,R_nil,rfl⟩,by simp,Below.refl _ _⟩
 have HT:Hid (tabF rs=rs.map (fun a=>rs.map (excl a))):=Lib.hid (by unfold tabF;rw [if_neg q])
 obtain ⟨i0,hi,hz0,hz1,hz2⟩:=info_parts info3
 obtain ⟨j0,ji,jz0,jz1,jz2⟩:=info_parts info40
 have hq:rs.length≤300:=by omega
 clear q
 go_enter Try.func16,Try.ntmps16
 go_wp2
 go_loopw [3,14] (fun o i wr=>∃(k:Nat) (ps:List (List Int × List Nat)),k≤rs.length∧i=.int .i64 k∧Hid (rowK.R 40 wr o ps)∧Hid (ps.map Prod.fst=(rs.take k).map (fun a=>rs.map (excl a)))∧Hid (∀b,b∈Kn.foot o ps→w.heap.size≤b)∧Below w.heap.size w wr) (fun _ i _=>rs.length - (intOf i).toNat)
 case atStart=>exact ⟨0,[],Nat.zero_le _,rfl,Lib.hid R_nil,Lib.hid (by simp),Lib.hid (by simp [Kn.foot,Value.ownBlock]),Below.refl _ _⟩
 case round =>
  obtain ⟨k,ps,hk,rfl,HR,HP,HB,hb⟩:=hrel
  obtain ⟨wo,rfl⟩:∃wo:World,wo=wr:=⟨_,rfl⟩
  by_cases hlt:k < rs.length
  ·obtain ⟨ad,rfl,x,E,A2,A3,A4,A5,A6,A7,c2,c3,c4,c5,c6,c7,g0,g1,g2,g3,g4,g5,g6,g7,RX⟩:=rC_at (Kn.C_below hb hr) k hlt
   have i1:(0:Int)≤(k:Int):=Int.natCast_nonneg _
   have i2:(k:Int) < (rs.length:Int):=by omega
   have hxn:=hn.out _ (mem_of_get E.out)
   have hpl:ps.length=k:=by have:=congrArg List.length HP.out;rw [List.length_map,List.length_map,List.length_take] at this;omega
   go_wp2
   obtain ⟨W1,hW1,hB1,hs1,f0,f1,f2,f3,f4,f5,f6,f7⟩:∃W1,W1=wo.alloc (.cells #[.int .i64 x.frm,.int .i64 x.til,.slice A2 x.steps.length c2,.slice A3 x.lies.length c3,.slice A4 x.crosses.length c4,.slice A5 x.parts.length c5,.slice A6 x.over.length c6,.slice A7 x.flanks.length c7] 44)∧Below wo.heap.size wo W1∧wo.heap.size < W1.heap.size∧W1.cell? ⟨wo.heap.size,0,none⟩=some (.int .i64 x.frm)∧W1.cell? ⟨wo.heap.size,1,none⟩=some (.int .i64 x.til)∧W1.cell? ⟨wo.heap.size,2,none⟩=some (.slice A2 x.steps.length c2)∧W1.cell? ⟨wo.heap.size,3,none⟩=some (.slice A3 x.lies.length c3)∧W1.cell? ⟨wo.heap.size,4,none⟩=some (.slice A4 x.crosses.length c4)∧W1.cell? ⟨wo.heap.size,5,none⟩=some (.slice A5 x.parts.length c5)∧W1.cell? ⟨wo.heap.size,6,none⟩=some (.slice A6 x.over.length c6)∧W1.cell? ⟨wo.heap.size,7,none⟩=some (.slice A7 x.flanks.length c7):=⟨_,rfl,below_alloc _ _,by simp,by simp,by simp,by simp,by simp,by simp,by simp,by simp,by simp⟩
   rw [←hW1]
   clear hW1 g0 g1 g2 g3 g4 g5 g6 g7
   have RX:=Lib.hid (RX.out.below hB1)
   have HR:=Lib.hid (Kn.R_move (fun b hbb=>hB1.block b (Kn.R_lt HR.out b hbb)) HR.out)
   have hb1:=hb.trans (hB1.mono hb.size)
   have HL:=Lib.hid (Kn.R_lt HR.out)
   clear hB1
   go_loopw [6,20] (fun o i wr=>∃m:Nat,m≤rs.length∧i=.int .i64 m∧Hid (Kn.int.Rw 3 wr nobody o ((rs.take m).map (excl x)))∧Hid (∀b,o.ownBlock=some b→W1.heap.size≤b)∧Below W1.heap.size W1 wr) (fun _ i _=>rs.length - (intOf i).toNat)
   case atStart=>exact ⟨0,Nat.zero_le _,rfl,Lib.hid (by rw [List.take_zero];exact Kn.Rw.nil),Lib.hid (by simp [Value.ownBlock]),Below.refl _ _⟩
   case round =>
    obtain ⟨m,hmk,rfl,HI,HJ,hbi⟩:=hrel
    have hbj:=hb1.trans (hbi.mono hb1.size)
    by_cases hlm:m < rs.length
    ·obtain ⟨ad',he,y,E1,B2,B3,B4,B5,B6,B7,d2,d3,d4,d5,d6,d7,h0,h1,h2,h3,h4,h5,h6,h7,RY⟩:=rC_at (Kn.C_below hbj hr) m hlm
     obtain rfl:=Option.some.inj he
     clear he
     have m1:(0:Int)≤(m:Int):=Int.natCast_nonneg _
     have m2:(m:Int) < (rs.length:Int):=by omega
     have hyn:=hn.out _ (mem_of_get E1.out)
     have e0:=cell_below hbi f0
     have e1:=cell_below hbi f1
     have e2:=cell_below hbi f2
     have e3:=cell_below hbi f3
     have e4:=cell_below hbi f4
     have e5:=cell_below hbi f5
     have e6:=cell_below hbi f6
     have e7:=cell_below hbi f7
     have hsx:wo.heap.size < wr.heap.size:=by have:=hbi.size;omega
     obtain ⟨W2,hW2,hB2,hs2,hs3,t0,t1,t2,t3,t4,t5,t6,t7,s0,s1,s2,s3,s4,s5,s6,s7⟩:∃W2,W2=wr.alloc (.cells #[.int .i64 y.frm,.int .i64 y.til,.slice B2 y.steps.length d2,.slice B3 y.lies.length d3,.slice B4 y.crosses.length d4,.slice B5 y.parts.length d5,.slice B6 y.over.length d6,.slice B7 y.flanks.length d7] 44)∧Below wr.heap.size wr W2∧wr.heap.size < W2.heap.size∧wo.heap.size < W2.heap.size∧W2.cell? ⟨wo.heap.size,0,none⟩=some (.int .i64 x.frm)∧W2.cell? ⟨wo.heap.size,1,none⟩=some (.int .i64 x.til)∧W2.cell? ⟨wo.heap.size,2,none⟩=some (.slice A2 x.steps.length c2)∧W2.cell? ⟨wo.heap.size,3,none⟩=some (.slice A3 x.lies.length c3)∧W2.cell? ⟨wo.heap.size,4,none⟩=some (.slice A4 x.crosses.length c4)∧W2.cell? ⟨wo.heap.size,5,none⟩=some (.slice A5 x.parts.length c5)∧W2.cell? ⟨wo.heap.size,6,none⟩=some (.slice A6 x.over.length c6)∧W2.cell? ⟨wo.heap.size,7,none⟩=some (.slice A7 x.flanks.length c7)∧W2.cell? ⟨wr.heap.size,0,none⟩=some (.int .i64 y.frm)∧W2.cell? ⟨wr.heap.size,1,none⟩=some (.int .i64 y.til)∧W2.cell? ⟨wr.heap.size,2,none⟩=some (.slice B2 y.steps.length d2)∧W2.cell? ⟨wr.heap.size,3,none⟩=some (.slice B3 y.lies.length d3)∧W2.cell? ⟨wr.heap.size,4,none⟩=some (.slice B4 y.crosses.length d4)∧W2.cell? ⟨wr.heap.size,5,none⟩=some (.slice B5 y.parts.length d5)∧W2.cell? ⟨wr.heap.size,6,none⟩=some (.slice B6 y.over.length d6)∧W2.cell? ⟨wr.heap.size,7,none⟩=some (.slice B7 y.flanks.length d7):=⟨_,rfl,below_alloc _ _,by simp,by have:=hbi.size;simp;omega,cell_below (below_alloc _ _) e0,cell_below (below_alloc _ _) e1,cell_below (below_alloc _ _) e2,cell_below (below_alloc _ _) e3,cell_below (below_alloc _ _) e4,cell_below (below_alloc _ _) e5,cell_below (below_alloc _ _) e6,cell_below (below_alloc _ _) e7,by simp,by simp,by simp,by simp,by simp,by simp,by simp,by simp⟩
     go_wp2_with fail
     rw [←hW2]
     clear hW2 h0 h1 h2 h3 h4 h5 h6 h7 e0 e1 e2 e3 e4 e5 e6 e7 hsx
     refine (implExcludeC x y A2 A3 A4 A5 A6 A7 c2 c3 c4 c5 c6 c7 B2 B3 B4 B5 B6 B7 d2 d3 d4 d5 d6 d7 _ (RX.out.below (hbi.trans (hB2.mono hbi.size))) (RY.out.below hB2) hxn hyn).mono ?_
     rintro e w3 ⟨rfl,hb3⟩
     have hbx:=hB2.trans (hb3.mono hB2.size)
     have hb4:=(hbi.trans (hbx.mono hbi.size)).alloc (by have:=hbi.size;have:=hbx.size;omega) (Obj.cells #[.int .i64 (excl x y)] 3)
     have HI:=Lib.hid ((HI.out.below hbx).below (below_alloc w3 (.cells #[.int .i64 (excl x y)] 3)))
     clear t0 t1 t2 t3 t4 t5 t6 t7 s0 s1 s2 s3 s4 s5 s6 s7 hB2 hb3 RY hs2 hs3
     go_wp2_with (at_builtin;refine wpList_append_rw _ rfl (.tmp 24) (.tmp 28) 40 rfl 3 i0 _ 8 Try.underlying40 hi hz0 hz1 hz2 rfl (by decide) u6 ((rs.take m).map (excl x)) [excl x y] rfl HI.out (fun _ h=>h.elim) (some ⟨w3.heap.size,0,none⟩) 1 1 rfl rfl (Kn.Src.one rfl (new_cells _ [.int .i64 (excl x y)] _ rfl)) (by simp only [maxLen,List.length_map,List.length_take];omega) (by simp only [List.length_map,List.length_take];omega) ?_;intro v' w4 HI4 hg4 hat4)
     have HI5:Hid (Kn.int.Rw 3 w4 nobody v' ((rs.take (m+1)).map (excl x))):=Lib.hid (by rw [take_push E1.out,List.map_append];exact HI4)
     have HJ5:=Lib.hid (own_next HJ.out hat4 hb4.size)
     have hb5:=below_push hb4 hg4 HJ.out hb4.size
     clear HI4 hg4 hat4 HI HJ hb4 hbx
     go_wp2
     go_roundw
     case rel=>exact ⟨m+1,by omega,by go_num,HI5,HJ5,hb5⟩
     case measure=>simp [intOf];omega
    ·obtain rfl:m=rs.length:=by omega
     have HI:=Lib.hid (by rw [List.take_length] at HI;exact HI.out)
     have HR:=Lib.hid (Kn.R_move (fun b hbb=>hbi.block b (HL.out b hbb)) HR.out)
     obtain ⟨Ai,ci,rfl,hci,_⟩:=HI.out.form
     have HIo:=Lib.hid (HI.out.own intK_flat)
     have HIl:=Lib.hid HI.out.lt
     have hb6:=hbj.alloc hbj.size (Obj.cells #[.slice Ai (rs.map (excl x)).length ci] 40)
     have hbr:=hbi.size
     clear HI hbi
     rw [List.length_map] at HIo HIl HJ hb6
     obtain ⟨hla,hlb⟩:ps.length+1≤maxLen∧(ps.length+1)*24≤140737488355328:=⟨by simp only [maxLen];omega,by omega⟩
     go_wp2_with (at_builtin;refine wpList_append_R _ rfl (.tmp 31) (.tmp 33) 36 rfl 40 j0 _ 24 Try.underlying36 ji jz0 jz1 jz2 rfl (by decide) u3 ps rfl (Kn.R_move (fun b hbb=>(below_alloc wr _).block b (by have:=HL.out b hbb;omega)) HR.out) ⟨wr.heap.size,0,none⟩ (rs.map (excl x)) [.slice Ai rs.length ci] (Value.slice Ai rs.length ci).ownBlock.toList 1 rfl (rowK.O_move (fun b hbb=>(below_alloc wr _).block b (HIl.out b (by simpa using hbb))) HIo.out) (new_cells _ [.slice Ai rs.length ci] _ rfl) (fun b hbb hf=>by have:=HL.out b hf;have:=HJ.out b (by simpa using hbb);omega) hla hlb ?_;intro v' w4 HR4 hg4 hat4)
     have HR5:=Lib.hid HR4
     have HP5:Hid ((ps++[(rs.map (excl x),(Value.slice Ai rs.length ci).ownBlock.toList)]).map Prod.fst=(rs.take (k+1)).map (fun a=>rs.map (excl a))):=Lib.hid (by rw [List.map_append,HP.out,take_push E.out,List.map_append];rfl)
     have HB5:=Lib.hid (foot_next (x:=rs.map (excl x)) (F:=(Value.slice Ai rs.length ci).ownBlock.toList) HB.out (fun b hbb=>by have:=HJ.out b (by simpa using hbb);have:=hb1.size;omega) hat4 hb6.size)
     have hb7:=below_push hb6 hg4 (fun b h=>HB.out b (Kn.mem_foot_own h)) hb6.size
     clear HR4 hg4 hat4 HR HP HB hb6 HIo HIl HJ
     go_wp2
     go_roundw
     case rel=>exact ⟨k+1,_,by omega,by go_num,HR5,HP5,HB5,hb7⟩
     case measure=>simp [intOf];omega
  ·obtain rfl:k=rs.length:=by omega
   have HP:=Lib.hid (by rw [List.take_length] at HP;exact HP.out)
   obtain ⟨Ao,co,rfl,hco,_⟩:=Kn.R_len HR.out
   have hpl:ps.length=(tabF rs).length:=by rw [HT.out,←HP.out,List.length_map]
   go_wp2
   go_ret
   exact ⟨Ao,co,_,by rw [hpl];rfl,⟨_,ps,by rw [hpl],by rw [HT.out,HP.out],HR.out,rfl⟩,HB.out,hb⟩
end Go.Proofs.Ytjccgneimknbpaa.L
namespace Go.Proofs.Ytjccgneimknbpaa.L
open Go.RowKit
theorem row_at {w:World} {ok:Nat→Prop} {A:Option Addr} {xs:List (List Int)} (h:rowK.C w ok A xs) (k:Nat) (hk:k < xs.length):∃ad,A=some ad∧∃x,Hid (xs[k]?=some x)∧∃B d,w.cell? (ad.add k)=some (.slice B x.length d)∧Hid (Kn.int.C w ok B x):=by
 obtain ⟨ad,x,c,e,_,hx,⟨B,d,rfl,_,hC⟩,hc⟩:=Kn.C_at h k hk
 exact ⟨ad,e,x,Lib.hid hx,B,d,by have:=hc 0 _ rfl;rwa [show k*rowK.sz+0=k from by show k*1+0=k;omega] at this,Lib.hid hC⟩
end Go.Proofs.Ytjccgneimknbpaa.L
namespace Go.Proofs.Ytjccgneimknbpaa.L
open Go.RowKit
theorem neq_t {a b:Int} (h:¬a=b):(a != b)=true:=by simp [h]
set_option maxRecDepth 100000 in
set_option maxHeartbeats 2000000 in
theorem equalStep {ok ok':Nat→Prop} (A0 A1:Option Addr) (c0 c1:Nat) (xs ys:List Step) (w:World) (hx:stepK.C w ok A0 xs) (hy:stepK.C w ok' A1 ys) :
  Calls Try.prog 76 #[.slice A0 xs.length c0,.slice A1 ys.length c1] w (RetB (eqv xs ys) w):=by
 have hmx:=hx.1
 have hmy:=hy.1
 by_cases hl:xs.length=ys.length
 rotate_left
 ·rw [eqv_false (fun h=>hl (congrArg List.length h))]
  have hlb:=len_ne hl
  clear hl
  go_enter Try.func76,Try.ntmps76
  go_wp2
  go_ret
  exact ⟨rfl,Below.refl _ _⟩
 have hlb:=len_eq hl
 have HL:=Lib.hid hl
 clear hl
 go_enter Try.func76,Try.ntmps76
 go_wp2
 go_loopw [13] (fun i wr=>∃k:Nat,k≤xs.length∧i=.int .i64 k∧Hid (xs.take k=ys.take k)∧Below w.heap.size w wr) (fun i _=>xs.length - (intOf i).toNat)
 case atStart=>exact ⟨0,Nat.zero_le _,rfl,Lib.hid rfl,Below.refl _ _⟩
 case round =>
  obtain ⟨k,hk,rfl,HT,hb⟩:=hrel
  by_cases hlt:k < xs.length
  ·have i0:(0:Int)≤(k:Int):=Int.natCast_nonneg _
   have i1:(k:Int) < (xs.length:Int):=by omega
   have i2:(k:Int) < (ys.length:Int):=by have:=HL.out;omega
   obtain ⟨a0,rfl,p0,p1,E0,gp0,gp1⟩:=stepK_at (Kn.C_below hb hx) k hlt
   obtain ⟨a1,rfl,q0,q1,E1,gq0,gq1⟩:=stepK_at (Kn.C_below hb hy) k (HL.out▸hlt)
   by_cases e0:p0=q0
   rotate_left
   ·have d:(p0 == q0)=false:=int_eqf e0
    have d':(p0 != q0)=true:=neq_t e0
    have HN:Hid (eqv xs ys=false):=Lib.hid (eqv_false (take_ne E0.out E1.out (fun h=>e0 (by injection h))))
    clear e0 HT
    go_wp2
    go_quiet (fail)
    go_wp2
    go_ret
    exact ⟨by rw [HN.out];rfl,below_drewN hb _⟩
   subst e0
   by_cases e1:p1=q1
   rotate_left
   ·have d:(p1 == q1)=false:=int_eqf e1
    have d':(p1 != q1)=true:=neq_t e1
    have HN:Hid (eqv xs ys=false):=Lib.hid (eqv_false (take_ne E0.out E1.out (fun h=>e1 (by injection h))))
    clear e1 HT
    go_wp2
    go_quiet (fail)
    go_wp2
    go_ret
    exact ⟨by rw [HN.out];rfl,below_drewN hb _⟩
   subst e1
   have HN:Hid (xs.take (k+1)=ys.take (k+1)):=Lib.hid (take_eq_snoc HT.out E0.out E1.out)
   clear HT
   go_wp2
   go_quiet (fail)
   go_wp2
   go_roundw
   case rel=>exact ⟨k+1,by omega,by go_num,HN,below_drewN hb _⟩
   case measure=>simp [intOf];omega
  ·obtain rfl:k=xs.length:=by omega
   have HN:Hid (eqv xs ys=true):=Lib.hid (eqv_true (by have:=HT.out;rw [List.take_length,HL.out,List.take_length] at this;exact this))
   go_wp2
   go_ret
   exact ⟨by rw [HN.out];rfl,hb⟩
set_option maxRecDepth 100000 in
set_option maxHeartbeats 2000000 in
theorem equalLie {ok ok':Nat→Prop} (A0 A1:Option Addr) (c0 c1:Nat) (xs ys:List Lie) (w:World) (hx:lieK.C w ok A0 xs) (hy:lieK.C w ok' A1 ys) :
  Calls Try.prog 77 #[.slice A0 xs.length c0,.slice A1 ys.length c1] w (RetB (eqv xs ys) w):=by
 have hmx:=hx.1
 have hmy:=hy.1
 by_cases hl:xs.length=ys.length
 rotate_left
 ·rw [eqv_false (fun h=>hl (congrArg List.length h))]
  have hlb:=len_ne hl
  clear hl
  go_enter Try.func77,Try.ntmps77
  go_wp2
  go_ret
  exact ⟨rfl,Below.refl _ _⟩
 have hlb:=len_eq hl
 have HL:=Lib.hid hl
 clear hl
 go_enter Try.func77,Try.ntmps77
 go_wp2
 go_loopw [13] (fun i wr=>∃k:Nat,k≤xs.length∧i=.int .i64 k∧Hid (xs.take k=ys.take k)∧Below w.heap.size w wr) (fun i _=>xs.length - (intOf i).toNat)
 case atStart=>exact ⟨0,Nat.zero_le _,rfl,Lib.hid rfl,Below.refl _ _⟩
 case round =>
  obtain ⟨k,hk,rfl,HT,hb⟩:=hrel
  by_cases hlt:k < xs.length
  ·have i0:(0:Int)≤(k:Int):=Int.natCast_nonneg _
   have i1:(k:Int) < (xs.length:Int):=by omega
   have i2:(k:Int) < (ys.length:Int):=by have:=HL.out;omega
   obtain ⟨a0,rfl,p0,p1,E0,gp0,gp1⟩:=lieK_at (Kn.C_below hb hx) k hlt
   obtain ⟨a1,rfl,q0,q1,E1,gq0,gq1⟩:=lieK_at (Kn.C_below hb hy) k (HL.out▸hlt)
   by_cases e0:p0=q0
   rotate_left
   ·have d:(p0 == q0)=false:=int_eqf e0
    have d':(p0 != q0)=true:=neq_t e0
    have HN:Hid (eqv xs ys=false):=Lib.hid (eqv_false (take_ne E0.out E1.out (fun h=>e0 (by injection h))))
    clear e0 HT
    go_wp2
    go_quiet (fail)
    go_wp2
    go_ret
    exact ⟨by rw [HN.out];rfl,below_drewN hb _⟩
   subst e0
   by_cases e1:p1=q1
   rotate_left
   ·have d:(p1 == q1)=false:=int_eqf e1
    have d':(p1 != q1)=true:=neq_t e1
    have HN:Hid (eqv xs ys=false):=Lib.hid (eqv_false (take_ne E0.out E1.out (fun h=>e1 (by injection h))))
    clear e1 HT
    go_wp2
    go_quiet (fail)
    go_wp2
    go_ret
    exact ⟨by rw [HN.out];rfl,below_drewN hb _⟩
   subst e1
   have HN:Hid (xs.take (k+1)=ys.take (k+1)):=Lib.hid (take_eq_snoc HT.out E0.out E1.out)
   clear HT
   go_wp2
   go_quiet (fail)
   go_wp2
   go_roundw
   case rel=>exact ⟨k+1,by omega,by go_num,HN,below_drewN hb _⟩
   case measure=>simp [intOf];omega
  ·obtain rfl:k=xs.length:=by omega
   have HN:Hid (eqv xs ys=true):=Lib.hid (eqv_true (by have:=HT.out;rw [List.take_length,HL.out,List.take_length] at this;exact this))
   go_wp2
   go_ret
   exact ⟨by rw [HN.out];rfl,hb⟩
set_option maxRecDepth 100000 in
set_option maxHeartbeats 2000000 in
theorem equalPart {ok ok':Nat→Prop} (A0 A1:Option Addr) (c0 c1:Nat) (xs ys:List Part) (w:World) (hx:partK.C w ok A0 xs) (hy:partK.C w ok' A1 ys) :
  Calls Try.prog 79 #[.slice A0 xs.length c0,.slice A1 ys.length c1] w (RetB (eqv xs ys) w):=by
 have hmx:=hx.1
 have hmy:=hy.1
 by_cases hl:xs.length=ys.length
 rotate_left
 ·rw [eqv_false (fun h=>hl (congrArg List.length h))]
  have hlb:=len_ne hl
  clear hl
  go_enter Try.func79,Try.ntmps79
  go_wp2
  go_ret
  exact ⟨rfl,Below.refl _ _⟩
 have hlb:=len_eq hl
 have HL:=Lib.hid hl
 clear hl
 go_enter Try.func79,Try.ntmps79
 go_wp2
 go_loopw [13] (fun i wr=>∃k:Nat,k≤xs.length∧i=.int .i64 k∧Hid (xs.take k=ys.take k)∧Below w.heap.size w wr) (fun i _=>xs.length - (intOf i).toNat)
 case atStart=>exact ⟨0,Nat.zero_le _,rfl,Lib.hid rfl,Below.refl _ _⟩
 case round =>
  obtain ⟨k,hk,rfl,HT,hb⟩:=hrel
  by_cases hlt:k < xs.length
  ·have i0:(0:Int)≤(k:Int):=Int.natCast_nonneg _
   have i1:(k:Int) < (xs.length:Int):=by omega
   have i2:(k:Int) < (ys.length:Int):=by have:=HL.out;omega
   obtain ⟨a0,rfl,p0,p1,p2,E0,gp0,gp1,gp2⟩:=partK_at (Kn.C_below hb hx) k hlt
   obtain ⟨a1,rfl,q0,q1,q2,E1,gq0,gq1,gq2⟩:=partK_at (Kn.C_below hb hy) k (HL.out▸hlt)
   by_cases e0:p0=q0
   rotate_left
   ·have d:(p0 == q0)=false:=int_eqf e0
    have d':(p0 != q0)=true:=neq_t e0
    have HN:Hid (eqv xs ys=false):=Lib.hid (eqv_false (take_ne E0.out E1.out (fun h=>e0 (by injection h))))
    clear e0 HT
    go_wp2
    go_quiet (fail)
    go_wp2
    go_ret
    exact ⟨by rw [HN.out];rfl,below_drewN hb _⟩
   subst e0
   by_cases e1:p1=q1
   rotate_left
   ·have d:(p1 == q1)=false:=int_eqf e1
    have d':(p1 != q1)=true:=neq_t e1
    have HN:Hid (eqv xs ys=false):=Lib.hid (eqv_false (take_ne E0.out E1.out (fun h=>e1 (by injection h))))
    clear e1 HT
    go_wp2
    go_quiet (fail)
    go_wp2
    go_ret
    exact ⟨by rw [HN.out];rfl,below_drewN hb _⟩
   subst e1
   by_cases e2:p2=q2
   rotate_left
   ·have d:(p2 == q2)=false:=int_eqf e2
    have d':(p2 != q2)=true:=neq_t e2
    have HN:Hid (eqv xs ys=false):=Lib.hid (eqv_false (take_ne E0.out E1.out (fun h=>e2 (by injection h))))
    clear e2 HT
    go_wp2
    go_quiet (fail)
    go_wp2
    go_ret
    exact ⟨by rw [HN.out];rfl,below_drewN hb _⟩
   subst e2
   have HN:Hid (xs.take (k+1)=ys.take (k+1)):=Lib.hid (take_eq_snoc HT.out E0.out E1.out)
   clear HT
   go_wp2
   go_quiet (fail)
   go_wp2
   go_roundw
   case rel=>exact ⟨k+1,by omega,by go_num,HN,below_drewN hb _⟩
   case measure=>simp [intOf];omega
  ·obtain rfl:k=xs.length:=by omega
   have HN:Hid (eqv xs ys=true):=Lib.hid (eqv_true (by have:=HT.out;rw [List.take_length,HL.out,List.take_length] at this;exact this))
   go_wp2
   go_ret
   exact ⟨by rw [HN.out];rfl,hb⟩
set_option maxRecDepth 100000 in
set_option maxHeartbeats 2000000 in
theorem equalFlank {ok ok':Nat→Prop} (A0 A1:Option Addr) (c0 c1:Nat) (xs ys:List Flank) (w:World) (hx:flankK.C w ok A0 xs) (hy:flankK.C w ok' A1 ys) :
  Calls Try.prog 80 #[.slice A0 xs.length c0,.slice A1 ys.length c1] w (RetB (eqv xs ys) w):=by
 have hmx:=hx.1
 have hmy:=hy.1
 by_cases hl:xs.length=ys.length
 rotate_left
 ·rw [eqv_false (fun h=>hl (congrArg List.length h))]
  have hlb:=len_ne hl
  clear hl
  go_enter Try.func80,Try.ntmps80
  go_wp2
  go_ret
  exact ⟨rfl,Below.refl _ _⟩
 have hlb:=len_eq hl
 have HL:=Lib.hid hl
 clear hl
 go_enter Try.func80,Try.ntmps80
 go_wp2
 go_loopw [13] (fun i wr=>∃k:Nat,k≤xs.length∧i=.int .i64 k∧Hid (xs.take k=ys.take k)∧Below w.heap.size w wr) (fun i _=>xs.length - (intOf i).toNat)
 case atStart=>exact ⟨0,Nat.zero_le _,rfl,Lib.hid rfl,Below.refl _ _⟩
 case round =>
  obtain ⟨k,hk,rfl,HT,hb⟩:=hrel
  by_cases hlt:k < xs.length
  ·have i0:(0:Int)≤(k:Int):=Int.natCast_nonneg _
   have i1:(k:Int) < (xs.length:Int):=by omega
   have i2:(k:Int) < (ys.length:Int):=by have:=HL.out;omega
   obtain ⟨a0,rfl,p0,p1,p2,p3,E0,gp0,gp1,gp2,gp3⟩:=flankK_at (Kn.C_below hb hx) k hlt
   obtain ⟨a1,rfl,q0,q1,q2,q3,E1,gq0,gq1,gq2,gq3⟩:=flankK_at (Kn.C_below hb hy) k (HL.out▸hlt)
   by_cases e0:p0=q0
   rotate_left
   ·have d:(p0 == q0)=false:=int_eqf e0
    have d':(p0 != q0)=true:=neq_t e0
    have HN:Hid (eqv xs ys=false):=Lib.hid (eqv_false (take_ne E0.out E1.out (fun h=>e0 (by injection h))))
    clear e0 HT
    go_wp2
    go_quiet (fail)
    go_wp2
    go_ret
    exact ⟨by rw [HN.out];rfl,below_drewN hb _⟩
   subst e0
   by_cases e1:p1=q1
   rotate_left
   ·have d:(p1 == q1)=false:=int_eqf e1
    have d':(p1 != q1)=true:=neq_t e1
    have HN:Hid (eqv xs ys=false):=Lib.hid (eqv_false (take_ne E0.out E1.out (fun h=>e1 (by injection h))))
    clear e1 HT
    go_wp2
    go_quiet (fail)
    go_wp2
    go_ret
    exact ⟨by rw [HN.out];rfl,below_drewN hb _⟩
   subst e1
   by_cases e2:p2=q2
   rotate_left
   ·have d:(p2 == q2)=false:=int_eqf e2
    have d':(p2 != q2)=true:=neq_t e2
    have HN:Hid (eqv xs ys=false):=Lib.hid (eqv_false (take_ne E0.out E1.out (fun h=>e2 (by injection h))))
    clear e2 HT
    go_wp2
    go_quiet (fail)
    go_wp2
    go_ret
    exact ⟨by rw [HN.out];rfl,below_drewN hb _⟩
   subst e2
   by_cases e3:p3=q3
   rotate_left
   ·have d:(p3 == q3)=false:=int_eqf e3
    have d':(p3 != q3)=true:=neq_t e3
    have HN:Hid (eqv xs ys=false):=Lib.hid (eqv_false (take_ne E0.out E1.out (fun h=>e3 (by injection h))))
    clear e3 HT
    go_wp2
    go_quiet (fail)
    go_wp2
    go_ret
    exact ⟨by rw [HN.out];rfl,below_drewN hb _⟩
   subst e3
   have HN:Hid (xs.take (k+1)=ys.take (k+1)):=Lib.hid (take_eq_snoc HT.out E0.out E1.out)
   clear HT
   go_wp2
   go_quiet (fail)
   go_wp2
   go_roundw
   case rel=>exact ⟨k+1,by omega,by go_num,HN,below_drewN hb _⟩
   case measure=>simp [intOf];omega
  ·obtain rfl:k=xs.length:=by omega
   have HN:Hid (eqv xs ys=true):=Lib.hid (eqv_true (by have:=HT.out;rw [List.take_length,HL.out,List.take_length] at this;exact this))
   go_wp2
   go_ret
   exact ⟨by rw [HN.out];rfl,hb⟩
set_option maxRecDepth 100000 in
set_option maxHeartbeats 2000000 in
theorem equalInt {ok ok':Nat→Prop} (A0 A1:Option Addr) (c0 c1:Nat) (xs ys:List Int) (w:World) (hx:Kn.int.C w ok A0 xs) (hy:Kn.int.C w ok' A1 ys) :
  Calls Try.prog 78 #[.slice A0 xs.length c0,.slice A1 ys.length c1] w (RetB (eqv xs ys) w):=by
 have hmx:=hx.1
 have hmy:=hy.1
 by_cases hl:xs.length=ys.length
 rotate_left
 ·rw [eqv_false (fun h=>hl (congrArg List.length h))]
  have hlb:=len_ne hl
  clear hl
  go_enter Try.func78,Try.ntmps78
  go_wp2
  go_ret
  exact ⟨rfl,Below.refl _ _⟩
 have hlb:=len_eq hl
 have HL:=Lib.hid hl
 clear hl
 go_enter Try.func78,Try.ntmps78
 go_wp2
 go_loopw [13] (fun i wr=>∃k:Nat,k≤xs.length∧i=.int .i64 k∧Hid (xs.take k=ys.take k)∧Below w.heap.size w wr) (fun i _=>xs.length - (intOf i).toNat)
 case atStart=>exact ⟨0,Nat.zero_le _,rfl,Lib.hid rfl,Below.refl _ _⟩
 case round =>
  obtain ⟨k,hk,rfl,HT,hb⟩:=hrel
  by_cases hlt:k < xs.length
  ·have i0:(0:Int)≤(k:Int):=Int.natCast_nonneg _
   have i1:(k:Int) < (xs.length:Int):=by omega
   have i2:(k:Int) < (ys.length:Int):=by have:=HL.out;omega
   obtain ⟨a0,rfl,p0,E0,gp0⟩:=int_at (Kn.C_below hb hx) k hlt
   obtain ⟨a1,rfl,q0,E1,gq0⟩:=int_at (Kn.C_below hb hy) k (HL.out▸hlt)
   by_cases e0:p0=q0
   rotate_left
   ·have d:(p0 == q0)=false:=int_eqf e0
    have d':(p0 != q0)=true:=neq_t e0
    have HN:Hid (eqv xs ys=false):=Lib.hid (eqv_false (take_ne E0.out E1.out (fun h=>e0 h)))
    clear e0 HT
    go_wp2
    go_quiet (fail)
    go_wp2
    go_ret
    exact ⟨by rw [HN.out];rfl,below_drewN hb _⟩
   subst e0
   have HN:Hid (xs.take (k+1)=ys.take (k+1)):=Lib.hid (take_eq_snoc HT.out E0.out E1.out)
   clear HT
   go_wp2
   go_quiet (fail)
   go_wp2
   go_roundw
   case rel=>exact ⟨k+1,by omega,by go_num,HN,below_drewN hb _⟩
   case measure=>simp [intOf];omega
  ·obtain rfl:k=xs.length:=by omega
   have HN:Hid (eqv xs ys=true):=Lib.hid (eqv_true (by have:=HT.out;rw [List.take_length,HL.out,List.take_length] at this;exact this))
   go_wp2
   go_ret
   exact ⟨by rw [HN.out];rfl,hb⟩
end Go.Proofs.Ytjccgneimknbpaa.L
