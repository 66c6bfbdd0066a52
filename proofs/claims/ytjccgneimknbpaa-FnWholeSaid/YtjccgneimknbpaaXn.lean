/- The program drives along. -/
import Derived.Test.YtjccgneimknbpaaXm
set_option linter.unusedVariables false
set_option linter.unusedSimpArgs false
namespace Go.Proofs.Ytjccgneimknbpaa.L
open Go.RowKit
open Classical
set_option maxRecDepth 100000 in
set_option maxHeartbeats 16000000 in
theorem implOn {n:Net} {ss:List Signal} {A0 A1 A2:Option Addr} {c0 c1 c2:Nat} {ov:Int} {g:Nat} (hr:Hid (Right n ss)) (hov:Hid (0≤ov∧ov≤100000)):∀(m:Nat) (st:St) (vout:Value) (r:Route) (u:Nat) (way far a:Int) (B2 B3 B4 B5:Option Addr) (d2 d3 d4 d5:Nat) (w:World) (F:Hid (WI w g n ss A0 A1 A2 c0 c1 c2 ov ((st.2:Int)+1) vout st.1))
  (h2:Hid (stepK.C w (Out w (WSet g vout)) B2 r.steps)) (h3:Hid (lieK.C w (Out w (WSet g vout)) B3 r.lies)) (h4:Hid (Kn.int.C w (Out w (WSet g vout)) B4 r.crosses)) (h5:Hid (partK.C w (Out w (WSet g vout)) B5 r.parts)) (hcap:Hid (r.steps.length≤d2∧r.lies.length≤d3∧r.crosses.length≤d4∧r.parts.length≤d5))
  (hI:Hid (RInv n ss r)) (hm:Hid (2*n.pieces.length+1≤m+r.steps.length)) (hst:Hid (st.1.length≤301∧st.2≤25000∧m≤201)) (hu:u < n.pieces.length) (hway:way=1∨way=-1) (hfar:Hid (0≤far∧far < pl n u)) (ha:Hid (a=atOf n u way far)),
  Calls Try.prog 69 #[.pointer (some ⟨g,0,none⟩),.agg #[.int .i64 r.frm,.int .i64 r.til,.slice B2 r.steps.length d2,.slice B3 r.lies.length d3,.slice B4 r.crosses.length d4,.slice B5 r.parts.length d5,.slice none 0 0,.slice none 0 0],.agg #[.int .i64 u,.int .i64 a,.int .i64 way]] w
   (RetWI g n ss A0 A1 A2 c0 c1 c2 ov vout ((walkF n ss ov m st r u way far).1,((walkF n ss ov m st r u way far).2:Int)) w):=by
 intro m
 induction m with
 | zero =>
  intro st vout r u way far a B2 B3 B4 B5 d2 d3 d4 d5 w F h2 h3 h4 h5 hcap hI hm
  have h1:=hI.out.bound
  have h2:=hm.out
  omega
 | succ m ih =>
 have IH:=Lib.hid ih
 clear ih
 intro st vout r u way far a B2 B3 B4 B5 d2 d3 d4 d5 w HF H2 H3 H4 H5 hcap hI hm hst hu hway hfar ha
 obtain ⟨iS,hiS,hzS,hyS,hxS⟩:=info_parts info46
 obtain ⟨iP,hiP,hzP,hyP,hxP⟩:=info_parts info48
 obtain ⟨iI,hiI,hzI,hyI,hxI⟩:=info_parts info3
 obtain ⟨iL,hiL,hzL,hyL,hxL⟩:=info_parts info52
 have HG:Hid (Good n):=Lib.hid hr.out.g
 have hgw:=HF.out.f.lt
 obtain ⟨Ao,co,rfl⟩:∃Ao co,vout=.slice Ao st.1.length co:=by obtain ⟨Ao,co,h1,_⟩:=HF.out.out.form;exact ⟨Ao,co,h1⟩
 obtain ⟨q0,q1,q2⟩:=hst.out
 obtain ⟨n1,n2,n3,n4⟩:r.steps.length≤200∧r.lies.length≤200∧r.crosses.length≤200∧r.parts.length≤200:=by
  have a1:=hI.out.bound
  have a2:=HG.out.le
  have a3:=hI.out.liesN
  have a4:=hI.out.crosses
  have a5:=hI.out.parts
  omega
 have hpl:1≤pl n u∧pl n u≤10000000:=pl_in HG.out (by omega) (by omega)
 have HPL:=Lib.hid hpl
 have hab:0≤a∧a≤10000000:=by have h1:=ha.out;have h2:=hfar.out;unfold atOf at h1;split at h1 <;> omega
 obtain ⟨ha0,ha1⟩:=hab
 clear hpl
 go_enter Try.func69,Try.ntmps69
 go_upto_region 1 with (fail)
 obtain ⟨W1,hW1,L1,HX1⟩:∃W,W=(w.alloc (.cells #[.int .i64 r.frm,.int .i64 r.til,.slice B2 r.steps.length d2,.slice B3 r.lies.length d3,.slice B4 r.crosses.length d4,.slice B5 r.parts.length d5,.slice none 0 0,.slice none 0 0] 44)).alloc (.cells #[.int .i64 u,.int .i64 a,.int .i64 way] 124)∧Hid (PJ w W g w.heap.size (.slice Ao st.1.length co) r r.til B2 B3 B4 B5 d2 d3 d4 d5)∧Hid (Blk W (w.heap.size+1) 124 [.int .i64 u,.int .i64 a,.int .i64 way]) :=
  ⟨_,rfl,Lib.hid (PJ.new_ HF.out ((below_alloc _ _).alloc (by simp) _) (Nat.le_refl _) ((Blk.new w _ _ rfl).alloc _) H2.out H3.out H4.out H5.out hcap.out),Lib.hid (Blk.new _ _ _ (by rw [size_alloc]))⟩
 rw [←hW1]
 clear hW1 H2 H3 H4 H5 hcap
 have F1:=Lib.hid (HF.out.below L1.out.K)
 by_cases hfu:full (st.1,st.2+1)
 ·have HW:Hid (walkF n ss ov (m+1) st r (u:Int) way far=(st.1,st.2+1)):=Lib.hid (walkF_full hfu)
  have HFU:Hid (IsFull st.1.length ((st.2:Int)+1) true):=Lib.hid ⟨fun _=>rfl,fun _=>by rcases hfu with h | h;(· exact .inl h);(· exact .inr (by simp only at h;omega))⟩
  have hs:RetWI g n ss A0 A1 A2 c0 c1 c2 ov (.slice Ao st.1.length co) (st.1,((st.2:Int)+1)) w (.returned (.tuple #[])) W1:=⟨rfl,_,F1.out,Keep.of_below L1.out.K,Nx.refl _ _⟩
  clear hfu
  go_wp2_with fail
  refine (implFull true W1 F1.out.f HFU).mono ?_
  rintro e w2 ⟨rfl,rfl⟩
  go_wp2
  go_end0
  rw [HW.out]
  exact hs
 have HNF:=Lib.hid hfu
 have HFU:Hid (IsFull st.1.length ((st.2:Int)+1) false):=Lib.hid ⟨fun h=>absurd (by rcases h with h | h;(· exact .inl h);(· exact .inr (by show 20000 < st.2+1;omega))) hfu,fun h=>by cases h⟩
 have l0:st.1.length≤300:=by have:=HNF.out;unfold full at this;simp only at this;omega
 have l1:st.2+1≤20000:=by have:=HNF.out;unfold full at this;simp only at this;omega
 clear hfu
 have s2:=L1.out.B.cell 2 rfl
 have x0:=HX1.out.cell 0 rfl
 have x2:=HX1.out.cell 2 rfl
 have hhz:w.heap.size < W1.heap.size:=L1.out.B.lt
 have hxz:w.heap.size+1 < W1.heap.size:=HX1.out.lt
 obtain ⟨rb,HRB⟩:∃rb,Hid (pv ((⟨u,way⟩:Step)∈r.steps)=rb):=⟨_,Lib.hid rfl⟩
 go_upto_region 3 with (first | (go_at_call 70;refine (implFull false W1 F1.out.f HFU).mono ?_;rintro e w2 ⟨rfl,rfl⟩) | (go_at_call 95;refine (containsStep B2 d2 r.steps ⟨u,way⟩ W1 L1.out.s).mono ?_;rintro e w3 ⟨rfl,hb3⟩;rw [HRB.out]))
 have L3:=Lib.hid (L1.out.below hb3)
 have HX3:Hid (Blk w3 (w.heap.size+1) 124 [.int .i64 u,.int .i64 a,.int .i64 way]):=Lib.hid (HX1.out.below hb3 HX1.out.lt)
 clear s2 x0 x2 hhz hxz L1 HX1 F1 HFU hb3
 have s2:=L3.out.B.cell 2 rfl
 have x0:=HX3.out.cell 0 rfl
 have x2:=HX3.out.cell 2 rfl
 have hhz:w.heap.size < w3.heap.size:=L3.out.B.lt
 have hxz:w.heap.size+1 < w3.heap.size:=HX3.out.lt
 have hsrc:=L3.out.s
 have HSRCa:=Lib.hid hsrc
 clear hsrc
 have m63:r.steps.length+1≤maxLen:=by simp only [maxLen];omega
 have mby:(r.steps.length+1)*16≤140737488355328:=by omega
 have HSF:Hid (∀w',Below w3.heap.size w3 w'→(fun w'=>w'.cell? ⟨w.heap.size,2,none⟩=some (.slice B2 r.steps.length d2)∧w'.cell? ⟨w.heap.size+1,0,none⟩=some (.int .i64 u)∧w'.cell? ⟨w.heap.size+1,2,none⟩=some (.int .i64 way)) w'):=Lib.hid (fun w' hb=>⟨cell_below hb s2,cell_below hb x0,cell_below hb x2⟩)
 go_wp2
 go_cut [] (fun W6=>∃A8 c8,Hid (PJ w W6 g w.heap.size (.slice Ao st.1.length co) { r with steps:=r.steps++[(⟨u,way⟩:Step)] } r.til A8 B3 B4 B5 c8 d3 d4 d5)∧Hid (Keep (fun b=>b=w.heap.size) w3 W6))
 case first =>
  clear IH hI hm hst HNF HRB hov hr hfar ha HPL
  refine Rg.start 9 (fun w'=>w'.cell? ⟨w.heap.size,2,none⟩=some (.slice B2 r.steps.length d2)∧w'.cell? ⟨w.heap.size+1,0,none⟩=some (.int .i64 u)∧w'.cell? ⟨w.heap.size+1,2,none⟩=some (.int .i64 way)) 12 rfl (by kernel_rfl) ?_
  have hHeld:=HSF.out _ (Below.refl _ _).drew
  refine Rg.pure 0 (v:=?v1) rfl (by kernel_rfl) (fun _ _ _ h=>h) (by rfl) hHeld ?y1 ?h1
  case y1=>(intro wA;go_simp;first | done | with_reducible rfl)
  simp only [Act.put,List.setIfInBounds_toArray,List.set_cons_zero,List.set_cons_succ]
  refine Rg.held 1 (v:=?v2) rfl (by kernel_rfl) (fun _ _ _ h=>h) (by rfl) hHeld ?y2 ?h2
  case y2=>(intro wA hSw;(try dsimp only at hSw);go_simp;first | done | with_reducible rfl)
  simp only [Act.put,List.setIfInBounds_toArray,List.set_cons_zero,List.set_cons_succ]
  refine Rg.pure 3 (v:=?v3) rfl (by kernel_rfl) (fun _ _ _ h=>h) (by rfl) hHeld ?y3 ?h3
  case y3=>(intro wA;go_simp;first | done | with_reducible rfl)
  simp only [Act.put,List.setIfInBounds_toArray,List.set_cons_zero,List.set_cons_succ]
  refine Rg.held 4 (v:=?v4) rfl (by kernel_rfl) (fun _ _ _ h=>h) (by rfl) hHeld ?y4 ?h4
  case y4=>(intro wA hSw;(try dsimp only at hSw);go_simp;first | done | with_reducible rfl)
  simp only [Act.put,List.setIfInBounds_toArray,List.set_cons_zero,List.set_cons_succ]
  refine Rg.pure 5 (v:=?v5) rfl (by kernel_rfl) (fun _ _ _ h=>h) (by rfl) hHeld ?y5 ?h5
  case y5=>(intro wA;go_simp;first | done | with_reducible rfl)
  simp only [Act.put,List.setIfInBounds_toArray,List.set_cons_zero,List.set_cons_succ]
  refine Rg.held 6 (v:=?v6) rfl (by kernel_rfl) (fun _ _ _ h=>h) (by rfl) hHeld ?y6 ?h6
  case y6=>(intro wA hSw;(try dsimp only at hSw);go_simp;first | done | with_reducible rfl)
  simp only [Act.put,List.setIfInBounds_toArray,List.set_cons_zero,List.set_cons_succ]
  refine Rg.pure 7 (v:=?v7) rfl (by kernel_rfl) (fun _ _ _ h=>h) (by rfl) hHeld ?y7 ?h7
  case y7=>(intro wA;go_simp;first | done | with_reducible rfl)
  simp only [Act.put,List.setIfInBounds_toArray,List.set_cons_zero,List.set_cons_succ]
  refine Rg.two 2 8 rfl rfl (by kernel_rfl) (fun K hK=>?_) (fun K hK=>?_)
  ·refine step_is_call 71 rfl rfl ?_
   go_simp
   go_at_call 71
   have hbd:Below w3.heap.size w3 _:=(Below.refl _ _).drew
   (with_reducible refine (cloneStep r.steps B2 d2 _ (Kn.C_below hbd HSRCa.out) (by omega)).mono ?_)
   rintro e wx ⟨Ag,cg,rfl,hcg,HRg,HOg,hbc⟩
   have hbx:Below w3.heap.size w3 wx:=hbd.trans (hbc.mono hbd.size)
   have HOg:Hid (∀b,(Value.slice Ag r.steps.length cg).ownBlock=some b→w3.heap.size≤b):=Lib.hid (fun b hb=>Nat.le_trans hbd.size (HOg.out b hb))
   refine hK.out _ _ (HSF.out _ hbx) ?_
   clear hK K hHeld
   try simp only [Act.put,List.setIfInBounds_toArray,List.set_cons_zero,List.set_cons_succ]
   refine Rg.one 8 rfl (by kernel_rfl) (fun K hK=>?_)
   go_simp
   have hba:Below w3.heap.size w3 (wx.alloc (.cells #[.int .i64 u,.int .i64 way] 46)):=hbx.alloc hbx.size _
   refine hK.out _ _ (HSF.out _ hba) ?_
   clear hK K
   have hsx:=hbx.size
   have hsd:w3.drew.heap.size=w3.heap.size:=rfl
   refine Rg.row [9,10,11] [_,_,_] rfl (by kernel_rfl) ?_
   go_wp2_with (at_builtin;go_loud (refine wpList_append_rw _ rfl (.tmp 31) (.tmp 37) 38 rfl 46 iS _ 16 Try.underlying38 hiS hzS hyS hxS rfl (by decide) (.slice Ag r.steps.length cg) r.steps [(⟨u,way⟩:Step)] rfl (HRg.out.below (below_alloc _ _)) (fun _ h=>h.elim) (some ⟨wx.heap.size,0,none⟩) 1 1 rfl rfl (Kn.Src.one (stepK_mk _ _ (⟨u,way⟩:Step)) (new_cells _ _ _ rfl)) m63 mby ?_;intro v' w2 HR2 hg2 hat2;obtain ⟨A8,c8,rfl,hc8⟩:=HR2.form1;have hbw2:=below_push (hbx.alloc hbx.size _) hg2 HOg.out (hbx.alloc hbx.size _).size;have BH:=Lib.hid (L3.out.B.below hbw2 L3.out.B.lt);have u5:=BH.out.cell 2 rfl;have u7:=BH.out.frozen 2;have hhz2:w.heap.size < w2.heap.size:=BH.out.lt))
   go_meet
   case rel=>exact ⟨A8,c8,Lib.hid (L3.out.setS HF.out hbw2 HR2 (own_next (fun b hb=>Nat.le_trans L3.out.K.size (HOg.out b hb)) hat2 (Nat.le_trans L3.out.K.size (hbx.alloc hbx.size _).size))),Lib.hid (Keep.setCell (S:=fun b=>b=w.heap.size) (p:=⟨w.heap.size,2,none⟩) (Keep.of_below hbw2) (fun _=>rfl) _)⟩
  ·go_simp
   have hbe:Below w3.heap.size w3 ((w3.alloc (.cells #[.int .i64 u,.int .i64 way] 46)).drew):=(below_alloc _ _).drew
   refine hK.out _ _ (HSF.out _ hbe) ?_
   clear hK K
   refine Rg.one 2 rfl (by kernel_rfl) (fun K hK=>?_)
   refine step_is_call 71 rfl rfl ?_
   go_simp
   go_at_call 71
   have hbd:Below w3.heap.size w3 _:=hbe
   (with_reducible refine (cloneStep r.steps B2 d2 _ (Kn.C_below hbd HSRCa.out) (by omega)).mono ?_)
   rintro e wx ⟨Ag,cg,rfl,hcg,HRg,HOg,hbc⟩
   have hbx:Below w3.heap.size w3 wx:=hbd.trans (hbc.mono hbd.size)
   have HOg:Hid (∀b,(Value.slice Ag r.steps.length cg).ownBlock=some b→w3.heap.size≤b):=Lib.hid (fun b hb=>Nat.le_trans hbd.size (HOg.out b hb))
   refine hK.out _ _ (HSF.out _ hbx) ?_
   clear hK K hHeld
   try simp only [Act.put,List.setIfInBounds_toArray,List.set_cons_zero,List.set_cons_succ]
   have hsx:=hbx.size
   have hse:((w3.alloc (.cells #[.int .i64 u,.int .i64 way] 46)).drew).heap.size=w3.heap.size+1:=size_alloc _ _
   refine Rg.row [9,10,11] [_,_,_] rfl (by kernel_rfl) ?_
   go_wp2_with (at_builtin;go_loud (refine wpList_append_rw _ rfl (.tmp 31) (.tmp 37) 38 rfl 46 iS _ 16 Try.underlying38 hiS hzS hyS hxS rfl (by decide) (.slice Ag r.steps.length cg) r.steps [(⟨u,way⟩:Step)] rfl (HRg.out) (fun _ h=>h.elim) (some ⟨w3.heap.size,0,none⟩) 1 1 rfl rfl (Kn.Src.one (stepK_mk _ _ (⟨u,way⟩:Step)) (fun i u hu=>cell_below hbc (new_cells w3 _ _ rfl i u hu))) m63 mby ?_;intro v' w2 HR2 hg2 hat2;obtain ⟨A8,c8,rfl,hc8⟩:=HR2.form1;have hbw2:=below_push hbx hg2 HOg.out hbx.size;have BH:=Lib.hid (L3.out.B.below hbw2 L3.out.B.lt);have u5:=BH.out.cell 2 rfl;have u7:=BH.out.frozen 2;have hhz2:w.heap.size < w2.heap.size:=BH.out.lt))
   go_meet
   case rel=>exact ⟨A8,c8,Lib.hid (L3.out.setS HF.out hbw2 HR2 (own_next (fun b hb=>Nat.le_trans L3.out.K.size (HOg.out b hb)) hat2 (Nat.le_trans L3.out.K.size hbx.size))),Lib.hid (Keep.setCell (S:=fun b=>b=w.heap.size) (p:=⟨w.heap.size,2,none⟩) (Keep.of_below hbw2) (fun _=>rfl) _)⟩
 obtain ⟨A8a,c8a,L8a,K8a⟩:=hcut
 clear HSRCa HSF m63 mby
 obtain ⟨Wa,hWa⟩:∃W,W=wc:=⟨_,rfl⟩
 subst hWa
 have HXa:Hid (Blk Wa (w.heap.size+1) 124 [.int .i64 u,.int .i64 a,.int .i64 way]):=Lib.hid (Blk.eq (K8a.out.block _ HX3.out.lt (by omega)) HX3.out)
 obtain ⟨R1,hR1⟩:∃R1:Route,Hid (({ r with steps:=r.steps++[⟨u,way⟩] }:Route)=R1):=⟨_,Lib.hid rfl⟩
 have L5:Hid (PJ w Wa g w.heap.size (.slice Ao st.1.length co) R1 r.til A8a B3 B4 B5 c8a d3 d4 d5):=Lib.hid (by have:=L8a.out;rw [hR1.out] at this;exact this)
 have F5:=Lib.hid (HF.out.below L5.out.K)
 clear s2 x0 x2 hhz hxz L3 HX3 L8a K8a
 have s2:=F5.out.f.cell 2 rfl
 have x0:=HXa.out.cell 0 rfl
 have x1:=HXa.out.cell 1 rfl
 have x2:=HXa.out.cell 2 rfl
 have hgz:g < Wa.heap.size:=F5.out.f.lt
 have hxz:w.heap.size+1 < Wa.heap.size:=HXa.out.lt
 have HST:Hid (stepP n.pieces.length ⟨u,way⟩):=Lib.hid ⟨⟨by show (0:Int)≤u;omega,by show (u:Int)≤_;omega⟩,hway⟩
 have HF0:Hid (0≤far∧far≤pl n u):=Lib.hid (by have:=hfar.out;omega)
 go_wp2
 go_region_held3 (fun w'=>Below Wa.heap.size Wa w'∧w'.cell? ⟨g,2,none⟩=some (.slice A2 ss.length c2)∧w'.cell? ⟨w.heap.size+1,0,none⟩=some (.int .i64 u)∧w'.cell? ⟨w.heap.size+1,1,none⟩=some (.int .i64 a)∧w'.cell? ⟨w.heap.size+1,2,none⟩=some (.int .i64 way))
  (first | exact ⟨(Below.refl _ _).drew,s2,x0,x1,x2⟩ | exact ⟨hbS.trans (hbc.mono hbS.size),cell_below (hbS.trans (hbc.mono hbS.size)) s2,cell_below (hbS.trans (hbc.mono hbS.size)) x0,cell_below (hbS.trans (hbc.mono hbS.size)) x1,cell_below (hbS.trans (hbc.mono hbS.size)) x2⟩)
  (first | (go_at_call 96;obtain ⟨hbS,_⟩:=‹Below Wa.heap.size Wa _∧_›;(with_reducible refine (implNearest n ss A2 c2 u way far a _ (F5.out.below hbS).sig hr HST HF0 ha).mono ?_);rintro e wz ⟨rfl,hbc⟩))
 obtain ⟨hbF,_⟩:=‹Below Wa.heap.size Wa wz∧_›
 have L6:=Lib.hid (L5.out.below hbF)
 have F6:=Lib.hid (F5.out.below hbF)
 have HX6:Hid (Blk wz (w.heap.size+1) 124 [.int .i64 u,.int .i64 a,.int .i64 way]):=Lib.hid (HXa.out.below hbF HXa.out.lt)
 clear s2 x0 x1 x2 hgz hxz L5 F5 HXa HST HF0 hbF
 obtain ⟨rp,rl,rc,rs1⟩:R1.parts.length=r.parts.length∧R1.lies.length=r.lies.length∧R1.crosses.length=r.crosses.length∧R1.steps.length=r.steps.length+1:=by rw [←hR1.out];simp
 have hrp:R1.parts.length≤200:=by omega
 have HRL:Hid (R1.lies.length≤200∧R1.crosses.length≤200∧R1.steps.length=r.steps.length+1):=Lib.hid (by omega)
 clear rp rl rc rs1
 cases hp:firstTo n ss u way far ss.length with
 | some b =>
  as_aux_lemma =>
  obtain ⟨b1,b2,t,e1,e2,e3,e4⟩:=firstTo_lt hp
  obtain ⟨az,rfl,t0,t1,t2,t3,ET,k0,k1,k2,k3⟩:=signalK_at F6.out.sig b b2
  have HJ:=Lib.hid (sig_in hr.out ET.out)
  obtain rfl:=Option.some.inj (e1.symm.trans ET.out)
  simp only at e2 e3 e4
  subst e2
  subst e3
  have i0:(0:Int)≤(b:Int):=Int.natCast_nonneg _
  have i1:(b:Int) < (ss.length:Int):=by omega
  obtain ⟨fb,hfb⟩:∃fb,Hid (farOf n u t2 t3=fb):=⟨_,Lib.hid rfl⟩
  have HFS:Hid (sigFar n ss b u t3=fb):=Lib.hid (by unfold sigFar;rw [ET.out];exact hfb.out)
  obtain ⟨P,HPt⟩:∃P,Hid (partN n u t3 far fb=P):=⟨_,Lib.hid rfl⟩
  have HPQ:Hid ((⟨u,min a t2,max a t2⟩:Part)=P):=Lib.hid (by
   rw [←HPt.out,ha.out,←hfb.out]
   unfold farOf at e4 ⊢
   unfold partN atOf
   rcases hway with rfl | rfl
   ·simp only [if_pos] at e4 ⊢
    congr 1 <;> omega
   ·rw [if_neg (by decide)] at e4 ⊢
    rw [if_neg (by decide),if_neg (by decide)]
    congr 1 <;> omega)
  have HW:Hid (walkF n ss ov (m+1) st r (u:Int) t3 far=(st.1++[fin n ss (sigR n ss ov r u t3 far b)],st.2+1)):=Lib.hid (walkF_sig HNF.out hp)
  have dz:decide ((0:Int)≤(b:Int))=true:=decide_eq_true (by omega)
  have ht2:0≤t2∧t2≤10000000:=by have:=HJ.out;simp only at this;omega
  obtain ⟨ht20,ht21⟩:=ht2
  have v5:=L6.out.B.cell 5 rfl
  have x0:=HX6.out.cell 0 rfl
  have x1:=HX6.out.cell 1 rfl
  have s2:=F6.out.f.cell 2 rfl
  have hgz:g < wz.heap.size:=F6.out.f.lt
  have hhz:w.heap.size < wz.heap.size:=L6.out.B.lt
  have hxz:w.heap.size+1 < wz.heap.size:=HX6.out.lt
  clear hp e1 e4 k0 k1 k3
  rw [onum_some]
  have hsrc:=L6.out.p
  have HSRCb:=Lib.hid hsrc
  clear hsrc
  have m63:R1.parts.length+1≤maxLen:=by simp only [maxLen];omega
  have mby:(R1.parts.length+1)*24≤140737488355328:=by omega
  have HSF:Hid (∀w',Below wz.heap.size wz w'→(fun w'=>w'.cell? ⟨w.heap.size,5,none⟩=some (.slice B5 R1.parts.length d5)∧w'.cell? ⟨w.heap.size+1,0,none⟩=some (.int .i64 u)∧w'.cell? ⟨w.heap.size+1,1,none⟩=some (.int .i64 a)∧w'.cell? ⟨g,2,none⟩=some (.slice (some az) ss.length c2)∧w'.cell? ⟨(az.add (b*4)).block,(az.add (b*4)).off+2,none⟩=some (.int .i64 t2)) w'):=Lib.hid (fun w' hb=>⟨cell_below hb v5,cell_below hb x0,cell_below hb x1,cell_below hb s2,cell_below hb k2⟩)
  go_wp2
  go_cut [] (fun W6=>∃A8 c8,Hid (PJ w W6 g w.heap.size (.slice Ao st.1.length co) { R1 with parts:=R1.parts++[P] } r.til A8a B3 B4 A8 c8a d3 d4 c8)∧Hid (Keep (fun b=>b=w.heap.size) wz W6))
  case first =>
   clear IH hI hm hst HNF HRB hov hfar ha HPL HFS HPt HW hfb HJ hR1 HRL
   refine Rg.start 17 (fun w'=>w'.cell? ⟨w.heap.size,5,none⟩=some (.slice B5 R1.parts.length d5)∧w'.cell? ⟨w.heap.size+1,0,none⟩=some (.int .i64 u)∧w'.cell? ⟨w.heap.size+1,1,none⟩=some (.int .i64 a)∧w'.cell? ⟨g,2,none⟩=some (.slice (some az) ss.length c2)∧w'.cell? ⟨(az.add (b*4)).block,(az.add (b*4)).off+2,none⟩=some (.int .i64 t2)) 20 rfl (by kernel_rfl) ?_
   have hHeld:=HSF.out _ (Below.refl _ _).drew
   refine Rg.pure 0 (v:=?v8) rfl (by kernel_rfl) (fun _ _ _ h=>h) (by rfl) hHeld ?y8 ?h8
   case y8=>(intro wA;go_simp;first | done | with_reducible rfl)
   simp only [Act.put,List.setIfInBounds_toArray,List.set_cons_zero,List.set_cons_succ]
   refine Rg.held 1 (v:=?v9) rfl (by kernel_rfl) (fun _ _ _ h=>h) (by rfl) hHeld ?y9 ?h9
   case y9=>(intro wA hSw;(try dsimp only at hSw);go_simp;first | done | with_reducible rfl)
   simp only [Act.put,List.setIfInBounds_toArray,List.set_cons_zero,List.set_cons_succ]
   refine Rg.pure 3 (v:=?v10) rfl (by kernel_rfl) (fun _ _ _ h=>h) (by rfl) hHeld ?y10 ?h10
   case y10=>(intro wA;go_simp;first | done | with_reducible rfl)
   simp only [Act.put,List.setIfInBounds_toArray,List.set_cons_zero,List.set_cons_succ]
   refine Rg.held 4 (v:=?v11) rfl (by kernel_rfl) (fun _ _ _ h=>h) (by rfl) hHeld ?y11 ?h11
   case y11=>(intro wA hSw;(try dsimp only at hSw);go_simp;first | done | with_reducible rfl)
   simp only [Act.put,List.setIfInBounds_toArray,List.set_cons_zero,List.set_cons_succ]
   refine Rg.pure 5 (v:=?v12) rfl (by kernel_rfl) (fun _ _ _ h=>h) (by rfl) hHeld ?y12 ?h12
   case y12=>(intro wA;go_simp;first | done | with_reducible rfl)
   simp only [Act.put,List.setIfInBounds_toArray,List.set_cons_zero,List.set_cons_succ]
   refine Rg.held 6 (v:=?v13) rfl (by kernel_rfl) (fun _ _ _ h=>h) (by rfl) hHeld ?y13 ?h13
   case y13=>(intro wA hSw;(try dsimp only at hSw);go_simp;first | done | with_reducible rfl)
   simp only [Act.put,List.setIfInBounds_toArray,List.set_cons_zero,List.set_cons_succ]
   refine Rg.pure 7 (v:=?v14) rfl (by kernel_rfl) (fun _ _ _ h=>h) (by rfl) hHeld ?y14 ?h14
   case y14=>(intro wA;go_simp;first | done | with_reducible rfl)
   simp only [Act.put,List.setIfInBounds_toArray,List.set_cons_zero,List.set_cons_succ]
   refine Rg.pure 8 (v:=?v15) rfl (by kernel_rfl) (fun _ _ _ h=>h) (by rfl) hHeld ?y15 ?h15
   case y15=>(intro wA;go_simp;first | done | with_reducible rfl)
   simp only [Act.put,List.setIfInBounds_toArray,List.set_cons_zero,List.set_cons_succ]
   refine Rg.pure 9 (v:=?v16) rfl (by kernel_rfl) (fun _ _ _ h=>h) (by rfl) hHeld ?y16 ?h16
   case y16=>(intro wA;go_simp;first | done | with_reducible rfl)
   simp only [Act.put,List.setIfInBounds_toArray,List.set_cons_zero,List.set_cons_succ]
   refine Rg.held 10 (v:=?v17) rfl (by kernel_rfl) (fun _ _ _ h=>h) (by rfl) hHeld ?y17 ?h17
   case y17=>(intro wA hSw;(try dsimp only at hSw);go_simp;first | done | with_reducible rfl)
   simp only [Act.put,List.setIfInBounds_toArray,List.set_cons_zero,List.set_cons_succ]
   refine Rg.pure 11 (v:=?v18) rfl (by kernel_rfl) (fun _ _ _ h=>h) (by rfl) hHeld ?y18 ?h18
   case y18=>(intro wA;go_simp;first | done | with_reducible rfl)
   simp only [Act.put,List.setIfInBounds_toArray,List.set_cons_zero,List.set_cons_succ]
   refine Rg.pure 12 (v:=?v19) rfl (by kernel_rfl) (fun _ _ _ h=>h) (by rfl) hHeld ?y19 ?h19
   case y19=>(intro wA;go_simp;first | done | with_reducible rfl)
   simp only [Act.put,List.setIfInBounds_toArray,List.set_cons_zero,List.set_cons_succ]
   refine Rg.pure 13 (v:=?v20) rfl (by kernel_rfl) (fun _ _ _ h=>h) (by rfl) hHeld ?y20 ?h20
   case y20=>(intro wA;go_simp;first | done | with_reducible rfl)
   simp only [Act.put,List.setIfInBounds_toArray,List.set_cons_zero,List.set_cons_succ]
   refine Rg.held 14 (v:=?v21) rfl (by kernel_rfl) (fun _ _ _ h=>h) (by rfl) hHeld ?y21 ?h21
   case y21=>(intro wA hSw;(try dsimp only at hSw);go_simp;first | done | with_reducible rfl)
   simp only [Act.put,List.setIfInBounds_toArray,List.set_cons_zero,List.set_cons_succ]
   refine Rg.one 2 rfl (by kernel_rfl) (fun K hK=>?_)
   refine step_is_call 74 rfl rfl ?_
   go_simp
   go_at_call 74
   have hbd:Below wz.heap.size wz _:=(Below.refl _ _).drew
   (with_reducible refine (clonePart R1.parts B5 d5 _ (Kn.C_below hbd HSRCb.out) (by omega)).mono ?_)
   rintro e wx ⟨Ag,cg,rfl,hcg,HRg,HOg,hbc⟩
   have hbx:Below wz.heap.size wz wx:=hbd.trans (hbc.mono hbd.size)
   have HOg:Hid (∀b,(Value.slice Ag R1.parts.length cg).ownBlock=some b→wz.heap.size≤b):=Lib.hid (fun b hb=>Nat.le_trans hbd.size (HOg.out b hb))
   refine hK.out _ _ (HSF.out _ hbx) ?_
   clear hK K hHeld
   try simp only [Act.put,List.setIfInBounds_toArray,List.set_cons_zero,List.set_cons_succ]
   refine Rg.one 15 rfl (by kernel_rfl) (fun K hK=>?_)
   refine step_is_call 97 rfl rfl ?_
   go_simp
   go_at_call 97
   (with_reducible refine (partOf_q (P:=P) HPQ.out).mono ?_)
   rintro e wp ⟨rfl,hbp⟩
   have hbq:Below wz.heap.size wz wp:=hbx.trans (hbp.mono hbx.size)
   refine hK.out _ _ (HSF.out _ hbq) ?_
   clear hK K
   try simp only [Act.put,List.setIfInBounds_toArray,List.set_cons_zero,List.set_cons_succ]
   refine Rg.one 16 rfl (by kernel_rfl) (fun K hK=>?_)
   go_simp
   have hba:Below wz.heap.size wz (wp.alloc (.cells #[.int .i64 P.piece,.int .i64 P.frm,.int .i64 P.til] 48)):=hbq.alloc hbq.size _
   refine hK.out _ _ (HSF.out _ hba) ?_
   clear hK K
   have hsx:=hbx.size
   have hsq:=hbq.size
   have hsd:wz.drew.heap.size=wz.heap.size:=rfl
   refine Rg.row [17,18,19] [_,_,_] rfl (by kernel_rfl) ?_
   go_wp2_with (at_builtin;go_loud (refine wpList_append_rw _ rfl (.tmp 50) (.tmp 64) 41 rfl 48 iP _ 24 Try.underlying41 hiP hzP hyP hxP rfl (by decide) (.slice Ag R1.parts.length cg) R1.parts [P] rfl ((HRg.out.below hbp).below (below_alloc _ _)) (fun _ h=>h.elim) (some ⟨wp.heap.size,0,none⟩) 1 1 rfl rfl (Kn.Src.one (partK_mk _ _ P) (new_cells _ _ _ rfl)) m63 mby ?_;intro v' w2 HR2 hg2 hat2;obtain ⟨A8,c8,rfl,hc8⟩:=HR2.form1;have hbw2:=below_push (hbq.alloc hbq.size _) hg2 HOg.out (hbq.alloc hbq.size _).size;have BH:=Lib.hid (L6.out.B.below hbw2 L6.out.B.lt);have u5:=BH.out.cell 5 rfl;have u7:=BH.out.frozen 5;have hhz2:w.heap.size < w2.heap.size:=BH.out.lt))
   go_meet
   case rel=>exact ⟨A8,c8,Lib.hid (L6.out.setP HF.out hbw2 HR2 (own_next (fun b hb=>Nat.le_trans L6.out.K.size (HOg.out b hb)) hat2 (Nat.le_trans L6.out.K.size (hbq.alloc hbq.size _).size))),Lib.hid (Keep.setCell (S:=fun b=>b=w.heap.size) (p:=⟨w.heap.size,5,none⟩) (Keep.of_below hbw2) (fun _=>rfl) _)⟩
  obtain ⟨A8b,c8b,L8b,K8b⟩:=hcut
  clear HSRCb HSF m63 mby
  obtain ⟨R2,hR2⟩:∃R2:Route,Hid (({ R1 with parts:=R1.parts++[P] }:Route)=R2):=⟨_,Lib.hid rfl⟩
  have L7:Hid (PJ w wc g w.heap.size (.slice Ao st.1.length co) R2 r.til A8a B3 B4 A8b c8a d3 d4 c8b):=Lib.hid (by have:=L8b.out;rw [hR2.out] at this;exact this)
  clear v5 x0 x1 s2 hgz hhz hxz L6 F6 HX6 L8b K8b dz k2
  have i1':=L7.out.B.cell 1 rfl
  have j1':=L7.out.B.frozen 1
  have hhz:w.heap.size < wc.heap.size:=L7.out.B.lt
  go_upto_region 8 with (fail)
  obtain ⟨W8,hW8,L8⟩:∃W,W=wc.setCell ⟨w.heap.size,1,none⟩ (.int .i64 b)∧Hid (PJ w W g w.heap.size (.slice Ao st.1.length co) R2 b A8a B3 B4 A8b c8a d3 d4 c8b):=⟨_,rfl,Lib.hid (L7.out.til b)⟩
  rw [←hW8]
  clear hW8 i1' j1' hhz L7
  have F8:=HF.out.below L8.out.K
  obtain ⟨O6,HOO⟩:∃O6,Hid (beyond n (ov.toNat+1) u t3 (farOf n u t2 t3) ov=O6):=⟨_,Lib.hid rfl⟩
  obtain ⟨Q,HQ⟩:∃Q:Route,Hid (({ R2 with til:=(b:Int),over:=O6 }:Route)=Q):=⟨_,Lib.hid rfl⟩
  have HQS:Hid (sigR n ss ov r u t3 far b=Q):=Lib.hid (by rw [←HQ.out,←hR2.out,←hR1.out];unfold sigR Route.on;rw [HFS.out,HPt.out,←HOO.out,hfb.out])
  obtain ⟨g2,g3,g4,g5⟩:=L8.out.lists
  have hlies:R2.lies=r.lies:=by rw [←hR2.out,←hR1.out]
  have hD:=implFoundSig R2 Q b u t0 t2 t3 O6 hr hov F8 ET HOO HQ g2 g3 g4 g5 (Lib.hid L8.out.cap) (by rw [hlies];omega) (Lib.hid (by rw [hlies];exact hI.out.lies)) l0
  have y0:=L8.out.B.cell 0 rfl
  have y1:=L8.out.B.cell 1 rfl
  have y2:=L8.out.B.cell 2 rfl
  have y3:=L8.out.B.cell 3 rfl
  have y4:=L8.out.B.cell 4 rfl
  have y5:=L8.out.B.cell 5 rfl
  have y6:=L8.out.B.cell 6 rfl
  have y7:=L8.out.B.cell 7 rfl
  have hhz:w.heap.size < W8.heap.size:=L8.out.B.lt
  clear g2 g3 g4 g5 F8 hlies
  go_wp2_with fail
  refine hD.mono ?_
  intro e wd hRD
  have hRD:=hRD.after (Keep.of_below L8.out.K) (Nx.refl _ _)
  rw [←HQS.out] at hRD
  obtain ⟨rfl,hRD⟩:=id hRD
  go_wp2
  go_end0
  rw [HW.out]
  exact hRD
 | none =>
  by_cases hin:(⟨u,way⟩:Step)∈r.steps
  ·obtain rfl:rb=true:=by rw [←HRB.out,pv_true hin]
   have HW:Hid (walkF n ss ov (m+1) st r (u:Int) way far=(st.1,st.2+1)):=Lib.hid (walkF_round HNF.out hp hin)
   have hs:RetWI g n ss A0 A1 A2 c0 c1 c2 ov (.slice Ao st.1.length co) (st.1,((st.2:Int)+1)) w (.returned (.tuple #[])) wz:=⟨rfl,_,F6.out,Keep.of_below L6.out.K,Nx.refl _ _⟩
   clear hp
   rw [onum_none]
   go_wp2
   go_end0
   rw [HW.out]
   exact hs
  obtain rfl:rb=false:=by rw [←HRB.out,pv_false hin]
  have HIN:=Lib.hid hin
  have HFN:=Lib.hid hp
  clear hin hp HRB
  obtain ⟨z1,hz1⟩:∃z1,Hid (pl n u=z1):=⟨_,Lib.hid rfl⟩
  obtain ⟨P,HPt⟩:∃P,Hid (partN n u way far z1=P):=⟨_,Lib.hid rfl⟩
  obtain ⟨e0,HE⟩:∃e0,Hid (headE u way=e0):=⟨_,Lib.hid rfl⟩
  obtain ⟨en0,HEN⟩:∃en0:Int,Hid ((if way=1 then z1 else 0)=en0):=⟨_,Lib.hid rfl⟩
  have HPQ:Hid ((⟨u,min a en0,max a en0⟩:Part)=P):=Lib.hid (by
   rw [←HPt.out,ha.out,←HEN.out,←hz1.out]
   have h1:=hfar.out
   unfold partN atOf
   rcases hway with rfl | rfl
   ·simp only [if_pos]
    congr 1 <;> omega
   ·rw [if_neg (by decide),if_neg (by decide),if_neg (by decide)]
    congr 1 <;> omega)
  have x0:=HX6.out.cell 0 rfl
  have x2:=HX6.out.cell 2 rfl
  have hxz:w.heap.size+1 < wz.heap.size:=HX6.out.lt
  rw [onum_none]
  go_upto_if 80 with (go_at_call 99;refine (implLooked u way wz).mono ?_;rintro e w7 ⟨rfl,hb7⟩;rw [HE.out])
  obtain ⟨W8,hW8,hb8,HE8⟩:∃W,W=w7.alloc (.cells #[.int .i64 e0.piece,.int .i64 e0.side] 102)∧Below wz.heap.size wz W∧Hid (Blk W w7.heap.size 102 [.int .i64 e0.piece,.int .i64 e0.side]):=⟨_,rfl,hb7.alloc hb7.size _,Lib.hid (Blk.new _ _ _ rfl)⟩
  rw [←hW8]
  obtain ⟨be,hbe⟩:∃be,Hid (w7.heap.size=be):=⟨_,Lib.hid rfl⟩
  have hwe:w.heap.size≤w7.heap.size:=Nat.le_trans L6.out.K.size hb7.size
  have hhe:w.heap.size < w7.heap.size:=Nat.lt_of_lt_of_le L6.out.B.lt hb7.size
  rw [hbe.out] at HE8 hwe hhe
  rw [hbe.out]
  have L8:=Lib.hid (L6.out.below hb8)
  have F8:=Lib.hid (F6.out.below hb8)
  have HX8:Hid (Blk W8 (w.heap.size+1) 124 [.int .i64 u,.int .i64 a,.int .i64 way]):=Lib.hid (HX6.out.below hb8 HX6.out.lt)
  clear hW8 x0 x2 hxz L6 F6 HX6 hb7 hb8
  go_cut [9] (fun s9 W9=>s9=.int .i64 en0∧Hid (Below W8.heap.size W8 W9))
  case first =>
   clear IH hI hm hst HNF hov hr ha HPL HPt HPQ
   have z1':=HE8.out.cell 1 rfl
   have hez:be < W8.heap.size:=HE8.out.lt
   rcases hway with rfl | rfl
   ·have hee:e0.side=1:=by rw [←HE.out];rfl
    have d1:(e0.side == 1)=true:=int_eqt hee
    have hen:Hid (z1=en0):=Lib.hid (by rw [←HEN.out,if_pos rfl])
    obtain ⟨ap,rfl,p0,p1,p2,p3,EP,k0,k1,k2,k3⟩:=pieceK_at F8.out.net.p u hu
    obtain rfl:p1=z1:=by rw [←hz1.out];exact (pl_get EP.out).symm
    have x0:=HX8.out.cell 0 rfl
    have t0:=F8.out.f.cell 0 rfl
    have hgz:g < W8.heap.size:=F8.out.f.lt
    have hxz:w.heap.size+1 < W8.heap.size:=HX8.out.lt
    have j0:(0:Int)≤(u:Int):=Int.natCast_nonneg _
    have j1:(u:Int) < (n.pieces.length:Int):=by omega
    clear hee k0 k2 k3
    go_wp2
    refine Rg.start 10 (fun w'=>w'.cell? ⟨g,0,none⟩=some (.slice (some ap) n.pieces.length c0)∧w'.cell? ⟨w.heap.size+1,0,none⟩=some (.int .i64 u)∧w'.cell? ⟨(ap.add (u*4)).block,(ap.add (u*4)).off+1,none⟩=some (.int .i64 p1)) 11 rfl (by kernel_rfl) ?_
    have hHeld:(fun w'=>w'.cell? ⟨g,0,none⟩=some (.slice (some ap) n.pieces.length c0)∧w'.cell? ⟨w.heap.size+1,0,none⟩=some (.int .i64 u)∧w'.cell? ⟨(ap.add (u*4)).block,(ap.add (u*4)).off+1,none⟩=some (.int .i64 p1)) W8.drew:=⟨t0,x0,k1⟩
    refine Rg.pure 0 (v:=?v22) rfl (by kernel_rfl) (fun _ _ _ h=>h) (by rfl) hHeld ?y22 ?h22
    case y22=>(intro wA;go_simp;first | done | with_reducible rfl)
    simp only [Act.put,List.setIfInBounds_toArray,List.set_cons_zero,List.set_cons_succ]
    refine Rg.pure 1 (v:=?v23) rfl (by kernel_rfl) (fun _ _ _ h=>h) (by rfl) hHeld ?y23 ?h23
    case y23=>(intro wA;go_simp;first | done | with_reducible rfl)
    simp only [Act.put,List.setIfInBounds_toArray,List.set_cons_zero,List.set_cons_succ]
    refine Rg.pure 2 (v:=?v24) rfl (by kernel_rfl) (fun _ _ _ h=>h) (by rfl) hHeld ?y24 ?h24
    case y24=>(intro wA;go_simp;first | done | with_reducible rfl)
    simp only [Act.put,List.setIfInBounds_toArray,List.set_cons_zero,List.set_cons_succ]
    refine Rg.pure 3 (v:=?v25) rfl (by kernel_rfl) (fun _ _ _ h=>h) (by rfl) hHeld ?y25 ?h25
    case y25=>(intro wA;go_simp;first | done | with_reducible rfl)
    simp only [Act.put,List.setIfInBounds_toArray,List.set_cons_zero,List.set_cons_succ]
    refine Rg.held 4 (v:=?v26) rfl (by kernel_rfl) (fun _ _ _ h=>h) (by rfl) hHeld ?y26 ?h26
    case y26=>(intro wA hSw;(try dsimp only at hSw);go_simp;first | done | with_reducible rfl)
    simp only [Act.put,List.setIfInBounds_toArray,List.set_cons_zero,List.set_cons_succ]
    refine Rg.pure 5 (v:=?v27) rfl (by kernel_rfl) (fun _ _ _ h=>h) (by rfl) hHeld ?y27 ?h27
    case y27=>(intro wA;go_simp;first | done | with_reducible rfl)
    simp only [Act.put,List.setIfInBounds_toArray,List.set_cons_zero,List.set_cons_succ]
    refine Rg.held 6 (v:=?v28) rfl (by kernel_rfl) (fun _ _ _ h=>h) (by rfl) hHeld ?y28 ?h28
    case y28=>(intro wA hSw;(try dsimp only at hSw);go_simp;first | done | with_reducible rfl)
    simp only [Act.put,List.setIfInBounds_toArray,List.set_cons_zero,List.set_cons_succ]
    refine Rg.pure 7 (v:=?v29) rfl (by kernel_rfl) (fun _ _ _ h=>h) (by rfl) hHeld ?y29 ?h29
    case y29=>(intro wA;go_simp;first | done | with_reducible rfl)
    simp only [Act.put,List.setIfInBounds_toArray,List.set_cons_zero,List.set_cons_succ]
    refine Rg.pure 8 (v:=?v30) rfl (by kernel_rfl) (fun _ _ _ h=>h) (by rfl) hHeld ?y30 ?h30
    case y30=>(intro wA;go_simp;first | done | with_reducible rfl)
    simp only [Act.put,List.setIfInBounds_toArray,List.set_cons_zero,List.set_cons_succ]
    refine Rg.held 9 (v:=?v31) rfl (by kernel_rfl) (fun _ _ _ h=>h) (by rfl) hHeld ?y31 ?h31
    case y31=>(intro wA hSw;(try dsimp only at hSw);go_simp;first | done | with_reducible rfl)
    simp only [Act.put,List.setIfInBounds_toArray,List.set_cons_zero,List.set_cons_succ]
    refine Rg.row [10] [_] rfl (by kernel_rfl) ?_
    clear hHeld
    go_wp2
    go_meet
    case rel=>exact ⟨by rw [hen.out],Lib.hid (Below.refl _ _).drew⟩
   ·have hee:e0.side=0:=by rw [←HE.out];rfl
    have d1:(e0.side == 1)=false:=int_eqf (by omega)
    have hen:Hid (0=en0):=Lib.hid (by rw [←HEN.out,if_neg (by decide)])
    clear hee
    go_wp2
    go_meet
    case rel=>exact ⟨by rw [hen.out],Lib.hid (Below.refl _ _)⟩
  obtain ⟨rfl,hb9⟩:=hcut
  obtain ⟨W9,hW9⟩:∃W,W=wc:=⟨_,rfl⟩
  subst hW9
  have L9:=Lib.hid (L8.out.below hb9.out)
  have HX9:Hid (Blk W9 (w.heap.size+1) 124 [.int .i64 u,.int .i64 a,.int .i64 way]):=Lib.hid (HX8.out.below hb9.out HX8.out.lt)
  have HE9:Hid (Blk W9 be 102 [.int .i64 e0.piece,.int .i64 e0.side]):=Lib.hid (HE8.out.below hb9.out HE8.out.lt)
  clear hb9 L8 F8 HX8 HE8
  have v5:=L9.out.B.cell 5 rfl
  have x0:=HX9.out.cell 0 rfl
  have x1:=HX9.out.cell 1 rfl
  have hhz:w.heap.size < W9.heap.size:=L9.out.B.lt
  have hxz:w.heap.size+1 < W9.heap.size:=HX9.out.lt
  have hsrc:=L9.out.p
  have HSRCc:=Lib.hid hsrc
  clear hsrc
  have m63:R1.parts.length+1≤maxLen:=by simp only [maxLen];omega
  have mby:(R1.parts.length+1)*24≤140737488355328:=by omega
  have HSF:Hid (∀w',Below W9.heap.size W9 w'→(fun w'=>w'.cell? ⟨w.heap.size,5,none⟩=some (.slice B5 R1.parts.length d5)∧w'.cell? ⟨w.heap.size+1,0,none⟩=some (.int .i64 u)∧w'.cell? ⟨w.heap.size+1,1,none⟩=some (.int .i64 a)) w'):=Lib.hid (fun w' hb=>⟨cell_below hb v5,cell_below hb x0,cell_below hb x1⟩)
  go_wp2
  go_cut [] (fun W6=>∃A8 c8,Hid (PJ w W6 g w.heap.size (.slice Ao st.1.length co) { R1 with parts:=R1.parts++[P] } r.til A8a B3 B4 A8 c8a d3 d4 c8)∧Hid (Keep (fun b=>b=w.heap.size) W9 W6))
  case first =>
   clear IH hI hm hst HNF hov hr hfar ha HPL HPt hR1 HRL HEN
   refine Rg.start 10 (fun w'=>w'.cell? ⟨w.heap.size,5,none⟩=some (.slice B5 R1.parts.length d5)∧w'.cell? ⟨w.heap.size+1,0,none⟩=some (.int .i64 u)∧w'.cell? ⟨w.heap.size+1,1,none⟩=some (.int .i64 a)) 13 rfl (by kernel_rfl) ?_
   have hHeld:=HSF.out _ (Below.refl _ _).drew
   refine Rg.pure 0 (v:=?v32) rfl (by kernel_rfl) (fun _ _ _ h=>h) (by rfl) hHeld ?y32 ?h32
   case y32=>(intro wA;go_simp;first | done | with_reducible rfl)
   simp only [Act.put,List.setIfInBounds_toArray,List.set_cons_zero,List.set_cons_succ]
   refine Rg.held 1 (v:=?v33) rfl (by kernel_rfl) (fun _ _ _ h=>h) (by rfl) hHeld ?y33 ?h33
   case y33=>(intro wA hSw;(try dsimp only at hSw);go_simp;first | done | with_reducible rfl)
   simp only [Act.put,List.setIfInBounds_toArray,List.set_cons_zero,List.set_cons_succ]
   refine Rg.pure 3 (v:=?v34) rfl (by kernel_rfl) (fun _ _ _ h=>h) (by rfl) hHeld ?y34 ?h34
   case y34=>(intro wA;go_simp;first | done | with_reducible rfl)
   simp only [Act.put,List.setIfInBounds_toArray,List.set_cons_zero,List.set_cons_succ]
   refine Rg.held 4 (v:=?v35) rfl (by kernel_rfl) (fun _ _ _ h=>h) (by rfl) hHeld ?y35 ?h35
   case y35=>(intro wA hSw;(try dsimp only at hSw);go_simp;first | done | with_reducible rfl)
   simp only [Act.put,List.setIfInBounds_toArray,List.set_cons_zero,List.set_cons_succ]
   refine Rg.pure 5 (v:=?v36) rfl (by kernel_rfl) (fun _ _ _ h=>h) (by rfl) hHeld ?y36 ?h36
   case y36=>(intro wA;go_simp;first | done | with_reducible rfl)
   simp only [Act.put,List.setIfInBounds_toArray,List.set_cons_zero,List.set_cons_succ]
   refine Rg.held 6 (v:=?v37) rfl (by kernel_rfl) (fun _ _ _ h=>h) (by rfl) hHeld ?y37 ?h37
   case y37=>(intro wA hSw;(try dsimp only at hSw);go_simp;first | done | with_reducible rfl)
   simp only [Act.put,List.setIfInBounds_toArray,List.set_cons_zero,List.set_cons_succ]
   refine Rg.pure 7 (v:=?v38) rfl (by kernel_rfl) (fun _ _ _ h=>h) (by rfl) hHeld ?y38 ?h38
   case y38=>(intro wA;go_simp;first | done | with_reducible rfl)
   simp only [Act.put,List.setIfInBounds_toArray,List.set_cons_zero,List.set_cons_succ]
   refine Rg.one 2 rfl (by kernel_rfl) (fun K hK=>?_)
   refine step_is_call 74 rfl rfl ?_
   go_simp
   go_at_call 74
   have hbd:Below W9.heap.size W9 _:=(Below.refl _ _).drew
   (with_reducible refine (clonePart R1.parts B5 d5 _ (Kn.C_below hbd HSRCc.out) (by omega)).mono ?_)
   rintro e wx ⟨Ag,cg,rfl,hcg,HRg,HOg,hbc⟩
   have hbx:Below W9.heap.size W9 wx:=hbd.trans (hbc.mono hbd.size)
   have HOg:Hid (∀b,(Value.slice Ag R1.parts.length cg).ownBlock=some b→W9.heap.size≤b):=Lib.hid (fun b hb=>Nat.le_trans hbd.size (HOg.out b hb))
   refine hK.out _ _ (HSF.out _ hbx) ?_
   clear hK K hHeld
   try simp only [Act.put,List.setIfInBounds_toArray,List.set_cons_zero,List.set_cons_succ]
   refine Rg.one 8 rfl (by kernel_rfl) (fun K hK=>?_)
   refine step_is_call 97 rfl rfl ?_
   go_simp
   go_at_call 97
   (with_reducible refine (partOf_q (P:=P) HPQ.out).mono ?_)
   rintro e wp ⟨rfl,hbp⟩
   have hbq:Below W9.heap.size W9 wp:=hbx.trans (hbp.mono hbx.size)
   refine hK.out _ _ (HSF.out _ hbq) ?_
   clear hK K
   try simp only [Act.put,List.setIfInBounds_toArray,List.set_cons_zero,List.set_cons_succ]
   refine Rg.one 9 rfl (by kernel_rfl) (fun K hK=>?_)
   go_simp
   have hba:Below W9.heap.size W9 (wp.alloc (.cells #[.int .i64 P.piece,.int .i64 P.frm,.int .i64 P.til] 48)):=hbq.alloc hbq.size _
   refine hK.out _ _ (HSF.out _ hba) ?_
   clear hK K
   have hsx:=hbx.size
   have hsq:=hbq.size
   have hsd:W9.drew.heap.size=W9.heap.size:=rfl
   refine Rg.row [10,11,12] [_,_,_] rfl (by kernel_rfl) ?_
   go_wp2_with (at_builtin;go_loud (refine wpList_append_rw _ rfl (.tmp 93) (.tmp 100) 41 rfl 48 iP _ 24 Try.underlying41 hiP hzP hyP hxP rfl (by decide) (.slice Ag R1.parts.length cg) R1.parts [P] rfl ((HRg.out.below hbp).below (below_alloc _ _)) (fun _ h=>h.elim) (some ⟨wp.heap.size,0,none⟩) 1 1 rfl rfl (Kn.Src.one (partK_mk _ _ P) (new_cells _ _ _ rfl)) m63 mby ?_;intro v' w2 HR2 hg2 hat2;obtain ⟨A8,c8,rfl,hc8⟩:=HR2.form1;have hbw2:=below_push (hbq.alloc hbq.size _) hg2 HOg.out (hbq.alloc hbq.size _).size;have BH:=Lib.hid (L9.out.B.below hbw2 L9.out.B.lt);have u5:=BH.out.cell 5 rfl;have u7:=BH.out.frozen 5;have hhz2:w.heap.size < w2.heap.size:=BH.out.lt))
   go_meet
   case rel=>exact ⟨A8,c8,Lib.hid (L9.out.setP HF.out hbw2 HR2 (own_next (fun b hb=>Nat.le_trans L9.out.K.size (HOg.out b hb)) hat2 (Nat.le_trans L9.out.K.size (hbq.alloc hbq.size _).size))),Lib.hid (Keep.setCell (S:=fun b=>b=w.heap.size) (p:=⟨w.heap.size,5,none⟩) (Keep.of_below hbw2) (fun _=>rfl) _)⟩
  obtain ⟨A8c,c8c,L8c,K8c⟩:=hcut
  clear HSRCc HSF m63 mby
  obtain ⟨R2,hR2⟩:∃R2:Route,Hid (({ R1 with parts:=R1.parts++[P] }:Route)=R2):=⟨_,Lib.hid rfl⟩
  obtain ⟨Wb,hWb⟩:∃W,W=wc:=⟨_,rfl⟩
  subst hWb
  have L10:Hid (PJ w Wb g w.heap.size (.slice Ao st.1.length co) R2 r.til A8a B3 B4 A8c c8a d3 d4 c8c):=Lib.hid (by have:=L8c.out;rw [hR2.out] at this;exact this)
  have HE10:Hid (Blk Wb be 102 [.int .i64 e0.piece,.int .i64 e0.side]):=Lib.hid (Blk.eq (K8c.out.block _ HE9.out.lt (by omega)) HE9.out)
  have F10:=Lib.hid (HF.out.below L10.out.K)
  clear v5 x0 x1 hhz hxz L9 HX9 HE9 L8c K8c HPQ HEN
  have HEP:Hid (stepP n.pieces.length ⟨u,way⟩):=Lib.hid ⟨⟨by show (0:Int)≤u;omega,by show (u:Int)≤_;omega⟩,hway⟩
  have HEO:Hid (endP n.pieces.length e0):=Lib.hid (by rw [←HE.out];exact head_ok HEP.out)
  obtain ⟨j,kj,x,hat,hjk,hx,hP,hjl,hkl⟩:=at_get HG.out HEO.out
  have HA:=Lib.hid hjk
  have HX:=Lib.hid hx
  have HAT:=Lib.hid hat
  have HAH:Hid (atJ n (headE u way)=(j,kj)):=Lib.hid (by rw [HE.out];exact hjk)
  have HJP:=Lib.hid hP
  clear hjk hx hat hP
  have m0:(0:Int)≤(j:Int):=Int.natCast_nonneg _
  have m1:(j:Int) < (n.joints.length:Int):=by omega
  have t0:=F10.out.f.cell 0 rfl
  have t1:=F10.out.f.cell 1 rfl
  have b0:=HE10.out.cell 0 rfl
  have b1:=HE10.out.cell 1 rfl
  have hgz:g < Wb.heap.size:=F10.out.f.lt
  have hez:be < Wb.heap.size:=HE10.out.lt
  go_wp2
  have HSF:Hid (∀w',Below Wb.heap.size Wb w'→(fun w'=>w'.cell? ⟨g,0,none⟩=some (.slice A0 n.pieces.length c0)∧w'.cell? ⟨g,1,none⟩=some (.slice A1 n.joints.length c1)∧w'.cell? ⟨be,0,none⟩=some (.int .i64 e0.piece)∧w'.cell? ⟨be,1,none⟩=some (.int .i64 e0.side)) w'):=Lib.hid (fun w' hb=>⟨cell_below hb t0,cell_below hb t1,cell_below hb b0,cell_below hb b1⟩)
  go_cut [10,11] (fun s10 s11 W11=>∃bj,s10=.pointer (some ⟨bj,0,none⟩)∧s11=.int .i64 kj∧Hid (Blk W11 bj 3 [.int .i64 j])∧Hid (Below Wb.heap.size Wb W11)∧Hid (Wb.heap.size≤bj))
  case first =>
   clear IH hI hm hst HNF hov hr hfar ha HPL HPt hR1 hR2 HRL HIN HFN HX HAT HAH HJP
   refine Rg.start 10 (fun w'=>w'.cell? ⟨g,0,none⟩=some (.slice A0 n.pieces.length c0)∧w'.cell? ⟨g,1,none⟩=some (.slice A1 n.joints.length c1)∧w'.cell? ⟨be,0,none⟩=some (.int .i64 e0.piece)∧w'.cell? ⟨be,1,none⟩=some (.int .i64 e0.side)) 12 rfl (by kernel_rfl) ?_
   have hHeld:=HSF.out _ (Below.refl _ _).drew
   refine Rg.pure 0 (v:=?v39) rfl (by kernel_rfl) (fun _ _ _ h=>h) (by rfl) hHeld ?y39 ?h39
   case y39=>(intro wA;go_simp;first | done | with_reducible rfl)
   simp only [Act.put,List.setIfInBounds_toArray,List.set_cons_zero,List.set_cons_succ]
   refine Rg.pure 1 (v:=?v40) rfl (by kernel_rfl) (fun _ _ _ h=>h) (by rfl) hHeld ?y40 ?h40
   case y40=>(intro wA;go_simp;first | done | with_reducible rfl)
   simp only [Act.put,List.setIfInBounds_toArray,List.set_cons_zero,List.set_cons_succ]
   refine Rg.pure 2 (v:=?v41) rfl (by kernel_rfl) (fun _ _ _ h=>h) (by rfl) hHeld ?y41 ?h41
   case y41=>(intro wA;go_simp;first | done | with_reducible rfl)
   simp only [Act.put,List.setIfInBounds_toArray,List.set_cons_zero,List.set_cons_succ]
   refine Rg.held 3 (v:=?v42) rfl (by kernel_rfl) (fun _ _ _ h=>h) (by rfl) hHeld ?y42 ?h42
   case y42=>(intro wA hSw;(try dsimp only at hSw);go_simp;first | done | with_reducible rfl)
   simp only [Act.put,List.setIfInBounds_toArray,List.set_cons_zero,List.set_cons_succ]
   refine Rg.held 4 (v:=?v43) rfl (by kernel_rfl) (fun _ _ _ h=>h) (by rfl) hHeld ?y43 ?h43
   case y43=>(intro wA hSw;(try dsimp only at hSw);go_simp;first | done | with_reducible rfl)
   simp only [Act.put,List.setIfInBounds_toArray,List.set_cons_zero,List.set_cons_succ]
   refine Rg.two 5 9 rfl rfl (by kernel_rfl) (fun K hK=>?_) (fun K hK=>?_)
   ·refine step_is_call 100 rfl rfl ?_
    go_simp
    go_at_call 100
    have hbd:Below Wb.heap.size Wb _:=(Below.refl _ _).drew
    (with_reducible refine (implAt n A0 A1 c0 c1 e0 _ (F10.out.below hbd).net HG HEO).mono ?_)
    rintro e wx ⟨rfl,hbc⟩
    rw [HA.out]
    have hbx:Below Wb.heap.size Wb wx:=hbd.trans (hbc.mono hbd.size)
    refine hK.out _ _ (HSF.out _ hbx) ?_
    clear hK K
    try simp only [Act.put,List.setIfInBounds_toArray,List.set_cons_zero,List.set_cons_succ]
    clear hHeld
    have hHeld:=HSF.out _ hbx
    refine Rg.pure 6 (v:=?v44) rfl (by kernel_rfl) (fun _ _ _ h=>h) (by rfl) hHeld ?y44 ?h44
    case y44=>(intro wA;go_simp;first | done | with_reducible rfl)
    simp only [Act.put,List.setIfInBounds_toArray,List.set_cons_zero,List.set_cons_succ]
    refine Rg.pure 7 (v:=?v45) rfl (by kernel_rfl) (fun _ _ _ h=>h) (by rfl) hHeld ?y45 ?h45
    case y45=>(intro wA;go_simp;first | done | with_reducible rfl)
    simp only [Act.put,List.setIfInBounds_toArray,List.set_cons_zero,List.set_cons_succ]
    refine Rg.pure 8 (v:=?v46) rfl (by kernel_rfl) (fun _ _ _ h=>h) (by rfl) hHeld ?y46 ?h46
    case y46=>(intro wA;go_simp;first | done | with_reducible rfl)
    simp only [Act.put,List.setIfInBounds_toArray,List.set_cons_zero,List.set_cons_succ]
    clear hHeld
    refine Rg.one 9 rfl (by kernel_rfl) (fun K hK=>?_)
    go_simp
    refine hK.out _ _ (HSF.out _ (hbx.alloc hbx.size _)) ?_
    clear hK K
    refine Rg.row [10,11] [_,_] rfl (by kernel_rfl) ?_
    go_wp2
    go_meet
    case rel=>exact ⟨_,rfl,rfl,Lib.hid (Blk.new wx 3 [.int .i64 j] rfl),Lib.hid (hbx.alloc hbx.size _),Lib.hid hbx.size⟩
   ·go_simp
    refine hK.out _ _ (HSF.out _ (below_alloc Wb (.cells #[.int .i64 0] 3)).drew) ?_
    clear hK K hHeld
    refine Rg.one 5 rfl (by kernel_rfl) (fun K hK=>?_)
    refine step_is_call 100 rfl rfl ?_
    go_simp
    go_at_call 100
    have hbd:Below Wb.heap.size Wb _:=(below_alloc Wb (.cells #[.int .i64 0] 3)).drew
    (with_reducible refine (implAt n A0 A1 c0 c1 e0 _ (F10.out.below hbd).net HG HEO).mono ?_)
    rintro e wx ⟨rfl,hbc⟩
    rw [HA.out]
    have hbx:Below Wb.heap.size Wb wx:=hbd.trans (hbc.mono hbd.size)
    refine hK.out _ _ (HSF.out _ hbx) ?_
    clear hK K
    try simp only [Act.put,List.setIfInBounds_toArray,List.set_cons_zero,List.set_cons_succ]
    have HJB0:Blk ((Wb.alloc (.cells #[.int .i64 0] 3)).drew) Wb.heap.size 3 [.int .i64 0]:=Blk_drew (Blk.new Wb 3 [.int .i64 0] rfl)
    have HJB:=Lib.hid (HJB0.below hbc HJB0.lt)
    clear HJB0
    have jc:=HJB.out.cell 0 rfl
    have jf:=HJB.out.frozen 0
    have hjz:Wb.heap.size < wx.heap.size:=HJB.out.lt
    have hHeld:=HSF.out _ hbx
    refine Rg.pure 6 (v:=?v47) rfl (by kernel_rfl) (fun _ _ _ h=>h) (by rfl) hHeld ?y47 ?h47
    case y47=>(intro wA;go_simp;first | done | with_reducible rfl)
    simp only [Act.put,List.setIfInBounds_toArray,List.set_cons_zero,List.set_cons_succ]
    refine Rg.pure 7 (v:=?v48) rfl (by kernel_rfl) (fun _ _ _ h=>h) (by rfl) hHeld ?y48 ?h48
    case y48=>(intro wA;go_simp;first | done | with_reducible rfl)
    simp only [Act.put,List.setIfInBounds_toArray,List.set_cons_zero,List.set_cons_succ]
    refine Rg.pure 8 (v:=?v49) rfl (by kernel_rfl) (fun _ _ _ h=>h) (by rfl) hHeld ?y49 ?h49
    case y49=>(intro wA;go_simp;first | done | with_reducible rfl)
    simp only [Act.put,List.setIfInBounds_toArray,List.set_cons_zero,List.set_cons_succ]
    refine Rg.row [10,11] [_,_] rfl (by kernel_rfl) ?_
    clear hHeld
    go_wp2
    go_meet
    case rel=>exact ⟨_,rfl,rfl,Lib.hid (HJB.out.set_ 0 _),Lib.hid (hbx.setCell (Nat.le_refl _) _),Lib.hid (Nat.le_refl _)⟩
  obtain ⟨bj,rfl,rfl,HJ11,hb11,hbj⟩:=hcut
  obtain ⟨Wc,hWc⟩:∃W,W=wc:=⟨_,rfl⟩
  subst hWc
  have L11:=Lib.hid (L10.out.below hb11.out)
  have F11:=Lib.hid (F10.out.below hb11.out)
  have HE11:Hid (Blk Wc be 102 [.int .i64 e0.piece,.int .i64 e0.side]):=Lib.hid (HE10.out.below hb11.out HE10.out.lt)
  have hbj2:w.heap.size < bj:=Nat.lt_of_lt_of_le L10.out.B.lt hbj.out
  clear hb11 hbj L10 F10 HE10 HSF t0 t1 b0 b1 hgz hez
  obtain ⟨aj,rfl,x1,E1,A3,c3,r0,r1,r2,l2,C2⟩:=jointK_at F11.out.net.j j hjl
  have hy:=HAT.out.1.symm.trans E1.out
  injection hy with hy
  subst hy
  have t1:=F11.out.f.cell 1 rfl
  have v0:=HJ11.out.cell 0 rfl
  have hgz:g < Wc.heap.size:=F11.out.f.lt
  have hjz:bj < Wc.heap.size:=HJ11.out.lt
  clear C2 r1 r2 l2
  go_wp2
  refine Rg.start 9 (fun w'=>w'.cell? ⟨g,1,none⟩=some (.slice (some aj) n.joints.length c1)∧w'.cell? ⟨bj,0,none⟩=some (.int .i64 j)∧w'.cell? (aj.add (j*3))=some (.int .i64 x.kind)) 10 rfl (by kernel_rfl) ?_
  have hHeld:(fun w'=>w'.cell? ⟨g,1,none⟩=some (.slice (some aj) n.joints.length c1)∧w'.cell? ⟨bj,0,none⟩=some (.int .i64 j)∧w'.cell? (aj.add (j*3))=some (.int .i64 x.kind)) Wc.drew:=⟨t1,v0,r0⟩
  refine Rg.pure 0 (v:=?v50) rfl (by kernel_rfl) (fun _ _ _ h=>h) (by rfl) hHeld ?y50 ?h50
  case y50=>(intro wA;go_simp;first | done | with_reducible rfl)
  simp only [Act.put,List.setIfInBounds_toArray,List.set_cons_zero,List.set_cons_succ]
  refine Rg.pure 1 (v:=?v51) rfl (by kernel_rfl) (fun _ _ _ h=>h) (by rfl) hHeld ?y51 ?h51
  case y51=>(intro wA;go_simp;first | done | with_reducible rfl)
  simp only [Act.put,List.setIfInBounds_toArray,List.set_cons_zero,List.set_cons_succ]
  refine Rg.pure 2 (v:=?v52) rfl (by kernel_rfl) (fun _ _ _ h=>h) (by rfl) hHeld ?y52 ?h52
  case y52=>(intro wA;go_simp;first | done | with_reducible rfl)
  simp only [Act.put,List.setIfInBounds_toArray,List.set_cons_zero,List.set_cons_succ]
  refine Rg.pure 3 (v:=?v53) rfl (by kernel_rfl) (fun _ _ _ h=>h) (by rfl) hHeld ?y53 ?h53
  case y53=>(intro wA;go_simp;first | done | with_reducible rfl)
  simp only [Act.put,List.setIfInBounds_toArray,List.set_cons_zero,List.set_cons_succ]
  refine Rg.held 4 (v:=?v54) rfl (by kernel_rfl) (fun _ _ _ h=>h) (by rfl) hHeld ?y54 ?h54
  case y54=>(intro wA hSw;(try dsimp only at hSw);go_simp;first | done | with_reducible rfl)
  simp only [Act.put,List.setIfInBounds_toArray,List.set_cons_zero,List.set_cons_succ]
  refine Rg.held 5 (v:=?v55) rfl (by kernel_rfl) (fun _ _ _ h=>h) (by rfl) hHeld ?y55 ?h55
  case y55=>(intro wA hSw;(try dsimp only at hSw);go_simp;first | done | with_reducible rfl)
  simp only [Act.put,List.setIfInBounds_toArray,List.set_cons_zero,List.set_cons_succ]
  refine Rg.pure 6 (v:=?v56) rfl (by kernel_rfl) (fun _ _ _ h=>h) (by rfl) hHeld ?y56 ?h56
  case y56=>(intro wA;go_simp;first | done | with_reducible rfl)
  simp only [Act.put,List.setIfInBounds_toArray,List.set_cons_zero,List.set_cons_succ]
  refine Rg.pure 7 (v:=?v57) rfl (by kernel_rfl) (fun _ _ _ h=>h) (by rfl) hHeld ?y57 ?h57
  case y57=>(intro wA;go_simp;first | done | with_reducible rfl)
  simp only [Act.put,List.setIfInBounds_toArray,List.set_cons_zero,List.set_cons_succ]
  refine Rg.held 8 (v:=?v58) rfl (by kernel_rfl) (fun _ _ _ h=>h) (by rfl) hHeld ?y58 ?h58
  case y58=>(intro wA hSw;(try dsimp only at hSw);go_simp;first | done | with_reducible rfl)
  simp only [Act.put,List.setIfInBounds_toArray,List.set_cons_zero,List.set_cons_succ]
  refine Rg.row [9] [_] rfl (by kernel_rfl) ?_
  clear hHeld
  go_upto_if 122 with (fail)
  obtain ⟨Wd,hWd,hbd⟩:∃W,W=Wc.drew∧Below Wc.heap.size Wc W:=⟨_,rfl,(Below.refl _ _).drew⟩
  rw [←hWd]
  have L12:=Lib.hid (L11.out.below hbd)
  have F12:=Lib.hid (F11.out.below hbd)
  have HE12:Hid (Blk Wd be 102 [.int .i64 e0.piece,.int .i64 e0.side]):=Lib.hid (HE11.out.below hbd HE11.out.lt)
  have HJ12:Hid (Blk Wd bj 3 [.int .i64 j]):=Lib.hid (HJ11.out.below hbd HJ11.out.lt)
  clear hWd hbd L11 F11 HE11 HJ11 t1 v0 hgz hjz r0
  by_cases hk1:x.kind=1
  ·as_aux_lemma =>
   have d1:(x.kind == 1)=true:=int_eqt hk1
   have HW:Hid (walkF n ss ov (m+1) st r (u:Int) way far=(st.1++[fin n ss { r.on n u way far (pl n u) with til:=-1 }],st.2+1)):=Lib.hid (walkF_end HNF.out HFN.out HIN.out HAH.out HX.out hk1)
   clear hk1
   have i1':=L12.out.B.cell 1 rfl
   have j1':=L12.out.B.frozen 1
   have hhz:w.heap.size < Wd.heap.size:=L12.out.B.lt
   go_upto_region 19 with (fail)
   obtain ⟨We,hWe,L13⟩:∃W,W=Wd.setCell ⟨w.heap.size,1,none⟩ (.int .i64 (-1))∧Hid (PJ w W g w.heap.size (.slice Ao st.1.length co) R2 (-1) A8a B3 B4 A8c c8a d3 d4 c8c):=⟨_,rfl,Lib.hid (L12.out.til (-1))⟩
   rw [←hWe]
   clear hWe i1' j1' hhz L12
   have F13:=HF.out.below L13.out.K
   obtain ⟨Q,HQ⟩:∃Q:Route,Hid (({ R2 with til:=-1 }:Route)=Q):=⟨_,Lib.hid rfl⟩
   have HQS:Hid (({ r.on n u way far (pl n u) with til:=-1 }:Route)=Q):=Lib.hid (by rw [←HQ.out,←hR2.out,←hR1.out];unfold Route.on;rw [hz1.out,HPt.out])
   obtain ⟨g2,g3,g4,g5⟩:=L13.out.lists
   have hlies:R2.lies=r.lies:=by rw [←hR2.out,←hR1.out]
   have hover:Hid (R2.over=[]):=Lib.hid (by rw [←hR2.out,←hR1.out];exact hI.out.over)
   have hD:=implFoundEnd R2 Q hr F13 hover HQ g2 g3 g4 g5 (Lib.hid L13.out.cap) (by rw [hlies];omega) (Lib.hid (by rw [hlies];exact hI.out.lies)) l0
   have y0:=L13.out.B.cell 0 rfl
   have y1:=L13.out.B.cell 1 rfl
   have y2:=L13.out.B.cell 2 rfl
   have y3:=L13.out.B.cell 3 rfl
   have y4:=L13.out.B.cell 4 rfl
   have y5:=L13.out.B.cell 5 rfl
   have y6:=L13.out.B.cell 6 rfl
   have y7:=L13.out.B.cell 7 rfl
   have hhz:w.heap.size < We.heap.size:=L13.out.B.lt
   clear g2 g3 g4 g5 F13 hlies
   go_wp2_with fail
   refine hD.mono ?_
   intro e wd hRD
   have hRD:=hRD.after (Keep.of_below L13.out.K) (Nx.refl _ _)
   rw [←HQS.out] at hRD
   obtain ⟨rfl,hRD⟩:=id hRD
   go_wp2
   go_end0
   rw [HW.out]
   exact hRD
  have d1:(x.kind == 1)=false:=int_eqf hk1
  have HK1:=Lib.hid hk1
  clear hk1
  have HON:Hid (r.on n u way far z1=R2):=Lib.hid (by rw [←hR2.out,←hR1.out];unfold Route.on;rw [HPt.out])
  have HTL:Hid (R2.til=r.til):=Lib.hid (by rw [←hR2.out,←hR1.out])
  obtain ⟨L,HL⟩:∃L,Hid (across x kj=L):=⟨_,Lib.hid rfl⟩
  obtain ⟨LH,HLH⟩:∃LH,Hid (howOf x kj=LH):=⟨_,Lib.hid rfl⟩
  have hLL:L.length≤2:=by rw [←HL.out];exact across_len _ _
  have HLE:Hid (∀e∈L,endP n.pieces.length e):=Lib.hid (by rw [←HL.out];intro e he;exact across_ok HJP.out hkl he)
  obtain ⟨T,HT⟩:∃T:Nat→St,Hid (∀i,kidsTo (walkF n ss ov m) R2 x j kj L (st.1,st.2+1) i=T i):=⟨fun i=>kidsTo (walkF n ss ov m) R2 x j kj L (st.1,st.2+1) i,Lib.hid (fun _=>rfl)⟩
  have HT0:Hid (T 0=(st.1,st.2+1)):=Lib.hid (HT.out 0).symm
  have HTB:Hid (∀i,(T i).1.length≤301∧(T i).2≤20300+i):=Lib.hid (fun i=>by rw [←HT.out i];exact kids_bound (by show st.1.length≤301;omega) (by show st.2+1≤20300;omega) (by omega) i)
  have HTS:Hid (∀(i:Nat) (e:End),L[i]?=some e→goOn R2 x j kj i=none→T (i+1)=T i):=Lib.hid (fun i e he hq=>by rw [←HT.out,←HT.out];exact kidsTo_skip he hq)
  have HTG:Hid (∀(i:Nat) (e:End) (q:Route),L[i]?=some e→goOn R2 x j kj i=some q→T (i+1)=walkF n ss ov m (T i) q e.piece (wayOf e) 0):=Lib.hid (fun i e q he hq=>by rw [←HT.out,←HT.out];exact kidsTo_go he hq)
  have HW:Hid (walkF n ss ov (m+1) st r (u:Int) way far=T L.length):=Lib.hid (by rw [walkF_on HNF.out HFN.out HIN.out HAH.out HX.out HK1.out,hz1.out,HON.out,HL.out];exact HT.out _)
  have HRK:Hid (∀(i:Nat) (q:Route),i < L.length→goOn R2 x j kj i=some q→RInv n ss q∧q.steps.length=r.steps.length+1):=Lib.hid (fun i q hi hq=>by
   obtain ⟨h1,h2⟩:=RInv.kid (far:=far) (b:=z1) hI.out HEP.out HIN.out HX.out hjl HJP.out hkl (by rw [HL.out];exact hi) (by rw [HON.out];exact hq)
   exact ⟨h1,by rw [h2];simp⟩)
  have HXL:Hid (across (jt n (atJ n e0).1) (atJ n e0).2=L∧howOf (jt n (atJ n e0).1) (atJ n e0).2=LH):=Lib.hid (by rw [HA.out];simp only;rw [HX.out];exact ⟨HL.out,HLH.out⟩)
  have HKN:Hid (1≤x.kind∧x.kind≤4):=Lib.hid HJP.out.1
  have HR2L:Hid (R2.lies.length≤200∧R2.crosses.length≤200):=Lib.hid (by rw [←hR2.out];exact ⟨HRL.out.1,HRL.out.2.1⟩)
  have t0:=F12.out.f.cell 0 rfl
  have t1:=F12.out.f.cell 1 rfl
  have b0:=HE12.out.cell 0 rfl
  have b1:=HE12.out.cell 1 rfl
  have hgz:g < Wd.heap.size:=F12.out.f.lt
  have hez:be < Wd.heap.size:=HE12.out.lt
  go_wp2
  go_region_held3 (fun w'=>Below Wd.heap.size Wd w'∧w'.cell? ⟨g,0,none⟩=some (.slice A0 n.pieces.length c0)∧w'.cell? ⟨g,1,none⟩=some (.slice (some aj) n.joints.length c1)∧w'.cell? ⟨be,0,none⟩=some (.int .i64 e0.piece)∧w'.cell? ⟨be,1,none⟩=some (.int .i64 e0.side))
   (first | exact ⟨(Below.refl _ _).drew,t0,t1,b0,b1⟩ | exact ⟨hbS.trans (hbc.mono hbS.size),cell_below (hbS.trans (hbc.mono hbS.size)) t0,cell_below (hbS.trans (hbc.mono hbS.size)) t1,cell_below (hbS.trans (hbc.mono hbS.size)) b0,cell_below (hbS.trans (hbc.mono hbS.size)) b1⟩)
   (first | (go_at_call 101;obtain ⟨hbS,_⟩:=‹Below Wd.heap.size Wd _∧_›;(with_reducible refine (implOver n A0 (some aj) c0 c1 e0 _ (F12.out.below hbS).net HG HEO).mono ?_);rintro e w6 hov6;obtain ⟨AL,cL,BL,dL,rfl,hcL,CL,CB,hbc⟩:=hov6.to HXL.out.1 HXL.out.2;have HCL:=Lib.hid (Kn.C_mono (ok':=fun b=>Wd.heap.size≤b) (fun b hb=>Nat.le_trans hbS.size hb) CL);have HCB:=Lib.hid (Kn.C_mono (ok':=fun b=>Wd.heap.size≤b) (fun b hb=>Nat.le_trans hbS.size hb) CB)))
  obtain ⟨hbF,_⟩:=‹Below Wd.heap.size Wd w6∧_›
  have L9:=Lib.hid (L12.out.below hbF)
  have S9:=Lib.hid (F12.out.below hbF)
  have HJ6:Hid (Blk w6 bj 3 [.int .i64 j]):=Lib.hid (HJ12.out.below hbF HJ12.out.lt)
  have HCL2:=Lib.hid (Kn.C_bound HCL.out)
  have HCB2:=Lib.hid (Kn.C_bound HCB.out)
  have hWd:w.heap.size≤Wd.heap.size:=L12.out.K.size
  have HNW:Hid (∀b,w.heap.size≤b→¬WSet g (.slice Ao st.1.length co) b):=Lib.hid (fun b hb=>HF.out.new hb)
  have hbjw:w.heap.size≤bj:=Nat.le_of_lt hbj2
  have HOK2:Hid (x.kind=3→∀i,i < L.length→LH[i]?=some (lieAt kj i)):=Lib.hid (fun h3 i hi=>by
   rw [←HLH.out]
   rw [←HL.out] at hi
   unfold howOf lieAt
   unfold across at hi
   rw [if_neg (by omega),if_pos h3] at hi
   rw [if_pos h3]
   by_cases h0:kj=0
   ·rw [if_pos h0] at hi ⊢
    rw [if_pos h0]
    rcases (show i=0∨i=1 by simp at hi;omega) with rfl | rfl <;> rfl
   ·rw [if_neg h0] at hi ⊢
    rw [if_neg h0]
    obtain rfl:i=0:=by simp at hi;omega
    rfl)
  clear L12 F12 HJ12 HCL HCB CL CB hcL hov6 hbF t0 t1 b0 b1 hgz hez HE12 HNF HIN HFN HON HT HK1 HAH HA HX HAT hfar ha HEP HXL HLH HL hR1 hR2 HPt HPL d1 HRL
  go_wp2
  go_loopw [138] (fun iv wr=>∃(i:Nat) (vo:Value),i≤L.length∧iv=.int .i64 i∧Hid (WI wr g n ss A0 (some aj) A2 c0 c1 c2 ov ((T i).2:Int) vo (T i).1)∧Hid (Keep (WSet g (.slice Ao st.1.length co)) w6 wr)∧Hid (Nx (.slice Ao st.1.length co) vo w6.heap.size)) (fun iv _=>L.length - (intOf iv).toNat)
  case atStart=>exact ⟨0,(.slice Ao st.1.length co),Nat.zero_le _,rfl,Lib.hid (by rw [HT0.out];exact S9.out),Lib.hid (Keep.refl _ _),Lib.hid (Nx.refl _ _)⟩
  case round =>
  obtain ⟨i,vo,hi,rfl,HS,HKK,HNX⟩:=hrel
  have hgr:g < wr.heap.size:=HS.out.f.lt
  by_cases hlt:i < L.length
  rotate_left
  ·obtain rfl:i=L.length:=by omega
   have hs:RetWI g n ss A0 (some aj) A2 c0 c1 c2 ov (.slice Ao st.1.length co) ((T L.length).1,((T L.length).2:Int)) w (.returned (.tuple #[])) wr:=⟨rfl,vo,HS.out,(Keep.of_below (S:=WSet g (.slice Ao st.1.length co)) L9.out.K).trans HKK.out (fun x _ e=>e),HNX.out.mono L9.out.K.size⟩
   go_wp2
   go_end0
   rw [HW.out]
   exact hs
  have j0:(0:Int)≤(i:Int):=Int.natCast_nonneg _
  have j1:(i:Int) < (L.length:Int):=by omega
  obtain ⟨al,rfl,y0,y1,EE,g0,g1⟩:=endK_at (Kn.C_move (fun b hb=>HKK.out.block b hb.2 (HNW.out b (Nat.le_trans hWd hb.1))) HCL2.out) i hlt
  obtain ⟨u',hu',hy0,hs'⟩:∃u':Nat,u' < n.pieces.length∧y0=u'∧(y1=0∨y1=1):=by
   obtain ⟨⟨b1,b2⟩,b3,b4⟩:=HLE.out _ (mem_of_get EE.out)
   simp only at b1 b2 b3 b4
   exact ⟨y0.toNat,by omega,by omega,by omega⟩
  subst hy0
  have HBR:Hid (Blk wr w.heap.size 44 [.int .i64 R2.frm,.int .i64 r.til,.slice A8a R2.steps.length c8a,.slice B3 R2.lies.length d3,.slice B4 R2.crosses.length d4,.slice A8c R2.parts.length c8c,.slice none 0 0,.slice none 0 0]):=Lib.hid (Blk.eq (HKK.out.block _ L9.out.B.lt (HNW.out _ (Nat.le_refl _))) L9.out.B)
  have HJR:Hid (Blk wr bj 3 [.int .i64 j]):=Lib.hid (Blk.eq (HKK.out.block _ HJ6.out.lt (HNW.out _ hbjw)) HJ6.out)
  have HBLR:=Lib.hid (Kn.C_move (fun b hb=>HKK.out.block b hb.2 (HNW.out b (Nat.le_trans hWd hb.1))) HCB2.out)
  have hhr:w.heap.size < wr.heap.size:=HBR.out.lt
  have hjr:bj < wr.heap.size:=HJR.out.lt
  obtain ⟨g2',g3',g4',g5'⟩:=L9.out.far HKK.out HNX.out
  have HLR:=Lib.hid (And.intro g2' (And.intro g3' (And.intro g4' g5')))
  clear g2' g3' g4' g5'
  have a0:=HBR.out.cell 0 rfl
  have a1:=HBR.out.cell 1 rfl
  have a2:=HBR.out.cell 2 rfl
  have a3:=HBR.out.cell 3 rfl
  have a4:=HBR.out.cell 4 rfl
  have a5:=HBR.out.cell 5 rfl
  have a6:=HBR.out.cell 6 rfl
  have a7:=HBR.out.cell 7 rfl
  go_upto_region 25 with (fail)
  obtain ⟨W7,hW7,hb7,LQ,HE7,HJ7,HR7⟩:∃W,W=(wr.alloc (.cells #[.int .i64 u',.int .i64 y1] 102)).alloc (.cells #[.int .i64 R2.frm,.int .i64 r.til,.slice A8a R2.steps.length c8a,.slice B3 R2.lies.length d3,.slice B4 R2.crosses.length d4,.slice A8c R2.parts.length c8c,.slice none 0 0,.slice none 0 0] 44)∧Below wr.heap.size wr W∧Hid (PJ wr W g (wr.heap.size+1) vo R2 r.til A8a B3 B4 A8c c8a d3 d4 c8c)∧Hid (Blk W wr.heap.size 102 [.int .i64 u',.int .i64 y1])∧Hid (Blk W bj 3 [.int .i64 j])∧Hid (Blk W w.heap.size 44 [.int .i64 R2.frm,.int .i64 r.til,.slice A8a R2.steps.length c8a,.slice B3 R2.lies.length d3,.slice B4 R2.crosses.length d4,.slice A8c R2.parts.length c8c,.slice none 0 0,.slice none 0 0]):=by
   have hbw:Below wr.heap.size wr ((wr.alloc (.cells #[.int .i64 u',.int .i64 y1] 102)).alloc (.cells #[.int .i64 R2.frm,.int .i64 r.til,.slice A8a R2.steps.length c8a,.slice B3 R2.lies.length d3,.slice B4 R2.crosses.length d4,.slice A8c R2.parts.length c8c,.slice none 0 0,.slice none 0 0] 44)):=(below_alloc _ _).alloc (by simp) _
   exact ⟨_,rfl,hbw,Lib.hid (PJ.new_ HS.out hbw (by omega) (Blk.new _ _ _ (by rw [size_alloc])) HLR.out.1 HLR.out.2.1 HLR.out.2.2.1 HLR.out.2.2.2 L9.out.cap),Lib.hid ((Blk.new wr _ _ rfl).alloc _),Lib.hid (HJR.out.below hbw hjr),Lib.hid (HBR.out.below hbw hhr)⟩
  rw [←hW7]
  have HBL7:=Lib.hid (Kn.C_below hb7 HBLR.out)
  clear hW7 a0 a1 a2 a3 a4 a5 a6 a7 g0 g1 HBR HJR HBLR
  by_cases h4:x.kind=4
  ·as_aux_lemma =>
   have dk4:(x.kind == 4)=true:=int_eqt h4
   have dk3:(x.kind == 3)=false:=int_eqf (by omega)
   obtain ⟨q,HQ⟩:∃q:Route,Hid (({ R2 with crosses:=R2.crosses++[(j:Int)] }:Route)=q):=⟨_,Lib.hid rfl⟩
   have HQG:Hid (goOn R2 x j kj i=some q):=Lib.hid (by rw [goOn_cross h4,HQ.out])
   have hqt:Hid (q.til=r.til):=Lib.hid (by rw [←HQ.out];exact HTL.out)
   have hrc:=HR2L.out.2
   have v4:=HR7.out.cell 4 rfl
   have vj:=HJ7.out.cell 0 rfl
   have hh7:w.heap.size < W7.heap.size:=HR7.out.lt
   have hj7:bj < W7.heap.size:=HJ7.out.lt
   clear h4
   have hsrc:=LQ.out.c
   have HSRCd:=Lib.hid hsrc
   clear hsrc
   have m63:R2.crosses.length+1≤maxLen:=by simp only [maxLen];omega
   have mby:(R2.crosses.length+1)*8≤140737488355328:=by omega
   have HSF:Hid (∀w',Below W7.heap.size W7 w'→(fun w'=>w'.cell? ⟨w.heap.size,4,none⟩=some (.slice B4 R2.crosses.length d4)∧w'.cell? ⟨bj,0,none⟩=some (.int .i64 j)) w'):=Lib.hid (fun w' hb=>⟨cell_below hb v4,cell_below hb vj⟩)
   go_wp2
   go_cut [] (fun W6=>∃A8 c8,Hid (PJ wr W6 g (wr.heap.size+1) vo { R2 with crosses:=R2.crosses++[(j:Int)] } r.til A8a B3 A8 A8c c8a d3 c8 c8c)∧Hid (Keep (fun b=>b=(wr.heap.size+1)) W7 W6))
   case first =>
    clear IH hI hm hst hov HTB HTS HTG HW HRK HLE HKK HNX
    refine Rg.start 5 (fun w'=>w'.cell? ⟨w.heap.size,4,none⟩=some (.slice B4 R2.crosses.length d4)∧w'.cell? ⟨bj,0,none⟩=some (.int .i64 j)) 8 rfl (by kernel_rfl) ?_
    have hHeld:=HSF.out _ (Below.refl _ _).drew
    refine Rg.pure 0 (v:=?v59) rfl (by kernel_rfl) (fun _ _ _ h=>h) (by rfl) hHeld ?y59 ?h59
    case y59=>(intro wA;go_simp;first | done | with_reducible rfl)
    simp only [Act.put,List.setIfInBounds_toArray,List.set_cons_zero,List.set_cons_succ]
    refine Rg.held 1 (v:=?v60) rfl (by kernel_rfl) (fun _ _ _ h=>h) (by rfl) hHeld ?y60 ?h60
    case y60=>(intro wA hSw;(try dsimp only at hSw);go_simp;first | done | with_reducible rfl)
    simp only [Act.put,List.setIfInBounds_toArray,List.set_cons_zero,List.set_cons_succ]
    refine Rg.held 3 (v:=?v61) rfl (by kernel_rfl) (fun _ _ _ h=>h) (by rfl) hHeld ?y61 ?h61
    case y61=>(intro wA hSw;(try dsimp only at hSw);go_simp;first | done | with_reducible rfl)
    simp only [Act.put,List.setIfInBounds_toArray,List.set_cons_zero,List.set_cons_succ]
    refine Rg.two 2 4 rfl rfl (by kernel_rfl) (fun K hK=>?_) (fun K hK=>?_)
    ·refine step_is_call 73 rfl rfl ?_
     go_simp
     go_at_call 73
     have hbd:Below W7.heap.size W7 _:=(Below.refl _ _).drew
     (with_reducible refine (cloneInt R2.crosses B4 d4 _ (Kn.C_below hbd HSRCd.out) (by omega)).mono ?_)
     rintro e wx ⟨Ag,cg,rfl,hcg,HRg,HOg,hbc⟩
     have hbx:Below W7.heap.size W7 wx:=hbd.trans (hbc.mono hbd.size)
     have HOg:Hid (∀b,(Value.slice Ag R2.crosses.length cg).ownBlock=some b→W7.heap.size≤b):=Lib.hid (fun b hb=>Nat.le_trans hbd.size (HOg.out b hb))
     refine hK.out _ _ (HSF.out _ hbx) ?_
     clear hK K hHeld
     try simp only [Act.put,List.setIfInBounds_toArray,List.set_cons_zero,List.set_cons_succ]
     refine Rg.one 4 rfl (by kernel_rfl) (fun K hK=>?_)
     go_simp
     have hba:Below W7.heap.size W7 (wx.alloc (.cells #[.int .i64 j] 3)):=hbx.alloc hbx.size _
     refine hK.out _ _ (HSF.out _ hba) ?_
     clear hK K
     have hsx:=hbx.size
     have hsd:W7.drew.heap.size=W7.heap.size:=rfl
     refine Rg.row [5,6,7] [_,_,_] rfl (by kernel_rfl) ?_
     go_wp2_with (at_builtin;go_loud (refine wpList_append_rw _ rfl (.tmp 148) (.tmp 150) 40 rfl 3 iI _ 8 Try.underlying40 hiI hzI hyI hxI rfl (by decide) (.slice Ag R2.crosses.length cg) R2.crosses [(j:Int)] rfl (HRg.out.below (below_alloc _ _)) (fun _ h=>h.elim) (some ⟨wx.heap.size,0,none⟩) 1 1 rfl rfl (Kn.Src.one (show Kn.int.K _ _ (j:Int) [.int .i64 j] from rfl) (new_cells _ _ _ rfl)) m63 mby ?_;intro v' w2 HR2 hg2 hat2;obtain ⟨A8,c8,rfl,hc8⟩:=HR2.form1;have hbw2:=below_push (hbx.alloc hbx.size _) hg2 HOg.out (hbx.alloc hbx.size _).size;have BH:=Lib.hid (LQ.out.B.below hbw2 LQ.out.B.lt);have u5:=BH.out.cell 4 rfl;have u7:=BH.out.frozen 4;have hhz2:(wr.heap.size+1) < w2.heap.size:=BH.out.lt))
     go_meet
     case rel=>exact ⟨A8,c8,Lib.hid (LQ.out.setC HS.out hbw2 HR2 (own_next (fun b hb=>Nat.le_trans hb7.size (HOg.out b hb)) hat2 (Nat.le_trans hb7.size (hbx.alloc hbx.size _).size))),Lib.hid (Keep.setCell (S:=fun b=>b=(wr.heap.size+1)) (p:=⟨(wr.heap.size+1),4,none⟩) (Keep.of_below hbw2) (fun _=>rfl) _)⟩
    ·go_simp
     have hbe:Below W7.heap.size W7 ((W7.alloc (.cells #[.int .i64 j] 3)).drew):=(below_alloc _ _).drew
     refine hK.out _ _ (HSF.out _ hbe) ?_
     clear hK K
     refine Rg.one 2 rfl (by kernel_rfl) (fun K hK=>?_)
     refine step_is_call 73 rfl rfl ?_
     go_simp
     go_at_call 73
     have hbd:Below W7.heap.size W7 _:=hbe
     (with_reducible refine (cloneInt R2.crosses B4 d4 _ (Kn.C_below hbd HSRCd.out) (by omega)).mono ?_)
     rintro e wx ⟨Ag,cg,rfl,hcg,HRg,HOg,hbc⟩
     have hbx:Below W7.heap.size W7 wx:=hbd.trans (hbc.mono hbd.size)
     have HOg:Hid (∀b,(Value.slice Ag R2.crosses.length cg).ownBlock=some b→W7.heap.size≤b):=Lib.hid (fun b hb=>Nat.le_trans hbd.size (HOg.out b hb))
     refine hK.out _ _ (HSF.out _ hbx) ?_
     clear hK K hHeld
     try simp only [Act.put,List.setIfInBounds_toArray,List.set_cons_zero,List.set_cons_succ]
     have hsx:=hbx.size
     have hse:((W7.alloc (.cells #[.int .i64 j] 3)).drew).heap.size=W7.heap.size+1:=size_alloc _ _
     refine Rg.row [5,6,7] [_,_,_] rfl (by kernel_rfl) ?_
     go_wp2_with (at_builtin;go_loud (refine wpList_append_rw _ rfl (.tmp 148) (.tmp 150) 40 rfl 3 iI _ 8 Try.underlying40 hiI hzI hyI hxI rfl (by decide) (.slice Ag R2.crosses.length cg) R2.crosses [(j:Int)] rfl (HRg.out) (fun _ h=>h.elim) (some ⟨W7.heap.size,0,none⟩) 1 1 rfl rfl (Kn.Src.one (show Kn.int.K _ _ (j:Int) [.int .i64 j] from rfl) (fun i u hu=>cell_below hbc (new_cells W7 _ _ rfl i u hu))) m63 mby ?_;intro v' w2 HR2 hg2 hat2;obtain ⟨A8,c8,rfl,hc8⟩:=HR2.form1;have hbw2:=below_push hbx hg2 HOg.out hbx.size;have BH:=Lib.hid (LQ.out.B.below hbw2 LQ.out.B.lt);have u5:=BH.out.cell 4 rfl;have u7:=BH.out.frozen 4;have hhz2:(wr.heap.size+1) < w2.heap.size:=BH.out.lt))
     go_meet
     case rel=>exact ⟨A8,c8,Lib.hid (LQ.out.setC HS.out hbw2 HR2 (own_next (fun b hb=>Nat.le_trans hb7.size (HOg.out b hb)) hat2 (Nat.le_trans hb7.size hbx.size))),Lib.hid (Keep.setCell (S:=fun b=>b=(wr.heap.size+1)) (p:=⟨(wr.heap.size+1),4,none⟩) (Keep.of_below hbw2) (fun _=>rfl) _)⟩
   obtain ⟨A8d,c8d,L8d,K8d⟩:=hcut
   clear HSRCd HSF m63 mby
   obtain ⟨W8,hW8⟩:∃W,W=wc:=⟨_,rfl⟩
   subst hW8
   have LZ:Hid (PJ wr W8 g (wr.heap.size+1) vo q r.til A8a B3 A8d A8c c8a d3 c8d c8c):=Lib.hid (by have:=L8d.out;rw [HQ.out] at this;exact this)
   have HEW:Hid (Blk W8 wr.heap.size 102 [.int .i64 u',.int .i64 y1]):=Lib.hid (Blk.eq (K8d.out.block _ HE7.out.lt (by omega)) HE7.out)
   clear v4 vj hh7 hj7 L8d K8d
   have HBg:Hid (Blk W8 g 121 (walkB n A0 (some aj) c0 c1 (.slice A2 ss.length c2) ov vo ((T i).2:Int))):=Lib.hid (HS.out.f.below LZ.out.K hgr)
   have g5:=HBg.out.cell 5 rfl
   have f5:=HBg.out.frozen 5
   have hgW:g < W8.heap.size:=HBg.out.lt
   have hTi:(T i).2≤20310:=by have:=(HTB.out i).2;omega
   have hwr:IntKind.i64.wrap (((T i).2:Int)+1)=((T i).2:Int)+1:=wrap_small (by omega) (by omega)
   go_upto_region 33 with (fail)
   obtain ⟨Wq,hWq,KQ,HBq,HQq,HEq⟩:∃W,W=W8.setCell ⟨g,5,none⟩ (.int .i64 (((T i).2:Int)+1))∧Hid (Keep (fun b=>b=g) wr W)∧Hid (Blk W g 121 (walkB n A0 (some aj) c0 c1 (.slice A2 ss.length c2) ov vo (((T i).2:Int)+1)))∧Hid (Blk W (wr.heap.size+1) 44 [.int .i64 q.frm,.int .i64 q.til,.slice A8a q.steps.length c8a,.slice B3 q.lies.length d3,.slice A8d q.crosses.length c8d,.slice A8c q.parts.length c8c,.slice none 0 0,.slice none 0 0])∧Hid (Blk W wr.heap.size 102 [.int .i64 u',.int .i64 y1]):=by
    refine ⟨_,rfl,Lib.hid (Keep.setCell (S:=fun b=>b=g) (p:=⟨g,5,none⟩) (Keep.of_below LZ.out.K) (fun _=>rfl) _),Lib.hid (HBg.out.set_ 5 _),Lib.hid ?_,Lib.hid (HEW.out.far (p:=⟨g,5,none⟩) (by show wr.heap.size≠g;omega) _)⟩
    have h1:=LZ.out.B
    rw [←hqt.out] at h1
    exact h1.far (p:=⟨g,5,none⟩) (by show wr.heap.size+1≠g;omega) _
   rw [←hWq]
   have FQ:=Lib.hid (HS.out.later KQ.out HBq.out)
   have HLQ:Hid (stepK.C Wq (Out Wq (WSet g vo)) A8a q.steps∧lieK.C Wq (Out Wq (WSet g vo)) B3 q.lies∧Kn.int.C Wq (Out Wq (WSet g vo)) A8d q.crosses∧partK.C Wq (Out Wq (WSet g vo)) A8c q.parts):=by
    obtain ⟨k1,k2,k3,k4⟩:=LZ.out.lists
    have hk:Keep (WSet g vo) W8 Wq:=by rw [hWq];exact Keep.setCell (S:=WSet g vo) (p:=⟨g,5,none⟩) (Keep.refl _ _) (fun _=>.inl rfl) _
    exact Lib.hid ⟨Kn.C_keep hk (fun _ _ e=>e) k1,Kn.C_keep hk (fun _ _ e=>e) k2,Kn.C_keep hk (fun _ _ e=>e) k3,Kn.C_keep hk (fun _ _ e=>e) k4⟩
   have HCQ:=Lib.hid LZ.out.cap
   clear hWq g5 f5 hgW hwr HBg
   obtain ⟨hRI,hRl⟩:=HRK.out i q hlt HQG.out
   have HRI:=Lib.hid hRI
   have HRl:=Lib.hid hRl
   clear hRI hRl
   have z0:=HQq.out.cell 0 rfl
   have z1':=HQq.out.cell 1 rfl
   have z2:=HQq.out.cell 2 rfl
   have z3:=HQq.out.cell 3 rfl
   have z4:=HQq.out.cell 4 rfl
   have z5:=HQq.out.cell 5 rfl
   have z6:=HQq.out.cell 6 rfl
   have z7:=HQq.out.cell 7 rfl
   have t0:=HBq.out.cell 0 rfl
   have t1:=HBq.out.cell 1 rfl
   have e0':=HEq.out.cell 0 rfl
   have e1':=HEq.out.cell 1 rfl
   have hgq:g < Wq.heap.size:=HBq.out.lt
   rcases hs' with rfl | rfl
   ·as_aux_lemma =>
    have HSF:Hid (∀w',Below Wq.heap.size Wq w'→(fun w'=>w'.cell? ⟨wr.heap.size+1,0,none⟩=some (.int .i64 q.frm)∧w'.cell? ⟨wr.heap.size+1,1,none⟩=some (.int .i64 q.til)∧w'.cell? ⟨wr.heap.size+1,2,none⟩=some (.slice A8a q.steps.length c8a)∧w'.cell? ⟨wr.heap.size+1,3,none⟩=some (.slice B3 q.lies.length d3)∧w'.cell? ⟨wr.heap.size+1,4,none⟩=some (.slice A8d q.crosses.length c8d)∧w'.cell? ⟨wr.heap.size+1,5,none⟩=some (.slice A8c q.parts.length c8c)∧w'.cell? ⟨wr.heap.size+1,6,none⟩=some (.slice none 0 0)∧w'.cell? ⟨wr.heap.size+1,7,none⟩=some (.slice none 0 0)∧w'.cell? ⟨g,0,none⟩=some (.slice A0 n.pieces.length c0)∧w'.cell? ⟨g,1,none⟩=some (.slice (some aj) n.joints.length c1)∧w'.cell? ⟨wr.heap.size,0,none⟩=some (.int .i64 u')∧w'.cell? ⟨wr.heap.size,1,none⟩=some (.int .i64 0)) w'):=Lib.hid (fun w' hb=>⟨cell_below hb z0,cell_below hb z1',cell_below hb z2,cell_below hb z3,cell_below hb z4,cell_below hb z5,cell_below hb z6,cell_below hb z7,cell_below hb t0,cell_below hb t1,cell_below hb e0',cell_below hb e1'⟩)
    have HEN':Hid (endP n.pieces.length (⟨u',0⟩:End)):=Lib.hid ⟨⟨by show (0:Int)≤u';omega,by show (u':Int)≤_;omega⟩,by show (0:Int)≤0;omega,by show (0:Int)≤1;omega⟩
    refine Rg.start 8 (fun w'=>w'.cell? ⟨wr.heap.size+1,0,none⟩=some (.int .i64 q.frm)∧w'.cell? ⟨wr.heap.size+1,1,none⟩=some (.int .i64 q.til)∧w'.cell? ⟨wr.heap.size+1,2,none⟩=some (.slice A8a q.steps.length c8a)∧w'.cell? ⟨wr.heap.size+1,3,none⟩=some (.slice B3 q.lies.length d3)∧w'.cell? ⟨wr.heap.size+1,4,none⟩=some (.slice A8d q.crosses.length c8d)∧w'.cell? ⟨wr.heap.size+1,5,none⟩=some (.slice A8c q.parts.length c8c)∧w'.cell? ⟨wr.heap.size+1,6,none⟩=some (.slice none 0 0)∧w'.cell? ⟨wr.heap.size+1,7,none⟩=some (.slice none 0 0)∧w'.cell? ⟨g,0,none⟩=some (.slice A0 n.pieces.length c0)∧w'.cell? ⟨g,1,none⟩=some (.slice (some aj) n.joints.length c1)∧w'.cell? ⟨wr.heap.size,0,none⟩=some (.int .i64 u')∧w'.cell? ⟨wr.heap.size,1,none⟩=some (.int .i64 0)) 9 rfl (by kernel_rfl) ?_
    have hHeld:=HSF.out _ (Below.refl _ _).drew
    refine Rg.pure 0 (v:=?v118) rfl (by kernel_rfl) (fun _ _ _ h=>h) (by rfl) hHeld ?y118 ?h118
    case y118=>(intro wA;go_simp;first | done | with_reducible rfl)
    simp only [Act.put,List.setIfInBounds_toArray,List.set_cons_zero,List.set_cons_succ]
    refine Rg.held 1 (v:=?v119) rfl (by kernel_rfl) (fun _ _ _ h=>h) (by rfl) hHeld ?y119 ?h119
    case y119=>(intro wA hSw;(try dsimp only at hSw);go_simp;first | done | with_reducible rfl)
    simp only [Act.put,List.setIfInBounds_toArray,List.set_cons_zero,List.set_cons_succ]
    refine Rg.pure 2 (v:=?v120) rfl (by kernel_rfl) (fun _ _ _ h=>h) (by rfl) hHeld ?y120 ?h120
    case y120=>(intro wA;go_simp;first | done | with_reducible rfl)
    simp only [Act.put,List.setIfInBounds_toArray,List.set_cons_zero,List.set_cons_succ]
    refine Rg.pure 3 (v:=?v121) rfl (by kernel_rfl) (fun _ _ _ h=>h) (by rfl) hHeld ?y121 ?h121
    case y121=>(intro wA;go_simp;first | done | with_reducible rfl)
    simp only [Act.put,List.setIfInBounds_toArray,List.set_cons_zero,List.set_cons_succ]
    refine Rg.pure 4 (v:=?v122) rfl (by kernel_rfl) (fun _ _ _ h=>h) (by rfl) hHeld ?y122 ?h122
    case y122=>(intro wA;go_simp;first | done | with_reducible rfl)
    simp only [Act.put,List.setIfInBounds_toArray,List.set_cons_zero,List.set_cons_succ]
    refine Rg.held 5 (v:=?v123) rfl (by kernel_rfl) (fun _ _ _ h=>h) (by rfl) hHeld ?y123 ?h123
    case y123=>(intro wA hSw;(try dsimp only at hSw);go_simp;first | done | with_reducible rfl)
    simp only [Act.put,List.setIfInBounds_toArray,List.set_cons_zero,List.set_cons_succ]
    refine Rg.held 6 (v:=?v124) rfl (by kernel_rfl) (fun _ _ _ h=>h) (by rfl) hHeld ?y124 ?h124
    case y124=>(intro wA hSw;(try dsimp only at hSw);go_simp;first | done | with_reducible rfl)
    simp only [Act.put,List.setIfInBounds_toArray,List.set_cons_zero,List.set_cons_succ]
    refine Rg.one 7 rfl (by kernel_rfl) (fun K hK=>?_)
    refine step_is_call 104 rfl rfl ?_
    go_simp
    go_at_call 104
    have hbd:Below Wq.heap.size Wq Wq.drew:=(Below.refl _ _).drew
    have hEnt:=implEnter n (.slice (some aj) n.joints.length c1) A0 c0 ⟨u',0⟩ _ (FQ.out.below hbd).net.p HG HEN'.out
    rw [way_zero rfl] at hEnt
    (with_reducible refine hEnt.mono ?_)
    rintro e wx ⟨rfl,hbc⟩
    have hbx:Below Wq.heap.size Wq wx:=hbd.trans (hbc.mono hbd.size)
    refine hK.out _ _ (HSF.out _ hbx) ?_
    clear hK K hHeld hEnt
    try simp only [Act.put,List.setIfInBounds_toArray,List.set_cons_zero,List.set_cons_succ]
    refine Rg.row [8] [_] rfl (by kernel_rfl) ?_
    have hIH:=IH.out (T i) vo q u' 1 0 (atOf n u' 1 0) A8a B3 A8d A8c c8a d3 c8d c8c wx (Lib.hid (FQ.out.below hbx)) (Lib.hid (Kn.C_keep (Keep.of_below hbx) (fun _ _ e=>e) HLQ.out.1)) (Lib.hid (Kn.C_keep (Keep.of_below hbx) (fun _ _ e=>e) HLQ.out.2.1)) (Lib.hid (Kn.C_keep (Keep.of_below hbx) (fun _ _ e=>e) HLQ.out.2.2.1)) (Lib.hid (Kn.C_keep (Keep.of_below hbx) (fun _ _ e=>e) HLQ.out.2.2.2)) HCQ HRI (Lib.hid (by have:=hm.out;have:=HRl.out;omega)) (Lib.hid (by have:=HTB.out i;omega)) hu' (.inl rfl) (Lib.hid ⟨Int.le_refl _,by have:=(pl_in HG.out (p:=(u':Int)) (by omega) (by omega)).1;omega⟩) (Lib.hid rfl)
    have HTN:Hid (T (i+1)=walkF n ss ov m (T i) q u' 1 0):=Lib.hid (by have:=HTG.out i _ q EE.out HQG.out;rw [way_zero rfl] at this;exact this)
    clear HSF z0 z1' z2 z3 z4 z5 z6 z7 t0 t1 e0' e1'
    go_wp2_with fail
    refine hIH.mono ?_
    intro e w9 hRD
    obtain ⟨rfl,vo2,SZ,KZ,NZ⟩:=hRD
    obtain ⟨KF,NF⟩:=kid_mem HKK.out (KQ.out.below hbx) KZ HNX.out NZ
    have HSZ:=Lib.hid SZ
    have HKF:=Lib.hid KF
    have HNF2:=Lib.hid NF
    clear SZ KZ NZ KF NF hIH hbx hbc hbd
    go_wp2
    go_roundw
    case rel=>exact ⟨i+1,vo2,by omega,by go_num,Lib.hid (by rw [HTN.out];exact HSZ.out),HKF,HNF2⟩
    case measure=>simp [intOf];omega
   ·as_aux_lemma =>
    have HSF:Hid (∀w',Below Wq.heap.size Wq w'→(fun w'=>w'.cell? ⟨wr.heap.size+1,0,none⟩=some (.int .i64 q.frm)∧w'.cell? ⟨wr.heap.size+1,1,none⟩=some (.int .i64 q.til)∧w'.cell? ⟨wr.heap.size+1,2,none⟩=some (.slice A8a q.steps.length c8a)∧w'.cell? ⟨wr.heap.size+1,3,none⟩=some (.slice B3 q.lies.length d3)∧w'.cell? ⟨wr.heap.size+1,4,none⟩=some (.slice A8d q.crosses.length c8d)∧w'.cell? ⟨wr.heap.size+1,5,none⟩=some (.slice A8c q.parts.length c8c)∧w'.cell? ⟨wr.heap.size+1,6,none⟩=some (.slice none 0 0)∧w'.cell? ⟨wr.heap.size+1,7,none⟩=some (.slice none 0 0)∧w'.cell? ⟨g,0,none⟩=some (.slice A0 n.pieces.length c0)∧w'.cell? ⟨g,1,none⟩=some (.slice (some aj) n.joints.length c1)∧w'.cell? ⟨wr.heap.size,0,none⟩=some (.int .i64 u')∧w'.cell? ⟨wr.heap.size,1,none⟩=some (.int .i64 1)) w'):=Lib.hid (fun w' hb=>⟨cell_below hb z0,cell_below hb z1',cell_below hb z2,cell_below hb z3,cell_below hb z4,cell_below hb z5,cell_below hb z6,cell_below hb z7,cell_below hb t0,cell_below hb t1,cell_below hb e0',cell_below hb e1'⟩)
    have HEN':Hid (endP n.pieces.length (⟨u',1⟩:End)):=Lib.hid ⟨⟨by show (0:Int)≤u';omega,by show (u':Int)≤_;omega⟩,by show (0:Int)≤1;omega,by show (1:Int)≤1;omega⟩
    refine Rg.start 8 (fun w'=>w'.cell? ⟨wr.heap.size+1,0,none⟩=some (.int .i64 q.frm)∧w'.cell? ⟨wr.heap.size+1,1,none⟩=some (.int .i64 q.til)∧w'.cell? ⟨wr.heap.size+1,2,none⟩=some (.slice A8a q.steps.length c8a)∧w'.cell? ⟨wr.heap.size+1,3,none⟩=some (.slice B3 q.lies.length d3)∧w'.cell? ⟨wr.heap.size+1,4,none⟩=some (.slice A8d q.crosses.length c8d)∧w'.cell? ⟨wr.heap.size+1,5,none⟩=some (.slice A8c q.parts.length c8c)∧w'.cell? ⟨wr.heap.size+1,6,none⟩=some (.slice none 0 0)∧w'.cell? ⟨wr.heap.size+1,7,none⟩=some (.slice none 0 0)∧w'.cell? ⟨g,0,none⟩=some (.slice A0 n.pieces.length c0)∧w'.cell? ⟨g,1,none⟩=some (.slice (some aj) n.joints.length c1)∧w'.cell? ⟨wr.heap.size,0,none⟩=some (.int .i64 u')∧w'.cell? ⟨wr.heap.size,1,none⟩=some (.int .i64 1)) 9 rfl (by kernel_rfl) ?_
    have hHeld:=HSF.out _ (Below.refl _ _).drew
    refine Rg.pure 0 (v:=?v125) rfl (by kernel_rfl) (fun _ _ _ h=>h) (by rfl) hHeld ?y125 ?h125
    case y125=>(intro wA;go_simp;first | done | with_reducible rfl)
    simp only [Act.put,List.setIfInBounds_toArray,List.set_cons_zero,List.set_cons_succ]
    refine Rg.held 1 (v:=?v126) rfl (by kernel_rfl) (fun _ _ _ h=>h) (by rfl) hHeld ?y126 ?h126
    case y126=>(intro wA hSw;(try dsimp only at hSw);go_simp;first | done | with_reducible rfl)
    simp only [Act.put,List.setIfInBounds_toArray,List.set_cons_zero,List.set_cons_succ]
    refine Rg.pure 2 (v:=?v127) rfl (by kernel_rfl) (fun _ _ _ h=>h) (by rfl) hHeld ?y127 ?h127
    case y127=>(intro wA;go_simp;first | done | with_reducible rfl)
    simp only [Act.put,List.setIfInBounds_toArray,List.set_cons_zero,List.set_cons_succ]
    refine Rg.pure 3 (v:=?v128) rfl (by kernel_rfl) (fun _ _ _ h=>h) (by rfl) hHeld ?y128 ?h128
    case y128=>(intro wA;go_simp;first | done | with_reducible rfl)
    simp only [Act.put,List.setIfInBounds_toArray,List.set_cons_zero,List.set_cons_succ]
    refine Rg.pure 4 (v:=?v129) rfl (by kernel_rfl) (fun _ _ _ h=>h) (by rfl) hHeld ?y129 ?h129
    case y129=>(intro wA;go_simp;first | done | with_reducible rfl)
    simp only [Act.put,List.setIfInBounds_toArray,List.set_cons_zero,List.set_cons_succ]
    refine Rg.held 5 (v:=?v130) rfl (by kernel_rfl) (fun _ _ _ h=>h) (by rfl) hHeld ?y130 ?h130
    case y130=>(intro wA hSw;(try dsimp only at hSw);go_simp;first | done | with_reducible rfl)
    simp only [Act.put,List.setIfInBounds_toArray,List.set_cons_zero,List.set_cons_succ]
    refine Rg.held 6 (v:=?v131) rfl (by kernel_rfl) (fun _ _ _ h=>h) (by rfl) hHeld ?y131 ?h131
    case y131=>(intro wA hSw;(try dsimp only at hSw);go_simp;first | done | with_reducible rfl)
    simp only [Act.put,List.setIfInBounds_toArray,List.set_cons_zero,List.set_cons_succ]
    refine Rg.one 7 rfl (by kernel_rfl) (fun K hK=>?_)
    refine step_is_call 104 rfl rfl ?_
    go_simp
    go_at_call 104
    have hbd:Below Wq.heap.size Wq Wq.drew:=(Below.refl _ _).drew
    have hEnt:=implEnter n (.slice (some aj) n.joints.length c1) A0 c0 ⟨u',1⟩ _ (FQ.out.below hbd).net.p HG HEN'.out
    rw [way_one rfl] at hEnt
    (with_reducible refine hEnt.mono ?_)
    rintro e wx ⟨rfl,hbc⟩
    have hbx:Below Wq.heap.size Wq wx:=hbd.trans (hbc.mono hbd.size)
    refine hK.out _ _ (HSF.out _ hbx) ?_
    clear hK K hHeld hEnt
    try simp only [Act.put,List.setIfInBounds_toArray,List.set_cons_zero,List.set_cons_succ]
    refine Rg.row [8] [_] rfl (by kernel_rfl) ?_
    have hIH:=IH.out (T i) vo q u' (-1) 0 (atOf n u' (-1) 0) A8a B3 A8d A8c c8a d3 c8d c8c wx (Lib.hid (FQ.out.below hbx)) (Lib.hid (Kn.C_keep (Keep.of_below hbx) (fun _ _ e=>e) HLQ.out.1)) (Lib.hid (Kn.C_keep (Keep.of_below hbx) (fun _ _ e=>e) HLQ.out.2.1)) (Lib.hid (Kn.C_keep (Keep.of_below hbx) (fun _ _ e=>e) HLQ.out.2.2.1)) (Lib.hid (Kn.C_keep (Keep.of_below hbx) (fun _ _ e=>e) HLQ.out.2.2.2)) HCQ HRI (Lib.hid (by have:=hm.out;have:=HRl.out;omega)) (Lib.hid (by have:=HTB.out i;omega)) hu' (.inr rfl) (Lib.hid ⟨Int.le_refl _,by have:=(pl_in HG.out (p:=(u':Int)) (by omega) (by omega)).1;omega⟩) (Lib.hid rfl)
    have HTN:Hid (T (i+1)=walkF n ss ov m (T i) q u' (-1) 0):=Lib.hid (by have:=HTG.out i _ q EE.out HQG.out;rw [way_one rfl] at this;exact this)
    clear HSF z0 z1' z2 z3 z4 z5 z6 z7 t0 t1 e0' e1'
    go_wp2_with fail
    refine hIH.mono ?_
    intro e w9 hRD
    obtain ⟨rfl,vo2,SZ,KZ,NZ⟩:=hRD
    obtain ⟨KF,NF⟩:=kid_mem HKK.out (KQ.out.below hbx) KZ HNX.out NZ
    have HSZ:=Lib.hid SZ
    have HKF:=Lib.hid KF
    have HNF2:=Lib.hid NF
    clear SZ KZ NZ KF NF hIH hbx hbc hbd
    go_wp2
    go_roundw
    case rel=>exact ⟨i+1,vo2,by omega,by go_num,Lib.hid (by rw [HTN.out];exact HSZ.out),HKF,HNF2⟩
    case measure=>simp [intOf];omega
  have dk4:(x.kind == 4)=false:=int_eqf h4
  by_cases h3:x.kind=3
  rotate_left
  ·have dk3:(x.kind == 3)=false:=int_eqf h3
   obtain ⟨q,HQ⟩:∃q:Route,Hid (R2=q):=⟨_,Lib.hid rfl⟩
   have HQG:Hid (goOn R2 x j kj i=some q):=Lib.hid (by rw [goOn_plain h3 h4,HQ.out])
   have hqt:Hid (q.til=r.til):=Lib.hid (by rw [←HQ.out];exact HTL.out)
   have LZ:Hid (PJ wr W7 g (wr.heap.size+1) vo q r.til A8a B3 B4 A8c c8a d3 d4 c8c):=Lib.hid (by have:=LQ.out;rw [←HQ.out];exact this)
   have HEW:=HE7
   clear h3 h4
   have HBg:Hid (Blk W7 g 121 (walkB n A0 (some aj) c0 c1 (.slice A2 ss.length c2) ov vo ((T i).2:Int))):=Lib.hid (HS.out.f.below LZ.out.K hgr)
   have g5:=HBg.out.cell 5 rfl
   have f5:=HBg.out.frozen 5
   have hgW:g < W7.heap.size:=HBg.out.lt
   have hTi:(T i).2≤20310:=by have:=(HTB.out i).2;omega
   have hwr:IntKind.i64.wrap (((T i).2:Int)+1)=((T i).2:Int)+1:=wrap_small (by omega) (by omega)
   go_upto_region 33 with (fail)
   obtain ⟨Wq,hWq,KQ,HBq,HQq,HEq⟩:∃W,W=W7.setCell ⟨g,5,none⟩ (.int .i64 (((T i).2:Int)+1))∧Hid (Keep (fun b=>b=g) wr W)∧Hid (Blk W g 121 (walkB n A0 (some aj) c0 c1 (.slice A2 ss.length c2) ov vo (((T i).2:Int)+1)))∧Hid (Blk W (wr.heap.size+1) 44 [.int .i64 q.frm,.int .i64 q.til,.slice A8a q.steps.length c8a,.slice B3 q.lies.length d3,.slice B4 q.crosses.length d4,.slice A8c q.parts.length c8c,.slice none 0 0,.slice none 0 0])∧Hid (Blk W wr.heap.size 102 [.int .i64 u',.int .i64 y1]):=by
    refine ⟨_,rfl,Lib.hid (Keep.setCell (S:=fun b=>b=g) (p:=⟨g,5,none⟩) (Keep.of_below LZ.out.K) (fun _=>rfl) _),Lib.hid (HBg.out.set_ 5 _),Lib.hid ?_,Lib.hid (HEW.out.far (p:=⟨g,5,none⟩) (by show wr.heap.size≠g;omega) _)⟩
    have h1:=LZ.out.B
    rw [←hqt.out] at h1
    exact h1.far (p:=⟨g,5,none⟩) (by show wr.heap.size+1≠g;omega) _
   rw [←hWq]
   have FQ:=Lib.hid (HS.out.later KQ.out HBq.out)
   have HLQ:Hid (stepK.C Wq (Out Wq (WSet g vo)) A8a q.steps∧lieK.C Wq (Out Wq (WSet g vo)) B3 q.lies∧Kn.int.C Wq (Out Wq (WSet g vo)) B4 q.crosses∧partK.C Wq (Out Wq (WSet g vo)) A8c q.parts):=by
    obtain ⟨k1,k2,k3,k4⟩:=LZ.out.lists
    have hk:Keep (WSet g vo) W7 Wq:=by rw [hWq];exact Keep.setCell (S:=WSet g vo) (p:=⟨g,5,none⟩) (Keep.refl _ _) (fun _=>.inl rfl) _
    exact Lib.hid ⟨Kn.C_keep hk (fun _ _ e=>e) k1,Kn.C_keep hk (fun _ _ e=>e) k2,Kn.C_keep hk (fun _ _ e=>e) k3,Kn.C_keep hk (fun _ _ e=>e) k4⟩
   have HCQ:=Lib.hid LZ.out.cap
   clear hWq g5 f5 hgW hwr HBg
   obtain ⟨hRI,hRl⟩:=HRK.out i q hlt HQG.out
   have HRI:=Lib.hid hRI
   have HRl:=Lib.hid hRl
   clear hRI hRl
   have z0:=HQq.out.cell 0 rfl
   have z1':=HQq.out.cell 1 rfl
   have z2:=HQq.out.cell 2 rfl
   have z3:=HQq.out.cell 3 rfl
   have z4:=HQq.out.cell 4 rfl
   have z5:=HQq.out.cell 5 rfl
   have z6:=HQq.out.cell 6 rfl
   have z7:=HQq.out.cell 7 rfl
   have t0:=HBq.out.cell 0 rfl
   have t1:=HBq.out.cell 1 rfl
   have e0':=HEq.out.cell 0 rfl
   have e1':=HEq.out.cell 1 rfl
   have hgq:g < Wq.heap.size:=HBq.out.lt
   rcases hs' with rfl | rfl
   ·as_aux_lemma =>
    have HSF:Hid (∀w',Below Wq.heap.size Wq w'→(fun w'=>w'.cell? ⟨wr.heap.size+1,0,none⟩=some (.int .i64 q.frm)∧w'.cell? ⟨wr.heap.size+1,1,none⟩=some (.int .i64 q.til)∧w'.cell? ⟨wr.heap.size+1,2,none⟩=some (.slice A8a q.steps.length c8a)∧w'.cell? ⟨wr.heap.size+1,3,none⟩=some (.slice B3 q.lies.length d3)∧w'.cell? ⟨wr.heap.size+1,4,none⟩=some (.slice B4 q.crosses.length d4)∧w'.cell? ⟨wr.heap.size+1,5,none⟩=some (.slice A8c q.parts.length c8c)∧w'.cell? ⟨wr.heap.size+1,6,none⟩=some (.slice none 0 0)∧w'.cell? ⟨wr.heap.size+1,7,none⟩=some (.slice none 0 0)∧w'.cell? ⟨g,0,none⟩=some (.slice A0 n.pieces.length c0)∧w'.cell? ⟨g,1,none⟩=some (.slice (some aj) n.joints.length c1)∧w'.cell? ⟨wr.heap.size,0,none⟩=some (.int .i64 u')∧w'.cell? ⟨wr.heap.size,1,none⟩=some (.int .i64 0)) w'):=Lib.hid (fun w' hb=>⟨cell_below hb z0,cell_below hb z1',cell_below hb z2,cell_below hb z3,cell_below hb z4,cell_below hb z5,cell_below hb z6,cell_below hb z7,cell_below hb t0,cell_below hb t1,cell_below hb e0',cell_below hb e1'⟩)
    have HEN':Hid (endP n.pieces.length (⟨u',0⟩:End)):=Lib.hid ⟨⟨by show (0:Int)≤u';omega,by show (u':Int)≤_;omega⟩,by show (0:Int)≤0;omega,by show (0:Int)≤1;omega⟩
    refine Rg.start 8 (fun w'=>w'.cell? ⟨wr.heap.size+1,0,none⟩=some (.int .i64 q.frm)∧w'.cell? ⟨wr.heap.size+1,1,none⟩=some (.int .i64 q.til)∧w'.cell? ⟨wr.heap.size+1,2,none⟩=some (.slice A8a q.steps.length c8a)∧w'.cell? ⟨wr.heap.size+1,3,none⟩=some (.slice B3 q.lies.length d3)∧w'.cell? ⟨wr.heap.size+1,4,none⟩=some (.slice B4 q.crosses.length d4)∧w'.cell? ⟨wr.heap.size+1,5,none⟩=some (.slice A8c q.parts.length c8c)∧w'.cell? ⟨wr.heap.size+1,6,none⟩=some (.slice none 0 0)∧w'.cell? ⟨wr.heap.size+1,7,none⟩=some (.slice none 0 0)∧w'.cell? ⟨g,0,none⟩=some (.slice A0 n.pieces.length c0)∧w'.cell? ⟨g,1,none⟩=some (.slice (some aj) n.joints.length c1)∧w'.cell? ⟨wr.heap.size,0,none⟩=some (.int .i64 u')∧w'.cell? ⟨wr.heap.size,1,none⟩=some (.int .i64 0)) 9 rfl (by kernel_rfl) ?_
    have hHeld:=HSF.out _ (Below.refl _ _).drew
    refine Rg.pure 0 (v:=?v132) rfl (by kernel_rfl) (fun _ _ _ h=>h) (by rfl) hHeld ?y132 ?h132
    case y132=>(intro wA;go_simp;first | done | with_reducible rfl)
    simp only [Act.put,List.setIfInBounds_toArray,List.set_cons_zero,List.set_cons_succ]
    refine Rg.held 1 (v:=?v133) rfl (by kernel_rfl) (fun _ _ _ h=>h) (by rfl) hHeld ?y133 ?h133
    case y133=>(intro wA hSw;(try dsimp only at hSw);go_simp;first | done | with_reducible rfl)
    simp only [Act.put,List.setIfInBounds_toArray,List.set_cons_zero,List.set_cons_succ]
    refine Rg.pure 2 (v:=?v134) rfl (by kernel_rfl) (fun _ _ _ h=>h) (by rfl) hHeld ?y134 ?h134
    case y134=>(intro wA;go_simp;first | done | with_reducible rfl)
    simp only [Act.put,List.setIfInBounds_toArray,List.set_cons_zero,List.set_cons_succ]
    refine Rg.pure 3 (v:=?v135) rfl (by kernel_rfl) (fun _ _ _ h=>h) (by rfl) hHeld ?y135 ?h135
    case y135=>(intro wA;go_simp;first | done | with_reducible rfl)
    simp only [Act.put,List.setIfInBounds_toArray,List.set_cons_zero,List.set_cons_succ]
    refine Rg.pure 4 (v:=?v136) rfl (by kernel_rfl) (fun _ _ _ h=>h) (by rfl) hHeld ?y136 ?h136
    case y136=>(intro wA;go_simp;first | done | with_reducible rfl)
    simp only [Act.put,List.setIfInBounds_toArray,List.set_cons_zero,List.set_cons_succ]
    refine Rg.held 5 (v:=?v137) rfl (by kernel_rfl) (fun _ _ _ h=>h) (by rfl) hHeld ?y137 ?h137
    case y137=>(intro wA hSw;(try dsimp only at hSw);go_simp;first | done | with_reducible rfl)
    simp only [Act.put,List.setIfInBounds_toArray,List.set_cons_zero,List.set_cons_succ]
    refine Rg.held 6 (v:=?v138) rfl (by kernel_rfl) (fun _ _ _ h=>h) (by rfl) hHeld ?y138 ?h138
    case y138=>(intro wA hSw;(try dsimp only at hSw);go_simp;first | done | with_reducible rfl)
    simp only [Act.put,List.setIfInBounds_toArray,List.set_cons_zero,List.set_cons_succ]
    refine Rg.one 7 rfl (by kernel_rfl) (fun K hK=>?_)
    refine step_is_call 104 rfl rfl ?_
    go_simp
    go_at_call 104
    have hbd:Below Wq.heap.size Wq Wq.drew:=(Below.refl _ _).drew
    have hEnt:=implEnter n (.slice (some aj) n.joints.length c1) A0 c0 ⟨u',0⟩ _ (FQ.out.below hbd).net.p HG HEN'.out
    rw [way_zero rfl] at hEnt
    (with_reducible refine hEnt.mono ?_)
    rintro e wx ⟨rfl,hbc⟩
    have hbx:Below Wq.heap.size Wq wx:=hbd.trans (hbc.mono hbd.size)
    refine hK.out _ _ (HSF.out _ hbx) ?_
    clear hK K hHeld hEnt
    try simp only [Act.put,List.setIfInBounds_toArray,List.set_cons_zero,List.set_cons_succ]
    refine Rg.row [8] [_] rfl (by kernel_rfl) ?_
    have hIH:=IH.out (T i) vo q u' 1 0 (atOf n u' 1 0) A8a B3 B4 A8c c8a d3 d4 c8c wx (Lib.hid (FQ.out.below hbx)) (Lib.hid (Kn.C_keep (Keep.of_below hbx) (fun _ _ e=>e) HLQ.out.1)) (Lib.hid (Kn.C_keep (Keep.of_below hbx) (fun _ _ e=>e) HLQ.out.2.1)) (Lib.hid (Kn.C_keep (Keep.of_below hbx) (fun _ _ e=>e) HLQ.out.2.2.1)) (Lib.hid (Kn.C_keep (Keep.of_below hbx) (fun _ _ e=>e) HLQ.out.2.2.2)) HCQ HRI (Lib.hid (by have:=hm.out;have:=HRl.out;omega)) (Lib.hid (by have:=HTB.out i;omega)) hu' (.inl rfl) (Lib.hid ⟨Int.le_refl _,by have:=(pl_in HG.out (p:=(u':Int)) (by omega) (by omega)).1;omega⟩) (Lib.hid rfl)
    have HTN:Hid (T (i+1)=walkF n ss ov m (T i) q u' 1 0):=Lib.hid (by have:=HTG.out i _ q EE.out HQG.out;rw [way_zero rfl] at this;exact this)
    clear HSF z0 z1' z2 z3 z4 z5 z6 z7 t0 t1 e0' e1'
    go_wp2_with fail
    refine hIH.mono ?_
    intro e w9 hRD
    obtain ⟨rfl,vo2,SZ,KZ,NZ⟩:=hRD
    obtain ⟨KF,NF⟩:=kid_mem HKK.out (KQ.out.below hbx) KZ HNX.out NZ
    have HSZ:=Lib.hid SZ
    have HKF:=Lib.hid KF
    have HNF2:=Lib.hid NF
    clear SZ KZ NZ KF NF hIH hbx hbc hbd
    go_wp2
    go_roundw
    case rel=>exact ⟨i+1,vo2,by omega,by go_num,Lib.hid (by rw [HTN.out];exact HSZ.out),HKF,HNF2⟩
    case measure=>simp [intOf];omega
   ·as_aux_lemma =>
    have HSF:Hid (∀w',Below Wq.heap.size Wq w'→(fun w'=>w'.cell? ⟨wr.heap.size+1,0,none⟩=some (.int .i64 q.frm)∧w'.cell? ⟨wr.heap.size+1,1,none⟩=some (.int .i64 q.til)∧w'.cell? ⟨wr.heap.size+1,2,none⟩=some (.slice A8a q.steps.length c8a)∧w'.cell? ⟨wr.heap.size+1,3,none⟩=some (.slice B3 q.lies.length d3)∧w'.cell? ⟨wr.heap.size+1,4,none⟩=some (.slice B4 q.crosses.length d4)∧w'.cell? ⟨wr.heap.size+1,5,none⟩=some (.slice A8c q.parts.length c8c)∧w'.cell? ⟨wr.heap.size+1,6,none⟩=some (.slice none 0 0)∧w'.cell? ⟨wr.heap.size+1,7,none⟩=some (.slice none 0 0)∧w'.cell? ⟨g,0,none⟩=some (.slice A0 n.pieces.length c0)∧w'.cell? ⟨g,1,none⟩=some (.slice (some aj) n.joints.length c1)∧w'.cell? ⟨wr.heap.size,0,none⟩=some (.int .i64 u')∧w'.cell? ⟨wr.heap.size,1,none⟩=some (.int .i64 1)) w'):=Lib.hid (fun w' hb=>⟨cell_below hb z0,cell_below hb z1',cell_below hb z2,cell_below hb z3,cell_below hb z4,cell_below hb z5,cell_below hb z6,cell_below hb z7,cell_below hb t0,cell_below hb t1,cell_below hb e0',cell_below hb e1'⟩)
    have HEN':Hid (endP n.pieces.length (⟨u',1⟩:End)):=Lib.hid ⟨⟨by show (0:Int)≤u';omega,by show (u':Int)≤_;omega⟩,by show (0:Int)≤1;omega,by show (1:Int)≤1;omega⟩
    refine Rg.start 8 (fun w'=>w'.cell? ⟨wr.heap.size+1,0,none⟩=some (.int .i64 q.frm)∧w'.cell? ⟨wr.heap.size+1,1,none⟩=some (.int .i64 q.til)∧w'.cell? ⟨wr.heap.size+1,2,none⟩=some (.slice A8a q.steps.length c8a)∧w'.cell? ⟨wr.heap.size+1,3,none⟩=some (.slice B3 q.lies.length d3)∧w'.cell? ⟨wr.heap.size+1,4,none⟩=some (.slice B4 q.crosses.length d4)∧w'.cell? ⟨wr.heap.size+1,5,none⟩=some (.slice A8c q.parts.length c8c)∧w'.cell? ⟨wr.heap.size+1,6,none⟩=some (.slice none 0 0)∧w'.cell? ⟨wr.heap.size+1,7,none⟩=some (.slice none 0 0)∧w'.cell? ⟨g,0,none⟩=some (.slice A0 n.pieces.length c0)∧w'.cell? ⟨g,1,none⟩=some (.slice (some aj) n.joints.length c1)∧w'.cell? ⟨wr.heap.size,0,none⟩=some (.int .i64 u')∧w'.cell? ⟨wr.heap.size,1,none⟩=some (.int .i64 1)) 9 rfl (by kernel_rfl) ?_
    have hHeld:=HSF.out _ (Below.refl _ _).drew
    refine Rg.pure 0 (v:=?v139) rfl (by kernel_rfl) (fun _ _ _ h=>h) (by rfl) hHeld ?y139 ?h139
    case y139=>(intro wA;go_simp;first | done | with_reducible rfl)
    simp only [Act.put,List.setIfInBounds_toArray,List.set_cons_zero,List.set_cons_succ]
    refine Rg.held 1 (v:=?v140) rfl (by kernel_rfl) (fun _ _ _ h=>h) (by rfl) hHeld ?y140 ?h140
    case y140=>(intro wA hSw;(try dsimp only at hSw);go_simp;first | done | with_reducible rfl)
    simp only [Act.put,List.setIfInBounds_toArray,List.set_cons_zero,List.set_cons_succ]
    refine Rg.pure 2 (v:=?v141) rfl (by kernel_rfl) (fun _ _ _ h=>h) (by rfl) hHeld ?y141 ?h141
    case y141=>(intro wA;go_simp;first | done | with_reducible rfl)
    simp only [Act.put,List.setIfInBounds_toArray,List.set_cons_zero,List.set_cons_succ]
    refine Rg.pure 3 (v:=?v142) rfl (by kernel_rfl) (fun _ _ _ h=>h) (by rfl) hHeld ?y142 ?h142
    case y142=>(intro wA;go_simp;first | done | with_reducible rfl)
    simp only [Act.put,List.setIfInBounds_toArray,List.set_cons_zero,List.set_cons_succ]
    refine Rg.pure 4 (v:=?v143) rfl (by kernel_rfl) (fun _ _ _ h=>h) (by rfl) hHeld ?y143 ?h143
    case y143=>(intro wA;go_simp;first | done | with_reducible rfl)
    simp only [Act.put,List.setIfInBounds_toArray,List.set_cons_zero,List.set_cons_succ]
    refine Rg.held 5 (v:=?v144) rfl (by kernel_rfl) (fun _ _ _ h=>h) (by rfl) hHeld ?y144 ?h144
    case y144=>(intro wA hSw;(try dsimp only at hSw);go_simp;first | done | with_reducible rfl)
    simp only [Act.put,List.setIfInBounds_toArray,List.set_cons_zero,List.set_cons_succ]
    refine Rg.held 6 (v:=?v145) rfl (by kernel_rfl) (fun _ _ _ h=>h) (by rfl) hHeld ?y145 ?h145
    case y145=>(intro wA hSw;(try dsimp only at hSw);go_simp;first | done | with_reducible rfl)
    simp only [Act.put,List.setIfInBounds_toArray,List.set_cons_zero,List.set_cons_succ]
    refine Rg.one 7 rfl (by kernel_rfl) (fun K hK=>?_)
    refine step_is_call 104 rfl rfl ?_
    go_simp
    go_at_call 104
    have hbd:Below Wq.heap.size Wq Wq.drew:=(Below.refl _ _).drew
    have hEnt:=implEnter n (.slice (some aj) n.joints.length c1) A0 c0 ⟨u',1⟩ _ (FQ.out.below hbd).net.p HG HEN'.out
    rw [way_one rfl] at hEnt
    (with_reducible refine hEnt.mono ?_)
    rintro e wx ⟨rfl,hbc⟩
    have hbx:Below Wq.heap.size Wq wx:=hbd.trans (hbc.mono hbd.size)
    refine hK.out _ _ (HSF.out _ hbx) ?_
    clear hK K hHeld hEnt
    try simp only [Act.put,List.setIfInBounds_toArray,List.set_cons_zero,List.set_cons_succ]
    refine Rg.row [8] [_] rfl (by kernel_rfl) ?_
    have hIH:=IH.out (T i) vo q u' (-1) 0 (atOf n u' (-1) 0) A8a B3 B4 A8c c8a d3 d4 c8c wx (Lib.hid (FQ.out.below hbx)) (Lib.hid (Kn.C_keep (Keep.of_below hbx) (fun _ _ e=>e) HLQ.out.1)) (Lib.hid (Kn.C_keep (Keep.of_below hbx) (fun _ _ e=>e) HLQ.out.2.1)) (Lib.hid (Kn.C_keep (Keep.of_below hbx) (fun _ _ e=>e) HLQ.out.2.2.1)) (Lib.hid (Kn.C_keep (Keep.of_below hbx) (fun _ _ e=>e) HLQ.out.2.2.2)) HCQ HRI (Lib.hid (by have:=hm.out;have:=HRl.out;omega)) (Lib.hid (by have:=HTB.out i;omega)) hu' (.inr rfl) (Lib.hid ⟨Int.le_refl _,by have:=(pl_in HG.out (p:=(u':Int)) (by omega) (by omega)).1;omega⟩) (Lib.hid rfl)
    have HTN:Hid (T (i+1)=walkF n ss ov m (T i) q u' (-1) 0):=Lib.hid (by have:=HTG.out i _ q EE.out HQG.out;rw [way_one rfl] at this;exact this)
    clear HSF z0 z1' z2 z3 z4 z5 z6 z7 t0 t1 e0' e1'
    go_wp2_with fail
    refine hIH.mono ?_
    intro e w9 hRD
    obtain ⟨rfl,vo2,SZ,KZ,NZ⟩:=hRD
    obtain ⟨KF,NF⟩:=kid_mem HKK.out (KQ.out.below hbx) KZ HNX.out NZ
    have HSZ:=Lib.hid SZ
    have HKF:=Lib.hid KF
    have HNF2:=Lib.hid NF
    clear SZ KZ NZ KF NF hIH hbx hbc hbd
    go_wp2
    go_roundw
    case rel=>exact ⟨i+1,vo2,by omega,by go_num,Lib.hid (by rw [HTN.out];exact HSZ.out),HKF,HNF2⟩
    case measure=>simp [intOf];omega
  have dk3:(x.kind == 3)=true:=int_eqt h3
  obtain ⟨lv,hlv⟩:∃lv,Hid (lieAt kj i=lv):=⟨_,Lib.hid rfl⟩
  have HLV:Hid (LH[i]?=some lv):=Lib.hid (by rw [←hlv.out];exact HOK2.out h3 i hlt)
  have hlh:i < LH.length:=(List.getElem?_eq_some_iff.1 HLV.out).1
  obtain ⟨bl,rfl,yv,EV,gv⟩:=int_at HBL7.out i hlh
  obtain rfl:yv=lv:=Option.some.inj (EV.out.symm.trans HLV.out)
  have H3:=Lib.hid h3
  have jh:(i:Int) < (LH.length:Int):=by omega
  have hrl:=HR2L.out.1
  have v3':=HR7.out.cell 3 rfl
  have hh7:w.heap.size < W7.heap.size:=HR7.out.lt
  clear h3 h4
  go_upto_region 29 with (go_at_call 102;refine (implIndex R2.lies B3 d3 j bj W7 LQ.out.l HJ7.out).mono ?_;rintro e w8 ⟨o,rfl,ho1,ho2,hb8⟩;have HO1:=Lib.hid ho1;have HO2:=Lib.hid ho2;clear ho1 ho2)
  have LQ8:=Lib.hid (LQ.out.below hb8)
  have HE8:Hid (Blk w8 wr.heap.size 102 [.int .i64 u',.int .i64 y1]):=Lib.hid (HE7.out.below hb8 HE7.out.lt)
  have v3:=cell_below hb8 v3'
  have vj:=cell_below hb8 (HJ7.out.cell 0 rfl)
  have vl:=cell_below hb8 gv
  have hh8:w.heap.size < w8.heap.size:=Nat.lt_of_lt_of_le hh7 hb8.size
  have hj8:bj < w8.heap.size:=Nat.lt_of_lt_of_le HJ7.out.lt hb8.size
  clear v3' gv hb8 LQ HE7 HJ7 HR7 HBL7 hh7
  cases o with
  | none =>
   have HMS:Hid (addLie R2.lies j yv=some (R2.lies++[⟨j,yv⟩])):=Lib.hid (addLie_miss (HO1.out rfl))
   obtain ⟨q,HQ⟩:∃q:Route,Hid (({ R2 with lies:=R2.lies++[⟨j,yv⟩] }:Route)=q):=⟨_,Lib.hid rfl⟩
   have HQG:Hid (goOn R2 x j kj i=some q):=Lib.hid (by rw [goOn_lie H3.out (by rw [hlv.out];exact HMS.out),HQ.out])
   have hqt:Hid (q.til=r.til):=Lib.hid (by rw [←HQ.out];exact HTL.out)
   rw [onum_none]
   have hsrc:=LQ8.out.l
   have HSRCl:=Lib.hid hsrc
   clear hsrc
   have m63:R2.lies.length+1≤maxLen:=by simp only [maxLen];omega
   have mby:(R2.lies.length+1)*16≤140737488355328:=by omega
   have HSF:Hid (∀w',Below w8.heap.size w8 w'→(fun w'=>w'.cell? ⟨w.heap.size,3,none⟩=some (.slice B3 R2.lies.length d3)∧w'.cell? ⟨bj,0,none⟩=some (.int .i64 j)∧w'.cell? (bl.add i)=some (.int .i64 yv)) w'):=Lib.hid (fun w' hb=>⟨cell_below hb v3,cell_below hb vj,cell_below hb vl⟩)
   go_wp2
   go_cut [] (fun W6=>∃A8 c8,Hid (PJ wr W6 g (wr.heap.size+1) vo { R2 with lies:=R2.lies++[(⟨j,yv⟩:Lie)] } r.til A8a A8 B4 A8c c8a c8 d4 c8c)∧Hid (Keep (fun b=>b=(wr.heap.size+1)) w8 W6))
   case first =>
    clear IH hI hm hst hov HTB HTS HTG HW HRK HLE HKK HNX
    refine Rg.start 10 (fun w'=>w'.cell? ⟨w.heap.size,3,none⟩=some (.slice B3 R2.lies.length d3)∧w'.cell? ⟨bj,0,none⟩=some (.int .i64 j)∧w'.cell? (bl.add i)=some (.int .i64 yv)) 13 rfl (by kernel_rfl) ?_
    have hHeld:=HSF.out _ (Below.refl _ _).drew
    refine Rg.pure 0 (v:=?v82) rfl (by kernel_rfl) (fun _ _ _ h=>h) (by rfl) hHeld ?y82 ?h82
    case y82=>(intro wA;go_simp;first | done | with_reducible rfl)
    simp only [Act.put,List.setIfInBounds_toArray,List.set_cons_zero,List.set_cons_succ]
    refine Rg.held 1 (v:=?v83) rfl (by kernel_rfl) (fun _ _ _ h=>h) (by rfl) hHeld ?y83 ?h83
    case y83=>(intro wA hSw;(try dsimp only at hSw);go_simp;first | done | with_reducible rfl)
    simp only [Act.put,List.setIfInBounds_toArray,List.set_cons_zero,List.set_cons_succ]
    refine Rg.held 3 (v:=?v84) rfl (by kernel_rfl) (fun _ _ _ h=>h) (by rfl) hHeld ?y84 ?h84
    case y84=>(intro wA hSw;(try dsimp only at hSw);go_simp;first | done | with_reducible rfl)
    simp only [Act.put,List.setIfInBounds_toArray,List.set_cons_zero,List.set_cons_succ]
    refine Rg.pure 4 (v:=?v85) rfl (by kernel_rfl) (fun _ _ _ h=>h) (by rfl) hHeld ?y85 ?h85
    case y85=>(intro wA;go_simp;first | done | with_reducible rfl)
    simp only [Act.put,List.setIfInBounds_toArray,List.set_cons_zero,List.set_cons_succ]
    refine Rg.pure 5 (v:=?v86) rfl (by kernel_rfl) (fun _ _ _ h=>h) (by rfl) hHeld ?y86 ?h86
    case y86=>(intro wA;go_simp;first | done | with_reducible rfl)
    simp only [Act.put,List.setIfInBounds_toArray,List.set_cons_zero,List.set_cons_succ]
    refine Rg.pure 6 (v:=?v87) rfl (by kernel_rfl) (fun _ _ _ h=>h) (by rfl) hHeld ?y87 ?h87
    case y87=>(intro wA;go_simp;first | done | with_reducible rfl)
    simp only [Act.put,List.setIfInBounds_toArray,List.set_cons_zero,List.set_cons_succ]
    refine Rg.held 7 (v:=?v88) rfl (by kernel_rfl) (fun _ _ _ h=>h) (by rfl) hHeld ?y88 ?h88
    case y88=>(intro wA hSw;(try dsimp only at hSw);go_simp;first | done | with_reducible rfl)
    simp only [Act.put,List.setIfInBounds_toArray,List.set_cons_zero,List.set_cons_succ]
    refine Rg.pure 8 (v:=?v89) rfl (by kernel_rfl) (fun _ _ _ h=>h) (by rfl) hHeld ?y89 ?h89
    case y89=>(intro wA;go_simp;first | done | with_reducible rfl)
    simp only [Act.put,List.setIfInBounds_toArray,List.set_cons_zero,List.set_cons_succ]
    refine Rg.two 2 9 rfl rfl (by kernel_rfl) (fun K hK=>?_) (fun K hK=>?_)
    ·refine step_is_call 72 rfl rfl ?_
     go_simp
     go_at_call 72
     have hbd:Below w8.heap.size w8 _:=(Below.refl _ _).drew
     (with_reducible refine (cloneLie R2.lies B3 d3 _ (Kn.C_below hbd HSRCl.out) (by omega)).mono ?_)
     rintro e wx ⟨Ag,cg,rfl,hcg,HRg,HOg,hbc⟩
     have hbx:Below w8.heap.size w8 wx:=hbd.trans (hbc.mono hbd.size)
     have HOg:Hid (∀b,(Value.slice Ag R2.lies.length cg).ownBlock=some b→w8.heap.size≤b):=Lib.hid (fun b hb=>Nat.le_trans hbd.size (HOg.out b hb))
     refine hK.out _ _ (HSF.out _ hbx) ?_
     clear hK K hHeld
     try simp only [Act.put,List.setIfInBounds_toArray,List.set_cons_zero,List.set_cons_succ]
     refine Rg.one 9 rfl (by kernel_rfl) (fun K hK=>?_)
     go_simp
     have hba:Below w8.heap.size w8 (wx.alloc (.cells #[.int .i64 j,.int .i64 yv] 52)):=hbx.alloc hbx.size _
     refine hK.out _ _ (HSF.out _ hba) ?_
     clear hK K
     have hsx:=hbx.size
     have hsd:w8.drew.heap.size=w8.heap.size:=rfl
     refine Rg.row [10,11,12] [_,_,_] rfl (by kernel_rfl) ?_
     go_wp2_with (at_builtin;go_loud (refine wpList_append_rw _ rfl (.tmp 163) (.tmp 170) 39 rfl 52 iL _ 16 Try.underlying39 hiL hzL hyL hxL rfl (by decide) (.slice Ag R2.lies.length cg) R2.lies [(⟨j,yv⟩:Lie)] rfl (HRg.out.below (below_alloc _ _)) (fun _ h=>h.elim) (some ⟨wx.heap.size,0,none⟩) 1 1 rfl rfl (Kn.Src.one (lieK_mk _ _ (⟨j,yv⟩:Lie)) (new_cells _ _ _ rfl)) m63 mby ?_;intro v' w2 HR2 hg2 hat2;obtain ⟨A8,c8,rfl,hc8⟩:=HR2.form1;have hbw2:=below_push (hbx.alloc hbx.size _) hg2 HOg.out (hbx.alloc hbx.size _).size;have BH:=Lib.hid (LQ8.out.B.below hbw2 LQ8.out.B.lt);have u5:=BH.out.cell 3 rfl;have u7:=BH.out.frozen 3;have hhz2:(wr.heap.size+1) < w2.heap.size:=BH.out.lt))
     go_meet
     case rel=>exact ⟨A8,c8,Lib.hid (LQ8.out.setL HS.out hbw2 HR2 (own_next (fun b hb=>Nat.le_trans LQ8.out.K.size (HOg.out b hb)) hat2 (Nat.le_trans LQ8.out.K.size (hbx.alloc hbx.size _).size))),Lib.hid (Keep.setCell (S:=fun b=>b=(wr.heap.size+1)) (p:=⟨(wr.heap.size+1),3,none⟩) (Keep.of_below hbw2) (fun _=>rfl) _)⟩
    ·go_simp
     have hbe:Below w8.heap.size w8 ((w8.alloc (.cells #[.int .i64 j,.int .i64 yv] 52)).drew):=(below_alloc _ _).drew
     refine hK.out _ _ (HSF.out _ hbe) ?_
     clear hK K
     refine Rg.one 2 rfl (by kernel_rfl) (fun K hK=>?_)
     refine step_is_call 72 rfl rfl ?_
     go_simp
     go_at_call 72
     have hbd:Below w8.heap.size w8 _:=hbe
     (with_reducible refine (cloneLie R2.lies B3 d3 _ (Kn.C_below hbd HSRCl.out) (by omega)).mono ?_)
     rintro e wx ⟨Ag,cg,rfl,hcg,HRg,HOg,hbc⟩
     have hbx:Below w8.heap.size w8 wx:=hbd.trans (hbc.mono hbd.size)
     have HOg:Hid (∀b,(Value.slice Ag R2.lies.length cg).ownBlock=some b→w8.heap.size≤b):=Lib.hid (fun b hb=>Nat.le_trans hbd.size (HOg.out b hb))
     refine hK.out _ _ (HSF.out _ hbx) ?_
     clear hK K hHeld
     try simp only [Act.put,List.setIfInBounds_toArray,List.set_cons_zero,List.set_cons_succ]
     have hsx:=hbx.size
     have hse:((w8.alloc (.cells #[.int .i64 j,.int .i64 yv] 52)).drew).heap.size=w8.heap.size+1:=size_alloc _ _
     refine Rg.row [10,11,12] [_,_,_] rfl (by kernel_rfl) ?_
     go_wp2_with (at_builtin;go_loud (refine wpList_append_rw _ rfl (.tmp 163) (.tmp 170) 39 rfl 52 iL _ 16 Try.underlying39 hiL hzL hyL hxL rfl (by decide) (.slice Ag R2.lies.length cg) R2.lies [(⟨j,yv⟩:Lie)] rfl (HRg.out) (fun _ h=>h.elim) (some ⟨w8.heap.size,0,none⟩) 1 1 rfl rfl (Kn.Src.one (lieK_mk _ _ (⟨j,yv⟩:Lie)) (fun i u hu=>cell_below hbc (new_cells w8 _ _ rfl i u hu))) m63 mby ?_;intro v' w2 HR2 hg2 hat2;obtain ⟨A8,c8,rfl,hc8⟩:=HR2.form1;have hbw2:=below_push hbx hg2 HOg.out hbx.size;have BH:=Lib.hid (LQ8.out.B.below hbw2 LQ8.out.B.lt);have u5:=BH.out.cell 3 rfl;have u7:=BH.out.frozen 3;have hhz2:(wr.heap.size+1) < w2.heap.size:=BH.out.lt))
     go_meet
     case rel=>exact ⟨A8,c8,Lib.hid (LQ8.out.setL HS.out hbw2 HR2 (own_next (fun b hb=>Nat.le_trans LQ8.out.K.size (HOg.out b hb)) hat2 (Nat.le_trans LQ8.out.K.size hbx.size))),Lib.hid (Keep.setCell (S:=fun b=>b=(wr.heap.size+1)) (p:=⟨(wr.heap.size+1),3,none⟩) (Keep.of_below hbw2) (fun _=>rfl) _)⟩
   obtain ⟨A8l,c8l,L8l,K8l⟩:=hcut
   clear HSRCl HSF m63 mby
   obtain ⟨W8,hW8⟩:∃W,W=wc:=⟨_,rfl⟩
   subst hW8
   have LZ:Hid (PJ wr W8 g (wr.heap.size+1) vo q r.til A8a A8l B4 A8c c8a c8l d4 c8c):=Lib.hid (by have:=L8l.out;rw [HQ.out] at this;exact this)
   have HEW:Hid (Blk W8 wr.heap.size 102 [.int .i64 u',.int .i64 y1]):=Lib.hid (Blk.eq (K8l.out.block _ HE8.out.lt (by omega)) HE8.out)
   clear v3 vj vl hh8 hj8 L8l K8l LQ8 HE8
   have HBg:Hid (Blk W8 g 121 (walkB n A0 (some aj) c0 c1 (.slice A2 ss.length c2) ov vo ((T i).2:Int))):=Lib.hid (HS.out.f.below LZ.out.K hgr)
   have g5:=HBg.out.cell 5 rfl
   have f5:=HBg.out.frozen 5
   have hgW:g < W8.heap.size:=HBg.out.lt
   have hTi:(T i).2≤20310:=by have:=(HTB.out i).2;omega
   have hwr:IntKind.i64.wrap (((T i).2:Int)+1)=((T i).2:Int)+1:=wrap_small (by omega) (by omega)
   go_upto_region 33 with (fail)
   obtain ⟨Wq,hWq,KQ,HBq,HQq,HEq⟩:∃W,W=W8.setCell ⟨g,5,none⟩ (.int .i64 (((T i).2:Int)+1))∧Hid (Keep (fun b=>b=g) wr W)∧Hid (Blk W g 121 (walkB n A0 (some aj) c0 c1 (.slice A2 ss.length c2) ov vo (((T i).2:Int)+1)))∧Hid (Blk W (wr.heap.size+1) 44 [.int .i64 q.frm,.int .i64 q.til,.slice A8a q.steps.length c8a,.slice A8l q.lies.length c8l,.slice B4 q.crosses.length d4,.slice A8c q.parts.length c8c,.slice none 0 0,.slice none 0 0])∧Hid (Blk W wr.heap.size 102 [.int .i64 u',.int .i64 y1]):=by
    refine ⟨_,rfl,Lib.hid (Keep.setCell (S:=fun b=>b=g) (p:=⟨g,5,none⟩) (Keep.of_below LZ.out.K) (fun _=>rfl) _),Lib.hid (HBg.out.set_ 5 _),Lib.hid ?_,Lib.hid (HEW.out.far (p:=⟨g,5,none⟩) (by show wr.heap.size≠g;omega) _)⟩
    have h1:=LZ.out.B
    rw [←hqt.out] at h1
    exact h1.far (p:=⟨g,5,none⟩) (by show wr.heap.size+1≠g;omega) _
   rw [←hWq]
   have FQ:=Lib.hid (HS.out.later KQ.out HBq.out)
   have HLQ:Hid (stepK.C Wq (Out Wq (WSet g vo)) A8a q.steps∧lieK.C Wq (Out Wq (WSet g vo)) A8l q.lies∧Kn.int.C Wq (Out Wq (WSet g vo)) B4 q.crosses∧partK.C Wq (Out Wq (WSet g vo)) A8c q.parts):=by
    obtain ⟨k1,k2,k3,k4⟩:=LZ.out.lists
    have hk:Keep (WSet g vo) W8 Wq:=by rw [hWq];exact Keep.setCell (S:=WSet g vo) (p:=⟨g,5,none⟩) (Keep.refl _ _) (fun _=>.inl rfl) _
    exact Lib.hid ⟨Kn.C_keep hk (fun _ _ e=>e) k1,Kn.C_keep hk (fun _ _ e=>e) k2,Kn.C_keep hk (fun _ _ e=>e) k3,Kn.C_keep hk (fun _ _ e=>e) k4⟩
   have HCQ:=Lib.hid LZ.out.cap
   clear hWq g5 f5 hgW hwr HBg
   obtain ⟨hRI,hRl⟩:=HRK.out i q hlt HQG.out
   have HRI:=Lib.hid hRI
   have HRl:=Lib.hid hRl
   clear hRI hRl
   have z0:=HQq.out.cell 0 rfl
   have z1':=HQq.out.cell 1 rfl
   have z2:=HQq.out.cell 2 rfl
   have z3:=HQq.out.cell 3 rfl
   have z4:=HQq.out.cell 4 rfl
   have z5:=HQq.out.cell 5 rfl
   have z6:=HQq.out.cell 6 rfl
   have z7:=HQq.out.cell 7 rfl
   have t0:=HBq.out.cell 0 rfl
   have t1:=HBq.out.cell 1 rfl
   have e0':=HEq.out.cell 0 rfl
   have e1':=HEq.out.cell 1 rfl
   have hgq:g < Wq.heap.size:=HBq.out.lt
   rcases hs' with rfl | rfl
   ·as_aux_lemma =>
    have HSF:Hid (∀w',Below Wq.heap.size Wq w'→(fun w'=>w'.cell? ⟨wr.heap.size+1,0,none⟩=some (.int .i64 q.frm)∧w'.cell? ⟨wr.heap.size+1,1,none⟩=some (.int .i64 q.til)∧w'.cell? ⟨wr.heap.size+1,2,none⟩=some (.slice A8a q.steps.length c8a)∧w'.cell? ⟨wr.heap.size+1,3,none⟩=some (.slice A8l q.lies.length c8l)∧w'.cell? ⟨wr.heap.size+1,4,none⟩=some (.slice B4 q.crosses.length d4)∧w'.cell? ⟨wr.heap.size+1,5,none⟩=some (.slice A8c q.parts.length c8c)∧w'.cell? ⟨wr.heap.size+1,6,none⟩=some (.slice none 0 0)∧w'.cell? ⟨wr.heap.size+1,7,none⟩=some (.slice none 0 0)∧w'.cell? ⟨g,0,none⟩=some (.slice A0 n.pieces.length c0)∧w'.cell? ⟨g,1,none⟩=some (.slice (some aj) n.joints.length c1)∧w'.cell? ⟨wr.heap.size,0,none⟩=some (.int .i64 u')∧w'.cell? ⟨wr.heap.size,1,none⟩=some (.int .i64 0)) w'):=Lib.hid (fun w' hb=>⟨cell_below hb z0,cell_below hb z1',cell_below hb z2,cell_below hb z3,cell_below hb z4,cell_below hb z5,cell_below hb z6,cell_below hb z7,cell_below hb t0,cell_below hb t1,cell_below hb e0',cell_below hb e1'⟩)
    have HEN':Hid (endP n.pieces.length (⟨u',0⟩:End)):=Lib.hid ⟨⟨by show (0:Int)≤u';omega,by show (u':Int)≤_;omega⟩,by show (0:Int)≤0;omega,by show (0:Int)≤1;omega⟩
    refine Rg.start 8 (fun w'=>w'.cell? ⟨wr.heap.size+1,0,none⟩=some (.int .i64 q.frm)∧w'.cell? ⟨wr.heap.size+1,1,none⟩=some (.int .i64 q.til)∧w'.cell? ⟨wr.heap.size+1,2,none⟩=some (.slice A8a q.steps.length c8a)∧w'.cell? ⟨wr.heap.size+1,3,none⟩=some (.slice A8l q.lies.length c8l)∧w'.cell? ⟨wr.heap.size+1,4,none⟩=some (.slice B4 q.crosses.length d4)∧w'.cell? ⟨wr.heap.size+1,5,none⟩=some (.slice A8c q.parts.length c8c)∧w'.cell? ⟨wr.heap.size+1,6,none⟩=some (.slice none 0 0)∧w'.cell? ⟨wr.heap.size+1,7,none⟩=some (.slice none 0 0)∧w'.cell? ⟨g,0,none⟩=some (.slice A0 n.pieces.length c0)∧w'.cell? ⟨g,1,none⟩=some (.slice (some aj) n.joints.length c1)∧w'.cell? ⟨wr.heap.size,0,none⟩=some (.int .i64 u')∧w'.cell? ⟨wr.heap.size,1,none⟩=some (.int .i64 0)) 9 rfl (by kernel_rfl) ?_
    have hHeld:=HSF.out _ (Below.refl _ _).drew
    refine Rg.pure 0 (v:=?v90) rfl (by kernel_rfl) (fun _ _ _ h=>h) (by rfl) hHeld ?y90 ?h90
    case y90=>(intro wA;go_simp;first | done | with_reducible rfl)
    simp only [Act.put,List.setIfInBounds_toArray,List.set_cons_zero,List.set_cons_succ]
    refine Rg.held 1 (v:=?v91) rfl (by kernel_rfl) (fun _ _ _ h=>h) (by rfl) hHeld ?y91 ?h91
    case y91=>(intro wA hSw;(try dsimp only at hSw);go_simp;first | done | with_reducible rfl)
    simp only [Act.put,List.setIfInBounds_toArray,List.set_cons_zero,List.set_cons_succ]
    refine Rg.pure 2 (v:=?v92) rfl (by kernel_rfl) (fun _ _ _ h=>h) (by rfl) hHeld ?y92 ?h92
    case y92=>(intro wA;go_simp;first | done | with_reducible rfl)
    simp only [Act.put,List.setIfInBounds_toArray,List.set_cons_zero,List.set_cons_succ]
    refine Rg.pure 3 (v:=?v93) rfl (by kernel_rfl) (fun _ _ _ h=>h) (by rfl) hHeld ?y93 ?h93
    case y93=>(intro wA;go_simp;first | done | with_reducible rfl)
    simp only [Act.put,List.setIfInBounds_toArray,List.set_cons_zero,List.set_cons_succ]
    refine Rg.pure 4 (v:=?v94) rfl (by kernel_rfl) (fun _ _ _ h=>h) (by rfl) hHeld ?y94 ?h94
    case y94=>(intro wA;go_simp;first | done | with_reducible rfl)
    simp only [Act.put,List.setIfInBounds_toArray,List.set_cons_zero,List.set_cons_succ]
    refine Rg.held 5 (v:=?v95) rfl (by kernel_rfl) (fun _ _ _ h=>h) (by rfl) hHeld ?y95 ?h95
    case y95=>(intro wA hSw;(try dsimp only at hSw);go_simp;first | done | with_reducible rfl)
    simp only [Act.put,List.setIfInBounds_toArray,List.set_cons_zero,List.set_cons_succ]
    refine Rg.held 6 (v:=?v96) rfl (by kernel_rfl) (fun _ _ _ h=>h) (by rfl) hHeld ?y96 ?h96
    case y96=>(intro wA hSw;(try dsimp only at hSw);go_simp;first | done | with_reducible rfl)
    simp only [Act.put,List.setIfInBounds_toArray,List.set_cons_zero,List.set_cons_succ]
    refine Rg.one 7 rfl (by kernel_rfl) (fun K hK=>?_)
    refine step_is_call 104 rfl rfl ?_
    go_simp
    go_at_call 104
    have hbd:Below Wq.heap.size Wq Wq.drew:=(Below.refl _ _).drew
    have hEnt:=implEnter n (.slice (some aj) n.joints.length c1) A0 c0 ⟨u',0⟩ _ (FQ.out.below hbd).net.p HG HEN'.out
    rw [way_zero rfl] at hEnt
    (with_reducible refine hEnt.mono ?_)
    rintro e wx ⟨rfl,hbc⟩
    have hbx:Below Wq.heap.size Wq wx:=hbd.trans (hbc.mono hbd.size)
    refine hK.out _ _ (HSF.out _ hbx) ?_
    clear hK K hHeld hEnt
    try simp only [Act.put,List.setIfInBounds_toArray,List.set_cons_zero,List.set_cons_succ]
    refine Rg.row [8] [_] rfl (by kernel_rfl) ?_
    have hIH:=IH.out (T i) vo q u' 1 0 (atOf n u' 1 0) A8a A8l B4 A8c c8a c8l d4 c8c wx (Lib.hid (FQ.out.below hbx)) (Lib.hid (Kn.C_keep (Keep.of_below hbx) (fun _ _ e=>e) HLQ.out.1)) (Lib.hid (Kn.C_keep (Keep.of_below hbx) (fun _ _ e=>e) HLQ.out.2.1)) (Lib.hid (Kn.C_keep (Keep.of_below hbx) (fun _ _ e=>e) HLQ.out.2.2.1)) (Lib.hid (Kn.C_keep (Keep.of_below hbx) (fun _ _ e=>e) HLQ.out.2.2.2)) HCQ HRI (Lib.hid (by have:=hm.out;have:=HRl.out;omega)) (Lib.hid (by have:=HTB.out i;omega)) hu' (.inl rfl) (Lib.hid ⟨Int.le_refl _,by have:=(pl_in HG.out (p:=(u':Int)) (by omega) (by omega)).1;omega⟩) (Lib.hid rfl)
    have HTN:Hid (T (i+1)=walkF n ss ov m (T i) q u' 1 0):=Lib.hid (by have:=HTG.out i _ q EE.out HQG.out;rw [way_zero rfl] at this;exact this)
    clear HSF z0 z1' z2 z3 z4 z5 z6 z7 t0 t1 e0' e1'
    go_wp2_with fail
    refine hIH.mono ?_
    intro e w9 hRD
    obtain ⟨rfl,vo2,SZ,KZ,NZ⟩:=hRD
    obtain ⟨KF,NF⟩:=kid_mem HKK.out (KQ.out.below hbx) KZ HNX.out NZ
    have HSZ:=Lib.hid SZ
    have HKF:=Lib.hid KF
    have HNF2:=Lib.hid NF
    clear SZ KZ NZ KF NF hIH hbx hbc hbd
    go_wp2
    go_roundw
    case rel=>exact ⟨i+1,vo2,by omega,by go_num,Lib.hid (by rw [HTN.out];exact HSZ.out),HKF,HNF2⟩
    case measure=>simp [intOf];omega
   ·as_aux_lemma =>
    have HSF:Hid (∀w',Below Wq.heap.size Wq w'→(fun w'=>w'.cell? ⟨wr.heap.size+1,0,none⟩=some (.int .i64 q.frm)∧w'.cell? ⟨wr.heap.size+1,1,none⟩=some (.int .i64 q.til)∧w'.cell? ⟨wr.heap.size+1,2,none⟩=some (.slice A8a q.steps.length c8a)∧w'.cell? ⟨wr.heap.size+1,3,none⟩=some (.slice A8l q.lies.length c8l)∧w'.cell? ⟨wr.heap.size+1,4,none⟩=some (.slice B4 q.crosses.length d4)∧w'.cell? ⟨wr.heap.size+1,5,none⟩=some (.slice A8c q.parts.length c8c)∧w'.cell? ⟨wr.heap.size+1,6,none⟩=some (.slice none 0 0)∧w'.cell? ⟨wr.heap.size+1,7,none⟩=some (.slice none 0 0)∧w'.cell? ⟨g,0,none⟩=some (.slice A0 n.pieces.length c0)∧w'.cell? ⟨g,1,none⟩=some (.slice (some aj) n.joints.length c1)∧w'.cell? ⟨wr.heap.size,0,none⟩=some (.int .i64 u')∧w'.cell? ⟨wr.heap.size,1,none⟩=some (.int .i64 1)) w'):=Lib.hid (fun w' hb=>⟨cell_below hb z0,cell_below hb z1',cell_below hb z2,cell_below hb z3,cell_below hb z4,cell_below hb z5,cell_below hb z6,cell_below hb z7,cell_below hb t0,cell_below hb t1,cell_below hb e0',cell_below hb e1'⟩)
    have HEN':Hid (endP n.pieces.length (⟨u',1⟩:End)):=Lib.hid ⟨⟨by show (0:Int)≤u';omega,by show (u':Int)≤_;omega⟩,by show (0:Int)≤1;omega,by show (1:Int)≤1;omega⟩
    refine Rg.start 8 (fun w'=>w'.cell? ⟨wr.heap.size+1,0,none⟩=some (.int .i64 q.frm)∧w'.cell? ⟨wr.heap.size+1,1,none⟩=some (.int .i64 q.til)∧w'.cell? ⟨wr.heap.size+1,2,none⟩=some (.slice A8a q.steps.length c8a)∧w'.cell? ⟨wr.heap.size+1,3,none⟩=some (.slice A8l q.lies.length c8l)∧w'.cell? ⟨wr.heap.size+1,4,none⟩=some (.slice B4 q.crosses.length d4)∧w'.cell? ⟨wr.heap.size+1,5,none⟩=some (.slice A8c q.parts.length c8c)∧w'.cell? ⟨wr.heap.size+1,6,none⟩=some (.slice none 0 0)∧w'.cell? ⟨wr.heap.size+1,7,none⟩=some (.slice none 0 0)∧w'.cell? ⟨g,0,none⟩=some (.slice A0 n.pieces.length c0)∧w'.cell? ⟨g,1,none⟩=some (.slice (some aj) n.joints.length c1)∧w'.cell? ⟨wr.heap.size,0,none⟩=some (.int .i64 u')∧w'.cell? ⟨wr.heap.size,1,none⟩=some (.int .i64 1)) 9 rfl (by kernel_rfl) ?_
    have hHeld:=HSF.out _ (Below.refl _ _).drew
    refine Rg.pure 0 (v:=?v97) rfl (by kernel_rfl) (fun _ _ _ h=>h) (by rfl) hHeld ?y97 ?h97
    case y97=>(intro wA;go_simp;first | done | with_reducible rfl)
    simp only [Act.put,List.setIfInBounds_toArray,List.set_cons_zero,List.set_cons_succ]
    refine Rg.held 1 (v:=?v98) rfl (by kernel_rfl) (fun _ _ _ h=>h) (by rfl) hHeld ?y98 ?h98
    case y98=>(intro wA hSw;(try dsimp only at hSw);go_simp;first | done | with_reducible rfl)
    simp only [Act.put,List.setIfInBounds_toArray,List.set_cons_zero,List.set_cons_succ]
    refine Rg.pure 2 (v:=?v99) rfl (by kernel_rfl) (fun _ _ _ h=>h) (by rfl) hHeld ?y99 ?h99
    case y99=>(intro wA;go_simp;first | done | with_reducible rfl)
    simp only [Act.put,List.setIfInBounds_toArray,List.set_cons_zero,List.set_cons_succ]
    refine Rg.pure 3 (v:=?v100) rfl (by kernel_rfl) (fun _ _ _ h=>h) (by rfl) hHeld ?y100 ?h100
    case y100=>(intro wA;go_simp;first | done | with_reducible rfl)
    simp only [Act.put,List.setIfInBounds_toArray,List.set_cons_zero,List.set_cons_succ]
    refine Rg.pure 4 (v:=?v101) rfl (by kernel_rfl) (fun _ _ _ h=>h) (by rfl) hHeld ?y101 ?h101
    case y101=>(intro wA;go_simp;first | done | with_reducible rfl)
    simp only [Act.put,List.setIfInBounds_toArray,List.set_cons_zero,List.set_cons_succ]
    refine Rg.held 5 (v:=?v102) rfl (by kernel_rfl) (fun _ _ _ h=>h) (by rfl) hHeld ?y102 ?h102
    case y102=>(intro wA hSw;(try dsimp only at hSw);go_simp;first | done | with_reducible rfl)
    simp only [Act.put,List.setIfInBounds_toArray,List.set_cons_zero,List.set_cons_succ]
    refine Rg.held 6 (v:=?v103) rfl (by kernel_rfl) (fun _ _ _ h=>h) (by rfl) hHeld ?y103 ?h103
    case y103=>(intro wA hSw;(try dsimp only at hSw);go_simp;first | done | with_reducible rfl)
    simp only [Act.put,List.setIfInBounds_toArray,List.set_cons_zero,List.set_cons_succ]
    refine Rg.one 7 rfl (by kernel_rfl) (fun K hK=>?_)
    refine step_is_call 104 rfl rfl ?_
    go_simp
    go_at_call 104
    have hbd:Below Wq.heap.size Wq Wq.drew:=(Below.refl _ _).drew
    have hEnt:=implEnter n (.slice (some aj) n.joints.length c1) A0 c0 ⟨u',1⟩ _ (FQ.out.below hbd).net.p HG HEN'.out
    rw [way_one rfl] at hEnt
    (with_reducible refine hEnt.mono ?_)
    rintro e wx ⟨rfl,hbc⟩
    have hbx:Below Wq.heap.size Wq wx:=hbd.trans (hbc.mono hbd.size)
    refine hK.out _ _ (HSF.out _ hbx) ?_
    clear hK K hHeld hEnt
    try simp only [Act.put,List.setIfInBounds_toArray,List.set_cons_zero,List.set_cons_succ]
    refine Rg.row [8] [_] rfl (by kernel_rfl) ?_
    have hIH:=IH.out (T i) vo q u' (-1) 0 (atOf n u' (-1) 0) A8a A8l B4 A8c c8a c8l d4 c8c wx (Lib.hid (FQ.out.below hbx)) (Lib.hid (Kn.C_keep (Keep.of_below hbx) (fun _ _ e=>e) HLQ.out.1)) (Lib.hid (Kn.C_keep (Keep.of_below hbx) (fun _ _ e=>e) HLQ.out.2.1)) (Lib.hid (Kn.C_keep (Keep.of_below hbx) (fun _ _ e=>e) HLQ.out.2.2.1)) (Lib.hid (Kn.C_keep (Keep.of_below hbx) (fun _ _ e=>e) HLQ.out.2.2.2)) HCQ HRI (Lib.hid (by have:=hm.out;have:=HRl.out;omega)) (Lib.hid (by have:=HTB.out i;omega)) hu' (.inr rfl) (Lib.hid ⟨Int.le_refl _,by have:=(pl_in HG.out (p:=(u':Int)) (by omega) (by omega)).1;omega⟩) (Lib.hid rfl)
    have HTN:Hid (T (i+1)=walkF n ss ov m (T i) q u' (-1) 0):=Lib.hid (by have:=HTG.out i _ q EE.out HQG.out;rw [way_one rfl] at this;exact this)
    clear HSF z0 z1' z2 z3 z4 z5 z6 z7 t0 t1 e0' e1'
    go_wp2_with fail
    refine hIH.mono ?_
    intro e w9 hRD
    obtain ⟨rfl,vo2,SZ,KZ,NZ⟩:=hRD
    obtain ⟨KF,NF⟩:=kid_mem HKK.out (KQ.out.below hbx) KZ HNX.out NZ
    have HSZ:=Lib.hid SZ
    have HKF:=Lib.hid KF
    have HNF2:=Lib.hid NF
    clear SZ KZ NZ KF NF hIH hbx hbc hbd
    go_wp2
    go_roundw
    case rel=>exact ⟨i+1,vo2,by omega,by go_num,Lib.hid (by rw [HTN.out];exact HSZ.out),HKF,HNF2⟩
    case measure=>simp [intOf];omega
  | some ix =>
   obtain ⟨yy,hy,hyj,hyn⟩:=HO2.out ix rfl
   have hil:ix < R2.lies.length:=(List.getElem?_eq_some_iff.1 hy).1
   obtain ⟨a3,rfl,u0,u1,E3,k0,k1⟩:=lieK_at LQ8.out.l ix hil
   obtain rfl:=Option.some.inj (hy.symm.trans E3.out)
   have HAL:Hid (addLie R2.lies j yv=if u1=yv then some R2.lies else none):=Lib.hid (addLie_hit hy hyj hyn)
   have ii0:(0:Int)≤(ix:Int):=Int.natCast_nonneg _
   have ii1:(ix:Int) < (R2.lies.length:Int):=by omega
   have dn0:decide ((ix:Int) < 0)=false:=decide_eq_false (by omega)
   clear hy hyj hyn k0 HO1 HO2
   rw [onum_some]
   go_wp2
   by_cases hq:u1=yv
   ·have dn:(u1 != yv)=false:=int_nef hq
    obtain ⟨q,HQ⟩:∃q:Route,Hid (R2=q):=⟨_,Lib.hid rfl⟩
    have HQG:Hid (goOn R2 x j kj i=some q):=Lib.hid (by rw [goOn_lie H3.out (by rw [hlv.out,HAL.out,if_pos hq]),←HQ.out])
    have hqt:Hid (q.til=r.til):=Lib.hid (by rw [←HQ.out];exact HTL.out)
    clear hq
    refine Rg.start 10 (fun w'=>w'.cell? ⟨w.heap.size,3,none⟩=some (.slice (some a3) R2.lies.length d3)∧w'.cell? ⟨(a3.add (ix*2)).block,(a3.add (ix*2)).off+1,none⟩=some (.int .i64 u1)∧w'.cell? (bl.add i)=some (.int .i64 yv)) 11 rfl (by kernel_rfl) ?_
    have hHeld:(fun w'=>w'.cell? ⟨w.heap.size,3,none⟩=some (.slice (some a3) R2.lies.length d3)∧w'.cell? ⟨(a3.add (ix*2)).block,(a3.add (ix*2)).off+1,none⟩=some (.int .i64 u1)∧w'.cell? (bl.add i)=some (.int .i64 yv)) w8.drew:=⟨v3,k1,vl⟩
    refine Rg.pure 0 (v:=?v62) rfl (by kernel_rfl) (fun _ _ _ h=>h) (by rfl) hHeld ?y62 ?h62
    case y62=>(intro wA;go_simp;first | done | with_reducible rfl)
    simp only [Act.put,List.setIfInBounds_toArray,List.set_cons_zero,List.set_cons_succ]
    refine Rg.held 1 (v:=?v63) rfl (by kernel_rfl) (fun _ _ _ h=>h) (by rfl) hHeld ?y63 ?h63
    case y63=>(intro wA hSw;(try dsimp only at hSw);go_simp;first | done | with_reducible rfl)
    simp only [Act.put,List.setIfInBounds_toArray,List.set_cons_zero,List.set_cons_succ]
    refine Rg.pure 2 (v:=?v64) rfl (by kernel_rfl) (fun _ _ _ h=>h) (by rfl) hHeld ?y64 ?h64
    case y64=>(intro wA;go_simp;first | done | with_reducible rfl)
    simp only [Act.put,List.setIfInBounds_toArray,List.set_cons_zero,List.set_cons_succ]
    refine Rg.pure 3 (v:=?v65) rfl (by kernel_rfl) (fun _ _ _ h=>h) (by rfl) hHeld ?y65 ?h65
    case y65=>(intro wA;go_simp;first | done | with_reducible rfl)
    simp only [Act.put,List.setIfInBounds_toArray,List.set_cons_zero,List.set_cons_succ]
    refine Rg.pure 4 (v:=?v66) rfl (by kernel_rfl) (fun _ _ _ h=>h) (by rfl) hHeld ?y66 ?h66
    case y66=>(intro wA;go_simp;first | done | with_reducible rfl)
    simp only [Act.put,List.setIfInBounds_toArray,List.set_cons_zero,List.set_cons_succ]
    refine Rg.held 5 (v:=?v67) rfl (by kernel_rfl) (fun _ _ _ h=>h) (by rfl) hHeld ?y67 ?h67
    case y67=>(intro wA hSw;(try dsimp only at hSw);go_simp;first | done | with_reducible rfl)
    simp only [Act.put,List.setIfInBounds_toArray,List.set_cons_zero,List.set_cons_succ]
    refine Rg.pure 6 (v:=?v68) rfl (by kernel_rfl) (fun _ _ _ h=>h) (by rfl) hHeld ?y68 ?h68
    case y68=>(intro wA;go_simp;first | done | with_reducible rfl)
    simp only [Act.put,List.setIfInBounds_toArray,List.set_cons_zero,List.set_cons_succ]
    refine Rg.pure 7 (v:=?v69) rfl (by kernel_rfl) (fun _ _ _ h=>h) (by rfl) hHeld ?y69 ?h69
    case y69=>(intro wA;go_simp;first | done | with_reducible rfl)
    simp only [Act.put,List.setIfInBounds_toArray,List.set_cons_zero,List.set_cons_succ]
    refine Rg.pure 8 (v:=?v70) rfl (by kernel_rfl) (fun _ _ _ h=>h) (by rfl) hHeld ?y70 ?h70
    case y70=>(intro wA;go_simp;first | done | with_reducible rfl)
    simp only [Act.put,List.setIfInBounds_toArray,List.set_cons_zero,List.set_cons_succ]
    refine Rg.held 9 (v:=?v71) rfl (by kernel_rfl) (fun _ _ _ h=>h) (by rfl) hHeld ?y71 ?h71
    case y71=>(intro wA hSw;(try dsimp only at hSw);go_simp;first | done | with_reducible rfl)
    simp only [Act.put,List.setIfInBounds_toArray,List.set_cons_zero,List.set_cons_succ]
    refine Rg.row [10] [_] rfl (by kernel_rfl) ?_
    clear hHeld
    go_upto_region 32 with (fail)
    obtain ⟨W9,hW9,hb9⟩:∃W,W=w8.drew∧Below w8.heap.size w8 W:=⟨_,rfl,(Below.refl _ _).drew⟩
    rw [←hW9]
    have LZ:Hid (PJ wr W9 g (wr.heap.size+1) vo q r.til A8a (some a3) B4 A8c c8a d3 d4 c8c):=Lib.hid (by have:=LQ8.out.below hb9;rw [←HQ.out];exact this)
    have HEW:Hid (Blk W9 wr.heap.size 102 [.int .i64 u',.int .i64 y1]):=Lib.hid (HE8.out.below hb9 HE8.out.lt)
    clear v3 vj vl hh8 hj8 hW9 hb9 LQ8 HE8 k1
    have HBg:Hid (Blk W9 g 121 (walkB n A0 (some aj) c0 c1 (.slice A2 ss.length c2) ov vo ((T i).2:Int))):=Lib.hid (HS.out.f.below LZ.out.K hgr)
    have g5:=HBg.out.cell 5 rfl
    have f5:=HBg.out.frozen 5
    have hgW:g < W9.heap.size:=HBg.out.lt
    have hTi:(T i).2≤20310:=by have:=(HTB.out i).2;omega
    have hwr:IntKind.i64.wrap (((T i).2:Int)+1)=((T i).2:Int)+1:=wrap_small (by omega) (by omega)
    go_upto_region 33 with (fail)
    obtain ⟨Wq,hWq,KQ,HBq,HQq,HEq⟩:∃W,W=W9.setCell ⟨g,5,none⟩ (.int .i64 (((T i).2:Int)+1))∧Hid (Keep (fun b=>b=g) wr W)∧Hid (Blk W g 121 (walkB n A0 (some aj) c0 c1 (.slice A2 ss.length c2) ov vo (((T i).2:Int)+1)))∧Hid (Blk W (wr.heap.size+1) 44 [.int .i64 q.frm,.int .i64 q.til,.slice A8a q.steps.length c8a,.slice (some a3) q.lies.length d3,.slice B4 q.crosses.length d4,.slice A8c q.parts.length c8c,.slice none 0 0,.slice none 0 0])∧Hid (Blk W wr.heap.size 102 [.int .i64 u',.int .i64 y1]):=by
     refine ⟨_,rfl,Lib.hid (Keep.setCell (S:=fun b=>b=g) (p:=⟨g,5,none⟩) (Keep.of_below LZ.out.K) (fun _=>rfl) _),Lib.hid (HBg.out.set_ 5 _),Lib.hid ?_,Lib.hid (HEW.out.far (p:=⟨g,5,none⟩) (by show wr.heap.size≠g;omega) _)⟩
     have h1:=LZ.out.B
     rw [←hqt.out] at h1
     exact h1.far (p:=⟨g,5,none⟩) (by show wr.heap.size+1≠g;omega) _
    rw [←hWq]
    have FQ:=Lib.hid (HS.out.later KQ.out HBq.out)
    have HLQ:Hid (stepK.C Wq (Out Wq (WSet g vo)) A8a q.steps∧lieK.C Wq (Out Wq (WSet g vo)) (some a3) q.lies∧Kn.int.C Wq (Out Wq (WSet g vo)) B4 q.crosses∧partK.C Wq (Out Wq (WSet g vo)) A8c q.parts):=by
     obtain ⟨k1,k2,k3,k4⟩:=LZ.out.lists
     have hk:Keep (WSet g vo) W9 Wq:=by rw [hWq];exact Keep.setCell (S:=WSet g vo) (p:=⟨g,5,none⟩) (Keep.refl _ _) (fun _=>.inl rfl) _
     exact Lib.hid ⟨Kn.C_keep hk (fun _ _ e=>e) k1,Kn.C_keep hk (fun _ _ e=>e) k2,Kn.C_keep hk (fun _ _ e=>e) k3,Kn.C_keep hk (fun _ _ e=>e) k4⟩
    have HCQ:=Lib.hid LZ.out.cap
    clear hWq g5 f5 hgW hwr HBg
    obtain ⟨hRI,hRl⟩:=HRK.out i q hlt HQG.out
    have HRI:=Lib.hid hRI
    have HRl:=Lib.hid hRl
    clear hRI hRl
    have z0:=HQq.out.cell 0 rfl
    have z1':=HQq.out.cell 1 rfl
    have z2:=HQq.out.cell 2 rfl
    have z3:=HQq.out.cell 3 rfl
    have z4:=HQq.out.cell 4 rfl
    have z5:=HQq.out.cell 5 rfl
    have z6:=HQq.out.cell 6 rfl
    have z7:=HQq.out.cell 7 rfl
    have t0:=HBq.out.cell 0 rfl
    have t1:=HBq.out.cell 1 rfl
    have e0':=HEq.out.cell 0 rfl
    have e1':=HEq.out.cell 1 rfl
    have hgq:g < Wq.heap.size:=HBq.out.lt
    rcases hs' with rfl | rfl
    ·as_aux_lemma =>
     have HSF:Hid (∀w',Below Wq.heap.size Wq w'→(fun w'=>w'.cell? ⟨wr.heap.size+1,0,none⟩=some (.int .i64 q.frm)∧w'.cell? ⟨wr.heap.size+1,1,none⟩=some (.int .i64 q.til)∧w'.cell? ⟨wr.heap.size+1,2,none⟩=some (.slice A8a q.steps.length c8a)∧w'.cell? ⟨wr.heap.size+1,3,none⟩=some (.slice (some a3) q.lies.length d3)∧w'.cell? ⟨wr.heap.size+1,4,none⟩=some (.slice B4 q.crosses.length d4)∧w'.cell? ⟨wr.heap.size+1,5,none⟩=some (.slice A8c q.parts.length c8c)∧w'.cell? ⟨wr.heap.size+1,6,none⟩=some (.slice none 0 0)∧w'.cell? ⟨wr.heap.size+1,7,none⟩=some (.slice none 0 0)∧w'.cell? ⟨g,0,none⟩=some (.slice A0 n.pieces.length c0)∧w'.cell? ⟨g,1,none⟩=some (.slice (some aj) n.joints.length c1)∧w'.cell? ⟨wr.heap.size,0,none⟩=some (.int .i64 u')∧w'.cell? ⟨wr.heap.size,1,none⟩=some (.int .i64 0)) w'):=Lib.hid (fun w' hb=>⟨cell_below hb z0,cell_below hb z1',cell_below hb z2,cell_below hb z3,cell_below hb z4,cell_below hb z5,cell_below hb z6,cell_below hb z7,cell_below hb t0,cell_below hb t1,cell_below hb e0',cell_below hb e1'⟩)
     have HEN':Hid (endP n.pieces.length (⟨u',0⟩:End)):=Lib.hid ⟨⟨by show (0:Int)≤u';omega,by show (u':Int)≤_;omega⟩,by show (0:Int)≤0;omega,by show (0:Int)≤1;omega⟩
     refine Rg.start 8 (fun w'=>w'.cell? ⟨wr.heap.size+1,0,none⟩=some (.int .i64 q.frm)∧w'.cell? ⟨wr.heap.size+1,1,none⟩=some (.int .i64 q.til)∧w'.cell? ⟨wr.heap.size+1,2,none⟩=some (.slice A8a q.steps.length c8a)∧w'.cell? ⟨wr.heap.size+1,3,none⟩=some (.slice (some a3) q.lies.length d3)∧w'.cell? ⟨wr.heap.size+1,4,none⟩=some (.slice B4 q.crosses.length d4)∧w'.cell? ⟨wr.heap.size+1,5,none⟩=some (.slice A8c q.parts.length c8c)∧w'.cell? ⟨wr.heap.size+1,6,none⟩=some (.slice none 0 0)∧w'.cell? ⟨wr.heap.size+1,7,none⟩=some (.slice none 0 0)∧w'.cell? ⟨g,0,none⟩=some (.slice A0 n.pieces.length c0)∧w'.cell? ⟨g,1,none⟩=some (.slice (some aj) n.joints.length c1)∧w'.cell? ⟨wr.heap.size,0,none⟩=some (.int .i64 u')∧w'.cell? ⟨wr.heap.size,1,none⟩=some (.int .i64 0)) 9 rfl (by kernel_rfl) ?_
     have hHeld:=HSF.out _ (Below.refl _ _).drew
     refine Rg.pure 0 (v:=?v104) rfl (by kernel_rfl) (fun _ _ _ h=>h) (by rfl) hHeld ?y104 ?h104
     case y104=>(intro wA;go_simp;first | done | with_reducible rfl)
     simp only [Act.put,List.setIfInBounds_toArray,List.set_cons_zero,List.set_cons_succ]
     refine Rg.held 1 (v:=?v105) rfl (by kernel_rfl) (fun _ _ _ h=>h) (by rfl) hHeld ?y105 ?h105
     case y105=>(intro wA hSw;(try dsimp only at hSw);go_simp;first | done | with_reducible rfl)
     simp only [Act.put,List.setIfInBounds_toArray,List.set_cons_zero,List.set_cons_succ]
     refine Rg.pure 2 (v:=?v106) rfl (by kernel_rfl) (fun _ _ _ h=>h) (by rfl) hHeld ?y106 ?h106
     case y106=>(intro wA;go_simp;first | done | with_reducible rfl)
     simp only [Act.put,List.setIfInBounds_toArray,List.set_cons_zero,List.set_cons_succ]
     refine Rg.pure 3 (v:=?v107) rfl (by kernel_rfl) (fun _ _ _ h=>h) (by rfl) hHeld ?y107 ?h107
     case y107=>(intro wA;go_simp;first | done | with_reducible rfl)
     simp only [Act.put,List.setIfInBounds_toArray,List.set_cons_zero,List.set_cons_succ]
     refine Rg.pure 4 (v:=?v108) rfl (by kernel_rfl) (fun _ _ _ h=>h) (by rfl) hHeld ?y108 ?h108
     case y108=>(intro wA;go_simp;first | done | with_reducible rfl)
     simp only [Act.put,List.setIfInBounds_toArray,List.set_cons_zero,List.set_cons_succ]
     refine Rg.held 5 (v:=?v109) rfl (by kernel_rfl) (fun _ _ _ h=>h) (by rfl) hHeld ?y109 ?h109
     case y109=>(intro wA hSw;(try dsimp only at hSw);go_simp;first | done | with_reducible rfl)
     simp only [Act.put,List.setIfInBounds_toArray,List.set_cons_zero,List.set_cons_succ]
     refine Rg.held 6 (v:=?v110) rfl (by kernel_rfl) (fun _ _ _ h=>h) (by rfl) hHeld ?y110 ?h110
     case y110=>(intro wA hSw;(try dsimp only at hSw);go_simp;first | done | with_reducible rfl)
     simp only [Act.put,List.setIfInBounds_toArray,List.set_cons_zero,List.set_cons_succ]
     refine Rg.one 7 rfl (by kernel_rfl) (fun K hK=>?_)
     refine step_is_call 104 rfl rfl ?_
     go_simp
     go_at_call 104
     have hbd:Below Wq.heap.size Wq Wq.drew:=(Below.refl _ _).drew
     have hEnt:=implEnter n (.slice (some aj) n.joints.length c1) A0 c0 ⟨u',0⟩ _ (FQ.out.below hbd).net.p HG HEN'.out
     rw [way_zero rfl] at hEnt
     (with_reducible refine hEnt.mono ?_)
     rintro e wx ⟨rfl,hbc⟩
     have hbx:Below Wq.heap.size Wq wx:=hbd.trans (hbc.mono hbd.size)
     refine hK.out _ _ (HSF.out _ hbx) ?_
     clear hK K hHeld hEnt
     try simp only [Act.put,List.setIfInBounds_toArray,List.set_cons_zero,List.set_cons_succ]
     refine Rg.row [8] [_] rfl (by kernel_rfl) ?_
     have hIH:=IH.out (T i) vo q u' 1 0 (atOf n u' 1 0) A8a (some a3) B4 A8c c8a d3 d4 c8c wx (Lib.hid (FQ.out.below hbx)) (Lib.hid (Kn.C_keep (Keep.of_below hbx) (fun _ _ e=>e) HLQ.out.1)) (Lib.hid (Kn.C_keep (Keep.of_below hbx) (fun _ _ e=>e) HLQ.out.2.1)) (Lib.hid (Kn.C_keep (Keep.of_below hbx) (fun _ _ e=>e) HLQ.out.2.2.1)) (Lib.hid (Kn.C_keep (Keep.of_below hbx) (fun _ _ e=>e) HLQ.out.2.2.2)) HCQ HRI (Lib.hid (by have:=hm.out;have:=HRl.out;omega)) (Lib.hid (by have:=HTB.out i;omega)) hu' (.inl rfl) (Lib.hid ⟨Int.le_refl _,by have:=(pl_in HG.out (p:=(u':Int)) (by omega) (by omega)).1;omega⟩) (Lib.hid rfl)
     have HTN:Hid (T (i+1)=walkF n ss ov m (T i) q u' 1 0):=Lib.hid (by have:=HTG.out i _ q EE.out HQG.out;rw [way_zero rfl] at this;exact this)
     clear HSF z0 z1' z2 z3 z4 z5 z6 z7 t0 t1 e0' e1'
     go_wp2_with fail
     refine hIH.mono ?_
     intro e w9 hRD
     obtain ⟨rfl,vo2,SZ,KZ,NZ⟩:=hRD
     obtain ⟨KF,NF⟩:=kid_mem HKK.out (KQ.out.below hbx) KZ HNX.out NZ
     have HSZ:=Lib.hid SZ
     have HKF:=Lib.hid KF
     have HNF2:=Lib.hid NF
     clear SZ KZ NZ KF NF hIH hbx hbc hbd
     go_wp2
     go_roundw
     case rel=>exact ⟨i+1,vo2,by omega,by go_num,Lib.hid (by rw [HTN.out];exact HSZ.out),HKF,HNF2⟩
     case measure=>simp [intOf];omega
    ·as_aux_lemma =>
     have HSF:Hid (∀w',Below Wq.heap.size Wq w'→(fun w'=>w'.cell? ⟨wr.heap.size+1,0,none⟩=some (.int .i64 q.frm)∧w'.cell? ⟨wr.heap.size+1,1,none⟩=some (.int .i64 q.til)∧w'.cell? ⟨wr.heap.size+1,2,none⟩=some (.slice A8a q.steps.length c8a)∧w'.cell? ⟨wr.heap.size+1,3,none⟩=some (.slice (some a3) q.lies.length d3)∧w'.cell? ⟨wr.heap.size+1,4,none⟩=some (.slice B4 q.crosses.length d4)∧w'.cell? ⟨wr.heap.size+1,5,none⟩=some (.slice A8c q.parts.length c8c)∧w'.cell? ⟨wr.heap.size+1,6,none⟩=some (.slice none 0 0)∧w'.cell? ⟨wr.heap.size+1,7,none⟩=some (.slice none 0 0)∧w'.cell? ⟨g,0,none⟩=some (.slice A0 n.pieces.length c0)∧w'.cell? ⟨g,1,none⟩=some (.slice (some aj) n.joints.length c1)∧w'.cell? ⟨wr.heap.size,0,none⟩=some (.int .i64 u')∧w'.cell? ⟨wr.heap.size,1,none⟩=some (.int .i64 1)) w'):=Lib.hid (fun w' hb=>⟨cell_below hb z0,cell_below hb z1',cell_below hb z2,cell_below hb z3,cell_below hb z4,cell_below hb z5,cell_below hb z6,cell_below hb z7,cell_below hb t0,cell_below hb t1,cell_below hb e0',cell_below hb e1'⟩)
     have HEN':Hid (endP n.pieces.length (⟨u',1⟩:End)):=Lib.hid ⟨⟨by show (0:Int)≤u';omega,by show (u':Int)≤_;omega⟩,by show (0:Int)≤1;omega,by show (1:Int)≤1;omega⟩
     refine Rg.start 8 (fun w'=>w'.cell? ⟨wr.heap.size+1,0,none⟩=some (.int .i64 q.frm)∧w'.cell? ⟨wr.heap.size+1,1,none⟩=some (.int .i64 q.til)∧w'.cell? ⟨wr.heap.size+1,2,none⟩=some (.slice A8a q.steps.length c8a)∧w'.cell? ⟨wr.heap.size+1,3,none⟩=some (.slice (some a3) q.lies.length d3)∧w'.cell? ⟨wr.heap.size+1,4,none⟩=some (.slice B4 q.crosses.length d4)∧w'.cell? ⟨wr.heap.size+1,5,none⟩=some (.slice A8c q.parts.length c8c)∧w'.cell? ⟨wr.heap.size+1,6,none⟩=some (.slice none 0 0)∧w'.cell? ⟨wr.heap.size+1,7,none⟩=some (.slice none 0 0)∧w'.cell? ⟨g,0,none⟩=some (.slice A0 n.pieces.length c0)∧w'.cell? ⟨g,1,none⟩=some (.slice (some aj) n.joints.length c1)∧w'.cell? ⟨wr.heap.size,0,none⟩=some (.int .i64 u')∧w'.cell? ⟨wr.heap.size,1,none⟩=some (.int .i64 1)) 9 rfl (by kernel_rfl) ?_
     have hHeld:=HSF.out _ (Below.refl _ _).drew
     refine Rg.pure 0 (v:=?v111) rfl (by kernel_rfl) (fun _ _ _ h=>h) (by rfl) hHeld ?y111 ?h111
     case y111=>(intro wA;go_simp;first | done | with_reducible rfl)
     simp only [Act.put,List.setIfInBounds_toArray,List.set_cons_zero,List.set_cons_succ]
     refine Rg.held 1 (v:=?v112) rfl (by kernel_rfl) (fun _ _ _ h=>h) (by rfl) hHeld ?y112 ?h112
     case y112=>(intro wA hSw;(try dsimp only at hSw);go_simp;first | done | with_reducible rfl)
     simp only [Act.put,List.setIfInBounds_toArray,List.set_cons_zero,List.set_cons_succ]
     refine Rg.pure 2 (v:=?v113) rfl (by kernel_rfl) (fun _ _ _ h=>h) (by rfl) hHeld ?y113 ?h113
     case y113=>(intro wA;go_simp;first | done | with_reducible rfl)
     simp only [Act.put,List.setIfInBounds_toArray,List.set_cons_zero,List.set_cons_succ]
     refine Rg.pure 3 (v:=?v114) rfl (by kernel_rfl) (fun _ _ _ h=>h) (by rfl) hHeld ?y114 ?h114
     case y114=>(intro wA;go_simp;first | done | with_reducible rfl)
     simp only [Act.put,List.setIfInBounds_toArray,List.set_cons_zero,List.set_cons_succ]
     refine Rg.pure 4 (v:=?v115) rfl (by kernel_rfl) (fun _ _ _ h=>h) (by rfl) hHeld ?y115 ?h115
     case y115=>(intro wA;go_simp;first | done | with_reducible rfl)
     simp only [Act.put,List.setIfInBounds_toArray,List.set_cons_zero,List.set_cons_succ]
     refine Rg.held 5 (v:=?v116) rfl (by kernel_rfl) (fun _ _ _ h=>h) (by rfl) hHeld ?y116 ?h116
     case y116=>(intro wA hSw;(try dsimp only at hSw);go_simp;first | done | with_reducible rfl)
     simp only [Act.put,List.setIfInBounds_toArray,List.set_cons_zero,List.set_cons_succ]
     refine Rg.held 6 (v:=?v117) rfl (by kernel_rfl) (fun _ _ _ h=>h) (by rfl) hHeld ?y117 ?h117
     case y117=>(intro wA hSw;(try dsimp only at hSw);go_simp;first | done | with_reducible rfl)
     simp only [Act.put,List.setIfInBounds_toArray,List.set_cons_zero,List.set_cons_succ]
     refine Rg.one 7 rfl (by kernel_rfl) (fun K hK=>?_)
     refine step_is_call 104 rfl rfl ?_
     go_simp
     go_at_call 104
     have hbd:Below Wq.heap.size Wq Wq.drew:=(Below.refl _ _).drew
     have hEnt:=implEnter n (.slice (some aj) n.joints.length c1) A0 c0 ⟨u',1⟩ _ (FQ.out.below hbd).net.p HG HEN'.out
     rw [way_one rfl] at hEnt
     (with_reducible refine hEnt.mono ?_)
     rintro e wx ⟨rfl,hbc⟩
     have hbx:Below Wq.heap.size Wq wx:=hbd.trans (hbc.mono hbd.size)
     refine hK.out _ _ (HSF.out _ hbx) ?_
     clear hK K hHeld hEnt
     try simp only [Act.put,List.setIfInBounds_toArray,List.set_cons_zero,List.set_cons_succ]
     refine Rg.row [8] [_] rfl (by kernel_rfl) ?_
     have hIH:=IH.out (T i) vo q u' (-1) 0 (atOf n u' (-1) 0) A8a (some a3) B4 A8c c8a d3 d4 c8c wx (Lib.hid (FQ.out.below hbx)) (Lib.hid (Kn.C_keep (Keep.of_below hbx) (fun _ _ e=>e) HLQ.out.1)) (Lib.hid (Kn.C_keep (Keep.of_below hbx) (fun _ _ e=>e) HLQ.out.2.1)) (Lib.hid (Kn.C_keep (Keep.of_below hbx) (fun _ _ e=>e) HLQ.out.2.2.1)) (Lib.hid (Kn.C_keep (Keep.of_below hbx) (fun _ _ e=>e) HLQ.out.2.2.2)) HCQ HRI (Lib.hid (by have:=hm.out;have:=HRl.out;omega)) (Lib.hid (by have:=HTB.out i;omega)) hu' (.inr rfl) (Lib.hid ⟨Int.le_refl _,by have:=(pl_in HG.out (p:=(u':Int)) (by omega) (by omega)).1;omega⟩) (Lib.hid rfl)
     have HTN:Hid (T (i+1)=walkF n ss ov m (T i) q u' (-1) 0):=Lib.hid (by have:=HTG.out i _ q EE.out HQG.out;rw [way_one rfl] at this;exact this)
     clear HSF z0 z1' z2 z3 z4 z5 z6 z7 t0 t1 e0' e1'
     go_wp2_with fail
     refine hIH.mono ?_
     intro e w9 hRD
     obtain ⟨rfl,vo2,SZ,KZ,NZ⟩:=hRD
     obtain ⟨KF,NF⟩:=kid_mem HKK.out (KQ.out.below hbx) KZ HNX.out NZ
     have HSZ:=Lib.hid SZ
     have HKF:=Lib.hid KF
     have HNF2:=Lib.hid NF
     clear SZ KZ NZ KF NF hIH hbx hbc hbd
     go_wp2
     go_roundw
     case rel=>exact ⟨i+1,vo2,by omega,by go_num,Lib.hid (by rw [HTN.out];exact HSZ.out),HKF,HNF2⟩
     case measure=>simp [intOf];omega
   ·have dn:(u1 != yv)=true:=int_net hq
    have HNO:Hid (T (i+1)=T i):=Lib.hid (HTS.out i _ EE.out (goOn_none H3.out (by rw [hlv.out,HAL.out,if_neg hq])))
    have HSR:Hid (WI w8.drew g n ss A0 (some aj) A2 c0 c1 c2 ov ((T i).2:Int) vo (T i).1):=Lib.hid (HS.out.below (LQ8.out.K.drew))
    have HKR:Hid (Keep (WSet g (.slice Ao st.1.length co)) w6 w8.drew):=Lib.hid (HKK.out.below LQ8.out.K.drew)
    clear hq
    refine Rg.start 10 (fun w'=>w'.cell? ⟨w.heap.size,3,none⟩=some (.slice (some a3) R2.lies.length d3)∧w'.cell? ⟨(a3.add (ix*2)).block,(a3.add (ix*2)).off+1,none⟩=some (.int .i64 u1)∧w'.cell? (bl.add i)=some (.int .i64 yv)) 11 rfl (by kernel_rfl) ?_
    have hHeld:(fun w'=>w'.cell? ⟨w.heap.size,3,none⟩=some (.slice (some a3) R2.lies.length d3)∧w'.cell? ⟨(a3.add (ix*2)).block,(a3.add (ix*2)).off+1,none⟩=some (.int .i64 u1)∧w'.cell? (bl.add i)=some (.int .i64 yv)) w8.drew:=⟨v3,k1,vl⟩
    refine Rg.pure 0 (v:=?v72) rfl (by kernel_rfl) (fun _ _ _ h=>h) (by rfl) hHeld ?y72 ?h72
    case y72=>(intro wA;go_simp;first | done | with_reducible rfl)
    simp only [Act.put,List.setIfInBounds_toArray,List.set_cons_zero,List.set_cons_succ]
    refine Rg.held 1 (v:=?v73) rfl (by kernel_rfl) (fun _ _ _ h=>h) (by rfl) hHeld ?y73 ?h73
    case y73=>(intro wA hSw;(try dsimp only at hSw);go_simp;first | done | with_reducible rfl)
    simp only [Act.put,List.setIfInBounds_toArray,List.set_cons_zero,List.set_cons_succ]
    refine Rg.pure 2 (v:=?v74) rfl (by kernel_rfl) (fun _ _ _ h=>h) (by rfl) hHeld ?y74 ?h74
    case y74=>(intro wA;go_simp;first | done | with_reducible rfl)
    simp only [Act.put,List.setIfInBounds_toArray,List.set_cons_zero,List.set_cons_succ]
    refine Rg.pure 3 (v:=?v75) rfl (by kernel_rfl) (fun _ _ _ h=>h) (by rfl) hHeld ?y75 ?h75
    case y75=>(intro wA;go_simp;first | done | with_reducible rfl)
    simp only [Act.put,List.setIfInBounds_toArray,List.set_cons_zero,List.set_cons_succ]
    refine Rg.pure 4 (v:=?v76) rfl (by kernel_rfl) (fun _ _ _ h=>h) (by rfl) hHeld ?y76 ?h76
    case y76=>(intro wA;go_simp;first | done | with_reducible rfl)
    simp only [Act.put,List.setIfInBounds_toArray,List.set_cons_zero,List.set_cons_succ]
    refine Rg.held 5 (v:=?v77) rfl (by kernel_rfl) (fun _ _ _ h=>h) (by rfl) hHeld ?y77 ?h77
    case y77=>(intro wA hSw;(try dsimp only at hSw);go_simp;first | done | with_reducible rfl)
    simp only [Act.put,List.setIfInBounds_toArray,List.set_cons_zero,List.set_cons_succ]
    refine Rg.pure 6 (v:=?v78) rfl (by kernel_rfl) (fun _ _ _ h=>h) (by rfl) hHeld ?y78 ?h78
    case y78=>(intro wA;go_simp;first | done | with_reducible rfl)
    simp only [Act.put,List.setIfInBounds_toArray,List.set_cons_zero,List.set_cons_succ]
    refine Rg.pure 7 (v:=?v79) rfl (by kernel_rfl) (fun _ _ _ h=>h) (by rfl) hHeld ?y79 ?h79
    case y79=>(intro wA;go_simp;first | done | with_reducible rfl)
    simp only [Act.put,List.setIfInBounds_toArray,List.set_cons_zero,List.set_cons_succ]
    refine Rg.pure 8 (v:=?v80) rfl (by kernel_rfl) (fun _ _ _ h=>h) (by rfl) hHeld ?y80 ?h80
    case y80=>(intro wA;go_simp;first | done | with_reducible rfl)
    simp only [Act.put,List.setIfInBounds_toArray,List.set_cons_zero,List.set_cons_succ]
    refine Rg.held 9 (v:=?v81) rfl (by kernel_rfl) (fun _ _ _ h=>h) (by rfl) hHeld ?y81 ?h81
    case y81=>(intro wA hSw;(try dsimp only at hSw);go_simp;first | done | with_reducible rfl)
    simp only [Act.put,List.setIfInBounds_toArray,List.set_cons_zero,List.set_cons_succ]
    refine Rg.row [10] [_] rfl (by kernel_rfl) ?_
    clear hHeld
    go_wp2
    go_roundw
    case rel=>exact ⟨i+1,vo,by omega,by go_num,Lib.hid (by rw [HNO.out];exact HSR.out),HKR,HNX⟩
    case measure=>simp [intOf];omega
end Go.Proofs.Ytjccgneimknbpaa.L
