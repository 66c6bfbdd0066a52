/- The ends ahead of one who drives, one by one: bounds, and what lies in memory. Lemmas alone. -/
import Derived.Test.YtjccgneimknbpaaXg
set_option linter.unusedVariables false
set_option linter.unusedSimpArgs false
namespace Go.Proofs.Ytjccgneimknbpaa.L
open Go.RowKit
theorem Rw_empty {α:Type} {d:Kn α} {e g:Nat} {w:World} {ok:Nat→Prop} (h:Blk w g e []):d.Rw e w ok (.slice (some ⟨g,0,none⟩) 0 0) [] :=
 ⟨[],⟨by simp,.inr ⟨g,0,#[],rfl,Nat.zero_le _,h,Nat.le_refl _,by simp [maxLen],by simp,by simp⟩⟩,by simp⟩
theorem stepK_flat:∀(w:World) (ok ok':Nat→Prop) (x:Step) (cs:List Value),stepK.K w ok x cs→stepK.K w ok' x cs:=fun _ _ _ _ _ h=>h
theorem partK_flat:∀(w:World) (ok ok':Nat→Prop) (x:Part) (cs:List Value),partK.K w ok x cs→partK.K w ok' x cs:=fun _ _ _ _ _ h=>h
theorem intK_flat2:∀(w:World) (ok ok':Nat→Prop) (x:Int) (cs:List Value),Kn.int.K w ok x cs→Kn.int.K w ok' x cs:=fun _ _ _ _ _ h=>h
theorem flankK_flat:∀(w:World) (ok ok':Nat→Prop) (x:Flank) (cs:List Value),flankK.K w ok x cs→flankK.K w ok' x cs:=fun _ _ _ _ _ h=>h
theorem Blk.eq {w w2:World} {g t:Nat} {cs:List Value} (h:w2.heap[g]?=w.heap[g]?) (hb:Blk w g t cs):Blk w2 g t cs:=h.trans hb
theorem set8_far {w:World} {b k:Nat} (y0 y1 y2 y3 y4 y5 y6 y7:Value) (h:k≠b):((((((((w.setCell ⟨b,0,none⟩ y0).setCell ⟨b,1,none⟩ y1).setCell ⟨b,2,none⟩ y2).setCell ⟨b,3,none⟩ y3).setCell ⟨b,4,none⟩ y4).setCell ⟨b,5,none⟩ y5).setCell ⟨b,6,none⟩ y6).setCell ⟨b,7,none⟩ y7).heap[k]?=w.heap[k]?:=by
 rw [Below.heap_setCell _ _ _ _ h,Below.heap_setCell _ _ _ _ h,Below.heap_setCell _ _ _ _ h,Below.heap_setCell _ _ _ _ h,Below.heap_setCell _ _ _ _ h,Below.heap_setCell _ _ _ _ h,Below.heap_setCell _ _ _ _ h,Below.heap_setCell _ _ _ _ h]
theorem set8_below {B b:Nat} {w W:World} (y0 y1 y2 y3 y4 y5 y6 y7:Value) (h:Below B w W) (hb:B≤b):Below B w ((((((((W.setCell ⟨b,0,none⟩ y0).setCell ⟨b,1,none⟩ y1).setCell ⟨b,2,none⟩ y2).setCell ⟨b,3,none⟩ y3).setCell ⟨b,4,none⟩ y4).setCell ⟨b,5,none⟩ y5).setCell ⟨b,6,none⟩ y6).setCell ⟨b,7,none⟩ y7):=(((((((h.setCell hb y0).setCell hb y1).setCell hb y2).setCell hb y3).setCell hb y4).setCell hb y5).setCell hb y6).setCell hb y7
theorem set8_blk {w:World} {b t:Nat} {x0 x1 x2 x3 x4 x5 x6 x7:Value} (y0 y1 y2 y3 y4 y5 y6 y7:Value) (h:Blk w b t [x0,x1,x2,x3,x4,x5,x6,x7]):Blk ((((((((w.setCell ⟨b,0,none⟩ y0).setCell ⟨b,1,none⟩ y1).setCell ⟨b,2,none⟩ y2).setCell ⟨b,3,none⟩ y3).setCell ⟨b,4,none⟩ y4).setCell ⟨b,5,none⟩ y5).setCell ⟨b,6,none⟩ y6).setCell ⟨b,7,none⟩ y7) b t [y0,y1,y2,y3,y4,y5,y6,y7]:=(((((((h.set_ 0 y0).set_ 1 y1).set_ 2 y2).set_ 3 y3).set_ 4 y4).set_ 5 y5).set_ 6 y6).set_ 7 y7
theorem cp_step {w W w2:World} {o:Obj} (hb:Below w.heap.size w W) (hg:(W.alloc o).grownBy w2 (some W.heap.size)):Below w.heap.size w w2∧(∀k,k < W.heap.size→w2.heap[k]?=W.heap[k]?)∧W.heap.size≤w2.heap.size:=by
 refine ⟨(hb.alloc hb.size o).grown hg (by have:=hb.size;rw [size_alloc];omega) (fun k hk=>by injection hk with hk;have:=hb.size;omega),fun k hk=>?_,by have:=hg.size;rw [size_alloc] at this;omega⟩
 rw [hg.block k (by rw [size_alloc];omega) (fun e=>by have:=Option.some.inj e;omega),(below_alloc W o).block k hk]
structure CP (w:World) (B:Nat) (r:Route) (v2 v3 v4 v5:Value):Prop where
 s:stepK.Rw 46 w nobody v2 r.steps
 l:lieK.Rw 52 w nobody v3 r.lies
 c:Kn.int.Rw 3 w nobody v4 r.crosses
 p:partK.Rw 48 w nobody v5 r.parts
 os:∀b,v2.ownBlock=some b→B≤b
 ol:∀b,v3.ownBlock=some b→B≤b
 oc:∀b,v4.ownBlock=some b→B≤b
 op:∀b,v5.ownBlock=some b→B≤b
theorem CP.below {w w1:World} {B:Nat} {r:Route} {v2 v3 v4 v5:Value} (hb:Below w.heap.size w w1) (h:CP w B r v2 v3 v4 v5):CP w1 B r v2 v3 v4 v5:=⟨h.s.below hb,h.l.below hb,h.c.below hb,h.p.below hb,h.os,h.ol,h.oc,h.op⟩
def RetCp (r:Route) (v6 v7:Value) (w:World) (en:Ending) (w':World):Prop :=
 ∃B2 B3 B4 B5 d2 d3 d4 d5,en=.returned (.agg #[.int .i64 r.frm,.int .i64 r.til,.slice B2 r.steps.length d2,.slice B3 r.lies.length d3,.slice B4 r.crosses.length d4,.slice B5 r.parts.length d5,v6,v7])∧CP w' w.heap.size r (.slice B2 r.steps.length d2) (.slice B3 r.lies.length d3) (.slice B4 r.crosses.length d4) (.slice B5 r.parts.length d5)∧Below w.heap.size w w'
set_option maxRecDepth 100000 in
set_option maxHeartbeats 8000000 in
theorem specCopy {ok:Nat→Prop} (r:Route) (A2 A3 A4 A5:Option Addr) (c2 c3 c4 c5:Nat) (A6 A7:Option Addr) (n6 n7 c6 c7:Nat) (w:World) (h2:stepK.C w ok A2 r.steps) (h3:lieK.C w ok A3 r.lies) (h4:Kn.int.C w ok A4 r.crosses) (h5:partK.C w ok A5 r.parts) (hn:r.steps.length≤1000∧r.lies.length≤1000∧r.crosses.length≤1000∧r.parts.length≤1000) :
  Calls Try.prog 63 #[.agg #[.int .i64 r.frm,.int .i64 r.til,.slice A2 r.steps.length c2,.slice A3 r.lies.length c3,.slice A4 r.crosses.length c4,.slice A5 r.parts.length c5,.slice A6 n6 c6,.slice A7 n7 c7]] w (RetCp r (.slice A6 n6 c6) (.slice A7 n7 c7) w):=by
 obtain ⟨n2,n3,n4,n5⟩:=hn
 obtain ⟨i2,hi2,hz2,hy2,hx2⟩:=info_parts info46
 have m2:([]:List Step).length+r.steps.length≤maxLen:=by simp only [maxLen,List.length_nil];omega
 have k2:(([]:List Step).length+r.steps.length)*16≤140737488355328:=by simp only [List.length_nil];omega
 obtain ⟨i3,hi3,hz3,hy3,hx3⟩:=info_parts info52
 have m3:([]:List Lie).length+r.lies.length≤maxLen:=by simp only [maxLen,List.length_nil];omega
 have k3:(([]:List Lie).length+r.lies.length)*16≤140737488355328:=by simp only [List.length_nil];omega
 obtain ⟨i4,hi4,hz4,hy4,hx4⟩:=info_parts info3
 have m4:([]:List Int).length+r.crosses.length≤maxLen:=by simp only [maxLen,List.length_nil];omega
 have k4:(([]:List Int).length+r.crosses.length)*8≤140737488355328:=by simp only [List.length_nil];omega
 obtain ⟨i5,hi5,hz5,hy5,hx5⟩:=info_parts info48
 have m5:([]:List Part).length+r.parts.length≤maxLen:=by simp only [maxLen,List.length_nil];omega
 have k5:(([]:List Part).length+r.parts.length)*24≤140737488355328:=by simp only [List.length_nil];omega
 go_enter Try.func63,Try.ntmps63
 go_upto_region 2 with (fail)
 obtain ⟨W,hW,hb,HB1,HB3,HB2,hs⟩:∃W,W=((w.alloc (.cells #[.int .i64 r.frm,.int .i64 r.til,.slice A2 r.steps.length c2,.slice A3 r.lies.length c3,.slice A4 r.crosses.length c4,.slice A5 r.parts.length c5,.slice A6 n6 c6,.slice A7 n7 c7] 44)).alloc (.cells #[.int .i64 0,.int .i64 0,.slice none 0 0,.slice none 0 0,.slice none 0 0,.slice none 0 0,.slice none 0 0,.slice none 0 0] 44)).alloc (.cells #[.int .i64 r.frm,.int .i64 r.til,.slice A2 r.steps.length c2,.slice A3 r.lies.length c3,.slice A4 r.crosses.length c4,.slice A5 r.parts.length c5,.slice A6 n6 c6,.slice A7 n7 c7] 44)∧Below w.heap.size w W∧Hid (Blk W w.heap.size 44 [.int .i64 r.frm,.int .i64 r.til,.slice A2 r.steps.length c2,.slice A3 r.lies.length c3,.slice A4 r.crosses.length c4,.slice A5 r.parts.length c5,.slice A6 n6 c6,.slice A7 n7 c7])∧Hid (Blk W (w.heap.size+2) 44 [.int .i64 r.frm,.int .i64 r.til,.slice A2 r.steps.length c2,.slice A3 r.lies.length c3,.slice A4 r.crosses.length c4,.slice A5 r.parts.length c5,.slice A6 n6 c6,.slice A7 n7 c7])∧Hid (Blk W (w.heap.size+1) 44 [.int .i64 0,.int .i64 0,.slice none 0 0,.slice none 0 0,.slice none 0 0,.slice none 0 0,.slice none 0 0,.slice none 0 0])∧W.heap.size=w.heap.size+3 :=
  ⟨_,rfl,((below_alloc _ _).alloc (by simp) _).alloc (by simp;omega) _,Lib.hid (((Blk.new w 44 [.int .i64 r.frm,.int .i64 r.til,.slice A2 r.steps.length c2,.slice A3 r.lies.length c3,.slice A4 r.crosses.length c4,.slice A5 r.parts.length c5,.slice A6 n6 c6,.slice A7 n7 c7] rfl).alloc _).alloc _),Lib.hid (Blk.new _ 44 [.int .i64 r.frm,.int .i64 r.til,.slice A2 r.steps.length c2,.slice A3 r.lies.length c3,.slice A4 r.crosses.length c4,.slice A5 r.parts.length c5,.slice A6 n6 c6,.slice A7 n7 c7] (by rw [size_alloc,size_alloc])),Lib.hid ((Blk.new _ 44 [.int .i64 0,.int .i64 0,.slice none 0 0,.slice none 0 0,.slice none 0 0,.slice none 0 0,.slice none 0 0,.slice none 0 0] (by rw [size_alloc])).alloc _),by rw [size_alloc,size_alloc,size_alloc]⟩
 rw [←hW]
 clear hW
 have HS:=Lib.hid (show w.heap.size+3≤W.heap.size by omega)
 clear hs
 have x1:=HB1.out.cell 2 rfl
 have hs1:w.heap.size < W.heap.size:=HB1.out.lt
 have hs3:w.heap.size+2 < W.heap.size:=HB3.out.lt
 have E0:Hid (stepK.Rw 46 (W.alloc (.cells #[] 46)) nobody (.slice (some ⟨W.heap.size,0,none⟩) 0 0) []):=Lib.hid (Rw_empty (Blk.new W 46 [] rfl))
 have S0:Hid (Kn.Src stepK (W.alloc (.cells #[] 46)) nobody A2 r.steps):=Lib.hid (Kn.Src.flat stepK_flat (Kn.C_below (hb.alloc hb.size (.cells #[] 46)) h2))
 go_upto_region 3 with (at_builtin;go_loud (refine wpList_append_rw _ rfl (.tmp 5) (.tmp 7) 38 rfl 46 i2 _ 16 Try.underlying38 hi2 hz2 hy2 hx2 rfl (by decide) (.slice (some ⟨W.heap.size,0,none⟩) 0 0) [] r.steps rfl E0.out (fun _ h=>h.elim) A2 r.steps.length c2 rfl rfl S0.out m2 k2 ?_;intro v' w2 HR hg hat;rw [List.nil_append] at HR;obtain ⟨B2,d2,rfl,hd2,_⟩:=HR.form;obtain ⟨hb2,hk2,hsz2⟩:=cp_step hb hg;have y3:Hid (Blk w2 (w.heap.size+2) 44 [.int .i64 r.frm,.int .i64 r.til,.slice A2 r.steps.length c2,.slice A3 r.lies.length c3,.slice A4 r.crosses.length c4,.slice A5 r.parts.length c5,.slice A6 n6 c6,.slice A7 n7 c7]):=Lib.hid (Blk.eq (hk2 _ hs3) HB3.out);have z1:=y3.out.cell 2 rfl;have z2:=y3.out.frozen 2;have z3:w.heap.size+2 < w2.heap.size:=y3.out.lt))
 obtain ⟨Wn,hW,hbn,HB1n,HB3n,HB2n,HSn,HRn,HOn⟩:∃Wn,Wn=w2.setCell ⟨w.heap.size+2,2,none⟩ (.slice B2 r.steps.length d2)∧Below w.heap.size w Wn∧Hid (Blk Wn w.heap.size 44 [.int .i64 r.frm,.int .i64 r.til,.slice A2 r.steps.length c2,.slice A3 r.lies.length c3,.slice A4 r.crosses.length c4,.slice A5 r.parts.length c5,.slice A6 n6 c6,.slice A7 n7 c7])∧Hid (Blk Wn (w.heap.size+2) 44 [.int .i64 r.frm,.int .i64 r.til,.slice B2 r.steps.length d2,.slice A3 r.lies.length c3,.slice A4 r.crosses.length c4,.slice A5 r.parts.length c5,.slice A6 n6 c6,.slice A7 n7 c7])∧Hid (Blk Wn (w.heap.size+1) 44 [.int .i64 0,.int .i64 0,.slice none 0 0,.slice none 0 0,.slice none 0 0,.slice none 0 0,.slice none 0 0,.slice none 0 0])∧Hid (w.heap.size+3≤Wn.heap.size)∧Hid (stepK.Rw 46 Wn nobody (.slice B2 r.steps.length d2) r.steps)∧Hid (∀b,(Value.slice B2 r.steps.length d2).ownBlock=some b→w.heap.size+3≤b) :=
  ⟨_,rfl,hb2.setCell (by simp) _,Lib.hid ((Blk.eq (hk2 _ hs1) HB1.out).far (by simp) _),Lib.hid (y3.out.set_ 2 _),Lib.hid ((Blk.eq (hk2 _ (by omega)) HB2.out).far (by simp) _),Lib.hid (by have:=HS.out;simp;omega),Lib.hid (Kn.Rw.move (fun k hk=>Below.heap_setCell _ _ _ _ (fun e=>own_not HR y3.out (by decide) (by rw [←show k=w.heap.size+2 from e];exact hk))) (fun _ h=>h.elim) HR),Lib.hid (fun b hb=>by have:=HS.out;rcases hat with hat | hat <;> (rw [hat] at hb;simp [Value.ownBlock] at hb;omega))⟩
 rw [←hW]
 clear hW E0 S0 x1 hs1 hs3 z1 z2 z3 y3 HR hg hat hb2 hk2 hsz2 hb HB1 HB3 HB2 HS
 have hb:=hbn
 have HB1:=HB1n
 have HB3:=HB3n
 have HB2:=HB2n
 have HS:=HSn
 have HR2:=HRn
 have HO2:=HOn
 clear hbn HB1n HB3n HB2n HSn HRn HOn
 obtain ⟨W,hW⟩:∃W,W=Wn:=⟨_,rfl⟩
 subst hW
 have x1:=HB1.out.cell 3 rfl
 have hs1:w.heap.size < W.heap.size:=HB1.out.lt
 have hs3:w.heap.size+2 < W.heap.size:=HB3.out.lt
 have E0:Hid (lieK.Rw 52 (W.alloc (.cells #[] 52)) nobody (.slice (some ⟨W.heap.size,0,none⟩) 0 0) []):=Lib.hid (Rw_empty (Blk.new W 52 [] rfl))
 have S0:Hid (Kn.Src lieK (W.alloc (.cells #[] 52)) nobody A3 r.lies):=Lib.hid (Kn.Src.flat lieK_flat (Kn.C_below (hb.alloc hb.size (.cells #[] 52)) h3))
 go_upto_region 4 with (at_builtin;go_loud (refine wpList_append_rw _ rfl (.tmp 10) (.tmp 12) 39 rfl 52 i3 _ 16 Try.underlying39 hi3 hz3 hy3 hx3 rfl (by decide) (.slice (some ⟨W.heap.size,0,none⟩) 0 0) [] r.lies rfl E0.out (fun _ h=>h.elim) A3 r.lies.length c3 rfl rfl S0.out m3 k3 ?_;intro v' w2 HR hg hat;rw [List.nil_append] at HR;obtain ⟨B3,d3,rfl,hd3,_⟩:=HR.form;obtain ⟨hb2,hk2,hsz2⟩:=cp_step hb hg;have y3:Hid (Blk w2 (w.heap.size+2) 44 [.int .i64 r.frm,.int .i64 r.til,.slice B2 r.steps.length d2,.slice A3 r.lies.length c3,.slice A4 r.crosses.length c4,.slice A5 r.parts.length c5,.slice A6 n6 c6,.slice A7 n7 c7]):=Lib.hid (Blk.eq (hk2 _ hs3) HB3.out);have z1:=y3.out.cell 3 rfl;have z2:=y3.out.frozen 3;have z3:w.heap.size+2 < w2.heap.size:=y3.out.lt))
 obtain ⟨Wn,hW,hbn,HB1n,HB3n,HB2n,HSn,HRn,HOn,HP2⟩:∃Wn,Wn=w2.setCell ⟨w.heap.size+2,3,none⟩ (.slice B3 r.lies.length d3)∧Below w.heap.size w Wn∧Hid (Blk Wn w.heap.size 44 [.int .i64 r.frm,.int .i64 r.til,.slice A2 r.steps.length c2,.slice A3 r.lies.length c3,.slice A4 r.crosses.length c4,.slice A5 r.parts.length c5,.slice A6 n6 c6,.slice A7 n7 c7])∧Hid (Blk Wn (w.heap.size+2) 44 [.int .i64 r.frm,.int .i64 r.til,.slice B2 r.steps.length d2,.slice B3 r.lies.length d3,.slice A4 r.crosses.length c4,.slice A5 r.parts.length c5,.slice A6 n6 c6,.slice A7 n7 c7])∧Hid (Blk Wn (w.heap.size+1) 44 [.int .i64 0,.int .i64 0,.slice none 0 0,.slice none 0 0,.slice none 0 0,.slice none 0 0,.slice none 0 0,.slice none 0 0])∧Hid (w.heap.size+3≤Wn.heap.size)∧Hid (lieK.Rw 52 Wn nobody (.slice B3 r.lies.length d3) r.lies)∧Hid (∀b,(Value.slice B3 r.lies.length d3).ownBlock=some b→w.heap.size+3≤b)∧Hid (stepK.Rw 46 Wn nobody (.slice B2 r.steps.length d2) r.steps) :=
  ⟨_,rfl,hb2.setCell (by simp) _,Lib.hid ((Blk.eq (hk2 _ hs1) HB1.out).far (by simp) _),Lib.hid (y3.out.set_ 3 _),Lib.hid ((Blk.eq (hk2 _ (by omega)) HB2.out).far (by simp) _),Lib.hid (by have:=HS.out;simp;omega),Lib.hid (Kn.Rw.move (fun k hk=>Below.heap_setCell _ _ _ _ (fun e=>own_not HR y3.out (by decide) (by rw [←show k=w.heap.size+2 from e];exact hk))) (fun _ h=>h.elim) HR),Lib.hid (fun b hb=>by have:=HS.out;rcases hat with hat | hat <;> (rw [hat] at hb;simp [Value.ownBlock] at hb;omega)),Lib.hid (Kn.Rw.move (fun k hk=>(Below.heap_setCell _ _ _ _ (fun e=>own_not HR2.out HB3.out (by decide) (by rw [←show k=w.heap.size+2 from e];exact hk))).trans (hk2 k (HR2.out.lt k hk))) (fun _ h=>h.elim) HR2.out)⟩
 rw [←hW]
 clear hW E0 S0 x1 hs1 hs3 z1 z2 z3 y3 HR hg hat hb2 hk2 hsz2 hb HB1 HB3 HB2 HS
 have hb:=hbn
 have HB1:=HB1n
 have HB3:=HB3n
 have HB2:=HB2n
 have HS:=HSn
 have HR3:=HRn
 have HO3:=HOn
 clear hbn HB1n HB3n HB2n HSn HRn HOn
 clear HR2
 have HR2:=HP2
 clear HP2
 obtain ⟨W,hW⟩:∃W,W=Wn:=⟨_,rfl⟩
 subst hW
 have x1:=HB1.out.cell 4 rfl
 have hs1:w.heap.size < W.heap.size:=HB1.out.lt
 have hs3:w.heap.size+2 < W.heap.size:=HB3.out.lt
 have E0:Hid (Kn.int.Rw 3 (W.alloc (.cells #[] 3)) nobody (.slice (some ⟨W.heap.size,0,none⟩) 0 0) []):=Lib.hid (Rw_empty (Blk.new W 3 [] rfl))
 have S0:Hid (Kn.Src Kn.int (W.alloc (.cells #[] 3)) nobody A4 r.crosses):=Lib.hid (Kn.Src.flat intK_flat2 (Kn.C_below (hb.alloc hb.size (.cells #[] 3)) h4))
 go_upto_region 5 with (at_builtin;go_loud (refine wpList_append_rw _ rfl (.tmp 15) (.tmp 17) 40 rfl 3 i4 _ 8 Try.underlying40 hi4 hz4 hy4 hx4 rfl (by decide) (.slice (some ⟨W.heap.size,0,none⟩) 0 0) [] r.crosses rfl E0.out (fun _ h=>h.elim) A4 r.crosses.length c4 rfl rfl S0.out m4 k4 ?_;intro v' w2 HR hg hat;rw [List.nil_append] at HR;obtain ⟨B4,d4,rfl,hd4,_⟩:=HR.form;obtain ⟨hb2,hk2,hsz2⟩:=cp_step hb hg;have y3:Hid (Blk w2 (w.heap.size+2) 44 [.int .i64 r.frm,.int .i64 r.til,.slice B2 r.steps.length d2,.slice B3 r.lies.length d3,.slice A4 r.crosses.length c4,.slice A5 r.parts.length c5,.slice A6 n6 c6,.slice A7 n7 c7]):=Lib.hid (Blk.eq (hk2 _ hs3) HB3.out);have z1:=y3.out.cell 4 rfl;have z2:=y3.out.frozen 4;have z3:w.heap.size+2 < w2.heap.size:=y3.out.lt))
 obtain ⟨Wn,hW,hbn,HB1n,HB3n,HB2n,HSn,HRn,HOn,HP2,HP3⟩:∃Wn,Wn=w2.setCell ⟨w.heap.size+2,4,none⟩ (.slice B4 r.crosses.length d4)∧Below w.heap.size w Wn∧Hid (Blk Wn w.heap.size 44 [.int .i64 r.frm,.int .i64 r.til,.slice A2 r.steps.length c2,.slice A3 r.lies.length c3,.slice A4 r.crosses.length c4,.slice A5 r.parts.length c5,.slice A6 n6 c6,.slice A7 n7 c7])∧Hid (Blk Wn (w.heap.size+2) 44 [.int .i64 r.frm,.int .i64 r.til,.slice B2 r.steps.length d2,.slice B3 r.lies.length d3,.slice B4 r.crosses.length d4,.slice A5 r.parts.length c5,.slice A6 n6 c6,.slice A7 n7 c7])∧Hid (Blk Wn (w.heap.size+1) 44 [.int .i64 0,.int .i64 0,.slice none 0 0,.slice none 0 0,.slice none 0 0,.slice none 0 0,.slice none 0 0,.slice none 0 0])∧Hid (w.heap.size+3≤Wn.heap.size)∧Hid (Kn.int.Rw 3 Wn nobody (.slice B4 r.crosses.length d4) r.crosses)∧Hid (∀b,(Value.slice B4 r.crosses.length d4).ownBlock=some b→w.heap.size+3≤b)∧Hid (stepK.Rw 46 Wn nobody (.slice B2 r.steps.length d2) r.steps)∧Hid (lieK.Rw 52 Wn nobody (.slice B3 r.lies.length d3) r.lies) :=
  ⟨_,rfl,hb2.setCell (by simp) _,Lib.hid ((Blk.eq (hk2 _ hs1) HB1.out).far (by simp) _),Lib.hid (y3.out.set_ 4 _),Lib.hid ((Blk.eq (hk2 _ (by omega)) HB2.out).far (by simp) _),Lib.hid (by have:=HS.out;simp;omega),Lib.hid (Kn.Rw.move (fun k hk=>Below.heap_setCell _ _ _ _ (fun e=>own_not HR y3.out (by decide) (by rw [←show k=w.heap.size+2 from e];exact hk))) (fun _ h=>h.elim) HR),Lib.hid (fun b hb=>by have:=HS.out;rcases hat with hat | hat <;> (rw [hat] at hb;simp [Value.ownBlock] at hb;omega)),Lib.hid (Kn.Rw.move (fun k hk=>(Below.heap_setCell _ _ _ _ (fun e=>own_not HR2.out HB3.out (by decide) (by rw [←show k=w.heap.size+2 from e];exact hk))).trans (hk2 k (HR2.out.lt k hk))) (fun _ h=>h.elim) HR2.out),Lib.hid (Kn.Rw.move (fun k hk=>(Below.heap_setCell _ _ _ _ (fun e=>own_not HR3.out HB3.out (by decide) (by rw [←show k=w.heap.size+2 from e];exact hk))).trans (hk2 k (HR3.out.lt k hk))) (fun _ h=>h.elim) HR3.out)⟩
 rw [←hW]
 clear hW E0 S0 x1 hs1 hs3 z1 z2 z3 y3 HR hg hat hb2 hk2 hsz2 hb HB1 HB3 HB2 HS
 have hb:=hbn
 have HB1:=HB1n
 have HB3:=HB3n
 have HB2:=HB2n
 have HS:=HSn
 have HR4:=HRn
 have HO4:=HOn
 clear hbn HB1n HB3n HB2n HSn HRn HOn
 clear HR2
 have HR2:=HP2
 clear HP2
 clear HR3
 have HR3:=HP3
 clear HP3
 obtain ⟨W,hW⟩:∃W,W=Wn:=⟨_,rfl⟩
 subst hW
 have x1:=HB1.out.cell 5 rfl
 have hs1:w.heap.size < W.heap.size:=HB1.out.lt
 have hs3:w.heap.size+2 < W.heap.size:=HB3.out.lt
 have E0:Hid (partK.Rw 48 (W.alloc (.cells #[] 48)) nobody (.slice (some ⟨W.heap.size,0,none⟩) 0 0) []):=Lib.hid (Rw_empty (Blk.new W 48 [] rfl))
 have S0:Hid (Kn.Src partK (W.alloc (.cells #[] 48)) nobody A5 r.parts):=Lib.hid (Kn.Src.flat partK_flat (Kn.C_below (hb.alloc hb.size (.cells #[] 48)) h5))
 go_upto_region 6 with (at_builtin;go_loud (refine wpList_append_rw _ rfl (.tmp 20) (.tmp 22) 41 rfl 48 i5 _ 24 Try.underlying41 hi5 hz5 hy5 hx5 rfl (by decide) (.slice (some ⟨W.heap.size,0,none⟩) 0 0) [] r.parts rfl E0.out (fun _ h=>h.elim) A5 r.parts.length c5 rfl rfl S0.out m5 k5 ?_;intro v' w2 HR hg hat;rw [List.nil_append] at HR;obtain ⟨B5,d5,rfl,hd5,_⟩:=HR.form;obtain ⟨hb2,hk2,hsz2⟩:=cp_step hb hg;have y3:Hid (Blk w2 (w.heap.size+2) 44 [.int .i64 r.frm,.int .i64 r.til,.slice B2 r.steps.length d2,.slice B3 r.lies.length d3,.slice B4 r.crosses.length d4,.slice A5 r.parts.length c5,.slice A6 n6 c6,.slice A7 n7 c7]):=Lib.hid (Blk.eq (hk2 _ hs3) HB3.out);have z1:=y3.out.cell 5 rfl;have z2:=y3.out.frozen 5;have z3:w.heap.size+2 < w2.heap.size:=y3.out.lt))
 obtain ⟨Wn,hW,hbn,HB1n,HB3n,HB2n,HSn,HRn,HOn,HP2,HP3,HP4⟩:∃Wn,Wn=w2.setCell ⟨w.heap.size+2,5,none⟩ (.slice B5 r.parts.length d5)∧Below w.heap.size w Wn∧Hid (Blk Wn w.heap.size 44 [.int .i64 r.frm,.int .i64 r.til,.slice A2 r.steps.length c2,.slice A3 r.lies.length c3,.slice A4 r.crosses.length c4,.slice A5 r.parts.length c5,.slice A6 n6 c6,.slice A7 n7 c7])∧Hid (Blk Wn (w.heap.size+2) 44 [.int .i64 r.frm,.int .i64 r.til,.slice B2 r.steps.length d2,.slice B3 r.lies.length d3,.slice B4 r.crosses.length d4,.slice B5 r.parts.length d5,.slice A6 n6 c6,.slice A7 n7 c7])∧Hid (Blk Wn (w.heap.size+1) 44 [.int .i64 0,.int .i64 0,.slice none 0 0,.slice none 0 0,.slice none 0 0,.slice none 0 0,.slice none 0 0,.slice none 0 0])∧Hid (w.heap.size+3≤Wn.heap.size)∧Hid (partK.Rw 48 Wn nobody (.slice B5 r.parts.length d5) r.parts)∧Hid (∀b,(Value.slice B5 r.parts.length d5).ownBlock=some b→w.heap.size+3≤b)∧Hid (stepK.Rw 46 Wn nobody (.slice B2 r.steps.length d2) r.steps)∧Hid (lieK.Rw 52 Wn nobody (.slice B3 r.lies.length d3) r.lies)∧Hid (Kn.int.Rw 3 Wn nobody (.slice B4 r.crosses.length d4) r.crosses) :=
  ⟨_,rfl,hb2.setCell (by simp) _,Lib.hid ((Blk.eq (hk2 _ hs1) HB1.out).far (by simp) _),Lib.hid (y3.out.set_ 5 _),Lib.hid ((Blk.eq (hk2 _ (by omega)) HB2.out).far (by simp) _),Lib.hid (by have:=HS.out;simp;omega),Lib.hid (Kn.Rw.move (fun k hk=>Below.heap_setCell _ _ _ _ (fun e=>own_not HR y3.out (by decide) (by rw [←show k=w.heap.size+2 from e];exact hk))) (fun _ h=>h.elim) HR),Lib.hid (fun b hb=>by have:=HS.out;rcases hat with hat | hat <;> (rw [hat] at hb;simp [Value.ownBlock] at hb;omega)),Lib.hid (Kn.Rw.move (fun k hk=>(Below.heap_setCell _ _ _ _ (fun e=>own_not HR2.out HB3.out (by decide) (by rw [←show k=w.heap.size+2 from e];exact hk))).trans (hk2 k (HR2.out.lt k hk))) (fun _ h=>h.elim) HR2.out),Lib.hid (Kn.Rw.move (fun k hk=>(Below.heap_setCell _ _ _ _ (fun e=>own_not HR3.out HB3.out (by decide) (by rw [←show k=w.heap.size+2 from e];exact hk))).trans (hk2 k (HR3.out.lt k hk))) (fun _ h=>h.elim) HR3.out),Lib.hid (Kn.Rw.move (fun k hk=>(Below.heap_setCell _ _ _ _ (fun e=>own_not HR4.out HB3.out (by decide) (by rw [←show k=w.heap.size+2 from e];exact hk))).trans (hk2 k (HR4.out.lt k hk))) (fun _ h=>h.elim) HR4.out)⟩
 rw [←hW]
 clear hW E0 S0 x1 hs1 hs3 z1 z2 z3 y3 HR hg hat hb2 hk2 hsz2 hb HB1 HB3 HB2 HS
 have hb:=hbn
 have HB1:=HB1n
 have HB3:=HB3n
 have HB2:=HB2n
 have HS:=HSn
 have HR5:=HRn
 have HO5:=HOn
 clear hbn HB1n HB3n HB2n HSn HRn HOn
 clear HR2
 have HR2:=HP2
 clear HP2
 clear HR3
 have HR3:=HP3
 clear HP3
 clear HR4
 have HR4:=HP4
 clear HP4
 obtain ⟨W,hW⟩:∃W,W=Wn:=⟨_,rfl⟩
 subst hW
 have x0:=HB3.out.cell 0 rfl
 have y0:=HB2.out.cell 0 rfl
 have z0:=HB2.out.frozen 0
 have x1:=HB3.out.cell 1 rfl
 have y1:=HB2.out.cell 1 rfl
 have z1:=HB2.out.frozen 1
 have x2:=HB3.out.cell 2 rfl
 have y2:=HB2.out.cell 2 rfl
 have z2:=HB2.out.frozen 2
 have x3:=HB3.out.cell 3 rfl
 have y3:=HB2.out.cell 3 rfl
 have z3:=HB2.out.frozen 3
 have x4:=HB3.out.cell 4 rfl
 have y4:=HB2.out.cell 4 rfl
 have z4:=HB2.out.frozen 4
 have x5:=HB3.out.cell 5 rfl
 have y5:=HB2.out.cell 5 rfl
 have z5:=HB2.out.frozen 5
 have x6:=HB3.out.cell 6 rfl
 have y6:=HB2.out.cell 6 rfl
 have z6:=HB2.out.frozen 6
 have x7:=HB3.out.cell 7 rfl
 have y7:=HB2.out.cell 7 rfl
 have z7:=HB2.out.frozen 7
 have hs1:w.heap.size+1 < W.heap.size:=HB2.out.lt
 have hs2:w.heap.size+2 < W.heap.size:=HB3.out.lt
 go_wp2
 exact bodyPost_ret (v:=.agg #[.int .i64 r.frm,.int .i64 r.til,.slice B2 r.steps.length d2,.slice B3 r.lies.length d3,.slice B4 r.crosses.length d4,.slice B5 r.parts.length d5,.slice A6 n6 c6,.slice A7 n7 c7]) (by simp [results,Try.results63,go_sem,y0,y1,y2,y3,y4,y5,y6,y7,hs1]) rfl ⟨B2,B3,B4,B5,d2,d3,d4,d5,rfl,⟨Kn.Rw.move (fun k hk=>set8_far _ _ _ _ _ _ _ _ (by have:=HO2.out k hk;omega)) (fun _ h=>h.elim) HR2.out,Kn.Rw.move (fun k hk=>set8_far _ _ _ _ _ _ _ _ (by have:=HO3.out k hk;omega)) (fun _ h=>h.elim) HR3.out,Kn.Rw.move (fun k hk=>set8_far _ _ _ _ _ _ _ _ (by have:=HO4.out k hk;omega)) (fun _ h=>h.elim) HR4.out,Kn.Rw.move (fun k hk=>set8_far _ _ _ _ _ _ _ _ (by have:=HO5.out k hk;omega)) (fun _ h=>h.elim) HR5.out,fun b hb=>by have:=HO2.out b hb;omega,fun b hb=>by have:=HO3.out b hb;omega,fun b hb=>by have:=HO4.out b hb;omega,fun b hb=>by have:=HO5.out b hb;omega⟩,set8_below _ _ _ _ _ _ _ _ hb (by omega)⟩
def RetLies (h:Nat) (lies:List Lie) (al:Option (List Lie)) (v0 v1 v2 v4 v5 v6 v7 v3:Value) (w:World) (en:Ending) (w':World):Prop :=
 en=.returned (.bool al.isSome)∧∃v',Blk w' h 44 [v0,v1,v2,v',v4,v5,v6,v7]∧lieK.Rw 52 w' nobody v' (al.getD lies)∧Keep (fun b=>b=h∨v3.ownBlock=some b) w w'∧Nx v3 v' w.heap.size
set_option maxRecDepth 100000 in
set_option maxHeartbeats 8000000 in
theorem specLies (lies:List Lie) (A3:Option Addr) (c3 h j:Nat) (l:Int) (v0 v1 v2 v4 v5 v6 v7:Value) (w:World) (hB:Blk w h 44 [v0,v1,v2,.slice A3 lies.length c3,v4,v5,v6,v7]) (hR:lieK.Rw 52 w nobody (.slice A3 lies.length c3) lies) (hl:lies.length≤1000) :
  Calls Try.prog 67 #[.pointer (some ⟨h,0,none⟩),.int .i64 j,.int .i64 l] w (RetLies h lies (addLie lies j l) v0 v1 v2 v4 v5 v6 v7 (.slice A3 lies.length c3) w):=by
 obtain ⟨i0,hi,hz0,hz1,hz2⟩:=info_parts info52
 have m63:lies.length+1≤maxLen:=by simp only [maxLen];omega
 have mby:(lies.length+1)*16≤140737488355328:=by omega
 have HB:=Lib.hid hB
 have HR:=Lib.hid hR
 have k3:=hB.cell 3 rfl
 have hh:=hB.lt
 clear hB hR
 go_enter Try.func67,Try.ntmps67
 go_wp2
 clear k3
 go_loopw [14] (fun i wr=>∃k:Nat,k≤lies.length∧i=.int .i64 k∧Hid (∀(q:Nat) (y:Lie),q < k→lies[q]?=some y→¬y.joint=j)∧Below w.heap.size w wr) (fun i _=>lies.length - (intOf i).toNat)
 case atStart=>exact ⟨0,Nat.zero_le _,rfl,Lib.hid (fun q y hq=>absurd hq (by omega)),Below.refl _ _⟩
 case round =>
 obtain ⟨k,hk,rfl,HN,hb⟩:=hrel
 have HBr:=Lib.hid (HB.out.below hb hh)
 have HRr:=Lib.hid (HR.out.below hb)
 by_cases hlk:k < lies.length
 ·obtain ⟨a5,rfl,y0,y1,E,g0,g1⟩:=lieK_at (Rw_slice HRr.out).2.2 k hlk
  have i0:(0:Int)≤(k:Int):=Int.natCast_nonneg _
  have i1:(k:Int) < (lies.length:Int):=by omega
  by_cases e0:y0=j
  rotate_left
  ·have f0:(y0 == (j:Int))=false:=int_eqf e0
   have HN2:Hid (∀(q:Nat) (y:Lie),q < k+1→lies[q]?=some y→¬y.joint=j):=Lib.hid (fun q y hq hy=>by
    by_cases hqk:q=k
    ·subst hqk
     rw [E.out] at hy
     obtain rfl:=Option.some.inj hy
     exact e0
    ·exact HN.out q y (by omega) hy)
   clear e0
   go_wp2
   go_roundw
   case rel=>exact ⟨k+1,by omega,by go_num,HN2,hb.alloc hb.size _⟩
   case measure=>simp [intOf];omega
  have f0:(y0 == (j:Int))=true:=int_eqt e0
  have HA:Hid (addLie lies j l=if y1=l then some lies else none):=Lib.hid (addLie_hit E.out e0 HN.out)
  have hbx:=hb.alloc hb.size (Obj.cells #[.int .i64 y0,.int .i64 y1] 52)
  clear e0
  by_cases e1:y1=l
  ·have f1:(y1 == l)=true:=int_eqt e1
   have HA2:Hid (addLie lies j l=some lies):=Lib.hid (by rw [HA.out,if_pos e1])
   clear e1
   go_wp2
   go_ret
   exact ⟨by rw [HA2.out];rfl,_,HB.out.below hbx hh,by rw [HA2.out];exact HR.out.below hbx,Keep.of_below hbx,Nx.refl _ _⟩
  ·have f1:(y1 == l)=false:=int_eqf e1
   have HA2:Hid (addLie lies j l=none):=Lib.hid (by rw [HA.out,if_neg e1])
   clear e1
   go_wp2
   go_ret
   exact ⟨by rw [HA2.out];rfl,_,HB.out.below hbx hh,by rw [HA2.out];exact HR.out.below hbx,Keep.of_below hbx,Nx.refl _ _⟩
 have HA:Hid (addLie lies j l=some (lies++[⟨j,l⟩])):=Lib.hid (addLie_miss (fun q y hy=>HN.out q y (by have:=(List.getElem?_eq_some_iff.1 hy).1;omega) hy))
 have k3:=HBr.out.cell 3 rfl
 have hhr:h < wr.heap.size:=HBr.out.lt
 go_wp2_with (at_builtin;refine wpList_append_rw _ rfl (.tmp 31) (.tmp 35) 39 rfl 52 i0 _ 16 Try.underlying39 hi hz0 hz1 hz2 rfl (by decide) (.slice A3 lies.length c3) lies [⟨j,l⟩] rfl (HRr.out.below (below_alloc _ _)) (fun _ h=>h.elim) (some ⟨wr.heap.size,0,none⟩) 1 1 rfl rfl (Kn.Src.one (lieK_mk _ _ ⟨j,l⟩) (new_cells _ _ _ rfl)) m63 mby ?_;intro v' w2 HR2 hg2 hat2;obtain ⟨A9,c9,rfl,hc9⟩:=HR2.form1;have B2:Hid (Blk w2 h 44 [v0,v1,v2,.slice A3 lies.length c3,v4,v5,v6,v7]):=Lib.hid (Blk.eq (hg2.block h (by rw [size_alloc];omega) (fun e=>own_not HRr.out HBr.out (by decide) e.symm)) (HBr.out.alloc _));have r7:=B2.out.cell 3 rfl;have r8:=B2.out.frozen 3;have hhz:h < w2.heap.size:=B2.out.lt)
 go_ret
 refine ⟨by rw [HA.out];rfl,_,B2.out.set_ 3 _,?_,?_,?_⟩
 ·rw [HA.out]
  exact Kn.Rw.move (fun k hk=>Below.heap_setCell _ _ _ _ (fun e=>own_not HR2 B2.out (by decide) (by rw [←show k=h from e];exact hk))) (fun _ h=>h.elim) HR2
 ·exact (((Keep.of_below hb).alloc _).grown hg2 (fun k hk _=>.inr hk)).setCell (fun _=>.inl rfl) _
 ·exact (Nx.of hat2).mono (by rw [size_alloc];have:=hb.size;omega)
end Go.Proofs.Ytjccgneimknbpaa.L
namespace Go.Proofs.Ytjccgneimknbpaa.L
open Go.RowKit
def WSet (g:Nat) (v:Value) (b:Nat):Prop:=b=g∨v.ownBlock=some b
structure WS (w:World) (g:Nat) (n:Net) (ss:List Signal) (A0 A1 A2:Option Addr) (c0 c1 c2:Nat) (ov tr:Int) (vout vs:Value) (rs:List Route):Prop where
 f:Blk w g 84 (finder n A0 A1 c0 c1 (.slice A2 ss.length c2) ov vout tr vs)
 out:rK.Rw 44 w (Out w (WSet g vout)) vout rs
 net:NC 102 w (Out w (WSet g vout)) n A0 A1
 sig:signalK.C w (Out w (WSet g vout)) A2 ss
section
variable {w w1 w2 wa wr:World} {g:Nat} {n:Net} {ss:List Signal} {A0 A1 A2:Option Addr} {c0 c1 c2:Nat} {ov tr:Int} {vout vs v':Value} {rs:List Route}
theorem Out.below {S:Nat→Prop} (hb:Below w.heap.size w w1):∀b,Out w S b→Out w1 S b:=fun b h=>⟨Nat.lt_of_lt_of_le h.1 hb.size,h.2⟩
theorem WS.below (hb:Below w.heap.size w w1) (F:WS w g n ss A0 A1 A2 c0 c1 c2 ov tr vout vs rs):WS w1 g n ss A0 A1 A2 c0 c1 c2 ov tr vout vs rs :=
 ⟨F.f.below hb F.f.lt,(F.out.below hb).mono (Out.below hb),F.net.keep (Keep.of_below hb) (fun _ _ h=>h),Kn.C_keep (Keep.of_below hb) (fun _ _ h=>h) F.sig⟩
theorem WSet.next {s:Nat} (h1:Nx vout v' s):∀x,x < s→WSet g v' x→WSet g vout x:=fun x hx hm=>by
 rcases hm with hm | hm
 ·exact .inl hm
 ·rcases h1 x hm with hm | hm
  ·exact .inr hm
  ·omega
theorem WS.new (F:WS w g n ss A0 A1 A2 c0 c1 c2 ov tr vout vs rs) {b:Nat} (hb:w.heap.size≤b):¬WSet g vout b:=fun hm=>by
 have h1:=F.f.lt
 rcases hm with hm | hm
 ·omega
 ·have:=F.out.lt b hm
  omega
def RetD (g:Nat) (n:Net) (ss:List Signal) (A0 A1 A2:Option Addr) (c0 c1 c2:Nat) (ov:Int) (vout:Value) (st:List Route × Int) (w:World) (en:Ending) (w':World):Prop :=
 en=.returned (.tuple #[])∧∃vout' vs',WS w' g n ss A0 A1 A2 c0 c1 c2 ov st.2 vout' vs' st.1∧Keep (WSet g vout) w w'∧Nx vout vout' w.heap.size
theorem RetD.after {v1:Value} {st:List Route × Int} {en:Ending} {w':World} (hk:Keep (WSet g vout) w wa) (h1:Nx vout v1 w.heap.size) (hR:RetD g n ss A0 A1 A2 c0 c1 c2 ov v1 st wa en w'):RetD g n ss A0 A1 A2 c0 c1 c2 ov vout st w en w':=by
 obtain ⟨rfl,v2,vs2,F,K,N⟩:=hR
 exact ⟨rfl,v2,vs2,F,hk.trans K (WSet.next h1),h1.trans N hk.size⟩
theorem WS.push (F:WS w g n ss A0 A1 A2 c0 c1 c2 ov tr vout vs rs) (hk:Keep (fun b=>b=g) w wr) {vs1:Value} (hf:Blk wr g 84 (finder n A0 A1 c0 c1 (.slice A2 ss.length c2) ov vout tr vs1)) (hb:Below wr.heap.size wr wa) (hg:wa.grownBy w2 vout.ownBlock) {x:Route} (hR:rK.Rw 44 w2 (Out wr (WSet g vout)) v' (rs++[x])) (ha:v'.ownBlock=vout.ownBlock∨v'.ownBlock=some wa.heap.size) :
  RetD g n ss A0 A1 A2 c0 c1 c2 ov vout (rs++[x],tr) w (.returned (.tuple #[])) (w2.setCell ⟨g,4,none⟩ v'):=by
 have hgl:=hf.lt
 have hrw:rK.Rw 44 wr (Out w (WSet g vout)) vout rs:=F.out.grownK hk (fun k hkk e=>by subst e;exact own_not F.out F.f (by decide) hkk) (fun b hb _ e=>hb.2 (.inl e))
 have hf2:Blk w2 g 84 (finder n A0 A1 c0 c1 (.slice A2 ss.length c2) ov vout tr vs1):=Blk.eq (hg.block g (Nat.lt_of_lt_of_le hgl hb.size) (fun e=>own_not hrw hf (by decide) e.symm)) (hf.below hb hgl)
 have hk2:Keep (WSet g vout) w w2:=((hk.mono (fun x _ e=>.inl e)).below hb).grown hg (fun k hkk _=>.inr hkk)
 have hk3:Keep (WSet g vout) w (w2.setCell ⟨g,4,none⟩ v'):=hk2.setCell (fun _=>.inl rfl) v'
 have hnx:Nx vout v' w.heap.size:=(Nx.of ha).mono (Nat.le_trans hk.size hb.size)
 have hnr:Nx vout v' wr.heap.size:=(Nx.of ha).mono hb.size
 have hs:=WSet.next (g:=g) hnx
 refine ⟨rfl,v',vs1,⟨hf2.set_ 4 v',?_,F.net.keep hk3 hs,Kn.C_keep hk3 hs F.sig⟩,hk3,hnx⟩
 refine (Kn.Rw.move (fun k hkk=>Below.heap_setCell _ _ _ _ (fun e=>own_not hR hf2 (by decide) (by rw [←show k=g from e];exact hkk))) (fun b hbb=>Below.heap_setCell _ _ _ _ (fun e=>hbb.2 (.inl e))) hR).mono (fun b hbb=>⟨?_,fun e=>hbb.2 (WSet.next hnr b hbb.1 e)⟩)
 have h1:=hb.size
 have h2:=hg.size
 have h3:=hbb.1
 simp
 omega
end
set_option maxRecDepth 100000 in
set_option maxHeartbeats 8000000 in
theorem specDone {n:Net} {ss:List Signal} {A0 A1 A2 B2 B3 B4 B5 B6:Option Addr} {c0 c1 c2 d2 d3 d4 d5 d6:Nat} {ov tr:Int} {vout vs:Value} {rs:List Route} {g:Nat} {w:World} (r:Route) (hr:Hid (Right n ss)) (F:WS w g n ss A0 A1 A2 c0 c1 c2 ov tr vout vs rs)
  (h2:stepK.C w (Out w (WSet g vout)) B2 r.steps) (h3:lieK.C w (Out w (WSet g vout)) B3 r.lies) (h4:Kn.int.C w (Out w (WSet g vout)) B4 r.crosses) (h5:partK.C w (Out w (WSet g vout)) B5 r.parts) (h6:partK.C w (Out w (WSet g vout)) B6 r.over)
  (hcap:Hid (r.steps.length≤d2∧r.lies.length≤d3∧r.crosses.length≤d4∧r.parts.length≤d5∧r.over.length≤d6)) (hll:r.lies.length≤201) (hlp:Hid (∀l∈r.lies,lieP n l)) (hrs:rs.length≤300) :
  Calls Try.prog 66 #[.pointer (some ⟨g,0,none⟩),.agg #[.int .i64 r.frm,.int .i64 r.til,.slice B2 r.steps.length d2,.slice B3 r.lies.length d3,.slice B4 r.crosses.length d4,.slice B5 r.parts.length d5,.slice B6 r.over.length d6,.slice none 0 0]] w (RetD g n ss A0 A1 A2 c0 c1 c2 ov vout (rs++[fin n ss r],tr) w):=by
 obtain ⟨i0,hi,hz0,hz1,hz2⟩:=info_parts info44
 have HF:=Lib.hid F
 have HG:Hid (Good n):=Lib.hid hr.out.g
 have H2:=Lib.hid h2
 have H3:=Lib.hid h3
 have H4:=Lib.hid h4
 have H5:=Lib.hid h5
 have H6:=Lib.hid h6
 have hnl:=h3.1
 have hnj:=F.net.j.1
 have hgw:=F.f.lt
 clear F h2 h3 h4 h5 h6
 have m63:rs.length+1≤maxLen:=by simp only [maxLen];omega
 have mby:(rs.length+1)*160≤140737488355328:=by omega
 have hml:∀i,i≤201→i*(2*n.pieces.length)≤40200:=fun i hi=>by have:=HG.out.le;calc i*(2*n.pieces.length)≤201*200:=Nat.mul_le_mul hi (by omega)
                                                 _=40200:=by omega
 have HML:=Lib.hid hml
 clear hml
 go_enter Try.func66,Try.ntmps66
 go_wp2
 obtain ⟨W0,hW,hb0,HB0,hs0,e0⟩:∃W,W=w.alloc (.cells #[.int .i64 r.frm,.int .i64 r.til,.slice B2 r.steps.length d2,.slice B3 r.lies.length d3,.slice B4 r.crosses.length d4,.slice B5 r.parts.length d5,.slice B6 r.over.length d6,.slice none 0 0] 44)∧Below w.heap.size w W∧Hid (Blk W w.heap.size 44 [.int .i64 r.frm,.int .i64 r.til,.slice B2 r.steps.length d2,.slice B3 r.lies.length d3,.slice B4 r.crosses.length d4,.slice B5 r.parts.length d5,.slice B6 r.over.length d6,.slice none 0 0])∧w.heap.size < W.heap.size∧W.cell? ⟨w.heap.size,3,none⟩=some (.slice B3 r.lies.length d3):=⟨_,rfl,below_alloc _ _,Lib.hid (Blk.new _ _ _ rfl),by simp,by simp⟩
 rw [←hW]
 clear hW
 go_loopw [10] (fun i wr=>∃(k:Nat) (vs1 vf:Value),k≤r.lies.length∧i=.int .i64 k∧Hid (Blk wr g 84 (finder n A0 A1 c0 c1 (.slice A2 ss.length c2) ov vout tr vs1))∧Hid (Blk wr w.heap.size 44 [.int .i64 r.frm,.int .i64 r.til,.slice B2 r.steps.length d2,.slice B3 r.lies.length d3,.slice B4 r.crosses.length d4,.slice B5 r.parts.length d5,.slice B6 r.over.length d6,vf])∧Hid (flankK.Rw 50 wr nobody vf (flanksTo n ss r.lies k))∧Hid (∀b,vf.ownBlock=some b→w.heap.size≤b)∧Hid (Keep (fun b=>b=g) w wr)) (fun i _=>r.lies.length - (intOf i).toNat)
 case atStart=>exact ⟨0,vs,.slice none 0 0,Nat.zero_le _,rfl,Lib.hid (HF.out.f.below hb0 hgw),HB0,Lib.hid (by rw [flanksTo_zero];exact Kn.Rw.nil),Lib.hid (by simp [Value.ownBlock]),Lib.hid (Keep.of_below hb0)⟩
 case round =>
 clear HB0
 obtain ⟨k,vs1,vf,hk,rfl,HBg,HBh,HFL,HFO,HK⟩:=hrel
 obtain ⟨Af,cf,rfl,hcf,_⟩:=HFL.out.form
 have hmv:∀b,Out w (WSet g vout) b→wr.heap[b]?=w.heap[b]?:=fun b hb=>HK.out.block b hb.1 (fun e=>hb.2 (.inl e))
 have HMV:=Lib.hid hmv
 clear hmv
 have hsr:w.heap.size < wr.heap.size:=HBh.out.lt
 have hgr:g < wr.heap.size:=HBg.out.lt
 have k1:=HBg.out.cell 1 rfl
 by_cases hlk:k < r.lies.length
 ·obtain ⟨a5,rfl,y0,y1,E,g0,g1⟩:=lieK_at (Kn.C_move HMV.out H3.out) k hlk
  have i0:(0:Int)≤(k:Int):=Int.natCast_nonneg _
  have i1:(k:Int) < (r.lies.length:Int):=by omega
  obtain ⟨j,hjy,hjl,hjk,hly⟩:=hlp.out _ (mem_of_get E.out)
  simp only at hjy hly
  subst hjy
  have m0:(0:Int)≤(j:Int):=Int.natCast_nonneg _
  have m1:(j:Int) < (n.joints.length:Int):=by omega
  obtain ⟨a1,rfl,x,E1,A4,c4,r0,r1,r2,l2,C2⟩:=jointK_at (Kn.C_move HMV.out HF.out.net.j) j hjl
  have hjx:jt n j=x:=by unfold jt;rw [List.getD_eq_getElem?_getD,E1.out];rfl
  have HJX:=Lib.hid hjx
  have hP:=HG.out.joint x (mem_of_get E1.out)
  have hl3:x.ends.length=3:=by have:=hP.2.1;rw [hjx] at hjk;omega
  have HIN:Hid (endP n.pieces.length (en x (3 - y1).toNat)):=Lib.hid (en_ok hP (by omega))
  clear hjx hP hjk
  have l1:(1:Int) < (x.ends.length:Int):=by omega
  have l2':(2:Int) < (x.ends.length:Int):=by omega
  have k6:=HBg.out.cell 6 rfl
  have k7:=HBg.out.frozen 6
  have r4:(a1.add (j*3)).block < wr.heap.size:=World.block_lt_of_cell? wr ⟨(a1.add (j*3)).block,(a1.add (j*3)).off+2,none⟩ r2
  obtain ⟨e0,he0⟩:∃e0,Hid (en x (3 - y1).toNat=e0):=⟨_,Lib.hid rfl⟩
  have HE0:Hid (endP n.pieces.length e0):=Lib.hid (by rw [←he0.out];exact HIN.out)
  have HFK:Hid (flanksTo n ss r.lies (k+1)=(flankF n ss r.lies j (2*n.pieces.length+1) ([],flanksTo n ss r.lies k) e0).2):=Lib.hid (by
   rw [flanksTo_succ E.out,flankF_app]
   simp only
   unfold flanksAt
   rw [show ((⟨j,y1⟩:Lie).joint).toNat=j from Int.toNat_natCast j,HJX.out,show ((3:Int) - (⟨j,y1⟩:Lie).lie).toNat=(3 - y1).toNat from rfl,he0.out])
  have HLEN:Hid ((flanksTo n ss r.lies k).length≤50000):=Lib.hid (by have h1:=flanksTo_len (ss:=ss) HG.out hlp.out k;have h2:=HML.out k (by omega);omega)
  rcases hly with rfl | rfl
  ·go_wp2
   go_quiet (fail)
   go_wp2
   obtain ⟨X,hX,KX,XG,XH,XL,XF,hmx,hsx⟩:∃X,X=((wr.alloc (.cells #[.int .i64 j,.int .i64 1] 52)).drewN nq).setCell ⟨g,6,none⟩ (.slice none 0 0)∧Keep (fun b=>b=g) wr X∧Hid (Blk X g 84 (finder n A0 (some a1) c0 c1 (.slice A2 ss.length c2) ov vout tr (.slice none 0 0)))∧Hid (Blk X w.heap.size 44 [.int .i64 r.frm,.int .i64 r.til,.slice B2 r.steps.length d2,.slice (some a5) r.lies.length d3,.slice B4 r.crosses.length d4,.slice B5 r.parts.length d5,.slice B6 r.over.length d6,.slice Af (flanksTo n ss r.lies k).length cf])∧Hid (Blk X wr.heap.size 52 [.int .i64 j,.int .i64 1])∧Hid (flankK.Rw 50 X nobody (.slice Af (flanksTo n ss r.lies k).length cf) (flanksTo n ss r.lies k))∧(∀b,Out w (WSet g vout) b→X.heap[b]?=wr.heap[b]?)∧wr.heap.size < X.heap.size:=by
    refine ⟨_,rfl,?_,?_,?_,?_,?_,?_,?_⟩
    ·exact Keep.setCell (S:=fun b=>b=g) (p:=⟨g,6,none⟩) (((Keep.refl _ _).alloc _).drewN _) (fun _=>rfl) _
    ·exact Lib.hid ((HBg.out.alloc _).set_ 6 _)
    ·exact Lib.hid ((HBh.out.alloc _).far (p:=⟨g,6,none⟩) (fun e=>by have:w.heap.size=g:=e;omega) _)
    ·exact Lib.hid (Blk.far (Blk.new wr 52 [.int .i64 j,.int .i64 1] rfl) (p:=⟨g,6,none⟩) (fun e=>by have:wr.heap.size=g:=e;omega) _)
    ·exact Lib.hid (Kn.Rw.move (fun q hq=>(Below.heap_setCell _ _ _ _ (fun e=>own_not HFL.out HBg.out (by decide) (by rw [←show q=g from e];exact hq))).trans ((below_alloc wr _).block q (HFL.out.lt q hq))) (fun _ h=>h.elim) HFL.out)
    ·exact fun b hb=>(Below.heap_setCell _ _ _ _ (fun e=>hb.2 (.inl e))).trans ((below_alloc wr _).block b (Nat.lt_of_lt_of_le hb.1 (Nat.le_of_lt hsr)))
    ·simp
   rw [←hX]
   have HMX:=Lib.hid (fun b hb=>(hmx b hb).trans (HMV.out b hb))
   have HKX:=Lib.hid KX
   have CX:=Lib.hid (Kn.C_move hmx C2)
   have HTO:Hid (∀b,Out w (WSet g vout) b→Out X (FSet g w.heap.size (.slice none 0 0) (.slice Af (flanksTo n ss r.lies k).length cf)) b):=Lib.hid (fun b hb=>⟨by have:=hb.1;omega,fun e=>by
    rcases e with e | e | e | e
    ·exact hb.2 (.inl e)
    ·have:=hb.1;omega
    ·simp [Value.ownBlock] at e
    ·have:=HFO.out b e;have:=hb.1;omega⟩)
   have FX:Hid (FS 84 44 102 50 X g w.heap.size n ss r.lies A0 (some a1) A2 (some a5) c0 c1 c2 d3 ov tr vout (.int .i64 r.frm) (.int .i64 r.til) (.slice B2 r.steps.length d2) (.slice B4 r.crosses.length d4) (.slice B5 r.parts.length d5) (.slice B6 r.over.length d6) (.slice none 0 0) (.slice Af (flanksTo n ss r.lies k).length cf) [] (flanksTo n ss r.lies k)):=Lib.hid ⟨XG.out,XH.out,(HF.out.net.move HMX.out).mono HTO.out,Kn.C_mono HTO.out (Kn.C_move HMX.out HF.out.sig),Kn.C_mono HTO.out (Kn.C_move HMX.out H3.out),Kn.Rw.nil,XF.out⟩
   have HNL:Hid (¬FSet g w.heap.size (.slice none 0 0) (.slice Af (flanksTo n ss r.lies k).length cf) wr.heap.size):=Lib.hid (fun e=>by
    rcases e with e | e | e | e
    ·omega
    ·omega
    ·simp [Value.ownBlock] at e
    ·have:=HFL.out.lt _ e;omega)
   have x0:=XL.out.cell 0 rfl
   have x1:=XL.out.cell 1 rfl
   obtain ⟨a6,rfl,t0,t1⟩:=en_pos (k:=2) (m:=4) CX.out (by omega) (by omega) rfl
   have he1:Hid (en x 2=e0):=Lib.hid (by rw [←he0.out];rfl)
   rw [he1.out] at t0 t1
   clear hX KX hmx g0 g1 r0 r1 r2 k1 k6 k7 r4 C2
   go_region_with ((go_at_call 92;((with_reducible refine (specFlank hr (by omega) (2*n.pieces.length+1) _ _ [] (flanksTo n ss r.lies k) e0 _ (FX.out.below (Below.refl _ _).drew) HE0 (Lib.hid ⟨by simp,by simp⟩) (Lib.hid (by simp)) (Lib.hid (by have:=HLEN.out;simp;omega))).mono ?_);rintro e w9 hRF;obtain ⟨rfl,vs2,vf2,F9,K9,N9,M9⟩:=hRF)))
   all_goals (
    have HG9:=Lib.hid F9.f
    have HH9:=Lib.hid F9.r
    have HF9:Hid (flankK.Rw 50 w9 nobody vf2 (flanksTo n ss r.lies (k+1))):=Lib.hid (by rw [HFK.out];exact F9.fn)
    have HO9:Hid (∀b,vf2.ownBlock=some b→w.heap.size≤b):=Lib.hid (fun b hb=>by
     rcases M9 b hb with h | h
     ·exact HFO.out b h
     ·have:X.heap.size≤b:=h;omega)
    have HK9:Hid (Keep (fun b=>b=g) w w9):=Lib.hid ((HK.out.trans HKX.out (fun x _ e=>e)).trans (Keep.trans (S:=FSet g w.heap.size (.slice none 0 0) (.slice Af (flanksTo n ss r.lies k).length cf)) (Keep.drew (Keep.refl _ X)) K9 (fun x _ e=>e)) (fun b hb e=>by
     rcases e with e | e | e | e
     ·exact e
     ·omega
     ·simp [Value.ownBlock] at e
     ·have:=HFO.out b e;omega))
    clear F9 K9 N9 M9
    go_wp2
    go_roundw
    case rel=>exact ⟨k+1,vs2,vf2,by omega,by go_num,HG9,HH9,HF9,HO9,HK9⟩
    case measure=>simp [intOf];omega)
  ·go_wp2
   go_quiet (fail)
   go_wp2
   obtain ⟨X,hX,KX,XG,XH,XL,XF,hmx,hsx⟩:∃X,X=((wr.alloc (.cells #[.int .i64 j,.int .i64 2] 52)).drewN nq).setCell ⟨g,6,none⟩ (.slice none 0 0)∧Keep (fun b=>b=g) wr X∧Hid (Blk X g 84 (finder n A0 (some a1) c0 c1 (.slice A2 ss.length c2) ov vout tr (.slice none 0 0)))∧Hid (Blk X w.heap.size 44 [.int .i64 r.frm,.int .i64 r.til,.slice B2 r.steps.length d2,.slice (some a5) r.lies.length d3,.slice B4 r.crosses.length d4,.slice B5 r.parts.length d5,.slice B6 r.over.length d6,.slice Af (flanksTo n ss r.lies k).length cf])∧Hid (Blk X wr.heap.size 52 [.int .i64 j,.int .i64 2])∧Hid (flankK.Rw 50 X nobody (.slice Af (flanksTo n ss r.lies k).length cf) (flanksTo n ss r.lies k))∧(∀b,Out w (WSet g vout) b→X.heap[b]?=wr.heap[b]?)∧wr.heap.size < X.heap.size:=by
    refine ⟨_,rfl,?_,?_,?_,?_,?_,?_,?_⟩
    ·exact Keep.setCell (S:=fun b=>b=g) (p:=⟨g,6,none⟩) (((Keep.refl _ _).alloc _).drewN _) (fun _=>rfl) _
    ·exact Lib.hid ((HBg.out.alloc _).set_ 6 _)
    ·exact Lib.hid ((HBh.out.alloc _).far (p:=⟨g,6,none⟩) (fun e=>by have:w.heap.size=g:=e;omega) _)
    ·exact Lib.hid (Blk.far (Blk.new wr 52 [.int .i64 j,.int .i64 2] rfl) (p:=⟨g,6,none⟩) (fun e=>by have:wr.heap.size=g:=e;omega) _)
    ·exact Lib.hid (Kn.Rw.move (fun q hq=>(Below.heap_setCell _ _ _ _ (fun e=>own_not HFL.out HBg.out (by decide) (by rw [←show q=g from e];exact hq))).trans ((below_alloc wr _).block q (HFL.out.lt q hq))) (fun _ h=>h.elim) HFL.out)
    ·exact fun b hb=>(Below.heap_setCell _ _ _ _ (fun e=>hb.2 (.inl e))).trans ((below_alloc wr _).block b (Nat.lt_of_lt_of_le hb.1 (Nat.le_of_lt hsr)))
    ·simp
   rw [←hX]
   have HMX:=Lib.hid (fun b hb=>(hmx b hb).trans (HMV.out b hb))
   have HKX:=Lib.hid KX
   have CX:=Lib.hid (Kn.C_move hmx C2)
   have HTO:Hid (∀b,Out w (WSet g vout) b→Out X (FSet g w.heap.size (.slice none 0 0) (.slice Af (flanksTo n ss r.lies k).length cf)) b):=Lib.hid (fun b hb=>⟨by have:=hb.1;omega,fun e=>by
    rcases e with e | e | e | e
    ·exact hb.2 (.inl e)
    ·have:=hb.1;omega
    ·simp [Value.ownBlock] at e
    ·have:=HFO.out b e;have:=hb.1;omega⟩)
   have FX:Hid (FS 84 44 102 50 X g w.heap.size n ss r.lies A0 (some a1) A2 (some a5) c0 c1 c2 d3 ov tr vout (.int .i64 r.frm) (.int .i64 r.til) (.slice B2 r.steps.length d2) (.slice B4 r.crosses.length d4) (.slice B5 r.parts.length d5) (.slice B6 r.over.length d6) (.slice none 0 0) (.slice Af (flanksTo n ss r.lies k).length cf) [] (flanksTo n ss r.lies k)):=Lib.hid ⟨XG.out,XH.out,(HF.out.net.move HMX.out).mono HTO.out,Kn.C_mono HTO.out (Kn.C_move HMX.out HF.out.sig),Kn.C_mono HTO.out (Kn.C_move HMX.out H3.out),Kn.Rw.nil,XF.out⟩
   have HNL:Hid (¬FSet g w.heap.size (.slice none 0 0) (.slice Af (flanksTo n ss r.lies k).length cf) wr.heap.size):=Lib.hid (fun e=>by
    rcases e with e | e | e | e
    ·omega
    ·omega
    ·simp [Value.ownBlock] at e
    ·have:=HFL.out.lt _ e;omega)
   have x0:=XL.out.cell 0 rfl
   have x1:=XL.out.cell 1 rfl
   obtain ⟨a6,rfl,t0,t1⟩:=en_pos (k:=1) (m:=2) CX.out (by omega) (by omega) rfl
   have he1:Hid (en x 1=e0):=Lib.hid (by rw [←he0.out];rfl)
   rw [he1.out] at t0 t1
   clear hX KX hmx g0 g1 r0 r1 r2 k1 k6 k7 r4 C2
   go_region_with ((go_at_call 92;((with_reducible refine (specFlank hr (by omega) (2*n.pieces.length+1) _ _ [] (flanksTo n ss r.lies k) e0 _ (FX.out.below (Below.refl _ _).drew) HE0 (Lib.hid ⟨by simp,by simp⟩) (Lib.hid (by simp)) (Lib.hid (by have:=HLEN.out;simp;omega))).mono ?_);rintro e w9 hRF;obtain ⟨rfl,vs2,vf2,F9,K9,N9,M9⟩:=hRF)))
   all_goals (
    have HG9:=Lib.hid F9.f
    have HH9:=Lib.hid F9.r
    have HF9:Hid (flankK.Rw 50 w9 nobody vf2 (flanksTo n ss r.lies (k+1))):=Lib.hid (by rw [HFK.out];exact F9.fn)
    have HO9:Hid (∀b,vf2.ownBlock=some b→w.heap.size≤b):=Lib.hid (fun b hb=>by
     rcases M9 b hb with h | h
     ·exact HFO.out b h
     ·have:X.heap.size≤b:=h;omega)
    have HK9:Hid (Keep (fun b=>b=g) w w9):=Lib.hid ((HK.out.trans HKX.out (fun x _ e=>e)).trans (Keep.trans (S:=FSet g w.heap.size (.slice none 0 0) (.slice Af (flanksTo n ss r.lies k).length cf)) (Keep.drew (Keep.refl _ X)) K9 (fun x _ e=>e)) (fun b hb e=>by
     rcases e with e | e | e | e
     ·exact e
     ·omega
     ·simp [Value.ownBlock] at e
     ·have:=HFO.out b e;omega))
    clear F9 K9 N9 M9
    go_wp2
    go_roundw
    case rel=>exact ⟨k+1,vs2,vf2,by omega,by go_num,HG9,HH9,HF9,HO9,HK9⟩
    case measure=>simp [intOf];omega)
 have hke:r.lies.length≤k:=by omega
 have HFN:Hid (flanksTo n ss r.lies k=flanksOf n ss r.lies):=Lib.hid (by rw [show k=r.lies.length by omega,flanksTo_all])
 have k3:=HBg.out.cell 4 rfl
 have hvo:∃Ao co,vout=.slice Ao rs.length co∧rs.length≤co:=by obtain ⟨Ao,co,h1,h2,_⟩:=HF.out.out.form;exact ⟨Ao,co,h1,h2⟩
 obtain ⟨Ao,co,rfl,hco⟩:=hvo
 obtain ⟨hn2,hn3,hn4,hn5,hn6⟩:=hcap.out
 have y0:=HBh.out.cell 0 rfl
 have y1:=HBh.out.cell 1 rfl
 have y2:=HBh.out.cell 2 rfl
 have y3:=HBh.out.cell 3 rfl
 have y4:=HBh.out.cell 4 rfl
 have y5:=HBh.out.cell 5 rfl
 have y6:=HBh.out.cell 6 rfl
 have y7:=HBh.out.cell 7 rfl
 have HRw:Hid (rK.Rw 44 wr (Out wr (WSet g (.slice Ao rs.length co))) (.slice Ao rs.length co) rs):=Lib.hid ((HF.out.out.grownK HK.out (fun q hq e=>by subst e;exact own_not HF.out.out HF.out.f (by decide) hq) (fun b hb _ e=>hb.2 (.inl e))).mono (fun b hb=>⟨by have:=hb.1;omega,hb.2⟩))
 have HTO:Hid (∀b,Out w (WSet g (.slice Ao rs.length co)) b→Out wr (WSet g (.slice Ao rs.length co)) b):=Lib.hid (fun b hb=>⟨by have:=hb.1;omega,hb.2⟩)
 have HKR:Hid (rK.K wr (Out wr (WSet g (.slice Ao rs.length co))) (fin n ss r) [.int .i64 r.frm,.int .i64 r.til,.slice B2 r.steps.length d2,.slice B3 r.lies.length d3,.slice B4 r.crosses.length d4,.slice B5 r.parts.length d5,.slice B6 r.over.length d6,.slice Af (flanksTo n ss r.lies k).length cf]):=Lib.hid (by
  rw [HFN.out]
  have hfC:=Rw_slice HFL.out
  rw [HFN.out] at hfC
  refine routeK_mk (x:=fin n ss r) hn2 (Kn.C_mono HTO.out (Kn.C_move HMV.out H2.out)) hn3 (Kn.C_mono HTO.out (Kn.C_move HMV.out H3.out)) hn4 (Kn.C_mono HTO.out (Kn.C_move HMV.out H4.out)) hn5 (Kn.C_mono HTO.out (Kn.C_move HMV.out H5.out)) hn6 (Kn.C_mono HTO.out (Kn.C_move HMV.out H6.out)) hfC.2.1 (Kn.C_mono (fun b hb=>?_) hfC.2.2)
  rcases hb with hb | hb
  ·exact hb.elim
  ·have h1:=HFL.out.lt b (by rw [HFN.out];exact hb)
   have h2:=HFO.out b (by rw [HFN.out];exact hb)
   refine ⟨h1,fun e=>?_⟩
   rcases e with e | e
   ·omega
   ·have:=HF.out.out.lt b e
    omega)
 clear HFL
 go_wp2
 go_region_law (first | (go_loud (refine step_append_rw _ rfl (.tmp 42) (.tmp 44) 30 rfl 44 i0 _ 160 Try.underlying30 hi hz0 hz1 hz2 rfl (by decide) (.slice Ao rs.length co) rs [fin n ss r] rfl (HRw.out.below (by repeat' first | exact Below.refl _ _ | (refine Below.drew ?_) | (refine Below.alloc ?_ (Nat.le_refl _) _))) (fun b hb e=>hb.2 (.inr e)) (some ⟨wr.heap.size,0,none⟩) 1 1 rfl rfl (Kn.Src.one (Kn.K_below (by repeat' first | exact Below.refl _ _ | (refine Below.drew ?_) | (refine Below.alloc ?_ (Nat.le_refl _) _)) HKR.out) (new_cells _ _ _ rfl)) m63 mby ?_;intro v' w2 HR2 hg2 hat2;obtain ⟨A9,c9,rfl,hc9⟩:=HR2.form1;have B2:Hid (Blk w2 g 84 (finder n A0 A1 c0 c1 (.slice A2 ss.length c2) ov (.slice Ao rs.length co) tr vs1)):=Lib.hid (Blk.eq (hg2.block g (by have hzz:Below wr.heap.size wr (wr.drew.alloc (.cells #[] 0)):=(Below.refl _ _).drew.alloc (Nat.le_refl _) _;simp;omega) (fun e=>own_not HRw.out HBg.out (by decide) e.symm)) (HBg.out.below (by repeat' first | exact Below.refl _ _ | (refine Below.drew ?_) | (refine Below.alloc ?_ (Nat.le_refl _) _)) hgr));have r7:=B2.out.cell 4 rfl;have r8:=B2.out.frozen 4;have hgz:g < w2.heap.size:=B2.out.lt)))
 all_goals go_end0
 all_goals exact HF.out.push HK.out HBg.out (by repeat' first | exact Below.refl _ _ | (refine Below.drew ?_) | (refine Below.alloc ?_ (Nat.le_refl _) _)) hg2 HR2 hat2
end Go.Proofs.Ytjccgneimknbpaa.L
namespace Go.Proofs.Ytjccgneimknbpaa.L
open Go.RowKit
theorem step_is_call {P:Program} {ops:Array Oper} {o:Oper} {a:Act} {w:World} {K:Act→World→Prop} {Q:Exit→Act→World→Prop} {E:Prop} (f:Nat) (hgd:o.guard=none) {xs:Array Operand} {ts:Array TypeId}
  (ho:o.op=.call { callee:=.value (.func f),args:=xs,argTypes:=ts }) (h:Oper.wp P o a w K Q):if Region.wanted o (yielded ops a.tmps)=true then Oper.wp P o a w K Q else E:=by
 have hw:Region.wanted o (yielded ops a.tmps)=true:=by simp [Region.wanted,hgd]
 rw [if_pos hw]
 exact h
structure WL (w0 w:World) (g h:Nat) (n:Net) (ss:List Signal) (A0 A1 A2:Option Addr) (c0 c1 c2:Nat) (ov tr:Int) (vout vs:Value) (r:Route) (tl:Int) (v2 v3 v4 v5 v6:Value):Prop where
 K:Keep (fun b=>b=g) w0 w
 F:Blk w g 84 (finder n A0 A1 c0 c1 (.slice A2 ss.length c2) ov vout tr vs)
 B:Blk w h 44 [.int .i64 r.frm,.int .i64 tl,v2,v3,v4,v5,v6,.slice none 0 0]
 C:CP w w0.heap.size r v2 v3 v4 v5
theorem Blk.apart {w:World} {g h t t':Nat} {cs cs':List Value} (hg:Blk w g t cs) (hh:Blk w h t' cs') (ht:t≠t'):g≠h:=fun e=>by
 subst e
 unfold Blk at hg hh
 rw [hg] at hh
 injection hh with hh
 injection hh with _ hh _
 exact ht hh
section
variable {w0 w w1 w2 wa:World} {g h:Nat} {n:Net} {ss:List Signal} {A0 A1 A2:Option Addr} {c0 c1 c2:Nat} {ov tr tr0:Int} {vout vs vs0 v':Value} {rs:List Route} {r:Route} {tl:Int} {v2 v3 v4 v5 v6:Value}
theorem WS.later (W:WS w0 g n ss A0 A1 A2 c0 c1 c2 ov tr0 vout vs0 rs) (hk:Keep (fun b=>b=g) w0 w) (hf:Blk w g 84 (finder n A0 A1 c0 c1 (.slice A2 ss.length c2) ov vout tr vs)):WS w g n ss A0 A1 A2 c0 c1 c2 ov tr vout vs rs :=
 ⟨hf,(W.out.grownK hk (fun k hkk e=>by subst e;exact own_not W.out W.f (by decide) hkk) (fun b hb _ e=>hb.2 (.inl e))).mono (fun b hb=>⟨Nat.lt_of_lt_of_le hb.1 hk.size,hb.2⟩),
  W.net.keep (hk.mono (S:=WSet g vout) (fun x _ e=>.inl e)) (fun _ _ e=>e),Kn.C_keep (hk.mono (S:=WSet g vout) (fun x _ e=>.inl e)) (fun _ _ e=>e) W.sig⟩
theorem WS.stop (W:WS w0 g n ss A0 A1 A2 c0 c1 c2 ov tr0 vout vs0 rs) (hk:Keep (fun b=>b=g) w0 w) (hf:Blk w g 84 (finder n A0 A1 c0 c1 (.slice A2 ss.length c2) ov vout tr vs)):RetD g n ss A0 A1 A2 c0 c1 c2 ov vout (rs,tr) w0 (.returned (.tuple #[])) w :=
 ⟨rfl,vout,vs,W.later hk hf,hk.mono (fun _ _ e=>.inl e),Nx.refl _ _⟩
theorem WL.below (hb:Below w.heap.size w w1) (L:WL w0 w g h n ss A0 A1 A2 c0 c1 c2 ov tr vout vs r tl v2 v3 v4 v5 v6):WL w0 w1 g h n ss A0 A1 A2 c0 c1 c2 ov tr vout vs r tl v2 v3 v4 v5 v6 :=
 ⟨L.K.below hb,L.F.below hb L.F.lt,L.B.below hb L.B.lt,L.C.below hb⟩
theorem WL.ne (L:WL w0 w g h n ss A0 A1 A2 c0 c1 c2 ov tr vout vs r tl v2 v3 v4 v5 v6):g≠h:=L.F.apart L.B (by decide)
theorem WL.til (hh:w0.heap.size≤h) (L:WL w0 w g h n ss A0 A1 A2 c0 c1 c2 ov tr vout vs r tl v2 v3 v4 v5 v6) (t:Int):WL w0 (w.setCell ⟨h,1,none⟩ (.int .i64 t)) g h n ss A0 A1 A2 c0 c1 c2 ov tr vout vs r t v2 v3 v4 v5 v6:=by
 have hne:=L.ne
 refine ⟨L.K.setCell (fun e=>by have:h < w0.heap.size:=e;omega) _,L.F.far (p:=⟨h,1,none⟩) hne _,L.B.set_ 1 _,?_⟩
 exact ⟨Kn.Rw.move (fun k hk=>Below.heap_setCell _ _ _ _ (fun e=>own_not L.C.s L.B (by decide) (by rw [←show k=h from e];exact hk))) (fun _ h=>h.elim) L.C.s,
  Kn.Rw.move (fun k hk=>Below.heap_setCell _ _ _ _ (fun e=>own_not L.C.l L.B (by decide) (by rw [←show k=h from e];exact hk))) (fun _ h=>h.elim) L.C.l,
  Kn.Rw.move (fun k hk=>Below.heap_setCell _ _ _ _ (fun e=>own_not L.C.c L.B (by decide) (by rw [←show k=h from e];exact hk))) (fun _ h=>h.elim) L.C.c,
  Kn.Rw.move (fun k hk=>Below.heap_setCell _ _ _ _ (fun e=>own_not L.C.p L.B (by decide) (by rw [←show k=h from e];exact hk))) (fun _ h=>h.elim) L.C.p,L.C.os,L.C.ol,L.C.oc,L.C.op⟩
theorem WL.over (hh:w0.heap.size≤h) (L:WL w0 w g h n ss A0 A1 A2 c0 c1 c2 ov tr vout vs r tl v2 v3 v4 v5 v6) (v:Value):WL w0 (w.setCell ⟨h,6,none⟩ v) g h n ss A0 A1 A2 c0 c1 c2 ov tr vout vs r tl v2 v3 v4 v5 v:=by
 have hne:=L.ne
 refine ⟨L.K.setCell (fun e=>by have:h < w0.heap.size:=e;omega) _,L.F.far (p:=⟨h,6,none⟩) hne _,L.B.set_ 6 _,?_⟩
 exact ⟨Kn.Rw.move (fun k hk=>Below.heap_setCell _ _ _ _ (fun e=>own_not L.C.s L.B (by decide) (by rw [←show k=h from e];exact hk))) (fun _ h=>h.elim) L.C.s,
  Kn.Rw.move (fun k hk=>Below.heap_setCell _ _ _ _ (fun e=>own_not L.C.l L.B (by decide) (by rw [←show k=h from e];exact hk))) (fun _ h=>h.elim) L.C.l,
  Kn.Rw.move (fun k hk=>Below.heap_setCell _ _ _ _ (fun e=>own_not L.C.c L.B (by decide) (by rw [←show k=h from e];exact hk))) (fun _ h=>h.elim) L.C.c,
  Kn.Rw.move (fun k hk=>Below.heap_setCell _ _ _ _ (fun e=>own_not L.C.p L.B (by decide) (by rw [←show k=h from e];exact hk))) (fun _ h=>h.elim) L.C.p,L.C.os,L.C.ol,L.C.oc,L.C.op⟩
theorem WL.bAt {α:Type} {d:Kn α} {e:Nat} {v:Value} {xs:List α} (L:WL w0 w g h n ss A0 A1 A2 c0 c1 c2 ov tr vout vs r tl v2 v3 v4 v5 v6) (hv:d.Rw e w nobody v xs) (he:44≠e) (hb:Below w.heap.size w wa) (hg:wa.grownBy w2 v.ownBlock):Blk w2 h 44 [.int .i64 r.frm,.int .i64 tl,v2,v3,v4,v5,v6,.slice none 0 0] :=
 Blk.eq (hg.block h (Nat.lt_of_lt_of_le L.B.lt hb.size) (fun q=>own_not hv L.B he q.symm)) (L.B.below hb L.B.lt)
theorem WL.rest {α β:Type} {d:Kn α} {d':Kn β} {e e' i:Nat} {v u:Value} {xs:List α} {ys:List β} (L:WL w0 w g h n ss A0 A1 A2 c0 c1 c2 ov tr vout vs r tl v2 v3 v4 v5 v6) (hv:d.Rw e w nobody v xs) (hu:d'.Rw e' w nobody u ys) (he:e≠e') (he':44≠e') (hb:Below w.heap.size w wa) (hg:wa.grownBy w2 v.ownBlock):d'.Rw e' (w2.setCell ⟨h,i,none⟩ v') nobody u ys :=
 Kn.Rw.move (fun k hk=>by
  have hlt:=hu.lt k hk
  rw [Below.heap_setCell _ _ _ _ (fun q=>own_not hu L.B he' (by rw [←show k=h from q];exact hk)),hg.block k (Nat.lt_of_lt_of_le hlt hb.size) (fun q=>own_apart hv hu he q.symm hk),hb.block k hlt]) (fun _ h=>h.elim) hu
theorem WL.core {α:Type} {d:Kn α} {e i:Nat} {v:Value} {xs:List α} (hh:w0.heap.size≤h) (L:WL w0 w g h n ss A0 A1 A2 c0 c1 c2 ov tr vout vs r tl v2 v3 v4 v5 v6) (hv:d.Rw e w nobody v xs) (hvo:∀b,v.ownBlock=some b→w0.heap.size≤b) (he:84≠e) (hb:Below w.heap.size w wa) (hg:wa.grownBy w2 v.ownBlock) :
  Keep (fun b=>b=g) w0 (w2.setCell ⟨h,i,none⟩ v')∧Blk (w2.setCell ⟨h,i,none⟩ v') g 84 (finder n A0 A1 c0 c1 (.slice A2 ss.length c2) ov vout tr vs):=by
 refine ⟨((L.K.below hb).grown hg (fun k hk hlt=>?_)).setCell (fun q=>?_) _,?_⟩
 ·have:=hvo k hk
  omega
 ·have:h < w0.heap.size:=q
  omega
 ·exact (Blk.eq (hg.block g (Nat.lt_of_lt_of_le L.F.lt hb.size) (fun q=>own_not hv L.F he q.symm)) (L.F.below hb L.F.lt)).far (p:=⟨h,i,none⟩) L.ne _
theorem own_above {v:Value} {B s:Nat} (h:∀b,v.ownBlock=some b→B≤b) (ha:v'.ownBlock=v.ownBlock∨v'.ownBlock=some s) (hs:B≤s):∀b,v'.ownBlock=some b→B≤b:=own_next h ha hs
theorem WL.gAt {α:Type} {d:Kn α} {e:Nat} {v:Value} {xs:List α} (L:WL w0 w g h n ss A0 A1 A2 c0 c1 c2 ov tr vout vs r tl v2 v3 v4 v5 v6) (hv:d.Rw e w nobody v xs) (he:84≠e) (hb:Below w.heap.size w wa) (hg:wa.grownBy w2 v.ownBlock):Blk w2 g 84 (finder n A0 A1 c0 c1 (.slice A2 ss.length c2) ov vout tr vs) :=
 Blk.eq (hg.block g (Nat.lt_of_lt_of_le L.F.lt hb.size) (fun q=>own_not hv L.F he q.symm)) (L.F.below hb L.F.lt)
theorem WL.step (hh:w0.heap.size≤h) (L:WL w0 w g h n ss A0 A1 A2 c0 c1 c2 ov tr vout vs r tl v2 v3 v4 v5 v6) (hb:Below w.heap.size w wa) (hg:wa.grownBy w2 v2.ownBlock) {x:Step} (hR:stepK.Rw 46 w2 nobody v' (r.steps++[x])) (ha:v'.ownBlock=v2.ownBlock∨v'.ownBlock=some wa.heap.size) :
  WL w0 (w2.setCell ⟨h,2,none⟩ v') g h n ss A0 A1 A2 c0 c1 c2 ov tr vout vs { r with steps:=r.steps++[x] } tl v' v3 v4 v5 v6:=by
 obtain ⟨k1,k2⟩:=L.core (i:=2) (v':=v') hh L.C.s L.C.os (by decide) hb hg
 have hB:=L.bAt L.C.s (by decide) hb hg
 have hs:w0.heap.size≤wa.heap.size:=Nat.le_trans L.K.size hb.size
 exact ⟨k1,k2,hB.set_ 2 _,⟨Kn.Rw.move (fun k hk=>Below.heap_setCell _ _ _ _ (fun e=>own_not hR hB (by decide) (by rw [←show k=h from e];exact hk))) (fun _ h=>h.elim) hR,L.rest L.C.s L.C.l (by decide) (by decide) hb hg,L.rest L.C.s L.C.c (by decide) (by decide) hb hg,L.rest L.C.s L.C.p (by decide) (by decide) hb hg,own_above L.C.os ha hs,L.C.ol,L.C.oc,L.C.op⟩⟩
theorem WL.part (hh:w0.heap.size≤h) (L:WL w0 w g h n ss A0 A1 A2 c0 c1 c2 ov tr vout vs r tl v2 v3 v4 v5 v6) (hb:Below w.heap.size w wa) (hg:wa.grownBy w2 v5.ownBlock) {x:Part} (hR:partK.Rw 48 w2 nobody v' (r.parts++[x])) (ha:v'.ownBlock=v5.ownBlock∨v'.ownBlock=some wa.heap.size) :
  WL w0 (w2.setCell ⟨h,5,none⟩ v') g h n ss A0 A1 A2 c0 c1 c2 ov tr vout vs { r with parts:=r.parts++[x] } tl v2 v3 v4 v' v6:=by
 obtain ⟨k1,k2⟩:=L.core (i:=5) (v':=v') hh L.C.p L.C.op (by decide) hb hg
 have hB:=L.bAt L.C.p (by decide) hb hg
 have hs:w0.heap.size≤wa.heap.size:=Nat.le_trans L.K.size hb.size
 exact ⟨k1,k2,hB.set_ 5 _,⟨L.rest L.C.p L.C.s (by decide) (by decide) hb hg,L.rest L.C.p L.C.l (by decide) (by decide) hb hg,L.rest L.C.p L.C.c (by decide) (by decide) hb hg,Kn.Rw.move (fun k hk=>Below.heap_setCell _ _ _ _ (fun e=>own_not hR hB (by decide) (by rw [←show k=h from e];exact hk))) (fun _ h=>h.elim) hR,L.C.os,L.C.ol,L.C.oc,own_above L.C.op ha hs⟩⟩
theorem WL.cross (hh:w0.heap.size≤h) (L:WL w0 w g h n ss A0 A1 A2 c0 c1 c2 ov tr vout vs r tl v2 v3 v4 v5 v6) (hb:Below w.heap.size w wa) (hg:wa.grownBy w2 v4.ownBlock) {x:Int} (hR:Kn.int.Rw 3 w2 nobody v' (r.crosses++[x])) (ha:v'.ownBlock=v4.ownBlock∨v'.ownBlock=some wa.heap.size) :
  WL w0 (w2.setCell ⟨h,4,none⟩ v') g h n ss A0 A1 A2 c0 c1 c2 ov tr vout vs { r with crosses:=r.crosses++[x] } tl v2 v3 v' v5 v6:=by
 obtain ⟨k1,k2⟩:=L.core (i:=4) (v':=v') hh L.C.c L.C.oc (by decide) hb hg
 have hB:=L.bAt L.C.c (by decide) hb hg
 have hs:w0.heap.size≤wa.heap.size:=Nat.le_trans L.K.size hb.size
 exact ⟨k1,k2,hB.set_ 4 _,⟨L.rest L.C.c L.C.s (by decide) (by decide) hb hg,L.rest L.C.c L.C.l (by decide) (by decide) hb hg,Kn.Rw.move (fun k hk=>Below.heap_setCell _ _ _ _ (fun e=>own_not hR hB (by decide) (by rw [←show k=h from e];exact hk))) (fun _ h=>h.elim) hR,L.rest L.C.c L.C.p (by decide) (by decide) hb hg,L.C.os,L.C.ol,own_above L.C.oc ha hs,L.C.op⟩⟩
theorem WL.reads {α:Type} {d:Kn α} {e:Nat} {A:Option Addr} {m c:Nat} {xs:List α} (W:WS w0 g n ss A0 A1 A2 c0 c1 c2 ov tr0 vout vs0 rs) (hv:d.Rw e w nobody (.slice A m c) xs) (ho:∀b,(Value.slice A m c).ownBlock=some b→w0.heap.size≤b):d.C w (Out w (WSet g vout)) A xs :=
 Kn.C_mono (fun b hb=>by
  rcases hb with hb | hb
  ·exact hb.elim
  ·have h1:=ho b hb
   exact ⟨hv.lt b hb,fun q=>W.new h1 q⟩) (Rw_slice hv).2.2
theorem CP.to {B B':Nat} (h:CP w B r v2 v3 v4 v5) (hB:B'≤B) (he:∀k,B≤k→k < w.heap.size→w2.heap[k]?=w.heap[k]?):CP w2 B' r v2 v3 v4 v5 :=
 ⟨Kn.Rw.move (fun k hk=>he k (h.os k hk) (h.s.lt k hk)) (fun _ h=>h.elim) h.s,Kn.Rw.move (fun k hk=>he k (h.ol k hk) (h.l.lt k hk)) (fun _ h=>h.elim) h.l,Kn.Rw.move (fun k hk=>he k (h.oc k hk) (h.c.lt k hk)) (fun _ h=>h.elim) h.c,Kn.Rw.move (fun k hk=>he k (h.op k hk) (h.p.lt k hk)) (fun _ h=>h.elim) h.p,
  fun b hb=>Nat.le_trans hB (h.os b hb),fun b hb=>Nat.le_trans hB (h.ol b hb),fun b hb=>Nat.le_trans hB (h.oc b hb),fun b hb=>Nat.le_trans hB (h.op b hb)⟩
theorem WL.copy {x0 x1 x2 x3 x4 x5 x6 x7:Value} (hh:w0.heap.size≤h) (hk:Keep (fun b=>b=g) w0 w) (hf:Blk w g 84 (finder n A0 A1 c0 c1 (.slice A2 ss.length c2) ov vout tr vs)) (hB:Blk w h 44 [x0,x1,x2,x3,x4,x5,x6,x7]) (hb:Below w.heap.size w wa) (hC:CP wa w.heap.size r v2 v3 v4 v5) :
  WL w0 ((((((((wa.setCell ⟨h,0,none⟩ (.int .i64 r.frm)).setCell ⟨h,1,none⟩ (.int .i64 r.til)).setCell ⟨h,2,none⟩ v2).setCell ⟨h,3,none⟩ v3).setCell ⟨h,4,none⟩ v4).setCell ⟨h,5,none⟩ v5).setCell ⟨h,6,none⟩ (.slice none 0 0)).setCell ⟨h,7,none⟩ (.slice none 0 0)) g h n ss A0 A1 A2 c0 c1 c2 ov tr vout vs r r.til v2 v3 v4 v5 (.slice none 0 0):=by
 have hx:h < w0.heap.size→h=g:=fun e=>by omega
 have hl:=hB.lt
 refine ⟨((((((((hk.below hb).setCell hx _).setCell hx _).setCell hx _).setCell hx _).setCell hx _).setCell hx _).setCell hx _).setCell hx _,Blk.eq (set8_far _ _ _ _ _ _ _ _ (hf.apart hB (by decide))) (hf.below hb hf.lt),set8_blk _ _ _ _ _ _ _ _ (hB.below hb hl),hC.to (Nat.le_trans hk.size (Nat.le_refl _)) (fun k hk1 hk2=>set8_far _ _ _ _ _ _ _ _ (by omega))⟩
end
end Go.Proofs.Ytjccgneimknbpaa.L
namespace Go.Proofs.Ytjccgneimknbpaa.L
open Go.RowKit
open Classical
theorem kids_bound {n:Net} {ss:List Signal} {ov:Int} {m:Nat} {R:Route} {x:Joint} {j k:Nat} {l:List End} {st:St} (h1:st.1.length≤301) (h2:st.2≤20300) (hm:m≤201) :
  ∀i,(kidsTo (walkF n ss ov m) R x j k l st i).1.length≤301∧(kidsTo (walkF n ss ov m) R x j k l st i).2≤20300+i
 | 0=>⟨h1,h2⟩
 | i+1=>by
  obtain ⟨a1,a2⟩:=kids_bound (n:=n) (ss:=ss) (ov:=ov) (R:=R) (x:=x) (j:=j) (k:=k) (l:=l) h1 h2 hm i
  cases he:l[i]? with
  | none =>
   rw [kidsTo]
   simp only [he]
   omega
  | some e =>
   cases hq:goOn R x j k i with
   | none =>
    rw [kidsTo_skip he hq]
    omega
   | some q =>
    rw [kidsTo_go he hq]
    refine ⟨walkF_len _ _ _ _ _ _ a1,?_⟩
    have:=walkF_tries (n:=n) (ss:=ss) (ov:=ov) m (kidsTo (walkF n ss ov m) R x j k l st i) q e.piece (wayOf e) 0
    omega
theorem goOn_same {r q:Route} {x:Joint} {j k i:Nat} (h:goOn r x j k i=some q):q.frm=r.frm∧q.til=r.til∧q.steps=r.steps∧q.parts=r.parts∧q.over=r.over∧q.flanks=r.flanks:=by
 unfold goOn at h
 split at h
 ·rw [Option.map_eq_some_iff] at h
  obtain ⟨l,_,rfl⟩:=h
  exact ⟨rfl,rfl,rfl,rfl,rfl,rfl⟩
 split at h
 ·obtain rfl:=Option.some.inj h
  exact ⟨rfl,rfl,rfl,rfl,rfl,rfl⟩
 ·obtain rfl:=Option.some.inj h
  exact ⟨rfl,rfl,rfl,rfl,rfl,rfl⟩
theorem goOn_none {r:Route} {x:Joint} {j k i:Nat} (h3:x.kind=3) (h:addLie r.lies j (lieAt k i)=none):goOn r x j k i=none:=by
 unfold goOn
 rw [if_pos h3,h]
 rfl
theorem goOn_lie {r:Route} {x:Joint} {j k i:Nat} {ls:List Lie} (h3:x.kind=3) (h:addLie r.lies j (lieAt k i)=some ls):goOn r x j k i=some { r with lies:=ls }:=by
 unfold goOn
 rw [if_pos h3,h]
 rfl
theorem goOn_cross {r:Route} {x:Joint} {j k i:Nat} (h4:x.kind=4):goOn r x j k i=some { r with crosses:=r.crosses++[(j:Int)] }:=by
 unfold goOn
 rw [if_neg (by omega),if_pos h4]
theorem goOn_plain {r:Route} {x:Joint} {j k i:Nat} (h3:¬x.kind=3) (h4:¬x.kind=4):goOn r x j k i=some r:=by
 unfold goOn
 rw [if_neg h3,if_neg h4]
theorem way_one {p s:Int} (h:s=1):wayOf ⟨p,s⟩=-1:=by unfold wayOf;rw [if_pos h]
theorem way_zero {p s:Int} (h:s=0):wayOf ⟨p,s⟩=1:=by unfold wayOf;rw [if_neg (by show ¬s=1;omega)]
section
variable {w0 w w1 w2 wa wr wz:World} {g h:Nat} {n:Net} {ss:List Signal} {A0 A1 A2:Option Addr} {c0 c1 c2:Nat} {ov tr tr0:Int} {vout vs vs0 v':Value} {rs:List Route} {r:Route} {tl:Int} {v2 v3 v4 v5 v6:Value}
theorem WL.lies {ls:List Lie} (hh:w0.heap.size≤h) (L:WL w0 w g h n ss A0 A1 A2 c0 c1 c2 ov tr vout vs r tl v2 v3 v4 v5 v6) (hB:Blk w2 h 44 [.int .i64 r.frm,.int .i64 tl,v2,v',v4,v5,v6,.slice none 0 0]) (hR:lieK.Rw 52 w2 nobody v' ls)
  (hk:Keep (fun b=>b=h∨v3.ownBlock=some b) w w2) (hn:Nx v3 v' w.heap.size):WL w0 w2 g h n ss A0 A1 A2 c0 c1 c2 ov tr vout vs { r with lies:=ls } tl v2 v' v4 v5 v6:=by
 have hne:=L.ne
 have hmv:∀b,b < w.heap.size→b≠h→¬v3.ownBlock=some b→w2.heap[b]?=w.heap[b]?:=fun b h1 h2 h3=>hk.block b h1 (fun e=>by
  rcases e with e | e
  ·exact h2 e
  ·exact h3 e)
 refine ⟨L.K.trans hk (fun x hx e=>?_),Blk.eq (hmv g L.F.lt hne (own_not L.C.l L.F (by decide))) L.F,hB,⟨?_,hR,?_,?_,L.C.os,fun b hb=>?_,L.C.oc,L.C.op⟩⟩
 ·rcases e with e | e
  ·omega
  ·have:=L.C.ol x e
   omega
 ·exact Kn.Rw.move (fun k hkk=>hmv k (L.C.s.lt k hkk) (fun e=>own_not L.C.s L.B (by decide) (by rw [←e];exact hkk)) (own_apart L.C.s L.C.l (by decide) hkk)) (fun _ h=>h.elim) L.C.s
 ·exact Kn.Rw.move (fun k hkk=>hmv k (L.C.c.lt k hkk) (fun e=>own_not L.C.c L.B (by decide) (by rw [←e];exact hkk)) (own_apart L.C.c L.C.l (by decide) hkk)) (fun _ h=>h.elim) L.C.c
 ·exact Kn.Rw.move (fun k hkk=>hmv k (L.C.p.lt k hkk) (fun e=>own_not L.C.p L.B (by decide) (by rw [←e];exact hkk)) (own_apart L.C.p L.C.l (by decide) hkk)) (fun _ h=>h.elim) L.C.p
 ·rcases hn b hb with e | e
  ·exact L.C.ol b e
  ·exact Nat.le_trans L.K.size e
theorem CP.at_ {B n2 n3 n4 n5 d2 d3 d4 d5:Nat} {B2 B3 B4 B5:Option Addr} {S:Nat→Prop} (h:CP w B r (.slice B2 n2 d2) (.slice B3 n3 d3) (.slice B4 n4 d4) (.slice B5 n5 d5)) (hk:Keep S w wr) (hS:∀b,B≤b→¬S b) :
  stepK.C wr (fun _=>True) B2 r.steps∧lieK.C wr (fun _=>True) B3 r.lies∧Kn.int.C wr (fun _=>True) B4 r.crosses∧partK.C wr (fun _=>True) B5 r.parts:=by
 refine ⟨Kn.C_mono (fun _ _=>trivial) (Kn.C_move (fun b hb=>?_) (Rw_slice h.s).2.2),Kn.C_mono (fun _ _=>trivial) (Kn.C_move (fun b hb=>?_) (Rw_slice h.l).2.2),Kn.C_mono (fun _ _=>trivial) (Kn.C_move (fun b hb=>?_) (Rw_slice h.c).2.2),Kn.C_mono (fun _ _=>trivial) (Kn.C_move (fun b hb=>?_) (Rw_slice h.p).2.2)⟩
 ·rcases hb with hb | hb
  ·exact hb.elim
  ·exact hk.block b (h.s.lt b hb) (hS b (h.os b hb))
 ·rcases hb with hb | hb
  ·exact hb.elim
  ·exact hk.block b (h.l.lt b hb) (hS b (h.ol b hb))
 ·rcases hb with hb | hb
  ·exact hb.elim
  ·exact hk.block b (h.c.lt b hb) (hS b (h.oc b hb))
 ·rcases hb with hb | hb
  ·exact hb.elim
  ·exact hk.block b (h.p.lt b hb) (hS b (h.op b hb))
theorem WL.box {B:Nat} (W:WS wr g n ss A0 A1 A2 c0 c1 c2 ov tr vout vs rs) (hb:Below wr.heap.size wr wa) (hC:CP wa B r v2 v3 v4 v5) (hB:wr.heap.size≤B) :
  WL wr (wa.alloc (.cells #[.int .i64 r.frm,.int .i64 r.til,v2,v3,v4,v5,.slice none 0 0,.slice none 0 0] 44)) g wa.heap.size n ss A0 A1 A2 c0 c1 c2 ov tr vout vs r r.til v2 v3 v4 v5 (.slice none 0 0):=by
 have hba:=hb.alloc hb.size (Obj.cells #[.int .i64 r.frm,.int .i64 r.til,v2,v3,v4,v5,.slice none 0 0,.slice none 0 0] 44)
 have hC2:=hC.below (below_alloc wa (.cells #[.int .i64 r.frm,.int .i64 r.til,v2,v3,v4,v5,.slice none 0 0,.slice none 0 0] 44))
 exact ⟨Keep.of_below hba,W.f.below hba W.f.lt,Blk.new _ _ _ rfl,⟨hC2.s,hC2.l,hC2.c,hC2.p,fun b hb=>Nat.le_trans hB (hC2.os b hb),fun b hb=>Nat.le_trans hB (hC2.ol b hb),fun b hb=>Nat.le_trans hB (hC2.oc b hb),fun b hb=>Nat.le_trans hB (hC2.op b hb)⟩⟩
theorem kid_mem {v0 v1 v2:Value} (h1:Keep (WSet g v0) w wr) (h2:Keep (fun b=>b=g) wr wa) (h3:Keep (WSet g v1) wa wz) (n1:Nx v0 v1 w.heap.size) (n2:Nx v1 v2 wa.heap.size):Keep (WSet g v0) w wz∧Nx v0 v2 w.heap.size :=
 ⟨(h1.trans h2 (fun x _ e=>.inl e)).trans h3 (WSet.next n1),n1.trans n2 (Nat.le_trans h1.size h2.size)⟩
end
end Go.Proofs.Ytjccgneimknbpaa.L
