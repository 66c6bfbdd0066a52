/- The law FnNeeds, walked: it answers true. -/
import Derived.Test.YtjccgneimknbpaaNc
import Derived.Deep.CutBlock
set_option linter.unusedVariables false
set_option linter.unusedSimpArgs false
namespace Go.Proofs.Ytjccgneimknbpaa.L
open Go.RowKit
theorem stepK_p0 {x:Step} {z:Int}:∀(w:World) (cs:List Value),stepK.K w nobody x cs→stepK.K w nobody { x with piece:=z } (cs.set 0 (.int .i64 z)):=fun w cs h=>by rw [stepK_open h];exact stepK_mk _ _ { x with piece:=z }
theorem lieK_p1 {x:Lie} {z:Int}:∀(w:World) (cs:List Value),lieK.K w nobody x cs→lieK.K w nobody { x with lie:=z } (cs.set 1 (.int .i64 z)):=fun w cs h=>by rw [lieK_open h];exact lieK_mk _ _ { x with lie:=z }
theorem partK_p2 {x:Part} {z:Int}:∀(w:World) (cs:List Value),partK.K w nobody x cs→partK.K w nobody { x with til:=z } (cs.set 2 (.int .i64 z)):=fun w cs h=>by rw [partK_open h];exact partK_mk _ _ { x with til:=z }
theorem flankK_p1 {x:Flank} {z:Int}:∀(w:World) (cs:List Value),flankK.K w nobody x cs→flankK.K w nobody { x with kind:=z } (cs.set 1 (.int .i64 z)):=fun w cs h=>by rw [flankK_open h];exact flankK_mk _ _ { x with kind:=z }
theorem Rw_val {α:Type} {d:Kn α} {e b N c j:Nat} {w:World} {ok:Nat→Prop} {xs:List α} {x:α} (h:d.Rw e w ok (.slice (some ⟨b,0,none⟩) N c) xs) (hx:xs[j]?=some x):∃cs,d.K w ok x cs∧∀f u,cs[f]?=some u→w.cell? ⟨b,j*d.sz+f,none⟩=some u:=by
 have hn:=(Rw_slice h).1
 subst hn
 obtain ⟨inner,ho,hi⟩:=h
 exact ⟨_,hi j x hx,fun f u hu=>row_cell ho hu⟩
theorem RCkeep {w w':World} {B:Nat} {x:Route} {A2 A3 A4 A5 A6 A7:Option Addr} (h:RC w (fun b=>b < B) x A2 A3 A4 A5 A6 A7) (hk:Keep (fun b=>b=B) w w'):RC w' (fun b=>b < B) x A2 A3 A4 A5 A6 A7:=by
 have mv:∀{α:Type} {d:Kn α} {A:Option Addr} {xs:List α},d.C w (fun b=>b < B) A xs→d.C w' (fun b=>b < B) A xs:=fun hC=>Kn.C_mono (fun b hb=>hb.1) (Kn.C_move (fun b hb=>hk.block b hb.2 (fun e=>by have:=hb.1;omega)) (Kn.C_bound hC))
 exact ⟨mv h.h2,mv h.h3,mv h.h4,mv h.h5,mv h.h6,mv h.h7⟩
theorem RCkeepq {w w':World} {B q:Nat} {x:Route} {A2 A3 A4 A5 A6 A7:Option Addr} (h:RC w (fun b=>B≤b∧¬b=q) x A2 A3 A4 A5 A6 A7) (hk:Keep (fun b=>b=q) w w'):RC w' (fun b=>B≤b) x A2 A3 A4 A5 A6 A7:=by
 have mv:∀{α:Type} {d:Kn α} {A:Option Addr} {xs:List α},d.C w (fun b=>B≤b∧¬b=q) A xs→d.C w' (fun b=>B≤b) A xs:=fun hC=>Kn.C_mono (fun b hb=>hb.1.1) (Kn.C_move (fun b hb=>hk.block b hb.2 hb.1.2) (Kn.C_bound hC))
 exact ⟨mv h.h2,mv h.h3,mv h.h4,mv h.h5,mv h.h6,mv h.h7⟩
set_option maxRecDepth 100000 in
set_option maxHeartbeats 16000000 in
theorem drBend {ok:Nat→Prop} (r:Route) (A2 A3 A4 A5 A6 A7:Option Addr) (c2 c3 c4 c5 c6 c7:Nat) (w:World) (g k Bb:Nat) (h:RC w ok r A2 A3 A4 A5 A6 A7) (hrs:r.steps.length≤201∧r.lies.length≤201∧r.crosses.length≤201∧r.parts.length≤201∧r.over.length≤100000∧r.flanks.length≤40200) (hc:Hid (Cb w g k Bb)) (hB:Bb≤w.heap.size) (hk:k≤1125899906810000) :
  Calls Try.prog 48 #[.pointer (some ⟨g,0,none⟩),.agg #[.int .i64 r.frm,.int .i64 r.til,.slice A2 r.steps.length c2,.slice A3 r.lies.length c3,.slice A4 r.crosses.length c4,.slice A5 r.parts.length c5,.slice A6 r.over.length c6,.slice A7 r.flanks.length c7]] w (RetBe g (k+10) Bb w):=by
 have hgw:=hc.out.lt
 obtain ⟨r2,r3,r4,r5,r6,r7⟩:=hrs
 have HR:Hid (RC w (fun b=>b < w.heap.size) r A2 A3 A4 A5 A6 A7):=Lib.hid ⟨Kn.C_mono (fun b hb=>hb.2) (Kn.C_bound h.h2),Kn.C_mono (fun b hb=>hb.2) (Kn.C_bound h.h3),Kn.C_mono (fun b hb=>hb.2) (Kn.C_bound h.h4),Kn.C_mono (fun b hb=>hb.2) (Kn.C_bound h.h5),Kn.C_mono (fun b hb=>hb.2) (Kn.C_bound h.h6),Kn.C_mono (fun b hb=>hb.2) (Kn.C_bound h.h7)⟩
 clear h
 obtain ⟨iP,hiP,hzP,hyP,hxP⟩:=info_parts info48
 obtain ⟨iF,hiF,hzF,hyF,hxF⟩:=info_parts info50
 obtain ⟨iI,hiI,hzI,hyI,hxI⟩:=info_parts info3
 go_enter Try.func48,Try.ntmps48
 go_upto_region 1 with (fail)
 obtain ⟨W1,hW1,hWs,hb1,HBh,HBq⟩:∃W,W=(w.alloc (.cells #[.int .i64 r.frm,.int .i64 r.til,.slice A2 r.steps.length c2,.slice A3 r.lies.length c3,.slice A4 r.crosses.length c4,.slice A5 r.parts.length c5,.slice A6 r.over.length c6,.slice A7 r.flanks.length c7] 44)).alloc (.cells #[.int .i64 0,.int .i64 0,.slice none 0 0,.slice none 0 0,.slice none 0 0,.slice none 0 0,.slice none 0 0,.slice none 0 0] 44)∧Hid (W.heap.size=w.heap.size+2)∧Hid (Below w.heap.size w W)∧Hid (Blk W w.heap.size 44 [.int .i64 r.frm,.int .i64 r.til,.slice A2 r.steps.length c2,.slice A3 r.lies.length c3,.slice A4 r.crosses.length c4,.slice A5 r.parts.length c5,.slice A6 r.over.length c6,.slice A7 r.flanks.length c7])∧Hid (Blk W (w.heap.size+1) 44 zeroR):=by
  refine ⟨_,rfl,Lib.hid (by rw [size_alloc,size_alloc]),Lib.hid ((below_alloc _ _).alloc (by rw [size_alloc];omega) _),Lib.hid ((Blk.new w 44 [.int .i64 r.frm,.int .i64 r.til,.slice A2 r.steps.length c2,.slice A3 r.lies.length c3,.slice A4 r.crosses.length c4,.slice A5 r.parts.length c5,.slice A6 r.over.length c6,.slice A7 r.flanks.length c7] rfl).alloc _),Lib.hid (Blk.new _ 44 zeroR (by rw [size_alloc]))⟩
 rw [←hW1]
 clear hW1
 have HR1:=Lib.hid (HR.out.below hb1.out)
 have s0:=HBh.out.cell 0 rfl
 have s1:=HBh.out.cell 1 rfl
 have s2:=HBh.out.cell 2 rfl
 have s3:=HBh.out.cell 3 rfl
 have s4:=HBh.out.cell 4 rfl
 have s5:=HBh.out.cell 5 rfl
 have s6:=HBh.out.cell 6 rfl
 have s7:=HBh.out.cell 7 rfl
 have hz0:w.heap.size < W1.heap.size:=HBh.out.lt
 go_wp2_with fail
 refine (specCopy r A2 A3 A4 A5 c2 c3 c4 c5 A6 A7 r.over.length r.flanks.length c6 c7 W1 HR1.out.h2 HR1.out.h3 HR1.out.h4 HR1.out.h5 (by omega)).mono ?_
 rintro e w2 ⟨B2,B3,B4,B5,d2,d3,d4,d5,rfl,HCP,HB2⟩
 have HCP:=Lib.hid HCP
 have HB2:=Lib.hid HB2
 have HBh2:=Lib.hid (HBh.out.below HB2.out HBh.out.lt)
 have HBq2:=Lib.hid (HBq.out.below HB2.out HBq.out.lt)
 have HR2:=Lib.hid (HR1.out.below HB2.out)
 have u0:=HBh2.out.frozen 0
 have u1:=HBh2.out.frozen 1
 have u2:=HBh2.out.frozen 2
 have u3:=HBh2.out.frozen 3
 have u4:=HBh2.out.frozen 4
 have u5:=HBh2.out.frozen 5
 have u6:=HBh2.out.frozen 6
 have u7:=HBh2.out.frozen 7
 have s0:=HBh2.out.cell 0 rfl
 have s1:=HBh2.out.cell 1 rfl
 have s2:=HBh2.out.cell 2 rfl
 have s3:=HBh2.out.cell 3 rfl
 have s4:=HBh2.out.cell 4 rfl
 have s5:=HBh2.out.cell 5 rfl
 have s6:=HBh2.out.cell 6 rfl
 have s7:=HBh2.out.cell 7 rfl
 have hz2:w.heap.size < w2.heap.size:=HBh2.out.lt
 go_upto_region 2 with (fail)
 obtain ⟨W3,hW3,HKW3,HBhW3⟩:∃W,W=((((((((w2.setCell ⟨w.heap.size,0,none⟩ (.int .i64 r.frm)).setCell ⟨w.heap.size,1,none⟩ (.int .i64 r.til)).setCell ⟨w.heap.size,2,none⟩ (.slice B2 r.steps.length d2)).setCell ⟨w.heap.size,3,none⟩ (.slice B3 r.lies.length d3)).setCell ⟨w.heap.size,4,none⟩ (.slice B4 r.crosses.length d4)).setCell ⟨w.heap.size,5,none⟩ (.slice B5 r.parts.length d5)).setCell ⟨w.heap.size,6,none⟩ (.slice A6 r.over.length c6)).setCell ⟨w.heap.size,7,none⟩ (.slice A7 r.flanks.length c7))∧Hid (Keep (fun b=>b=w.heap.size) w2 W)∧Hid (Blk W w.heap.size 44 [.int .i64 r.frm,.int .i64 r.til,.slice B2 r.steps.length d2,.slice B3 r.lies.length d3,.slice B4 r.crosses.length d4,.slice B5 r.parts.length d5,.slice A6 r.over.length c6,.slice A7 r.flanks.length c7]):=⟨_,rfl,Lib.hid (((((((((Keep.refl (fun b=>b=w.heap.size) w2).setCell (p:=⟨w.heap.size,0,none⟩) (fun _=>rfl) _).setCell (p:=⟨w.heap.size,1,none⟩) (fun _=>rfl) _).setCell (p:=⟨w.heap.size,2,none⟩) (fun _=>rfl) _).setCell (p:=⟨w.heap.size,3,none⟩) (fun _=>rfl) _).setCell (p:=⟨w.heap.size,4,none⟩) (fun _=>rfl) _).setCell (p:=⟨w.heap.size,5,none⟩) (fun _=>rfl) _).setCell (p:=⟨w.heap.size,6,none⟩) (fun _=>rfl) _).setCell (p:=⟨w.heap.size,7,none⟩) (fun _=>rfl) _),Lib.hid (set8_blk _ _ _ _ _ _ _ _ HBh2.out)⟩
 rw [←hW3]
 clear hW3 s0 s1 s2 s3 s4 s5 s6 s7 u0 u1 u2 u3 u4 u5 u6 u7 hz2 hz0
 have HRW3:Hid (RC W3 (fun b=>b < w.heap.size) r A2 A3 A4 A5 A6 A7):=Lib.hid (RCkeep HR2.out HKW3.out)
 have HBqW3:=Lib.hid (HBq2.out.keep HKW3.out (by omega))
 have E0:Hid (flankK.Rw 50 (W3.alloc (.cells #[] 50)) nobody (.slice (some ⟨W3.heap.size,0,none⟩) 0 0) []):=Lib.hid (Rw_empty (Blk.new W3 50 [] rfl))
 have S0:Hid (Kn.Src flankK (W3.alloc (.cells #[] 50)) nobody A7 r.flanks):=Lib.hid (Kn.Src.flat flankK_flat (Kn.C_below (below_alloc _ _) HRW3.out.h7))
 have m5:([]:List Flank).length+r.flanks.length≤maxLen:=by simp only [maxLen,List.length_nil];omega
 have k5:(([]:List Flank).length+r.flanks.length)*32≤140737488355328:=by simp only [List.length_nil];omega
 have x7:=HBhW3.out.cell 7 rfl
 have hz3:w.heap.size < W3.heap.size:=HBhW3.out.lt
 go_upto_region 3 with (at_builtin;refine wpList_append_rw _ rfl (.tmp 7) (.tmp 9) 42 rfl 50 iF _ 32 Try.underlying42 hiF hzF hyF hxF rfl (by decide) (.slice (some ⟨W3.heap.size,0,none⟩) 0 0) [] r.flanks rfl E0.out (fun _ h=>h.elim) A7 r.flanks.length c7 rfl rfl S0.out m5 k5 ?_;intro v' w4 HRn hg hat;rw [List.nil_append] at HRn;obtain ⟨B7,d7,rfl,hd7,_⟩:=HRn.form;obtain ⟨hb4,_,_⟩:=cp_step (Below.refl W3.heap.size W3) hg;have y3:Hid (Blk w4 w.heap.size 44 [.int .i64 r.frm,.int .i64 r.til,.slice B2 r.steps.length d2,.slice B3 r.lies.length d3,.slice B4 r.crosses.length d4,.slice B5 r.parts.length d5,.slice A6 r.over.length c6,.slice A7 r.flanks.length c7]):=Lib.hid (HBhW3.out.below hb4 HBhW3.out.lt);have z1:=y3.out.cell 7 rfl;have z2:=y3.out.frozen 7;have z3:w.heap.size < w4.heap.size:=y3.out.lt)
 obtain ⟨W5,hW5,HKW5,HBhW5,HNf,HOf⟩:∃W,W=w4.setCell ⟨w.heap.size,7,none⟩ (.slice B7 r.flanks.length d7)∧Hid (Keep (fun b=>b=w.heap.size) W3 W)∧Hid (Blk W w.heap.size 44 [.int .i64 r.frm,.int .i64 r.til,.slice B2 r.steps.length d2,.slice B3 r.lies.length d3,.slice B4 r.crosses.length d4,.slice B5 r.parts.length d5,.slice A6 r.over.length c6,.slice B7 r.flanks.length d7])∧Hid (flankK.Rw 50 W nobody (.slice B7 r.flanks.length d7) r.flanks)∧Hid (∀b,(Value.slice B7 r.flanks.length d7).ownBlock=some b→W3.heap.size≤b):=by
  refine ⟨_,rfl,Lib.hid ((Keep.of_below (S:=fun b=>b=w.heap.size) hb4).setCell (p:=⟨w.heap.size,7,none⟩) (fun _=>rfl) _),Lib.hid (y3.out.set_ 7 _),Lib.hid (Kn.Rw.move (fun k hk=>Below.heap_setCell _ _ _ _ (fun e=>own_not HRn y3.out (by decide) (by rw [←show k=w.heap.size from e];exact hk))) (fun _ h=>h.elim) HRn),Lib.hid (fun b hb=>?_)⟩
  rcases hat with hat | hat
  ·have:W3.heap.size=b:=Option.some.inj (hat.symm.trans hb)
   omega
  ·have:(W3.alloc (.cells #[] 50)).heap.size=b:=Option.some.inj (hat.symm.trans hb)
   rw [size_alloc] at this
   omega
 rw [←hW5]
 clear hW5 E0 S0 m5 k5 x7 z1 z2 y3 HRn hg hat hb4 hz3 z3
 have HRW5:Hid (RC W5 (fun b=>b < w.heap.size) r A2 A3 A4 A5 A6 A7):=Lib.hid (RCkeep HRW3.out HKW5.out)
 have HBqW5:=Lib.hid (HBqW3.out.keep HKW5.out (by omega))
 have E0:Hid (partK.Rw 48 (W5.alloc (.cells #[] 48)) nobody (.slice (some ⟨W5.heap.size,0,none⟩) 0 0) []):=Lib.hid (Rw_empty (Blk.new W5 48 [] rfl))
 have S0:Hid (Kn.Src partK (W5.alloc (.cells #[] 48)) nobody A6 r.over):=Lib.hid (Kn.Src.flat partK_flat (Kn.C_below (below_alloc _ _) HRW5.out.h6))
 have m5:([]:List Part).length+r.over.length≤maxLen:=by simp only [maxLen,List.length_nil];omega
 have k5:(([]:List Part).length+r.over.length)*24≤140737488355328:=by simp only [List.length_nil];omega
 have x7:=HBhW5.out.cell 6 rfl
 have hz3:w.heap.size < W5.heap.size:=HBhW5.out.lt
 go_upto_region 4 with (at_builtin;refine wpList_append_rw _ rfl (.tmp 12) (.tmp 14) 41 rfl 48 iP _ 24 Try.underlying41 hiP hzP hyP hxP rfl (by decide) (.slice (some ⟨W5.heap.size,0,none⟩) 0 0) [] r.over rfl E0.out (fun _ h=>h.elim) A6 r.over.length c6 rfl rfl S0.out m5 k5 ?_;intro v' w4 HRn hg hat;rw [List.nil_append] at HRn;obtain ⟨B6,d6,rfl,hd7,_⟩:=HRn.form;obtain ⟨hb4,_,_⟩:=cp_step (Below.refl W5.heap.size W5) hg;have y3:Hid (Blk w4 w.heap.size 44 [.int .i64 r.frm,.int .i64 r.til,.slice B2 r.steps.length d2,.slice B3 r.lies.length d3,.slice B4 r.crosses.length d4,.slice B5 r.parts.length d5,.slice A6 r.over.length c6,.slice B7 r.flanks.length d7]):=Lib.hid (HBhW5.out.below hb4 HBhW5.out.lt);have z1:=y3.out.cell 6 rfl;have z2:=y3.out.frozen 6;have z3:w.heap.size < w4.heap.size:=y3.out.lt)
 obtain ⟨W7,hW7,HKW7,HBhW7,HNo,HOo⟩:∃W,W=w4.setCell ⟨w.heap.size,6,none⟩ (.slice B6 r.over.length d6)∧Hid (Keep (fun b=>b=w.heap.size) W5 W)∧Hid (Blk W w.heap.size 44 [.int .i64 r.frm,.int .i64 r.til,.slice B2 r.steps.length d2,.slice B3 r.lies.length d3,.slice B4 r.crosses.length d4,.slice B5 r.parts.length d5,.slice B6 r.over.length d6,.slice B7 r.flanks.length d7])∧Hid (partK.Rw 48 W nobody (.slice B6 r.over.length d6) r.over)∧Hid (∀b,(Value.slice B6 r.over.length d6).ownBlock=some b→W5.heap.size≤b):=by
  refine ⟨_,rfl,Lib.hid ((Keep.of_below (S:=fun b=>b=w.heap.size) hb4).setCell (p:=⟨w.heap.size,6,none⟩) (fun _=>rfl) _),Lib.hid (y3.out.set_ 6 _),Lib.hid (Kn.Rw.move (fun k hk=>Below.heap_setCell _ _ _ _ (fun e=>own_not HRn y3.out (by decide) (by rw [←show k=w.heap.size from e];exact hk))) (fun _ h=>h.elim) HRn),Lib.hid (fun b hb=>?_)⟩
  rcases hat with hat | hat
  ·have:W5.heap.size=b:=Option.some.inj (hat.symm.trans hb)
   omega
  ·have:(W5.alloc (.cells #[] 48)).heap.size=b:=Option.some.inj (hat.symm.trans hb)
   rw [size_alloc] at this
   omega
 rw [←hW7]
 clear hW7 E0 S0 m5 k5 x7 z1 z2 y3 HRn hg hat hb4 hz3 z3
 have HRW7:Hid (RC W7 (fun b=>b < w.heap.size) r A2 A3 A4 A5 A6 A7):=Lib.hid (RCkeep HRW5.out HKW7.out)
 have HBqW7:=Lib.hid (HBqW5.out.keep HKW7.out (by omega))
 have hW1s:=hWs.out
 have hsW2:=HB2.out.size
 have hsW3:=HKW3.out.size
 have hsW5:=HKW5.out.size
 have HK37:Hid (Keep (fun b=>b=w.heap.size) w2 W7):=Lib.hid ((HKW3.out.trans HKW5.out (fun _ _ e=>e)).trans HKW7.out (fun _ _ e=>e))
 have HN:Hid (BN w W7 w.heap.size (w.heap.size+1) g k Bb r (.slice B2 r.steps.length d2) (.slice B3 r.lies.length d3) (.slice B4 r.crosses.length d4) (.slice B5 r.parts.length d5) (.slice B6 r.over.length d6) (.slice B7 r.flanks.length d7)):=Lib.hid
  ⟨HBhW7.out,HBqW7.out,HCP.out.s.grownK HK37.out (fun b hb e=>by have:=HCP.out.os b hb;omega) (fun _ e=>e.elim),HCP.out.l.grownK HK37.out (fun b hb e=>by have:=HCP.out.ol b hb;omega) (fun _ e=>e.elim),HCP.out.c.grownK HK37.out (fun b hb e=>by have:=HCP.out.oc b hb;omega) (fun _ e=>e.elim),HCP.out.p.grownK HK37.out (fun b hb e=>by have:=HCP.out.op b hb;omega) (fun _ e=>e.elim),HNo.out,HNf.out.grownK HKW7.out (fun b hb e=>by have:=HOf.out b hb;omega) (fun _ e=>e.elim),
   fun b hb=>by have:=HCP.out.os b hb;omega,fun b hb=>by have:=HCP.out.ol b hb;omega,fun b hb=>by have:=HCP.out.oc b hb;omega,fun b hb=>by have:=HCP.out.op b hb;omega,fun b hb=>by have:=HOo.out b hb;omega,fun b hb=>by have:=HOf.out b hb;omega,
   fun b hb hb'=>by have h1:=HOo.out b hb';have h2:=HCP.out.p.lt b hb;omega,by omega,Nat.le_refl _,by omega,hgw,hB,((hc.out.below hb1.out).below HB2.out).keep HK37.out (by omega) (fun b hb _ e=>by omega),(Keep.of_below (hb1.out.trans (HB2.out.mono hb1.out.size))).trans HK37.out (fun b hb e=>by omega)⟩
 clear HCP HNo HNf HOo HOf HK37 HKW3 HKW5 HKW7 HBhW3 HBhW5 HBhW7 HBqW3 HBqW5 HBqW7 HRW3 HRW5 HRW7 HR2 HR1 HR HBh HBq HBh2 HBq2 HB2 hW1s hsW2 hsW3 hsW5
 go_wp2_with fail
 refine (curPick 9 8 g k Bb _ (Lib.hid HN.out.cu) (by omega) (by omega) (by omega) (by omega)).mono ?_
 rintro e w4 ⟨v,rfl,HV,HC4,HK4⟩
 have H4:=Lib.hid (HN.out.cursor HK4.out HC4.out)
 have hv0:=HV.out.1
 have hv8:=HV.out.2
 clear HN HV HC4 HK4
 go_upto_block 0 with (fail)
 go_cut [] (fun wc=>∃(r':Route) (E2 E3 E4 E5 E6 E7:Option Addr) (x2 x3 x4 x5 x6 x7:Nat),Hid (r'.n≤200000)∧Hid (BF w wc w.heap.size (w.heap.size+1) g (k+10) Bb r' E2 E3 E4 E5 E6 E7 x2 x3 x4 x5 x6 x7))
 case first =>
  have hvv:v=0∨v=1∨v=2∨v=3∨v=4∨v=5∨v=6∨v=7∨v=8:=by omega
  have HRN:Hid (r.n≤190000):=Lib.hid (by unfold Route.n;omega)
  rcases hvv with rfl | rfl | rfl | rfl | rfl | rfl | rfl | rfl | rfl
  ·have f1:=H4.out.f.frozen 1
   go_wp2_with fail
   refine (curPick 5 4 g (k+2) Bb _ (Lib.hid H4.out.cu) (by omega) (by omega) (by omega) (by omega)).mono ?_
   rintro e w5 ⟨z0,rfl,HV5,HC5,HK5⟩
   have za:=HV5.out.1
   have zb:=HV5.out.2
   obtain ⟨z,hz⟩:∃z,Hid (z0 - 1=z):=⟨_,Lib.hid rfl⟩
   have wz:IntKind.i64.wrap (z0 - 1)=z:=by rw [←hz.out,IntKind.wrap_i64];omega
   have H5:=Lib.hid (H4.out.cursor HK5.out HC5.out)
   have c1:=H5.out.f.cell 1 rfl
   have f1:=H5.out.f.frozen 1
   have hzh:w.heap.size < w5.heap.size:=H5.out.f.lt
   have HFN:=Lib.hid (H5.out.put1 (z:=z))
   have HNN:Hid (Route.n { r with til:=z }≤200000):=Lib.hid (by have:=HRN.out;unfold Route.n at this ⊢;simp only;omega)
   clear H4 H5 HC5 HK5 HV5
   go_wp2
   go_meet
   case rel=>exact ⟨_,_,_,_,_,_,_,_,_,_,_,_,_,HNN,Lib.hid (HFN.out.later (by omega)).fin⟩
  ·by_cases hl0:0 < r.steps.length
   rotate_left
   ·have dl1:decide ((0:Int) < (r.steps.length:Int))=false:=decide_eq_false (by omega)
    have dl2:decide (0 < r.steps.length)=false:=decide_eq_false hl0
    have s0:=H4.out.f.cell 2 rfl
    have hzh:w.heap.size < w4.heap.size:=H4.out.f.lt
    have HNN:Hid (r.n≤200000):=Lib.hid (by have:=HRN.out;omega)
    go_wp2
    go_meet
    case rel=>exact ⟨_,_,_,_,_,_,_,_,_,_,_,_,_,HNN,Lib.hid (H4.out.later (by omega)).fin⟩
   have dl1:decide ((0:Int) < (r.steps.length:Int))=true:=decide_eq_true (by omega)
   have dl2:decide (0 < r.steps.length)=true:=decide_eq_true hl0
   obtain ⟨b0,rfl⟩:=Rw_addr H4.out.s hl0
   have s0:=H4.out.f.cell 2 rfl
   have hzh:w.heap.size < w4.heap.size:=H4.out.f.lt
   go_upto_region 10 with (fail)
   refine Rg.start 9 (fun w'=>w'.cell? ⟨w.heap.size,2,none⟩=some (.slice (some ⟨b0,0,none⟩) r.steps.length d2)) 12 rfl (by kernel_rfl) ?_
   have hHeld:w4.drew.cell? ⟨w.heap.size,2,none⟩=some (.slice (some ⟨b0,0,none⟩) r.steps.length d2):=s0
   refine Rg.p 0 hHeld (h:=?_)
   simp only [Act.put,List.setIfInBounds_toArray,List.set_cons_zero,List.set_cons_succ]
   refine Rg.h 1 hHeld (h:=?_)
   simp only [Act.put,List.setIfInBounds_toArray,List.set_cons_zero,List.set_cons_succ]
   refine Rg.p 2 hHeld (h:=?_)
   simp only [Act.put,List.setIfInBounds_toArray,List.set_cons_zero,List.set_cons_succ]
   refine Rg.p 3 hHeld (h:=?_)
   simp only [Act.put,List.setIfInBounds_toArray,List.set_cons_zero,List.set_cons_succ]
   refine Rg.h 4 hHeld (h:=?_)
   simp only [Act.put,List.setIfInBounds_toArray,List.set_cons_zero,List.set_cons_succ]
   refine Rg.p 5 hHeld (h:=?_)
   simp only [Act.put,List.setIfInBounds_toArray,List.set_cons_zero,List.set_cons_succ]
   refine Rg.p 7 hHeld (h:=?_)
   simp only [Act.put,List.setIfInBounds_toArray,List.set_cons_zero,List.set_cons_succ]
   refine Rg.one 6 rfl (by kernel_rfl) (fun K hK=>?_)
   refine step_call 33 rfl rfl ?_
   go_simp
   go_at_call 33
   (with_reducible refine (curPick r.steps.length ((r.steps.length:Int) - 1) g (k+2) Bb _ (Lib.hid (H4.out.below (Below.refl _ _).drew).cu) (by omega) (by omega) (by omega) (by omega)).mono ?_)
   rintro e w5 ⟨v5,rfl,HV5,HC5,HK5⟩
   obtain ⟨u,rfl,hu⟩:=pickup HV5.out.1 HV5.out.2
   have H5:=Lib.hid (H4.out.cursor ((Keep.refl _ _).drew.trans HK5.out (fun _ _ e=>e)) HC5.out)
   have hHeld:w5.cell? ⟨w.heap.size,2,none⟩=some (.slice (some ⟨b0,0,none⟩) r.steps.length d2):=H5.out.f.cell 2 rfl
   refine hK.out _ _ hHeld ?_
   clear hK K HV5 HC5 HK5
   try simp only [Act.put,List.setIfInBounds_toArray,List.set_cons_zero,List.set_cons_succ]
   refine Rg.one 8 rfl (by kernel_rfl) (fun K hK=>?_)
   refine step_call 33 rfl rfl ?_
   go_simp
   go_at_call 33
   (with_reducible refine (curPick 9 8 g (k+2+2) Bb _ (Lib.hid H5.out.cu) (by omega) (by omega) (by omega) (by omega)).mono ?_)
   rintro e w6 ⟨z0,rfl,HV6,HC6,HK6⟩
   have za:=HV6.out.1
   have zb:=HV6.out.2
   have H6:=Lib.hid (H5.out.cursor HK6.out HC6.out)
   have hHeld:w6.cell? ⟨w.heap.size,2,none⟩=some (.slice (some ⟨b0,0,none⟩) r.steps.length d2):=H6.out.f.cell 2 rfl
   refine hK.out _ _ hHeld ?_
   clear hK K HV6 HC6 HK6
   try simp only [Act.put,List.setIfInBounds_toArray,List.set_cons_zero,List.set_cons_succ]
   obtain ⟨z,hz⟩:∃z,Hid (z0=z):=⟨_,Lib.hid rfl⟩
   obtain rfl:z0=z:=hz.out
   refine Rg.row [9,10,11] [_,_,_] rfl (by kernel_rfl) ?_
   have q0:(0:Int)≤(u:Int):=Int.natCast_nonneg _
   have q1:(u:Int) < (r.steps.length:Int):=by omega
   obtain ⟨⟨yc,c8⟩,f8⟩:=Rw_cell (f:=0) H6.out.s hu (by decide)
   have hsz:stepK.sz=2:=rfl
   rw [hsz,Nat.add_zero] at c8 f8
   have hzb:b0 < w6.heap.size:=World.block_lt_of_cell? _ _ c8
   obtain ⟨x,hx⟩:∃x,r.steps[u]?=some x:=⟨_,List.getElem?_eq_getElem hu⟩
   have HFN:=Lib.hid (H6.out.putS (j:=u) (f:=0) hx (by decide) (stepK_p0 (z:=z0)))
   have HNN:Hid (Route.n { r with steps:=r.steps.set u { x with piece:=z0 } }≤200000):=Lib.hid (by unfold Route.n;simp only [List.length_set,List.length_append,List.length_singleton];have:=HRN.out;unfold Route.n at this;omega)
   clear H4 H5 H6 hHeld s0 hzh hx
   go_wp2
   go_meet
   case rel=>exact ⟨_,_,_,_,_,_,_,_,_,_,_,_,_,HNN,Lib.hid (HFN.out.later (by omega)).fin⟩
  ·by_cases hl0:0 < r.lies.length
   rotate_left
   ·have dl1:decide ((0:Int) < (r.lies.length:Int))=false:=decide_eq_false (by omega)
    have dl2:decide (0 < r.lies.length)=false:=decide_eq_false hl0
    have s0:=H4.out.f.cell 3 rfl
    have hzh:w.heap.size < w4.heap.size:=H4.out.f.lt
    have HNN:Hid (r.n≤200000):=Lib.hid (by have:=HRN.out;omega)
    go_wp2
    go_meet
    case rel=>exact ⟨_,_,_,_,_,_,_,_,_,_,_,_,_,HNN,Lib.hid (H4.out.later (by omega)).fin⟩
   have dl1:decide ((0:Int) < (r.lies.length:Int))=true:=decide_eq_true (by omega)
   have dl2:decide (0 < r.lies.length)=true:=decide_eq_true hl0
   obtain ⟨b0,rfl⟩:=Rw_addr H4.out.l hl0
   have s0:=H4.out.f.cell 3 rfl
   have hzh:w.heap.size < w4.heap.size:=H4.out.f.lt
   go_upto_region 13 with (fail)
   refine Rg.start 10 (fun w'=>w'.cell? ⟨w.heap.size,3,none⟩=some (.slice (some ⟨b0,0,none⟩) r.lies.length d3)) 13 rfl (by kernel_rfl) ?_
   have hHeld:w4.drew.cell? ⟨w.heap.size,3,none⟩=some (.slice (some ⟨b0,0,none⟩) r.lies.length d3):=s0
   refine Rg.p 0 hHeld (h:=?_)
   simp only [Act.put,List.setIfInBounds_toArray,List.set_cons_zero,List.set_cons_succ]
   refine Rg.h 1 hHeld (h:=?_)
   simp only [Act.put,List.setIfInBounds_toArray,List.set_cons_zero,List.set_cons_succ]
   refine Rg.p 2 hHeld (h:=?_)
   simp only [Act.put,List.setIfInBounds_toArray,List.set_cons_zero,List.set_cons_succ]
   refine Rg.p 3 hHeld (h:=?_)
   simp only [Act.put,List.setIfInBounds_toArray,List.set_cons_zero,List.set_cons_succ]
   refine Rg.h 4 hHeld (h:=?_)
   simp only [Act.put,List.setIfInBounds_toArray,List.set_cons_zero,List.set_cons_succ]
   refine Rg.p 5 hHeld (h:=?_)
   simp only [Act.put,List.setIfInBounds_toArray,List.set_cons_zero,List.set_cons_succ]
   refine Rg.p 7 hHeld (h:=?_)
   simp only [Act.put,List.setIfInBounds_toArray,List.set_cons_zero,List.set_cons_succ]
   refine Rg.one 6 rfl (by kernel_rfl) (fun K hK=>?_)
   refine step_call 33 rfl rfl ?_
   go_simp
   go_at_call 33
   (with_reducible refine (curPick r.lies.length ((r.lies.length:Int) - 1) g (k+2) Bb _ (Lib.hid (H4.out.below (Below.refl _ _).drew).cu) (by omega) (by omega) (by omega) (by omega)).mono ?_)
   rintro e w5 ⟨v5,rfl,HV5,HC5,HK5⟩
   obtain ⟨u,rfl,hu⟩:=pickup HV5.out.1 HV5.out.2
   have H5:=Lib.hid (H4.out.cursor ((Keep.refl _ _).drew.trans HK5.out (fun _ _ e=>e)) HC5.out)
   have hHeld:w5.cell? ⟨w.heap.size,3,none⟩=some (.slice (some ⟨b0,0,none⟩) r.lies.length d3):=H5.out.f.cell 3 rfl
   refine hK.out _ _ hHeld ?_
   clear hK K HV5 HC5 HK5
   try simp only [Act.put,List.setIfInBounds_toArray,List.set_cons_zero,List.set_cons_succ]
   refine Rg.one 8 rfl (by kernel_rfl) (fun K hK=>?_)
   refine step_call 33 rfl rfl ?_
   go_simp
   go_at_call 33
   (with_reducible refine (curPick 2 1 g (k+2+2) Bb _ (Lib.hid H5.out.cu) (by omega) (by omega) (by omega) (by omega)).mono ?_)
   rintro e w6 ⟨z0,rfl,HV6,HC6,HK6⟩
   have za:=HV6.out.1
   have zb:=HV6.out.2
   have H6:=Lib.hid (H5.out.cursor HK6.out HC6.out)
   have hHeld:w6.cell? ⟨w.heap.size,3,none⟩=some (.slice (some ⟨b0,0,none⟩) r.lies.length d3):=H6.out.f.cell 3 rfl
   refine hK.out _ _ hHeld ?_
   clear hK K HV6 HC6 HK6
   try simp only [Act.put,List.setIfInBounds_toArray,List.set_cons_zero,List.set_cons_succ]
   obtain ⟨z,hz⟩:∃z,Hid (1+z0=z):=⟨_,Lib.hid rfl⟩
   have wz:IntKind.i64.wrap (1+z0)=z:=by rw [←hz.out,IntKind.wrap_i64];omega
   refine Rg.p 9 hHeld (h:=?_)
   simp only [Act.put,List.setIfInBounds_toArray,List.set_cons_zero,List.set_cons_succ]
   try simp only [wz]
   refine Rg.row [10,11,12] [_,_,_] rfl (by kernel_rfl) ?_
   have q0:(0:Int)≤(u:Int):=Int.natCast_nonneg _
   have q1:(u:Int) < (r.lies.length:Int):=by omega
   obtain ⟨⟨yc,c8⟩,f8⟩:=Rw_cell (f:=1) H6.out.l hu (by decide)
   have hsz:lieK.sz=2:=rfl
   rw [hsz] at c8 f8
   have hzb:b0 < w6.heap.size:=World.block_lt_of_cell? _ _ c8
   obtain ⟨x,hx⟩:∃x,r.lies[u]?=some x:=⟨_,List.getElem?_eq_getElem hu⟩
   have HFN:=Lib.hid (H6.out.putL (j:=u) (f:=1) hx (by decide) (lieK_p1 (z:=z)))
   have HNN:Hid (Route.n { r with lies:=r.lies.set u { x with lie:=z } }≤200000):=Lib.hid (by unfold Route.n;simp only [List.length_set,List.length_append,List.length_singleton];have:=HRN.out;unfold Route.n at this;omega)
   clear H4 H5 H6 hHeld s0 hzh hx
   go_wp2
   go_meet
   case rel=>exact ⟨_,_,_,_,_,_,_,_,_,_,_,_,_,HNN,Lib.hid (HFN.out.later (by omega)).fin⟩
  ·by_cases hl0:0 < r.parts.length
   rotate_left
   ·have dl1:decide ((0:Int) < (r.parts.length:Int))=false:=decide_eq_false (by omega)
    have dl2:decide (0 < r.parts.length)=false:=decide_eq_false hl0
    have s0:=H4.out.f.cell 5 rfl
    have hzh:w.heap.size < w4.heap.size:=H4.out.f.lt
    have HNN:Hid (r.n≤200000):=Lib.hid (by have:=HRN.out;omega)
    go_wp2
    go_meet
    case rel=>exact ⟨_,_,_,_,_,_,_,_,_,_,_,_,_,HNN,Lib.hid (H4.out.later (by omega)).fin⟩
   have dl1:decide ((0:Int) < (r.parts.length:Int))=true:=decide_eq_true (by omega)
   have dl2:decide (0 < r.parts.length)=true:=decide_eq_true hl0
   obtain ⟨b0,rfl⟩:=Rw_addr H4.out.p hl0
   have s0:=H4.out.f.cell 5 rfl
   have hzh:w.heap.size < w4.heap.size:=H4.out.f.lt
   go_upto_region 16 with (fail)
   have hb0g:¬b0=g:=by have:=H4.out.op b0 rfl;omega
   refine Rg.start 14 (fun w'=>w'.cell? ⟨w.heap.size,5,none⟩=some (.slice (some ⟨b0,0,none⟩) r.parts.length d5)∧∀(j:Nat) (z:Value),w4.cell? ⟨b0,j*3+2,none⟩=some z→w'.cell? ⟨b0,j*3+2,none⟩=some z) 17 rfl (by kernel_rfl) ?_
   have hHeld:w4.drew.cell? ⟨w.heap.size,5,none⟩=some (.slice (some ⟨b0,0,none⟩) r.parts.length d5)∧∀(j:Nat) (z:Value),w4.cell? ⟨b0,j*3+2,none⟩=some z→w4.drew.cell? ⟨b0,j*3+2,none⟩=some z:=⟨s0,fun j z hz=>hz⟩
   refine Rg.p 0 hHeld (h:=?_)
   simp only [Act.put,List.setIfInBounds_toArray,List.set_cons_zero,List.set_cons_succ]
   refine Rg.h 1 hHeld (h:=?_)
   simp only [Act.put,List.setIfInBounds_toArray,List.set_cons_zero,List.set_cons_succ]
   refine Rg.p 2 hHeld (h:=?_)
   simp only [Act.put,List.setIfInBounds_toArray,List.set_cons_zero,List.set_cons_succ]
   refine Rg.p 3 hHeld (h:=?_)
   simp only [Act.put,List.setIfInBounds_toArray,List.set_cons_zero,List.set_cons_succ]
   refine Rg.h 4 hHeld (h:=?_)
   simp only [Act.put,List.setIfInBounds_toArray,List.set_cons_zero,List.set_cons_succ]
   refine Rg.p 5 hHeld (h:=?_)
   simp only [Act.put,List.setIfInBounds_toArray,List.set_cons_zero,List.set_cons_succ]
   refine Rg.p 10 hHeld (h:=?_)
   simp only [Act.put,List.setIfInBounds_toArray,List.set_cons_zero,List.set_cons_succ]
   refine Rg.one 6 rfl (by kernel_rfl) (fun K hK=>?_)
   refine step_call 33 rfl rfl ?_
   go_simp
   go_at_call 33
   (with_reducible refine (curPick r.parts.length ((r.parts.length:Int) - 1) g (k+2) Bb _ (Lib.hid (H4.out.below (Below.refl _ _).drew).cu) (by omega) (by omega) (by omega) (by omega)).mono ?_)
   rintro e w5 ⟨v5,rfl,HVv5,HCv5,HKv5⟩
   have v5a:=HVv5.out.1
   have v5b:=HVv5.out.2
   have HKv5:Hid (Keep (fun b=>b=g) w4 w5):=Lib.hid ((Keep.refl _ _).drew.trans HKv5.out (fun _ _ e=>e))
   obtain ⟨u,rfl,hu⟩:=pickup v5a v5b
   have H5:=Lib.hid (H4.out.cursor HKv5.out HCv5.out)
   have hcl5:∀(j:Nat) (z:Value),w4.cell? ⟨b0,j*3+2,none⟩=some z→w5.cell? ⟨b0,j*3+2,none⟩=some z:=fun j z hz=>(HKv5.out.cell (p:=⟨b0,j*3+2,none⟩) (World.block_lt_of_cell? _ _ hz) hb0g).trans hz
   have HL5:=Lib.hid hcl5
   have hHeld:w5.cell? ⟨w.heap.size,5,none⟩=some (.slice (some ⟨b0,0,none⟩) r.parts.length d5)∧∀(j:Nat) (z:Value),w4.cell? ⟨b0,j*3+2,none⟩=some z→w5.cell? ⟨b0,j*3+2,none⟩=some z:=⟨H5.out.f.cell 5 rfl,HL5.out⟩
   refine hK.out _ _ hHeld ?_
   clear hK K
   try simp only [Act.put,List.setIfInBounds_toArray,List.set_cons_zero,List.set_cons_succ]
   have q0:(0:Int)≤(u:Int):=Int.natCast_nonneg _
   have q1:(u:Int) < (r.parts.length:Int):=by omega
   obtain ⟨x,hx⟩:∃x,r.parts[u]?=some x:=⟨_,List.getElem?_eq_getElem hu⟩
   obtain ⟨cs,hcs,hcc⟩:=Rw_val H4.out.p hx
   have hcs2:=partK_open hcs
   subst hcs2
   have c9:w4.cell? ⟨b0,u*3+2,none⟩=some (.int .i64 x.til):=hcc 2 _ rfl
   have C9:=Lib.hid c9
   clear hcs hcc c9 hcl5
   refine Rg.p 7 hHeld (h:=?_)
   simp only [Act.put,List.setIfInBounds_toArray,List.set_cons_zero,List.set_cons_succ]
   refine Rg.p 8 hHeld (h:=?_)
   simp only [Act.put,List.setIfInBounds_toArray,List.set_cons_zero,List.set_cons_succ]
   refine Rg.h 9 hHeld (hy:=by (intro wA hSw;have h9:=hSw.2 u _ C9.out;clear hSw;go_simp;first | done | with_reducible rfl)) (h:=?_)
   simp only [Act.put,List.setIfInBounds_toArray,List.set_cons_zero,List.set_cons_succ]
   refine Rg.one 11 rfl (by kernel_rfl) (fun K hK=>?_)
   refine step_call 33 rfl rfl ?_
   go_simp
   go_at_call 33
   (with_reducible refine (curPick 9 8 g (k+2+2) Bb _ (Lib.hid H5.out.cu) (by omega) (by omega) (by omega) (by omega)).mono ?_)
   rintro e w6 ⟨z0,rfl,HVz0,HCz0,HKz0⟩
   have z0a:=HVz0.out.1
   have z0b:=HVz0.out.2
   have HKz0:Hid (Keep (fun b=>b=g) w5 w6):=Lib.hid ((Keep.refl _ _).trans HKz0.out (fun _ _ e=>e))
   have H6:=Lib.hid (H5.out.cursor HKz0.out HCz0.out)
   have hHeld:w6.cell? ⟨w.heap.size,5,none⟩=some (.slice (some ⟨b0,0,none⟩) r.parts.length d5)∧∀(j:Nat) (z:Value),w4.cell? ⟨b0,j*3+2,none⟩=some z→w6.cell? ⟨b0,j*3+2,none⟩=some z:=⟨H6.out.f.cell 5 rfl,fun j z hz=>(HKz0.out.cell (p:=⟨b0,j*3+2,none⟩) (World.block_lt_of_cell? _ _ (HL5.out j z hz)) hb0g).trans (HL5.out j z hz)⟩
   refine hK.out _ _ hHeld ?_
   clear hK K
   try simp only [Act.put,List.setIfInBounds_toArray,List.set_cons_zero,List.set_cons_succ]
   obtain ⟨z1,hz1⟩:∃z,Hid (z0 - 4=z):=⟨_,Lib.hid rfl⟩
   have wz1:IntKind.i64.wrap (z0 - 4)=z1:=by rw [←hz1.out,IntKind.wrap_i64];omega
   obtain ⟨z,hz⟩:∃z,Hid (IntKind.i64.wrap (x.til+z1)=z):=⟨_,Lib.hid rfl⟩
   have wz:=hz.out
   refine Rg.p 12 hHeld (h:=?_)
   simp only [Act.put,List.setIfInBounds_toArray,List.set_cons_zero,List.set_cons_succ]
   try simp only [wz1]
   refine Rg.p 13 hHeld (h:=?_)
   simp only [Act.put,List.setIfInBounds_toArray,List.set_cons_zero,List.set_cons_succ]
   try simp only [wz1,wz]
   refine Rg.row [14,15,16] [_,_,_] rfl (by kernel_rfl) ?_
   obtain ⟨⟨yc,c8⟩,f8⟩:=Rw_cell (f:=2) H6.out.p hu (by decide)
   have hsz:partK.sz=3:=rfl
   rw [hsz] at c8 f8
   have hzb:b0 < w6.heap.size:=World.block_lt_of_cell? _ _ c8
   have HFN:=Lib.hid (H6.out.putP (j:=u) (f:=2) hx (by decide) (partK_p2 (z:=z)))
   have HNN:Hid (Route.n { r with parts:=r.parts.set u { x with til:=z } }≤200000):=Lib.hid (by unfold Route.n;simp only [List.length_set,List.length_append,List.length_singleton];have:=HRN.out;unfold Route.n at this;omega)
   clear H4 H5 H6 hHeld s0 hzh hx wz
   go_wp2
   go_meet
   case rel=>exact ⟨_,_,_,_,_,_,_,_,_,_,_,_,_,HNN,Lib.hid (HFN.out.later (by omega)).fin⟩
  ·by_cases hl0:0 < r.over.length
   rotate_left
   ·have dl1:decide ((0:Int) < (r.over.length:Int))=false:=decide_eq_false (by omega)
    have dl2:decide (0 < r.over.length)=false:=decide_eq_false hl0
    have s0:=H4.out.f.cell 6 rfl
    have hzh:w.heap.size < w4.heap.size:=H4.out.f.lt
    have HNN:Hid (r.n≤200000):=Lib.hid (by have:=HRN.out;omega)
    go_wp2
    go_meet
    case rel=>exact ⟨_,_,_,_,_,_,_,_,_,_,_,_,_,HNN,Lib.hid (H4.out.later (by omega)).fin⟩
   have dl1:decide ((0:Int) < (r.over.length:Int))=true:=decide_eq_true (by omega)
   have dl2:decide (0 < r.over.length)=true:=decide_eq_true hl0
   obtain ⟨b0,rfl⟩:=Rw_addr H4.out.o hl0
   have s0:=H4.out.f.cell 6 rfl
   have f0:=H4.out.f.frozen 6
   have hzh:w.heap.size < w4.heap.size:=H4.out.f.lt
   have hcap:=(Rw_slice H4.out.o).2.1
   obtain ⟨m,hm⟩:∃m:Nat,Hid (m+1=r.over.length):=⟨r.over.length - 1,Lib.hid (by omega)⟩
   obtain ⟨dm,hdm⟩:∃dm:Nat,Hid (dm+1=d6):=⟨d6 - 1,Lib.hid (by omega)⟩
   have i1:(1:Int)≤(r.over.length:Int):=by omega
   have i2:(r.over.length:Int)≤(d6:Int):=by omega
   have i3:r.over.length - 1=m:=by have:=hm.out;omega
   have i4:d6 - 1=dm:=by have:=hdm.out;omega
   have key:∀A,A=some ((⟨b0,0,none⟩:Addr).add (1*3))∨(A=some ⟨b0,0,none⟩∧m=0)→Hid (∃(r':Route) (E2 E3 E4 E5 E6 E7:Option Addr) (x2 x3 x4 x5 x6 x7:Nat),Hid (r'.n≤200000)∧Hid (BF w (w4.setCell ⟨w.heap.size,6,none⟩ (.slice A m dm)) w.heap.size (w.heap.size+1) g (k+10) Bb r' E2 E3 E4 E5 E6 E7 x2 x3 x4 x5 x6 x7)):=fun A hA=>Lib.hid (by
    have hml:=hm.out
    have hdl:=hdm.out
    have hK:Keep (fun x=>x=w.heap.size) w4 (w4.setCell ⟨w.heap.size,6,none⟩ (.slice A m dm)):=(Keep.refl (fun x=>x=w.heap.size) w4).setCell (p:=⟨w.heap.size,6,none⟩) (fun _=>rfl) _
    have hlen:(r.over.drop 1).length=m:=by rw [List.length_drop];omega
    have HCO0:=Kn.C_mono (fun b hb=>(hb.elim (fun e=>e.elim) (fun e=>⟨H4.out.oo b e,fun e2=>own_not H4.out.o H4.out.rk (by decide) (e2▸e)⟩):w.heap.size≤b∧¬b=w.heap.size+1)) (Rw_slice (H4.out.o.grownK hK (fun b hb e=>own_not H4.out.o H4.out.f (by decide) (e▸hb)) (fun _ e=>e.elim))).2.2
    have HCO:partK.C (w4.setCell ⟨w.heap.size,6,none⟩ (.slice A m dm)) (fun b=>w.heap.size≤b∧¬b=w.heap.size+1) A (r.over.drop 1):=by
     rcases hA with rfl | ⟨rfl,h0⟩
     ·exact C_drop 1 (by omega) HCO0
     ·have hnil:r.over.drop 1=[]:=List.eq_nil_of_length_eq_zero (by rw [hlen];exact h0)
      rw [hnil]
      exact Kn.C_nil
    obtain ⟨s1,s2⟩:=H4.out.side hK (fun b e=>e▸H4.out.hB)
    refine ⟨{ r with over:=r.over.drop 1 },B2,B3,B4,B5,A,B7,d2,d3,d4,d5,dm,d7,Lib.hid (by have:=HRN.out;unfold Route.n at this ⊢;simp only [hlen];omega),Lib.hid ⟨?_,H4.out.rk.keep hK (by omega),⟨Kn.C_mono (fun b hb=>hb.elim (fun e=>e.elim) (fun e=>⟨H4.out.os b e,fun e2=>own_not H4.out.s H4.out.rk (by decide) (e2▸e)⟩)) (Rw_slice (H4.out.s.grownK hK (fun b hb e=>own_not H4.out.s H4.out.f (by decide) (e▸hb)) (fun _ e=>e.elim))).2.2,Kn.C_mono (fun b hb=>hb.elim (fun e=>e.elim) (fun e=>⟨H4.out.ol b e,fun e2=>own_not H4.out.l H4.out.rk (by decide) (e2▸e)⟩)) (Rw_slice (H4.out.l.grownK hK (fun b hb e=>own_not H4.out.l H4.out.f (by decide) (e▸hb)) (fun _ e=>e.elim))).2.2,Kn.C_mono (fun b hb=>hb.elim (fun e=>e.elim) (fun e=>⟨H4.out.oc b e,fun e2=>own_not H4.out.c H4.out.rk (by decide) (e2▸e)⟩)) (Rw_slice (H4.out.c.grownK hK (fun b hb e=>own_not H4.out.c H4.out.f (by decide) (e▸hb)) (fun _ e=>e.elim))).2.2,Kn.C_mono (fun b hb=>hb.elim (fun e=>e.elim) (fun e=>⟨H4.out.op b e,fun e2=>own_not H4.out.p H4.out.rk (by decide) (e2▸e)⟩)) (Rw_slice (H4.out.p.grownK hK (fun b hb e=>own_not H4.out.p H4.out.f (by decide) (e▸hb)) (fun _ e=>e.elim))).2.2,HCO,Kn.C_mono (fun b hb=>hb.elim (fun e=>e.elim) (fun e=>⟨H4.out.ofl b e,fun e2=>own_not H4.out.fl H4.out.rk (by decide) (e2▸e)⟩)) (Rw_slice (H4.out.fl.grownK hK (fun b hb e=>own_not H4.out.fl H4.out.f (by decide) (e▸hb)) (fun _ e=>e.elim))).2.2⟩,⟨(Rw_slice H4.out.s).2.1,(Rw_slice H4.out.l).2.1,(Rw_slice H4.out.c).2.1,(Rw_slice H4.out.p).2.1,by show (r.over.drop 1).length≤dm;omega,(Rw_slice H4.out.fl).2.1⟩,by omega,H4.out.gB,H4.out.bB,s1.mono (by omega) (Nat.le_refl _),s2⟩⟩
    show Blk _ _ _ [.int .i64 r.frm,.int .i64 r.til,.slice B2 r.steps.length d2,.slice B3 r.lies.length d3,.slice B4 r.crosses.length d4,.slice B5 r.parts.length d5,.slice A (r.over.drop 1).length dm,.slice B7 r.flanks.length d7]
    rw [hlen]
    exact H4.out.f.set_ 6 _)
   have KEY:=Lib.hid key
   have i5:((r.over.length:Int) - 1).toNat=m:=by omega
   have i6:((d6:Int) - 1).toNat=dm:=by omega
   clear key H4
   go_wp2
   ·go_meet
    case rel=>exact (KEY.out (some ⟨b0,0,none⟩) (.inr ⟨rfl,by omega⟩)).out
   ·go_meet
    case rel=>exact (KEY.out (some ⟨b0,3,none⟩) (.inl rfl)).out
  ·by_cases hl0:0 < r.flanks.length
   rotate_left
   ·have dl1:decide ((0:Int) < (r.flanks.length:Int))=false:=decide_eq_false (by omega)
    have dl2:decide (0 < r.flanks.length)=false:=decide_eq_false hl0
    have s0:=H4.out.f.cell 7 rfl
    have hzh:w.heap.size < w4.heap.size:=H4.out.f.lt
    have HNN:Hid (r.n≤200000):=Lib.hid (by have:=HRN.out;omega)
    go_wp2
    go_meet
    case rel=>exact ⟨_,_,_,_,_,_,_,_,_,_,_,_,_,HNN,Lib.hid (H4.out.later (by omega)).fin⟩
   have dl1:decide ((0:Int) < (r.flanks.length:Int))=true:=decide_eq_true (by omega)
   have dl2:decide (0 < r.flanks.length)=true:=decide_eq_true hl0
   obtain ⟨b0,rfl⟩:=Rw_addr H4.out.fl hl0
   have s0:=H4.out.f.cell 7 rfl
   have hzh:w.heap.size < w4.heap.size:=H4.out.f.lt
   go_upto_region 22 with (fail)
   refine Rg.start 10 (fun w'=>w'.cell? ⟨w.heap.size,7,none⟩=some (.slice (some ⟨b0,0,none⟩) r.flanks.length d7)) 13 rfl (by kernel_rfl) ?_
   have hHeld:w4.drew.cell? ⟨w.heap.size,7,none⟩=some (.slice (some ⟨b0,0,none⟩) r.flanks.length d7):=s0
   refine Rg.p 0 hHeld (h:=?_)
   simp only [Act.put,List.setIfInBounds_toArray,List.set_cons_zero,List.set_cons_succ]
   refine Rg.h 1 hHeld (h:=?_)
   simp only [Act.put,List.setIfInBounds_toArray,List.set_cons_zero,List.set_cons_succ]
   refine Rg.p 2 hHeld (h:=?_)
   simp only [Act.put,List.setIfInBounds_toArray,List.set_cons_zero,List.set_cons_succ]
   refine Rg.p 3 hHeld (h:=?_)
   simp only [Act.put,List.setIfInBounds_toArray,List.set_cons_zero,List.set_cons_succ]
   refine Rg.h 4 hHeld (h:=?_)
   simp only [Act.put,List.setIfInBounds_toArray,List.set_cons_zero,List.set_cons_succ]
   refine Rg.p 5 hHeld (h:=?_)
   simp only [Act.put,List.setIfInBounds_toArray,List.set_cons_zero,List.set_cons_succ]
   refine Rg.p 7 hHeld (h:=?_)
   simp only [Act.put,List.setIfInBounds_toArray,List.set_cons_zero,List.set_cons_succ]
   refine Rg.one 6 rfl (by kernel_rfl) (fun K hK=>?_)
   refine step_call 33 rfl rfl ?_
   go_simp
   go_at_call 33
   (with_reducible refine (curPick r.flanks.length ((r.flanks.length:Int) - 1) g (k+2) Bb _ (Lib.hid (H4.out.below (Below.refl _ _).drew).cu) (by omega) (by omega) (by omega) (by omega)).mono ?_)
   rintro e w5 ⟨v5,rfl,HV5,HC5,HK5⟩
   obtain ⟨u,rfl,hu⟩:=pickup HV5.out.1 HV5.out.2
   have H5:=Lib.hid (H4.out.cursor ((Keep.refl _ _).drew.trans HK5.out (fun _ _ e=>e)) HC5.out)
   have hHeld:w5.cell? ⟨w.heap.size,7,none⟩=some (.slice (some ⟨b0,0,none⟩) r.flanks.length d7):=H5.out.f.cell 7 rfl
   refine hK.out _ _ hHeld ?_
   clear hK K HV5 HC5 HK5
   try simp only [Act.put,List.setIfInBounds_toArray,List.set_cons_zero,List.set_cons_succ]
   refine Rg.one 8 rfl (by kernel_rfl) (fun K hK=>?_)
   refine step_call 33 rfl rfl ?_
   go_simp
   go_at_call 33
   (with_reducible refine (curPick 4 3 g (k+2+2) Bb _ (Lib.hid H5.out.cu) (by omega) (by omega) (by omega) (by omega)).mono ?_)
   rintro e w6 ⟨z0,rfl,HV6,HC6,HK6⟩
   have za:=HV6.out.1
   have zb:=HV6.out.2
   have H6:=Lib.hid (H5.out.cursor HK6.out HC6.out)
   have hHeld:w6.cell? ⟨w.heap.size,7,none⟩=some (.slice (some ⟨b0,0,none⟩) r.flanks.length d7):=H6.out.f.cell 7 rfl
   refine hK.out _ _ hHeld ?_
   clear hK K HV6 HC6 HK6
   try simp only [Act.put,List.setIfInBounds_toArray,List.set_cons_zero,List.set_cons_succ]
   obtain ⟨z,hz⟩:∃z,Hid (1+z0=z):=⟨_,Lib.hid rfl⟩
   have wz:IntKind.i64.wrap (1+z0)=z:=by rw [←hz.out,IntKind.wrap_i64];omega
   refine Rg.p 9 hHeld (h:=?_)
   simp only [Act.put,List.setIfInBounds_toArray,List.set_cons_zero,List.set_cons_succ]
   try simp only [wz]
   refine Rg.row [10,11,12] [_,_,_] rfl (by kernel_rfl) ?_
   have q0:(0:Int)≤(u:Int):=Int.natCast_nonneg _
   have q1:(u:Int) < (r.flanks.length:Int):=by omega
   obtain ⟨⟨yc,c8⟩,f8⟩:=Rw_cell (f:=1) H6.out.fl hu (by decide)
   have hsz:flankK.sz=4:=rfl
   rw [hsz] at c8 f8
   have hzb:b0 < w6.heap.size:=World.block_lt_of_cell? _ _ c8
   obtain ⟨x,hx⟩:∃x,r.flanks[u]?=some x:=⟨_,List.getElem?_eq_getElem hu⟩
   have HFN:=Lib.hid (H6.out.putFL (j:=u) (f:=1) hx (by decide) (flankK_p1 (z:=z)))
   have HNN:Hid (Route.n { r with flanks:=r.flanks.set u { x with kind:=z } }≤200000):=Lib.hid (by unfold Route.n;simp only [List.length_set,List.length_append,List.length_singleton];have:=HRN.out;unfold Route.n at this;omega)
   clear H4 H5 H6 hHeld s0 hzh hx
   go_wp2
   go_meet
   case rel=>exact ⟨_,_,_,_,_,_,_,_,_,_,_,_,_,HNN,Lib.hid (HFN.out.later (by omega)).fin⟩
  ·have s0:=H4.out.f.cell 7 rfl
   have hzh:w.heap.size < w4.heap.size:=H4.out.f.lt
   go_upto_region 24 with (fail)
   refine Rg.start 9 (fun w'=>w'.cell? ⟨w.heap.size,7,none⟩=some (.slice B7 r.flanks.length d7)) 12 rfl (by kernel_rfl) ?_
   have hHeld:w4.drew.cell? ⟨w.heap.size,7,none⟩=some (.slice B7 r.flanks.length d7):=s0
   refine Rg.p 0 hHeld (h:=?_)
   simp only [Act.put,List.setIfInBounds_toArray,List.set_cons_zero,List.set_cons_succ]
   refine Rg.h 1 hHeld (h:=?_)
   simp only [Act.put,List.setIfInBounds_toArray,List.set_cons_zero,List.set_cons_succ]
   refine Rg.p 2 hHeld (h:=?_)
   simp only [Act.put,List.setIfInBounds_toArray,List.set_cons_zero,List.set_cons_succ]
   refine Rg.p 4 hHeld (h:=?_)
   simp only [Act.put,List.setIfInBounds_toArray,List.set_cons_zero,List.set_cons_succ]
   refine Rg.one 3 rfl (by kernel_rfl) (fun K hK=>?_)
   refine step_call 33 rfl rfl ?_
   go_simp
   go_at_call 33
   (with_reducible refine (curPick 5 4 g (k+2) Bb _ (Lib.hid (H4.out.below (Below.refl _ _).drew).cu) (by omega) (by omega) (by omega) (by omega)).mono ?_)
   rintro e w5 ⟨v5,rfl,HVv5,HCv5,HKv5⟩
   have v5a:=HVv5.out.1
   have v5b:=HVv5.out.2
   have HKv5:Hid (Keep (fun b=>b=g) w4 w5):=Lib.hid ((Keep.refl _ _).drew.trans HKv5.out (fun _ _ e=>e))
   have H5:=Lib.hid (H4.out.cursor HKv5.out HCv5.out)
   have hHeld:w5.cell? ⟨w.heap.size,7,none⟩=some (.slice B7 r.flanks.length d7):=H5.out.f.cell 7 rfl
   refine hK.out _ _ hHeld ?_
   clear hK K
   try simp only [Act.put,List.setIfInBounds_toArray,List.set_cons_zero,List.set_cons_succ]
   refine Rg.one 5 rfl (by kernel_rfl) (fun K hK=>?_)
   refine step_call 33 rfl rfl ?_
   go_simp
   go_at_call 33
   (with_reducible refine (curPick 2 1 g (k+2+2) Bb _ (Lib.hid H5.out.cu) (by omega) (by omega) (by omega) (by omega)).mono ?_)
   rintro e w6 ⟨z0,rfl,HVz0,HCz0,HKz0⟩
   have z0a:=HVz0.out.1
   have z0b:=HVz0.out.2
   have HKz0:Hid (Keep (fun b=>b=g) w5 w6):=Lib.hid ((Keep.refl _ _).trans HKz0.out (fun _ _ e=>e))
   have H6:=Lib.hid (H5.out.cursor HKz0.out HCz0.out)
   have hHeld:w6.cell? ⟨w.heap.size,7,none⟩=some (.slice B7 r.flanks.length d7):=H6.out.f.cell 7 rfl
   refine hK.out _ _ hHeld ?_
   clear hK K
   try simp only [Act.put,List.setIfInBounds_toArray,List.set_cons_zero,List.set_cons_succ]
   obtain ⟨z,hz⟩:∃z,Hid (1+z0=z):=⟨_,Lib.hid rfl⟩
   have wz:IntKind.i64.wrap (1+z0)=z:=by rw [←hz.out,IntKind.wrap_i64];omega
   refine Rg.p 6 hHeld (h:=?_)
   simp only [Act.put,List.setIfInBounds_toArray,List.set_cons_zero,List.set_cons_succ]
   try simp only [wz]
   refine Rg.p 7 hHeld (h:=?_)
   simp only [Act.put,List.setIfInBounds_toArray,List.set_cons_zero,List.set_cons_succ]
   try simp only [wz]
   refine Rg.one 8 rfl (by kernel_rfl) (fun K hK=>?_)
   go_simp
   have hba:Below w6.heap.size w6 (w6.alloc (.cells #[.int .i64 1,.int .i64 3,.int .i64 v5,.int .i64 z] 50)):=below_alloc _ _
   refine hK.out _ _ (cell_below hba hHeld) ?_
   clear hK K
   try simp only [Act.put,List.setIfInBounds_toArray,List.set_cons_zero,List.set_cons_succ]
   refine Rg.row [9,10,11] [_,_,_] rfl (by kernel_rfl) ?_
   have SRC:Hid (Kn.Src flankK (w6.alloc (.cells #[.int .i64 1,.int .i64 3,.int .i64 v5,.int .i64 z] 50)) nobody (some ⟨w6.heap.size,0,none⟩) [⟨1,3,v5,z⟩]):=Lib.hid (Kn.Src.one (flankK_mk _ _ ⟨1,3,v5,z⟩) (new_cells _ _ _ rfl))
   have m63:r.flanks.length+1≤maxLen:=by simp only [maxLen];omega
   have mby:(r.flanks.length+1)*32≤140737488355328:=by omega
   have HNN:Hid (Route.n { r with flanks:=r.flanks++[(⟨1,3,v5,z⟩:Flank)] }≤200000):=Lib.hid (by unfold Route.n;simp only [List.length_set,List.length_append,List.length_singleton];have:=HRN.out;unfold Route.n at this;omega)
   clear hHeld s0 H4 H5
   go_wp2_with (at_builtin;refine wpList_append_rw _ rfl (.tmp 116) (.tmp 123) 42 rfl 50 iF _ 32 Try.underlying42 hiF hzF hyF hxF rfl (by decide) (.slice B7 r.flanks.length d7) r.flanks [⟨1,3,v5,z⟩] rfl (H6.out.fl.below hba) (fun _ h=>h.elim) (some ⟨w6.heap.size,0,none⟩) 1 1 rfl rfl SRC.out m63 mby ?_;intro v' w8 HRn hg hat;obtain ⟨A9,c9,rfl,hc9⟩:=HRn.form1;have hA:=H6.out.appFL hba HRn hg hat;have hBf:=(H6.out.f.below hba H6.out.f.lt).keep ((Keep.refl (fun x=>(Value.slice B7 r.flanks.length d7).ownBlock=some x) _).grown hg (fun y hy _=>hy)) (fun e=>own_not H6.out.fl H6.out.f (by decide) e);have u0:=hBf.frozen 7;have hz8:w.heap.size < w8.heap.size:=hBf.lt;have u1:=hBf.cell 7 rfl)
   go_meet
   case rel=>exact ⟨_,_,_,_,_,_,_,_,_,_,_,_,_,HNN,Lib.hid ((Lib.hid hA).out.later (by omega)).fin⟩
  ·have s0:=H4.out.f.cell 4 rfl
   have hzh:w.heap.size < w4.heap.size:=H4.out.f.lt
   go_upto_region 26 with (fail)
   refine Rg.start 5 (fun w'=>w'.cell? ⟨w.heap.size,4,none⟩=some (.slice B4 r.crosses.length d4)) 8 rfl (by kernel_rfl) ?_
   have hHeld:w4.drew.cell? ⟨w.heap.size,4,none⟩=some (.slice B4 r.crosses.length d4):=s0
   refine Rg.p 0 hHeld (h:=?_)
   simp only [Act.put,List.setIfInBounds_toArray,List.set_cons_zero,List.set_cons_succ]
   refine Rg.h 1 hHeld (h:=?_)
   simp only [Act.put,List.setIfInBounds_toArray,List.set_cons_zero,List.set_cons_succ]
   refine Rg.p 2 hHeld (h:=?_)
   simp only [Act.put,List.setIfInBounds_toArray,List.set_cons_zero,List.set_cons_succ]
   refine Rg.one 3 rfl (by kernel_rfl) (fun K hK=>?_)
   refine step_call 33 rfl rfl ?_
   go_simp
   go_at_call 33
   (with_reducible refine (curPick 4 3 g (k+2) Bb _ (Lib.hid (H4.out.below (Below.refl _ _).drew).cu) (by omega) (by omega) (by omega) (by omega)).mono ?_)
   rintro e w5 ⟨v5,rfl,HVv5,HCv5,HKv5⟩
   have v5a:=HVv5.out.1
   have v5b:=HVv5.out.2
   have HKv5:Hid (Keep (fun b=>b=g) w4 w5):=Lib.hid ((Keep.refl _ _).drew.trans HKv5.out (fun _ _ e=>e))
   have H5:=Lib.hid (H4.out.cursor HKv5.out HCv5.out)
   have hHeld:w5.cell? ⟨w.heap.size,4,none⟩=some (.slice B4 r.crosses.length d4):=H5.out.f.cell 4 rfl
   refine hK.out _ _ hHeld ?_
   clear hK K
   try simp only [Act.put,List.setIfInBounds_toArray,List.set_cons_zero,List.set_cons_succ]
   refine Rg.one 4 rfl (by kernel_rfl) (fun K hK=>?_)
   go_simp
   have hba:Below w5.heap.size w5 (w5.alloc (.cells #[.int .i64 v5] 3)):=below_alloc _ _
   refine hK.out _ _ (cell_below hba hHeld) ?_
   clear hK K
   try simp only [Act.put,List.setIfInBounds_toArray,List.set_cons_zero,List.set_cons_succ]
   refine Rg.row [5,6,7] [_,_,_] rfl (by kernel_rfl) ?_
   have SRC:Hid (Kn.Src Kn.int (w5.alloc (.cells #[.int .i64 v5] 3)) nobody (some ⟨w5.heap.size,0,none⟩) [v5]):=Lib.hid (Kn.Src.one rfl (new_cells _ _ _ rfl))
   have m63:r.crosses.length+1≤maxLen:=by simp only [maxLen];omega
   have mby:(r.crosses.length+1)*8≤140737488355328:=by omega
   have HNN:Hid (Route.n { r with crosses:=r.crosses++[v5] }≤200000):=Lib.hid (by unfold Route.n;simp only [List.length_set,List.length_append,List.length_singleton];have:=HRN.out;unfold Route.n at this;omega)
   clear hHeld s0 H4
   go_wp2_with (at_builtin;refine wpList_append_rw _ rfl (.tmp 129) (.tmp 132) 40 rfl 3 iI _ 8 Try.underlying40 hiI hzI hyI hxI rfl (by decide) (.slice B4 r.crosses.length d4) r.crosses [v5] rfl (H5.out.c.below hba) (fun _ h=>h.elim) (some ⟨w5.heap.size,0,none⟩) 1 1 rfl rfl SRC.out m63 mby ?_;intro v' w8 HRn hg hat;obtain ⟨A9,c9,rfl,hc9⟩:=HRn.form1;have hA:=H5.out.appC hba HRn hg hat;have hBf:=(H5.out.f.below hba H5.out.f.lt).keep ((Keep.refl (fun x=>(Value.slice B4 r.crosses.length d4).ownBlock=some x) _).grown hg (fun y hy _=>hy)) (fun e=>own_not H5.out.c H5.out.f (by decide) e);have u0:=hBf.frozen 4;have hz8:w.heap.size < w8.heap.size:=hBf.lt;have u1:=hBf.cell 4 rfl)
   go_meet
   case rel=>exact ⟨_,_,_,_,_,_,_,_,_,_,_,_,_,HNN,Lib.hid ((Lib.hid hA).out.later (by omega)).fin⟩
  ·have f1:=H4.out.f.frozen 0
   go_wp2_with fail
   refine (curPick 4 3 g (k+2) Bb _ (Lib.hid H4.out.cu) (by omega) (by omega) (by omega) (by omega)).mono ?_
   rintro e w5 ⟨z,rfl,HV5,HC5,HK5⟩
   have za:=HV5.out.1
   have zb:=HV5.out.2
   have H5:=Lib.hid (H4.out.cursor HK5.out HC5.out)
   have c1:=H5.out.f.cell 0 rfl
   have f1:=H5.out.f.frozen 0
   have hzh:w.heap.size < w5.heap.size:=H5.out.f.lt
   have HFN:=Lib.hid (H5.out.put0 (z:=z))
   have HNN:Hid (Route.n { r with frm:=z }≤200000):=Lib.hid (by have:=HRN.out;unfold Route.n at this ⊢;simp only;omega)
   clear H4 H5 HC5 HK5 HV5
   go_wp2
   go_meet
   case rel=>exact ⟨_,_,_,_,_,_,_,_,_,_,_,_,_,HNN,Lib.hid (HFN.out.later (by omega)).fin⟩
 obtain ⟨r',E2,E3,E4,E5,E6,E7,x2,x3,x4,x5,x6,x7,HNN,HF⟩:=hcut
 have s0:=HF.out.f.cell 0 rfl
 have s1:=HF.out.f.cell 1 rfl
 have s2:=HF.out.f.cell 2 rfl
 have s3:=HF.out.f.cell 3 rfl
 have s4:=HF.out.f.cell 4 rfl
 have s5:=HF.out.f.cell 5 rfl
 have s6:=HF.out.f.cell 6 rfl
 have s7:=HF.out.f.cell 7 rfl
 have p0:=HF.out.rk.cell 0 rfl
 have p1:=HF.out.rk.cell 1 rfl
 have p2:=HF.out.rk.cell 2 rfl
 have p3:=HF.out.rk.cell 3 rfl
 have p4:=HF.out.rk.cell 4 rfl
 have p5:=HF.out.rk.cell 5 rfl
 have p6:=HF.out.rk.cell 6 rfl
 have p7:=HF.out.rk.cell 7 rfl
 have q0:=HF.out.rk.frozen 0
 have q1:=HF.out.rk.frozen 1
 have q2:=HF.out.rk.frozen 2
 have q3:=HF.out.rk.frozen 3
 have q4:=HF.out.rk.frozen 4
 have q5:=HF.out.rk.frozen 5
 have q6:=HF.out.rk.frozen 6
 have q7:=HF.out.rk.frozen 7
 have hzh:w.heap.size < wc.heap.size:=HF.out.f.lt
 have hzq:w.heap.size+1 < wc.heap.size:=HF.out.rk.lt
 have hKq:Keep (fun b=>b=w.heap.size+1) wc ((((((((wc.setCell ⟨w.heap.size+1,0,none⟩ (.int .i64 r'.frm)).setCell ⟨w.heap.size+1,1,none⟩ (.int .i64 r'.til)).setCell ⟨w.heap.size+1,2,none⟩ (.slice E2 r'.steps.length x2)).setCell ⟨w.heap.size+1,3,none⟩ (.slice E3 r'.lies.length x3)).setCell ⟨w.heap.size+1,4,none⟩ (.slice E4 r'.crosses.length x4)).setCell ⟨w.heap.size+1,5,none⟩ (.slice E5 r'.parts.length x5)).setCell ⟨w.heap.size+1,6,none⟩ (.slice E6 r'.over.length x6)).setCell ⟨w.heap.size+1,7,none⟩ (.slice E7 r'.flanks.length x7)):=(((((((((Keep.refl (fun b=>b=w.heap.size+1) wc).setCell (p:=⟨w.heap.size+1,0,none⟩) (fun _=>rfl) _).setCell (p:=⟨w.heap.size+1,1,none⟩) (fun _=>rfl) _).setCell (p:=⟨w.heap.size+1,2,none⟩) (fun _=>rfl) _).setCell (p:=⟨w.heap.size+1,3,none⟩) (fun _=>rfl) _).setCell (p:=⟨w.heap.size+1,4,none⟩) (fun _=>rfl) _).setCell (p:=⟨w.heap.size+1,5,none⟩) (fun _=>rfl) _).setCell (p:=⟨w.heap.size+1,6,none⟩) (fun _=>rfl) _).setCell (p:=⟨w.heap.size+1,7,none⟩) (fun _=>rfl) _)
 have HFIN:Hid (RetBe g (k+10) Bb w (.returned (.agg #[.int .i64 r'.frm,.int .i64 r'.til,.slice E2 r'.steps.length x2,.slice E3 r'.lies.length x3,.slice E4 r'.crosses.length x4,.slice E5 r'.parts.length x5,.slice E6 r'.over.length x6,.slice E7 r'.flanks.length x7])) ((((((((wc.setCell ⟨w.heap.size+1,0,none⟩ (.int .i64 r'.frm)).setCell ⟨w.heap.size+1,1,none⟩ (.int .i64 r'.til)).setCell ⟨w.heap.size+1,2,none⟩ (.slice E2 r'.steps.length x2)).setCell ⟨w.heap.size+1,3,none⟩ (.slice E3 r'.lies.length x3)).setCell ⟨w.heap.size+1,4,none⟩ (.slice E4 r'.crosses.length x4)).setCell ⟨w.heap.size+1,5,none⟩ (.slice E5 r'.parts.length x5)).setCell ⟨w.heap.size+1,6,none⟩ (.slice E6 r'.over.length x6)).setCell ⟨w.heap.size+1,7,none⟩ (.slice E7 r'.flanks.length x7))) :=
  Lib.hid ⟨r',E2,E3,E4,E5,E6,E7,x2,x3,x4,x5,x6,x7,rfl,Lib.hid (RCkeepq HF.out.R hKq),HNN,Lib.hid HF.out.cap,Lib.hid (HF.out.cu.keep hKq (by omega) (fun b hb _ e=>by omega)),Lib.hid (HF.out.K.trans hKq (fun b hb e=>by omega))⟩
 clear hKq HF HNN
 go_wp2
 exact bodyPost_ret (v:=.agg #[.int .i64 r'.frm,.int .i64 r'.til,.slice E2 r'.steps.length x2,.slice E3 r'.lies.length x3,.slice E4 r'.crosses.length x4,.slice E5 r'.parts.length x5,.slice E6 r'.over.length x6,.slice E7 r'.flanks.length x7]) (by simp [results,Try.results48,go_sem,hzq,q0,q1,q2,q3,q4,q5,q6,q7,p0,p1,p2,p3,p4,p5,p6,p7]) rfl HFIN.out
end Go.Proofs.Ytjccgneimknbpaa.L
namespace Go.Proofs.Ytjccgneimknbpaa.L
open Go.RowKit
theorem Ip.box {w w':World} {q e:Nat} {a b:Int} {t2 t3 t4 t5 t6 t7:Value} (h:Blk w q e zeroR) (h':Blk w' q e [.int .i64 a,.int .i64 b,t2,t3,t4,t5,t6,t7]) (hk:Keep (fun b=>b=q) w w'):Ip w w':=fun p u hp=>by
 by_cases hb:p.block=q
 ·unfold Blk zeroR at h
  unfold Blk at h'
  unfold World.cell? at hp ⊢
  rw [hb,h] at hp
  rw [hb,h']
  have h2:p.spot=none∧[(Value.int .i64 0),.int .i64 0,.slice none 0 0,.slice none 0 0,.slice none 0 0,.slice none 0 0,.slice none 0 0,.slice none 0 0][p.off]?=some (.int .i64 u):=by simpa using hp
  have ho:p.off=0∨p.off=1:=by
   match hq:p.off with
   | 0=>exact .inl rfl
   | 1=>exact .inr rfl
   | 2 | 3 | 4 | 5 | 6 | 7=>rw [hq] at h2;simp at h2
   | n+8=>rw [hq] at h2;simp at h2
  rcases ho with ho | ho
  ·exact ⟨a,by simp [h2.1,ho]⟩
  ·exact ⟨b,by simp [h2.1,ho]⟩
 ·exact ⟨u,(hk.cell (World.block_lt_of_cell? _ _ hp) hb).trans hp⟩
theorem RC.past {w w':World} {B q:Nat} {x:Route} {A2 A3 A4 A5 A6 A7:Option Addr} (h:RC w (fun b=>B≤b) x A2 A3 A4 A5 A6 A7) (hk:Keep (fun b=>b=q) w w') (hq:q < B):RC w' (fun b=>B≤b) x A2 A3 A4 A5 A6 A7:=by
 have mv:∀{α:Type} {d:Kn α} {A:Option Addr} {xs:List α},d.C w (fun b=>B≤b) A xs→d.C w' (fun b=>B≤b) A xs:=fun hC=>Kn.C_mono (fun b hb=>hb.1) (Kn.C_move (fun b hb=>hk.block b hb.2 (fun e=>by have:=hb.1;omega)) (Kn.C_bound hC))
 exact ⟨mv h.h2,mv h.h3,mv h.h4,mv h.h5,mv h.h6,mv h.h7⟩
def RetDN (w:World) (e:Ending) (w':World):Prop :=
 ∃(r:Route) (A2 A3 A4 A5 A6 A7:Option Addr) (c2 c3 c4 c5 c6 c7:Nat),e=.returned (.agg #[.int .i64 r.frm,.int .i64 r.til,.slice A2 r.steps.length c2,.slice A3 r.lies.length c3,.slice A4 r.crosses.length c4,.slice A5 r.parts.length c5,.slice A6 r.over.length c6,.slice A7 r.flanks.length c7])∧Hid (RC w' (fun _=>True) r A2 A3 A4 A5 A6 A7)∧Hid (r.n≤200000)∧Hid (Below w.heap.size w w')
set_option maxRecDepth 100000 in
set_option maxHeartbeats 16000000 in
theorem drNeeds {ok:Nat→Prop} (bs:List Int) (Ac:Option Addr) (cc:Nat) (w:World) (h:byteK.C w ok Ac bs) (hb:Hid (∀x∈bs,0≤x∧x≤255)):Calls Try.prog 22 #[.slice Ac bs.length cc] w (RetDN w):=by
 have HBy:=Lib.hid (Kn.C_bound h)
 clear h
 go_enter Try.func22,Try.ntmps22
 go_upto_region 2 with (fail)
 obtain ⟨W1,hW1,hWs,hb1,HRr,HC1⟩:∃W,W=(w.alloc (.cells #[.int .i64 0,.int .i64 0,.slice none 0 0,.slice none 0 0,.slice none 0 0,.slice none 0 0,.slice none 0 0,.slice none 0 0] 44)).alloc (.cells #[.slice Ac bs.length cc,.int .i64 0,.int .u64 0] 75)∧W.heap.size=w.heap.size+2∧Hid (Below w.heap.size w W)∧Hid (Blk W w.heap.size 44 zeroR)∧Hid (Cb W (w.heap.size+1) 0 w.heap.size):=by
  have hbb:Below w.heap.size w ((w.alloc (.cells #[.int .i64 0,.int .i64 0,.slice none 0 0,.slice none 0 0,.slice none 0 0,.slice none 0 0,.slice none 0 0,.slice none 0 0] 44)).alloc (.cells #[.slice Ac bs.length cc,.int .i64 0,.int .u64 0] 75)):=(below_alloc _ _).alloc (by rw [size_alloc];omega) _
  refine ⟨_,rfl,by rw [size_alloc,size_alloc],Lib.hid hbb,Lib.hid ((Blk.new w 44 zeroR rfl).alloc _),Lib.hid ⟨Ac,cc,bs,0,0,?_,?_,hb.out,Nat.le_refl _⟩⟩
  ·exact Blk.new _ 75 [.slice Ac bs.length cc,.int .i64 ((0:Nat):Int),.int .u64 0] (by rw [size_alloc])
  ·exact Kn.C_mono (fun b hb'=>⟨by have:=hb'.2;omega,hb'.2⟩) (Kn.C_below hbb HBy.out)
 rw [←hW1]
 clear hW1
 have HWs:=Lib.hid hWs
 have hrg:¬w.heap.size=w.heap.size+1:=by omega
 have hWb:w.heap.size≤W1.heap.size:=by omega
 clear hWs
 go_wp2_with fail
 refine (drList W1 (w.heap.size+1) 0 w.heap.size HC1 hWb (by omega)).mono ?_
 rintro e w4 ⟨rs,A,c,rfl,hlen,HRS,HCR,HCO,HC4,HK4⟩
 have HQ4:=Lib.hid (HRr.out.keep HK4.out hrg)
 have hz4:=HK4.out.size
 have hzW:=HWs.out
 clear HC1 HRr
 by_cases h0:rs.length=0
 ·have hnil:rs=[]:=List.eq_nil_of_length_eq_zero h0
  subst hnil
  simp only [List.length_nil]
  have BD:Calls Try.prog 48 #[.pointer (some ⟨w.heap.size+1,0,none⟩),.agg #[.int .i64 0,.int .i64 0,.slice none 0 0,.slice none 0 0,.slice none 0 0,.slice none 0 0,.slice none 0 0,.slice none 0 0]] w4 (RetBe (w.heap.size+1) (1004+10) w.heap.size w4):=drBend (ok:=nobody) (⟨0,0,[],[],[],[],[],[]⟩:Route) none none none none none none 0 0 0 0 0 0 w4 (w.heap.size+1) 1004 w.heap.size ⟨Kn.C_nil,Kn.C_nil,Kn.C_nil,Kn.C_nil,Kn.C_nil,Kn.C_nil⟩ (by simp) (Lib.hid (HC4.out.mono (by omega) (Nat.le_refl _))) (by omega) (by omega)
  have HBD:=Lib.hid BD
  clear BD
  go_wp2_with fail
  refine HBD.out.mono ?_
  rintro e w5 ⟨r,E2,E3,E4,E5,E6,E7,x2,x3,x4,x5,x6,x7,rfl,HR5,HNN,_,_,HK5⟩
  have HQ5:=Lib.hid (HQ4.out.keep HK5.out hrg)
  have s0:=HQ5.out.cell 0 rfl
  have s1:=HQ5.out.cell 1 rfl
  have s2:=HQ5.out.cell 2 rfl
  have s3:=HQ5.out.cell 3 rfl
  have s4:=HQ5.out.cell 4 rfl
  have s5:=HQ5.out.cell 5 rfl
  have s6:=HQ5.out.cell 6 rfl
  have s7:=HQ5.out.cell 7 rfl
  have q0:=HQ5.out.frozen 0
  have q1:=HQ5.out.frozen 1
  have q2:=HQ5.out.frozen 2
  have q3:=HQ5.out.frozen 3
  have q4:=HQ5.out.frozen 4
  have q5:=HQ5.out.frozen 5
  have q6:=HQ5.out.frozen 6
  have q7:=HQ5.out.frozen 7
  have hzq:w.heap.size < w5.heap.size:=HQ5.out.lt
  have hKq:Keep (fun b=>b=w.heap.size) w5 ((((((((w5.setCell ⟨w.heap.size,0,none⟩ (.int .i64 r.frm)).setCell ⟨w.heap.size,1,none⟩ (.int .i64 r.til)).setCell ⟨w.heap.size,2,none⟩ (.slice E2 r.steps.length x2)).setCell ⟨w.heap.size,3,none⟩ (.slice E3 r.lies.length x3)).setCell ⟨w.heap.size,4,none⟩ (.slice E4 r.crosses.length x4)).setCell ⟨w.heap.size,5,none⟩ (.slice E5 r.parts.length x5)).setCell ⟨w.heap.size,6,none⟩ (.slice E6 r.over.length x6)).setCell ⟨w.heap.size,7,none⟩ (.slice E7 r.flanks.length x7)):=(((((((((Keep.refl (fun b=>b=w.heap.size) w5).setCell (p:=⟨w.heap.size,0,none⟩) (fun _=>rfl) _).setCell (p:=⟨w.heap.size,1,none⟩) (fun _=>rfl) _).setCell (p:=⟨w.heap.size,2,none⟩) (fun _=>rfl) _).setCell (p:=⟨w.heap.size,3,none⟩) (fun _=>rfl) _).setCell (p:=⟨w.heap.size,4,none⟩) (fun _=>rfl) _).setCell (p:=⟨w.heap.size,5,none⟩) (fun _=>rfl) _).setCell (p:=⟨w.heap.size,6,none⟩) (fun _=>rfl) _).setCell (p:=⟨w.heap.size,7,none⟩) (fun _=>rfl) _)
  have hbe:Below w.heap.size w ((((((((w5.setCell ⟨w.heap.size,0,none⟩ (.int .i64 r.frm)).setCell ⟨w.heap.size,1,none⟩ (.int .i64 r.til)).setCell ⟨w.heap.size,2,none⟩ (.slice E2 r.steps.length x2)).setCell ⟨w.heap.size,3,none⟩ (.slice E3 r.lies.length x3)).setCell ⟨w.heap.size,4,none⟩ (.slice E4 r.crosses.length x4)).setCell ⟨w.heap.size,5,none⟩ (.slice E5 r.parts.length x5)).setCell ⟨w.heap.size,6,none⟩ (.slice E6 r.over.length x6)).setCell ⟨w.heap.size,7,none⟩ (.slice E7 r.flanks.length x7)):=(((Keep.of_below (S:=fun b=>b=w.heap.size∨b=w.heap.size+1) hb1.out).trans ((HK4.out.trans HK5.out (fun _ _ e=>e)).mono (fun _ _ e=>.inr e)) (fun _ _ e=>e)).trans hKq (fun _ _ e=>.inl e)).to_below (Nat.le_refl _) (fun k hk e=>by omega)
  have hfin:Hid (RetDN w (.returned (.agg #[.int .i64 r.frm,.int .i64 r.til,.slice E2 r.steps.length x2,.slice E3 r.lies.length x3,.slice E4 r.crosses.length x4,.slice E5 r.parts.length x5,.slice E6 r.over.length x6,.slice E7 r.flanks.length x7])) ((((((((w5.setCell ⟨w.heap.size,0,none⟩ (.int .i64 r.frm)).setCell ⟨w.heap.size,1,none⟩ (.int .i64 r.til)).setCell ⟨w.heap.size,2,none⟩ (.slice E2 r.steps.length x2)).setCell ⟨w.heap.size,3,none⟩ (.slice E3 r.lies.length x3)).setCell ⟨w.heap.size,4,none⟩ (.slice E4 r.crosses.length x4)).setCell ⟨w.heap.size,5,none⟩ (.slice E5 r.parts.length x5)).setCell ⟨w.heap.size,6,none⟩ (.slice E6 r.over.length x6)).setCell ⟨w.heap.size,7,none⟩ (.slice E7 r.flanks.length x7))):=Lib.hid ⟨r,E2,E3,E4,E5,E6,E7,x2,x3,x4,x5,x6,x7,rfl,Lib.hid ((HR5.out.past hKq (by omega)).mono (fun _ _=>trivial)),HNN,Lib.hid hbe⟩
  clear hKq hbe
  go_wp2
  exact bodyPost_ret (v:=.agg #[.int .i64 r.frm,.int .i64 r.til,.slice E2 r.steps.length x2,.slice E3 r.lies.length x3,.slice E4 r.crosses.length x4,.slice E5 r.parts.length x5,.slice E6 r.over.length x6,.slice E7 r.flanks.length x7]) (by simp [results,Try.results22,go_sem,hzq,q0,q1,q2,q3,q4,q5,q6,q7,s0,s1,s2,s3,s4,s5,s6,s7]) rfl hfin.out
 have hl0:0 < rs.length:=by omega
 have dl1:decide ((rs.length:Int)=0)=false:=decide_eq_false (by omega)
 have dl2:decide (rs.length=0)=false:=decide_eq_false (by omega)
 have dl3:((rs.length:Int) == 0)=false:=by simp only [beq_eq_false_iff_ne,ne_eq];omega
 obtain ⟨b0,rfl⟩:=Rw_addr HCR.out hl0
 have hb0:W1.heap.size≤b0:=HCO.out b0 rfl
 go_wp2_with fail
 refine (curPick rs.length ((rs.length:Int) - 1) (w.heap.size+1) 1004 w.heap.size _ (Lib.hid (HC4.out.mono (by omega) (Nat.le_refl _))) (by omega) (by omega) (by omega) (by omega)).mono ?_
 rintro e w5 ⟨v5,rfl,HV5,HC5,HK5⟩
 obtain ⟨u,rfl,hu⟩:=pickup HV5.out.1 HV5.out.2
 obtain ⟨x,hx⟩:∃x,rs[u]?=some x:=⟨_,List.getElem?_eq_getElem hu⟩
 obtain ⟨cs,hK0,hcl⟩:=Rw_val HCR.out hx
 obtain ⟨A2,c2,A3,c3,A4,c4,A5,c5,A6,c6,A7,c7,hcs,l2,k2,l3,k3,l4,k4,l5,k5,l6,k6,l7,k7⟩:=routeK_open hK0
 subst hcs
 have hsz:rK.sz=8:=rfl
 have hzb:b0 < w5.heap.size:=by have:=World.block_lt_of_cell? _ _ (hcl 0 _ rfl);have:=HK5.out.size;exact Nat.lt_of_lt_of_le ‹b0 < w4.heap.size› this
 have hmv:∀f v,[Value.int .i64 x.frm,.int .i64 x.til,.slice A2 x.steps.length c2,.slice A3 x.lies.length c3,.slice A4 x.crosses.length c4,.slice A5 x.parts.length c5,.slice A6 x.over.length c6,.slice A7 x.flanks.length c7][f]?=some v→w5.cell? ⟨b0,u*8+f,none⟩=some v:=fun f v hv=>(HK5.out.cell (p:=⟨b0,u*8+f,none⟩) (World.block_lt_of_cell? _ _ (hcl f v hv)) (fun e=>by have e:b0=w.heap.size+1:=e;omega)).trans (hcl f v hv)
 have HRs:=Lib.hid (HRS.out x (List.mem_of_getElem? hx))
 have HRx:Hid (RC w4 (fun _=>True) x A2 A3 A4 A5 A6 A7):=Lib.hid ⟨k2,k3,k4,k5,k6,k7⟩
 have s0:=hmv 0 _ rfl
 have s1:=hmv 1 _ rfl
 have s2:=hmv 2 _ rfl
 have s3:=hmv 3 _ rfl
 have s4:=hmv 4 _ rfl
 have s5:=hmv 5 _ rfl
 have s6:=hmv 6 _ rfl
 have s7:=hmv 7 _ rfl
 rw [Nat.add_zero] at s0
 have HQ5:=Lib.hid (HQ4.out.keep HK5.out hrg)
 have q0:(0:Int)≤(u:Int):=Int.natCast_nonneg _
 have q1:(u:Int) < (rs.length:Int):=by omega
 clear hmv hcl hK0 k2 k3 k4 k5 k6 k7 l2 l3 l4 l5 l6 l7 HCR HCO
 go_upto_region 6 with (fail)
 obtain ⟨W6,hW6,hb6,HP6⟩:∃W,W=w5.alloc (.cells #[.int .i64 x.frm,.int .i64 x.til,.slice A2 x.steps.length c2,.slice A3 x.lies.length c3,.slice A4 x.crosses.length c4,.slice A5 x.parts.length c5,.slice A6 x.over.length c6,.slice A7 x.flanks.length c7] 44)∧Below w5.heap.size w5 W∧Hid (Blk W w5.heap.size 44 [.int .i64 x.frm,.int .i64 x.til,.slice A2 x.steps.length c2,.slice A3 x.lies.length c3,.slice A4 x.crosses.length c4,.slice A5 x.parts.length c5,.slice A6 x.over.length c6,.slice A7 x.flanks.length c7]):=⟨_,rfl,below_alloc _ _,Lib.hid (Blk.new _ _ _ rfl)⟩
 rw [←hW6]
 clear hW6
 have HC6:=Lib.hid (HC5.out.below hb6)
 have HQ6:=Lib.hid (HQ5.out.below hb6 HQ5.out.lt)
 have HI6:Hid (Ip w4 W6):=Lib.hid ((Cb.ip HC4.out HC5.out HK5.out).trans (Ip.of_below hb6))
 have HK46:Hid (Keep (fun b=>b=w.heap.size+1) W1 W6):=Lib.hid ((HK4.out.trans HK5.out (fun _ _ e=>e)).below hb6)
 have hz5:=HK5.out.size
 have hz6:=hb6.size
 clear s0 s1 s2 s3 s4 s5 s6 s7 hzb q0 q1 hx
 go_wp2_with fail
 refine (curPick 3 2 (w.heap.size+1) (1004+2) w.heap.size _ HC6 (by omega) (by omega) (by omega) (by omega)).mono ?_
 rintro e w7 ⟨v7,rfl,HV7,HC7,HK7⟩
 have hz7:=HK7.out.size
 obtain ⟨y,ya,yb,y2,y3,y4,y5,y6,y7,HRy⟩:=RC.shape HRx.out (HI6.out.trans (Cb.ip HC6.out HC7.out HK7.out)) (by omega)
 have HRy:=Lib.hid HRy
 have HP7:Hid (Blk w7 w5.heap.size 44 [.int .i64 y.frm,.int .i64 y.til,.slice A2 y.steps.length c2,.slice A3 y.lies.length c3,.slice A4 y.crosses.length c4,.slice A5 y.parts.length c5,.slice A6 y.over.length c6,.slice A7 y.flanks.length c7]):=Lib.hid (by rw [ya,yb,y2,y3,y4,y5,y6,y7];exact HP6.out.keep HK7.out (by omega))
 have HQ7:=Lib.hid (HQ6.out.keep HK7.out hrg)
 have HRz:Hid (Rs y):=Lib.hid (by have:=HRs.out;unfold Rs at this ⊢;rw [y2,y3,y4,y5,y6,y7];exact this)
 have HK17:Hid (Keep (fun b=>b=w.heap.size+1) W1 w7):=Lib.hid (HK46.out.trans HK7.out (fun _ _ e=>e))
 have va:=HV7.out.1
 have vb:=HV7.out.2
 clear HRx HRs HRS HP6 HQ6 HQ5 HQ4 HC6 HC5 HC4 HI6 HK46 HK4 HK5 HK7 ya yb y2 y3 y4 y5 y6 y7 hb6
 have hwq:w.heap.size < w5.heap.size:=by omega
 have s0:=HP7.out.cell 0 rfl
 have s1:=HP7.out.cell 1 rfl
 have s2:=HP7.out.cell 2 rfl
 have s3:=HP7.out.cell 3 rfl
 have s4:=HP7.out.cell 4 rfl
 have s5:=HP7.out.cell 5 rfl
 have s6:=HP7.out.cell 6 rfl
 have s7:=HP7.out.cell 7 rfl
 have hzp:w5.heap.size < w7.heap.size:=HP7.out.lt
 have hzP:w5.heap.size < w7.heap.size:=hzp
 by_cases hv:v7=0
 ·subst hv
  go_wp2_with fail
  refine (drBend y A2 A3 A4 A5 A6 A7 c2 c3 c4 c5 c6 c7 w7 (w.heap.size+1) (1004+2+2) w.heap.size HRy.out HRz.out (Lib.hid (HC7.out.mono (by omega) (Nat.le_refl _))) (by omega) (by omega)).mono ?_
  rintro e w8 ⟨r,E2,E3,E4,E5,E6,E7,x2,x3,x4,x5,x6,x7,rfl,HR8,HNN,_,HC8,HK8⟩
  have HP8:=Lib.hid (HP7.out.keep HK8.out (by omega))
  have HQ8:=Lib.hid (HQ7.out.keep HK8.out hrg)
  clear s0 s1 s2 s3 s4 s5 s6 s7 hzp
  have s0:=HP8.out.cell 0 rfl
  have q0:=HP8.out.frozen 0
  have s1:=HP8.out.cell 1 rfl
  have q1:=HP8.out.frozen 1
  have s2:=HP8.out.cell 2 rfl
  have q2:=HP8.out.frozen 2
  have s3:=HP8.out.cell 3 rfl
  have q3:=HP8.out.frozen 3
  have s4:=HP8.out.cell 4 rfl
  have q4:=HP8.out.frozen 4
  have s5:=HP8.out.cell 5 rfl
  have q5:=HP8.out.frozen 5
  have s6:=HP8.out.cell 6 rfl
  have q6:=HP8.out.frozen 6
  have s7:=HP8.out.cell 7 rfl
  have q7:=HP8.out.frozen 7
  have hzp:w5.heap.size < w8.heap.size:=HP8.out.lt
  go_upto_region 8 with (fail)
  obtain ⟨W9,hW9,HK9,HP9⟩:∃W,W=((((((((w8.setCell ⟨w5.heap.size,0,none⟩ (.int .i64 r.frm)).setCell ⟨w5.heap.size,1,none⟩ (.int .i64 r.til)).setCell ⟨w5.heap.size,2,none⟩ (.slice E2 r.steps.length x2)).setCell ⟨w5.heap.size,3,none⟩ (.slice E3 r.lies.length x3)).setCell ⟨w5.heap.size,4,none⟩ (.slice E4 r.crosses.length x4)).setCell ⟨w5.heap.size,5,none⟩ (.slice E5 r.parts.length x5)).setCell ⟨w5.heap.size,6,none⟩ (.slice E6 r.over.length x6)).setCell ⟨w5.heap.size,7,none⟩ (.slice E7 r.flanks.length x7))∧Hid (Keep (fun b=>b=w5.heap.size) w8 W)∧Hid (Blk W w5.heap.size 44 [.int .i64 r.frm,.int .i64 r.til,.slice E2 r.steps.length x2,.slice E3 r.lies.length x3,.slice E4 r.crosses.length x4,.slice E5 r.parts.length x5,.slice E6 r.over.length x6,.slice E7 r.flanks.length x7]):=⟨_,rfl,Lib.hid (((((((((Keep.refl (fun b=>b=w5.heap.size) w8).setCell (p:=⟨w5.heap.size,0,none⟩) (fun _=>rfl) _).setCell (p:=⟨w5.heap.size,1,none⟩) (fun _=>rfl) _).setCell (p:=⟨w5.heap.size,2,none⟩) (fun _=>rfl) _).setCell (p:=⟨w5.heap.size,3,none⟩) (fun _=>rfl) _).setCell (p:=⟨w5.heap.size,4,none⟩) (fun _=>rfl) _).setCell (p:=⟨w5.heap.size,5,none⟩) (fun _=>rfl) _).setCell (p:=⟨w5.heap.size,6,none⟩) (fun _=>rfl) _).setCell (p:=⟨w5.heap.size,7,none⟩) (fun _=>rfl) _),Lib.hid (set8_blk _ _ _ _ _ _ _ _ HP8.out)⟩
  rw [←hW9]
  clear hW9 s0 s1 s2 s3 s4 s5 s6 s7 q0 q1 q2 q3 q4 q5 q6 q7 hzp
  have HQ9:=Lib.hid (HQ8.out.keep HK9.out (by omega))
  have HR9:=Lib.hid (HR8.out.past HK9.out (by omega))
  have r0:=HP9.out.cell 0 rfl
  have r1:=HP9.out.cell 1 rfl
  have r2:=HP9.out.cell 2 rfl
  have r3:=HP9.out.cell 3 rfl
  have r4:=HP9.out.cell 4 rfl
  have r5:=HP9.out.cell 5 rfl
  have r6:=HP9.out.cell 6 rfl
  have r7:=HP9.out.cell 7 rfl
  have s0:=HQ9.out.cell 0 rfl
  have q0:=HQ9.out.frozen 0
  have s1:=HQ9.out.cell 1 rfl
  have q1:=HQ9.out.frozen 1
  have s2:=HQ9.out.cell 2 rfl
  have q2:=HQ9.out.frozen 2
  have s3:=HQ9.out.cell 3 rfl
  have q3:=HQ9.out.frozen 3
  have s4:=HQ9.out.cell 4 rfl
  have q4:=HQ9.out.frozen 4
  have s5:=HQ9.out.cell 5 rfl
  have q5:=HQ9.out.frozen 5
  have s6:=HQ9.out.cell 6 rfl
  have q6:=HQ9.out.frozen 6
  have s7:=HQ9.out.cell 7 rfl
  have q7:=HQ9.out.frozen 7
  have hzp:w5.heap.size < W9.heap.size:=HP9.out.lt
  have hzq:w.heap.size < W9.heap.size:=HQ9.out.lt
  have hKq:Keep (fun b=>b=w.heap.size) W9 ((((((((W9.setCell ⟨w.heap.size,0,none⟩ (.int .i64 r.frm)).setCell ⟨w.heap.size,1,none⟩ (.int .i64 r.til)).setCell ⟨w.heap.size,2,none⟩ (.slice E2 r.steps.length x2)).setCell ⟨w.heap.size,3,none⟩ (.slice E3 r.lies.length x3)).setCell ⟨w.heap.size,4,none⟩ (.slice E4 r.crosses.length x4)).setCell ⟨w.heap.size,5,none⟩ (.slice E5 r.parts.length x5)).setCell ⟨w.heap.size,6,none⟩ (.slice E6 r.over.length x6)).setCell ⟨w.heap.size,7,none⟩ (.slice E7 r.flanks.length x7)):=(((((((((Keep.refl (fun b=>b=w.heap.size) W9).setCell (p:=⟨w.heap.size,0,none⟩) (fun _=>rfl) _).setCell (p:=⟨w.heap.size,1,none⟩) (fun _=>rfl) _).setCell (p:=⟨w.heap.size,2,none⟩) (fun _=>rfl) _).setCell (p:=⟨w.heap.size,3,none⟩) (fun _=>rfl) _).setCell (p:=⟨w.heap.size,4,none⟩) (fun _=>rfl) _).setCell (p:=⟨w.heap.size,5,none⟩) (fun _=>rfl) _).setCell (p:=⟨w.heap.size,6,none⟩) (fun _=>rfl) _).setCell (p:=⟨w.heap.size,7,none⟩) (fun _=>rfl) _)
  have hbe:Below w.heap.size w ((((((((W9.setCell ⟨w.heap.size,0,none⟩ (.int .i64 r.frm)).setCell ⟨w.heap.size,1,none⟩ (.int .i64 r.til)).setCell ⟨w.heap.size,2,none⟩ (.slice E2 r.steps.length x2)).setCell ⟨w.heap.size,3,none⟩ (.slice E3 r.lies.length x3)).setCell ⟨w.heap.size,4,none⟩ (.slice E4 r.crosses.length x4)).setCell ⟨w.heap.size,5,none⟩ (.slice E5 r.parts.length x5)).setCell ⟨w.heap.size,6,none⟩ (.slice E6 r.over.length x6)).setCell ⟨w.heap.size,7,none⟩ (.slice E7 r.flanks.length x7)):=(((Keep.of_below (S:=fun b=>w.heap.size≤b) hb1.out).trans ((HK17.out.trans HK8.out (fun _ _ e=>e)).mono (fun _ _ e=>by omega)) (fun _ _ e=>e)).trans ((HK9.out.mono (S:=fun b=>w.heap.size≤b) (fun _ _ e=>by omega)).trans hKq (fun _ _ e=>by omega)) (fun _ _ e=>e)).to_below (Nat.le_refl _) (fun k hk e=>by omega)
  have hfin:Hid (RetDN w (.returned (.agg #[.int .i64 r.frm,.int .i64 r.til,.slice E2 r.steps.length x2,.slice E3 r.lies.length x3,.slice E4 r.crosses.length x4,.slice E5 r.parts.length x5,.slice E6 r.over.length x6,.slice E7 r.flanks.length x7])) ((((((((W9.setCell ⟨w.heap.size,0,none⟩ (.int .i64 r.frm)).setCell ⟨w.heap.size,1,none⟩ (.int .i64 r.til)).setCell ⟨w.heap.size,2,none⟩ (.slice E2 r.steps.length x2)).setCell ⟨w.heap.size,3,none⟩ (.slice E3 r.lies.length x3)).setCell ⟨w.heap.size,4,none⟩ (.slice E4 r.crosses.length x4)).setCell ⟨w.heap.size,5,none⟩ (.slice E5 r.parts.length x5)).setCell ⟨w.heap.size,6,none⟩ (.slice E6 r.over.length x6)).setCell ⟨w.heap.size,7,none⟩ (.slice E7 r.flanks.length x7))):=Lib.hid ⟨r,E2,E3,E4,E5,E6,E7,x2,x3,x4,x5,x6,x7,rfl,Lib.hid ((HR9.out.past hKq (by omega)).mono (fun _ _=>trivial)),HNN,Lib.hid hbe⟩
  clear hKq hbe
  go_wp2
  exact bodyPost_ret (v:=.agg #[.int .i64 r.frm,.int .i64 r.til,.slice E2 r.steps.length x2,.slice E3 r.lies.length x3,.slice E4 r.crosses.length x4,.slice E5 r.parts.length x5,.slice E6 r.over.length x6,.slice E7 r.flanks.length x7]) (by simp [results,Try.results22,go_sem,hzq,q0,q1,q2,q3,q4,q5,q6,q7,s0,s1,s2,s3,s4,s5,s6,s7]) rfl hfin.out
 have dv1:decide (v7=0)=false:=decide_eq_false hv
 have dv2:(v7 == 0)=false:=by simp only [beq_eq_false_iff_ne,ne_eq];exact hv
 go_upto_region 8 with (fail)
 clear s0 s1 s2 s3 s4 s5 s6 s7
 have r0:=HP7.out.cell 0 rfl
 have r1:=HP7.out.cell 1 rfl
 have r2:=HP7.out.cell 2 rfl
 have r3:=HP7.out.cell 3 rfl
 have r4:=HP7.out.cell 4 rfl
 have r5:=HP7.out.cell 5 rfl
 have r6:=HP7.out.cell 6 rfl
 have r7:=HP7.out.cell 7 rfl
 have s0:=HQ7.out.cell 0 rfl
 have q0:=HQ7.out.frozen 0
 have s1:=HQ7.out.cell 1 rfl
 have q1:=HQ7.out.frozen 1
 have s2:=HQ7.out.cell 2 rfl
 have q2:=HQ7.out.frozen 2
 have s3:=HQ7.out.cell 3 rfl
 have q3:=HQ7.out.frozen 3
 have s4:=HQ7.out.cell 4 rfl
 have q4:=HQ7.out.frozen 4
 have s5:=HQ7.out.cell 5 rfl
 have q5:=HQ7.out.frozen 5
 have s6:=HQ7.out.cell 6 rfl
 have q6:=HQ7.out.frozen 6
 have s7:=HQ7.out.cell 7 rfl
 have q7:=HQ7.out.frozen 7
 have hzq:w.heap.size < w7.heap.size:=HQ7.out.lt
 have hKq:Keep (fun b=>b=w.heap.size) w7 ((((((((w7.setCell ⟨w.heap.size,0,none⟩ (.int .i64 y.frm)).setCell ⟨w.heap.size,1,none⟩ (.int .i64 y.til)).setCell ⟨w.heap.size,2,none⟩ (.slice A2 y.steps.length c2)).setCell ⟨w.heap.size,3,none⟩ (.slice A3 y.lies.length c3)).setCell ⟨w.heap.size,4,none⟩ (.slice A4 y.crosses.length c4)).setCell ⟨w.heap.size,5,none⟩ (.slice A5 y.parts.length c5)).setCell ⟨w.heap.size,6,none⟩ (.slice A6 y.over.length c6)).setCell ⟨w.heap.size,7,none⟩ (.slice A7 y.flanks.length c7)):=(((((((((Keep.refl (fun b=>b=w.heap.size) w7).setCell (p:=⟨w.heap.size,0,none⟩) (fun _=>rfl) _).setCell (p:=⟨w.heap.size,1,none⟩) (fun _=>rfl) _).setCell (p:=⟨w.heap.size,2,none⟩) (fun _=>rfl) _).setCell (p:=⟨w.heap.size,3,none⟩) (fun _=>rfl) _).setCell (p:=⟨w.heap.size,4,none⟩) (fun _=>rfl) _).setCell (p:=⟨w.heap.size,5,none⟩) (fun _=>rfl) _).setCell (p:=⟨w.heap.size,6,none⟩) (fun _=>rfl) _).setCell (p:=⟨w.heap.size,7,none⟩) (fun _=>rfl) _)
 have hbe:Below w.heap.size w ((((((((w7.setCell ⟨w.heap.size,0,none⟩ (.int .i64 y.frm)).setCell ⟨w.heap.size,1,none⟩ (.int .i64 y.til)).setCell ⟨w.heap.size,2,none⟩ (.slice A2 y.steps.length c2)).setCell ⟨w.heap.size,3,none⟩ (.slice A3 y.lies.length c3)).setCell ⟨w.heap.size,4,none⟩ (.slice A4 y.crosses.length c4)).setCell ⟨w.heap.size,5,none⟩ (.slice A5 y.parts.length c5)).setCell ⟨w.heap.size,6,none⟩ (.slice A6 y.over.length c6)).setCell ⟨w.heap.size,7,none⟩ (.slice A7 y.flanks.length c7)):=(((Keep.of_below (S:=fun b=>w.heap.size≤b) hb1.out).trans (HK17.out.mono (fun _ _ e=>by omega)) (fun _ _ e=>e)).trans hKq (fun _ _ e=>by omega)).to_below (Nat.le_refl _) (fun k hk e=>by omega)
 have hfin:Hid (RetDN w (.returned (.agg #[.int .i64 y.frm,.int .i64 y.til,.slice A2 y.steps.length c2,.slice A3 y.lies.length c3,.slice A4 y.crosses.length c4,.slice A5 y.parts.length c5,.slice A6 y.over.length c6,.slice A7 y.flanks.length c7])) ((((((((w7.setCell ⟨w.heap.size,0,none⟩ (.int .i64 y.frm)).setCell ⟨w.heap.size,1,none⟩ (.int .i64 y.til)).setCell ⟨w.heap.size,2,none⟩ (.slice A2 y.steps.length c2)).setCell ⟨w.heap.size,3,none⟩ (.slice A3 y.lies.length c3)).setCell ⟨w.heap.size,4,none⟩ (.slice A4 y.crosses.length c4)).setCell ⟨w.heap.size,5,none⟩ (.slice A5 y.parts.length c5)).setCell ⟨w.heap.size,6,none⟩ (.slice A6 y.over.length c6)).setCell ⟨w.heap.size,7,none⟩ (.slice A7 y.flanks.length c7))):=by
  obtain ⟨z,za,zb,z2,z3,z4,z5,z6,z7,HRZ⟩:=RC.shape HRy.out (Ip.box HQ7.out (set8_blk _ _ _ _ _ _ _ _ HQ7.out) hKq) hKq.size
  refine Lib.hid ⟨z,A2,A3,A4,A5,A6,A7,c2,c3,c4,c5,c6,c7,by rw [za,zb,z2,z3,z4,z5,z6,z7],Lib.hid HRZ,Lib.hid (by have:=HRz.out;unfold Rs at this;unfold Route.n;omega),Lib.hid hbe⟩
 clear hKq hbe
 go_wp2
 exact bodyPost_ret (v:=.agg #[.int .i64 y.frm,.int .i64 y.til,.slice A2 y.steps.length c2,.slice A3 y.lies.length c3,.slice A4 y.crosses.length c4,.slice A5 y.parts.length c5,.slice A6 y.over.length c6,.slice A7 y.flanks.length c7]) (by simp [results,Try.results22,go_sem,hzq,q0,q1,q2,q3,q4,q5,q6,q7,s0,s1,s2,s3,s4,s5,s6,s7]) rfl hfin.out
end Go.Proofs.Ytjccgneimknbpaa.L
namespace Go.Proofs.Ytjccgneimknbpaa.L
open Go.RowKit
open Classical
theorem implNeedsW {ok:Nat→Prop} (x:Route) (A2 A3 A4 A5 A6 A7:Option Addr) (c2 c3 c4 c5 c6 c7:Nat) (w:World) (h:RC w ok x A2 A3 A4 A5 A6 A7) (hn:x.n≤1048576) :
  Calls Try.prog 21 #[.agg #[.int .i64 x.frm,.int .i64 x.til,.slice A2 x.steps.length c2,.slice A3 x.lies.length c3,.slice A4 x.crosses.length c4,.slice A5 x.parts.length c5,.slice A6 x.over.length c6,.slice A7 x.flanks.length c7]] w (RetW 52 lieK nobody (needs x) w):=by
 unfold Route.n at hn
 exact implNeeds x _ _ _ _ _ _ A3 A7 c3 c7 w h.h3 h.h7 (by omega) (by omega)
end Go.Proofs.Ytjccgneimknbpaa.L
namespace Go.Proofs.Ytjccgneimknbpaa.L
open Go.RowKit
open Classical
theorem RetW.Cn {xs:List Lie} {e:Nat} {ok:Nat→Prop} {w w':World} {en:Ending} (h:RetW e lieK ok xs w en w'):∃A c,en=.returned (.slice A xs.length c)∧Hid (lieK.C w' (fun _=>True) A xs)∧Below w.heap.size w w':=by
 obtain ⟨v,rfl,h1,h2,h3⟩:=h
 obtain ⟨A,c,rfl,hc,hC⟩:=h1.C
 exact ⟨A,c,rfl,Lib.hid (Kn.C_mono (fun _ _=>trivial) hC),h3⟩
set_option maxRecDepth 100000 in
set_option maxHeartbeats 16000000 in
theorem lawNeedD {ok:Nat→Prop} (bs:List Int) (A:Option Addr) (c:Nat) (w:World) (hx:byteK.C w ok A bs) (hbs:Hid (∀x∈bs,0≤x∧x≤255)):Calls Try.prog 5 #[.slice A bs.length c] w (RetB true w):=by
 have hm:=hx.1
 have HX:=Lib.hid hx
 clear hx
 by_cases hl:1048576 < bs.length
 ·have d0:decide ((1048576:Int) < (bs.length:Int))=true:=decide_eq_true (by omega)
  go_enter Try.func5,Try.ntmps5
  go_wp2
  go_ret
  exact ⟨rfl,Below.refl _ _⟩
 have d0:decide ((1048576:Int) < (bs.length:Int))=false:=decide_eq_false (by omega)
 go_enter Try.func5,Try.ntmps5
 go_wp2_with fail
 refine (drNeeds bs A c _ HX.out hbs).mono ?_
 rintro e w1 ⟨r,A2,A3,A4,A5,A6,A7,c2,c3,c4,c5,c6,c7,rfl,HR1,HNN,HB1⟩
 clear d0 hl
 obtain ⟨W2,hW2,hb2,BP⟩:∃W,W=w1.alloc (.cells #[.int .i64 r.frm,.int .i64 r.til,.slice A2 r.steps.length c2,.slice A3 r.lies.length c3,.slice A4 r.crosses.length c4,.slice A5 r.parts.length c5,.slice A6 r.over.length c6,.slice A7 r.flanks.length c7] 44)∧Hid (Below w1.heap.size w1 W)∧Hid (Blk W w1.heap.size 44 [.int .i64 r.frm,.int .i64 r.til,.slice A2 r.steps.length c2,.slice A3 r.lies.length c3,.slice A4 r.crosses.length c4,.slice A5 r.parts.length c5,.slice A6 r.over.length c6,.slice A7 r.flanks.length c7]):=⟨_,rfl,Lib.hid (below_alloc _ _),Lib.hid (Blk.new _ _ _ rfl)⟩
 go_upto_region 4 with (fail)
 rw [←hW2]
 clear hW2
 have HB2:=Lib.hid (HB1.out.trans (hb2.out.mono HB1.out.size))
 have HR2:=Lib.hid (HR1.out.below hb2.out)
 have s0:=BP.out.cell 0 rfl
 have s1:=BP.out.cell 1 rfl
 have s2:=BP.out.cell 2 rfl
 have s3:=BP.out.cell 3 rfl
 have s4:=BP.out.cell 4 rfl
 have s5:=BP.out.cell 5 rfl
 have s6:=BP.out.cell 6 rfl
 have s7:=BP.out.cell 7 rfl
 have hz:w1.heap.size < W2.heap.size:=BP.out.lt
 clear HR1 HB1 hb2
 obtain ⟨xs,HXS⟩:∃xs,Hid (needs r=xs):=⟨_,Lib.hid rfl⟩
 have hnl:xs.length≤2097152:=by
  have:=needsTo_len r.lies r.flanks r.flanks.length
  have h2:=HNN.out
  unfold Route.n at h2
  rw [←HXS.out]
  show (needsTo r.lies r.flanks r.flanks.length).length≤_
  omega
 have hpl:r.lies.length≤xs.length:=by rw [←HXS.out];exact needs_len r
 go_wp2_with fail
 refine (implNeedsW r A2 A3 A4 A5 A6 A7 c2 c3 c4 c5 c6 c7 _ HR2.out (by have:=HNN.out;omega)).mono ?_
 intro e w3 hr
 rw [HXS.out] at hr
 obtain ⟨N1,n1,rfl,C1,hb3⟩:=RetW.Cn hr
 have HB3:=Lib.hid (HB2.out.trans (hb3.mono HB2.out.size))
 have HR3:=Lib.hid (HR2.out.below hb3)
 have BP3:=Lib.hid (BP.out.below hb3 BP.out.lt)
 clear hr hb3 s0 s1 s2 s3 s4 s5 s6 s7 hz
 have s0:=BP3.out.cell 0 rfl
 have s1:=BP3.out.cell 1 rfl
 have s2:=BP3.out.cell 2 rfl
 have s3:=BP3.out.cell 3 rfl
 have s4:=BP3.out.cell 4 rfl
 have s5:=BP3.out.cell 5 rfl
 have s6:=BP3.out.cell 6 rfl
 have s7:=BP3.out.cell 7 rfl
 have hz:w1.heap.size < w3.heap.size:=BP3.out.lt
 go_wp2_with fail
 refine (specNeeds r _ _ _ _ _ _ A3 A7 c3 c7 _ HR3.out.h3 HR3.out.h7 (by have:=HNN.out;unfold Route.n at this;omega) (by have:=HNN.out;unfold Route.n at this;omega)).mono ?_
 intro e w4 hr
 rw [HXS.out] at hr
 obtain ⟨N2,n2,rfl,C2,hb4⟩:=RetW.Cn hr
 have HB4:=Lib.hid (HB3.out.trans (hb4.mono HB3.out.size))
 have C1:=Lib.hid (Kn.C_below hb4 C1.out)
 have CL:Hid (lieK.C w4 (fun _=>True) A3 r.lies):=Lib.hid (Kn.C_below hb4 HR3.out.h3)
 have BP4:=Lib.hid (BP3.out.below hb4 BP3.out.lt)
 clear hr hb4 s0 s1 s2 s3 s4 s5 s6 s7 hz HR3 HR2 BP BP3 HB2 HB3
 have s3:=BP4.out.cell 3 rfl
 have hz:w1.heap.size < w4.heap.size:=BP4.out.lt
 obtain ⟨N,HN⟩:∃N,Hid (xs.length=N):=⟨_,Lib.hid rfl⟩
 obtain ⟨M,HM⟩:∃M,Hid (r.lies.length=M):=⟨_,Lib.hid rfl⟩
 have d1:(((xs.length:Nat):Int) != (xs.length:Int))=false:=by simp
 have d2:decide ((xs.length:Int) < (r.lies.length:Int))=false:=decide_eq_false (by omega)
 have d3:decide (xs.length < r.lies.length)=false:=decide_eq_false (by omega)
 go_wp2
 go_loopw [33] (fun i wr=>∃k:Nat,k≤xs.length∧i=.int .i64 k∧Hid (Below w4.heap.size w4 wr)) (fun i _=>xs.length - (intOf i).toNat)
 case atStart=>exact ⟨0,Nat.zero_le _,rfl,Lib.hid (by first | exact Below.refl _ _ | exact (Below.refl _ _).drew)⟩
 case round =>
 obtain ⟨k,hk,rfl,HBr⟩:=hrel
 clear s3 hz d1 d2 d3
 obtain ⟨v4,rfl⟩:∃W:World,W=wr:=⟨_,rfl⟩
 have C1:=Lib.hid (Kn.C_below HBr.out C1.out)
 have C2:=Lib.hid (Kn.C_below HBr.out C2.out)
 have CL:=Lib.hid (Kn.C_below HBr.out CL.out)
 have BPr:=Lib.hid (BP4.out.below HBr.out BP4.out.lt)
 by_cases hlt:k < xs.length
 rotate_left
 ·obtain rfl:k=xs.length:=by omega
  have d0:decide ((xs.length:Int) < (xs.length:Int))=false:=decide_eq_false (by omega)
  have HF:=Lib.hid (HB4.out.trans (HBr.out.mono HB4.out.size))
  go_wp2
  go_ret
  exact ⟨rfl,HF.out⟩
 have d0:decide ((k:Int) < (xs.length:Int))=true:=decide_eq_true (by omega)
 have i0:(0:Int)≤(k:Int):=Int.natCast_nonneg _
 have i1:(k:Int) < (xs.length:Int):=by omega
 obtain ⟨a1,rfl,y0,y1,E1,g0,g1⟩:=lieK_at C1.out k hlt
 go_upto_if 11 with (fail)
 obtain ⟨Wk,hWk,HBk,BX⟩:∃W,W=v4.alloc (.cells #[.int .i64 y0,.int .i64 y1] 52)∧Hid (Below v4.heap.size v4 W)∧Hid (Blk W v4.heap.size 52 [.int .i64 y0,.int .i64 y1]):=⟨_,rfl,Lib.hid (below_alloc _ _),Lib.hid (Blk.new _ _ _ rfl)⟩
 rw [←hWk]
 clear hWk g0 g1
 have C1:=Lib.hid (Kn.C_below HBk.out C1.out)
 have C2:=Lib.hid (Kn.C_below HBk.out C2.out)
 have CL:=Lib.hid (Kn.C_below HBk.out CL.out)
 have BPk:=Lib.hid (BPr.out.below HBk.out BPr.out.lt)
 have HBw:=Lib.hid (HBr.out.trans (HBk.out.mono HBr.out.size))
 obtain ⟨a2,rfl,z0,z1,E2,p0,p1⟩:=lieK_at C2.out k hlt
 have EE:=Option.some.inj (E1.out.symm.trans E2.out)
 injection EE with ee0 ee1
 subst ee0 ee1
 have b0:=BX.out.cell 0 rfl
 have b1:=BX.out.cell 1 rfl
 have hbz:v4.heap.size < Wk.heap.size:=BX.out.lt
 have s3:=BPk.out.cell 3 rfl
 have hz:w1.heap.size < Wk.heap.size:=BPk.out.lt
 go_cut [59] (fun sv wc=>sv=.bool false∧Hid (Below Wk.heap.size Wk wc))
 case first =>
  by_cases hkm:k < r.lies.length
  ·have d1:decide ((k:Int) < (r.lies.length:Int))=true:=decide_eq_true (by omega)
   have i2:(k:Int) < (r.lies.length:Int):=by omega
   obtain ⟨a3,rfl,t0,t1,E3,q0,q1⟩:=lieK_at CL.out k hkm
   have EE:=Option.some.inj (E3.out.symm.trans (needs_lie r hkm (by rw [HXS.out];exact E1.out)))
   injection EE with ee0 ee1
   subst ee0 ee1
   go_quiet (fail)
   go_wp2
   go_meet
   case rel=>exact ⟨rfl,Lib.hid (below_drewN (Below.refl _ _) _)⟩
  ·have d1:decide ((k:Int) < (r.lies.length:Int))=false:=decide_eq_false (by omega)
   go_quiet (fail)
   go_wp2
   go_meet
   case rel=>exact ⟨rfl,Lib.hid (below_drewN (Below.refl _ _) _)⟩
 obtain ⟨rfl,HBc⟩:=hcut
 have C1:=Lib.hid (Kn.C_below HBc.out C1.out)
 have BPc:=Lib.hid (BPk.out.below HBc.out BPk.out.lt)
 have BXc:=Lib.hid (BX.out.below HBc.out BX.out.lt)
 have HBw:=Lib.hid (HBw.out.trans (HBc.out.mono HBw.out.size))
 clear b0 b1 hbz s3 hz HBc
 have s3:=BPc.out.cell 3 rfl
 have hz:w1.heap.size < wc.heap.size:=BPc.out.lt
 go_wp2
 go_loopw [8] (fun i wr=>∃m:Nat,r.lies.length≤m∧i=.int .i64 m∧Hid (Below wc.heap.size wc wr)) (fun i _=>k - (intOf i).toNat)
 case atStart=>exact ⟨r.lies.length,Nat.le_refl _,rfl,Lib.hid (by first | exact Below.refl _ _ | exact (Below.refl _ _).drew)⟩
 case round =>
 obtain ⟨m,hm2,rfl,HBi⟩:=hrel
 clear s3 hz
 obtain ⟨v5,rfl⟩:∃W:World,W=wr:=⟨_,rfl⟩
 have C1:=Lib.hid (Kn.C_below HBi.out C1.out)
 have BXi:=Lib.hid (BXc.out.below HBi.out BXc.out.lt)
 have b0:=BXi.out.cell 0 rfl
 have b1:=BXi.out.cell 1 rfl
 have hbz:v4.heap.size < v5.heap.size:=BXi.out.lt
 by_cases hmk:m < k
 ·have d1:decide ((m:Int) < (k:Int))=true:=decide_eq_true (by omega)
  have j0:(0:Int)≤(m:Int):=Int.natCast_nonneg _
  have j1:(m:Int) < (xs.length:Int):=by omega
  obtain ⟨a4,ha4,t0,t1,E3,q0,q1⟩:=lieK_at C1.out m (by omega)
  obtain rfl:a1=a4:=Option.some.inj ha4
  have hne:¬(⟨t0,t1⟩:Lie)=⟨y0,y1⟩:=needs_new r hm2 hmk (by rw [HXS.out];exact E3.out) (by rw [HXS.out];exact E1.out)
  go_wp2
  by_cases e0:t0=y0
  ·subst e0
   have dq:(t1=y1)=False:=eq_false (fun e1=>hne (by rw [e1]))
   have dq2:¬t1=y1:=of_eq_false dq
   have dq3:(t1 == y1)=false:=by simp only [beq_eq_false_iff_ne,ne_eq];exact dq2
   clear hne
   go_quiet (simp [dq2])
   go_wp2
   go_roundw
   case rel=>exact ⟨m+1,by omega,by go_num,Lib.hid (below_drewN HBi.out _)⟩
   case measure=>simp [intOf];omega
  have dq3:(t0 == y0)=false:=by simp only [beq_eq_false_iff_ne,ne_eq];exact e0
  clear hne
  go_quiet (simp [e0])
  go_wp2
  go_roundw
  case rel=>exact ⟨m+1,by omega,by go_num,Lib.hid (below_drewN HBi.out _)⟩
  case measure=>simp [intOf];omega
 have d1:decide ((m:Int) < (k:Int))=false:=decide_eq_false (by omega)
 have HBv:=Lib.hid (HBw.out.trans (HBi.out.mono HBw.out.size))
 go_wp2
 go_roundw
 case rel=>exact ⟨k+1,by omega,by go_num,HBv⟩
 case measure=>simp [intOf];omega
end Go.Proofs.Ytjccgneimknbpaa.L
