/- What a route needs, and why two routes exclude each other, as plain functions. No program is named. -/
import Derived.Test.YtjccgneimknbpaaXb
import Derived.WalkLawsBesides
set_option linter.unusedVariables false
set_option linter.unusedSimpArgs false
namespace Go.Proofs.Ytjccgneimknbpaa.L
open Go.RowKit
theorem named_q {s:ByteArray} {w:World} {r:Bool} (hs:s.size≤9223372036854775807) (h:pv (nameP s)=r):Calls Try.prog 94 #[.string s] w fun e w'=>e=.returned (.bool r)∧w'=w:=by
 subst h
 exact (named s w hs).mono fun e w' ⟨h1,h2⟩=>⟨h1,h2.symm⟩
set_option maxRecDepth 100000 in
set_option maxHeartbeats 1000000 in
theorem implGood {ok:Nat→Prop} (n:Net) (A0 A1:Option Addr) (c0 c1:Nat) (w:World) (hp:pieceK.C w ok A0 n.pieces) (hj:(jointK 102).C w ok A1 n.joints) (hfit:Hid n.fit) (hu:Hid (∀e,uses n.joints e≤1048576)) :
  Calls Try.prog 93 #[.agg #[.slice A0 n.pieces.length c0,.slice A1 n.joints.length c1]] w (RetB (eqv (netOk n) ⟨0,0⟩) w):=by
 obtain ⟨f,hf⟩:∃f,Hid (netOk n=f):=⟨_,Lib.hid rfl⟩
 obtain ⟨a,b⟩:=f
 have HE:Hid (eqv (netOk n) ⟨0,0⟩=eqv (⟨a,b⟩:Fault) ⟨0,0⟩):=Lib.hid (by rw [hf.out])
 by_cases h0:a=0
 ·have d0:(a == 0)=true:=int_eqt h0
  by_cases h1:b=0
  ·have d1:(b == 0)=true:=int_eqt h1
   have HT:Hid (eqv (netOk n) ⟨0,0⟩=true):=Lib.hid (by rw [HE.out,h0,h1];exact eqv_self _)
   clear h0 h1
   go_enter Try.func93,Try.ntmps93
   go_wp2_with fail
   refine (implNetOk n A0 A1 c0 c1 _ (Kn.C_below (below_alloc _ _) hp) (Kn.C_below (below_alloc _ _) hj) hfit hu).mono ?_
   rintro e w1 ⟨rfl,hb1⟩
   rw [hf.out]
   go_wp2
   go_ret
   exact ⟨by rw [HT.out];rfl,(below_alloc _ _).trans (hb1.mono (by simp))⟩
  ·have d1:(b == 0)=false:=int_eqf h1
   have HT:Hid (eqv (netOk n) ⟨0,0⟩=false):=Lib.hid (by rw [HE.out];exact eqv_false (by intro h;injection h with _ h;exact h1 h))
   clear h0 h1
   go_enter Try.func93,Try.ntmps93
   go_wp2_with fail
   refine (implNetOk n A0 A1 c0 c1 _ (Kn.C_below (below_alloc _ _) hp) (Kn.C_below (below_alloc _ _) hj) hfit hu).mono ?_
   rintro e w1 ⟨rfl,hb1⟩
   rw [hf.out]
   go_wp2
   go_ret
   exact ⟨by rw [HT.out];rfl,(below_alloc _ _).trans (hb1.mono (by simp))⟩
 ·have d0:(a == 0)=false:=int_eqf h0
  have HT:Hid (eqv (netOk n) ⟨0,0⟩=false):=Lib.hid (by rw [HE.out];exact eqv_false (by intro h;injection h with h _;exact h0 h))
  clear h0
  go_enter Try.func93,Try.ntmps93
  go_wp2_with fail
  refine (implNetOk n A0 A1 c0 c1 _ (Kn.C_below (below_alloc _ _) hp) (Kn.C_below (below_alloc _ _) hj) hfit hu).mono ?_
  rintro e w1 ⟨rfl,hb1⟩
  rw [hf.out]
  go_wp2
  go_ret
  exact ⟨by rw [HT.out];rfl,(below_alloc _ _).trans (hb1.mono (by simp))⟩
theorem clash_comm {a b:Signal} (h:clash a b):clash b a:=by
 rcases h with h | ⟨h1,h2,h3⟩
 ·exact .inl h.symm
 ·exact .inr ⟨h1.symm,h2.symm,h3.symm⟩
set_option maxRecDepth 100000 in
set_option maxHeartbeats 8000000 in
theorem implSignalsOk {ok ok':Nat→Prop} (n:Net) (ss:List Signal) (A0 A1 A2:Option Addr) (c0 c1 c2:Nat) (w:World) (hp:pieceK.C w ok A0 n.pieces) (hj:(jointK 102).C w ok A1 n.joints) (hs:signalK.C w ok' A2 ss) (hcap:ss.length≤c2) (hfit:Hid n.fit) (hu:Hid (∀e,uses n.joints e≤1048576)) (hsf:Hid (∀s∈ss,s.fit)) :
  Calls Try.prog 68 #[.agg #[.slice A0 n.pieces.length c0,.slice A1 n.joints.length c1],.slice A2 ss.length c2] w (RetV (signalsOk n ss).v w):=by
 have hm2:=hs.1
 obtain ⟨W0,hW0,hB0,f0,f1,f2,f3,f4,f5,hs0,hs1⟩:∃W0,W0=(w.alloc (.cells #[.slice A0 n.pieces.length c0,.slice A1 n.joints.length c1] 26)).alloc (.cells #[.int .i64 0,.int .i64 0] 112)∧Below w.heap.size w W0 ∧
   W0.cell? ⟨w.heap.size,0,none⟩=some (.slice A0 n.pieces.length c0)∧W0.cell? ⟨w.heap.size,1,none⟩=some (.slice A1 n.joints.length c1)∧W0.cell? ⟨w.heap.size+1,0,none⟩=some (.int .i64 0)∧W0.cell? ⟨w.heap.size+1,1,none⟩=some (.int .i64 0) ∧
   W0.frozen? ⟨w.heap.size+1,0,none⟩=false∧W0.frozen? ⟨w.heap.size+1,1,none⟩=false∧w.heap.size < W0.heap.size∧w.heap.size+1 < W0.heap.size:=⟨_,rfl,(below_alloc _ _).alloc (by simp) _,by simp,by simp,by simp,by simp,by simp,by simp,by simp;omega,by simp⟩
 have hp0:=Kn.C_below hB0 hp
 have hj0:=Kn.C_below hB0 hj
 by_cases g:netOk n=⟨0,0⟩
 rotate_left
 ·have HE:Hid (eqv (netOk n) ⟨0,0⟩=false):=Lib.hid (eqv_false g)
  have HN:Hid (signalsOk n ss=⟨1,0⟩):=Lib.hid (signalsOk_1 g)
  clear g
  go_enter Try.func68,Try.ntmps68
  go_wp2_with fail
  rw [←hW0]
  clear hW0
  refine (implGood n A0 A1 c0 c1 _ hp0 hj0 hfit hu).mono ?_
  rintro e w1 ⟨rfl,hb⟩
  rw [HE.out]
  obtain ⟨hc,hf⟩:=bcell hb
  have hs2:w.heap.size < w1.heap.size:=by have:=hb.size;omega
  have hs3:w.heap.size+1 < w1.heap.size:=by have:=hb.size;omega
  have hbw:=hB0.trans (hb.mono hB0.size)
  go_wp2
  exact bodyPost_ret (v:=.agg #[.int .i64 1,.int .i64 0]) (by simp [results,Try.results68,go_sem,hc,hs0,hs1,hs2,hs3,f2,f3]) rfl ⟨by rw [HN.out],by repeat' first | exact hbw | (refine below_drewN ?_ _) | (refine Below.alloc ?_ ?_ _) | (refine Below.setCell ?_ ?_ _) | omega | (simp;done) | (simp;omega)⟩
 have HE:Hid (eqv (netOk n) ⟨0,0⟩=true):=Lib.hid (eqv_true g)
 have G:=Lib.hid g
 obtain ⟨n0,n1,n2,n3⟩:=pieces_of_ok g
 have HP:=Lib.hid n3
 clear g n3
 by_cases b2:60 < ss.length
 ·have HN:Hid (signalsOk n ss=⟨2,0⟩):=Lib.hid (signalsOk_2 G.out b2)
  go_enter Try.func68,Try.ntmps68
  go_wp2_with fail
  rw [←hW0]
  clear hW0
  refine (implGood n A0 A1 c0 c1 _ hp0 hj0 hfit hu).mono ?_
  rintro e w1 ⟨rfl,hb⟩
  rw [HE.out]
  obtain ⟨hc,hf⟩:=bcell hb
  have hs2:w.heap.size < w1.heap.size:=by have:=hb.size;omega
  have hs3:w.heap.size+1 < w1.heap.size:=by have:=hb.size;omega
  have hbw:=hB0.trans (hb.mono hB0.size)
  go_wp2
  exact bodyPost_ret (v:=.agg #[.int .i64 2,.int .i64 0]) (by simp [results,Try.results68,go_sem,hc,hs0,hs1,hs2,hs3,f2,f3]) rfl ⟨by rw [HN.out],by repeat' first | exact hbw | (refine below_drewN ?_ _) | (refine Below.alloc ?_ ?_ _) | (refine Below.setCell ?_ ?_ _) | omega | (simp;done) | (simp;omega)⟩
 have B2:=Lib.hid b2
 go_enter Try.func68,Try.ntmps68
 go_wp2_with fail
 rw [←hW0]
 clear hW0
 refine (implGood n A0 A1 c0 c1 _ hp0 hj0 hfit hu).mono ?_
 rintro e wq ⟨rfl,hbq⟩
 rw [HE.out]
 clear hj0
 go_upto_region 5 with (fail)
 go_wp2
 go_loopw [21] (fun i wr=>∃k:Nat,k≤ss.length∧i=.int .i64 k∧Hid (∀j,j < k→¬sbad3 n ss j)∧Below W0.heap.size W0 wr) (fun i _=>ss.length - (intOf i).toNat)
 case atStart=>exact ⟨0,Nat.zero_le _,rfl,Lib.hid (fun j h=>absurd h (by omega)),hbq⟩
 case round =>
  clear hbq
  obtain ⟨k,hk,rfl,HB3,hb⟩:=hrel
  obtain ⟨wo,rfl⟩:∃wo:World,wo=wr:=⟨_,rfl⟩
  obtain ⟨hc,hf⟩:=bcell hb
  have hs2:w.heap.size < wo.heap.size:=by have:=hb.size;omega
  have hs3:w.heap.size+1 < wo.heap.size:=by have:=hb.size;omega
  have hbw:=hB0.trans (hb.mono hB0.size)
  by_cases hlt:k < ss.length
  ·obtain ⟨a0,rfl,y0,y1,y2,y3,E,g0,g1,g2,g3⟩:=signalK_at (Kn.C_below hbw hs) k hlt
   have i0:(0:Int)≤(k:Int):=Int.natCast_nonneg _
   have i1:(k:Int) < (ss.length:Int):=by omega
   have hys:y0.size≤9223372036854775807:=hsf.out _ (mem_of_get E.out)
   have hbx:=hbw.alloc hbw.size (Obj.cells #[.string y0,.int .i64 y1,.int .i64 y2,.int .i64 y3] 62)
   have hbo:=hb.alloc hb.size (Obj.cells #[.string y0,.int .i64 y1,.int .i64 y2,.int .i64 y3] 62)
   by_cases q0:nameP y0
   rotate_left
   ·have D0:pv (nameP y0)=false:=pv_false q0
    have HN:Hid (signalsOk n ss=⟨3,k⟩):=Lib.hid (signalsOk_3 G.out B2.out hlt ⟨_,E.out,fun (h:signalP n ⟨y0,y1,y2,y3⟩)=>q0 h.1⟩ HB3.out)
    clear q0
    go_wp2
    go_quiet ((go_at_call 94;exact Calls.quiet_of_same (named_q hys D0)))
    go_wp2
    exact bodyPost_ret (v:=.agg #[.int .i64 3,.int .i64 k]) (by simp [results,Try.results68,go_sem,hc,hs0,hs1,hs2,hs3,f2,f3]) rfl ⟨by rw [HN.out],by repeat' first | exact hbw | (refine below_drewN ?_ _) | (refine Below.alloc ?_ ?_ _) | (refine Below.setCell ?_ ?_ _) | omega | (simp;done) | (simp;omega)⟩
   have D0:pv (nameP y0)=true:=pv_true q0
   by_cases q1:y1 < 0
   ·have d1:decide (y1 < 0)=true:=decide_eq_true q1
    have HN:Hid (signalsOk n ss=⟨3,k⟩):=Lib.hid (signalsOk_3 G.out B2.out hlt ⟨_,E.out,fun (h:signalP n ⟨y0,y1,y2,y3⟩)=>by have:=h.2.1.1;simp only at this;omega⟩ HB3.out)
    clear q0 q1
    go_wp2
    go_quiet ((go_at_call 94;exact Calls.quiet_of_same (named_q hys D0)))
    go_wp2
    exact bodyPost_ret (v:=.agg #[.int .i64 3,.int .i64 k]) (by simp [results,Try.results68,go_sem,hc,hs0,hs1,hs2,hs3,f2,f3]) rfl ⟨by rw [HN.out],by repeat' first | exact hbw | (refine below_drewN ?_ _) | (refine Below.alloc ?_ ?_ _) | (refine Below.setCell ?_ ?_ _) | omega | (simp;done) | (simp;omega)⟩
   have d1:decide (y1 < 0)=false:=decide_eq_false q1
   by_cases q2:(n.pieces.length:Int)≤y1
   ·have d2:decide ((n.pieces.length:Int)≤y1)=true:=decide_eq_true q2
    have HN:Hid (signalsOk n ss=⟨3,k⟩):=Lib.hid (signalsOk_3 G.out B2.out hlt ⟨_,E.out,fun (h:signalP n ⟨y0,y1,y2,y3⟩)=>by have:=h.2.1.2;simp only at this;omega⟩ HB3.out)
    clear q0 q1 q2
    go_wp2
    go_quiet ((go_at_call 94;exact Calls.quiet_of_same (named_q hys D0)))
    go_wp2
    exact bodyPost_ret (v:=.agg #[.int .i64 3,.int .i64 k]) (by simp [results,Try.results68,go_sem,hc,hs0,hs1,hs2,hs3,f2,f3]) rfl ⟨by rw [HN.out],by repeat' first | exact hbw | (refine below_drewN ?_ _) | (refine Below.alloc ?_ ?_ _) | (refine Below.setCell ?_ ?_ _) | omega | (simp;done) | (simp;omega)⟩
   have d2:decide ((n.pieces.length:Int)≤y1)=false:=decide_eq_false q2
   by_cases q3:y3=1∨y3=-1
   rotate_left
   ·have d3:(y3 != 1)=true:=int_ne (fun h=>q3 (.inl h))
    have d4:(y3 != -1)=true:=int_ne (fun h=>q3 (.inr h))
    have HN:Hid (signalsOk n ss=⟨3,k⟩):=Lib.hid (signalsOk_3 G.out B2.out hlt ⟨_,E.out,fun (h:signalP n ⟨y0,y1,y2,y3⟩)=>q3 h.2.2.1⟩ HB3.out)
    clear q0 q1 q2 q3
    go_wp2
    go_quiet ((go_at_call 94;exact Calls.quiet_of_same (named_q hys D0)))
    go_wp2
    exact bodyPost_ret (v:=.agg #[.int .i64 3,.int .i64 k]) (by simp [results,Try.results68,go_sem,hc,hs0,hs1,hs2,hs3,f2,f3]) rfl ⟨by rw [HN.out],by repeat' first | exact hbw | (refine below_drewN ?_ _) | (refine Below.alloc ?_ ?_ _) | (refine Below.setCell ?_ ?_ _) | omega | (simp;done) | (simp;omega)⟩
   obtain ⟨u,hu1,hu2⟩:∃u:Nat,y1=(u:Int)∧u < n.pieces.length:=⟨y1.toNat,by omega,by omega⟩
   obtain ⟨ap,rfl,z0,z1,z2,z3,EZ,p0,p1,p2,p3⟩:=pieceK_at (Kn.C_below hbx hp) u hu2
   obtain ⟨_,z1a,z1b,_⟩:=HP.out _ (mem_of_get EZ.out)
   simp only at z1a z1b
   have j0:(0:Int)≤(u:Int):=Int.natCast_nonneg _
   have j1:(u:Int) < (n.pieces.length:Int):=by omega
   have SP:Hid (signalP n ⟨y0,y1,y2,y3⟩↔(1≤y2∧y2≤z1 - 1)):=Lib.hid ⟨fun h=>by
     obtain ⟨p,h1,h2,h3⟩:=h.2.2.2
     simp only [hu1,Int.toNat_natCast] at h1
     rw [EZ.out] at h1
     obtain rfl:=Option.some.inj h1
     exact ⟨h2,h3⟩,fun h=>⟨q0,⟨by simp only;omega,by simp only;omega⟩,q3,_,by simp only [hu1,Int.toNat_natCast];exact EZ.out,h.1,h.2⟩⟩
   have Q3:=Lib.hid q3
   clear q0 q1 q2 q3
   subst hu1
   have d2n:decide (n.pieces.length≤u)=false:=decide_eq_false (by omega)
   by_cases q4:y2 < 1
   ·have d5:decide (y2 < 1)=true:=decide_eq_true q4
    have HN:Hid (signalsOk n ss=⟨3,k⟩):=Lib.hid (signalsOk_3 G.out B2.out hlt ⟨_,E.out,fun h=>by have:=SP.out.1 h;omega⟩ HB3.out)
    clear q4
    rcases Q3.out with q2 | q2
    ·have d3:(y3 != 1)=false:=by rw [q2];rfl
     clear q2
     go_wp2
     go_quiet ((go_at_call 94;exact Calls.quiet_of_same (named_q hys D0)))
     go_wp2
     exact bodyPost_ret (v:=.agg #[.int .i64 3,.int .i64 k]) (by simp [results,Try.results68,go_sem,hc,hs0,hs1,hs2,hs3,f2,f3]) rfl ⟨by rw [HN.out],by repeat' first | exact hbw | (refine below_drewN ?_ _) | (refine Below.alloc ?_ ?_ _) | (refine Below.setCell ?_ ?_ _) | omega | (simp;done) | (simp;omega)⟩
    ·have d3:(y3 != 1)=true:=by rw [q2];rfl
     have d4:(y3 != -1)=false:=by rw [q2];rfl
     clear q2
     go_wp2
     go_quiet ((go_at_call 94;exact Calls.quiet_of_same (named_q hys D0)))
     go_wp2
     exact bodyPost_ret (v:=.agg #[.int .i64 3,.int .i64 k]) (by simp [results,Try.results68,go_sem,hc,hs0,hs1,hs2,hs3,f2,f3]) rfl ⟨by rw [HN.out],by repeat' first | exact hbw | (refine below_drewN ?_ _) | (refine Below.alloc ?_ ?_ _) | (refine Below.setCell ?_ ?_ _) | omega | (simp;done) | (simp;omega)⟩
   have d5:decide (y2 < 1)=false:=decide_eq_false q4
   by_cases q5:z1 - 1 < y2
   ·have d6:decide (z1 - 1 < y2)=true:=decide_eq_true q5
    have HN:Hid (signalsOk n ss=⟨3,k⟩):=Lib.hid (signalsOk_3 G.out B2.out hlt ⟨_,E.out,fun h=>by have:=SP.out.1 h;omega⟩ HB3.out)
    clear q4 q5
    rcases Q3.out with q2 | q2
    ·have d3:(y3 != 1)=false:=by rw [q2];rfl
     clear q2
     go_wp2
     go_quiet ((go_at_call 94;exact Calls.quiet_of_same (named_q hys D0)))
     go_wp2
     exact bodyPost_ret (v:=.agg #[.int .i64 3,.int .i64 k]) (by simp [results,Try.results68,go_sem,hc,hs0,hs1,hs2,hs3,f2,f3]) rfl ⟨by rw [HN.out],by repeat' first | exact hbw | (refine below_drewN ?_ _) | (refine Below.alloc ?_ ?_ _) | (refine Below.setCell ?_ ?_ _) | omega | (simp;done) | (simp;omega)⟩
    ·have d3:(y3 != 1)=true:=by rw [q2];rfl
     have d4:(y3 != -1)=false:=by rw [q2];rfl
     clear q2
     go_wp2
     go_quiet ((go_at_call 94;exact Calls.quiet_of_same (named_q hys D0)))
     go_wp2
     exact bodyPost_ret (v:=.agg #[.int .i64 3,.int .i64 k]) (by simp [results,Try.results68,go_sem,hc,hs0,hs1,hs2,hs3,f2,f3]) rfl ⟨by rw [HN.out],by repeat' first | exact hbw | (refine below_drewN ?_ _) | (refine Below.alloc ?_ ?_ _) | (refine Below.setCell ?_ ?_ _) | omega | (simp;done) | (simp;omega)⟩
   have d6:decide (z1 - 1 < y2)=false:=decide_eq_false q5
   have HN:=Lib.hid (none_snoc HB3.out (fun ⟨s,h1,h2⟩=>by
    rw [E.out] at h1
    obtain rfl:=Option.some.inj h1
    exact h2 (SP.out.2 ⟨by omega,by omega⟩)))
   clear q4 q5
   rcases Q3.out with q2 | q2
   ·have d3:(y3 != 1)=false:=by rw [q2];rfl
    clear q2
    go_wp2
    go_quiet ((go_at_call 94;exact Calls.quiet_of_same (named_q hys D0)))
    go_wp2
    go_roundw
    case rel=>exact ⟨k+1,by omega,by go_num,HN,below_drewN hbo _⟩
    case measure=>simp [intOf];omega
   ·have d3:(y3 != 1)=true:=by rw [q2];rfl
    have d4:(y3 != -1)=false:=by rw [q2];rfl
    clear q2
    go_wp2
    go_quiet ((go_at_call 94;exact Calls.quiet_of_same (named_q hys D0)))
    go_wp2
    go_roundw
    case rel=>exact ⟨k+1,by omega,by go_num,HN,below_drewN hbo _⟩
    case measure=>simp [intOf];omega
  ·have hge:ss.length≤k:=by omega
   have HB3':Hid (∀j,j < ss.length→¬sbad3 n ss j):=Lib.hid (fun j h=>HB3.out j (by omega))
   clear HB3 hc hf hs2 hs3 hbw
   go_wp2
   go_loopw [76] (fun i wr=>∃k:Nat,k≤ss.length∧i=.int .i64 k∧Hid (∀j,j < k→¬sbad4 ss j)∧Below W0.heap.size W0 wr) (fun i _=>ss.length - (intOf i).toNat)
   case atStart=>exact ⟨0,Nat.zero_le _,rfl,Lib.hid (fun j h=>absurd h (by omega)),hb⟩
   case round =>
    clear hk hge hb hlt
    obtain ⟨k,hk,rfl,HB4,hb⟩:=hrel
    obtain ⟨wp,rfl⟩:∃wp:World,wp=wr:=⟨_,rfl⟩
    obtain ⟨hc,hf⟩:=bcell hb
    have hs2:w.heap.size < wp.heap.size:=by have:=hb.size;omega
    have hs3:w.heap.size+1 < wp.heap.size:=by have:=hb.size;omega
    have hbw:=hB0.trans (hb.mono hB0.size)
    by_cases hlt:k < ss.length
    ·obtain ⟨a0,rfl,y0,y1,y2,y3,E,g0,g1,g2,g3⟩:=signalK_at (Kn.C_below hbw hs) k hlt
     have i0:(0:Int)≤(k:Int):=Int.natCast_nonneg _
     have i1:(k:Int) < (ss.length:Int):=by omega
     have i2:(k:Int)≤(c2:Int):=by omega
     go_wp2
     obtain ⟨W1,hW1,hB1,hs4,e0,e1,e2,e3⟩:∃W1,W1=wp.alloc (.cells #[.string y0,.int .i64 y1,.int .i64 y2,.int .i64 y3] 62)∧Below wp.heap.size wp W1∧wp.heap.size < W1.heap.size ∧
      W1.cell? ⟨wp.heap.size,0,none⟩=some (.string y0)∧W1.cell? ⟨wp.heap.size,1,none⟩=some (.int .i64 y1)∧W1.cell? ⟨wp.heap.size,2,none⟩=some (.int .i64 y2)∧W1.cell? ⟨wp.heap.size,3,none⟩=some (.int .i64 y3):=⟨_,rfl,below_alloc _ _,by simp,by simp,by simp,by simp,by simp⟩
     rw [←hW1]
     clear hW1
     have hb1:=hb.trans (hB1.mono hb.size)
     go_loopw [85] (fun i wr=>∃m:Nat,m≤k∧i=.int .i64 m∧Hid (¬before ss k m)∧Below W1.heap.size W1 wr) (fun i _=>k - (intOf i).toNat)
     case atStart=>exact ⟨0,Nat.zero_le _,rfl,Lib.hid before_zero,Below.refl _ _⟩
     case round =>
      obtain ⟨m,hm,rfl,HM,hbi⟩:=hrel
      have hbj:=hb1.trans (hbi.mono hb1.size)
      have hbw2:=hB0.trans (hbj.mono hB0.size)
      obtain ⟨hcj,hfj⟩:=bcell hbj
      have hs7:w.heap.size < wr.heap.size:=by have:=hbj.size;omega
      have hs8:w.heap.size+1 < wr.heap.size:=by have:=hbj.size;omega
      have x0:=cell_below hbi e0
      have x1:=cell_below hbi e1
      have x2:=cell_below hbi e2
      have x3:=cell_below hbi e3
      have hsx:wp.heap.size < wr.heap.size:=by have:=hbi.size;omega
      by_cases hlm:m < k
      ·obtain ⟨ad,he,z0,z1,z2,z3,E1,k0,k1,k2,k3⟩:=signalK_at (Kn.C_below hbw2 hs) m (by omega)
       obtain rfl:=Option.some.inj he
       have m0:(0:Int)≤(m:Int):=Int.natCast_nonneg _
       have m1:(m:Int) < (k:Int):=by omega
       have hbx:=hbi.alloc hbi.size (Obj.cells #[.string z0,.int .i64 z1,.int .i64 z2,.int .i64 z3] 62)
       clear he
       by_cases q0:y0=z0
       ·have d0:=str_eq q0
        have HN:Hid (signalsOk n ss=⟨4,k⟩):=Lib.hid (signalsOk_4 G.out B2.out HB3'.out hlt ⟨m,_,_,hlm,E1.out,E.out,clash_comm (.inl q0:clash ⟨y0,y1,y2,y3⟩ ⟨z0,z1,z2,z3⟩)⟩ HB4.out)
        clear q0
        go_wp2
        exact bodyPost_ret (v:=.agg #[.int .i64 4,.int .i64 k]) (by simp [results,Try.results68,go_sem,hcj,hs0,hs1,hs7,hs8,f2,f3]) rfl ⟨by rw [HN.out],by repeat' first | exact hbw2 | (refine below_drewN ?_ _) | (refine Below.alloc ?_ ?_ _) | (refine Below.setCell ?_ ?_ _) | omega | (simp;done) | (simp;omega)⟩
       have d0:=str_ne q0
       by_cases q1:y1=z1
       rotate_left
       ·have d1:=int_eqf q1
        have HN:=Lib.hid (before_snoc HM.out E1.out E.out (fun h=>by rcases clash_comm h with h | h;exact (q0 h).elim;exact (q1 h.1).elim))
        clear q0 q1
        go_wp2
        go_roundw
        case rel=>exact ⟨m+1,by omega,by go_num,HN,hbx⟩
        case measure=>simp [intOf];omega
       have d1:=int_eqt q1
       by_cases q2:y2=z2
       rotate_left
       ·have d2:=int_eqf q2
        have HN:=Lib.hid (before_snoc HM.out E1.out E.out (fun h=>by rcases clash_comm h with h | h;exact (q0 h).elim;exact (q2 h.2.1).elim))
        clear q0 q1 q2
        go_wp2
        go_roundw
        case rel=>exact ⟨m+1,by omega,by go_num,HN,hbx⟩
        case measure=>simp [intOf];omega
       have d2:=int_eqt q2
       by_cases q3:y3=z3
       rotate_left
       ·have d3:=int_eqf q3
        have HN:=Lib.hid (before_snoc HM.out E1.out E.out (fun h=>by rcases clash_comm h with h | h;exact (q0 h).elim;exact (q3 h.2.2).elim))
        clear q0 q1 q2 q3
        go_wp2
        go_roundw
        case rel=>exact ⟨m+1,by omega,by go_num,HN,hbx⟩
        case measure=>simp [intOf];omega
       have d3:=int_eqt q3
       have HN:Hid (signalsOk n ss=⟨4,k⟩):=Lib.hid (signalsOk_4 G.out B2.out HB3'.out hlt ⟨m,_,_,hlm,E1.out,E.out,clash_comm (.inr ⟨q1,q2,q3⟩:clash ⟨y0,y1,y2,y3⟩ ⟨z0,z1,z2,z3⟩)⟩ HB4.out)
       clear q0 q1 q2 q3
       go_wp2
       exact bodyPost_ret (v:=.agg #[.int .i64 4,.int .i64 k]) (by simp [results,Try.results68,go_sem,hcj,hs0,hs1,hs7,hs8,f2,f3]) rfl ⟨by rw [HN.out],by repeat' first | exact hbw2 | (refine below_drewN ?_ _) | (refine Below.alloc ?_ ?_ _) | (refine Below.setCell ?_ ?_ _) | omega | (simp;done) | (simp;omega)⟩
      ·obtain rfl:m=k:=by omega
       have HN:=Lib.hid (none_snoc HB4.out HM.out)
       go_wp2
       go_roundw
       case rel=>exact ⟨m+1,by omega,by go_num,HN,hbj⟩
       case measure=>simp [intOf];omega
    ·have HN:Hid (signalsOk n ss=⟨0,0⟩):=Lib.hid (signalsOk_0 G.out B2.out HB3'.out (fun j h=>HB4.out j (by omega)))
     go_wp2
     exact bodyPost_ret (v:=.agg #[.int .i64 0,.int .i64 0]) (by simp [results,Try.results68,go_sem,hc,hs0,hs1,hs2,hs3,f2,f3]) rfl ⟨by rw [HN.out],by repeat' first | exact hbw | (refine below_drewN ?_ _) | (refine Below.alloc ?_ ?_ _) | (refine Below.setCell ?_ ?_ _) | omega | (simp;done) | (simp;omega)⟩
end Go.Proofs.Ytjccgneimknbpaa.L
namespace Go.Proofs.Ytjccgneimknbpaa.L
open Go.RowKit
theorem C_drew {α:Type} {d:Kn α} {w:World} {ok:Nat→Prop} {A:Option Addr} {xs:List α} (h:d.C w ok A xs):d.C w.drew ok A xs :=
 Kn.C_move (w:=w) (fun _ _=>rfl) h
theorem tot_mem {α:Type} {f:α→Nat} {xs:List α} {x:α} (h:x∈xs):f x≤tot f xs:=by
 induction xs with
 | nil=>cases h
 | cons y ys ih =>
  have:tot f (y::ys)=f y+tot f ys:=by simp [tot]
  rcases List.mem_cons.1 h with rfl | h
  ·omega
  ·have:=ih h
   omega
theorem tot_mono {α:Type} {f g:α→Nat} (hfg:∀x,f x≤g x) (xs:List α):tot f xs≤tot g xs:=by
 induction xs with
 | nil=>exact Nat.le_refl _
 | cons y ys ih =>
  have h1:tot f (y::ys)=f y+tot f ys:=by simp [tot]
  have h2:tot g (y::ys)=g y+tot g ys:=by simp [tot]
  have:=hfg y
  omega
theorem tot_one {α:Type} (xs:List α):tot (fun _=>1) xs=xs.length:=by
 induction xs with
 | nil=>rfl
 | cons y ys ih =>
  have h1:tot (fun _:α=>1) (y::ys)=1+tot (fun _=>1) ys:=by simp [tot]
  rw [h1,ih,List.length_cons]
  omega
theorem usesIn_len (es:List End) (e:End):usesIn es e≤es.length:=by
 rw [←tot_one es]
 exact tot_mono (fun x=>by split <;> omega) _
theorem uses_len (js:List Joint) (e:End):uses js e≤tot Joint.n js:=tot_mono (fun j=>by have:=usesIn_len j.ends e;unfold Joint.n;omega) _
end Go.Proofs.Ytjccgneimknbpaa.L
namespace Go.Proofs.Ytjccgneimknbpaa.L
open Go.RowKit
structure NC (eE:Nat) (w:World) (ok:Nat→Prop) (x:Net) (A0 A1:Option Addr):Prop where
 p:pieceK.C w ok A0 x.pieces
 j:(jointK eE).C w ok A1 x.joints
section
variable {eE:Nat} {w w1:World} {ok ok':Nat→Prop} {x:Net} {A0 A1:Option Addr}
theorem NC.below (hb:Below w.heap.size w w1) (h:NC eE w ok x A0 A1):NC eE w1 ok x A0 A1:=⟨Kn.C_below hb h.p,Kn.C_below hb h.j⟩
theorem NC.mono (hm:∀b,ok b→ok' b) (h:NC eE w ok x A0 A1):NC eE w ok' x A0 A1:=⟨Kn.C_mono hm h.p,Kn.C_mono hm h.j⟩
theorem NC.drew (h:NC eE w ok x A0 A1):NC eE w.drew ok x A0 A1:=⟨C_drew h.p,C_drew h.j⟩
theorem NC.move (hm:∀b,ok b→w1.heap[b]?=w.heap[b]?) (h:NC eE w ok x A0 A1):NC eE w1 ok x A0 A1:=⟨Kn.C_move hm h.p,Kn.C_move hm h.j⟩
end
structure NetIn (x:Net):Prop where
 n:x.n≤1048576
 fit:x.fit
theorem NetIn.uses {x:Net} (h:NetIn x):∀e,uses x.joints e≤1048576:=fun e=>by have:=uses_len x.joints e;have:=h.n;unfold Net.n lenS at this;omega
theorem NetIn.pieces {x:Net} (h:NetIn x):x.pieces.length≤1048576:=by have:=h.n;unfold Net.n lenS at this;omega
theorem NetIn.joints {x:Net} (h:NetIn x):x.joints.length≤1048576:=by have:=h.n;unfold Net.n lenS at this;omega
theorem NetIn.ends {x:Net} (h:NetIn x):∀j∈x.joints,j.ends.length≤1048576:=fun j hj=>by
 have h1:=tot_mem (f:=Joint.n) hj
 have:j.ends.length≤Joint.n j:=by unfold Joint.n;omega
 have:=h.n
 unfold Net.n lenS at this
 omega
structure SigIn (ss:List Signal):Prop where
 n:lenS Signal.n ss≤1048576
 fit:∀s∈ss,s.fit
theorem SigIn.len {ss:List Signal} (h:SigIn ss):ss.length≤1048576:=by have:=h.n;unfold lenS at this;omega
theorem specSignalsOkC {ok ok':Nat→Prop} (n:Net) (ss:List Signal) (A0 A1 A2:Option Addr) (c0 c1 c2:Nat) (w:World) (h:NC 102 w ok n A0 A1) (hs:signalK.C w ok' A2 ss) (hn:NetIn n) (hi:SigIn ss) :
  Calls Try.prog 62 #[.agg #[.slice A0 n.pieces.length c0,.slice A1 n.joints.length c1],.slice A2 ss.length c2] w (RetV (signalsOk n ss).v w):=specSignalsOk n ss A0 A1 A2 c0 c1 c2 w h.p h.j hs (Lib.hid hn.fit) (Lib.hid hn.uses) (Lib.hid hi.fit)
theorem implSignalsOkC {ok ok':Nat→Prop} (n:Net) (ss:List Signal) (A0 A1 A2:Option Addr) (c0 c1 c2:Nat) (w:World) (h:NC 102 w ok n A0 A1) (hs:signalK.C w ok' A2 ss) (hc:ss.length≤c2) (hn:NetIn n) (hi:SigIn ss) :
  Calls Try.prog 68 #[.agg #[.slice A0 n.pieces.length c0,.slice A1 n.joints.length c1],.slice A2 ss.length c2] w (RetV (signalsOk n ss).v w):=implSignalsOk n ss A0 A1 A2 c0 c1 c2 w h.p h.j hs hc (Lib.hid hn.fit) (Lib.hid hn.uses) (Lib.hid hi.fit)
theorem RetS.opC {α:Type} {e:Nat} {d:Kn α} {xs:List α} {w w':World} {en:Ending} (h:RetS e d xs w en w') :
  ∃A c,en=.returned (.slice A xs.length c)∧xs.length≤c∧Hid (d.C w' (fun _=>True) A xs)∧Below w.heap.size w w':=by
 obtain ⟨A,c,F,rfl,o,hf,hb⟩:=h
 obtain ⟨A',c',he,hl,hc⟩:=(Kn.slice e d).K_of o
 injection he with he _
 injection he with he _ hcc
 subst he
 subst hcc
 exact ⟨A,c,rfl,hl,Lib.hid (Kn.C_mono (fun _ _=>trivial) hc),hb⟩
end Go.Proofs.Ytjccgneimknbpaa.L
namespace Go.Proofs.Ytjccgneimknbpaa.L
open Go.RowKit
open Classical
theorem tot_in {α:Type} {f:α→Nat} {xs:List α} {x:α} (h:x∈xs):f x≤tot f xs:=by
 induction xs with
 | nil=>cases h
 | cons y ys ih =>
  have:tot f (y::ys)=f y+tot f ys:=by simp [tot]
  rcases List.mem_cons.1 h with rfl | h
  ·omega
  ·have:=ih h
   omega
theorem tot_two {α:Type} {f:α→Nat}:∀{xs:List α} {i j:Nat} {x y:α},xs[i]?=some x→xs[j]?=some y→i < j→f x+f y≤tot f xs
 | [],_,_,_,_,h,_,_=>by simp at h
 | a::xs,0,j,x,y,hi,hj,hne=>by
  have ht:tot f (a::xs)=f a+tot f xs:=by simp [tot]
  simp only [List.getElem?_cons_zero,Option.some.injEq] at hi
  obtain ⟨j,rfl⟩:∃m,j=m+1:=⟨j - 1,by omega⟩
  rw [List.getElem?_cons_succ] at hj
  have:=tot_in (f:=f) (mem_of_get hj)
  rw [ht,hi]
  omega
 | a::xs,i+1,j,x,y,hi,hj,hne=>by
  have ht:tot f (a::xs)=f a+tot f xs:=by simp [tot]
  obtain ⟨j,rfl⟩:∃m,j=m+1:=⟨j - 1,by omega⟩
  rw [List.getElem?_cons_succ] at hi hj
  have:=tot_two (f:=f) hi hj (by omega)
  omega
def At (n:Net) (e:End) (j k:Nat) (x:Joint):Prop:=n.joints[j]?=some x∧x.ends[k]?=some e
theorem tot_pos {α:Type} {f:α→Nat}:∀{xs:List α},0 < tot f xs→∃(i:Nat) (x:α),xs[i]?=some x∧0 < f x
 | [],h=>by simp [tot] at h
 | a::xs,h=>by
  have ht:tot f (a::xs)=f a+tot f xs:=by simp [tot]
  by_cases ha:0 < f a
  ·exact ⟨0,a,rfl,ha⟩
  ·obtain ⟨i,x,h1,h2⟩:=tot_pos (f:=f) (xs:=xs) (by omega)
   exact ⟨i+1,x,h1,h2⟩
theorem usesIn_pos {es:List End} {e:End} (h:0 < usesIn es e):∃k:Nat,es[k]?=some e:=by
 obtain ⟨k,x,h1,h2⟩:=tot_pos h
 split at h2
 ·rename_i he
  exact ⟨k,by rw [h1,of_eqv he]⟩
 ·omega
theorem usesIn_one {es:List End} {e:End} {k:Nat} (h:es[k]?=some e):1≤usesIn es e:=by
 have:=tot_in (f:=fun x=>if eqv x e=true then 1 else 0) (mem_of_get h)
 simp only [eqv_self,if_true] at this
 exact this
theorem usesIn_two {es:List End} {e:End} {k m:Nat} (h:es[k]?=some e) (h2:es[m]?=some e) (hne:k < m):2≤usesIn es e:=by
 have:=tot_two (f:=fun x=>if eqv x e=true then 1 else 0) h h2 hne
 simp only [eqv_self,if_true] at this
 exact this
theorem at_of_uses {n:Net} {e:End} (h:uses n.joints e=1):∃(j k:Nat) (x:Joint),At n e j k x:=by
 obtain ⟨j,x,h1,h2⟩:=tot_pos (f:=fun j:Joint=>usesIn j.ends e) (xs:=n.joints) (by show 0 < uses n.joints e;omega)
 obtain ⟨k,h3⟩:=usesIn_pos h2
 exact ⟨j,k,x,h1,h3⟩
theorem at_one {n:Net} {e:End} (h:uses n.joints e=1) {j k j' k':Nat} {x x':Joint} (h1:At n e j k x) (h2:At n e j' k' x'):j'=j∧k'=k∧x'=x:=by
 have hj:j'=j:=by
  refine Classical.byContradiction fun hne=>?_
  have u1:=usesIn_one h1.2
  have u2:=usesIn_one h2.2
  rcases Nat.lt_or_gt_of_ne hne with hl | hl
  ·have:usesIn x'.ends e+usesIn x.ends e≤uses n.joints e:=tot_two (f:=fun j:Joint=>usesIn j.ends e) h2.1 h1.1 hl
   omega
  ·have:usesIn x.ends e+usesIn x'.ends e≤uses n.joints e:=tot_two (f:=fun j:Joint=>usesIn j.ends e) h1.1 h2.1 hl
   omega
 subst hj
 have hx:x'=x:=Option.some.inj (h2.1.symm.trans h1.1)
 subst hx
 refine ⟨rfl,Classical.byContradiction fun hne=>?_,rfl⟩
 have hle:usesIn x'.ends e≤uses n.joints e:=tot_in (f:=fun j:Joint=>usesIn j.ends e) (mem_of_get h1.1)
 rcases Nat.lt_or_gt_of_ne hne with hl | hl
 ·have:=usesIn_two h2.2 h1.2 hl
  omega
 ·have:=usesIn_two h1.2 h2.2 hl
  omega
structure Good (n:Net):Prop where
 pos:0 < n.pieces.length
 le:n.pieces.length≤100
 jle:n.joints.length≤120
 piece:∀p∈n.pieces,pieceP p
 joint:∀x∈n.joints,jointP n.pieces.length x
 one:∀e,endP n.pieces.length e→uses n.joints e=1
theorem good_of_ok {n:Net} (h:netOk n=⟨0,0⟩):Good n:=by
 obtain ⟨h1,h2,h3,h4⟩:=pieces_of_ok h
 unfold netOk at h
 split at h
 ·simp at h
 split at h
 ·simp at h
 split at h
 ·simp at h
 rename_i g3
 split at h
 ·simp at h
 split at h
 ·simp at h
 rename_i g5
 refine ⟨h1,h2,h3,h4,fun x hx=>Classical.byContradiction fun hb=>?_,fun e he=>Classical.byContradiction fun hb=>?_⟩
 ·obtain ⟨i,hi⟩:=List.mem_iff_getElem?.1 hx
  exact g3 ⟨i,(List.getElem?_eq_some_iff.1 hi).1,x,hi,hb⟩
 ·obtain ⟨p,s⟩:=e
  obtain ⟨⟨e1,e2⟩,e3,e4⟩:=he
  simp only at e1 e2 e3 e4
  obtain ⟨m,rfl⟩:∃m:Nat,p=m:=⟨p.toNat,by omega⟩
  refine g5 ⟨m,by omega,?_⟩
  rcases (show s=0∨s=1 by omega) with rfl | rfl
  ·exact .inl hb
  ·exact .inr hb
noncomputable def atJ (n:Net) (e:End):Nat × Nat:=if h:∃jk:Nat × Nat,∃x,At n e jk.1 jk.2 x then h.choose else (0,0)
def jt (n:Net) (j:Nat):Joint:=n.joints.getD j ⟨0,⟨#[]⟩,[]⟩
def en (x:Joint) (k:Nat):End:=x.ends.getD k ⟨0,0⟩
theorem atJ_eq {n:Net} {e:End} {j k:Nat} {x:Joint} (hg:Good n) (he:endP n.pieces.length e) (h:At n e j k x):atJ n e=(j,k)∧jt n j=x:=by
 have hx:∃jk:Nat × Nat,∃x,At n e jk.1 jk.2 x:=⟨(j,k),x,h⟩
 refine ⟨?_,by unfold jt;rw [List.getD_eq_getElem?_getD,h.1];rfl⟩
 unfold atJ
 rw [dif_pos hx]
 obtain ⟨x',h'⟩:=hx.choose_spec
 obtain ⟨h1,h2,_⟩:=at_one (hg.one e he) h h'
 exact Prod.ext h1 h2
theorem at_get {n:Net} {e:End} (hg:Good n) (he:endP n.pieces.length e):∃j k x,At n e j k x∧atJ n e=(j,k)∧jt n j=x∧jointP n.pieces.length x∧j < n.joints.length∧k < x.ends.length:=by
 obtain ⟨j,k,x,h⟩:=at_of_uses (hg.one e he)
 obtain ⟨h1,h2⟩:=atJ_eq hg he h
 exact ⟨j,k,x,h,h1,h2,hg.joint x (mem_of_get h.1),(List.getElem?_eq_some_iff.1 h.1).1,(List.getElem?_eq_some_iff.1 h.2).1⟩
theorem en_get {x:Joint} {k:Nat} (hk:k < x.ends.length):x.ends[k]?=some (en x k):=by
 unfold en
 rw [List.getD_eq_getElem?_getD,List.getElem?_eq_getElem hk]
 rfl
theorem en_ok {m:Nat} {x:Joint} {k:Nat} (h:jointP m x) (hk:k < x.ends.length):endP m (en x k):=h.2.2 _ (mem_of_get (en_get hk))
def xr (k:Nat):Nat:=if k=0 then 1 else if k=1 then 0 else if k=2 then 3 else 2
def across (x:Joint) (k:Nat):List End :=
 if x.kind=2 then [en x (1 - k)] else if x.kind=3 then (if k=0 then [en x 1,en x 2] else [en x 0]) else if x.kind=4 then [en x (xr k)] else []
def pl (n:Net) (p:Int):Int:=((n.pieces[p.toNat]?).map Piece.len).getD 0
def headE (p way:Int):End:=if way=1 then ⟨p,1⟩ else ⟨p,0⟩
def wayOf (e:End):Int:=if e.side=1 then -1 else 1
def farOf (n:Net) (p a way:Int):Int:=if way=1 then a else pl n p - a
noncomputable def pick (ss:List Signal) (fits:Signal→Prop) (ahead:Signal→Signal→Prop):Nat→Option Nat
 | 0=>none
 | k+1=>match ss[k]? with
  | none=>pick ss fits ahead k
  | some s=>if fits s∧(∀b t,pick ss fits ahead k=some b→ss[b]?=some t→ahead s t) then some k else pick ss fits ahead k
def fitsW (n:Net) (p way far:Int) (s:Signal):Prop:=s.piece=p∧s.way=way∧far < farOf n p s.at_ way
def aheadW (n:Net) (p way:Int) (s t:Signal):Prop:=farOf n p s.at_ way < farOf n p t.at_ way
noncomputable def firstS (n:Net) (ss:List Signal) (p way far:Int):Option Nat:=pick ss (fitsW n p way far) (aheadW n p way) ss.length
def fitsB (p back:Int) (s:Signal):Prop:=s.piece=p∧s.way=back
def aheadB (n:Net) (p back:Int) (s t:Signal):Prop:=farOf n p t.at_ back < farOf n p s.at_ back
noncomputable def lastS (n:Net) (ss:List Signal) (p back:Int):Option Nat:=pick ss (fitsB p back) (aheadB n p back) ss.length
theorem pick_lt {ss:List Signal} {fits:Signal→Prop} {ahead:Signal→Signal→Prop}:∀{k b:Nat},pick ss fits ahead k=some b→b < k∧b < ss.length∧∃s,ss[b]?=some s∧fits s
 | 0,b,h=>by simp [pick] at h
 | k+1,b,h=>by
  unfold pick at h
  split at h
  ·obtain ⟨h1,h2,h3⟩:=pick_lt h
   exact ⟨by omega,h2,h3⟩
  ·rename_i s hs
   split at h
   ·rename_i hc
    obtain rfl:=Option.some.inj h
    exact ⟨by omega,(List.getElem?_eq_some_iff.1 hs).1,s,hs,hc.1⟩
   ·obtain ⟨h1,h2,h3⟩:=pick_lt h
    exact ⟨by omega,h2,h3⟩
theorem pick_yes {ss:List Signal} {fits:Signal→Prop} {ahead:Signal→Signal→Prop} {k:Nat} {s:Signal} (hs:ss[k]?=some s) (hf:fits s) (ha:∀b t,pick ss fits ahead k=some b→ss[b]?=some t→ahead s t):pick ss fits ahead (k+1)=some k:=by
 rw [pick]
 simp only [hs]
 rw [if_pos ⟨hf,ha⟩]
theorem pick_not {ss:List Signal} {fits:Signal→Prop} {ahead:Signal→Signal→Prop} {k:Nat} {s:Signal} (hs:ss[k]?=some s) (hf:¬fits s):pick ss fits ahead (k+1)=pick ss fits ahead k:=by
 rw [pick]
 simp only [hs]
 rw [if_neg (fun h=>hf h.1)]
theorem pick_old {ss:List Signal} {fits:Signal→Prop} {ahead:Signal→Signal→Prop} {k b:Nat} {s t:Signal} (hs:ss[k]?=some s) (hb:pick ss fits ahead k=some b) (ht:ss[b]?=some t) (ha:¬ahead s t):pick ss fits ahead (k+1)=some b:=by
 rw [pick]
 simp only [hs]
 rw [if_neg (fun h=>ha (h.2 b t hb ht)),hb]
def onum (o:Option Nat):Int:=match o with
 | none=>-1
 | some b=>b
def partN (n:Net) (p way a b:Int):Part:=if way=1 then ⟨p,a,b⟩ else ⟨p,pl n p - b,pl n p - a⟩
noncomputable def beyond (n:Net):Nat→Int→Int→Int→Int→List Part
 | 0,_,_,_,_=>[]
 | m+1,p,way,far,left =>
  if left≤0 then [] else
  let til:=if far+left≤pl n p then far+left else pl n p
  let jk:=atJ n (headE p way)
  if left - (til - far)=0∨¬(jt n jk.1).kind=2 then [partN n p way far til]
  else
   let e:=en (jt n jk.1) (1 - jk.2)
   partN n p way far til::beyond n m e.piece (wayOf e) 0 (left - (til - far))
noncomputable def flankF (n:Net) (ss:List Signal) (lies:List Lie) (a:Int):Nat→List End × List Flank→End→List End × List Flank
 | 0,st,_=>st
 | m+1,(seen,fl),e =>
  if e∈seen then (seen,fl) else
  match lastS n ss e.piece (if e.side=0 then -1 else 1) with
  | some b=>(seen++[e],fl++[⟨a,2,b,0⟩])
  | none =>
   let jk:=atJ n ⟨e.piece,1 - e.side⟩
   let x:=jt n jk.1
   if x.kind=1 then (seen++[e],fl++[⟨a,1,jk.1,0⟩])
   else if x.kind=3 then
    if jk.2=0 then flankF n ss lies a m (flankF n ss lies a m (seen++[e],fl) (en x 1)) (en x 2)
    else if (⟨jk.1,jk.2⟩:Lie)∈lies then (seen++[e],fl++[⟨a,4,jk.1,0⟩])
    else (seen++[e],fl++[⟨a,3,jk.1,3 - jk.2⟩])
   else flankF n ss lies a m (seen++[e],fl) ((across x jk.2).headD ⟨0,0⟩)
noncomputable def flanksAt (n:Net) (ss:List Signal) (lies:List Lie) (l:Lie):List Flank :=
 (flankF n ss lies l.joint (2*n.pieces.length+1) ([],[]) (en (jt n l.joint.toNat) (3 - l.lie).toNat)).2
noncomputable def flanksOf (n:Net) (ss:List Signal) (lies:List Lie):List Flank:=(lies.map (flanksAt n ss lies)).flatten
noncomputable def addLie (lies:List Lie) (j:Nat) (l:Int):Option (List Lie) :=
 match lies.find? (fun x=>eqv x.joint (j:Int)) with
 | some x=>if x.lie=l then some lies else none
 | none=>some (lies++[⟨j,l⟩])
def lieAt (k i:Nat):Int:=if k=0 then (i:Int)+1 else k
noncomputable def goOn (r:Route) (x:Joint) (j k i:Nat):Option Route :=
 if x.kind=3 then (addLie r.lies j (lieAt k i)).map (fun l=>{ r with lies:=l })
 else if x.kind=4 then some { r with crosses:=r.crosses++[(j:Int)] }
 else some r
noncomputable def fin (n:Net) (ss:List Signal) (r:Route):Route:={ r with flanks:=flanksOf n ss r.lies }
abbrev St:=List Route × Nat
def full (st:St):Prop:=300 < st.1.length∨20000 < st.2
noncomputable def kidsTo (go:St→Route→Int→Int→Int→St) (r:Route) (x:Joint) (j k:Nat) (l:List End) (st:St):Nat→St
 | 0=>st
 | i+1=>match l[i]? with
  | none=>kidsTo go r x j k l st i
  | some e=>match goOn r x j k i with
   | none=>kidsTo go r x j k l st i
   | some q=>go (kidsTo go r x j k l st i) q e.piece (wayOf e) 0
def Route.on (r:Route) (n:Net) (p way a b:Int):Route:={ r with steps:=r.steps++[⟨p,way⟩],parts:=r.parts++[partN n p way a b] }
def sigFar (n:Net) (ss:List Signal) (b:Nat) (p way:Int):Int:=farOf n p (((ss[b]?).map Signal.at_).getD 0) way
noncomputable def sigR (n:Net) (ss:List Signal) (ov:Int) (r:Route) (p way far:Int) (b:Nat):Route :=
 { r.on n p way far (sigFar n ss b p way) with til:=b,over:=beyond n (ov.toNat+1) p way (sigFar n ss b p way) ov }
noncomputable def walkF (n:Net) (ss:List Signal) (ov:Int):Nat→St→Route→Int→Int→Int→St
 | 0,st,_,_,_,_=>st
 | m+1,st,r,p,way,far =>
  if full (st.1,st.2+1) then (st.1,st.2+1) else
  match firstS n ss p way far with
  | some b=>(st.1++[fin n ss (sigR n ss ov r p way far b)],st.2+1)
  | none =>
   if (⟨p,way⟩:Step)∈r.steps then (st.1,st.2+1) else
   if (jt n (atJ n (headE p way)).1).kind=1 then (st.1++[fin n ss { r.on n p way far (pl n p) with til:=-1 }],st.2+1)
   else kidsTo (walkF n ss ov m) (r.on n p way far (pl n p)) (jt n (atJ n (headE p way)).1) (atJ n (headE p way)).1 (atJ n (headE p way)).2
    (across (jt n (atJ n (headE p way)).1) (atJ n (headE p way)).2) (st.1,st.2+1) (across (jt n (atJ n (headE p way)).1) (atJ n (headE p way)).2).length
section
variable {n:Net} {ss:List Signal} {ov:Int} {m:Nat} {st:St} {r:Route} {p way far:Int}
theorem walkF_full (h:full (st.1,st.2+1)):walkF n ss ov (m+1) st r p way far=(st.1,st.2+1):=by rw [walkF,if_pos h]
theorem walkF_sig {b:Nat} (h:¬full (st.1,st.2+1)) (hb:firstS n ss p way far=some b):walkF n ss ov (m+1) st r p way far=(st.1++[fin n ss (sigR n ss ov r p way far b)],st.2+1):=by
 rw [walkF,if_neg h]
 simp only [hb]
theorem walkF_round (h:¬full (st.1,st.2+1)) (hb:firstS n ss p way far=none) (hr:(⟨p,way⟩:Step)∈r.steps):walkF n ss ov (m+1) st r p way far=(st.1,st.2+1):=by
 rw [walkF,if_neg h]
 simp only [hb]
 rw [if_pos hr]
theorem walkF_end {j k:Nat} {x:Joint} (h:¬full (st.1,st.2+1)) (hb:firstS n ss p way far=none) (hr:¬(⟨p,way⟩:Step)∈r.steps) (ha:atJ n (headE p way)=(j,k)) (hx:jt n j=x) (h1:x.kind=1) :
  walkF n ss ov (m+1) st r p way far=(st.1++[fin n ss { r.on n p way far (pl n p) with til:=-1 }],st.2+1):=by
 rw [walkF,if_neg h]
 simp only [hb]
 rw [if_neg hr,ha]
 simp only [hx]
 rw [if_pos h1]
theorem walkF_on {j k:Nat} {x:Joint} (h:¬full (st.1,st.2+1)) (hb:firstS n ss p way far=none) (hr:¬(⟨p,way⟩:Step)∈r.steps) (ha:atJ n (headE p way)=(j,k)) (hx:jt n j=x) (h1:¬x.kind=1) :
  walkF n ss ov (m+1) st r p way far=kidsTo (walkF n ss ov m) (r.on n p way far (pl n p)) x j k (across x k) (st.1,st.2+1) (across x k).length:=by
 rw [walkF,if_neg h]
 simp only [hb]
 rw [if_neg hr,ha]
 simp only [hx]
 rw [if_neg h1]
end
noncomputable def startR (i:Nat):Route:=⟨i,0,[],[],[],[],[],[]⟩
noncomputable def allF (n:Net) (ss:List Signal) (ov:Int):Nat→St
 | 0=>([],0)
 | k+1=>match ss[k]? with
  | none=>allF n ss ov k
  | some s=>walkF n ss ov (2*n.pieces.length+1) (allF n ss ov k) (startR k) s.piece s.way (farOf n s.piece s.at_ s.way)
noncomputable def routesF (n:Net) (ss:List Signal) (ov:Int):List Route :=
 if ¬signalsOk n ss=⟨0,0⟩∨¬(0≤ov∧ov≤100000) then []
 else if full (allF n ss ov ss.length) then [] else (allF n ss ov ss.length).1
end Go.Proofs.Ytjccgneimknbpaa.L
namespace Go.Proofs.Ytjccgneimknbpaa.L
open Go.RowKit
open Classical
theorem nodup_bound:∀(m:Nat) (l:List Nat),l.Nodup→(∀x∈l,x < m)→l.length≤m
 | 0,l,_,h=>by
  cases l with
  | nil=>exact Nat.le_refl _
  | cons a l=>exact absurd (h a (by simp)) (by omega)
 | m+1,l,hn,h=>by
  have h1:=nodup_bound m (l.erase m) (hn.erase m) (fun x hx=>by
   have h2:=h x (List.mem_of_mem_erase hx)
   have h3:x≠m:=fun e=>by
    subst e
    exact (hn.not_mem_erase hx).elim
   omega)
  rw [List.length_erase] at h1
  split at h1 <;> omega
theorem nodup_map {α:Type} {f:α→Nat}:∀{l:List α},l.Nodup→(∀x∈l,∀y∈l,f x=f y→x=y)→(l.map f).Nodup
 | [],_,_=>by simp
 | a::l,hn,hf=>by
  rw [List.nodup_cons] at hn
  rw [List.map_cons,List.nodup_cons]
  refine ⟨fun h=>?_,nodup_map hn.2 (fun x hx y hy=>hf x (List.mem_cons_of_mem _ hx) y (List.mem_cons_of_mem _ hy))⟩
  obtain ⟨b,hb,he⟩:=List.mem_map.1 h
  have:=hf b (List.mem_cons_of_mem _ hb) a (by simp) he
  subst this
  exact hn.1 hb
theorem nodup_snoc {α:Type} {l:List α} {x:α} (hn:l.Nodup) (hx:¬x∈l):(l++[x]).Nodup:=by
 rw [List.nodup_append]
 refine ⟨hn,by simp,fun a ha b hb e=>?_⟩
 rw [List.mem_singleton.1 hb] at e
 subst e
 exact hx ha
def stepP (m:Nat) (s:Step):Prop:=(0≤s.piece∧s.piece≤(m:Int) - 1)∧(s.way=1∨s.way=-1)
theorem steps_bound {m:Nat} {l:List Step} (hn:l.Nodup) (h:∀s∈l,stepP m s):l.length≤2*m:=by
 have:=nodup_bound (2*m) (l.map (fun s=>2*s.piece.toNat+(if s.way=1 then 1 else 0))) (nodup_map hn (fun x hx y hy e=>by
  obtain ⟨⟨a1,a2⟩,a3⟩:=h x hx
  obtain ⟨⟨b1,b2⟩,b3⟩:=h y hy
  obtain ⟨p,v⟩:=x
  obtain ⟨q,u⟩:=y
  simp only at a1 a2 a3 b1 b2 b3 e
  rcases a3 with rfl | rfl <;> rcases b3 with rfl | rfl <;> simp at e ⊢ <;> omega)) (fun x hx=>by
  obtain ⟨s,hs,rfl⟩:=List.mem_map.1 hx
  obtain ⟨⟨a1,a2⟩,a3⟩:=h s hs
  split <;> omega)
 rwa [List.length_map] at this
theorem ends_bound {m:Nat} {l:List End} (hn:l.Nodup) (h:∀s∈l,endP m s):l.length≤2*m:=by
 have:=nodup_bound (2*m) (l.map (fun s=>2*s.piece.toNat+s.side.toNat)) (nodup_map hn (fun x hx y hy e=>by
  obtain ⟨⟨a1,a2⟩,a3⟩:=h x hx
  obtain ⟨⟨b1,b2⟩,b3⟩:=h y hy
  obtain ⟨p,v⟩:=x
  obtain ⟨q,u⟩:=y
  simp only at a1 a2 a3 b1 b2 b3 e
  have:p=q∧v=u:=by omega
  rw [this.1,this.2])) (fun x hx=>by
  obtain ⟨s,hs,rfl⟩:=List.mem_map.1 hx
  obtain ⟨⟨a1,a2⟩,a3⟩:=h s hs
  omega)
 rwa [List.length_map] at this
theorem head_ok {m:Nat} {p way:Int} (h:stepP m ⟨p,way⟩):endP m (headE p way):=by
 obtain ⟨h1,h2⟩:=h
 unfold headE
 split
 ·exact ⟨h1,by show (0:Int)≤1;omega,by show (1:Int)≤1;omega⟩
 ·exact ⟨h1,by show (0:Int)≤0;omega,by show (0:Int)≤1;omega⟩
theorem step_of_end {m:Nat} {e:End} (h:endP m e):stepP m ⟨e.piece,wayOf e⟩:=by
 refine ⟨h.1,?_⟩
 unfold wayOf
 split
 ·exact .inr rfl
 ·exact .inl rfl
theorem other_ok {m:Nat} {e:End} (h:endP m e):endP m ⟨e.piece,1 - e.side⟩:=by
 obtain ⟨h1,h2,h3⟩:=h
 exact ⟨h1,by show (0:Int)≤1 - e.side;omega,by show 1 - e.side≤(1:Int);omega⟩
theorem xr_lt {k:Nat} (h:k < 4):xr k < 4:=by unfold xr;split <;> (try split) <;> (try split) <;> omega
theorem across_ok {m:Nat} {x:Joint} {k:Nat} (h:jointP m x) (hk:k < x.ends.length) {e:End} (he:e∈across x k):endP m e:=by
 obtain ⟨⟨h1,h2⟩,h3,h4⟩:=h
 have hj:jointP m x:=⟨⟨h1,h2⟩,h3,h4⟩
 unfold across at he
 split at he
 ·rw [List.mem_singleton.1 he]
  exact en_ok hj (by omega)
 split at he
 ·split at he
  ·rcases List.mem_cons.1 he with rfl | he
   ·exact en_ok hj (by omega)
   ·rw [List.mem_singleton.1 he]
    exact en_ok hj (by omega)
  ·rw [List.mem_singleton.1 he]
   exact en_ok hj (by omega)
 split at he
 ·rw [List.mem_singleton.1 he]
  exact en_ok hj (by have:=xr_lt (k:=k) (by omega);omega)
 ·cases he
theorem across_len (x:Joint) (k:Nat):(across x k).length≤2:=by
 unfold across
 split
 ·simp
 split
 ·split <;> simp
 split <;> simp
def lieP (n:Net) (l:Lie):Prop:=∃j:Nat,l.joint=j∧j < n.joints.length∧(jt n j).kind=3∧(l.lie=1∨l.lie=2)
structure RInv (n:Net) (ss:List Signal) (r:Route):Prop where
 nodup:r.steps.Nodup
 step:∀s∈r.steps,stepP n.pieces.length s
 parts:r.parts.length=r.steps.length
 liesN:r.lies.length≤r.steps.length
 lies:∀l∈r.lies,lieP n l
 crosses:r.crosses.length≤r.steps.length
 over:r.over=[]
 flanks:r.flanks=[]
theorem flankF_len {n:Net} {ss:List Signal} {lies:List Lie} {a:Int}:∀(m:Nat) (st:List End × List Flank) (e:End),
  (flankF n ss lies a m st e).2.length+st.1.length≤st.2.length+(flankF n ss lies a m st e).1.length
 | 0,st,e=>by unfold flankF;omega
 | m+1,(seen,fl),e=>by
  unfold flankF
  split
  ·simp only [];omega
  split
  ·simp;omega
  simp only []
  split
  ·simp;omega
  split
  ·split
   ·have h1:=flankF_len (n:=n) (ss:=ss) (lies:=lies) (a:=a) m (seen++[e],fl) (en (jt n (atJ n ⟨e.piece,1 - e.side⟩).1) 1)
    have h2:=flankF_len (n:=n) (ss:=ss) (lies:=lies) (a:=a) m (flankF n ss lies a m (seen++[e],fl) (en (jt n (atJ n ⟨e.piece,1 - e.side⟩).1) 1)) (en (jt n (atJ n ⟨e.piece,1 - e.side⟩).1) 2)
    simp only [List.length_append,List.length_singleton] at h1 h2 ⊢
    omega
   ·split <;> (simp;omega)
  ·have h1:=flankF_len (n:=n) (ss:=ss) (lies:=lies) (a:=a) m (seen++[e],fl) ((across (jt n (atJ n ⟨e.piece,1 - e.side⟩).1) (atJ n ⟨e.piece,1 - e.side⟩).2).headD ⟨0,0⟩)
   simp only [List.length_append,List.length_singleton] at h1 ⊢
   omega
theorem head_across {m:Nat} {x:Joint} {k:Nat} (h:jointP m x) (hk:k < x.ends.length) (h1:¬x.kind=1):endP m ((across x k).headD ⟨0,0⟩):=by
 refine across_ok h hk ?_
 obtain ⟨⟨g1,g2⟩,g3,g4⟩:=h
 unfold across
 split
 ·simp
 split
 ·split <;> simp
 split
 ·simp
 ·omega
theorem flankF_seen {n:Net} {ss:List Signal} {lies:List Lie} {a:Int} (hg:Good n):∀(m:Nat) (st:List End × List Flank) (e:End),endP n.pieces.length e→st.1.Nodup→(∀x∈st.1,endP n.pieces.length x) →
  (flankF n ss lies a m st e).1.Nodup∧(∀x∈(flankF n ss lies a m st e).1,endP n.pieces.length x)∧st.1.length≤(flankF n ss lies a m st e).1.length
 | 0,st,e,he,hn,hs=>by unfold flankF;exact ⟨hn,hs,Nat.le_refl _⟩
 | m+1,(seen,fl),e,he,hn,hs=>by
  unfold flankF
  split
  ·exact ⟨hn,hs,Nat.le_refl _⟩
  rename_i hne
  have hn':(seen++[e]).Nodup:=nodup_snoc hn hne
  have hs':∀x∈seen++[e],endP n.pieces.length x:=fun x hx=>by
   rcases List.mem_append.1 hx with hx | hx
   ·exact hs x hx
   ·rw [List.mem_singleton.1 hx]
    exact he
  have hl:seen.length≤(seen++[e]).length:=by simp
  split
  ·exact ⟨hn',hs',hl⟩
  obtain ⟨j,k,x,hat,h1,h2,h3,h4,h5⟩:=at_get hg (other_ok he)
  simp only [h1,h2]
  split
  ·exact ⟨hn',hs',hl⟩
  rename_i hk1
  split
  ·rename_i hk3
   have hlen:(x.ends.length:Int)=3:=by rw [h3.2.1,hk3]
   split
   ·obtain ⟨a1,a2,a3⟩:=flankF_seen (ss:=ss) (lies:=lies) (a:=a) hg m (seen++[e],fl) (en x 1) (en_ok h3 (by omega)) hn' hs'
    obtain ⟨b1,b2,b3⟩:=flankF_seen (ss:=ss) (lies:=lies) (a:=a) hg m _ (en x 2) (en_ok h3 (by omega)) a1 a2
    exact ⟨b1,b2,by simp only [List.length_append,List.length_singleton] at a3 b3 ⊢;omega⟩
   ·split <;> exact ⟨hn',hs',hl⟩
  ·obtain ⟨a1,a2,a3⟩:=flankF_seen (ss:=ss) (lies:=lies) (a:=a) hg m (seen++[e],fl) ((across x k).headD ⟨0,0⟩) (head_across h3 h5 hk1) hn' hs'
   exact ⟨a1,a2,by simp only [List.length_append,List.length_singleton] at a3 ⊢;omega⟩
section
variable {n:Net} {ss:List Signal} {ov:Int}
theorem kidsTo_inv {go:St→Route→Int→Int→Int→St} {r:Route} {x:Joint} {j k:Nat} {l:List End} {st:St} (P:St→Prop) (h0:P st)
  (hs:∀i e q st',l[i]?=some e→goOn r x j k i=some q→P st'→P (go st' q e.piece (wayOf e) 0)):∀i,P (kidsTo go r x j k l st i)
 | 0=>h0
 | i+1=>by
  have ih:=kidsTo_inv P h0 hs i
  unfold kidsTo
  split
  ·exact ih
  rename_i e he
  split
  ·exact ih
  ·rename_i q hq
   exact hs i e q _ he hq ih
theorem walkF_len:∀(m:Nat) (st:St) (r:Route) (p way far:Int),st.1.length≤301→(walkF n ss ov m st r p way far).1.length≤301
 | 0,st,r,p,way,far,h=>h
 | m+1,st,r,p,way,far,h=>by
  by_cases hf:full (st.1,st.2+1)
  ·rw [walkF_full hf]
   exact h
  have hl:st.1.length≤300:=by
   unfold full at hf
   simp only [] at hf
   omega
  cases hb:firstS n ss p way far with
  | some b =>
   rw [walkF_sig hf hb]
   simp
   omega
  | none =>
   by_cases hr:(⟨p,way⟩:Step)∈r.steps
   ·rw [walkF_round hf hb hr]
    exact h
   obtain ⟨j,k,ha⟩:∃j k,atJ n (headE p way)=(j,k):=⟨_,_,rfl⟩
   by_cases h1:(jt n j).kind=1
   ·rw [walkF_end hf hb hr ha rfl h1]
    simp
    omega
   ·rw [walkF_on hf hb hr ha rfl h1]
    exact kidsTo_inv (st:=(st.1,st.2+1)) (fun s=>s.1.length≤301) h (fun i e q st' _ _ hs=>walkF_len m st' q _ _ _ hs) _
theorem walkF_tries:∀(m:Nat) (st:St) (r:Route) (p way far:Int),(walkF n ss ov m st r p way far).2≤max (st.2+1) (20002+m)
 | 0,st,r,p,way,far=>by
  show st.2≤_
  omega
 | m+1,st,r,p,way,far=>by
  by_cases hf:full (st.1,st.2+1)
  ·rw [walkF_full hf]
   show st.2+1≤_
   omega
  have hl:st.2+1≤20000:=by
   unfold full at hf
   simp only [] at hf
   omega
  cases hb:firstS n ss p way far with
  | some b =>
   rw [walkF_sig hf hb]
   show st.2+1≤_
   omega
  | none =>
   by_cases hr:(⟨p,way⟩:Step)∈r.steps
   ·rw [walkF_round hf hb hr]
    show st.2+1≤_
    omega
   obtain ⟨j,k,ha⟩:∃j k,atJ n (headE p way)=(j,k):=⟨_,_,rfl⟩
   by_cases h1:(jt n j).kind=1
   ·rw [walkF_end hf hb hr ha rfl h1]
    show st.2+1≤_
    omega
   ·rw [walkF_on hf hb hr ha rfl h1]
    have hal:=across_len (jt n j) k
    generalize across (jt n j) k=l at hal ⊢
    generalize r.on n p way far (pl n p)=r1
    have key:∀i,i≤2→(kidsTo (walkF n ss ov m) r1 (jt n j) j k l (st.1,st.2+1) i).2≤(if i=0 then st.2+1 else if i=1 then max (st.2+2) (20002+m) else max (st.2+3) (20002+m+1)):=by
     intro i
     induction i with
     | zero=>exact fun _=>Nat.le_refl _
     | succ i ih =>
      intro hi
      have ih:=ih (by omega)
      have hcase:i=0∨i=1:=by omega
      have hno:(kidsTo (walkF n ss ov m) r1 (jt n j) j k l (st.1,st.2+1) i).2≤(if i+1=0 then st.2+1 else if i+1=1 then max (st.2+2) (20002+m) else max (st.2+3) (20002+m+1)):=by
       rcases hcase with rfl | rfl
       ·simp at ih ⊢
        omega
       ·simp at ih ⊢
        omega
      cases he:l[i]? with
      | none =>
       rw [kidsTo]
       simp only [he]
       exact hno
      | some e =>
      cases hq:goOn r1 (jt n j) j k i with
      | none =>
       rw [kidsTo]
       simp only [he,hq]
       exact hno
      | some q =>
       rw [kidsTo]
       simp only [he,hq]
       have hw:=walkF_tries m (kidsTo (walkF n ss ov m) r1 (jt n j) j k l (st.1,st.2+1) i) q e.piece (wayOf e) 0
       rcases hcase with rfl | rfl
       ·simp at ih hw ⊢
        omega
       ·simp at ih hw ⊢
        omega
    have:=key l.length hal
    rcases (show l.length=0∨l.length=1∨l.length=2 by omega) with h0 | h0 | h0
    ·rw [h0] at this ⊢
     simp at this
     omega
    ·rw [h0] at this ⊢
     simp at this
     omega
    ·rw [h0] at this ⊢
     simp at this
     omega
end
end Go.Proofs.Ytjccgneimknbpaa.L
namespace Go.Proofs.Ytjccgneimknbpaa.L
open Go.RowKit
def RetAt (jk:Nat × Nat) (w:World) (e:Ending) (w':World):Prop:=e=.returned (.tuple #[.int .i64 jk.1,.int .i64 jk.2])∧Below w.heap.size w w'
set_option maxRecDepth 100000 in
set_option maxHeartbeats 4000000 in
theorem specAt {ok:Nat→Prop} (n:Net) (A0 A1:Option Addr) (c0 c1:Nat) (e:End) (w:World) (h:NC 102 w ok n A0 A1) (hg:Hid (Good n)) (he:Hid (endP n.pieces.length e)) :
  Calls Try.prog 50 #[.agg #[.slice A0 n.pieces.length c0,.slice A1 n.joints.length c1],e.v] w (RetAt (atJ n e) w):=by
 obtain ⟨j,k,x,hat,hjk,hx,_,hjl,hkl⟩:=at_get hg.out he.out
 obtain ⟨p,s⟩:=e
 have HJK:=Lib.hid hjk
 have HAT:=Lib.hid hat
 have hmj:=h.j.1
 have hjle:=hg.out.jle
 have UN:Hid (∀j' k' x',At n ⟨p,s⟩ j' k' x'→j'=j∧k'=k):=Lib.hid (fun j' k' x' h'=>by obtain ⟨h1,h2,_⟩:=at_one (hg.out.one _ he.out) hat h';exact ⟨h1,h2⟩)
 have HKL:Hid (∀y,n.joints[j]?=some y→k < y.ends.length):=Lib.hid (fun y hy=>by have:=hat.1.symm.trans hy;obtain rfl:=Option.some.inj this;exact hkl)
 clear hat hjk hx hkl
 go_enter Try.func50,Try.ntmps50
 go_wp2
 obtain ⟨W0,hW,HB0,h0,h1,f0,f1⟩:∃W,W=(w.alloc (.cells #[.slice A0 n.pieces.length c0,.slice A1 n.joints.length c1] 26)).alloc (.cells #[.int .i64 p,.int .i64 s] 102)∧Below w.heap.size w W∧w.heap.size < W.heap.size∧w.heap.size+1 < W.heap.size ∧
  W.cell? ⟨w.heap.size+1,0,none⟩=some (.int .i64 p)∧W.cell? ⟨w.heap.size+1,1,none⟩=some (.int .i64 s):=⟨_,rfl,(below_alloc _ _).alloc (by simp) _,by simp;omega,by simp,by simp,by simp⟩
 rw [←hW]
 clear hW
 go_loopw [13] (fun i wr=>∃m:Nat,m≤j∧i=.int .i64 m∧Below W0.heap.size W0 wr) (fun i _=>j - (intOf i).toNat)
 case atStart=>exact ⟨0,Nat.zero_le _,rfl,Below.refl _ _⟩
 case round =>
  obtain ⟨m,hm,rfl,hb⟩:=hrel
  obtain ⟨wo,rfl⟩:∃wo:World,wo=wr:=⟨_,rfl⟩
  have hbw:=HB0.trans (hb.mono HB0.size)
  obtain ⟨a1,rfl,y,E,A2,c2,g0,g1,g2,l2,q2⟩:=jointK_at (Kn.C_below hbw h.j) m (by omega)
  have i0:(0:Int)≤(m:Int):=Int.natCast_nonneg _
  have i1:(m:Int) < (n.joints.length:Int):=by omega
  have hm2:=q2.1
  have HK:Hid (m=j→k < y.ends.length):=Lib.hid (fun e=>HKL.out y (by subst e;exact E.out))
  go_wp2
  obtain ⟨W1,hW,HB1,h2,h3,k0,k1⟩:∃W,W=wo.alloc (.cells #[.int .i64 y.kind,.string y.name,.slice A2 y.ends.length c2] 97)∧Below wo.heap.size wo W∧w.heap.size+1 < W.heap.size∧wo.heap.size < W.heap.size ∧
   W.cell? ⟨w.heap.size+1,0,none⟩=some (.int .i64 p)∧W.cell? ⟨w.heap.size+1,1,none⟩=some (.int .i64 s):=⟨_,rfl,below_alloc _ _,by have:=hb.size;simp;omega,by simp,cell_below (below_alloc _ _) (cell_below hb f0),cell_below (below_alloc _ _) (cell_below hb f1)⟩
  rw [←hW]
  clear hW
  have hb1:=hb.trans (HB1.mono hb.size)
  go_loopw [21] (fun i wr=>∃q:Nat,q≤y.ends.length∧i=.int .i64 q∧Hid (m=j→q≤k)∧Below W1.heap.size W1 wr) (fun i _=>y.ends.length - (intOf i).toNat)
  case atStart=>exact ⟨0,Nat.zero_le _,rfl,Lib.hid (fun _=>Nat.zero_le _),Below.refl _ _⟩
  case round =>
   obtain ⟨q,hq,rfl,HQ,hbi⟩:=hrel
   have hbj:=hb1.trans (hbi.mono hb1.size)
   have t0:=cell_below hbi k0
   have t1:=cell_below hbi k1
   have hs:w.heap.size+1 < wr.heap.size:=by have:=hbi.size;omega
   by_cases hlq:q < y.ends.length
   ·obtain ⟨a2,rfl,y0,y1,E1,g3,g4⟩:=endK_at (Kn.C_below (HB1.trans (hbi.mono HB1.size)) q2) q hlq
    have j0:(0:Int)≤(q:Int):=Int.natCast_nonneg _
    have j1:(q:Int) < (y.ends.length:Int):=by omega
    by_cases e0:y0=p
    rotate_left
    ·have d0:(y0 == p)=false:=int_eqf e0
     have HQ2:Hid (m=j→q+1≤k):=Lib.hid (fun e=>by
      have h1:=HQ.out e
      by_cases h2:q=k
      ·subst e h2
       have h3:=HAT.out.1.symm.trans E.out
       obtain rfl:=Option.some.inj h3
       have h4:=HAT.out.2.symm.trans E1.out
       injection h4 with h4
       injection h4 with h4 h5
       exact (e0 (by first | exact h4 | exact h4.symm)).elim
      ·omega)
     clear e0
     go_wp2
     go_roundw
     case rel=>exact ⟨q+1,by omega,by go_num,HQ2,hbi.alloc hbi.size _⟩
     case measure=>simp [intOf];omega
    have d0:(y0 == p)=true:=int_eqt e0
    by_cases e1:y1=s
    rotate_left
    ·have d1:(y1 == s)=false:=int_eqf e1
     have HQ2:Hid (m=j→q+1≤k):=Lib.hid (fun e=>by
      have h1:=HQ.out e
      by_cases h2:q=k
      ·subst e h2
       have h3:=HAT.out.1.symm.trans E.out
       obtain rfl:=Option.some.inj h3
       have h4:=HAT.out.2.symm.trans E1.out
       injection h4 with h4
       injection h4 with h4 h5
       exact (e1 (by first | exact h5 | exact h5.symm)).elim
      ·omega)
     clear e0 e1
     go_wp2
     go_roundw
     case rel=>exact ⟨q+1,by omega,by go_num,HQ2,hbi.alloc hbi.size _⟩
     case measure=>simp [intOf];omega
    have d1:(y1 == s)=true:=int_eqt e1
    have HN:Hid (atJ n ⟨p,s⟩=(m,q)):=Lib.hid (by
     obtain ⟨h1,h2⟩:=UN.out m q y ⟨E.out,by rw [E1.out];first | rw [e0,e1] | rw [←e0,←e1]⟩
     rw [HJK.out,h1,h2])
    clear e0 e1
    go_wp2
    go_ret2
    exact ⟨by rw [HN.out];rfl,HB0.trans ((hbj.alloc hbj.size _).mono HB0.size)⟩
   ·have hmj':m+1≤j:=by
     have h1:m≠j:=fun e=>by have:=HQ.out e;have:=HK.out e;omega
     omega
    go_wp2
    go_roundw
    case rel=>exact ⟨m+1,hmj',by go_num,hbj⟩
    case measure=>simp [intOf];omega
set_option maxRecDepth 100000 in
set_option maxHeartbeats 4000000 in
theorem implAt {ok:Nat→Prop} (n:Net) (A0 A1:Option Addr) (c0 c1:Nat) (e:End) (w:World) (h:NC 102 w ok n A0 A1) (hg:Hid (Good n)) (he:Hid (endP n.pieces.length e)) :
  Calls Try.prog 100 #[.agg #[.slice A0 n.pieces.length c0,.slice A1 n.joints.length c1],e.v] w (RetAt (atJ n e) w):=by
 obtain ⟨j,k,x,hat,hjk,hx,_,hjl,hkl⟩:=at_get hg.out he.out
 obtain ⟨p,s⟩:=e
 have HJK:=Lib.hid hjk
 have HAT:=Lib.hid hat
 have hmj:=h.j.1
 have hjle:=hg.out.jle
 have UN:Hid (∀j' k' x',At n ⟨p,s⟩ j' k' x'→j'=j∧k'=k):=Lib.hid (fun j' k' x' h'=>by obtain ⟨h1,h2,_⟩:=at_one (hg.out.one _ he.out) hat h';exact ⟨h1,h2⟩)
 have HKL:Hid (∀y,n.joints[j]?=some y→k < y.ends.length):=Lib.hid (fun y hy=>by have:=hat.1.symm.trans hy;obtain rfl:=Option.some.inj this;exact hkl)
 clear hat hjk hx hkl
 go_enter Try.func100,Try.ntmps100
 go_wp2
 obtain ⟨W0,hW,HB0,h0,h1,f0,f1⟩:∃W,W=(w.alloc (.cells #[.slice A0 n.pieces.length c0,.slice A1 n.joints.length c1] 26)).alloc (.cells #[.int .i64 p,.int .i64 s] 102)∧Below w.heap.size w W∧w.heap.size < W.heap.size∧w.heap.size+1 < W.heap.size ∧
  W.cell? ⟨w.heap.size+1,0,none⟩=some (.int .i64 p)∧W.cell? ⟨w.heap.size+1,1,none⟩=some (.int .i64 s):=⟨_,rfl,(below_alloc _ _).alloc (by simp) _,by simp;omega,by simp,by simp,by simp⟩
 rw [←hW]
 clear hW
 go_loopw [13] (fun i wr=>∃m:Nat,m≤j∧i=.int .i64 m∧Below W0.heap.size W0 wr) (fun i _=>j - (intOf i).toNat)
 case atStart=>exact ⟨0,Nat.zero_le _,rfl,Below.refl _ _⟩
 case round =>
  obtain ⟨m,hm,rfl,hb⟩:=hrel
  obtain ⟨wo,rfl⟩:∃wo:World,wo=wr:=⟨_,rfl⟩
  have hbw:=HB0.trans (hb.mono HB0.size)
  obtain ⟨a1,rfl,y,E,A2,c2,g0,g1,g2,l2,q2⟩:=jointK_at (Kn.C_below hbw h.j) m (by omega)
  have i0:(0:Int)≤(m:Int):=Int.natCast_nonneg _
  have i1:(m:Int) < (n.joints.length:Int):=by omega
  have hm2:=q2.1
  have HK:Hid (m=j→k < y.ends.length):=Lib.hid (fun e=>HKL.out y (by subst e;exact E.out))
  go_wp2
  obtain ⟨W1,hW,HB1,h2,h3,k0,k1⟩:∃W,W=wo.alloc (.cells #[.int .i64 y.kind,.string y.name,.slice A2 y.ends.length c2] 97)∧Below wo.heap.size wo W∧w.heap.size+1 < W.heap.size∧wo.heap.size < W.heap.size ∧
   W.cell? ⟨w.heap.size+1,0,none⟩=some (.int .i64 p)∧W.cell? ⟨w.heap.size+1,1,none⟩=some (.int .i64 s):=⟨_,rfl,below_alloc _ _,by have:=hb.size;simp;omega,by simp,cell_below (below_alloc _ _) (cell_below hb f0),cell_below (below_alloc _ _) (cell_below hb f1)⟩
  rw [←hW]
  clear hW
  have hb1:=hb.trans (HB1.mono hb.size)
  go_loopw [21] (fun i wr=>∃q:Nat,q≤y.ends.length∧i=.int .i64 q∧Hid (m=j→q≤k)∧Below W1.heap.size W1 wr) (fun i _=>y.ends.length - (intOf i).toNat)
  case atStart=>exact ⟨0,Nat.zero_le _,rfl,Lib.hid (fun _=>Nat.zero_le _),Below.refl _ _⟩
  case round =>
   obtain ⟨q,hq,rfl,HQ,hbi⟩:=hrel
   have hbj:=hb1.trans (hbi.mono hb1.size)
   have t0:=cell_below hbi k0
   have t1:=cell_below hbi k1
   have hs:w.heap.size+1 < wr.heap.size:=by have:=hbi.size;omega
   by_cases hlq:q < y.ends.length
   ·obtain ⟨a2,rfl,y0,y1,E1,g3,g4⟩:=endK_at (Kn.C_below (HB1.trans (hbi.mono HB1.size)) q2) q hlq
    have j0:(0:Int)≤(q:Int):=Int.natCast_nonneg _
    have j1:(q:Int) < (y.ends.length:Int):=by omega
    by_cases e0:p=y0
    rotate_left
    ·have d0:(p == y0)=false:=int_eqf e0
     have HQ2:Hid (m=j→q+1≤k):=Lib.hid (fun e=>by
      have h1:=HQ.out e
      by_cases h2:q=k
      ·subst e h2
       have h3:=HAT.out.1.symm.trans E.out
       obtain rfl:=Option.some.inj h3
       have h4:=HAT.out.2.symm.trans E1.out
       injection h4 with h4
       injection h4 with h4 h5
       exact (e0 (by first | exact h4 | exact h4.symm)).elim
      ·omega)
     clear e0
     go_wp2
     go_roundw
     case rel=>exact ⟨q+1,by omega,by go_num,HQ2,hbi.alloc hbi.size _⟩
     case measure=>simp [intOf];omega
    have d0:(p == y0)=true:=int_eqt e0
    by_cases e1:s=y1
    rotate_left
    ·have d1:(s == y1)=false:=int_eqf e1
     have HQ2:Hid (m=j→q+1≤k):=Lib.hid (fun e=>by
      have h1:=HQ.out e
      by_cases h2:q=k
      ·subst e h2
       have h3:=HAT.out.1.symm.trans E.out
       obtain rfl:=Option.some.inj h3
       have h4:=HAT.out.2.symm.trans E1.out
       injection h4 with h4
       injection h4 with h4 h5
       exact (e1 (by first | exact h5 | exact h5.symm)).elim
      ·omega)
     clear e0 e1
     go_wp2
     go_roundw
     case rel=>exact ⟨q+1,by omega,by go_num,HQ2,hbi.alloc hbi.size _⟩
     case measure=>simp [intOf];omega
    have d1:(s == y1)=true:=int_eqt e1
    have HN:Hid (atJ n ⟨p,s⟩=(m,q)):=Lib.hid (by
     obtain ⟨h1,h2⟩:=UN.out m q y ⟨E.out,by rw [E1.out];first | rw [e0,e1] | rw [←e0,←e1]⟩
     rw [HJK.out,h1,h2])
    clear e0 e1
    go_wp2
    go_ret2
    exact ⟨by rw [HN.out];rfl,HB0.trans ((hbj.alloc hbj.size _).mono HB0.size)⟩
   ·have hmj':m+1≤j:=by
     have h1:m≠j:=fun e=>by have:=HQ.out e;have:=HK.out e;omega
     omega
    go_wp2
    go_roundw
    case rel=>exact ⟨m+1,hmj',by go_num,hbj⟩
    case measure=>simp [intOf];omega
end Go.Proofs.Ytjccgneimknbpaa.L
namespace Go.Proofs.Ytjccgneimknbpaa.L
open Go.RowKit
def atOf (n:Net) (p way far:Int):Int:=if way=1 then far else pl n p - far
theorem pl_get {n:Net} {u:Nat} {z:Piece} (h:n.pieces[u]?=some z):pl n (u:Int)=z.len:=by
 unfold pl
 rw [Int.toNat_natCast,h]
 rfl
theorem specHead (p way:Int) (w:World):Calls Try.prog 51 #[.int .i64 p,.int .i64 way] w (RetV (headE p way).v w):=by
 by_cases h:way=1
 ·have hv:headE p way=⟨p,1⟩:=by unfold headE;rw [if_pos h]
  have d:(way == 1)=true:=int_eqt h
  rw [hv]
  clear h hv
  go_enter Try.func51,Try.ntmps51
  go_wp2
  exact bodyPost_ret (v:=.agg #[.int .i64 p,.int .i64 1]) (by simp [results,Try.results51,go_sem]) rfl ⟨rfl,below_alloc _ _⟩
 ·have hv:headE p way=⟨p,0⟩:=by unfold headE;rw [if_neg h]
  have d:(way == 1)=false:=int_eqf h
  rw [hv]
  clear h hv
  go_enter Try.func51,Try.ntmps51
  go_wp2
  exact bodyPost_ret (v:=.agg #[.int .i64 p,.int .i64 0]) (by simp [results,Try.results51,go_sem]) rfl ⟨rfl,below_alloc _ _⟩
theorem implLooked (p way:Int) (w:World):Calls Try.prog 99 #[.int .i64 p,.int .i64 way] w (RetV (headE p way).v w):=by
 by_cases h:way=1
 ·have hv:headE p way=⟨p,1⟩:=by unfold headE;rw [if_pos h]
  have d:(way == 1)=true:=int_eqt h
  rw [hv]
  clear h hv
  go_enter Try.func99,Try.ntmps99
  go_wp2
  exact bodyPost_ret (v:=.agg #[.int .i64 p,.int .i64 1]) (by simp [results,Try.results99,go_sem]) rfl ⟨rfl,below_alloc _ _⟩
 ·have hv:headE p way=⟨p,0⟩:=by unfold headE;rw [if_neg h]
  have d:(way == 1)=false:=int_eqf h
  rw [hv]
  clear h hv
  go_enter Try.func99,Try.ntmps99
  go_wp2
  exact bodyPost_ret (v:=.agg #[.int .i64 p,.int .i64 0]) (by simp [results,Try.results99,go_sem]) rfl ⟨rfl,below_alloc _ _⟩
set_option maxHeartbeats 1000000 in
theorem specFar {ok:Nat→Prop} (n:Net) (v1:Value) (A0:Option Addr) (c0 u:Nat) (a way:Int) (w:World) (h:pieceK.C w ok A0 n.pieces) (hg:Hid (Good n)) (hu:u < n.pieces.length) (ha:0≤a∧a≤10000000) :
  Calls Try.prog 37 #[.agg #[.slice A0 n.pieces.length c0,v1],.int .i64 u,.int .i64 a,.int .i64 way] w (RetI (farOf n u a way) w):=by
 have hm:=h.1
 obtain ⟨a1,a2⟩:=ha
 obtain ⟨ad,rfl,z0,z1,z2,z3,E,g0,g1,g2,g3⟩:=pieceK_at (Kn.C_below (below_alloc w (.cells #[.slice A0 n.pieces.length c0,v1] 26)) h) u hu
 have j0:(0:Int)≤(u:Int):=Int.natCast_nonneg _
 have j1:(u:Int) < (n.pieces.length:Int):=by omega
 have HP:=Lib.hid (pl_get E.out)
 obtain ⟨b1,b2⟩:1≤z1∧z1≤10000000:=by have:=hg.out.piece _ (mem_of_get E.out);exact ⟨this.2.1,this.2.2.1⟩
 by_cases hw:way=1
 ·have hv:Hid (farOf n u a way=a):=Lib.hid (by unfold farOf;rw [if_pos hw])
  have d:(way == 1)=true:=int_eqt hw
  clear hw
  go_enter Try.func37,Try.ntmps37
  go_wp2
  go_ret
  exact ⟨by rw [hv.out];rfl,below_alloc _ _⟩
 ·have hv:Hid (farOf n u a way=z1 - a):=Lib.hid (by unfold farOf;rw [if_neg hw,HP.out])
  have d:(way == 1)=false:=int_eqf hw
  clear hw
  go_enter Try.func37,Try.ntmps37
  go_wp2
  go_ret
  exact ⟨by rw [hv.out];rfl,below_alloc _ _⟩
set_option maxHeartbeats 1000000 in
theorem specPart {ok:Nat→Prop} (n:Net) (v1:Value) (A0:Option Addr) (c0 u:Nat) (way a b:Int) (w:World) (h:pieceK.C w ok A0 n.pieces) (hg:Hid (Good n)) (hu:u < n.pieces.length) (hway:way=1∨way=-1) (ha:0≤a∧a≤10000000) (hb:0≤b∧b≤10000000) :
  Calls Try.prog 64 #[.agg #[.slice A0 n.pieces.length c0,v1],.int .i64 u,.int .i64 way,.int .i64 a,.int .i64 b] w (RetV (partN n u way a b).v w):=by
 have hm:=h.1
 obtain ⟨a1,a2⟩:=ha
 obtain ⟨b1,b2⟩:=hb
 rcases hway with rfl | rfl
 ·have hv:partN n u 1 a b=⟨u,a,b⟩:=rfl
  rw [hv]
  clear hv
  go_enter Try.func64,Try.ntmps64
  go_wp2
  exact bodyPost_ret (v:=.agg #[.int .i64 u,.int .i64 a,.int .i64 b]) (by simp [results,Try.results64,go_sem]) rfl ⟨rfl,(below_alloc _ _).alloc (by simp) _⟩
 ·obtain ⟨ad,rfl,z0,z1,z2,z3,E,g0,g1,g2,g3⟩:=pieceK_at (Kn.C_below ((below_alloc w (.cells #[.slice A0 n.pieces.length c0,v1] 26)).alloc (by simp) (.cells #[.int .i64 0,.int .i64 0,.int .i64 0] 48)) h) u hu
  have j0:(0:Int)≤(u:Int):=Int.natCast_nonneg _
  have j1:(u:Int) < (n.pieces.length:Int):=by omega
  obtain ⟨x1,x2⟩:1≤z1∧z1≤10000000:=by have:=hg.out.piece _ (mem_of_get E.out);exact ⟨this.2.1,this.2.2.1⟩
  have hv:partN n u (-1) a b=⟨u,z1 - b,z1 - a⟩:=by unfold partN;rw [if_neg (by decide),pl_get E.out]
  rw [hv]
  clear hv
  go_enter Try.func64,Try.ntmps64
  go_wp2
  exact bodyPost_ret (v:=.agg #[.int .i64 u,.int .i64 (z1 - b),.int .i64 (z1 - a)]) (by simp [results,Try.results64,go_sem]) rfl ⟨rfl,(below_alloc _ _).alloc (by simp) _⟩
theorem implPartOf (p a b:Int) (w:World):Calls Try.prog 97 #[.int .i64 p,.int .i64 a,.int .i64 b] w (RetV (Part.v ⟨p,min a b,max a b⟩) w):=by
 rcases Int.lt_trichotomy a b with h | h | h
 ·have h1:min a b=a:=by omega
  have h2:max a b=b:=by omega
  rw [h1,h2]
  clear h1 h2
  have d1:decide (a < b)=true:=decide_eq_true h
  have d2:decide (b < a)=false:=decide_eq_false (by omega)
  go_enter Try.func97,Try.ntmps97
  go_wp2
  exact bodyPost_ret (v:=.agg #[.int .i64 p,.int .i64 a,.int .i64 b]) (by simp [results,Try.results97,go_sem]) rfl ⟨rfl,below_alloc _ _⟩
 ·subst h
  have h1:min a a=a:=by omega
  have h2:max a a=a:=by omega
  rw [h1,h2]
  clear h1 h2
  go_enter Try.func97,Try.ntmps97
  go_wp2
  exact bodyPost_ret (v:=.agg #[.int .i64 p,.int .i64 a,.int .i64 a]) (by simp [results,Try.results97,go_sem]) rfl ⟨rfl,below_alloc _ _⟩
 ·have h1:min a b=b:=by omega
  have h2:max a b=a:=by omega
  rw [h1,h2]
  clear h1 h2
  have d1:decide (a < b)=false:=decide_eq_false (by omega)
  have d2:decide (b < a)=true:=decide_eq_true h
  go_enter Try.func97,Try.ntmps97
  go_wp2
  exact bodyPost_ret (v:=.agg #[.int .i64 p,.int .i64 b,.int .i64 a]) (by simp [results,Try.results97,go_sem]) rfl ⟨rfl,below_alloc _ _⟩
set_option maxHeartbeats 1000000 in
theorem implEnter {ok:Nat→Prop} (n:Net) (v1:Value) (A0:Option Addr) (c0:Nat) (e:End) (w:World) (h:pieceK.C w ok A0 n.pieces) (hg:Hid (Good n)) (he:endP n.pieces.length e) :
  Calls Try.prog 104 #[.agg #[.slice A0 n.pieces.length c0,v1],e.v] w (RetV (.agg #[.int .i64 e.piece,.int .i64 (atOf n e.piece (wayOf e) 0),.int .i64 (wayOf e)]) w):=by
 have hm:=h.1
 obtain ⟨p,s⟩:=e
 obtain ⟨⟨h0,h1⟩,h2,h3⟩:=he
 simp only at h0 h1 h2 h3
 rcases (show s=0∨s=1 by omega) with rfl | rfl
 ·have hv:atOf n p (wayOf ⟨p,0⟩) 0=0:=rfl
  have hw:wayOf ⟨p,0⟩=1:=rfl
  rw [hv,hw]
  clear hv hw
  go_enter Try.func104,Try.ntmps104
  go_wp2
  exact bodyPost_ret (v:=.agg #[.int .i64 p,.int .i64 0,.int .i64 1]) (by simp [results,Try.results104,go_sem]) rfl ⟨rfl,((below_alloc _ _).alloc (by simp) _).alloc (by simp;omega) _⟩
 ·obtain ⟨u,rfl⟩:∃u:Nat,p=u:=⟨p.toNat,by omega⟩
  obtain ⟨W0,hW,HB,k0,k1,k2,k3,k4,k5,k6⟩:∃W,W=((w.alloc (.cells #[.slice A0 n.pieces.length c0,v1] 26)).alloc (.cells #[.int .i64 u,.int .i64 1] 102)).alloc (.cells #[.int .i64 0,.int .i64 0,.int .i64 0] 124)∧Below w.heap.size w W ∧
   W.cell? ⟨w.heap.size,0,none⟩=some (.slice A0 n.pieces.length c0)∧W.cell? ⟨w.heap.size+1,0,none⟩=some (.int .i64 u)∧W.cell? ⟨w.heap.size+1,1,none⟩=some (.int .i64 1)∧Blk W (w.heap.size+2) 124 [.int .i64 0,.int .i64 0,.int .i64 0]∧w.heap.size < W.heap.size∧w.heap.size+1 < W.heap.size∧w.heap.size+2 < W.heap.size :=
   ⟨_,rfl,((below_alloc _ _).alloc (by simp) _).alloc (by simp;omega) _,(((Blk.new w 26 [.slice A0 n.pieces.length c0,v1] rfl).alloc _).alloc _).cell 0 rfl,((Blk.new _ 102 [.int .i64 u,.int .i64 1] (by simp)).alloc _).cell 0 rfl,((Blk.new _ 102 [.int .i64 u,.int .i64 1] (by simp)).alloc _).cell 1 rfl,Blk.new _ _ _ (by simp),by simp;omega,by simp,by simp⟩
  obtain ⟨ad,rfl,z0,z1,z2,z3,E,g0,g1,g2,g3⟩:=pieceK_at (Kn.C_below HB h) u (by omega)
  have j0:(0:Int)≤(u:Int):=Int.natCast_nonneg _
  have j1:(u:Int) < (n.pieces.length:Int):=by omega
  have hw:wayOf ⟨(u:Int),1⟩=-1:=rfl
  have hv:atOf n u (-1) 0=z1:=by unfold atOf;rw [if_neg (by decide),pl_get E.out];show z1 - 0=z1;omega
  rw [hw,hv]
  have y0:=k3.cell 0 rfl
  have y1:=k3.cell 1 rfl
  have y2:=k3.cell 2 rfl
  have x0:=k3.frozen 0
  have x1:=k3.frozen 1
  have x2:=k3.frozen 2
  clear hv hw k3
  go_enter Try.func104,Try.ntmps104
  go_wp2
  rw [←hW]
  clear hW
  go_region
  all_goals (try go_wp2)
  all_goals exact bodyPost_ret (v:=.agg #[.int .i64 u,.int .i64 z1,.int .i64 (-1)]) (by simp [results,Try.results104,go_sem,y0,y1,y2]) rfl ⟨rfl,by repeat' first | exact HB | (refine Below.drew ?_) | (refine below_drewN ?_ _) | (refine Below.setCell ?_ (by simp;try omega) _)⟩
end Go.Proofs.Ytjccgneimknbpaa.L
namespace Go.Proofs.Ytjccgneimknbpaa.L
open Go.RowKit
def RetC {α:Type} (d:Kn α) (xs:List α) (w:World) (en:Ending) (w':World):Prop:=∃A c,en=.returned (.slice A xs.length c)∧xs.length≤c∧d.C w' (fun b=>w.heap.size≤b) A xs∧Below w.heap.size w w'
theorem endC_one {w:World} {ok:Nat→Prop} {g:Nat} (hok:ok g) (hg:g < w.heap.size) {a:End} (h0:w.cell? ⟨g,0,none⟩=some (.int .i64 a.piece)) (h1:w.cell? ⟨g,1,none⟩=some (.int .i64 a.side)):endK.C w ok (some ⟨g,0,none⟩) [a] :=
 ⟨by simp,fun _=>⟨_,rfl,hok,hg,fun j x hj=>by
  obtain ⟨h2,h3⟩:=List.getElem?_eq_some_iff.1 hj
  simp only [List.length_singleton] at h2
  obtain rfl:j=0:=by omega
  simp only [List.getElem_cons_zero] at h3
  subst h3
  refine ⟨a.cs,endK_mk _ _ _,fun i u hu=>?_⟩
  rw [add_zero,Nat.zero_mul,Nat.zero_add]
  match i,hu with
  | 0,hu=>simp at hu;subst hu;exact h0
  | 1,hu=>simp at hu;subst hu;exact h1⟩⟩
theorem endC_two {w:World} {ok:Nat→Prop} {g:Nat} (hok:ok g) (hg:g < w.heap.size) {a b:End} (h0:w.cell? ⟨g,0,none⟩=some (.int .i64 a.piece)) (h1:w.cell? ⟨g,1,none⟩=some (.int .i64 a.side)) (h2:w.cell? ⟨g,2,none⟩=some (.int .i64 b.piece)) (h3:w.cell? ⟨g,3,none⟩=some (.int .i64 b.side)):endK.C w ok (some ⟨g,0,none⟩) [a,b] :=
 ⟨by simp,fun _=>⟨_,rfl,hok,hg,fun j x hj=>by
  have hl:=(List.getElem?_eq_some_iff.1 hj).1
  simp only [List.length_cons,List.length_nil] at hl
  match j,hj with
  | 0,hj =>
   simp at hj
   subst hj
   refine ⟨a.cs,endK_mk _ _ _,fun i u hu=>?_⟩
   rw [add_zero,Nat.zero_mul,Nat.zero_add]
   match i,hu with
   | 0,hu=>simp at hu;subst hu;exact h0
   | 1,hu=>simp at hu;subst hu;exact h1
  | 1,hj =>
   simp at hj
   subst hj
   refine ⟨b.cs,endK_mk _ _ _,fun i u hu=>?_⟩
   rw [add_zero]
   match i,hu with
   | 0,hu=>simp at hu;subst hu;exact h2
   | 1,hu=>simp at hu;subst hu;exact h3⟩⟩
theorem endC_blk {w:World} {ok:Nat→Prop} {g t:Nat} {a:End} (h:Blk w g t [.int .i64 a.piece,.int .i64 a.side]) (hok:ok g):endK.C w ok (some ⟨g,0,none⟩) [a]:=endC_one hok h.lt (h.cell 0 rfl) (h.cell 1 rfl)
theorem Blk_drew {w:World} {g t:Nat} {cs:List Value} (h:Blk w g t cs):Blk w.drew g t cs:=h
theorem size_alloc (w:World) (o:Obj):(w.alloc o).heap.size=w.heap.size+1:=by
 unfold World.alloc
 rw [Array.size_push]
theorem en_at {w:World} {ok:Nat→Prop} {A:Option Addr} {x:Joint} (h:endK.C w ok A x.ends) {k:Nat} (hk:k < x.ends.length):∃ad,A=some ad∧w.cell? (ad.add (k*2))=some (.int .i64 (en x k).piece)∧w.cell? ⟨(ad.add (k*2)).block,(ad.add (k*2)).off+1,none⟩=some (.int .i64 (en x k).side):=by
 obtain ⟨ad,e,y0,y1,E,g0,g1⟩:=endK_at h k hk
 have:=(en_get hk).symm.trans E.out
 injection this with this
 refine ⟨ad,e,?_,?_⟩
 ·rw [this]
  exact g0
 ·rw [this]
  exact g1
theorem add_pos (a:Addr) {m:Nat} (h:0 < m):a.add m=⟨a.block,a.off+m,none⟩:=by unfold Addr.add;rw [if_neg (by omega)]
theorem en_pos {w:World} {ok:Nat→Prop} {A:Option Addr} {x:Joint} (h:endK.C w ok A x.ends) {k m:Nat} (hk:k < x.ends.length) (h0:0 < k) (hm:m=k*2):∃ad,A=some ad∧w.cell? ⟨ad.block,ad.off+m,none⟩=some (.int .i64 (en x k).piece)∧w.cell? ⟨ad.block,ad.off+m+1,none⟩=some (.int .i64 (en x k).side):=by
 subst hm
 obtain ⟨ad,e,g0,g1⟩:=en_at h hk
 rw [add_pos _ (by omega)] at g0 g1
 exact ⟨ad,e,g0,g1⟩
theorem en_zero {w:World} {ok:Nat→Prop} {A:Option Addr} {x:Joint} (h:endK.C w ok A x.ends) (hk:0 < x.ends.length):∃ad,A=some ad∧w.cell? ad=some (.int .i64 (en x 0).piece)∧w.cell? ⟨ad.block,ad.off+1,none⟩=some (.int .i64 (en x 0).side):=by
 obtain ⟨ad,e,g0,g1⟩:=en_at h hk
 have h0:ad.add (0*2)=ad:=by unfold Addr.add;simp
 rw [h0] at g0 g1
 exact ⟨ad,e,g0,g1⟩
set_option maxRecDepth 100000 in
set_option maxHeartbeats 8000000 in
theorem specAcross {ok:Nat→Prop} (x:Joint) (A2:Option Addr) (c2 k m:Nat) (w:World) (h:endK.C w ok A2 x.ends) (hx:jointP m x) (hk:k < x.ends.length) :
  Calls Try.prog 52 #[.agg #[.int .i64 x.kind,.string x.name,.slice A2 x.ends.length c2],.int .i64 k] w (RetC endK (across x k) w):=by
 have hm:=h.1
 obtain ⟨⟨x1,x2⟩,x3,_⟩:=hx
 have HC:=Lib.hid (Kn.C_below (below_alloc w (.cells #[.int .i64 x.kind,.string x.name,.slice A2 x.ends.length c2] 97)) h)
 rcases (show x.kind=1∨x.kind=2∨x.kind=3∨x.kind=4 by omega) with e | e | e | e
 ·have HA:Hid (across x k=[]):=Lib.hid (by unfold across;rw [e];rfl)
  have d2:(x.kind == 2)=false:=int_eqf (by omega)
  have d3:(x.kind == 3)=false:=int_eqf (by omega)
  have d4:(x.kind == 4)=false:=int_eqf (by omega)
  clear e
  go_enter Try.func52,Try.ntmps52
  go_wp2
  go_ret
  exact ⟨none,0,by rw [HA.out];rfl,by rw [HA.out];simp,by rw [HA.out];exact Kn.C_nil,below_alloc _ _⟩
 ·have d2:(x.kind == 2)=true:=int_eqt e
  rcases (show k=0∨k=1 by omega) with rfl | rfl
  ·have HA:Hid (across x 0=[en x 1]):=Lib.hid (by unfold across;rw [if_pos e])
   obtain ⟨ad,rfl,g0,g1⟩:=en_pos (k:=1) (m:=2) HC.out (by omega) (by omega) rfl
   have l0:(0:Int) < (x.ends.length:Int):=by omega
   have l1:(1:Int) < (x.ends.length:Int):=by omega
   clear e
   go_enter Try.func52,Try.ntmps52
   go_wp2
   go_ret
   exact ⟨_,1,by rw [HA.out];rfl,by rw [HA.out];simp,by rw [HA.out];exact endC_one (by simp) (by simp) (by simp) (by simp),by repeat' first | exact Below.refl _ _ | (refine below_drewN ?_ _) | (refine Below.drew ?_) | (refine Below.alloc ?_ (by simp;try omega) _)⟩
  ·have HA:Hid (across x 1=[en x 0]):=Lib.hid (by unfold across;rw [if_pos e])
   obtain ⟨ad,rfl,g0,g1⟩:=en_zero HC.out (by omega)
   have l0:(0:Int) < (x.ends.length:Int):=by omega
   have l1:(1:Int) < (x.ends.length:Int):=by omega
   clear e
   go_enter Try.func52,Try.ntmps52
   go_wp2
   go_ret
   exact ⟨_,1,by rw [HA.out];rfl,by rw [HA.out];simp,by rw [HA.out];exact endC_one (by simp) (by simp) (by simp) (by simp),by repeat' first | exact Below.refl _ _ | (refine below_drewN ?_ _) | (refine Below.drew ?_) | (refine Below.alloc ?_ (by simp;try omega) _)⟩
 ·have d2:(x.kind == 2)=false:=int_eqf (by omega)
  have d3:(x.kind == 3)=true:=int_eqt e
  have l0:(0:Int) < (x.ends.length:Int):=by omega
  have l1:(1:Int) < (x.ends.length:Int):=by omega
  have l2:(2:Int) < (x.ends.length:Int):=by omega
  by_cases h0:k=0
  ·subst h0
   have HA:Hid (across x 0=[en x 1,en x 2]):=Lib.hid (by unfold across;rw [if_neg (by omega),if_pos e,if_pos rfl])
   obtain ⟨ad,rfl,g0,g1⟩:=en_pos (k:=1) (m:=2) HC.out (by omega) (by omega) rfl
   obtain ⟨ad',he,g2,g3⟩:=en_pos (k:=2) (m:=4) HC.out (by omega) (by omega) rfl
   obtain rfl:=Option.some.inj he
   clear e he
   go_enter Try.func52,Try.ntmps52
   go_wp2
   go_region
   all_goals (try go_wp2)
   all_goals go_ret
   all_goals exact ⟨_,2,by rw [HA.out];rfl,by rw [HA.out];simp,by rw [HA.out];exact endC_two (by simp) (by simp) (by simp) (by simp) (by simp) (by simp),by repeat' first | exact Below.refl _ _ | (refine below_drewN ?_ _) | (refine Below.drew ?_) | (refine Below.alloc ?_ (by simp;try omega) _)⟩
  ·have HA:Hid (across x k=[en x 0]):=Lib.hid (by unfold across;rw [if_neg (by omega),if_pos e,if_neg h0])
   obtain ⟨ad,rfl,g0,g1⟩:=en_zero HC.out (by omega)
   have d0:((k:Int) == 0)=false:=int_eqf (by omega)
   clear e h0
   go_enter Try.func52,Try.ntmps52
   go_wp2
   go_ret
   exact ⟨_,1,by rw [HA.out];rfl,by rw [HA.out];simp,by rw [HA.out];exact endC_one (by simp) (by simp) (by simp) (by simp),by repeat' first | exact Below.refl _ _ | (refine below_drewN ?_ _) | (refine Below.drew ?_) | (refine Below.alloc ?_ (by simp;try omega) _)⟩
 ·have d2:(x.kind == 2)=false:=int_eqf (by omega)
  have d3:(x.kind == 3)=false:=int_eqf (by omega)
  have d4:(x.kind == 4)=true:=int_eqt e
  have l0:(0:Int) < (x.ends.length:Int):=by omega
  have l1:(1:Int) < (x.ends.length:Int):=by omega
  have l2:(2:Int) < (x.ends.length:Int):=by omega
  have l3:(3:Int) < (x.ends.length:Int):=by omega
  have HX:Hid (across x k=[en x (xr k)]):=Lib.hid (by unfold across;rw [if_neg (by omega),if_neg (by omega),if_pos e])
  rcases (show k=0∨k=1∨k=2∨k=3 by omega) with rfl | rfl | rfl | rfl
  ·have HA:Hid (across x 0=[en x 1]):=HX
   obtain ⟨ad,rfl,g0,g1⟩:=en_pos (k:=1) (m:=2) HC.out (by omega) (by omega) rfl
   have gb:=World.block_lt_of_cell? _ _ g0
   have gb':ad.block < w.heap.size+1:=by simpa using gb
   clear e HX x3 gb
   go_enter Try.func52,Try.ntmps52
   go_wp2
   go_region
   all_goals (try go_wp2)
   all_goals go_ret
   all_goals (refine ⟨_,1,by rw [HA.out];rfl,by rw [HA.out];simp,?_,?_⟩)
   all_goals first | (rw [HA.out];refine endC_blk (t:=102) (Blk_drew (Blk.new _ _ _ ?_)) ?_;rw [size_alloc,size_alloc];show w.heap.size≤w.heap.size+1+1;omega) | (rw [HA.out];refine endC_blk (t:=102) (Blk_drew (Blk.new _ _ _ ?_)) ?_;rw [size_alloc];show w.heap.size≤w.heap.size+1;omega) | (repeat' first | exact Below.refl _ _ | (refine below_drewN ?_ _) | (refine Below.drew ?_) | (refine Below.alloc ?_ (by simp;try omega) _))
  ·have HA:Hid (across x 1=[en x 0]):=HX
   obtain ⟨ad,rfl,g0,g1⟩:=en_zero HC.out (by omega)
   have gb:=World.block_lt_of_cell? _ _ g0
   have gb':ad.block < w.heap.size+1:=by simpa using gb
   clear e HX x3 gb
   go_enter Try.func52,Try.ntmps52
   go_wp2
   go_region
   all_goals (try go_wp2)
   all_goals go_ret
   all_goals (refine ⟨_,1,by rw [HA.out];rfl,by rw [HA.out];simp,?_,?_⟩)
   all_goals first | (rw [HA.out];refine endC_blk (t:=102) (Blk_drew (Blk.new _ _ _ ?_)) ?_;rw [size_alloc,size_alloc];show w.heap.size≤w.heap.size+1+1;omega) | (rw [HA.out];refine endC_blk (t:=102) (Blk_drew (Blk.new _ _ _ ?_)) ?_;rw [size_alloc];show w.heap.size≤w.heap.size+1;omega) | (repeat' first | exact Below.refl _ _ | (refine below_drewN ?_ _) | (refine Below.drew ?_) | (refine Below.alloc ?_ (by simp;try omega) _))
  ·have HA:Hid (across x 2=[en x 3]):=HX
   obtain ⟨ad,rfl,g0,g1⟩:=en_pos (k:=3) (m:=6) HC.out (by omega) (by omega) rfl
   have gb:=World.block_lt_of_cell? _ _ g0
   have gb':ad.block < w.heap.size+1:=by simpa using gb
   clear e HX x3 gb
   go_enter Try.func52,Try.ntmps52
   go_wp2
   go_region
   all_goals (try go_wp2)
   all_goals go_ret
   all_goals (refine ⟨_,1,by rw [HA.out];rfl,by rw [HA.out];simp,?_,?_⟩)
   all_goals first | (rw [HA.out];refine endC_blk (t:=102) (Blk_drew (Blk.new _ _ _ ?_)) ?_;rw [size_alloc,size_alloc];show w.heap.size≤w.heap.size+1+1;omega) | (rw [HA.out];refine endC_blk (t:=102) (Blk_drew (Blk.new _ _ _ ?_)) ?_;rw [size_alloc];show w.heap.size≤w.heap.size+1;omega) | (repeat' first | exact Below.refl _ _ | (refine below_drewN ?_ _) | (refine Below.drew ?_) | (refine Below.alloc ?_ (by simp;try omega) _))
  ·have HA:Hid (across x 3=[en x 2]):=HX
   obtain ⟨ad,rfl,g0,g1⟩:=en_pos (k:=2) (m:=4) HC.out (by omega) (by omega) rfl
   have gb:=World.block_lt_of_cell? _ _ g0
   have gb':ad.block < w.heap.size+1:=by simpa using gb
   clear e HX x3 gb
   go_enter Try.func52,Try.ntmps52
   go_wp2
   go_region
   all_goals (try go_wp2)
   all_goals go_ret
   all_goals (refine ⟨_,1,by rw [HA.out];rfl,by rw [HA.out];simp,?_,?_⟩)
   all_goals first | (rw [HA.out];refine endC_blk (t:=102) (Blk_drew (Blk.new _ _ _ ?_)) ?_;rw [size_alloc,size_alloc];show w.heap.size≤w.heap.size+1+1;omega) | (rw [HA.out];refine endC_blk (t:=102) (Blk_drew (Blk.new _ _ _ ?_)) ?_;rw [size_alloc];show w.heap.size≤w.heap.size+1;omega) | (repeat' first | exact Below.refl _ _ | (refine below_drewN ?_ _) | (refine Below.drew ?_) | (refine Below.alloc ?_ (by simp;try omega) _))
end Go.Proofs.Ytjccgneimknbpaa.L
namespace Go.Proofs.Ytjccgneimknbpaa.L
open Go.RowKit
def howOf (x:Joint) (k:Nat):List Int:=if x.kind=3 then (if k=0 then [1,2] else [(k:Int)]) else if x.kind=1 then [] else [0]
def RetO (xs:List End) (hs:List Int) (w:World) (en:Ending) (w':World):Prop:=∃A c B d,en=.returned (.tuple #[.slice A xs.length c,.slice B hs.length d])∧xs.length≤c∧endK.C w' (fun b=>w.heap.size≤b) A xs∧Kn.int.C w' (fun b=>w.heap.size≤b) B hs∧Below w.heap.size w w'
theorem intC_one {w:World} {ok:Nat→Prop} {g t:Nat} {v:Int} (h:Blk w g t [.int .i64 v]) (hok:ok g):Kn.int.C w ok (some ⟨g,0,none⟩) [v] :=
 ⟨by simp,fun _=>⟨_,rfl,hok,h.lt,fun j x hj=>by
  obtain ⟨h2,h3⟩:=List.getElem?_eq_some_iff.1 hj
  simp only [List.length_singleton] at h2
  obtain rfl:j=0:=by omega
  simp only [List.getElem_cons_zero] at h3
  subst h3
  refine ⟨[.int .i64 v],rfl,fun i u hu=>?_⟩
  rw [add_zero,Nat.zero_mul,Nat.zero_add]
  exact h.cell i hu⟩⟩
theorem intC_two {w:World} {ok:Nat→Prop} {g t:Nat} {u v:Int} (h:Blk w g t [.int .i64 u,.int .i64 v]) (hok:ok g):Kn.int.C w ok (some ⟨g,0,none⟩) [u,v] :=
 ⟨by simp,fun _=>⟨_,rfl,hok,h.lt,fun j x hj=>by
  have hl:=(List.getElem?_eq_some_iff.1 hj).1
  simp only [List.length_cons,List.length_nil] at hl
  match j,hj with
  | 0,hj =>
   simp at hj
   subst hj
   refine ⟨[.int .i64 u],rfl,fun i z hz=>?_⟩
   match i,hz with
   | 0,hz=>simp at hz;subst hz;exact h.cell 0 rfl
  | 1,hj =>
   simp at hj
   subst hj
   refine ⟨[.int .i64 v],rfl,fun i z hz=>?_⟩
   match i,hz with
   | 0,hz=>simp at hz;subst hz;exact h.cell 1 rfl⟩⟩
theorem endC_blk2 {w:World} {ok:Nat→Prop} {g t:Nat} {a b:End} (h:Blk w g t [.int .i64 a.piece,.int .i64 a.side,.int .i64 b.piece,.int .i64 b.side]) (hok:ok g):endK.C w ok (some ⟨g,0,none⟩) [a,b]:=endC_two hok h.lt (h.cell 0 rfl) (h.cell 1 rfl) (h.cell 2 rfl) (h.cell 3 rfl)
theorem overEnd2 {xs:List End} {hs:List Int} {a b:End} {u v:Int} {w w1:World} (hx:xs=[a,b]) (hh:hs=[u,v]) (hb:Below w.heap.size w w1) :
  RetO xs hs w (.returned (.tuple #[.slice (some ⟨w1.heap.size,0,none⟩) 2 2,.slice (some ⟨w1.heap.size+1,0,none⟩) 2 2])) ((w1.alloc (.cells #[.int .i64 a.piece,.int .i64 a.side,.int .i64 b.piece,.int .i64 b.side] 102)).alloc (.cells #[.int .i64 u,.int .i64 v] 3)).drew:=by
 subst hx hh
 have hs:=hb.size
 refine ⟨_,2,_,2,rfl,by simp,?_,?_,?_⟩
 ·exact endC_blk2 (t:=102) (Blk_drew ((Blk.new _ _ _ rfl).alloc _)) hs
 ·exact intC_two (t:=3) (Blk_drew (Blk.new _ _ _ (by rw [size_alloc]))) (by show w.heap.size≤w1.heap.size+1;omega)
 ·exact ((hb.alloc hs _).alloc (by rw [size_alloc];omega) _).drew
theorem overEnd2' {xs:List End} {hs:List Int} {a b:End} {u v:Int} {w w1:World} (hx:xs=[a,b]) (hh:hs=[u,v]) (hb:Below w.heap.size w w1) :
  RetO xs hs w (.returned (.tuple #[.slice (some ⟨w1.heap.size+1,0,none⟩) 2 2,.slice (some ⟨w1.heap.size,0,none⟩) 2 2])) ((w1.alloc (.cells #[.int .i64 u,.int .i64 v] 3)).alloc (.cells #[.int .i64 a.piece,.int .i64 a.side,.int .i64 b.piece,.int .i64 b.side] 102)).drew:=by
 subst hx hh
 have hs:=hb.size
 refine ⟨_,2,_,2,rfl,by simp,?_,?_,?_⟩
 ·exact endC_blk2 (t:=102) (Blk_drew (Blk.new _ _ _ (by rw [size_alloc]))) (by show w.heap.size≤w1.heap.size+1;omega)
 ·exact intC_two (t:=3) (Blk_drew ((Blk.new _ _ _ rfl).alloc _)) hs
 ·exact ((hb.alloc hs _).alloc (by rw [size_alloc];omega) _).drew
theorem overEnd1 {xs:List End} {hs:List Int} {a:End} {v:Int} {w w1:World} (hx:xs=[a]) (hh:hs=[v]) (hb:Below w.heap.size w w1) :
  RetO xs hs w (.returned (.tuple #[.slice (some ⟨w1.heap.size,0,none⟩) 1 1,.slice (some ⟨w1.heap.size+1,0,none⟩) 1 1])) ((w1.alloc (.cells #[.int .i64 a.piece,.int .i64 a.side] 102)).alloc (.cells #[.int .i64 v] 3)):=by
 subst hx hh
 have hs:=hb.size
 refine ⟨_,1,_,1,rfl,by simp,?_,?_,?_⟩
 ·exact endC_blk (t:=102) ((Blk.new _ _ _ rfl).alloc _) hs
 ·exact intC_one (t:=3) (Blk.new _ _ _ (by rw [size_alloc])) (by show w.heap.size≤w1.heap.size+1;omega)
 ·exact (hb.alloc hs _).alloc (by rw [size_alloc];omega) _
set_option maxRecDepth 100000 in
set_option maxHeartbeats 8000000 in
theorem implOver {ok:Nat→Prop} (n:Net) (A0 A1:Option Addr) (c0 c1:Nat) (e:End) (w:World) (h:NC 102 w ok n A0 A1) (hg:Hid (Good n)) (he:Hid (endP n.pieces.length e)) :
  Calls Try.prog 101 #[.agg #[.slice A0 n.pieces.length c0,.slice A1 n.joints.length c1],e.v] w (RetO (across (jt n (atJ n e).1) (atJ n e).2) (howOf (jt n (atJ n e).1) (atJ n e).2) w):=by
 obtain ⟨j,k,x,hat,hjk,hx,hP,hjl,hkl⟩:=at_get hg.out he.out
 have HJK:=Lib.hid hjk
 obtain ⟨p,s⟩:=e
 have hgoal:Hid (across (jt n (atJ n ⟨p,s⟩).1) (atJ n ⟨p,s⟩).2=across x k∧howOf (jt n (atJ n ⟨p,s⟩).1) (atJ n ⟨p,s⟩).2=howOf x k):=Lib.hid (by rw [hjk];simp only [hx];exact ⟨trivial,trivial⟩)
 have hmj:=h.j.1
 rw [hgoal.out.1,hgoal.out.2]
 clear hgoal hjk hx
 go_enter Try.func101,Try.ntmps101
 go_wp2_with fail
 obtain ⟨W0,hW,HB0,h0,f0,f1⟩:∃W,W=(w.alloc (.cells #[.slice A0 n.pieces.length c0,.slice A1 n.joints.length c1] 26)).alloc (.cells #[.int .i64 p,.int .i64 s] 102)∧Below w.heap.size w W∧w.heap.size < W.heap.size ∧
  W.cell? ⟨w.heap.size,0,none⟩=some (.slice A0 n.pieces.length c0)∧W.cell? ⟨w.heap.size,1,none⟩=some (.slice A1 n.joints.length c1):=⟨_,rfl,(below_alloc _ _).alloc (by simp) _,by simp;omega,by simp,by simp⟩
 rw [←hW]
 clear hW
 refine (implAt n A0 A1 c0 c1 ⟨p,s⟩ _ (h.below HB0) hg he).mono ?_
 rintro e w1 ⟨rfl,hb1⟩
 rw [HJK.out]
 have HBW:=HB0.trans (hb1.mono HB0.size)
 have g0:=cell_below hb1 f0
 have g1:=cell_below hb1 f1
 have hs1:w.heap.size < w1.heap.size:=by have:=hb1.size;omega
 clear f0 f1 h0
 obtain ⟨a1,rfl,y,E,A2,c2,q0,q1,q2,l2,C2⟩:=jointK_at (Kn.C_below HBW h.j) j hjl
 have hy:=hat.1.symm.trans E.out
 injection hy with hy
 subst hy
 have i0:(0:Int)≤(j:Int):=Int.natCast_nonneg _
 have i1:(j:Int) < (n.joints.length:Int):=by omega
 have d0:decide ((j:Int) < 0)=false:=decide_eq_false (by omega)
 have hme:=C2.1
 clear hat E
 obtain ⟨⟨x1,x2⟩,x3,_⟩:=hP
 rcases (show x.kind=1∨x.kind=2∨x.kind=3∨x.kind=4 by omega) with e | e | e | e
 ·have HA:Hid (across x k=[]):=Lib.hid (by unfold across;rw [e];rfl)
  have HH:Hid (howOf x k=[]):=Lib.hid (by unfold howOf;rw [if_neg (by omega),if_pos e])
  have d2:(x.kind == 2)=false:=int_eqf (by omega)
  have d3:(x.kind == 3)=false:=int_eqf (by omega)
  have d4:(x.kind == 4)=false:=int_eqf (by omega)
  clear e x3
  go_wp2
  go_ret2
  exact ⟨none,0,none,0,by rw [HA.out,HH.out];rfl,by rw [HA.out];simp,by rw [HA.out];exact Kn.C_nil,by rw [HH.out];exact Kn.C_nil,HBW⟩
 ·have d2:(x.kind == 2)=true:=int_eqt e
  have HH:Hid (howOf x k=[0]):=Lib.hid (by unfold howOf;rw [if_neg (by omega),if_neg (by omega)])
  have l0:(0:Int) < (x.ends.length:Int):=by omega
  have l1:(1:Int) < (x.ends.length:Int):=by omega
  rcases (show k=0∨k=1 by omega) with rfl | rfl
  ·have HA:Hid (across x 0=[en x 1]):=Lib.hid (by unfold across;rw [if_pos e])
   obtain ⟨ad,rfl,u0,u1⟩:=en_pos (k:=1) (m:=2) C2 (by omega) (by omega) rfl
   clear e x3
   go_wp2
   go_ret2
   exact overEnd1 HA.out HH.out HBW
  ·have HA:Hid (across x 1=[en x 0]):=Lib.hid (by unfold across;rw [if_pos e])
   obtain ⟨ad,rfl,u0,u1⟩:=en_zero C2 (by omega)
   clear e x3
   go_wp2
   go_ret2
   exact overEnd1 HA.out HH.out HBW
 ·have d2:(x.kind == 2)=false:=int_eqf (by omega)
  have d3:(x.kind == 3)=true:=int_eqt e
  have l0:(0:Int) < (x.ends.length:Int):=by omega
  have l1:(1:Int) < (x.ends.length:Int):=by omega
  have l2:(2:Int) < (x.ends.length:Int):=by omega
  by_cases h0:k=0
  ·subst h0
   have HA:Hid (across x 0=[en x 1,en x 2]):=Lib.hid (by unfold across;rw [if_neg (by omega),if_pos e,if_pos rfl])
   have HH:Hid (howOf x 0=[1,2]):=Lib.hid (by unfold howOf;rw [if_pos e,if_pos rfl])
   obtain ⟨ad,rfl,u0,u1⟩:=en_pos (k:=1) (m:=2) C2 (by omega) (by omega) rfl
   obtain ⟨ad',he',u2,u3⟩:=en_pos (k:=2) (m:=4) C2 (by omega) (by omega) rfl
   obtain rfl:=Option.some.inj he'
   have gb:=World.block_lt_of_cell? _ _ u0
   clear e he' x3
   go_wp2
   go_region
   all_goals (try go_wp2)
   all_goals go_ret2
   all_goals first | exact overEnd2 HA.out HH.out HBW | exact overEnd2' HA.out HH.out HBW
  ·have HA:Hid (across x k=[en x 0]):=Lib.hid (by unfold across;rw [if_neg (by omega),if_pos e,if_neg h0])
   have HH:Hid (howOf x k=[(k:Int)]):=Lib.hid (by unfold howOf;rw [if_pos e,if_neg h0])
   obtain ⟨ad,rfl,u0,u1⟩:=en_zero C2 (by omega)
   have d5:((k:Int) == 0)=false:=int_eqf (by omega)
   clear e h0 x3
   go_wp2
   go_ret2
   exact overEnd1 HA.out HH.out HBW
 ·have d2:(x.kind == 2)=false:=int_eqf (by omega)
  have d3:(x.kind == 3)=false:=int_eqf (by omega)
  have d4:(x.kind == 4)=true:=int_eqt e
  have l0:(0:Int) < (x.ends.length:Int):=by omega
  have l1:(1:Int) < (x.ends.length:Int):=by omega
  have l2:(2:Int) < (x.ends.length:Int):=by omega
  have l3:(3:Int) < (x.ends.length:Int):=by omega
  have HX:Hid (across x k=[en x (xr k)]):=Lib.hid (by unfold across;rw [if_neg (by omega),if_neg (by omega),if_pos e])
  have HH:Hid (howOf x k=[0]):=Lib.hid (by unfold howOf;rw [if_neg (by omega),if_neg (by omega)])
  rcases (show k=0∨k=1∨k=2∨k=3 by omega) with rfl | rfl | rfl | rfl
  ·have HA:Hid (across x 0=[en x 1]):=HX
   obtain ⟨ad,rfl,u0,u1⟩:=en_pos (k:=1) (m:=2) C2 (by omega) (by omega) rfl
   have hbx:bits BinOp.xor IntKind.i64 0 1=1:=by kernel_rfl
   clear e HX x3
   go_wp2
   go_ret2
   exact overEnd1 HA.out HH.out HBW
  ·have HA:Hid (across x 1=[en x 0]):=HX
   obtain ⟨ad,rfl,u0,u1⟩:=en_zero C2 (by omega)
   have hbx:bits BinOp.xor IntKind.i64 1 1=0:=by kernel_rfl
   clear e HX x3
   go_wp2
   go_ret2
   exact overEnd1 HA.out HH.out HBW
  ·have HA:Hid (across x 2=[en x 3]):=HX
   obtain ⟨ad,rfl,u0,u1⟩:=en_pos (k:=3) (m:=6) C2 (by omega) (by omega) rfl
   have hbx:bits BinOp.xor IntKind.i64 2 1=3:=by kernel_rfl
   clear e HX x3
   go_wp2
   go_ret2
   exact overEnd1 HA.out HH.out HBW
  ·have HA:Hid (across x 3=[en x 2]):=HX
   obtain ⟨ad,rfl,u0,u1⟩:=en_pos (k:=2) (m:=4) C2 (by omega) (by omega) rfl
   have hbx:bits BinOp.xor IntKind.i64 3 1=2:=by kernel_rfl
   clear e HX x3
   go_wp2
   go_ret2
   exact overEnd1 HA.out HH.out HBW
end Go.Proofs.Ytjccgneimknbpaa.L
namespace Go.Proofs.Ytjccgneimknbpaa.L
open Go.RowKit
open Classical
structure Right (n:Net) (ss:List Signal):Prop where
 g:Good n
 len:ss.length≤60
 sig:∀s∈ss,signalP n s
theorem right_of_ok {n:Net} {ss:List Signal} (h:signalsOk n ss=⟨0,0⟩):Right n ss:=by
 unfold signalsOk at h
 split at h
 ·simp at h
 rename_i h1
 split at h
 ·simp at h
 rename_i h2
 split at h
 ·simp at h
 rename_i h3
 refine ⟨good_of_ok (Classical.byContradiction fun e=>h1 e),by omega,fun s hs=>Classical.byContradiction fun hb=>?_⟩
 obtain ⟨i,hi⟩:=List.mem_iff_getElem?.1 hs
 exact h3 ⟨i,(List.getElem?_eq_some_iff.1 hi).1,s,hi,hb⟩
theorem pl_at {n:Net} {u:Nat} {z:Piece} (h:n.pieces[u]?=some z):pl n (u:Int)=z.len:=by
 unfold pl
 rw [Int.toNat_natCast,h]
 rfl
theorem pl_in {n:Net} (hg:Good n) {p:Int} (h0:0≤p) (h1:p≤(n.pieces.length:Int) - 1):1≤pl n p∧pl n p≤10000000:=by
 obtain ⟨u,rfl⟩:∃u:Nat,p=u:=⟨p.toNat,by omega⟩
 have hu:u < n.pieces.length:=by omega
 have:=hg.piece _ (List.getElem_mem hu)
 rw [pl_at (List.getElem?_eq_getElem hu)]
 exact ⟨this.2.1,this.2.2.1⟩
theorem sig_in {n:Net} {ss:List Signal} (hr:Right n ss) {b:Nat} {s:Signal} (h:ss[b]?=some s):stepP n.pieces.length ⟨s.piece,s.way⟩∧1≤s.at_∧s.at_≤pl n s.piece - 1∧pl n s.piece≤10000000:=by
 obtain ⟨_,h1,h2,p,h3,h4,h5⟩:=hr.sig _ (mem_of_get h)
 have hp:=pl_in hr.g h1.1 h1.2
 have:pl n s.piece=p.len:=by
  obtain ⟨u,hu⟩:∃u:Nat,s.piece=u:=⟨s.piece.toNat,by omega⟩
  rw [hu] at h3 ⊢
  rw [Int.toNat_natCast] at h3
  exact pl_at h3
 exact ⟨⟨h1,h2⟩,h4,by omega,hp.2⟩
noncomputable def firstTo (n:Net) (ss:List Signal) (p way far:Int) (k:Nat):Option Nat:=pick ss (fitsW n p way far) (aheadW n p way) k
noncomputable def lastTo (n:Net) (ss:List Signal) (p back:Int) (k:Nat):Option Nat:=pick ss (fitsB p back) (aheadB n p back) k
theorem firstTo_lt {n:Net} {ss:List Signal} {p way far:Int} {k b:Nat} (h:firstTo n ss p way far k=some b):b < k∧b < ss.length∧∃s,ss[b]?=some s∧s.piece=p∧s.way=way∧far < farOf n p s.at_ way:=pick_lt h
theorem lastTo_lt {n:Net} {ss:List Signal} {p back:Int} {k b:Nat} (h:lastTo n ss p back k=some b):b < k∧b < ss.length∧∃s,ss[b]?=some s∧s.piece=p∧s.way=back:=pick_lt h
theorem firstTo_not {n:Net} {ss:List Signal} {p way far:Int} {k:Nat} {s:Signal} (hs:ss[k]?=some s) (h:¬(s.piece=p∧s.way=way∧far < farOf n p s.at_ way)):firstTo n ss p way far (k+1)=firstTo n ss p way far k:=pick_not hs h
theorem lastTo_not {n:Net} {ss:List Signal} {p back:Int} {k:Nat} {s:Signal} (hs:ss[k]?=some s) (h:¬(s.piece=p∧s.way=back)):lastTo n ss p back (k+1)=lastTo n ss p back k:=pick_not hs h
theorem firstTo_one {n:Net} {ss:List Signal} {p way far:Int} {k:Nat} {s:Signal} (hs:ss[k]?=some s) (h:s.piece=p∧s.way=way∧far < farOf n p s.at_ way) (h0:firstTo n ss p way far k=none):firstTo n ss p way far (k+1)=some k :=
 pick_yes hs h (fun b t hb=>by unfold firstTo at h0;rw [h0] at hb;cases hb)
theorem lastTo_one {n:Net} {ss:List Signal} {p back:Int} {k:Nat} {s:Signal} (hs:ss[k]?=some s) (h:s.piece=p∧s.way=back) (h0:lastTo n ss p back k=none):lastTo n ss p back (k+1)=some k :=
 pick_yes hs h (fun b t hb=>by unfold lastTo at h0;rw [h0] at hb;cases hb)
theorem firstTo_new {n:Net} {ss:List Signal} {p way far:Int} {k b:Nat} {s t:Signal} (hs:ss[k]?=some s) (h:s.piece=p∧s.way=way∧far < farOf n p s.at_ way) (h0:firstTo n ss p way far k=some b) (ht:ss[b]?=some t) (hl:farOf n p s.at_ way < farOf n p t.at_ way):firstTo n ss p way far (k+1)=some k :=
 pick_yes hs h (fun b' t' hb ht'=>by
  unfold firstTo at h0
  rw [h0] at hb
  obtain rfl:=Option.some.inj hb
  rw [ht] at ht'
  obtain rfl:=Option.some.inj ht'
  exact hl)
theorem lastTo_new {n:Net} {ss:List Signal} {p back:Int} {k b:Nat} {s t:Signal} (hs:ss[k]?=some s) (h:s.piece=p∧s.way=back) (h0:lastTo n ss p back k=some b) (ht:ss[b]?=some t) (hl:farOf n p t.at_ back < farOf n p s.at_ back):lastTo n ss p back (k+1)=some k :=
 pick_yes hs h (fun b' t' hb ht'=>by
  unfold lastTo at h0
  rw [h0] at hb
  obtain rfl:=Option.some.inj hb
  rw [ht] at ht'
  obtain rfl:=Option.some.inj ht'
  exact hl)
theorem firstTo_old {n:Net} {ss:List Signal} {p way far:Int} {k b:Nat} {s t:Signal} (hs:ss[k]?=some s) (h0:firstTo n ss p way far k=some b) (ht:ss[b]?=some t) (hl:¬farOf n p s.at_ way < farOf n p t.at_ way):firstTo n ss p way far (k+1)=some b:=pick_old hs h0 ht hl
theorem lastTo_old {n:Net} {ss:List Signal} {p back:Int} {k b:Nat} {s t:Signal} (hs:ss[k]?=some s) (h0:lastTo n ss p back k=some b) (ht:ss[b]?=some t) (hl:¬farOf n p t.at_ back < farOf n p s.at_ back):lastTo n ss p back (k+1)=some b:=pick_old hs h0 ht hl
theorem onum_some (b:Nat):onum (some b)=(b:Int):=rfl
theorem onum_none:onum none=-1:=rfl
theorem far_fwd (n:Net) (p a:Int):farOf n p a 1=a:=by unfold farOf;rw [if_pos rfl]
theorem far_back (n:Net) (p a:Int):farOf n p a (-1)=pl n p - a:=by unfold farOf;rw [if_neg (by decide)]
def tilOf (n:Net) (p far left:Int):Int:=if far+left≤pl n p then far+left else pl n p
section
variable {n:Net} {m:Nat} {p way far left:Int} {j k:Nat} {x:Joint}
theorem beyond_none (h:left≤0):beyond n m p way far left=[]:=by
 cases m with
 | zero=>rfl
 | succ m=>rw [beyond,if_pos h]
theorem beyond_last (h:¬left≤0) (ha:atJ n (headE p way)=(j,k)) (hx:jt n j=x) (hs:left - (tilOf n p far left - far)=0∨¬x.kind=2):beyond n (m+1) p way far left=[partN n p way far (tilOf n p far left)]:=by
 rw [beyond,if_neg h,ha]
 simp only [hx]
 exact if_pos hs
theorem beyond_plain (h:¬left≤0) (ha:atJ n (headE p way)=(j,k)) (hx:jt n j=x) (hs:x.kind=2) :
  beyond n (m+1) p way far left=partN n p way far (tilOf n p far left)::beyond n m (en x (1 - k)).piece (wayOf (en x (1 - k))) 0 (left - (tilOf n p far left - far)):=by
 rw [beyond,if_neg h,ha]
 simp only [hx]
 by_cases h0:left - (tilOf n p far left - far)=0
 ·have h1:beyond n m (en x (1 - k)).piece (wayOf (en x (1 - k))) 0 (left - (tilOf n p far left - far))=[]:=beyond_none (by omega)
  rw [h1]
  exact if_pos (.inl h0)
 ·exact if_neg (fun e=>e.elim h0 (fun e=>e hs))
theorem til_bounds (h0:0≤far) (h1:far < pl n p) (h:¬left≤0):far < tilOf n p far left∧tilOf n p far left≤pl n p∧tilOf n p far left - far≤left:=by
 unfold tilOf
 split <;> omega
end
theorem beyond_len {n:Net}:∀(m:Nat) (p way far left:Int),0≤left→stepP n.pieces.length ⟨p,way⟩→Good n→0≤far→far < pl n p→((beyond n m p way far left).length:Int)≤left
 | 0,p,way,far,left,h,hs,hg,h0,h1=>by rw [show beyond n 0 p way far left=[] from rfl];simpa using h
 | m+1,p,way,far,left,h,hs,hg,h0,h1=>by
  by_cases hl:left≤0
  ·rw [beyond_none hl]
   simpa using h
  obtain ⟨j,k,x,hat,h2,h3,h4,h5,h6⟩:=at_get hg (head_ok hs)
  have hb:=til_bounds (left:=left) h0 h1 hl
  by_cases h7:x.kind=2
  ·rw [beyond_plain hl h2 h3 h7]
   have hl2:x.ends.length=2:=by have:=h4.2.1;omega
   have he:=en_ok (k:=1 - k) h4 (by omega)
   have hp:=pl_in hg he.1.1 he.1.2
   have:=beyond_len (n:=n) m (en x (1 - k)).piece (wayOf (en x (1 - k))) 0 (left - (tilOf n p far left - far)) (by omega) (step_of_end he) hg (by omega) (by omega)
   rw [List.length_cons]
   omega
  ·rw [beyond_last hl h2 h3 (.inr h7)]
   simp
   omega
section
variable {n:Net} {ss:List Signal} {lies:List Lie} {a:Int} {m:Nat} {seen:List End} {fl:List Flank} {e:End} {j k:Nat} {x:Joint}
def backOf (e:End):Int:=if e.side=0 then -1 else 1
theorem flankF_met (h:e∈seen):flankF n ss lies a m (seen,fl) e=(seen,fl):=by
 cases m with
 | zero=>rfl
 | succ m=>rw [flankF,if_pos h]
theorem flankF_sig {b:Nat} (h:¬e∈seen) (hb:lastTo n ss e.piece (backOf e) ss.length=some b):flankF n ss lies a (m+1) (seen,fl) e=(seen++[e],fl++[⟨a,2,b,0⟩]):=by
 rw [flankF,if_neg h]
 have:lastS n ss e.piece (if e.side=0 then -1 else 1)=some b:=hb
 simp only [this]
theorem flankF_look (h:¬e∈seen) (hb:lastTo n ss e.piece (backOf e) ss.length=none) (ha:atJ n ⟨e.piece,1 - e.side⟩=(j,k)) (hx:jt n j=x) :
  flankF n ss lies a (m+1) (seen,fl) e=(if x.kind=1 then (seen++[e],fl++[⟨a,1,j,0⟩])
   else if x.kind=3 then
    if k=0 then flankF n ss lies a m (flankF n ss lies a m (seen++[e],fl) (en x 1)) (en x 2)
    else if (⟨j,k⟩:Lie)∈lies then (seen++[e],fl++[⟨a,4,j,0⟩])
    else (seen++[e],fl++[⟨a,3,j,3 - k⟩])
   else flankF n ss lies a m (seen++[e],fl) ((across x k).headD ⟨0,0⟩)):=by
 rw [flankF,if_neg h]
 have:lastS n ss e.piece (if e.side=0 then -1 else 1)=none:=hb
 simp only [this,ha,hx]
theorem flankF_app:∀(m:Nat) (seen:List End) (fl:List Flank) (e:End),flankF n ss lies a m (seen,fl) e=((flankF n ss lies a m (seen,[]) e).1,fl++(flankF n ss lies a m (seen,[]) e).2)
 | 0,seen,fl,e=>by simp [flankF]
 | m+1,seen,fl,e=>by
  by_cases h:e∈seen
  ·rw [flankF_met h,flankF_met h]
   simp
  cases hb:lastTo n ss e.piece (backOf e) ss.length with
  | some b =>
   rw [flankF_sig h hb,flankF_sig h hb]
   simp
  | none =>
   obtain ⟨j,k,ha⟩:∃j k,atJ n ⟨e.piece,1 - e.side⟩=(j,k):=⟨_,_,rfl⟩
   rw [flankF_look h hb ha rfl,flankF_look h hb ha rfl]
   split
   ·simp
   split
   ·split
    ·have h1:=flankF_app m (seen++[e]) fl (en (jt n j) 1)
     rw [h1]
     have h2:=flankF_app m (flankF n ss lies a m (seen++[e],[]) (en (jt n j) 1)).1 (fl++(flankF n ss lies a m (seen++[e],[]) (en (jt n j) 1)).2) (en (jt n j) 2)
     have h3:=flankF_app m (flankF n ss lies a m (seen++[e],[]) (en (jt n j) 1)).1 (flankF n ss lies a m (seen++[e],[]) (en (jt n j) 1)).2 (en (jt n j) 2)
     rw [h2]
     have h4:flankF n ss lies a m (flankF n ss lies a m (seen++[e],[]) (en (jt n j) 1)) (en (jt n j) 2)=flankF n ss lies a m ((flankF n ss lies a m (seen++[e],[]) (en (jt n j) 1)).1,(flankF n ss lies a m (seen++[e],[]) (en (jt n j) 1)).2) (en (jt n j) 2):=rfl
     rw [h4,h3]
     simp
    ·split <;> simp
   ·exact flankF_app m _ _ _
end
noncomputable def flanksTo (n:Net) (ss:List Signal) (lies:List Lie) (i:Nat):List Flank:=((lies.take i).map (flanksAt n ss lies)).flatten
theorem flanksTo_zero (n:Net) (ss:List Signal) (lies:List Lie):flanksTo n ss lies 0=[]:=by simp [flanksTo]
theorem flanksTo_all (n:Net) (ss:List Signal) (lies:List Lie):flanksTo n ss lies lies.length=flanksOf n ss lies:=by simp [flanksTo,flanksOf]
theorem flanksTo_succ {n:Net} {ss:List Signal} {lies:List Lie} {i:Nat} {l:Lie} (h:lies[i]?=some l):flanksTo n ss lies (i+1)=flanksTo n ss lies i++flanksAt n ss lies l:=by
 unfold flanksTo
 obtain ⟨hi,rfl⟩:=List.getElem?_eq_some_iff.1 h
 rw [List.take_succ_eq_append_getElem hi,List.map_append,List.flatten_append]
 simp only [List.map_cons,List.map_nil,List.flatten_cons,List.flatten_nil,List.append_nil]
theorem flanksAt_len {n:Net} {ss:List Signal} {lies:List Lie} {l:Lie} (hg:Good n) (hl:lieP n l):(flanksAt n ss lies l).length≤2*n.pieces.length:=by
 obtain ⟨j,h1,h2,h3,h4⟩:=hl
 have hj:jt n j=n.joints[j]:=by unfold jt;rw [List.getD_eq_getElem?_getD,List.getElem?_eq_getElem h2];rfl
 have hP:=hg.joint _ (List.getElem_mem h2)
 rw [←hj] at hP
 have hlen:(jt n j).ends.length=3:=by have:=hP.2.1;omega
 unfold flanksAt
 have e1:l.joint.toNat=j:=by omega
 have he:endP n.pieces.length (en (jt n l.joint.toNat) (3 - l.lie).toNat):=by
  rw [e1]
  exact en_ok hP (by omega)
 have hs:=flankF_seen (ss:=ss) (lies:=lies) (a:=l.joint) hg (2*n.pieces.length+1) ([],[]) _ he (by simp) (by simp)
 have hl:=flankF_len (n:=n) (ss:=ss) (lies:=lies) (a:=l.joint) (2*n.pieces.length+1) ([],[]) (en (jt n l.joint.toNat) (3 - l.lie).toNat)
 have hb:=ends_bound hs.1 hs.2.1
 simp only [List.length_nil] at hl
 omega
theorem flanksTo_len {n:Net} {ss:List Signal} {lies:List Lie} (hg:Good n) (hl:∀l∈lies,lieP n l):∀i,(flanksTo n ss lies i).length≤i*(2*n.pieces.length)
 | 0=>by rw [flanksTo_zero];simp
 | i+1=>by
  have ih:=flanksTo_len (n:=n) (ss:=ss) hg hl i
  rw [Nat.succ_mul]
  cases h:lies[i]? with
  | none =>
   have:lies.length≤i:=by rw [List.getElem?_eq_none_iff] at h;exact h
   have h1:flanksTo n ss lies (i+1)=flanksTo n ss lies i:=by
    have a1:lies.take (i+1)=lies:=List.take_of_length_le (by omega)
    have a2:lies.take i=lies:=List.take_of_length_le this
    unfold flanksTo
    rw [a1,a2]
   rw [h1]
   omega
  | some l =>
   rw [flanksTo_succ h,List.length_append]
   have:=flanksAt_len (ss:=ss) (lies:=lies) hg (hl l (mem_of_get h))
   omega
theorem find_hit {α:Type} {f:α→Bool}:∀{l:List α} {i:Nat} {x:α},l[i]?=some x→f x=true→(∀j y,j < i→l[j]?=some y→f y=false)→l.find? f=some x
 | [],_,_,h,_,_=>by simp at h
 | a::l,0,x,h,hf,_=>by
  simp at h
  subst h
  simp [hf]
 | a::l,i+1,x,h,hf,hn=>by
  rw [List.getElem?_cons_succ] at h
  have ha:=hn 0 a (by omega) rfl
  rw [List.find?_cons,ha]
  exact find_hit h hf (fun j y hj hy=>hn (j+1) y (by omega) (by rw [List.getElem?_cons_succ];exact hy))
theorem addLie_hit {lies:List Lie} {i j:Nat} {l:Int} {x:Lie} (h:lies[i]?=some x) (hj:x.joint=j) (hn:∀q y,q < i→lies[q]?=some y→¬y.joint=j):addLie lies j l=if x.lie=l then some lies else none:=by
 unfold addLie
 rw [find_hit (f:=fun x=>eqv x.joint (j:Int)) h (eqv_true hj) (fun q y hq hy=>eqv_false (hn q y hq hy))]
theorem addLie_miss {lies:List Lie} {j:Nat} {l:Int} (hn:∀(q:Nat) (y:Lie),lies[q]?=some y→¬y.joint=j):addLie lies j l=some (lies++[⟨j,l⟩]):=by
 unfold addLie
 have:lies.find? (fun x=>eqv x.joint (j:Int))=none:=by
  rw [List.find?_eq_none]
  intro x hx
  obtain ⟨q,hq⟩:=List.mem_iff_getElem?.1 hx
  rw [eqv_false (hn q x hq)]
  decide
 rw [this]
theorem addLie_ok {n:Net} {lies q:List Lie} {j:Nat} {l:Int} (h:addLie lies j l=some q) (hl:∀x∈lies,lieP n x) (hj:j < n.joints.length) (hk:(jt n j).kind=3) (hw:l=1∨l=2):(∀x∈q,lieP n x)∧q.length≤lies.length+1:=by
 unfold addLie at h
 split at h
 ·split at h
  ·obtain rfl:=Option.some.inj h
   exact ⟨hl,by omega⟩
  ·cases h
 ·obtain rfl:=Option.some.inj h
  refine ⟨fun x hx=>?_,by simp⟩
  rcases List.mem_append.1 hx with hx | hx
  ·exact hl x hx
  ·rw [List.mem_singleton.1 hx]
   exact ⟨j,rfl,hj,hk,hw⟩
theorem lieAt_ok {x:Joint} {k i:Nat} {m:Nat} (h:jointP m x) (hk:x.kind=3) (hl:k < x.ends.length) (hi:i < (across x k).length):lieAt k i=1∨lieAt k i=2:=by
 have h3:x.ends.length=3:=by have:=h.2.1;omega
 unfold across at hi
 rw [if_neg (by omega),if_pos hk] at hi
 unfold lieAt
 split
 ·rename_i h0
  rw [if_pos h0] at hi
  simp at hi
  omega
 ·rename_i h0
  omega
theorem RInv.start (n:Net) (ss:List Signal) (i:Nat):RInv n ss (startR i):=⟨by simp [startR],by simp [startR],rfl,by simp [startR],by simp [startR],by simp [startR],rfl,rfl⟩
theorem RInv.bound {n:Net} {ss:List Signal} {r:Route} (h:RInv n ss r):r.steps.length≤2*n.pieces.length:=steps_bound h.nodup h.step
theorem RInv.kid {n:Net} {ss:List Signal} {r q:Route} {p way far b:Int} {x:Joint} {j k i:Nat} (h:RInv n ss r) (hs:stepP n.pieces.length ⟨p,way⟩) (hr:¬(⟨p,way⟩:Step)∈r.steps)
  (hx:jt n j=x) (hj:j < n.joints.length) (hP:jointP n.pieces.length x) (hk:k < x.ends.length) (hi:i < (across x k).length) (hq:goOn (r.on n p way far b) x j k i=some q):RInv n ss q∧q.steps=r.steps++[⟨p,way⟩]:=by
 have hn:=nodup_snoc h.nodup hr
 have hst:∀s∈r.steps++[(⟨p,way⟩:Step)],stepP n.pieces.length s:=fun s hm=>by
  rcases List.mem_append.1 hm with hm | hm
  ·exact h.step s hm
  ·rw [List.mem_singleton.1 hm]
   exact hs
 unfold goOn at hq
 split at hq
 ·rename_i h3
  rw [Option.map_eq_some_iff] at hq
  obtain ⟨l,hl,rfl⟩:=hq
  have h1:=addLie_ok (n:=n) hl h.lies hj (by rw [hx];exact h3) (lieAt_ok hP h3 hk hi)
  refine ⟨⟨hn,hst,?_,?_,h1.1,?_,h.over,h.flanks⟩,rfl⟩
  ·show (r.parts++[_]).length=(r.steps++[_]).length
   simp [h.parts]
  ·show l.length≤(r.steps++[_]).length
   have:=h1.2
   have:=h.liesN
   have hl2:(r.on n p way far b).lies.length=r.lies.length:=rfl
   simp
   omega
  ·show r.crosses.length≤(r.steps++[_]).length
   have:=h.crosses
   simp
   omega
 split at hq
 ·obtain rfl:=Option.some.inj hq
  refine ⟨⟨hn,hst,?_,?_,h.lies,?_,h.over,h.flanks⟩,rfl⟩
  ·show (r.parts++[_]).length=(r.steps++[_]).length
   simp [h.parts]
  ·show r.lies.length≤(r.steps++[_]).length
   have:=h.liesN
   simp
   omega
  ·show (r.crosses++[_]).length≤(r.steps++[_]).length
   have:=h.crosses
   simp
   omega
 ·obtain rfl:=Option.some.inj hq
  refine ⟨⟨hn,hst,?_,?_,h.lies,?_,h.over,h.flanks⟩,rfl⟩
  ·show (r.parts++[_]).length=(r.steps++[_]).length
   simp [h.parts]
  ·show r.lies.length≤(r.steps++[_]).length
   have:=h.liesN
   simp
   omega
  ·show r.crosses.length≤(r.steps++[_]).length
   have:=h.crosses
   simp
   omega
section
variable {go:St→Route→Int→Int→Int→St} {r:Route} {x:Joint} {j k:Nat} {l:List End} {st:St}
theorem kidsTo_skip {i:Nat} {e:End} (he:l[i]?=some e) (hq:goOn r x j k i=none):kidsTo go r x j k l st (i+1)=kidsTo go r x j k l st i:=by
 rw [kidsTo]
 simp only [he,hq]
theorem kidsTo_go {i:Nat} {e:End} {q:Route} (he:l[i]?=some e) (hq:goOn r x j k i=some q):kidsTo go r x j k l st (i+1)=go (kidsTo go r x j k l st i) q e.piece (wayOf e) 0:=by
 rw [kidsTo]
 simp only [he,hq]
end
theorem allF_succ {n:Net} {ss:List Signal} {ov:Int} {k:Nat} {s:Signal} (h:ss[k]?=some s):allF n ss ov (k+1)=walkF n ss ov (2*n.pieces.length+1) (allF n ss ov k) (startR k) s.piece s.way (farOf n s.piece s.at_ s.way):=by
 rw [allF]
 simp only [h]
theorem allF_bounds {n:Net} {ss:List Signal} {ov:Int}:∀k,(allF n ss ov k).1.length≤301∧(allF n ss ov k).2≤20003+2*n.pieces.length+k
 | 0=>⟨by simp [allF],by simp [allF]⟩
 | k+1=>by
  obtain ⟨h1,h2⟩:=allF_bounds (n:=n) (ss:=ss) (ov:=ov) k
  cases h:ss[k]? with
  | none =>
   rw [allF]
   simp only [h]
   exact ⟨h1,by omega⟩
  | some s =>
   rw [allF_succ h]
   have h3:=walkF_tries (n:=n) (ss:=ss) (ov:=ov) (2*n.pieces.length+1) (allF n ss ov k) (startR k) s.piece s.way (farOf n s.piece s.at_ s.way)
   exact ⟨walkF_len _ _ _ _ _ _ h1,by omega⟩
end Go.Proofs.Ytjccgneimknbpaa.L
namespace Go.Proofs.Ytjccgneimknbpaa.L
open Go.RowKit
open Classical
theorem partN_in {n:Net} {p way a b:Int} (h0:0≤a) (h1:a≤b) (h2:b≤pl n p) (hw:way=1∨way=-1) :
  (partN n p way a b).piece=p∧0≤(partN n p way a b).frm∧(partN n p way a b).frm≤(partN n p way a b).til∧(partN n p way a b).til≤pl n p∧(partN n p way a b).til - (partN n p way a b).frm=b - a:=by
 unfold partN
 rcases hw with rfl | rfl
 ·rw [if_pos rfl]
  exact ⟨rfl,h0,h1,h2,rfl⟩
 ·rw [if_neg (by decide)]
  refine ⟨rfl,?_,?_,?_,?_⟩ <;> simp only <;> omega
structure Drv (n:Net) (ss:List Signal) (r:Route) (s0:Signal) (p way far:Int):Prop where
 len:r.parts.length=r.steps.length
 at0:r.steps=[]→p=s0.piece∧way=s0.way∧far=farOf n p s0.at_ way
 far0:¬r.steps=[]→far=0
 part:∀(i:Nat) (x:Part) (s:Step),r.parts[i]?=some x→r.steps[i]?=some s→(s.way=1∨s.way=-1)∧x.piece=s.piece∧0≤x.frm∧x.frm≤x.til∧x.til≤pl n x.piece∧(0 < i→x.til - x.frm=pl n x.piece)
 first:∀(x:Part) (s:Step),r.parts[0]?=some x→r.steps[0]?=some s→s.piece=s0.piece∧s.way=s0.way∧(if s.way=-1 then x.til else x.frm)=s0.at_
 over:r.over=[]
structure Rt (n:Net) (ss:List Signal) (ov:Int) (r:Route):Prop where
 frm:∃(i:Nat) (s0:Signal),r.frm=i∧ss[i]?=some s0∧∀(x:Part) (s:Step),r.parts[0]?=some x→r.steps[0]?=some s→s.piece=s0.piece∧s.way=s0.way∧(if s.way=-1 then x.til else x.frm)=s0.at_
 len:r.parts.length=r.steps.length
 pos:0 < r.steps.length
 part:∀(i:Nat) (x:Part) (s:Step),r.parts[i]?=some x→r.steps[i]?=some s→(s.way=1∨s.way=-1)∧x.piece=s.piece∧0≤x.frm∧x.frm≤x.til∧x.til≤pl n x.piece∧(0 < i→i+1 < r.steps.length→x.til - x.frm=pl n x.piece)
 til:(r.til=-1∧r.over=[])∨∃(b:Nat) (sb:Signal),r.til=b∧ss[b]?=some sb∧∀(x:Part) (s:Step),r.parts[r.steps.length - 1]?=some x→r.steps[r.steps.length - 1]?=some s→s.piece=sb.piece∧s.way=sb.way∧(if s.way=-1 then x.frm else x.til)=sb.at_
 over:(r.over.map (fun x=>x.til - x.frm)).sum≤ov
 overN:(r.over.length:Int)≤ov
 stepP:∀s∈r.steps,stepP n.pieces.length s
 stepN:r.steps.length≤2*n.pieces.length+1
 liesN:r.lies.length≤r.steps.length
 lies:∀l∈r.lies,lieP n l
 crosses:r.crosses.length≤r.steps.length
 flanks:r.flanks=flanksOf n ss r.lies
theorem getElem?_snoc {α:Type} {l:List α} {x y:α} {i:Nat} (h:(l++[x])[i]?=some y):(i < l.length∧l[i]?=some y)∨(i=l.length∧y=x):=by
 by_cases hi:i < l.length
 ·rw [List.getElem?_append_left hi] at h
  exact .inl ⟨hi,h⟩
 ·rw [List.getElem?_append_right (by omega)] at h
  obtain ⟨h1,h2⟩:=List.getElem?_eq_some_iff.1 h
  simp only [List.length_singleton] at h1
  obtain rfl:i=l.length:=by omega
  simp only [Nat.sub_self,List.getElem_cons_zero] at h2
  exact .inr ⟨rfl,h2.symm⟩
theorem nil_of_len {α:Type} {l:List α} (h:l.length=0):l=[]:=List.eq_nil_of_length_eq_zero h
theorem beyond_sum {n:Net}:∀(m:Nat) (p way far left:Int),0≤left→stepP n.pieces.length ⟨p,way⟩→Good n→0≤far→far < pl n p→((beyond n m p way far left).map (fun x=>x.til - x.frm)).sum≤left
 | 0,p,way,far,left,h,hs,hg,h0,h1=>by rw [show beyond n 0 p way far left=[] from rfl];simpa using h
 | m+1,p,way,far,left,h,hs,hg,h0,h1=>by
  by_cases hl:left≤0
  ·rw [beyond_none hl]
   simpa using h
  obtain ⟨j,k,x,hat,h2,h3,h4,h5,h6⟩:=at_get hg (head_ok hs)
  have hb:=til_bounds (left:=left) h0 h1 hl
  have hp:=partN_in (a:=far) (b:=tilOf n p far left) h0 (by omega) hb.2.1 hs.2
  by_cases h7:x.kind=2
  ·rw [beyond_plain hl h2 h3 h7]
   have hl2:x.ends.length=2:=by have:=h4.2.1;omega
   have he:=en_ok (k:=1 - k) h4 (by omega)
   have hq:=pl_in hg he.1.1 he.1.2
   have:=beyond_sum (n:=n) m (en x (1 - k)).piece (wayOf (en x (1 - k))) 0 (left - (tilOf n p far left - far)) (by omega) (step_of_end he) hg (by omega) (by omega)
   rw [List.map_cons,List.sum_cons,hp.2.2.2.2]
   omega
  ·rw [beyond_last hl h2 h3 (.inr h7)]
   simp only [List.map_cons,List.map_nil,List.sum_cons,List.sum_nil,hp.2.2.2.2]
   omega
section
variable {n:Net} {ss:List Signal} {ov:Int} {r:Route} {s0:Signal} {p way far:Int}
theorem Drv.next (h:Drv n ss r s0 p way far) (hs:stepP n.pieces.length ⟨p,way⟩) (h0:0≤far) {b:Int} (h1:far≤b) (h2:b≤pl n p) :
  (∀(i:Nat) (x:Part) (s:Step),(r.on n p way far b).parts[i]?=some x→(r.on n p way far b).steps[i]?=some s→(s.way=1∨s.way=-1)∧x.piece=s.piece∧0≤x.frm∧x.frm≤x.til∧x.til≤pl n x.piece∧(0 < i→i < r.steps.length∨b=pl n p→x.til - x.frm=pl n x.piece)) ∧
  (∀(x:Part) (s:Step),(r.on n p way far b).parts[0]?=some x→(r.on n p way far b).steps[0]?=some s→s.piece=s0.piece∧s.way=s0.way∧(if s.way=-1 then x.til else x.frm)=s0.at_)∧(r.on n p way far b).parts.length=(r.on n p way far b).steps.length:=by
 have hp:=partN_in (n:=n) (p:=p) (way:=way) (a:=far) (b:=b) h0 h1 h2 hs.2
 refine ⟨fun i x s hx hst=>?_,fun x s hx hst=>?_,?_⟩
 ·rcases getElem?_snoc hx with ⟨i1,hx⟩ | ⟨i1,rfl⟩
  ·rcases getElem?_snoc hst with ⟨i2,hst⟩ | ⟨i2,rfl⟩
   ·have:=h.part i x s hx hst
    exact ⟨this.1,this.2.1,this.2.2.1,this.2.2.2.1,this.2.2.2.2.1,fun hi _=>this.2.2.2.2.2 hi⟩
   ·have:=h.len
    omega
  ·rcases getElem?_snoc hst with ⟨i2,hst⟩ | ⟨i2,rfl⟩
   ·have:=h.len
    omega
   ·refine ⟨hs.2,hp.1,hp.2.1,hp.2.2.1,by rw [hp.1];exact hp.2.2.2.1,fun hi ho=>?_⟩
    rw [hp.2.2.2.2,hp.1]
    have hf:=h.far0 (fun e=>by rw [e] at i2;simp at i2;omega)
    rcases ho with ho | ho <;> omega
 ·rcases getElem?_snoc hx with ⟨i1,hx⟩ | ⟨i1,rfl⟩
  ·rcases getElem?_snoc hst with ⟨i2,hst⟩ | ⟨i2,rfl⟩
   ·exact h.first x s hx hst
   ·have:=h.len
    omega
  ·rcases getElem?_snoc hst with ⟨i2,hst⟩ | ⟨i2,rfl⟩
   ·have:=h.len
    omega
   ·obtain ⟨e1,e2,e3⟩:=h.at0 (nil_of_len i2.symm)
    refine ⟨e1,e2,?_⟩
    show (if way=-1 then (partN n p way far b).til else (partN n p way far b).frm)=s0.at_
    rw [e3]
    rcases hs.2 with hw | hw
    ·have hw:way=1:=hw
     subst hw
     rw [far_fwd,if_neg (by decide)]
     rfl
    ·have hw:way=-1:=hw
     subst hw
     rw [far_back,if_pos rfl]
     show pl n p - (pl n p - s0.at_)=s0.at_
     omega
 ·show (r.parts++[_]).length=(r.steps++[_]).length
  rw [List.length_append,List.length_append,h.len]
  rfl
theorem Drv.kid (h:Drv n ss r s0 p way far) (hs:stepP n.pieces.length ⟨p,way⟩) (h0:0≤far) (h1:far≤pl n p) {x:Joint} {j k i:Nat} {q:Route} (hq:goOn (r.on n p way far (pl n p)) x j k i=some q) (p' way':Int):Drv n ss q s0 p' way' 0∧q.frm=r.frm:=by
 obtain ⟨a1,a2,a3⟩:=h.next hs h0 h1 (Int.le_refl _)
 have key:∀q:Route,q.steps=(r.on n p way far (pl n p)).steps→q.parts=(r.on n p way far (pl n p)).parts→q.over=r.over→Drv n ss q s0 p' way' 0:=fun q e1 e2 e3 =>
  ⟨by rw [e1,e2];exact a3,fun e=>by rw [e1] at e;exact absurd e (by simp [Route.on]),fun _=>rfl,fun i x s hx hst=>by
   rw [e2] at hx
   rw [e1] at hst
   have:=a1 i x s hx hst
   exact ⟨this.1,this.2.1,this.2.2.1,this.2.2.2.1,this.2.2.2.2.1,fun hi=>this.2.2.2.2.2 hi (.inr rfl)⟩,fun x s hx hst=>by
   rw [e2] at hx
   rw [e1] at hst
   exact a2 x s hx hst,by rw [e3];exact h.over⟩
 unfold goOn at hq
 split at hq
 ·rw [Option.map_eq_some_iff] at hq
  obtain ⟨l,hl,rfl⟩:=hq
  exact ⟨key _ rfl rfl rfl,rfl⟩
 split at hq
 ·obtain rfl:=Option.some.inj hq
  exact ⟨key _ rfl rfl rfl,rfl⟩
 ·obtain rfl:=Option.some.inj hq
  exact ⟨key _ rfl rfl rfl,rfl⟩
theorem last_on {n:Net} {r:Route} {p way far b:Int} (hl:r.parts.length=r.steps.length) {x:Part} {s:Step} (hx:(r.on n p way far b).parts[(r.on n p way far b).steps.length - 1]?=some x) (hst:(r.on n p way far b).steps[(r.on n p way far b).steps.length - 1]?=some s):x=partN n p way far b∧s=⟨p,way⟩:=by
 have hn:(r.on n p way far b).steps.length - 1=r.steps.length:=by show (r.steps++[_]).length - 1=_;simp
 rw [hn] at hx hst
 constructor
 ·rcases getElem?_snoc hx with ⟨i1,hx⟩ | ⟨i1,rfl⟩
  ·omega
  ·rfl
 ·rcases getElem?_snoc hst with ⟨i1,hx⟩ | ⟨i1,rfl⟩
  ·omega
  ·rfl
theorem walkF_rt (hr:Right n ss) (hov:0≤ov):∀(m:Nat) (st:St) (r:Route) (p way far:Int),stepP n.pieces.length ⟨p,way⟩→0≤far→far < pl n p→RInv n ss r→Drv n ss r s0 p way far→(∃i:Nat,r.frm=i∧ss[i]?=some s0)→(∀q∈st.1,Rt n ss ov q)→∀q∈(walkF n ss ov m st r p way far).1,Rt n ss ov q
 | 0,st,r,p,way,far,hs,h0,h1,hi,hd,hf,hq=>hq
 | m+1,st,r,p,way,far,hs,h0,h1,hi,hd,hf,hq=>by
  by_cases hfu:full (st.1,st.2+1)
  ·rw [walkF_full hfu]
   exact hq
  cases hb:firstS n ss p way far with
  | some b =>
   rw [walkF_sig hfu hb]
   intro q hm
   rcases List.mem_append.1 hm with hm | hm
   ·exact hq q hm
   rw [List.mem_singleton.1 hm]
   obtain ⟨_,hbl,sb,hsb,e1,e2,e3⟩:=firstTo_lt (k:=ss.length) hb
   have hin:=sig_in hr hsb
   have hsf:sigFar n ss b p way=farOf n p sb.at_ way:=by unfold sigFar;rw [hsb];rfl
   have hfb:farOf n p sb.at_ way < pl n p∧0≤farOf n p sb.at_ way:=by
    rw [←e1]
    rcases hs.2 with hw | hw
    ·have hw:way=1:=hw
     rw [hw,far_fwd]
     omega
    ·have hw:way=-1:=hw
     rw [hw,far_back]
     omega
   obtain ⟨a1,a2,a3⟩:=hd.next hs h0 (b:=sigFar n ss b p way) (by omega) (by omega)
   obtain ⟨i,f1,f2⟩:=hf
   have hbo:=hi.bound
   have hsl:(r.on n p way far (sigFar n ss b p way)).steps.length=r.steps.length+1:=by show (r.steps++[_]).length=_;simp
   refine ⟨⟨i,s0,f1,f2,a2⟩,a3,by show 0 < (r.on n p way far (sigFar n ss b p way)).steps.length;omega,fun i x s hx hst=>?_,.inr ⟨b,sb,rfl,hsb,fun x s hx hst=>?_⟩,?_,?_,?_,?_,?_,hi.lies,?_,rfl⟩
   ·have:=a1 i x s hx hst
    exact ⟨this.1,this.2.1,this.2.2.1,this.2.2.2.1,this.2.2.2.2.1,fun hi hl=>this.2.2.2.2.2 hi (.inl (by have hl:i+1 < (r.on n p way far (sigFar n ss b p way)).steps.length:=hl;omega))⟩
   ·obtain ⟨rfl,rfl⟩:=last_on hd.len hx hst
    refine ⟨e1.symm,e2.symm,?_⟩
    rw [hsf]
    rcases hs.2 with hw | hw
    ·have hw:way=1:=hw
     subst hw
     rw [far_fwd]
     rfl
    ·have hw:way=-1:=hw
     subst hw
     rw [far_back]
     show pl n p - (pl n p - sb.at_)=sb.at_
     omega
   ·exact beyond_sum _ _ _ _ _ hov hs hr.g (by omega) (by omega)
   ·exact beyond_len _ _ _ _ _ hov hs hr.g (by omega) (by omega)
   ·intro s hs'
    rcases List.mem_append.1 hs' with hs' | hs'
    ·exact hi.step s hs'
    ·rw [List.mem_singleton.1 hs']
     exact hs
   ·show (r.on n p way far (sigFar n ss b p way)).steps.length≤_
    omega
   ·show r.lies.length≤(r.on n p way far (sigFar n ss b p way)).steps.length
    have:=hi.liesN
    omega
   ·show r.crosses.length≤(r.on n p way far (sigFar n ss b p way)).steps.length
    have:=hi.crosses
    omega
  | none =>
   by_cases hrn:(⟨p,way⟩:Step)∈r.steps
   ·rw [walkF_round hfu hb hrn]
    exact hq
   obtain ⟨j,k,x,hat,ha,hx,hP,hj,hk⟩:=at_get hr.g (head_ok hs)
   by_cases hk1:x.kind=1
   ·rw [walkF_end hfu hb hrn ha hx hk1]
    intro q hm
    rcases List.mem_append.1 hm with hm | hm
    ·exact hq q hm
    rw [List.mem_singleton.1 hm]
    obtain ⟨a1,a2,a3⟩:=hd.next hs h0 (b:=pl n p) (by omega) (Int.le_refl _)
    obtain ⟨i,f1,f2⟩:=hf
    have hbo:=hi.bound
    have hsl:(r.on n p way far (pl n p)).steps.length=r.steps.length+1:=by show (r.steps++[_]).length=_;simp
    have hro:r.over=[]:=hd.over
    refine ⟨⟨i,s0,f1,f2,a2⟩,a3,by show 0 < (r.on n p way far (pl n p)).steps.length;omega,fun i x s hx hst=>?_,.inl ⟨rfl,hro⟩,?_,?_,?_,?_,?_,hi.lies,?_,rfl⟩
    ·have:=a1 i x s hx hst
     exact ⟨this.1,this.2.1,this.2.2.1,this.2.2.2.1,this.2.2.2.2.1,fun hi hl=>this.2.2.2.2.2 hi (.inr rfl)⟩
    ·show (r.over.map (fun x=>x.til - x.frm)).sum≤ov
     rw [hro]
     simpa using hov
    ·show (r.over.length:Int)≤ov
     rw [hro]
     simpa using hov
    ·intro s hs'
     rcases List.mem_append.1 hs' with hs' | hs'
     ·exact hi.step s hs'
     ·rw [List.mem_singleton.1 hs']
      exact hs
    ·show (r.on n p way far (pl n p)).steps.length≤_
     omega
    ·show r.lies.length≤(r.on n p way far (pl n p)).steps.length
     have:=hi.liesN
     omega
    ·show r.crosses.length≤(r.on n p way far (pl n p)).steps.length
     have:=hi.crosses
     omega
   ·rw [walkF_on hfu hb hrn ha hx hk1]
    refine kidsTo_inv (st:=(st.1,st.2+1)) (fun s=>∀q∈s.1,Rt n ss ov q) hq (fun i e q st' he hgo hst=>?_) _
    have hil:=(List.getElem?_eq_some_iff.1 he).1
    have heP:=across_ok hP hk (mem_of_get he)
    have hpe:=pl_in hr.g heP.1.1 heP.1.2
    obtain ⟨b1,b2⟩:=hd.kid hs h0 (by omega) hgo e.piece (wayOf e)
    exact walkF_rt hr hov m st' q e.piece (wayOf e) 0 (step_of_end heP) (by omega) (by omega) (hi.kid hs hrn hx hj hP hk hil hgo).1 b1 (by rw [b2];exact hf) hst
end
theorem allF_rt {n:Net} {ss:List Signal} {ov:Int} (hr:Right n ss) (hov:0≤ov):∀k,∀q∈(allF n ss ov k).1,Rt n ss ov q
 | 0=>by simp [allF]
 | k+1=>by
  have ih:=allF_rt hr hov k
  cases h:ss[k]? with
  | none =>
   rw [allF]
   simp only [h]
   exact ih
  | some s =>
   rw [allF_succ h]
   obtain ⟨h1,h2,h3,h4⟩:=sig_in hr h
   have hfar:0≤farOf n s.piece s.at_ s.way∧farOf n s.piece s.at_ s.way < pl n s.piece:=by
    rcases h1.2 with hw | hw
    ·have hw:s.way=1:=hw
     rw [hw,far_fwd]
     omega
    ·have hw:s.way=-1:=hw
     rw [hw,far_back]
     omega
   exact walkF_rt (s0:=s) hr hov _ _ _ _ _ _ h1 hfar.1 hfar.2 (RInv.start n ss k) ⟨rfl,fun _=>⟨rfl,rfl,rfl⟩,fun e=>absurd rfl e,fun i x s hx=>by simp [startR] at hx,fun x s hx=>by simp [startR] at hx,rfl⟩ ⟨k,rfl,h⟩ ih
theorem routesF_rt {n:Net} {ss:List Signal} {ov:Int} {r:Route} (h:r∈routesF n ss ov):Right n ss∧0≤ov∧ov≤100000∧Rt n ss ov r:=by
 unfold routesF at h
 split at h
 ·cases h
 rename_i hg
 have h1:signalsOk n ss=⟨0,0⟩:=Classical.byContradiction fun e=>hg (.inl e)
 have h2:0≤ov∧ov≤100000:=Classical.byContradiction fun e=>hg (.inr e)
 split at h
 ·cases h
 exact ⟨right_of_ok h1,h2.1,h2.2,allF_rt (right_of_ok h1) h2.1 _ r h⟩
theorem routesF_len (n:Net) (ss:List Signal) (ov:Int):(routesF n ss ov).length≤300:=by
 unfold routesF
 split
 ·simp
 split
 ·simp
 ·rename_i h
  unfold full at h
  omega
theorem Rt.size {n:Net} {ss:List Signal} {ov:Int} {r:Route} (hr:Right n ss) (h:Rt n ss ov r) (ho:ov≤100000):r.steps.length≤201∧r.lies.length≤201∧r.crosses.length≤201∧r.parts.length≤201∧r.over.length≤100000∧r.flanks.length≤40200:=by
 have h1:=h.stepN
 have h2:=h.liesN
 have h3:=h.crosses
 have h4:=h.len
 have h5:=h.overN
 have h6:=hr.g.le
 have h7:=flanksTo_len (ss:=ss) hr.g h.lies r.lies.length
 rw [flanksTo_all,←h.flanks] at h7
 have h8:r.lies.length*(2*n.pieces.length)≤201*200:=Nat.mul_le_mul (by omega) (by omega)
 refine ⟨by omega,by omega,by omega,by omega,by omega,by omega⟩
end Go.Proofs.Ytjccgneimknbpaa.L
namespace Go.Proofs.Ytjccgneimknbpaa.L
open Go.RowKit
theorem int_nef {a b:Int} (h:a=b):(a != b)=false:=by simpa using h
theorem int_net {a b:Int} (h:¬a=b):(a != b)=true:=by simpa using h
set_option maxRecDepth 100000 in
set_option maxHeartbeats 8000000 in
theorem specSignal {ok ok':Nat→Prop} (n:Net) (ss:List Signal) (v1:Value) (A0 A2:Option Addr) (c0 c2 u:Nat) (way far:Int) (w:World) (h:pieceK.C w ok A0 n.pieces) (hs:signalK.C w ok' A2 ss) (hr:Hid (Right n ss)) (hu:u < n.pieces.length) (hway:way=1∨way=-1) (h0:0≤far) (h1:far≤10000000) :
  Calls Try.prog 49 #[.agg #[.slice A0 n.pieces.length c0,v1],.slice A2 ss.length c2,.int .i64 u,.int .i64 way,.int .i64 far] w (RetI (onum (firstTo n ss u way far ss.length)) w):=by
 have hm2:=hs.1
 have hm:=h.1
 have HG:Hid (Good n):=Lib.hid hr.out.g
 go_enter Try.func49,Try.ntmps49
 go_wp2
 obtain ⟨W0,hW,HB0,k0,f0,f1⟩:∃W,W=w.alloc (.cells #[.slice A0 n.pieces.length c0,v1] 26)∧Below w.heap.size w W∧w.heap.size < W.heap.size∧W.cell? ⟨w.heap.size,0,none⟩=some (.slice A0 n.pieces.length c0)∧W.cell? ⟨w.heap.size,1,none⟩=some v1:=⟨_,rfl,below_alloc _ _,by simp,by simp,by simp⟩
 rw [←hW]
 clear hW
 have j0:(0:Int)≤(u:Int):=Int.natCast_nonneg _
 have j1:(u:Int) < (n.pieces.length:Int):=by omega
 go_loopw [11,16] (fun best i wr=>∃k:Nat,k≤ss.length∧best=.int .i64 (onum (firstTo n ss u way far k))∧i=.int .i64 k∧Below W0.heap.size W0 wr) (fun _ i _=>ss.length - (intOf i).toNat)
 case atStart=>exact ⟨0,Nat.zero_le _,rfl,rfl,Below.refl _ _⟩
 case round =>
  obtain ⟨k,hk,rfl,rfl,hb⟩:=hrel
  obtain ⟨wo,rfl⟩:∃wo:World,wo=wr:=⟨_,rfl⟩
  have hbw:=HB0.trans (hb.mono HB0.size)
  by_cases hlt:k < ss.length
  rotate_left
  ·obtain rfl:k=ss.length:=by omega
   go_wp2
   go_ret
   exact ⟨rfl,hbw⟩
  obtain ⟨ad,rfl,y0,y1,y2,y3,E,g0,g1,g2,g3⟩:=signalK_at (Kn.C_below hbw hs) k hlt
  have i0:(0:Int)≤(k:Int):=Int.natCast_nonneg _
  have i1:(k:Int) < (ss.length:Int):=by omega
  have HI:=Lib.hid (sig_in hr.out E.out)
  have z0:=cell_below hb f0
  have z1:=cell_below hb f1
  have z2:w.heap.size < wo.heap.size:=by have:=hb.size;omega
  have hb1:=hb.alloc hb.size (Obj.cells #[.string y0,.int .i64 y1,.int .i64 y2,.int .i64 y3] 62)
  by_cases q1:y1=u
  rotate_left
  ·have d0:(y1 != (u:Int))=true:=int_net q1
   have HF:Hid (firstTo n ss u way far (k+1)=firstTo n ss u way far k):=Lib.hid (firstTo_not E.out (fun e=>q1 e.1))
   clear q1
   go_wp2
   go_roundw
   case rel=>exact ⟨k+1,by omega,by rw [HF.out],by go_num,hb1⟩
   case measure=>simp [intOf];omega
  have d0:(y1 != (u:Int))=false:=int_nef q1
  by_cases q3:y3=way
  rotate_left
  ·have d1:(y3 != way)=true:=int_net q3
   have HF:Hid (firstTo n ss u way far (k+1)=firstTo n ss u way far k):=Lib.hid (firstTo_not E.out (fun e=>q3 e.2.1))
   clear q1 q3
   go_wp2
   go_roundw
   case rel=>exact ⟨k+1,by omega,by rw [HF.out],by go_num,hb1⟩
   case measure=>simp [intOf];omega
  have d1:(y3 != way)=false:=int_nef q3
  obtain ⟨a1,a2⟩:0≤y2∧y2≤10000000:=by have:=HI.out;simp only at this;omega
  have ha:0≤y2∧y2≤10000000:=⟨a1,a2⟩
  obtain ⟨fa,hfa⟩:∃fa,Hid (farOf n u y2 way=fa):=⟨_,Lib.hid rfl⟩
  obtain ⟨W1,hW1,HB1,k1,k2,p0,p1,p2⟩:∃W,W=wo.alloc (.cells #[.string y0,.int .i64 y1,.int .i64 y2,.int .i64 y3] 62)∧Below wo.heap.size wo W∧wo.heap.size < W.heap.size∧w.heap.size < W.heap.size∧W.cell? ⟨w.heap.size,0,none⟩=some (.slice A0 n.pieces.length c0)∧W.cell? ⟨w.heap.size,1,none⟩=some v1∧W.cell? ⟨wo.heap.size,2,none⟩=some (.int .i64 y2) :=
   ⟨_,rfl,below_alloc _ _,by simp,by have:=hb.size;simp;omega,cell_below (below_alloc _ _) (cell_below hb f0),cell_below (below_alloc _ _) (cell_below hb f1),by simp⟩
  have hbw1:=hbw.trans (HB1.mono hbw.size)
  by_cases q4:fa≤far
  ·have d2:decide (fa≤far)=true:=decide_eq_true q4
   have HF:Hid (firstTo n ss u way far (k+1)=firstTo n ss u way far k):=Lib.hid (firstTo_not E.out (fun e=>by have:=e.2.2;simp only at this;rw [hfa.out] at this;omega))
   clear q1 q3 q4
   go_wp2_with fail
   rw [←hW1]
   clear hW1
   refine (specFar n v1 A0 c0 u y2 way _ (Kn.C_below hbw1 h) HG hu ha).mono ?_
   rintro e w2 ⟨rfl,hb2⟩
   rw [hfa.out]
   go_wp2
   go_roundw
   case rel=>exact ⟨k+1,by omega,by rw [HF.out],by go_num,hb.trans ((HB1.trans (hb2.mono HB1.size)).mono hb.size)⟩
   case measure=>simp [intOf];omega
  have d2:decide (fa≤far)=false:=decide_eq_false q4
  have HT:Hid (y1=u∧y3=way∧far < farOf n u y2 way):=Lib.hid ⟨q1,q3,by rw [hfa.out];omega⟩
  clear q1 q3 q4
  cases hp:firstTo n ss u way far k with
  | none =>
   have HF:Hid (firstTo n ss u way far (k+1)=some k):=Lib.hid (firstTo_one E.out HT.out hp)
   have HO:Hid (onum (firstTo n ss u way far k)=-1):=Lib.hid (by rw [hp];rfl)
   clear hp
   rw [onum_none]
   go_wp2_with fail
   rw [←hW1]
   clear hW1
   refine (specFar n v1 A0 c0 u y2 way _ (Kn.C_below hbw1 h) HG hu ha).mono ?_
   rintro e w2 ⟨rfl,hb2⟩
   rw [hfa.out]
   go_wp2
   go_quiet (fail)
   go_wp2
   go_roundw
   case rel=>exact ⟨k+1,by omega,by rw [HF.out];rfl,by go_num,by repeat' first | exact hb.trans ((HB1.trans (hb2.mono HB1.size)).mono hb.size) | (refine below_drewN ?_ _)⟩
   case measure=>simp [intOf];omega
  | some b =>
   obtain ⟨l1,l2,t,e1,e2,e3,e4⟩:=firstTo_lt hp
   obtain ⟨ad',he',t0,t1,t2,t3,ET,r0,r1,r2,r3⟩:=signalK_at (Kn.C_below hbw1 hs) b l2
   obtain rfl:=Option.some.inj he'
   have HJ:=Lib.hid (sig_in hr.out ET.out)
   have b0:(0:Int)≤(b:Int):=Int.natCast_nonneg _
   have b1:(b:Int) < (ss.length:Int):=by omega
   have d5:decide ((b:Int) < 0)=false:=decide_eq_false (by omega)
   have htp:t1=u:=by have:=e1.symm.trans ET.out;injection this with this;rw [this] at e2;exact e2
   have hta:0≤t2∧t2≤10000000:=by have:=HJ.out;simp only at this;omega
   obtain ⟨fb,hfb⟩:∃fb,Hid (farOf n u t2 way=fb):=⟨_,Lib.hid rfl⟩
   have HP:=Lib.hid hp
   clear hp he' htp e1 e2 e3 e4 r0 r1 r3
   rw [onum_some]
   go_wp2_with fail
   rw [←hW1]
   clear hW1
   refine (specFar n v1 A0 c0 u y2 way _ (Kn.C_below hbw1 h) HG hu ha).mono ?_
   rintro e w2 ⟨rfl,hb2⟩
   rw [hfa.out]
   have s0:=cell_below hb2 p0
   have s1:=cell_below hb2 p1
   have s2:=cell_below hb2 p2
   have s3:=cell_below hb2 r2
   have HC2:=Lib.hid (Kn.C_below (hbw1.trans (hb2.mono hbw1.size)) h)
   have hbz:=hb.trans ((HB1.trans (hb2.mono HB1.size)).mono hb.size)
   have hz:wo.heap.size < w2.heap.size:=by have:=hb2.size;omega
   have hz2:w.heap.size < w2.heap.size:=by have:=hb2.size;omega
   clear p0 p1 p2 r2 hb2 HB1 hbw1 hb1
   by_cases q5:fa < fb
   ·have d6:decide (fa < fb)=true:=decide_eq_true q5
    have HF:Hid (firstTo n ss u way far (k+1)=some k):=Lib.hid (firstTo_new E.out HT.out HP.out ET.out (by rw [hfa.out,hfb.out];exact q5))
    clear q5
    go_wp2
    go_region_held3 (fun w'=>Below w2.heap.size w2 w'∧w'.cell? ⟨w.heap.size,0,none⟩=some (.slice A0 n.pieces.length c0)∧w'.cell? ⟨w.heap.size,1,none⟩=some v1∧w'.cell? ⟨wo.heap.size,2,none⟩=some (.int .i64 y2)∧w'.cell? ⟨(ad.add (b*4)).block,(ad.add (b*4)).off+2,none⟩=some (.int .i64 t2))
     (first | exact ⟨(Below.refl _ _).drew,s0,s1,s2,s3⟩ | exact ⟨hbS.trans (hbc.mono hbS.size),cell_below (hbS.trans (hbc.mono hbS.size)) s0,cell_below (hbS.trans (hbc.mono hbS.size)) s1,cell_below (hbS.trans (hbc.mono hbS.size)) s2,cell_below (hbS.trans (hbc.mono hbS.size)) s3⟩)
     (first | (go_at_call 37;obtain ⟨hbS,_⟩:=‹Below w2.heap.size w2 _∧_›;(with_reducible refine (specFar n v1 A0 c0 u _ way _ (Kn.C_below hbS HC2.out) HG hu (by assumption)).mono ?_);rintro e w1 ⟨rfl,hbc⟩;first | rw [hfa.out] | rw [hfb.out]))
    all_goals obtain ⟨hbF,_⟩:=‹Below w2.heap.size w2 _∧_›
    all_goals go_wp2
    all_goals go_roundw
    all_goals first | exact ⟨k+1,by omega,by rw [HF.out];rfl,by go_num,hbz.trans (hbF.mono hbz.size)⟩ | (simp [intOf];omega)
   ·have d6:decide (fa < fb)=false:=decide_eq_false q5
    have HF:Hid (firstTo n ss u way far (k+1)=some b):=Lib.hid (firstTo_old E.out HP.out ET.out (by rw [hfa.out,hfb.out];exact q5))
    clear q5
    go_wp2
    go_region_held3 (fun w'=>Below w2.heap.size w2 w'∧w'.cell? ⟨w.heap.size,0,none⟩=some (.slice A0 n.pieces.length c0)∧w'.cell? ⟨w.heap.size,1,none⟩=some v1∧w'.cell? ⟨wo.heap.size,2,none⟩=some (.int .i64 y2)∧w'.cell? ⟨(ad.add (b*4)).block,(ad.add (b*4)).off+2,none⟩=some (.int .i64 t2))
     (first | exact ⟨(Below.refl _ _).drew,s0,s1,s2,s3⟩ | exact ⟨hbS.trans (hbc.mono hbS.size),cell_below (hbS.trans (hbc.mono hbS.size)) s0,cell_below (hbS.trans (hbc.mono hbS.size)) s1,cell_below (hbS.trans (hbc.mono hbS.size)) s2,cell_below (hbS.trans (hbc.mono hbS.size)) s3⟩)
     (first | (go_at_call 37;obtain ⟨hbS,_⟩:=‹Below w2.heap.size w2 _∧_›;(with_reducible refine (specFar n v1 A0 c0 u _ way _ (Kn.C_below hbS HC2.out) HG hu (by assumption)).mono ?_);rintro e w1 ⟨rfl,hbc⟩;first | rw [hfa.out] | rw [hfb.out]))
    all_goals obtain ⟨hbF,_⟩:=‹Below w2.heap.size w2 _∧_›
    all_goals go_wp2
    all_goals go_roundw
    all_goals first | exact ⟨k+1,by omega,by rw [HF.out];rfl,by go_num,hbz.trans (hbF.mono hbz.size)⟩ | (simp [intOf];omega)
theorem wrap_small {a:Int} (h0:-9223372036854775808≤a) (h1:a≤9223372036854775807):IntKind.i64.wrap a=a:=IntWalk.i64_in _ (by omega)
set_option maxRecDepth 100000 in
set_option maxHeartbeats 8000000 in
theorem implNearest {ok:Nat→Prop} (n:Net) (ss:List Signal) (A2:Option Addr) (c2:Nat) (p way far a:Int) (w:World) (hs:signalK.C w ok A2 ss) (hr:Hid (Right n ss)) (hst:Hid (stepP n.pieces.length ⟨p,way⟩)) (h0:Hid (0≤far∧far≤pl n p)) (ha:Hid (a=atOf n p way far)) :
  Calls Try.prog 96 #[.slice A2 ss.length c2,.agg #[.int .i64 p,.int .i64 a,.int .i64 way]] w (RetI (onum (firstTo n ss p way far ss.length)) w):=by
 have hm2:=hs.1
 have HP:=Lib.hid (pl_in hr.out.g hst.out.1.1 hst.out.1.2)
 go_enter Try.func96,Try.ntmps96
 go_wp2
 obtain ⟨W0,hW,HB0,k0,f0,f1,f2⟩:∃W,W=w.alloc (.cells #[.int .i64 p,.int .i64 a,.int .i64 way] 124)∧Below w.heap.size w W∧w.heap.size < W.heap.size∧W.cell? ⟨w.heap.size,0,none⟩=some (.int .i64 p)∧W.cell? ⟨w.heap.size,1,none⟩=some (.int .i64 a)∧W.cell? ⟨w.heap.size,2,none⟩=some (.int .i64 way):=⟨_,rfl,below_alloc _ _,by simp,by simp,by simp,by simp⟩
 rw [←hW]
 clear hW
 go_loopw [5,10] (fun best i wr=>∃k:Nat,k≤ss.length∧best=.int .i64 (onum (firstTo n ss p way far k))∧i=.int .i64 k∧Below W0.heap.size W0 wr) (fun _ i _=>ss.length - (intOf i).toNat)
 case atStart=>exact ⟨0,Nat.zero_le _,rfl,rfl,Below.refl _ _⟩
 case round =>
  obtain ⟨k,hk,rfl,rfl,hb⟩:=hrel
  obtain ⟨wo,rfl⟩:∃wo:World,wo=wr:=⟨_,rfl⟩
  have hbw:=HB0.trans (hb.mono HB0.size)
  by_cases hlt:k < ss.length
  rotate_left
  ·obtain rfl:k=ss.length:=by omega
   go_wp2
   go_ret
   exact ⟨rfl,hbw⟩
  obtain ⟨ad,rfl,y0,y1,y2,y3,E,g0,g1,g2,g3⟩:=signalK_at (Kn.C_below hbw hs) k hlt
  have i0:(0:Int)≤(k:Int):=Int.natCast_nonneg _
  have i1:(k:Int) < (ss.length:Int):=by omega
  have HI:=Lib.hid (sig_in hr.out E.out)
  have z0:=cell_below hb f0
  have z1:=cell_below hb f1
  have z3:=cell_below hb f2
  have z2:w.heap.size < wo.heap.size:=by have:=hb.size;omega
  have hb1:=hb.alloc hb.size (Obj.cells #[.string y0,.int .i64 y1,.int .i64 y2,.int .i64 y3] 62)
  by_cases q1:y1=p
  rotate_left
  ·have d0:(y1 == p)=false:=int_eqf q1
   have HF:Hid (firstTo n ss p way far (k+1)=firstTo n ss p way far k):=Lib.hid (firstTo_not E.out (fun e=>q1 e.1))
   clear q1
   go_wp2
   go_quiet (fail)
   go_wp2
   go_roundw
   case rel=>exact ⟨k+1,by omega,by rw [HF.out],by go_num,below_drewN hb1 _⟩
   case measure=>simp [intOf];omega
  have d0:(y1 == p)=true:=int_eqt q1
  by_cases q3:y3=way
  rotate_left
  ·have d1:(y3 == way)=false:=int_eqf q3
   have HF:Hid (firstTo n ss p way far (k+1)=firstTo n ss p way far k):=Lib.hid (firstTo_not E.out (fun e=>q3 e.2.1))
   clear q1 q3
   go_wp2
   go_quiet (fail)
   go_wp2
   go_roundw
   case rel=>exact ⟨k+1,by omega,by rw [HF.out],by go_num,below_drewN hb1 _⟩
   case measure=>simp [intOf];omega
  have d1:(y3 == way)=true:=int_eqt q3
  obtain ⟨df,s1,ds,s2,HFar⟩:∃d:Int,IntKind.i64.wrap (y2 - a)=d∧∃e:Int,IntKind.i64.wrap (d*way)=e∧Hid (0 < e↔far < farOf n p y2 way):=by
   have h1:=HI.out
   have h2:=HP.out
   have h3:=h0.out
   have h4:=ha.out
   simp only at h1
   rw [q1] at h1
   refine ⟨y2 - a,wrap_small ?_ ?_,(y2 - a)*way,wrap_small ?_ ?_,Lib.hid ?_⟩
   all_goals (rcases hst.out.2 with hw | hw <;> (have hw:way=_:=hw;subst hw;unfold atOf at h4;simp at h4;first | omega | (rw [far_fwd];omega) | (rw [far_back];omega)))
  by_cases q4:0 < ds
  rotate_left
  ·have d2:decide (0 < ds)=false:=decide_eq_false q4
   have HF:Hid (firstTo n ss p way far (k+1)=firstTo n ss p way far k):=Lib.hid (firstTo_not E.out (fun e=>q4 (HFar.out.2 e.2.2)))
   clear q1 q3 q4
   go_wp2
   go_quiet (fail)
   go_wp2
   go_roundw
   case rel=>exact ⟨k+1,by omega,by rw [HF.out],by go_num,below_drewN hb1 _⟩
   case measure=>simp [intOf];omega
  have d2:decide (0 < ds)=true:=decide_eq_true q4
  have HT:Hid (y1=p∧y3=way∧far < farOf n p y2 way):=Lib.hid ⟨q1,q3,HFar.out.1 q4⟩
  clear q3 q4
  cases hp:firstTo n ss p way far k with
  | none =>
   have HF:Hid (firstTo n ss p way far (k+1)=some k):=Lib.hid (firstTo_one E.out HT.out hp)
   clear hp q1
   rw [onum_none]
   go_wp2
   go_quiet (fail)
   go_wp2
   go_roundw
   case rel=>exact ⟨k+1,by omega,by rw [HF.out];rfl,by go_num,below_drewN hb1 _⟩
   case measure=>simp [intOf];omega
  | some b =>
   obtain ⟨l1,l2,t,e1,e2,e3,e4⟩:=firstTo_lt hp
   obtain ⟨ad',he',t0,t1,t2,t3,ET,r0,r1,r2,r3⟩:=signalK_at (Kn.C_below hbw hs) b l2
   obtain rfl:=Option.some.inj he'
   have HJ:=Lib.hid (sig_in hr.out ET.out)
   have b0:(0:Int)≤(b:Int):=Int.natCast_nonneg _
   have b1:(b:Int) < (ss.length:Int):=by omega
   have d5:decide ((b:Int) < 0)=false:=decide_eq_false (by omega)
   have htp:t1=p:=by have:=e1.symm.trans ET.out;injection this with this;rw [this] at e2;exact e2
   obtain ⟨dg,s3,dt,s4,HNew⟩:∃d:Int,IntKind.i64.wrap (y2 - t2)=d∧∃e:Int,IntKind.i64.wrap (d*way)=e∧Hid (e < 0↔farOf n p y2 way < farOf n p t2 way):=by
    have h1:=HI.out
    have h2:=HP.out
    have h3:=HJ.out
    simp only at h1 h3
    rw [q1] at h1
    rw [htp] at h3
    refine ⟨y2 - t2,wrap_small ?_ ?_,(y2 - t2)*way,wrap_small ?_ ?_,Lib.hid ?_⟩
    all_goals (rcases hst.out.2 with hw | hw <;> (have hw:way=_:=hw;subst hw;first | omega | (rw [far_fwd,far_fwd];omega) | (rw [far_back,far_back];omega)))
   have HPK:=Lib.hid hp
   have r4:(ad.add (b*4)).block < wo.heap.size:=World.block_lt_of_cell? wo ⟨(ad.add (b*4)).block,(ad.add (b*4)).off+2,none⟩ r2
   clear hp he' htp e1 e2 e3 e4 r0 r1 r3 q1
   rw [onum_some]
   by_cases q5:dt < 0
   ·have d6:decide (dt < 0)=true:=decide_eq_true q5
    have HF:Hid (firstTo n ss p way far (k+1)=some k):=Lib.hid (firstTo_new E.out HT.out HPK.out ET.out (HNew.out.1 q5))
    clear q5
    go_wp2
    go_quiet (fail)
    go_wp2
    go_roundw
    case rel=>exact ⟨k+1,by omega,by rw [HF.out];rfl,by go_num,below_drewN hb1 _⟩
    case measure=>simp [intOf];omega
   ·have d6:decide (dt < 0)=false:=decide_eq_false q5
    have HF:Hid (firstTo n ss p way far (k+1)=some b):=Lib.hid (firstTo_old E.out HPK.out ET.out (fun e=>q5 (HNew.out.2 e)))
    clear q5
    go_wp2
    go_quiet (fail)
    go_wp2
    go_roundw
    case rel=>exact ⟨k+1,by omega,by rw [HF.out];rfl,by go_num,below_drewN hb1 _⟩
    case measure=>simp [intOf];omega
end Go.Proofs.Ytjccgneimknbpaa.L
namespace Go.Proofs.Ytjccgneimknbpaa.L
open Go.RowKit
open Classical
noncomputable def needsTo (ls:List Lie) (fs:List Flank):Nat→List Lie
 | 0=>ls
 | k+1=>match fs[k]? with
  | none=>needsTo ls fs k
  | some f=>if f.kind=3∧¬(⟨f.of_,f.lie⟩:Lie)∈needsTo ls fs k then needsTo ls fs k++[⟨f.of_,f.lie⟩] else needsTo ls fs k
noncomputable def needs (r:Route):List Lie:=needsTo r.lies r.flanks r.flanks.length
section
variable {ls:List Lie} {fs:List Flank} {k:Nat} {f:Flank}
theorem needsTo_len (ls:List Lie) (fs:List Flank):∀k,(needsTo ls fs k).length≤ls.length+k
 | 0=>Nat.le_refl _
 | k+1=>by
  have:=needsTo_len ls fs k
  unfold needsTo
  split
  ·omega
  split
  ·rw [List.length_append,List.length_singleton]
   omega
  ·omega
theorem needsTo_skip (h:fs[k]?=some f) (hk:¬f.kind=3):needsTo ls fs (k+1)=needsTo ls fs k:=by
 rw [needsTo]
 simp only [h]
 rw [if_neg (fun e=>hk e.1)]
theorem needsTo_had (h:fs[k]?=some f) (hm:(⟨f.of_,f.lie⟩:Lie)∈needsTo ls fs k):needsTo ls fs (k+1)=needsTo ls fs k:=by
 rw [needsTo]
 simp only [h]
 rw [if_neg (fun e=>e.2 hm)]
theorem needsTo_new (h:fs[k]?=some f) (hk:f.kind=3) (hm:¬(⟨f.of_,f.lie⟩:Lie)∈needsTo ls fs k):needsTo ls fs (k+1)=needsTo ls fs k++[⟨f.of_,f.lie⟩]:=by
 rw [needsTo]
 simp only [h]
 rw [if_pos ⟨hk,hm⟩]
end
section
variable {ls:List Lie} {fs:List Flank} {k:Nat} {f:Flank}
theorem needsTo_put (h:fs[k]?=some f) (hk:f.kind=3):needsTo ls fs (k+1)=if pv ((⟨f.of_,f.lie⟩:Lie)∈needsTo ls fs k)=true then needsTo ls fs k else needsTo ls fs k++[⟨f.of_,f.lie⟩]:=by
 by_cases hm:(⟨f.of_,f.lie⟩:Lie)∈needsTo ls fs k
 ·rw [needsTo_had h hm,if_pos (pv_true hm)]
 ·rw [needsTo_new h hk hm,if_neg (by rw [pv_false hm];simp)]
end
def inTo {α:Type} (xs:List α) (k:Nat) (x:α):Prop:=∃j,j < k∧xs[j]?=some x
theorem inTo_zero {α:Type} {xs:List α} {x:α}:¬inTo xs 0 x:=fun ⟨j,h,_⟩=>by omega
theorem inTo_snoc {α:Type} {xs:List α} {k:Nat} {x y:α} (h:¬inTo xs k x) (hy:xs[k]?=some y) (hne:¬y=x):¬inTo xs (k+1) x:=by
 rintro ⟨j,hj,hx⟩
 by_cases e:j=k
 ·subst e
  rw [hy] at hx
  exact hne (Option.some.inj hx)
 ·exact h ⟨j,by omega,hx⟩
theorem inTo_all {α:Type} {xs:List α} {x:α} (h:¬inTo xs xs.length x):¬x∈xs:=fun hm=>by
 obtain ⟨j,hj⟩:=List.mem_iff_getElem?.1 hm
 exact h ⟨j,(List.getElem?_eq_some_iff.1 hj).1,hj⟩
def meets (x y:Part):Prop:=x.piece=y.piece∧x.frm≤y.til∧y.frm≤x.til
def touch (a b:List Part):Prop:=∃x,x∈a∧∃y,y∈b∧meets x y
def crossP (a b:List Int):Prop:=∃x,x∈a∧x∈b
def against (x y:Lie):Prop:=x.joint=y.joint∧¬x.lie=y.lie
def needP (a b:Route):Prop:=∃x,x∈needs a∧∃y,y∈needs b∧against x y
noncomputable def excl (a b:Route):Int :=
 if touch a.parts b.parts then 1 else if crossP a.crosses b.crosses then 2 else if needP a b then 3 else if touch a.over b.parts∨touch a.parts b.over then 4 else 0
end Go.Proofs.Ytjccgneimknbpaa.L
