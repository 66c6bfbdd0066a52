/- The program's NetOk answers the first fault of a net, as the reference's. -/
import Derived.Test.YtjccgneimknbpaaXa
import Derived.RegionTactic
import Derived.BigRegion
import Derived.WideKeyEntry
import Derived.Maps.Own
import Derived.DeepKeys4
set_option linter.unusedVariables false
set_option linter.unusedSimpArgs false
namespace Go.Proofs.Ytjccgneimknbpaa.L
open Go.RowKit
set_option maxRecDepth 100000 in
set_option maxHeartbeats 8000000 in
theorem specSignalsOk {ok ok':Nat→Prop} (n:Net) (ss:List Signal) (A0 A1 A2:Option Addr) (c0 c1 c2:Nat) (w:World) (hp:pieceK.C w ok A0 n.pieces) (hj:(jointK 102).C w ok A1 n.joints) (hs:signalK.C w ok' A2 ss) (hfit:Hid n.fit) (hu:Hid (∀e,uses n.joints e≤1048576)) (hsf:Hid (∀s∈ss,s.fit)) :
  Calls Try.prog 62 #[.agg #[.slice A0 n.pieces.length c0,.slice A1 n.joints.length c1],.slice A2 ss.length c2] w (RetV (signalsOk n ss).v w):=by
 have hm2:=hs.1
 obtain ⟨W0,hW0,hB0,f0,f1,f2,f3,f4,f5,hs0,hs1⟩:∃W0,W0=(w.alloc (.cells #[.slice A0 n.pieces.length c0,.slice A1 n.joints.length c1] 26)).alloc (.cells #[.int .i64 0,.int .i64 0] 112)∧Below w.heap.size w W0 ∧
   W0.cell? ⟨w.heap.size,0,none⟩=some (.slice A0 n.pieces.length c0)∧W0.cell? ⟨w.heap.size,1,none⟩=some (.slice A1 n.joints.length c1)∧W0.cell? ⟨w.heap.size+1,0,none⟩=some (.int .i64 0)∧W0.cell? ⟨w.heap.size+1,1,none⟩=some (.int .i64 0) ∧
   W0.frozen? ⟨w.heap.size+1,0,none⟩=false∧W0.frozen? ⟨w.heap.size+1,1,none⟩=false∧w.heap.size < W0.heap.size∧w.heap.size+1 < W0.heap.size:=⟨_,rfl,(below_alloc _ _).alloc (by simp) _,by simp,by simp,by simp,by simp,by simp,by simp,by simp;omega,by simp⟩
 have hp0:=Kn.C_below hB0 hp
 have hj0:=Kn.C_below hB0 hj
 by_cases g:netOk n=⟨0,0⟩
 rotate_left
 ·have HE:Hid (eqv (netOk n) ⟨0,0⟩=false):=Lib.hid (eqv_false g)
  have HN:Hid (signalsOk n ss=⟨1,0⟩):=Lib.hid (signalsOk_1 g)
  clear g
  go_enter Try.func62,Try.ntmps62
  go_wp2_with fail
  rw [←hW0]
  clear hW0
  refine (l1ok n A0 A1 c0 c1 _ hp0 hj0 hfit hu).mono ?_
  rintro e w1 ⟨rfl,hb⟩
  rw [HE.out]
  obtain ⟨hc,hf⟩:=bcell hb
  have hs2:w.heap.size < w1.heap.size:=by have:=hb.size;omega
  have hs3:w.heap.size+1 < w1.heap.size:=by have:=hb.size;omega
  have hbw:=hB0.trans (hb.mono hB0.size)
  go_wp2
  exact bodyPost_ret (v:=.agg #[.int .i64 1,.int .i64 0]) (by simp [results,Try.results62,go_sem,hc,hs0,hs1,hs2,hs3,f2,f3]) rfl ⟨by rw [HN.out],by repeat' first | exact hbw | (refine below_drewN ?_ _) | (refine Below.alloc ?_ ?_ _) | (refine Below.setCell ?_ ?_ _) | omega | (simp;done) | (simp;omega)⟩
 have HE:Hid (eqv (netOk n) ⟨0,0⟩=true):=Lib.hid (eqv_true g)
 have G:=Lib.hid g
 obtain ⟨n0,n1,n2,n3⟩:=pieces_of_ok g
 have HP:=Lib.hid n3
 clear g n3
 by_cases b2:60 < ss.length
 ·have HN:Hid (signalsOk n ss=⟨2,0⟩):=Lib.hid (signalsOk_2 G.out b2)
  go_enter Try.func62,Try.ntmps62
  go_wp2_with fail
  rw [←hW0]
  clear hW0
  refine (l1ok n A0 A1 c0 c1 _ hp0 hj0 hfit hu).mono ?_
  rintro e w1 ⟨rfl,hb⟩
  rw [HE.out]
  obtain ⟨hc,hf⟩:=bcell hb
  have hs2:w.heap.size < w1.heap.size:=by have:=hb.size;omega
  have hs3:w.heap.size+1 < w1.heap.size:=by have:=hb.size;omega
  have hbw:=hB0.trans (hb.mono hB0.size)
  go_wp2
  exact bodyPost_ret (v:=.agg #[.int .i64 2,.int .i64 0]) (by simp [results,Try.results62,go_sem,hc,hs0,hs1,hs2,hs3,f2,f3]) rfl ⟨by rw [HN.out],by repeat' first | exact hbw | (refine below_drewN ?_ _) | (refine Below.alloc ?_ ?_ _) | (refine Below.setCell ?_ ?_ _) | omega | (simp;done) | (simp;omega)⟩
 have B2:=Lib.hid b2
 go_enter Try.func62,Try.ntmps62
 go_wp2_with fail
 rw [←hW0]
 clear hW0
 refine (l1ok n A0 A1 c0 c1 _ hp0 hj0 hfit hu).mono ?_
 rintro e wq ⟨rfl,hbq⟩
 rw [HE.out]
 clear hj0
 go_upto_region 5 with (fail)
 go_wp2
 go_loopw [18] (fun i wr=>∃k:Nat,k≤ss.length∧i=.int .i64 k∧Hid (∀j,j < k→¬sbad3 n ss j)∧Below W0.heap.size W0 wr) (fun i _=>ss.length - (intOf i).toNat)
 case atStart=>exact ⟨0,Nat.zero_le _,rfl,Lib.hid (fun j h=>absurd h (by omega)),hbq⟩
 case round =>
  clear hbq
  obtain ⟨k,hk,rfl,HB3,hb⟩:=hrel
  obtain ⟨hc,hf⟩:=bcell hb
  have hs2:w.heap.size < wr.heap.size:=by have:=hb.size;omega
  have hs3:w.heap.size+1 < wr.heap.size:=by have:=hb.size;omega
  have hbw:=hB0.trans (hb.mono hB0.size)
  obtain ⟨wo,rfl⟩:∃wo:World,wo=wr:=⟨_,rfl⟩
  by_cases hlt:k < ss.length
  ·obtain ⟨a0,rfl,y0,y1,y2,y3,E,g0,g1,g2,g3⟩:=signalK_at (Kn.C_below hbw hs) k hlt
   have i0:(0:Int)≤(k:Int):=Int.natCast_nonneg _
   have i1:(k:Int) < (ss.length:Int):=by omega
   have hys:y0.size≤9223372036854775807:=hsf.out _ (mem_of_get E.out)
   have hbx:=hbw.alloc hbw.size (Obj.cells #[.string y0,.int .i64 y1,.int .i64 y2,.int .i64 y3] 62)
   by_cases q0:nameP y0
   rotate_left
   ·have D0:Hid (pv (nameP y0)=false):=Lib.hid (pv_false q0)
    have HN:Hid (signalsOk n ss=⟨3,k⟩):=Lib.hid (signalsOk_3 G.out B2.out hlt ⟨_,E.out,fun (h:signalP n ⟨y0,y1,y2,y3⟩)=>q0 h.1⟩ HB3.out)
    clear q0
    go_wp2_with fail
    refine (l1name _ _ hys).mono ?_
    rintro e w1 ⟨rfl,rfl⟩
    rw [D0.out]
    go_wp2
    exact bodyPost_ret (v:=.agg #[.int .i64 3,.int .i64 k]) (by simp [results,Try.results62,go_sem,hc,hs0,hs1,hs2,hs3,f2,f3]) rfl ⟨by rw [HN.out],by repeat' first | exact hbw | (refine below_drewN ?_ _) | (refine Below.alloc ?_ ?_ _) | (refine Below.setCell ?_ ?_ _) | omega | (simp;done) | (simp;omega)⟩
   have D0:Hid (pv (nameP y0)=true):=Lib.hid (pv_true q0)
   by_cases q1:0≤y1∧y1≤(n.pieces.length:Int) - 1
   rotate_left
   ·have D1:Hid (decide (0≤y1∧y1≤(n.pieces.length:Int) - 1)=false):=Lib.hid (decide_eq_false q1)
    have HN:Hid (signalsOk n ss=⟨3,k⟩):=Lib.hid (signalsOk_3 G.out B2.out hlt ⟨_,E.out,fun (h:signalP n ⟨y0,y1,y2,y3⟩)=>q1 h.2.1⟩ HB3.out)
    clear q0 q1
    go_wp2_with fail
    refine (l1name _ _ hys).mono ?_
    rintro e w1 ⟨rfl,rfl⟩
    rw [D0.out]
    go_wp2_with fail
    refine (l1in _ _ _ _).mono ?_
    rintro e w1 ⟨rfl,rfl⟩
    rw [D1.out]
    go_wp2
    exact bodyPost_ret (v:=.agg #[.int .i64 3,.int .i64 k]) (by simp [results,Try.results62,go_sem,hc,hs0,hs1,hs2,hs3,f2,f3]) rfl ⟨by rw [HN.out],by repeat' first | exact hbw | (refine below_drewN ?_ _) | (refine Below.alloc ?_ ?_ _) | (refine Below.setCell ?_ ?_ _) | omega | (simp;done) | (simp;omega)⟩
   have D1:Hid (decide (0≤y1∧y1≤(n.pieces.length:Int) - 1)=true):=Lib.hid (decide_eq_true q1)
   by_cases q2:y3=1∨y3=-1
   rotate_left
   ·have d2:(y3 != 1)=true:=int_ne (fun h=>q2 (.inl h))
    have d3:(y3 != -1)=true:=int_ne (fun h=>q2 (.inr h))
    have HN:Hid (signalsOk n ss=⟨3,k⟩):=Lib.hid (signalsOk_3 G.out B2.out hlt ⟨_,E.out,fun (h:signalP n ⟨y0,y1,y2,y3⟩)=>q2 h.2.2.1⟩ HB3.out)
    clear q0 q1 q2
    go_wp2_with fail
    refine (l1name _ _ hys).mono ?_
    rintro e w1 ⟨rfl,rfl⟩
    rw [D0.out]
    go_wp2_with fail
    refine (l1in _ _ _ _).mono ?_
    rintro e w1 ⟨rfl,rfl⟩
    rw [D1.out]
    go_wp2
    exact bodyPost_ret (v:=.agg #[.int .i64 3,.int .i64 k]) (by simp [results,Try.results62,go_sem,hc,hs0,hs1,hs2,hs3,f2,f3]) rfl ⟨by rw [HN.out],by repeat' first | exact hbw | (refine below_drewN ?_ _) | (refine Below.alloc ?_ ?_ _) | (refine Below.setCell ?_ ?_ _) | omega | (simp;done) | (simp;omega)⟩
   obtain ⟨u,hu1,hu2⟩:∃u:Nat,y1=(u:Int)∧u < n.pieces.length:=⟨y1.toNat,by omega,by omega⟩
   obtain ⟨ap,rfl,z0,z1,z2,z3,EZ,p0,p1,p2,p3⟩:=pieceK_at (Kn.C_below hbx hp) u hu2
   obtain ⟨_,z1a,z1b,_⟩:=HP.out _ (mem_of_get EZ.out)
   simp only at z1a z1b
   have j0:(0:Int)≤(u:Int):=Int.natCast_nonneg _
   have j1:(u:Int) < (n.pieces.length:Int):=by omega
   have SP:Hid (signalP n ⟨y0,y1,y2,y3⟩↔(1≤y2∧y2≤z1 - 1)):=Lib.hid ⟨fun h=>by
     obtain ⟨p,h1,h2,h3⟩:=h.2.2.2
     simp only [hu1,Int.toNat_natCast] at h1
     rw [EZ.out] at h1
     obtain rfl:=Option.some.inj h1
     exact ⟨h2,h3⟩,fun h=>⟨q0,q1,q2,_,by simp only [hu1,Int.toNat_natCast];exact EZ.out,h.1,h.2⟩⟩
   have Q2:=Lib.hid q2
   clear q0 q1 q2
   subst hu1
   by_cases q4:1≤y2∧y2≤z1 - 1
   rotate_left
   ·have D4:Hid (decide (1≤y2∧y2≤z1 - 1)=false):=Lib.hid (decide_eq_false q4)
    have HN:Hid (signalsOk n ss=⟨3,k⟩):=Lib.hid (signalsOk_3 G.out B2.out hlt ⟨_,E.out,fun h=>q4 (SP.out.1 h)⟩ HB3.out)
    clear q4
    rcases Q2.out with q2 | q2
    ·have d2:(y3 != 1)=false:=by rw [q2];rfl
     clear q2
     go_wp2_with fail
     refine (l1name _ _ hys).mono ?_
     rintro e w1 ⟨rfl,rfl⟩
     rw [D0.out]
     go_wp2_with fail
     refine (l1in _ _ _ _).mono ?_
     rintro e w1 ⟨rfl,rfl⟩
     rw [D1.out]
     go_upto_region 10 with (fail)
     go_quiet ((go_at_call 35;exact Calls.quiet_of_same (l1in_q D4.out)))
     go_wp2
     exact bodyPost_ret (v:=.agg #[.int .i64 3,.int .i64 k]) (by simp [results,Try.results62,go_sem,hc,hs0,hs1,hs2,hs3,f2,f3]) rfl ⟨by rw [HN.out],by repeat' first | exact hbw | (refine below_drewN ?_ _) | (refine Below.alloc ?_ ?_ _) | (refine Below.setCell ?_ ?_ _) | omega | (simp;done) | (simp;omega)⟩
    ·have d2:(y3 != 1)=true:=by rw [q2];rfl
     have d3:(y3 != -1)=false:=by rw [q2];rfl
     clear q2
     go_wp2_with fail
     refine (l1name _ _ hys).mono ?_
     rintro e w1 ⟨rfl,rfl⟩
     rw [D0.out]
     go_wp2_with fail
     refine (l1in _ _ _ _).mono ?_
     rintro e w1 ⟨rfl,rfl⟩
     rw [D1.out]
     go_upto_region 10 with (fail)
     go_quiet ((go_at_call 35;exact Calls.quiet_of_same (l1in_q D4.out)))
     go_wp2
     exact bodyPost_ret (v:=.agg #[.int .i64 3,.int .i64 k]) (by simp [results,Try.results62,go_sem,hc,hs0,hs1,hs2,hs3,f2,f3]) rfl ⟨by rw [HN.out],by repeat' first | exact hbw | (refine below_drewN ?_ _) | (refine Below.alloc ?_ ?_ _) | (refine Below.setCell ?_ ?_ _) | omega | (simp;done) | (simp;omega)⟩
   have D4:Hid (decide (1≤y2∧y2≤z1 - 1)=true):=Lib.hid (decide_eq_true q4)
   have HN:=Lib.hid (none_snoc HB3.out (fun ⟨s,h1,h2⟩=>by
    rw [E.out] at h1
    obtain rfl:=Option.some.inj h1
    exact h2 (SP.out.2 q4)))
   clear q4
   rcases Q2.out with q2 | q2
   ·have d2:(y3 != 1)=false:=by rw [q2];rfl
    clear q2
    go_wp2_with fail
    refine (l1name _ _ hys).mono ?_
    rintro e w1 ⟨rfl,rfl⟩
    rw [D0.out]
    go_wp2_with fail
    refine (l1in _ _ _ _).mono ?_
    rintro e w1 ⟨rfl,rfl⟩
    rw [D1.out]
    go_upto_region 10 with (fail)
    go_quiet ((go_at_call 35;exact Calls.quiet_of_same (l1in_q D4.out)))
    go_wp2
    go_roundw
    case rel=>exact ⟨k+1,by omega,by go_num,HN,below_drewN (hb.alloc hb.size _) _⟩
    case measure=>simp [intOf];omega
   ·have d2:(y3 != 1)=true:=by rw [q2];rfl
    have d3:(y3 != -1)=false:=by rw [q2];rfl
    clear q2
    go_wp2_with fail
    refine (l1name _ _ hys).mono ?_
    rintro e w1 ⟨rfl,rfl⟩
    rw [D0.out]
    go_wp2_with fail
    refine (l1in _ _ _ _).mono ?_
    rintro e w1 ⟨rfl,rfl⟩
    rw [D1.out]
    go_upto_region 10 with (fail)
    go_quiet ((go_at_call 35;exact Calls.quiet_of_same (l1in_q D4.out)))
    go_wp2
    go_roundw
    case rel=>exact ⟨k+1,by omega,by go_num,HN,below_drewN (hb.alloc hb.size _) _⟩
    case measure=>simp [intOf];omega
  ·have hge:ss.length≤k:=by omega
   have HB3':Hid (∀j,j < ss.length→¬sbad3 n ss j):=Lib.hid (fun j h=>HB3.out j (by omega))
   clear HB3 hc hf hs2 hs3 hbw
   go_wp2
   go_loopw [66] (fun i wr=>∃k:Nat,k≤ss.length∧i=.int .i64 k∧Hid (∀j,j < k→¬sbad4 ss j)∧Below W0.heap.size W0 wr) (fun i _=>ss.length - (intOf i).toNat)
   case atStart=>exact ⟨0,Nat.zero_le _,rfl,Lib.hid (fun j h=>absurd h (by omega)),hb⟩
   case round =>
    clear hk hge hb
    obtain ⟨k,hk,rfl,HB4,hb⟩:=hrel
    obtain ⟨hc,hf⟩:=bcell hb
    have hs2:w.heap.size < wr.heap.size:=by have:=hb.size;omega
    have hs3:w.heap.size+1 < wr.heap.size:=by have:=hb.size;omega
    have hbw:=hB0.trans (hb.mono hB0.size)
    by_cases hlt:k < ss.length
    ·have i0:(0:Int)≤(k:Int):=Int.natCast_nonneg _
     have i1:(k:Int) < (ss.length:Int):=by omega
     by_cases q:before ss k k
     ·have HE:Hid (pv (before ss k k)=true):=Lib.hid (pv_true q)
      have HN:Hid (signalsOk n ss=⟨4,k⟩):=Lib.hid (signalsOk_4 G.out B2.out HB3'.out hlt q HB4.out)
      clear q
      go_wp2_with fail
      refine (l1before ss A2 c2 k _ (Kn.C_below hbw hs) hlt).mono ?_
      rintro e w1 ⟨rfl,hb1⟩
      rw [HE.out]
      have hbj:=hb.trans (hb1.mono hb.size)
      obtain ⟨hcj,hfj⟩:=bcell hbj
      have hs7:w.heap.size < w1.heap.size:=by have:=hbj.size;omega
      have hs8:w.heap.size+1 < w1.heap.size:=by have:=hbj.size;omega
      have hbw2:=hB0.trans (hbj.mono hB0.size)
      go_wp2
      exact bodyPost_ret (v:=.agg #[.int .i64 4,.int .i64 k]) (by simp [results,Try.results62,go_sem,hcj,hs0,hs1,hs7,hs8,f2,f3]) rfl ⟨by rw [HN.out],by repeat' first | exact hbw2 | (refine below_drewN ?_ _) | (refine Below.alloc ?_ ?_ _) | (refine Below.setCell ?_ ?_ _) | omega | (simp;done) | (simp;omega)⟩
     ·have HE:Hid (pv (before ss k k)=false):=Lib.hid (pv_false q)
      have HN:=Lib.hid (none_snoc HB4.out q)
      clear q
      go_wp2_with fail
      refine (l1before ss A2 c2 k _ (Kn.C_below hbw hs) hlt).mono ?_
      rintro e w1 ⟨rfl,hb1⟩
      rw [HE.out]
      go_wp2
      go_roundw
      case rel=>exact ⟨k+1,by omega,by go_num,HN,hb.trans (hb1.mono hb.size)⟩
      case measure=>simp [intOf];omega
    ·have HN:Hid (signalsOk n ss=⟨0,0⟩):=Lib.hid (signalsOk_0 G.out B2.out HB3'.out (fun j h=>HB4.out j (by omega)))
     go_wp2
     exact bodyPost_ret (v:=.agg #[.int .i64 0,.int .i64 0]) (by simp [results,Try.results62,go_sem,hc,hs0,hs1,hs2,hs3,f2,f3]) rfl ⟨by rw [HN.out],by repeat' first | exact hbw | (refine below_drewN ?_ _) | (refine Below.alloc ?_ ?_ _) | (refine Below.setCell ?_ ?_ _) | omega | (simp;done) | (simp;omega)⟩
end Go.Proofs.Ytjccgneimknbpaa.L
namespace Go.Proofs.Ytjccgneimknbpaa.L
open Go.RowKit Go.MapKept Go.ChangeMaps Go.WideElems
open Go.WideMaps (KeyLaw)
def EM (P:Program) (k:TypeId) (w:World) (b n:Nat) (f:Value→Option Value):Prop :=
 ∃es clock,w.heap[b]?=some (.map es clock)∧Stamped es clock∧(∀x∈es.toList,∃l,keyOf P k x.key=some l)∧(∀x∈es.toList,f x.key=some x.val)∧(∀key v,f key=some v→∃x∈es.toList,x.key=key)∧es.size≤n
noncomputable def upd (f:Value→Option Value) (key val:Value):Value→Option Value:=fun x=>@ite _ (x=key) (Classical.propDecidable _) (some val) (f x)
theorem upd_same (f:Value→Option Value) (key val:Value):upd f key val key=some val:=by unfold upd;rw [if_pos rfl]
theorem upd_other (f:Value→Option Value) {key val x:Value} (h:¬x=key):upd f key val x=f x:=by unfold upd;rw [if_neg h]
section
variable {P:Program} {t k e:TypeId} {w:World} {b n:Nat} {f:Value→Option Value}
theorem EM.made (w:World) (P:Program) (k:TypeId):EM P k (w.alloc (.map #[] 0)) w.heap.size 0 (fun _=>none) :=
 ⟨#[],0,heap_alloc_new w _,stamped_empty 0,by simp,by simp,fun _ _ h=>(by cases h),Nat.le_refl _⟩
theorem EM.lt (h:EM P k w b n f):b < w.heap.size:=by
 obtain ⟨es,clock,hb,_⟩:=h
 exact lt_of_get hb
theorem EM.move {w1:World} (h:EM P k w b n f) (hm:w1.heap[b]?=w.heap[b]?):EM P k w1 b n f:=by
 obtain ⟨es,clock,hb,r⟩:=h
 exact ⟨es,clock,hm.trans hb,r⟩
theorem EM.below {w1:World} (h:EM P k w b n f) (hb:Below w.heap.size w w1):EM P k w1 b n f:=h.move (hb.block b h.lt)
theorem EM.more (h:EM P k w b n f):EM P k w b (n+1) f:=by
 obtain ⟨es,clock,hb,h1,h2,h3,h4,h5⟩:=h
 exact ⟨es,clock,hb,h1,h2,h3,h4,by omega⟩
theorem idx_of_two {l:List MapEntry} (h:(l.map (·.key)).Nodup) {i j:Nat} {x y:MapEntry} (hi:l[i]?=some x) (hj:l[j]?=some y) (he:x.key=y.key):i=j:=by
 induction l generalizing i j with
 | nil=>simp at hi
 | cons a r ih =>
  rw [List.map_cons,List.nodup_cons] at h
  cases i with
  | zero =>
   cases j with
   | zero=>rfl
   | succ j =>
    simp at hi hj
    subst hi
    exact absurd (List.mem_map.2 ⟨y,List.mem_of_getElem? hj,he.symm⟩) h.1
  | succ i =>
   cases j with
   | zero =>
    simp at hi hj
    subst hj
    exact absurd (List.mem_map.2 ⟨x,List.mem_of_getElem? hi,he⟩) h.1
   | succ j =>
    simp at hi hj
    rw [ih h.2 hi hj]
theorem EM.look (h:EM P k w b n f) (K:KeyLaw P k) (ht:P.underlying t=some (.map k e)) {z:Value} (hz:(zeroValue e).run P w=.ok z w) {key:Value} {kl:Lit} (hkey:keyOf P k key=some kl) :
  (Instr.lookup t (.map (some b)) key false).run P w=.ok ((f key).getD z) w:=by
 obtain ⟨es,clock,hb,hst,hks,h1,h2,hs⟩:=h
 rcases K.find w hkey es.toList hks with ⟨r1,r2⟩ | ⟨j,e0,r1,r2,r3⟩
 ·have hf:f key=none:=by
   cases hfk:f key with
   | none=>rfl
   | some v =>
    obtain ⟨x,hx,hxk⟩:=h2 key v hfk
    exact absurd hxk (r2 x hx)
  simp [Instr.lookup,run_underlying ht,MapKept.run_getObj_map hb,K.check w _ hkey,r1,hz,Result.andThen,hf]
 ·have hf:f key=some e0.val:=by rw [←r3];exact h1 e0 (List.mem_of_getElem? r2)
  simp [Instr.lookup,run_underlying ht,MapKept.run_getObj_map hb,K.check w _ hkey,r1,Result.andThen,hf]
theorem grown_setBlock {es:Array MapEntry} {clock:Nat} (hb:w.heap[b]?=some (.map es clock)) (o':Obj):w.grownBy (setBlock w b o') (some b):=⟨rfl,rfl,rfl,by simp [setBlock],fun i _ hi=>heap_setBlock_other hb _ (fun e=>hi (by rw [e]))⟩
section
variable {es:Array MapEntry} {clock:Nat}
def Tells (P:Program) (k:TypeId) (es:Array MapEntry) (clock:Nat) (f:Value→Option Value):Prop :=
 Stamped es clock∧(∀x∈es.toList,∃l,keyOf P k x.key=some l)∧(∀x∈es.toList,f x.key=some x.val)∧(∀key v,f key=some v→∃x∈es.toList,x.key=key)
theorem tells_push (h:Tells P k es clock f) {key val:Value} {l:Lit} (hkey:keyOf P k key=some l) (hne:∀x∈es.toList,x.key≠key):Tells P k (es.push ⟨key,val,clock⟩) (clock+1) (upd f key val):=by
 obtain ⟨hst,hks,h1,h2⟩:=h
 refine ⟨stamped_push hst hne,?_,?_,?_⟩
 ·intro x hx
  rw [Array.toList_push,List.mem_append,List.mem_singleton] at hx
  rcases hx with hx | rfl
  ·exact hks x hx
  ·exact ⟨l,hkey⟩
 ·intro x hx
  rw [Array.toList_push,List.mem_append,List.mem_singleton] at hx
  rcases hx with hx | rfl
  ·rw [upd_other f (hne x hx)]
   exact h1 x hx
  ·exact upd_same f key val
 ·intro key' v hv
  rw [Array.toList_push]
  by_cases hkk:key'=key
  ·exact ⟨_,List.mem_append_right _ (List.mem_singleton.2 rfl),hkk.symm⟩
  ·rw [upd_other f hkk] at hv
   obtain ⟨x,hx,hxk⟩:=h2 key' v hv
   exact ⟨x,List.mem_append_left _ hx,hxk⟩
theorem tells_set (h:Tells P k es clock f) {key val:Value} {j:Nat} {e0:MapEntry} (hj:es.toList[j]?=some e0) (hk:e0.key=key):Tells P k (es.modify j fun x=>{ x with key:=key,val:=val }) clock (upd f key val):=by
 obtain ⟨hst,hks,h1,h2⟩:=h
 have hnd:=hst.2.2
 have hl:(es.modify j fun x=>{ x with key:=key,val:=val }).toList=es.toList.modify j (fun x=>{ x with key:=key,val:=val }):=by rw [Array.toList_modify]
 have hmem:∀x,x∈es.toList.modify j (fun x=>{ x with key:=key,val:=val })→(x=⟨key,val,e0.born⟩)∨(x∈es.toList∧¬x.key=key):=by
  intro x hx
  obtain ⟨i,hi⟩:=List.mem_iff_getElem?.1 hx
  rw [List.getElem?_modify] at hi
  by_cases hij:j=i
  ·subst hij
   rw [hj] at hi
   simp only [if_true,Option.map_eq_map,Option.map_some,Option.some.injEq] at hi
   exact .inl hi.symm
  ·simp only [if_neg hij] at hi
   replace hi:es.toList[i]?=some x:=by simpa using hi
   refine .inr ⟨List.mem_of_getElem? hi,fun he=>hij ?_⟩
   exact (idx_of_two hnd hi hj (he.trans hk.symm)).symm
 refine ⟨stamped_modify hst j _ (fun _ _=>rfl) (fun x hx hxj=>?_),?_,?_,?_⟩
 ·have:x=e0:=by
   have h3:es.toList[j]?=some x:=by simpa using hxj
   exact Option.some.inj (h3.symm.trans hj)
  rw [this,hk]
 ·rw [hl]
  intro x hx
  rcases hmem x hx with rfl | ⟨hx,_⟩
  ·obtain ⟨l,hl⟩:=hks e0 (List.mem_of_getElem? hj)
   exact ⟨l,by rw [hk] at hl;exact hl⟩
  ·exact hks x hx
 ·rw [hl]
  intro x hx
  rcases hmem x hx with rfl | ⟨hx,hne⟩
  ·exact upd_same f key val
  ·rw [upd_other f hne]
   exact h1 x hx
 ·rw [hl]
  intro key' v hv
  by_cases hkk:key'=key
  ·refine ⟨⟨key,val,e0.born⟩,List.mem_of_getElem? (i:=j) ?_,hkk.symm⟩
   rw [List.getElem?_modify,hj]
   simp
  ·rw [upd_other f hkk] at hv
   obtain ⟨x,hx,hxk⟩:=h2 key' v hv
   obtain ⟨i,hi⟩:=List.mem_iff_getElem?.1 hx
   have hij:¬j=i:=fun he=>by
    subst he
    rw [hj] at hi
    obtain rfl:=Option.some.inj hi
    exact hkk (hxk.symm.trans hk)
   exact ⟨x,List.mem_of_getElem? (i:=i) (by rw [List.getElem?_modify];simp only [if_neg hij];simpa using hi),hxk⟩
end
theorem EM.tells {es:Array MapEntry} {clock:Nat} (hb:w.heap[b]?=some (.map es clock)) (h:Tells P k es clock f) (hs:es.size≤n):EM P k w b n f:=⟨es,clock,hb,h.1,h.2.1,h.2.2.1,h.2.2.2,hs⟩
theorem EM.store (h:EM P k w b n f) (K:KeyLaw P k) (ht:P.underlying t=some (.map k e)) {key:Value} {kl:Lit} (hkey:keyOf P k key=some kl) (val:Value) :
  ∃w1,(Instr.mapUpdate t (.map (some b)) key val).run P w=.ok () w1∧EM P k w1 b (n+1) (upd f key val)∧w.grownBy w1 (some b):=by
 obtain ⟨es,clock,hb,hst,hks,h1,h2,hs⟩:=h
 rcases K.find w hkey es.toList hks with ⟨r1,r2⟩ | ⟨j,e0,r1,r2,r3⟩
 ·refine ⟨setBlock w b (.map (es.push ⟨key,val,clock⟩) (clock+1)),?_,EM.tells (heap_setBlock_same hb _) (tells_push ⟨hst,hks,h1,h2⟩ hkey r2) (by simp;omega),grown_setBlock hb _⟩
  simp [Instr.mapUpdate,run_underlying ht,MapKept.run_getObj_map hb,K.check w false hkey,r1,MapKept.run_setObj_map _ hb,Result.andThen,setBlock]
 ·have hj:es[j]?=some e0:=by simpa using r2
  refine ⟨setBlock w b (.map (es.modify j fun x=>{ x with key:=key,val:=val }) clock),?_,EM.tells (heap_setBlock_same hb _) (tells_set ⟨hst,hks,h1,h2⟩ r2 r3) (by simp;omega),grown_setBlock hb _⟩
  simp [Instr.mapUpdate,run_underlying ht,MapKept.run_getObj_map hb,K.check w false hkey,r1,hj,r3,K.stays w hkey,MapKept.run_setObj_map _ hb,Result.andThen,setBlock]
theorem findIdx_last {es:Array MapEntry} {clock:Nat} (hst:Stamped es clock) (key z:Value):(es.push ⟨key,z,clock⟩).findIdx? (fun e=>((e.born:Nat):Int) == ((clock:Nat):Int))=some es.size:=by
 rw [findIdx_arr]
 exact findIdx_born (l:=(es.push ⟨key,z,clock⟩).toList) (j:=es.size) (e0:=⟨key,z,clock⟩) (by
  simp only [Array.toList_push,List.map_append,List.map_cons,List.map_nil]
  refine List.nodup_append.2 ⟨hst.2.1,by simp,fun a ha c hc e1=>?_⟩
  simp only [List.mem_singleton] at hc
  obtain ⟨x,hx,rfl⟩:=List.mem_map.1 ha
  have:=hst.1 x hx
  omega) (by simp)
theorem EM.entry (h:EM P k w b n f) (K:KeyLaw P k) (ht:P.underlying t=some (.map k e)) {z:Value} (hz:∀u:World,(zeroValue e).run P u=.ok z u) {key:Value} {kl:Lit} (hkey:keyOf P k key=some kl) (val:Value) :
  ∃w1 st,(Instr.mapEntry t (.map (some b)) key).run P w=.ok (.tuple #[(f key).getD z,goInt st]) w1∧w.grownBy w1 (some b)∧w1.heap.size=w.heap.size ∧
   (Instr.lookup t (.map (some b)) key false).run P w1=.ok ((f key).getD z) w1 ∧
   ∃w2,(Instr.entryStore t (.map (some b)) (goInt st) val).run P w1=.ok () w2∧EM P k w2 b (n+1) (upd f key val)∧w.grownBy w2 (some b):=by
 obtain ⟨es,clock,hb,hst,hks,h1,h2,hs⟩:=h
 rcases K.find w hkey es.toList hks with ⟨r1,r2⟩ | ⟨j,e0,r1,r2,r3⟩
 ·have hf:f key=none:=by
   cases hfk:f key with
   | none=>rfl
   | some v =>
    obtain ⟨x,hx,hxk⟩:=h2 key v hfk
    exact absurd hxk (r2 x hx)
  have T1:=tells_push ⟨hst,hks,h1,h2⟩ hkey r2 (val:=z)
  have hb1:=heap_setBlock_same hb (.map (es.push ⟨key,z,clock⟩) (clock+1))
  have E1:EM P k (setBlock w b (.map (es.push ⟨key,z,clock⟩) (clock+1))) b (n+1) (upd f key z):=EM.tells hb1 T1 (by simp;omega)
  have hidx:=findIdx_last hst key z
  have hat:(es.push ⟨key,z,clock⟩).toList[es.size]?=some ⟨key,z,clock⟩:=by simp
  have T2:=tells_push ⟨hst,hks,h1,h2⟩ hkey r2 (val:=val)
  have hmod:(es.push ⟨key,z,clock⟩).modify es.size (fun e=>{ e with val:=val })=es.push ⟨key,val,clock⟩:=by
   apply Array.ext'
   rw [Array.toList_modify,Array.toList_push,Array.toList_push,←Array.length_toList,modify_last]
  refine ⟨setBlock w b (.map (es.push ⟨key,z,clock⟩) (clock+1)),clock,?_,grown_setBlock hb _,by simp [setBlock],?_,setBlock (setBlock w b (.map (es.push ⟨key,z,clock⟩) (clock+1))) b (.map (es.push ⟨key,val,clock⟩) (clock+1)),?_,EM.tells (heap_setBlock_same hb1 _) T2 (by simp;omega),World.grownBy.trans (grown_setBlock hb _) (grown_setBlock hb1 _)⟩
  ·simp [Instr.mapEntry,run_underlying ht,MapKept.run_getObj_map hb,K.check w false hkey,r1,hz,hf,MapKept.run_setObj_map _ hb,Result.andThen,setBlock]
  ·have:=E1.look K ht (hz _) hkey
   rw [upd_same] at this
   rw [hf]
   exact this
  ·generalize setBlock w b _=W1 at hb1 ⊢
   simp [Instr.entryStore,MapKept.run_getObj_map hb1,asInt,asIntOf,goInt,hidx,hmod,MapKept.run_setObj_map _ hb1,Result.andThen,setBlock]
 ·have hj:es[j]?=some e0:=by simpa using r2
  have hf:f key=some e0.val:=by rw [←r3];exact h1 e0 (List.mem_of_getElem? r2)
  have hsame:es.modify j (fun e=>{ e with key:=key })=es:=by
   apply Array.ext'
   rw [Array.toList_modify,modify_eq_set _ _ _ _ r2]
   have:({ e0 with key:=key }:MapEntry)=e0:=by rw [←r3]
   rw [this]
   exact set_self _ _ _ r2
  have hidx:es.findIdx? (fun e=>((e.born:Nat):Int) == ((e0.born:Nat):Int))=some j:=by
   rw [findIdx_arr]
   exact findIdx_born hst.2.1 r2
  have hmod:es.modify j (fun e=>{ e with val:=val })=es.modify j (fun e'=>{ e' with key:=key,val:=val }):=by
   apply Array.ext'
   rw [Array.toList_modify,Array.toList_modify,modify_eq_set _ _ _ _ r2,modify_eq_set _ _ _ _ r2,←r3]
  have T2:=tells_set ⟨hst,hks,h1,h2⟩ r2 r3 (val:=val)
  have hb1:=heap_setBlock_same hb (.map es clock)
  refine ⟨setBlock w b (.map es clock),e0.born,?_,grown_setBlock hb _,by simp [setBlock],?_,setBlock (setBlock w b (.map es clock)) b (.map (es.modify j fun x=>{ x with key:=key,val:=val }) clock),?_,EM.tells (heap_setBlock_same hb1 _) T2 (by simp;omega),World.grownBy.trans (grown_setBlock hb _) (grown_setBlock hb1 _)⟩
  ·simp [Instr.mapEntry,run_underlying ht,MapKept.run_getObj_map hb,K.check w false hkey,r1,hj,r3,hf,K.stays w hkey,hsame,MapKept.run_setObj_map _ hb,Result.andThen,setBlock]
  ·exact EM.look (n:=n) (EM.tells hb1 ⟨hst,hks,h1,h2⟩ hs) K ht (hz _) hkey
  ·generalize setBlock w b _=W1 at hb1 ⊢
   simp [Instr.entryStore,MapKept.run_getObj_map hb1,asInt,asIntOf,goInt,hidx,hmod,MapKept.run_setObj_map _ hb1,Result.andThen,setBlock]
end
end Go.Proofs.Ytjccgneimknbpaa.L
namespace Go.Proofs.Ytjccgneimknbpaa.L
open Go.RowKit
theorem netLaid:laidOutB Try.prog=true:=by kernel_rfl
theorem lawStr:WideMaps.KeyLaw Try.prog 9:=WideMaps.string_law Try.underlying9
theorem lawEnd:WideMaps.KeyLaw Try.prog 102:=deep_law_laid netLaid (m:=2) (by omega) (of_decide_eq_true (by kernel_rfl)) (by kernel_rfl) (by kernel_rfl)
theorem zeroBool (w:World):(zeroValue 4).run Try.prog w=.ok (.bool false) w:=by kernel_rfl
theorem zeroInt (w:World):(zeroValue 3).run Try.prog w=.ok (.int .i64 0) w:=by kernel_rfl
theorem keyStr {s:ByteArray} (hs:s.size≤9223372036854775807):keyOf Try.prog 9 (.string s)=some (.string s.data.toList):=WideMaps.keyOf_string_mk Try.underlying9 hs
theorem keyEnd (a b:Int) (wa:(Lit.int .i64 a).wf=true) (wb:(Lit.int .i64 b).wf=true):∃l,keyOf Try.prog 102 (.agg #[.int .i64 a,.int .i64 b])=some l:=by
 have hk:Try.prog.keyType 102=true:=by kernel_rfl
 obtain ⟨m,hm⟩:∃m,Try.prog.types.size=m+1+1:=⟨Try.prog.types.size - 2,by kernel_rfl⟩
 have hc:Try.prog.cellsOf 102=2:=by kernel_rfl
 have hc3:Try.prog.cellsOf 3=1:=by kernel_rfl
 have hl:Try.prog.keyLits (Try.prog.types.size+1) 102 [.int .i64 a,.int .i64 b]=some [.int .i64 a,.int .i64 b]:=by
  simp [Program.keyLits,hm,Try.underlying102,Try.underlying3,hc,hc3,wa,wb]
 have hf:(Value.agg #[.int .i64 a,.int .i64 b]).formed Try.prog 102=true:=by
  simp [Value.formed,Try.underlying102,hc]
 exact ⟨.string (keyBytes [.int .i64 a,.int .i64 b]),by
  unfold keyOf
  rw [Try.underlying102]
  simp [hk,hf,Value.cells]
  exact ⟨_,by simpa using hl,rfl⟩⟩
noncomputable def nameSet (ns:List ByteArray):Value→Option Value:=fun v=>@ite _ (∃s,s∈ns∧v=.string s) (Classical.propDecidable _) (some (.bool true)) none
theorem nameSet_nil:nameSet []=fun _=>none:=by
 funext v
 unfold nameSet
 rw [if_neg (fun ⟨s,h,_⟩=>by cases h)]
theorem nameSet_at (ns:List ByteArray) (s:ByteArray):(nameSet ns (.string s)).getD (.bool false)=.bool (pv (s∈ns)):=by
 unfold nameSet
 by_cases h:s∈ns
 ·rw [if_pos ⟨s,h,rfl⟩,pv_true h]
  rfl
 ·rw [if_neg (fun ⟨t,ht,he⟩=>h (by injection he with he;rw [he];exact ht)),pv_false h]
  rfl
theorem nameSet_snoc (ns:List ByteArray) (s:ByteArray):upd (nameSet ns) (.string s) (.bool true)=nameSet (ns++[s]):=by
 funext v
 by_cases h:v=.string s
 ·subst h
  rw [upd_same]
  unfold nameSet
  rw [if_pos ⟨s,List.mem_append_right _ (List.mem_singleton.2 rfl),rfl⟩]
 ·rw [upd_other _ h]
  unfold nameSet
  by_cases h2:∃t,t∈ns∧v=.string t
  ·obtain ⟨t,h3,h4⟩:=h2
   rw [if_pos ⟨t,h3,h4⟩,if_pos ⟨t,List.mem_append_left _ h3,h4⟩]
  ·rw [if_neg h2,if_neg (fun ⟨t,h3,h4⟩=>by
    rcases List.mem_append.1 h3 with h3 | h3
    ·exact h2 ⟨t,h3,h4⟩
    ·rw [List.mem_singleton.1 h3] at h4
     exact h h4)]
noncomputable def cntF (g:End→Nat):Value→Option Value:=fun v=>@dite _ (∃e:End,v=e.v∧g e≠0) (Classical.propDecidable _) (fun h=>some (.int .i64 (g h.choose))) (fun _=>none)
theorem endv_inj {x y:End} (h:x.v=y.v):x=y:=by
 obtain ⟨a,b⟩:=x
 obtain ⟨c,d⟩:=y
 simp at h
 rw [h.1,h.2]
theorem cntF_pos {g:End→Nat} {e:End} (h:g e≠0):cntF g e.v=some (.int .i64 (g e)):=by
 unfold cntF
 have hx:∃x:End,e.v=x.v∧g x≠0:=⟨e,rfl,h⟩
 rw [dif_pos hx]
 rw [←endv_inj hx.choose_spec.1]
theorem cntF_zero {g:End→Nat} {e:End} (h:g e=0):cntF g e.v=none:=by
 unfold cntF
 rw [dif_neg (fun ⟨x,h1,h2⟩=>h2 (by rw [←endv_inj h1];exact h))]
theorem cntF_at (g:End→Nat) (e:End):(cntF g e.v).getD (.int .i64 0)=.int .i64 (g e):=by
 by_cases h:g e=0
 ·rw [cntF_zero h,h]
  rfl
 ·rw [cntF_pos h]
  rfl
theorem cntF_nil:cntF (fun _=>0)=fun _=>none:=by
 funext v
 unfold cntF
 rw [dif_neg (fun ⟨x,_,h⟩=>h rfl)]
theorem cntF_snoc (g g':End→Nat) (e:End) (h1:g' e=g e+1) (h2:∀x,¬x=e→g' x=g x):upd (cntF g) e.v (.int .i64 (g e+1:Nat))=cntF g':=by
 funext v
 by_cases h:v=e.v
 ·subst h
  rw [upd_same,cntF_pos (by omega),h1]
 ·rw [upd_other _ h]
  by_cases hv:∃x:End,v=x.v
  ·obtain ⟨x,rfl⟩:=hv
   have hx:¬x=e:=fun he=>h (by rw [he])
   have:=h2 x hx
   by_cases h0:g x=0
   ·rw [cntF_zero h0,cntF_zero (by omega)]
   ·rw [cntF_pos h0,cntF_pos (by omega),this]
  ·unfold cntF
   rw [dif_neg (fun ⟨x,hx,_⟩=>hv ⟨x,hx⟩),dif_neg (fun ⟨x,hx,_⟩=>hv ⟨x,hx⟩)]
end Go.Proofs.Ytjccgneimknbpaa.L
namespace Go.Proofs.Ytjccgneimknbpaa.L
open Go.RowKit
theorem same_iff {ns:List ByteArray} {k:Nat} {s:ByteArray}:sameName ns k s↔s∈ns.take k:=by
 constructor
 ·rintro ⟨j,hj,h⟩
  exact List.mem_of_getElem? (i:=j) (by rw [List.getElem?_take,if_pos hj];exact h)
 ·intro h
  obtain ⟨j,hj⟩:=List.mem_iff_getElem?.1 h
  rw [List.getElem?_take] at hj
  split at hj
  ·rename_i hjk
   exact ⟨j,hjk,hj⟩
  ·cases hj
theorem take_snoc {α:Type} {xs:List α} {k:Nat} {x:α} (h:xs[k]?=some x):xs.take (k+1)=xs.take k++[x]:=by
 rw [List.take_add_one,h]
 rfl
def named4 (js:List Joint) (k:Nat):List ByteArray:=((js.take k).filter (fun x=>decide (2 < x.kind))).map Joint.name
theorem named4_skip {js:List Joint} {k:Nat} {x:Joint} (h:js[k]?=some x) (hk:x.kind≤2):named4 js (k+1)=named4 js k:=by
 unfold named4
 rw [take_snoc h,List.filter_append,List.map_append]
 have:decide (2 < x.kind)=false:=decide_eq_false (by omega)
 simp [this]
theorem named4_snoc {js:List Joint} {k:Nat} {x:Joint} (h:js[k]?=some x) (hk:2 < x.kind):named4 js (k+1)=named4 js k++[x.name]:=by
 unfold named4
 rw [take_snoc h,List.filter_append,List.map_append]
 have:decide (2 < x.kind)=true:=decide_eq_true hk
 simp [this]
theorem named4_mem {js:List Joint} {k:Nat} {s:ByteArray} (h:s∈named4 js k):sameName (js.map Joint.name) k s:=by
 unfold named4 at h
 obtain ⟨x,hx,rfl⟩:=List.mem_map.1 h
 have hx:=(List.mem_filter.1 hx).1
 rw [same_iff,←List.map_take]
 exact List.mem_map.2 ⟨x,hx,rfl⟩
theorem nameP_ne {s:ByteArray} (h:nameP s):¬s=⟨#[]⟩:=fun e=>by
 rw [e] at h
 have:=h.1
 simp [ByteArray.size] at this
theorem named4_not {n:Net} {k:Nat} {s:ByteArray} (h:¬s∈named4 n.joints k) (hp:nameP s) (hb:∀j,j < k→¬bad4 n j):¬sameName (n.joints.map Joint.name) k s:=by
 rintro ⟨j,hj,hs⟩
 rw [List.getElem?_map,Option.map_eq_some_iff] at hs
 obtain ⟨x,hx,rfl⟩:=hs
 by_cases hk:2 < x.kind
 ·refine h (List.mem_map.2 ⟨x,List.mem_filter.2 ⟨?_,decide_eq_true hk⟩,rfl⟩)
  exact List.mem_of_getElem? (i:=j) (by rw [List.getElem?_take,if_pos hj];exact hx)
 ·by_cases he:x.name=⟨#[]⟩
  ·exact nameP_ne hp he
  ·exact hb j hj ⟨x,hx,.inl ⟨by omega,he⟩⟩
theorem endP_wf {n:Nat} {a b:Int} (hn:n≤100) (h:endP n ⟨a,b⟩):(Lit.int .i64 a).wf=true∧(Lit.int .i64 b).wf=true:=by
 obtain ⟨⟨h1,h2⟩,h3,h4⟩:=h
 simp only at h1 h2 h3 h4
 exact ⟨WalkArith.wf_i64 (by omega),WalkArith.wf_i64 (by omega)⟩
set_option maxHeartbeats 2000000 in
theorem pieceOk (x:Piece) (w:World) (hs:x.name.size≤9223372036854775807):Calls Try.prog 113 #[x.v] w (RetB (pv (pieceP x)) w):=by
 obtain ⟨a,b,c,d⟩:=x
 simp only at hs
 by_cases q:nameP a
 rotate_left
 ·have HN:Hid (pv (pieceP ⟨a,b,c,d⟩)=false):=Lib.hid (pv_false (fun h=>q h.1))
  have D:Hid (pv (nameP a)=false):=Lib.hid (pv_false q)
  clear q
  go_enter Try.func113,Try.ntmps113
  go_wp2_with fail
  refine (named _ _ hs).mono ?_
  rintro e w1 ⟨rfl,rfl⟩
  rw [D.out]
  go_wp2
  go_ret
  exact ⟨by rw [HN.out];rfl,below_alloc _ _⟩
 have D:Hid (pv (nameP a)=true):=Lib.hid (pv_true q)
 by_cases q0:1≤b
 rotate_left
 ·have HN:Hid (pv (pieceP ⟨a,b,c,d⟩)=false):=Lib.hid (pv_false (fun h=>q0 h.2.1))
  have d0:decide (1≤b)=false:=decide_eq_false q0
  clear q0
  go_enter Try.func113,Try.ntmps113
  go_wp2_with fail
  refine (named _ _ hs).mono ?_
  rintro e w1 ⟨rfl,rfl⟩
  rw [D.out]
  go_wp2
  go_ret
  exact ⟨by rw [HN.out];rfl,below_alloc _ _⟩
 have d0:decide (1≤b)=true:=decide_eq_true q0
 by_cases q1:b≤10000000
 rotate_left
 ·have HN:Hid (pv (pieceP ⟨a,b,c,d⟩)=false):=Lib.hid (pv_false (fun h=>q1 h.2.2.1))
  have d1:decide (b≤10000000)=false:=decide_eq_false q1
  clear q1
  go_enter Try.func113,Try.ntmps113
  go_wp2_with fail
  refine (named _ _ hs).mono ?_
  rintro e w1 ⟨rfl,rfl⟩
  rw [D.out]
  go_wp2
  go_ret
  exact ⟨by rw [HN.out];rfl,below_alloc _ _⟩
 have d1:decide (b≤10000000)=true:=decide_eq_true q1
 by_cases q2:1≤c
 rotate_left
 ·have HN:Hid (pv (pieceP ⟨a,b,c,d⟩)=false):=Lib.hid (pv_false (fun h=>q2 h.2.2.2.1))
  have d2:decide (1≤c)=false:=decide_eq_false q2
  clear q2
  go_enter Try.func113,Try.ntmps113
  go_wp2_with fail
  refine (named _ _ hs).mono ?_
  rintro e w1 ⟨rfl,rfl⟩
  rw [D.out]
  go_wp2
  go_ret
  exact ⟨by rw [HN.out];rfl,below_alloc _ _⟩
 have d2:decide (1≤c)=true:=decide_eq_true q2
 by_cases q3:c≤10000
 rotate_left
 ·have HN:Hid (pv (pieceP ⟨a,b,c,d⟩)=false):=Lib.hid (pv_false (fun h=>q3 h.2.2.2.2.1))
  have d3:decide (c≤10000)=false:=decide_eq_false q3
  clear q3
  go_enter Try.func113,Try.ntmps113
  go_wp2_with fail
  refine (named _ _ hs).mono ?_
  rintro e w1 ⟨rfl,rfl⟩
  rw [D.out]
  go_wp2
  go_ret
  exact ⟨by rw [HN.out];rfl,below_alloc _ _⟩
 have d3:decide (c≤10000)=true:=decide_eq_true q3
 by_cases q4:1≤d
 rotate_left
 ·have HN:Hid (pv (pieceP ⟨a,b,c,d⟩)=false):=Lib.hid (pv_false (fun h=>q4 h.2.2.2.2.2.1))
  have d4:decide (1≤d)=false:=decide_eq_false q4
  clear q4
  go_enter Try.func113,Try.ntmps113
  go_wp2_with fail
  refine (named _ _ hs).mono ?_
  rintro e w1 ⟨rfl,rfl⟩
  rw [D.out]
  go_wp2
  go_ret
  exact ⟨by rw [HN.out];rfl,below_alloc _ _⟩
 have d4:decide (1≤d)=true:=decide_eq_true q4
 by_cases q5:d≤1000
 rotate_left
 ·have HN:Hid (pv (pieceP ⟨a,b,c,d⟩)=false):=Lib.hid (pv_false (fun h=>q5 h.2.2.2.2.2.2))
  have d5:decide (d≤1000)=false:=decide_eq_false q5
  clear q5
  go_enter Try.func113,Try.ntmps113
  go_wp2_with fail
  refine (named _ _ hs).mono ?_
  rintro e w1 ⟨rfl,rfl⟩
  rw [D.out]
  go_wp2
  go_ret
  exact ⟨by rw [HN.out];rfl,below_alloc _ _⟩
 have d5:decide (d≤1000)=true:=decide_eq_true q5
 have HN:Hid (pv (pieceP ⟨a,b,c,d⟩)=true):=Lib.hid (pv_true ⟨q,q0,q1,q2,q3,q4,q5⟩)
 go_enter Try.func113,Try.ntmps113
 go_wp2_with fail
 refine (named _ _ hs).mono ?_
 rintro e w1 ⟨rfl,rfl⟩
 rw [D.out]
 go_wp2
 go_ret
 exact ⟨by rw [HN.out];rfl,below_alloc _ _⟩
set_option maxRecDepth 100000 in
set_option maxHeartbeats 16000000 in
theorem implNetOk {ok:Nat→Prop} (n:Net) (A0 A1:Option Addr) (c0 c1:Nat) (w:World) (hp:pieceK.C w ok A0 n.pieces) (hj:(jointK 102).C w ok A1 n.joints) (hfit:Hid n.fit) (hu:Hid (∀e,uses n.joints e≤1048576)) :
  Calls Try.prog 107 #[.agg #[.slice A0 n.pieces.length c0,.slice A1 n.joints.length c1]] w (RetV (netOk n).v w):=by
 have hm0:=hp.1
 have hm1:=hj.1
 have hmm:=@run_makeMap Try.prog
 by_cases b1:n.pieces.length=0
 ·have d1:((n.pieces.length:Int) == 0)=true:=by rw [beq_iff_eq];omega
  have HN:Hid (netOk n=⟨1,0⟩):=Lib.hid (netOk_1 (.inl b1))
  clear b1
  go_enter Try.func107,Try.ntmps107
  go_wp2
  exact bodyPost_ret (v:=.agg #[.int .i64 1,.int .i64 0]) (by simp [results,Try.results107,go_sem]) rfl ⟨by rw [HN.out],(below_alloc _ _).alloc (by simp) _⟩
 have d1:((n.pieces.length:Int) == 0)=false:=by rw [beq_eq_false_iff_ne];omega
 by_cases b2:100 < n.pieces.length
 ·have HN:Hid (netOk n=⟨1,0⟩):=Lib.hid (netOk_1 (.inr (.inl b2)))
  go_enter Try.func107,Try.ntmps107
  go_wp2
  exact bodyPost_ret (v:=.agg #[.int .i64 1,.int .i64 0]) (by simp [results,Try.results107,go_sem]) rfl ⟨by rw [HN.out],(below_alloc _ _).alloc (by simp) _⟩
 by_cases b3:120 < n.joints.length
 ·have HN:Hid (netOk n=⟨1,0⟩):=Lib.hid (netOk_1 (.inr (.inr b3)))
  go_enter Try.func107,Try.ntmps107
  go_wp2
  exact bodyPost_ret (v:=.agg #[.int .i64 1,.int .i64 0]) (by simp [results,Try.results107,go_sem]) rfl ⟨by rw [HN.out],(below_alloc _ _).alloc (by simp) _⟩
 have B1:Hid (¬bad1 n):=Lib.hid (fun h=>by rcases h with h | h | h;exact b1 h;exact b2 h;exact b3 h)
 clear b1
 go_enter Try.func107,Try.ntmps107
 go_upto_region 3 with (fail)
 obtain ⟨W0,hW0,hB0,f0,f1,f2,f3,f4,f5,hs0,hs1⟩:∃W0,W0=(w.alloc (.cells #[.slice A0 n.pieces.length c0,.slice A1 n.joints.length c1] 26)).alloc (.cells #[.int .i64 0,.int .i64 0] 112)∧Below w.heap.size w W0 ∧
   W0.cell? ⟨w.heap.size,0,none⟩=some (.slice A0 n.pieces.length c0)∧W0.cell? ⟨w.heap.size,1,none⟩=some (.slice A1 n.joints.length c1)∧W0.cell? ⟨w.heap.size+1,0,none⟩=some (.int .i64 0)∧W0.cell? ⟨w.heap.size+1,1,none⟩=some (.int .i64 0) ∧
   W0.frozen? ⟨w.heap.size+1,0,none⟩=false∧W0.frozen? ⟨w.heap.size+1,1,none⟩=false∧w.heap.size < W0.heap.size∧w.heap.size+1 < W0.heap.size:=⟨_,rfl,(below_alloc _ _).alloc (by simp) _,by simp,by simp,by simp,by simp,by simp,by simp,by simp;omega,by simp⟩
 rw [←hW0]
 clear hW0
 go_wp2
 go_loopw [39] (fun i wr=>∃k:Nat,k≤n.pieces.length∧i=.int .i64 k∧Hid (∀j,j < k→¬bad2 n j)∧Hid (EM Try.prog 9 wr W0.heap.size k (nameSet ((n.pieces.map Piece.name).take k)))∧Below W0.heap.size W0 wr) (fun i _=>n.pieces.length - (intOf i).toNat)
 case atStart=>exact ⟨0,Nat.zero_le _,rfl,Lib.hid (fun j h=>absurd h (by omega)),Lib.hid (by rw [List.take_zero,nameSet_nil];exact EM.made _ _ _),below_alloc _ _⟩
 case round =>
  obtain ⟨k,hk,rfl,HB2,HM,hb⟩:=hrel
  obtain ⟨hc,hf⟩:=bcell hb
  have hs2:w.heap.size < wr.heap.size:=by have:=hb.size;omega
  have hs3:w.heap.size+1 < wr.heap.size:=by have:=hb.size;omega
  have hbw:=hB0.trans (hb.mono hB0.size)
  by_cases hlt:k < n.pieces.length
  ·obtain ⟨a0,rfl,y0,y1,y2,y3,E,g0,g1,g2,g3⟩:=pieceK_at (Kn.C_below hbw hp) k hlt
   have i0:(0:Int)≤(k:Int):=Int.natCast_nonneg _
   have i1:(k:Int) < (n.pieces.length:Int):=by omega
   have hys:y0.size≤9223372036854775807:=hfit.out.1 _ (mem_of_get E.out)
   by_cases q0:pieceP ⟨y0,y1,y2,y3⟩
   rotate_left
   ·have HN:Hid (netOk n=⟨2,k⟩):=Lib.hid (netOk_2 B1.out hlt ⟨_,E.out,.inl q0⟩ HB2.out)
    have HE:Hid (pv (pieceP ⟨y0,y1,y2,y3⟩)=false):=Lib.hid (pv_false q0)
    clear q0
    go_wp2_with fail
    refine (pieceOk ⟨y0,y1,y2,y3⟩ _ hys).mono ?_
    rintro e w1 ⟨rfl,hb1⟩
    rw [HE.out]
    have hbj:=hb.trans (((below_alloc _ _).trans (hb1.mono (by simp))).mono hb.size)
    obtain ⟨hcj,hfj⟩:=bcell hbj
    have hs5:w.heap.size+1 < w1.heap.size:=by have:=hbj.size;omega
    go_wp2
    exact bodyPost_ret (v:=.agg #[.int .i64 2,.int .i64 k]) (by simp [results,Try.results107,go_sem,hcj,hs0,hs1,hs5,f2,f3]) rfl ⟨by rw [HN.out],by repeat' first | exact hB0.trans (hbj.mono hB0.size) | (refine Below.alloc ?_ ?_ _) | (refine Below.setCell ?_ ?_ _) | (simp;done) | (simp;omega)⟩
   have HE:Hid (pv (pieceP ⟨y0,y1,y2,y3⟩)=true):=Lib.hid (pv_true q0)
   have Q0:=Lib.hid q0
   clear q0
   go_wp2_with fail
   refine (pieceOk ⟨y0,y1,y2,y3⟩ _ hys).mono ?_
   rintro e w1 ⟨rfl,hb1⟩
   rw [HE.out]
   have hbx:Below wr.heap.size wr w1:=(below_alloc _ _).trans (hb1.mono (by simp))
   have hbj:=hb.trans (hbx.mono hb.size)
   obtain ⟨hcj,hfj⟩:=bcell hbj
   obtain ⟨hcx,hfx⟩:=bcell hb1
   have hs5:w.heap.size+1 < w1.heap.size:=by have:=hbj.size;omega
   have EM1:=HM.out.below hbx
   have hl:=EM1.look lawStr Try.underlying166 (zeroBool _) (keyStr hys)
   rw [nameSet_at] at hl
   by_cases qd:y0∈(n.pieces.map Piece.name).take k
   ·have HN:Hid (netOk n=⟨2,k⟩):=Lib.hid (netOk_2 B1.out hlt ⟨_,E.out,.inr (same_iff.2 qd)⟩ HB2.out)
    rw [pv_true qd] at hl
    clear qd EM1
    go_wp2
    exact bodyPost_ret (v:=.agg #[.int .i64 2,.int .i64 k]) (by simp [results,Try.results107,go_sem,hcj,hs0,hs1,hs5,f2,f3]) rfl ⟨by rw [HN.out],by repeat' first | exact hB0.trans (hbj.mono hB0.size) | (refine Below.alloc ?_ ?_ _) | (refine Below.setCell ?_ ?_ _) | (simp;done) | (simp;omega)⟩
   ·have HN:=Lib.hid (none_snoc HB2.out (not_bad2 E.out Q0.out (fun h=>qd (same_iff.1 h))))
    rw [pv_false qd] at hl
    obtain ⟨w2,hst,hem,hg2⟩:=EM1.store lawStr Try.underlying166 (keyStr hys) (.bool true)
    rw [nameSet_snoc,←take_snoc (pnames_at E.out)] at hem
    have HM2:=Lib.hid hem
    clear qd EM1 hem
    go_wp2
    go_roundw
    case rel=>exact ⟨k+1,by omega,by go_num,HN,HM2,below_grown hbj hg2 (Nat.le_refl _) hbj.size⟩
    case measure=>simp [intOf];omega
  ·have hge:n.pieces.length≤k:=by omega
   have HB2':Hid (∀j,j < n.pieces.length→¬bad2 n j):=Lib.hid (fun j h=>HB2.out j (by omega))
   clear HB2 HM
   go_wp2
   obtain ⟨wa,hwa,hb1⟩:∃wa,wa=wr∧Below W0.heap.size W0 wa:=⟨_,rfl,hb⟩
   rw [←hwa]
   clear hwa hc hf hs2 hs3 hb hbw
   go_loopw [62] (fun i wr=>∃k:Nat,k≤n.joints.length∧i=.int .i64 k∧Hid (∀j,j < k→¬bad3 n j)∧Below W0.heap.size W0 wr) (fun i _=>n.joints.length - (intOf i).toNat)
   case atStart=>exact ⟨0,Nat.zero_le _,rfl,Lib.hid (fun j h=>absurd h (by omega)),hb1⟩
   case round =>
    clear hk hge hb1
    obtain ⟨k,hk,rfl,HB3,hb⟩:=hrel
    obtain ⟨hc,hf⟩:=bcell hb
    have hs2:w.heap.size < wr.heap.size:=by have:=hb.size;omega
    have hs3:w.heap.size+1 < wr.heap.size:=by have:=hb.size;omega
    have hbw:=hB0.trans (hb.mono hB0.size)
    by_cases hlt:k < n.joints.length
    ·obtain ⟨a1,rfl,y,E,A2,c2,g0,g1,g2,l2,q2⟩:=jointK_at (Kn.C_below hbw hj) k hlt
     have i0:(0:Int)≤(k:Int):=Int.natCast_nonneg _
     have i1:(k:Int) < (n.joints.length:Int):=by omega
     have hm2:=q2.1
     by_cases k1:1≤y.kind
     rotate_left
     ·have HN:Hid (netOk n=⟨3,k⟩):=Lib.hid (netOk_3 B1.out HB2'.out hlt ⟨_,E.out,fun h=>k1 h.1.1⟩ HB3.out)
      go_wp2
      exact bodyPost_ret (v:=.agg #[.int .i64 3,.int .i64 k]) (by simp [results,Try.results107,go_sem,hc,hs0,hs1,hs2,hs3,f2,f3]) rfl ⟨by rw [HN.out],by repeat' first | exact hbw | (refine Below.alloc ?_ ?_ _) | (refine Below.setCell ?_ ?_ _) | (simp;done) | (simp;omega)⟩
     by_cases k2:y.kind≤4
     rotate_left
     ·have HN:Hid (netOk n=⟨3,k⟩):=Lib.hid (netOk_3 B1.out HB2'.out hlt ⟨_,E.out,fun h=>k2 h.1.2⟩ HB3.out)
      go_wp2
      exact bodyPost_ret (v:=.agg #[.int .i64 3,.int .i64 k]) (by simp [results,Try.results107,go_sem,hc,hs0,hs1,hs2,hs3,f2,f3]) rfl ⟨by rw [HN.out],by repeat' first | exact hbw | (refine Below.alloc ?_ ?_ _) | (refine Below.setCell ?_ ?_ _) | (simp;done) | (simp;omega)⟩
     by_cases k3:(y.ends.length:Int)=y.kind
     rotate_left
     ·have HN:Hid (netOk n=⟨3,k⟩):=Lib.hid (netOk_3 B1.out HB2'.out hlt ⟨_,E.out,fun h=>k3 h.2.1⟩ HB3.out)
      have d3:((y.ends.length:Int) != y.kind)=true:=int_ne k3
      clear k3
      go_wp2
      exact bodyPost_ret (v:=.agg #[.int .i64 3,.int .i64 k]) (by simp [results,Try.results107,go_sem,hc,hs0,hs1,hs2,hs3,f2,f3]) rfl ⟨by rw [HN.out],by repeat' first | exact hbw | (refine Below.alloc ?_ ?_ _) | (refine Below.setCell ?_ ?_ _) | (simp;done) | (simp;omega)⟩
     have HK1:=Lib.hid k1
     have HK2:=Lib.hid k2
     have HK3:=Lib.hid k3
     have d3:((y.ends.length:Int) != y.kind)=false:=by rw [k3];simp
     clear k3
     go_wp2
     obtain ⟨W1,hW1,hB1,hs4,hs5,hs6⟩:∃W1,W1=wr.alloc (.cells #[.int .i64 y.kind,.string y.name,.slice A2 y.ends.length c2] 97)∧Below wr.heap.size wr W1∧w.heap.size < W1.heap.size∧w.heap.size+1 < W1.heap.size∧wr.heap.size < W1.heap.size:=⟨_,rfl,below_alloc _ _,by simp;omega,by simp;omega,by simp⟩
     rw [←hW1]
     clear hW1
     have hb1:=hb.trans (hB1.mono hb.size)
     go_loopw [88] (fun i wi=>∃m:Nat,m≤y.ends.length∧i=.int .i64 m∧Hid (∀j e,j < m→y.ends[j]?=some e→endP n.pieces.length e)∧Below W1.heap.size W1 wi) (fun i _=>y.ends.length - (intOf i).toNat)
     case atStart=>exact ⟨0,Nat.zero_le _,rfl,Lib.hid (fun j e h=>absurd h (by omega)),Below.refl _ _⟩
     case round =>
      obtain ⟨m,hmk,rfl,HM,hbi⟩:=hrel
      have hbj:=hb1.trans (hbi.mono hb1.size)
      have hbw2:=hB0.trans (hbj.mono hB0.size)
      obtain ⟨hcj,hfj⟩:=bcell hbj
      have hs7:w.heap.size < wr.heap.size:=by have:=hbj.size;omega
      have hs8:w.heap.size+1 < wr.heap.size:=by have:=hbj.size;omega
      by_cases hlm:m < y.ends.length
      ·obtain ⟨a2,rfl,p1,q1,E1,g3,g4⟩:=endK_at (Kn.C_below (hB1.trans (hbi.mono hB1.size)) q2) m hlm
       have j0:(0:Int)≤(m:Int):=Int.natCast_nonneg _
       have j1:(m:Int) < (y.ends.length:Int):=by omega
       by_cases e0:0≤p1
       rotate_left
       ·have HN:Hid (netOk n=⟨3,k⟩):=Lib.hid (netOk_3 B1.out HB2'.out hlt ⟨_,E.out,fun h=>(fun (h:endP n.pieces.length ⟨p1,q1⟩)=>e0 h.1.1) (h.2.2 _ (mem_of_get E1.out))⟩ HB3.out)
        go_wp2
        exact bodyPost_ret (v:=.agg #[.int .i64 3,.int .i64 k]) (by simp [results,Try.results107,go_sem,hcj,hs0,hs1,hs7,hs8,f2,f3]) rfl ⟨by rw [HN.out],by repeat' first | exact hbw2 | (refine Below.alloc ?_ ?_ _) | (refine Below.setCell ?_ ?_ _) | (simp;done) | (simp;omega)⟩
       by_cases e1:p1 < (n.pieces.length:Int)
       rotate_left
       ·have HN:Hid (netOk n=⟨3,k⟩):=Lib.hid (netOk_3 B1.out HB2'.out hlt ⟨_,E.out,fun h=>(fun (h:endP n.pieces.length ⟨p1,q1⟩)=>e1 (by have:=h.1.2;simp only at this;omega)) (h.2.2 _ (mem_of_get E1.out))⟩ HB3.out)
        go_wp2
        exact bodyPost_ret (v:=.agg #[.int .i64 3,.int .i64 k]) (by simp [results,Try.results107,go_sem,hcj,hs0,hs1,hs7,hs8,f2,f3]) rfl ⟨by rw [HN.out],by repeat' first | exact hbw2 | (refine Below.alloc ?_ ?_ _) | (refine Below.setCell ?_ ?_ _) | (simp;done) | (simp;omega)⟩
       by_cases e2:0≤q1
       rotate_left
       ·have HN:Hid (netOk n=⟨3,k⟩):=Lib.hid (netOk_3 B1.out HB2'.out hlt ⟨_,E.out,fun h=>(fun (h:endP n.pieces.length ⟨p1,q1⟩)=>e2 h.2.1) (h.2.2 _ (mem_of_get E1.out))⟩ HB3.out)
        go_wp2
        exact bodyPost_ret (v:=.agg #[.int .i64 3,.int .i64 k]) (by simp [results,Try.results107,go_sem,hcj,hs0,hs1,hs7,hs8,f2,f3]) rfl ⟨by rw [HN.out],by repeat' first | exact hbw2 | (refine Below.alloc ?_ ?_ _) | (refine Below.setCell ?_ ?_ _) | (simp;done) | (simp;omega)⟩
       by_cases e3:q1≤1
       rotate_left
       ·have HN:Hid (netOk n=⟨3,k⟩):=Lib.hid (netOk_3 B1.out HB2'.out hlt ⟨_,E.out,fun h=>(fun (h:endP n.pieces.length ⟨p1,q1⟩)=>e3 h.2.2) (h.2.2 _ (mem_of_get E1.out))⟩ HB3.out)
        go_wp2
        exact bodyPost_ret (v:=.agg #[.int .i64 3,.int .i64 k]) (by simp [results,Try.results107,go_sem,hcj,hs0,hs1,hs7,hs8,f2,f3]) rfl ⟨by rw [HN.out],by repeat' first | exact hbw2 | (refine Below.alloc ?_ ?_ _) | (refine Below.setCell ?_ ?_ _) | (simp;done) | (simp;omega)⟩
       have HN:=Lib.hid (ends_snoc HM.out E1.out (⟨⟨e0,by show p1≤(n.pieces.length:Int) - 1;omega⟩,e2,e3⟩:endP n.pieces.length ⟨p1,q1⟩))
       go_wp2
       go_roundw
       case rel=>exact ⟨m+1,by omega,by go_num,HN,hbi.trans ((below_alloc _ _).mono hbi.size)⟩
       case measure=>simp [intOf];omega
      ·have hge:y.ends.length≤m:=by omega
       have HJ:jointP n.pieces.length y:=⟨⟨HK1.out,HK2.out⟩,HK3.out,fun e he=>by
        obtain ⟨j,hj⟩:=List.mem_iff_getElem?.1 he
        exact HM.out j e (by have:=(List.getElem?_eq_some_iff.1 hj).1;omega) hj⟩
       have HN:=Lib.hid (none_snoc HB3.out (fun ⟨z,hz,hzb⟩=>by rw [E.out] at hz;obtain rfl:=Option.some.inj hz;exact hzb HJ))
       clear HJ
       go_wp2
       go_roundw
       case rel=>exact ⟨k+1,by omega,by go_num,HN,hbj⟩
       case measure=>simp [intOf];omega
    ·have hge:n.joints.length≤k:=by omega
     have HB3':Hid (∀j,j < n.joints.length→¬bad3 n j):=Lib.hid (fun j h=>HB3.out j (by omega))
     clear HB3
     obtain ⟨wb,rfl⟩:∃wb:World,wb=wr:=⟨_,rfl⟩
     go_upto_region 23 with (fail)
     go_wp2
     have hwz:W0.heap.size≤wb.heap.size:=hb.size
     go_loopw [121] (fun i wi=>∃k:Nat,k≤n.joints.length∧i=.int .i64 k∧Hid (∀j,j < k→¬bad4 n j)∧Hid (EM Try.prog 9 wi wb.heap.size k (nameSet (named4 n.joints k)))∧Below W0.heap.size W0 wi) (fun i _=>n.joints.length - (intOf i).toNat)
     case atStart=>exact ⟨0,Nat.zero_le _,rfl,Lib.hid (fun j h=>absurd h (by omega)),Lib.hid (by show EM _ _ _ _ _ (nameSet []);rw [nameSet_nil];exact EM.made _ _ _),hb.alloc hb.size _⟩
     case round =>
      clear hk hge hb hbw hc hf hs2 hs3
      obtain ⟨k,hk,rfl,HB4,HM,hb⟩:=hrel
      obtain ⟨hc,hf⟩:=bcell hb
      have hs2:w.heap.size < wr.heap.size:=by have:=hb.size;omega
      have hs3:w.heap.size+1 < wr.heap.size:=by have:=hb.size;omega
      have hbw:=hB0.trans (hb.mono hB0.size)
      by_cases hlt:k < n.joints.length
      ·obtain ⟨a1,rfl,y,E,A2,c2,g0,g1,g2,l2,q2⟩:=jointK_at (Kn.C_below hbw hj) k hlt
       have i0:(0:Int)≤(k:Int):=Int.natCast_nonneg _
       have i1:(k:Int) < (n.joints.length:Int):=by omega
       have hys:y.name.size≤9223372036854775807:=hfit.out.2 _ (mem_of_get E.out)
       have EM1:=HM.out.below (below_alloc _ (.cells #[.int .i64 y.kind,.string y.name,.slice A2 y.ends.length c2] 97))
       have hbx:=hb.trans ((below_alloc _ (.cells #[.int .i64 y.kind,.string y.name,.slice A2 y.ends.length c2] 97)).mono hb.size)
       by_cases k1:y.kind≤2
       ·by_cases c4:y.name=⟨#[]⟩
        ·have HN:=Lib.hid (none_snoc HB4.out (fun ⟨z,hz,hzb⟩=>by
          rw [E.out] at hz
          obtain rfl:=Option.some.inj hz
          rcases hzb with h | h
          ·exact h.2 c4
          ·omega))
         have HM2:Hid (EM Try.prog 9 _ wb.heap.size (k+1) (nameSet (named4 n.joints (k+1)))):=Lib.hid (by rw [named4_skip E.out k1];exact EM1.more)
         obtain ⟨d4,d5⟩:=str_empty c4
         clear c4 EM1
         go_wp2
         go_roundw
         case rel=>exact ⟨k+1,by omega,by go_num,HN,HM2,hbx⟩
         case measure=>simp [intOf];omega
        ·have HN:Hid (netOk n=⟨4,k⟩):=Lib.hid (netOk_4 B1.out HB2'.out HB3'.out hlt ⟨_,E.out,.inl ⟨by omega,c4⟩⟩ HB4.out)
         obtain ⟨d4,d5⟩:=str_full c4
         clear c4 EM1
         go_wp2
         exact bodyPost_ret (v:=.agg #[.int .i64 4,.int .i64 k]) (by simp [results,Try.results107,go_sem,hc,hs0,hs1,hs2,hs3,f2,f3]) rfl ⟨by rw [HN.out],by repeat' first | exact hbw | (refine Below.alloc ?_ ?_ _) | (refine Below.setCell ?_ ?_ _) | (simp;done) | (simp;omega)⟩
       ·have k2:3≤y.kind:=by omega
        by_cases c4:nameP y.name
        rotate_left
        ·have HN:Hid (netOk n=⟨4,k⟩):=Lib.hid (netOk_4 B1.out HB2'.out HB3'.out hlt ⟨_,E.out,.inr ⟨k2,.inl c4⟩⟩ HB4.out)
         have HE:Hid (pv (nameP y.name)=false):=Lib.hid (pv_false c4)
         clear c4 EM1
         go_wp2_with fail
         refine (named _ _ hys).mono ?_
         rintro e w1 ⟨rfl,rfl⟩
         rw [HE.out]
         go_wp2
         exact bodyPost_ret (v:=.agg #[.int .i64 4,.int .i64 k]) (by simp [results,Try.results107,go_sem,hc,hs0,hs1,hs2,hs3,f2,f3]) rfl ⟨by rw [HN.out],by repeat' first | exact hbw | (refine Below.alloc ?_ ?_ _) | (refine Below.setCell ?_ ?_ _) | (simp;done) | (simp;omega)⟩
        have HE:Hid (pv (nameP y.name)=true):=Lib.hid (pv_true c4)
        have C4:=Lib.hid c4
        clear c4
        have hl:=EM1.look lawStr Try.underlying166 (zeroBool _) (keyStr hys)
        rw [nameSet_at] at hl
        by_cases qd:y.name∈named4 n.joints k
        ·have HN:Hid (netOk n=⟨4,k⟩):=Lib.hid (netOk_4 B1.out HB2'.out HB3'.out hlt ⟨_,E.out,.inr ⟨k2,.inr (named4_mem qd)⟩⟩ HB4.out)
         rw [pv_true qd] at hl
         clear qd EM1
         go_wp2_with fail
         refine (named _ _ hys).mono ?_
         rintro e w1 ⟨rfl,rfl⟩
         rw [HE.out]
         go_wp2
         exact bodyPost_ret (v:=.agg #[.int .i64 4,.int .i64 k]) (by simp [results,Try.results107,go_sem,hc,hs0,hs1,hs2,hs3,f2,f3]) rfl ⟨by rw [HN.out],by repeat' first | exact hbw | (refine Below.alloc ?_ ?_ _) | (refine Below.setCell ?_ ?_ _) | (simp;done) | (simp;omega)⟩
        ·have HN:=Lib.hid (none_snoc HB4.out (fun ⟨z,hz,hzb⟩=>by
          rw [E.out] at hz
          obtain rfl:=Option.some.inj hz
          rcases hzb with h | ⟨_,h | h⟩
          ·omega
          ·exact h C4.out
          ·exact named4_not qd C4.out HB4.out h))
         rw [pv_false qd] at hl
         obtain ⟨w2,hst,hem,hg2⟩:=EM1.store lawStr Try.underlying166 (keyStr hys) (.bool true)
         rw [nameSet_snoc,←named4_snoc E.out (by omega)] at hem
         have HM2:=Lib.hid hem
         clear qd EM1 hem
         go_wp2_with fail
         refine (named _ _ hys).mono ?_
         rintro e w1 ⟨rfl,rfl⟩
         rw [HE.out]
         go_wp2
         go_roundw
         case rel=>exact ⟨k+1,by omega,by go_num,HN,HM2,below_grown hbx hg2 hwz hbx.size⟩
         case measure=>simp [intOf];omega
      ·have hge:n.joints.length≤k:=by omega
       have HB4':Hid (∀j,j < n.joints.length→¬bad4 n j):=Lib.hid (fun j h=>HB4.out j (by omega))
       clear HB4 HM hwz
       obtain ⟨wd,rfl⟩:∃wd:World,wd=wr:=⟨_,rfl⟩
       go_upto_region 34 with (fail)
       go_wp2
       have hwz:W0.heap.size≤wd.heap.size:=hb.size
       go_loopw [154] (fun i wi=>∃k:Nat,k≤n.joints.length∧i=.int .i64 k∧Hid (∃N,EM Try.prog 102 wi wd.heap.size N (cntF (uses (n.joints.take k))))∧Below W0.heap.size W0 wi) (fun i _=>n.joints.length - (intOf i).toNat)
       case atStart=>exact ⟨0,Nat.zero_le _,rfl,Lib.hid ⟨0,by show EM _ _ _ _ _ (cntF (fun _=>0));rw [cntF_nil];exact EM.made _ _ _⟩,hb.alloc hb.size _⟩
       case round =>
        clear hk hge hb hbw hc hf hs2 hs3
        obtain ⟨k,hk,rfl,HM,hb⟩:=hrel
        obtain ⟨hc,hf⟩:=bcell hb
        have hs2:w.heap.size < wr.heap.size:=by have:=hb.size;omega
        have hs3:w.heap.size+1 < wr.heap.size:=by have:=hb.size;omega
        have hbw:=hB0.trans (hb.mono hB0.size)
        obtain ⟨we,rfl⟩:∃we:World,we=wr:=⟨_,rfl⟩
        by_cases hlt:k < n.joints.length
        ·obtain ⟨a1,rfl,y,E,A2,c2,g0w,g1w,g2w,l2,q2⟩:=jointK_at hj k hlt
         have g0:=cell_below hbw g0w
         have g1:=cell_below hbw g1w
         have g2:=cell_below hbw g2w
         clear g0w g1w g2w
         have i0:(0:Int)≤(k:Int):=Int.natCast_nonneg _
         have i1:(k:Int) < (n.joints.length:Int):=by omega
         have hm2:=q2.1
         have HEP:Hid (∀e,e∈y.ends→endP n.pieces.length e):=Lib.hid (Classical.byContradiction fun h=>HB3'.out k hlt ⟨y,E.out,fun hj=>h hj.2.2⟩)
         have HEM:Hid (∃N,EM Try.prog 102 (we.alloc (.cells #[.int .i64 y.kind,.string y.name,.slice A2 y.ends.length c2] 97)) wd.heap.size N (cntF (fun e=>uses (n.joints.take k) e+usesIn (y.ends.take 0) e))):=Lib.hid (by
          obtain ⟨N,h⟩:=HM.out
          exact ⟨N,h.below (below_alloc _ _)⟩)
         have hbx:=hb.trans ((below_alloc _ (.cells #[.int .i64 y.kind,.string y.name,.slice A2 y.ends.length c2] 97)).mono hb.size)
         have HUK:Hid (∀e,uses (n.joints.take k) e+usesIn y.ends e≤1048576):=Lib.hid (fun e=>by have h1:=uses_le n.joints e (k+1);rw [uses_snoc _ _ _ _ E.out] at h1;have:=hu.out e;omega)
         clear HM
         go_wp2
         go_loopw [161] (fun i wi=>∃m:Nat,m≤y.ends.length∧i=.int .i64 m∧Hid (∃N,EM Try.prog 102 wi wd.heap.size N (cntF (fun e=>uses (n.joints.take k) e+usesIn (y.ends.take m) e)))∧Below W0.heap.size W0 wi) (fun i _=>y.ends.length - (intOf i).toNat)
         case atStart=>exact ⟨0,Nat.zero_le _,rfl,HEM,hbx⟩
         case round =>
          clear hb hbw hc hf hs2 hs3 hbx g0 g1 g2
          obtain ⟨m,hmk,rfl,HM,hb⟩:=hrel
          have hbw:=hB0.trans (hb.mono hB0.size)
          by_cases hlm:m < y.ends.length
          ·obtain ⟨a2,rfl,p1,q1,E1,g3,g4⟩:=endK_at (Kn.C_below hbw q2) m hlm
           have j0:(0:Int)≤(m:Int):=Int.natCast_nonneg _
           have j1:(m:Int) < (y.ends.length:Int):=by omega
           obtain ⟨wa,wb⟩:=endP_wf (by omega) (HEP.out _ (mem_of_get E1.out))
           obtain ⟨kl,hkey⟩:=keyEnd p1 q1 wa wb
           obtain ⟨c,hc0⟩:∃c:Nat,c=uses (n.joints.take k) ⟨p1,q1⟩+usesIn (y.ends.take m) ⟨p1,q1⟩:=⟨_,rfl⟩
           have hcn:c+1≤1048576:=by
            have h1:=HUK.out ⟨p1,q1⟩
            have h2:=usesIn_le y.ends ⟨p1,q1⟩ (m+1)
            rw [usesIn_snoc _ _ _ _ E1.out,if_pos (eqv_self _)] at h2
            omega
           obtain ⟨N,hem⟩:=HM.out
           have hbx:=hb.trans ((below_alloc _ (.cells #[.int .i64 p1,.int .i64 q1] 102)).mono hb.size)
           have EMd:EM Try.prog 102 (wr.alloc (.cells #[.int .i64 p1,.int .i64 q1] 102)).drew wd.heap.size N _:=(hem.below (below_alloc _ _)).move rfl
           have hl:=EMd.look lawEnd Try.underlying168 (zeroInt _) hkey
           obtain ⟨w1,st,r1,gr1,z1,rl,w2,r2,e2,gr2⟩:=EMd.entry lawEnd Try.underlying168 zeroInt hkey (.int .i64 ((c:Int)+1))
           rw [show (Value.agg #[.int .i64 p1,.int .i64 q1])=(⟨p1,q1⟩:End).v from rfl,cntF_at] at hl r1 rl
           simp only [←hc0] at hl r1 rl
           have HN:Hid (∃N,EM Try.prog 102 w2 wd.heap.size N (cntF (fun e=>uses (n.joints.take k) e+usesIn (y.ends.take (m+1)) e))):=Lib.hid ⟨N+1,by
            rw [←cntF_snoc (fun e=>uses (n.joints.take k) e+usesIn (y.ends.take m) e) _ ⟨p1,q1⟩ (by simp only [usesIn_snoc _ _ _ _ E1.out,if_pos (eqv_self _)];omega) (fun x hx=>by simp only [usesIn_snoc _ _ _ _ E1.out];rw [if_neg (by rw [eqv_false (fun h=>hx h.symm)];simp)];rfl)]
            simp only [←hc0]
            exact e2⟩
           have hb2:Below W0.heap.size W0 w2:=below_grown (below_drewN hbx 1) gr2 hwz hbx.size
           unfold goInt at r1 r2
           clear e2 EMd hem hc0 HM
           go_wp2
           go_region
           go_wp2
           go_roundw
           case rel=>exact ⟨m+1,by omega,by go_num,HN,hb2⟩
           case measure=>simp [intOf];omega
          ·have hge:y.ends.length≤m:=by omega
           have HN:Hid (∃N,EM Try.prog 102 wr wd.heap.size N (cntF (uses (n.joints.take (k+1))))):=Lib.hid (by
            obtain ⟨N,h⟩:=HM.out
            rw [List.take_of_length_le hge] at h
            exact ⟨N,by rw [show uses (n.joints.take (k+1))=(fun e=>uses (n.joints.take k) e+usesIn y.ends e) from funext (fun e=>uses_snoc _ _ _ _ E.out)];exact h⟩)
           clear HM HUK
           go_wp2
           go_roundw
           case rel=>exact ⟨k+1,by omega,by go_num,HN,hb⟩
           case measure=>simp [intOf];omega
        ·have hge:n.joints.length≤k:=by omega
         obtain ⟨N,hem⟩:=HM.out
         rw [List.take_of_length_le hge] at hem
         have HMF:=Lib.hid hem
         clear hem HM hwz
         go_wp2
         go_loopw [176] (fun i wi=>∃k:Nat,k≤n.pieces.length∧i=.int .i64 k∧Hid (∀j,j < k→¬bad5 n j)∧wi=we) (fun i _=>n.pieces.length - (intOf i).toNat)
         case atStart=>exact ⟨0,Nat.zero_le _,rfl,Lib.hid (fun j h=>absurd h (by omega)),rfl⟩
         case round =>
          clear hk hge
          obtain ⟨k,hk,rfl,HB5,rfl⟩:=hrel
          by_cases hlt:k < n.pieces.length
          ·have i0:(0:Int)≤(k:Int):=Int.natCast_nonneg _
           have i1:(k:Int) < (n.pieces.length:Int):=by omega
           obtain ⟨kl0,hk0⟩:=keyEnd (k:Int) 0 (WalkArith.wf_i64 (by omega)) (WalkArith.wf_i64 (by omega))
           obtain ⟨kl1,hk1⟩:=keyEnd (k:Int) 1 (WalkArith.wf_i64 (by omega)) (WalkArith.wf_i64 (by omega))
           obtain ⟨u0,hu0⟩:∃c:Nat,c=uses n.joints ⟨k,0⟩:=⟨_,rfl⟩
           obtain ⟨u1,hu1⟩:∃c:Nat,c=uses n.joints ⟨k,1⟩:=⟨_,rfl⟩
           have hl0:=HMF.out.look lawEnd Try.underlying168 (zeroInt _) hk0
           have hl1:=HMF.out.look lawEnd Try.underlying168 (zeroInt _) hk1
           rw [show (Value.agg #[.int .i64 (k:Int),.int .i64 0])=(⟨k,0⟩:End).v from rfl,cntF_at,←hu0] at hl0
           rw [show (Value.agg #[.int .i64 (k:Int),.int .i64 1])=(⟨k,1⟩:End).v from rfl,cntF_at,←hu1] at hl1
           by_cases q0:(u0:Int)=1
           rotate_left
           ·have HN:Hid (netOk n=⟨5,k⟩):=Lib.hid (netOk_5 B1.out HB2'.out HB3'.out HB4'.out hlt (.inl (by rw [←hu0];omega)) HB5.out)
            have d0:((u0:Int) != 1)=true:=int_ne q0
            clear q0 hu0 hu1
            go_wp2
            exact bodyPost_ret (v:=.agg #[.int .i64 5,.int .i64 k]) (by simp [results,Try.results107,go_sem,hc,hs0,hs1,hs2,hs3,f2,f3]) rfl ⟨by rw [HN.out],by repeat' first | exact hbw | (refine Below.alloc ?_ ?_ _) | (refine Below.setCell ?_ ?_ _) | (simp;done) | (simp;omega)⟩
           have d0:((u0:Int) != 1)=false:=by rw [q0];rfl
           by_cases q1:(u1:Int)=1
           rotate_left
           ·have HN:Hid (netOk n=⟨5,k⟩):=Lib.hid (netOk_5 B1.out HB2'.out HB3'.out HB4'.out hlt (.inr (by rw [←hu1];omega)) HB5.out)
            have d1:((u1:Int) != 1)=true:=int_ne q1
            clear q0 q1 hu0 hu1
            go_wp2
            exact bodyPost_ret (v:=.agg #[.int .i64 5,.int .i64 k]) (by simp [results,Try.results107,go_sem,hc,hs0,hs1,hs2,hs3,f2,f3]) rfl ⟨by rw [HN.out],by repeat' first | exact hbw | (refine Below.alloc ?_ ?_ _) | (refine Below.setCell ?_ ?_ _) | (simp;done) | (simp;omega)⟩
           have d1:((u1:Int) != 1)=false:=by rw [q1];rfl
           have HN:=Lib.hid (none_snoc HB5.out (fun h=>by rcases h with h | h;exact h (by omega);exact h (by omega)))
           clear q0 q1 hu0 hu1
           go_wp2
           go_roundw
           case rel=>exact ⟨k+1,by omega,by go_num,HN,trivial⟩
           case measure=>simp [intOf];omega
          ·have HN:Hid (netOk n=⟨0,0⟩):=Lib.hid (netOk_0 B1.out HB2'.out HB3'.out HB4'.out (fun j h=>HB5.out j (by omega)))
           clear HB5
           go_wp2
           exact bodyPost_ret (v:=.agg #[.int .i64 0,.int .i64 0]) (by simp [results,Try.results107,go_sem,hc,hs0,hs1,hs2,hs3,f2,f3]) rfl ⟨by rw [HN.out],by repeat' first | exact hbw | (refine Below.alloc ?_ ?_ _) | (refine Below.setCell ?_ ?_ _) | (simp;done) | (simp;omega)⟩
end Go.Proofs.Ytjccgneimknbpaa.L
