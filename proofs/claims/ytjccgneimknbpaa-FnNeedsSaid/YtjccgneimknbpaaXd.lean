/- A route in memory, told in one word: its slices read as its lists. The contracts of the copiers, counters and comparers in these words. -/
import Derived.Test.YtjccgneimknbpaaXc
import Derived.BigRegion
import Derived.OneCell
import Derived.StillTailTactics
set_option linter.unusedVariables false
set_option linter.unusedSimpArgs false
namespace Go.Proofs.Ytjccgneimknbpaa.L
open Go.RowKit
theorem new_cells (W:World) (cs:List Value) (t:TypeId) {g:Nat} (hg:g=W.heap.size):∀(i:Nat) (u:Value),cs[i]?=some u→(W.alloc (.cells cs.toArray t)).cell? ((⟨g,0,none⟩:Addr).add i)=some u:=by
 intro i u hu
 subst hg
 rw [add_zero,cell_of_row _ _ _ _ _ _ (heap_alloc_new W _)]
 simpa using hu
theorem own_next {v v':Value} {B s:Nat} (h:∀b,v.ownBlock=some b→B≤b) (ha:v'.ownBlock=v.ownBlock∨v'.ownBlock=some s) (hs:B≤s):∀b,v'.ownBlock=some b→B≤b:=by
 intro b hb
 rcases ha with ha | ha
 ·exact h b (ha▸hb)
 ·rw [ha] at hb
  injection hb with hb
  omega
theorem below_push {B:Nat} {W w1 w2:World} {v:Value} (hb:Below B W w1) (hg:w1.grownBy w2 v.ownBlock) (ho:∀b,v.ownBlock=some b→B≤b) (hs:B≤w1.heap.size):Below B W w2:=hb.grown hg hs (fun k hk=>ho k hk)
theorem take_push {α:Type} {xs:List α} {k:Nat} {x:α} (h:xs[k]?=some x):xs.take (k+1)=xs.take k++[x]:=by
 rw [List.take_add_one,h]
 rfl
set_option maxRecDepth 100000 in
set_option maxHeartbeats 8000000 in
theorem specNeeds {ok:Nat→Prop} (r:Route) (v0 v1 v2 v4 v5 v6:Value) (A3 A7:Option Addr) (c3 c7:Nat) (w:World) (h3:lieK.C w ok A3 r.lies) (h7:flankK.C w ok A7 r.flanks) (hl:r.lies.length≤1048576) (hf:r.flanks.length≤1048576) :
  Calls Try.prog 23 #[.agg #[v0,v1,v2,.slice A3 r.lies.length c3,v4,v5,v6,.slice A7 r.flanks.length c7]] w (RetW 52 lieK nobody (needs r) w):=by
 obtain ⟨i0,hi,hz0,hz1,hz2⟩:=info_parts info52
 go_enter Try.func23,Try.ntmps23
 go_wp2
 obtain ⟨W0,hW0,hB0,hs0,f7⟩:∃W0,W0=w.alloc (.cells #[v0,v1,v2,.slice A3 r.lies.length c3,v4,v5,v6,.slice A7 r.flanks.length c7] 44)∧Below w.heap.size w W0∧w.heap.size < W0.heap.size ∧
  W0.cell? ⟨w.heap.size,7,none⟩=some (.slice A7 r.flanks.length c7):=⟨_,rfl,below_alloc _ _,by simp,by simp⟩
 rw [←hW0]
 clear hW0
 go_loopw [3,14] (fun o i wr=>∃k:Nat,k≤r.lies.length∧i=.int .i64 k∧Hid (lieK.Rw 52 wr nobody o (r.lies.take k))∧Hid (∀b,o.ownBlock=some b→W0.heap.size≤b)∧Below W0.heap.size W0 wr) (fun _ i _=>r.lies.length - (intOf i).toNat)
 case atStart=>exact ⟨0,Nat.zero_le _,rfl,Lib.hid (by rw [List.take_zero];exact Kn.Rw.nil),Lib.hid (by simp [Value.ownBlock]),Below.refl _ _⟩
 case round =>
  obtain ⟨k,hk,rfl,HR,HO,hb⟩:=hrel
  have hbw:=hB0.trans (hb.mono hB0.size)
  by_cases hlt:k < r.lies.length
  ·obtain ⟨a3,rfl,y0,y1,E,g0,g1⟩:=lieK_at (Kn.C_below hbw h3) k hlt
   have j0:(0:Int)≤(k:Int):=Int.natCast_nonneg _
   have j1:(k:Int) < (r.lies.length:Int):=by omega
   have hbx:=(hb.alloc hb.size (Obj.cells #[.int .i64 y0,.int .i64 y1] 52)).alloc (by have:=hb.size;simp;omega) (Obj.cells #[.int .i64 y0,.int .i64 y1] 52)
   go_wp2_with (at_builtin;refine wpList_append_rw _ rfl (.tmp 18) (.tmp 20) 39 rfl 52 i0 _ 16 Try.underlying39 hi hz0 hz1 hz2 rfl (by decide) u3 (r.lies.take k) [⟨y0,y1⟩] rfl ((HR.out.below (below_alloc _ _)).below (below_alloc _ _)) (fun _ h=>h.elim) (some ⟨wr.heap.size+1,0,none⟩) 1 1 rfl rfl (Kn.Src.one (lieK_mk _ _ _) (new_cells _ _ _ (by simp))) (by simp only [maxLen,List.length_take];omega) (by simp only [List.length_take];omega) ?_;intro v' w1 HR1 hg1 hat1)
   have HR2:Hid (lieK.Rw 52 w1 nobody v' (r.lies.take (k+1))):=Lib.hid (by rw [take_push E.out];exact HR1)
   have HO2:=Lib.hid (own_next HO.out hat1 hbx.size)
   have hb2:=below_push hbx hg1 HO.out hbx.size
   clear HR1 hat1 hg1 HR HO
   go_wp2
   go_roundw
   case rel=>exact ⟨k+1,by omega,by go_num,HR2,HO2,hb2⟩
   case measure=>simp [intOf];omega
  ·obtain rfl:k=r.lies.length:=by omega
   rw [List.take_length] at HR
   obtain ⟨hc,hf0⟩:=bcell hb
   have hs2:w.heap.size < wr.heap.size:=by have:=hb.size;omega
   go_wp2
   clear hbw hc hf0 hs2
   obtain ⟨wa,hwa,hba,HRa⟩:∃wa,wa=wr∧Below W0.heap.size W0 wa∧Hid (lieK.Rw 52 wa nobody u3 r.lies):=⟨_,rfl,hb,HR⟩
   rw [←hwa]
   clear hwa hb HR
   go_loopw [3,26] (fun o i wr=>∃k:Nat,k≤r.flanks.length∧i=.int .i64 k∧Hid (lieK.Rw 52 wr nobody o (needsTo r.lies r.flanks k))∧Hid (∀b,o.ownBlock=some b→W0.heap.size≤b)∧Below W0.heap.size W0 wr) (fun _ i _=>r.flanks.length - (intOf i).toNat)
   case atStart=>exact ⟨0,Nat.zero_le _,rfl,HRa,HO,hba⟩
   case round =>
    clear HRa HO hba hk hlt
    obtain ⟨k,hk,rfl,HR,HO,hb⟩:=hrel
    have hbw:=hB0.trans (hb.mono hB0.size)
    obtain ⟨wo,rfl⟩:∃wo:World,wo=wr:=⟨_,rfl⟩
    by_cases hlt:k < r.flanks.length
    ·obtain ⟨a7,rfl,y0,y1,y2,y3,E,g0,g1,g2,g3⟩:=flankK_at (Kn.C_below hbw h7) k hlt
     have j0:(0:Int)≤(k:Int):=Int.natCast_nonneg _
     have j1:(k:Int) < (r.flanks.length:Int):=by omega
     by_cases q:y1=3
     rotate_left
     ·have d0:(y1 != 3)=true:=int_ne q
      have HN:=needsTo_skip (ls:=r.lies) E.out q
      have HR2:Hid (lieK.Rw 52 (wo.alloc (.cells #[.int .i64 y0,.int .i64 y1,.int .i64 y2,.int .i64 y3] 50)) nobody u3 (needsTo r.lies r.flanks (k+1))):=Lib.hid (by rw [HN];exact HR.out.below (below_alloc _ _))
      clear HN HR q
      go_wp2
      go_roundw
      case rel=>exact ⟨k+1,by omega,by go_num,HR2,HO,hb.alloc hb.size _⟩
      case measure=>simp [intOf];omega
     have d0:(y1 != 3)=false:=by rw [q];rfl
     have Q:=Lib.hid q
     clear q
     obtain ⟨ns,HNS⟩:∃ns,Hid (needsTo r.lies r.flanks k=ns):=⟨_,Lib.hid rfl⟩
     have hnl:=needsTo_len r.lies r.flanks k
     rw [HNS.out] at HR hnl
     obtain ⟨An,cn,rfl,hcn,HC⟩:=HR.out.C
     have HC:=Lib.hid HC
     go_wp2
     obtain ⟨W1,hW1,hB1,hs1,f1,f2,f3⟩:∃W1,W1=wo.alloc (.cells #[.int .i64 y0,.int .i64 y1,.int .i64 y2,.int .i64 y3] 50)∧Below wo.heap.size wo W1∧wo.heap.size < W1.heap.size ∧
      W1.cell? ⟨wo.heap.size,1,none⟩=some (.int .i64 y1)∧W1.cell? ⟨wo.heap.size,2,none⟩=some (.int .i64 y2)∧W1.cell? ⟨wo.heap.size,3,none⟩=some (.int .i64 y3):=⟨_,rfl,below_alloc _ _,by simp,by simp,by simp,by simp⟩
     rw [←hW1]
     clear hW1
     have hb1:=hb.trans (hB1.mono hb.size)
     go_loopw [8,35] (fun o i wr=>∃m:Nat,m≤ns.length∧i=.int .i64 m∧o=.bool (pv (inTo ns m ⟨y2,y3⟩))∧Below W1.heap.size W1 wr) (fun _ i _=>ns.length - (intOf i).toNat)
     case atStart=>exact ⟨0,Nat.zero_le _,rfl,by rw [pv_false inTo_zero],Below.refl _ _⟩
     case round =>
      obtain ⟨m,hm,rfl,rfl,hbi⟩:=hrel
      obtain ⟨hci,hfi⟩:=bcell hbi
      have hs3:wo.heap.size < wr.heap.size:=by have:=hbi.size;omega
      have hbj:=hb1.trans (hbi.mono hb1.size)
      by_cases hlm:m < ns.length
      ·obtain ⟨an,rfl,z0,z1,E1,k0,k1⟩:=lieK_at (Kn.C_below (hB1.trans (hbi.mono hB1.size)) HC.out) m hlm
       have m0:(0:Int)≤(m:Int):=Int.natCast_nonneg _
       have m1:(m:Int) < (ns.length:Int):=by omega
       by_cases qm:inTo ns m ⟨y2,y3⟩
       ·have D:pv (inTo ns m ⟨y2,y3⟩)=true:=pv_true qm
        have HN:Hid (pv (inTo ns (m+1) ⟨y2,y3⟩)=true):=Lib.hid (pv_true (by obtain ⟨j,hj,h⟩:=qm;exact ⟨j,by omega,h⟩))
        clear qm
        go_wp2
        go_roundw
        case rel=>exact ⟨m+1,by omega,by go_num,by rw [HN.out],hbi.alloc hbi.size _⟩
        case measure=>simp [intOf];omega
       have D:pv (inTo ns m ⟨y2,y3⟩)=false:=pv_false qm
       by_cases e0:z0=y2
       rotate_left
       ·have d1:=int_eqf e0
        have HN:Hid (pv (inTo ns (m+1) ⟨y2,y3⟩)=false):=Lib.hid (pv_false (inTo_snoc qm E1.out (fun h=>e0 (by injection h))))
        clear qm e0
        go_wp2
        go_roundw
        case rel=>exact ⟨m+1,by omega,by go_num,by rw [HN.out],hbi.alloc hbi.size _⟩
        case measure=>simp [intOf];omega
       have d1:=int_eqt e0
       by_cases e1:z1=y3
       rotate_left
       ·have d2:=int_eqf e1
        have HN:Hid (pv (inTo ns (m+1) ⟨y2,y3⟩)=false):=Lib.hid (pv_false (inTo_snoc qm E1.out (fun h=>e1 (by injection h))))
        clear qm e0 e1
        go_wp2
        go_roundw
        case rel=>exact ⟨m+1,by omega,by go_num,by rw [HN.out],hbi.alloc hbi.size _⟩
        case measure=>simp [intOf];omega
       have d2:=int_eqt e1
       have HN:Hid (pv (inTo ns (m+1) ⟨y2,y3⟩)=true):=Lib.hid (pv_true ⟨m,by omega,by rw [E1.out,e0,e1]⟩)
       clear qm e0 e1
       go_wp2
       go_roundw
       case rel=>exact ⟨m+1,by omega,by go_num,by rw [HN.out],hbi.alloc hbi.size _⟩
       case measure=>simp [intOf];omega
      ·obtain rfl:m=ns.length:=by omega
       by_cases qm:inTo ns ns.length ⟨y2,y3⟩
       ·have D:pv (inTo ns ns.length ⟨y2,y3⟩)=true:=pv_true qm
        have HN:Hid (needsTo r.lies r.flanks (k+1)=ns):=Lib.hid (by rw [needsTo_had E.out (by rw [HNS.out];obtain ⟨j,_,h⟩:=qm;exact mem_of_get h),HNS.out])
        have HR2:=Lib.hid ((HR.out.below (hB1.trans (hbi.mono hB1.size))))
        clear qm HR
        go_wp2
        go_roundw
        case rel=>exact ⟨k+1,by omega,by go_num,by rw [HN.out];exact HR2,HO,hbj⟩
        case measure=>simp [intOf];omega
       ·have D:pv (inTo ns ns.length ⟨y2,y3⟩)=false:=pv_false qm
        have HN:Hid (needsTo r.lies r.flanks (k+1)=ns++[⟨y2,y3⟩]):=Lib.hid (by rw [needsTo_new E.out Q.out (by rw [HNS.out];exact inTo_all qm),HNS.out])
        have HR2:=Lib.hid ((HR.out.below (hB1.trans (hbi.mono hB1.size))))
        have hbx:=hbj.alloc hbj.size (Obj.cells #[.int .i64 y2,.int .i64 y3] 52)
        clear qm HR
        go_wp2_with (at_builtin;refine wpList_append_rw _ rfl (.tmp 57) (.tmp 63) 39 rfl 52 i0 _ 16 Try.underlying39 hi hz0 hz1 hz2 rfl (by decide) (.slice An ns.length cn) ns [⟨y2,y3⟩] rfl (HR2.out.below (below_alloc _ _)) (fun _ h=>h.elim) (some ⟨wr.heap.size,0,none⟩) 1 1 rfl rfl (Kn.Src.one (lieK_mk _ _ _) (new_cells _ _ _ rfl)) (by simp only [maxLen];omega) (by omega) ?_;intro v' w1 HR3 hg1 hat1)
        have HR4:=Lib.hid HR3
        have HO2:=Lib.hid (own_next HO.out hat1 hbx.size)
        have hb2:=below_push hbx hg1 HO.out hbx.size
        clear HR3 hat1 hg1 HR2 HO
        go_wp2
        go_roundw
        case rel=>exact ⟨k+1,by omega,by go_num,by rw [HN.out];exact HR4,HO2,hb2⟩
        case measure=>simp [intOf];omega
    ·obtain rfl:k=r.flanks.length:=by omega
     go_wp2
     go_ret
     exact ⟨_,rfl,HR.out,fun b h=>by have:=HO.out b h;omega,hbw⟩
end Go.Proofs.Ytjccgneimknbpaa.L
namespace Go.Proofs.Ytjccgneimknbpaa.L
open Go.RowKit
def RetIdx {α:Type} (xs:List α) (x:α) (w:World) (e:Ending) (w':World):Prop:=∃j:Int,e=.returned (.int .i64 j)∧((x∈xs∧0≤j)∨(¬x∈xs∧j < 0))∧Below w.heap.size w w'
set_option maxHeartbeats 2000000 in
theorem indexLie {ok:Nat→Prop} (A:Option Addr) (c:Nat) (xs:List Lie) (x:Lie) (w:World) (hx:lieK.C w ok A xs) :
  Calls Try.prog 82 #[.slice A xs.length c,x.v] w (RetIdx xs x w):=by
 have hm:=hx.1
 obtain ⟨x0,x1⟩:=x
 go_enter Try.func82,Try.ntmps82
 go_wp2
 obtain ⟨W0,hW0,hB0,hs0,f0,f1⟩:∃W0,W0=w.alloc (.cells #[.int .i64 x0,.int .i64 x1] 52)∧Below w.heap.size w W0∧w.heap.size < W0.heap.size ∧
  W0.cell? ⟨w.heap.size,0,none⟩=some (.int .i64 x0)∧W0.cell? ⟨w.heap.size,1,none⟩=some (.int .i64 x1):=⟨_,rfl,below_alloc _ _,by simp,by simp,by simp⟩
 rw [←hW0]
 clear hW0
 go_loopw [8] (fun i wr=>∃k:Nat,k≤xs.length∧i=.int .i64 k∧Hid (¬inTo xs k ⟨x0,x1⟩)∧Below W0.heap.size W0 wr) (fun i _=>xs.length - (intOf i).toNat)
 case atStart=>exact ⟨0,Nat.zero_le _,rfl,Lib.hid inTo_zero,Below.refl _ _⟩
 case round =>
  obtain ⟨k,hk,rfl,HT,hb⟩:=hrel
  obtain ⟨hc,hf⟩:=bcell hb
  have hs2:w.heap.size < wr.heap.size:=by have:=hb.size;omega
  have hbw:=hB0.trans (hb.mono hB0.size)
  by_cases hlt:k < xs.length
  ·obtain ⟨a0,rfl,y0,y1,E,g0,g1⟩:=lieK_at (Kn.C_below hbw hx) k hlt
   have i0:(0:Int)≤(k:Int):=Int.natCast_nonneg _
   have i1:(k:Int) < (xs.length:Int):=by omega
   have k0:=cell_below hb f0
   have k1:=cell_below hb f1
   by_cases e0:x0=y0
   rotate_left
   ·have d:(x0 == y0)=false:=int_eqf e0
    have HN:=Lib.hid (inTo_snoc HT.out E.out (fun h=>e0 (by injection h with h1 h2;exact h1.symm)))
    clear e0 HT
    go_wp2
    go_quiet (fail)
    go_wp2
    go_roundw
    case rel=>exact ⟨k+1,by omega,by go_num,HN,below_drewN hb _⟩
    case measure=>simp [intOf];omega
   subst e0
   by_cases e1:x1=y1
   rotate_left
   ·have d:(x1 == y1)=false:=int_eqf e1
    have HN:=Lib.hid (inTo_snoc HT.out E.out (fun h=>e1 (by injection h with h1 h2;exact h2.symm)))
    clear e1 HT
    go_wp2
    go_quiet (fail)
    go_wp2
    go_roundw
    case rel=>exact ⟨k+1,by omega,by go_num,HN,below_drewN hb _⟩
    case measure=>simp [intOf];omega
   subst e1
   have HN:=Lib.hid (mem_of_get E.out)
   clear HT
   go_wp2
   go_quiet (fail)
   go_wp2
   go_ret
   exact ⟨_,rfl,.inl ⟨HN.out,i0⟩,below_drewN hbw _⟩
  ·obtain rfl:k=xs.length:=by omega
   have HN:=Lib.hid (inTo_all HT.out)
   go_wp2
   go_ret
   exact ⟨_,rfl,.inr ⟨HN.out,by decide⟩,hbw⟩
set_option maxHeartbeats 1000000 in
theorem containsLie {ok:Nat→Prop} (A:Option Addr) (c:Nat) (xs:List Lie) (x:Lie) (w:World) (hx:lieK.C w ok A xs) :
  Calls Try.prog 46 #[.slice A xs.length c,x.v] w (RetB (pv (x∈xs)) w):=by
 obtain ⟨x0,x1⟩:=x
 go_enter Try.func46,Try.ntmps46
 go_wp2_with fail
 refine (indexLie _ _ xs ⟨x0,x1⟩ _ (Kn.C_below (below_alloc _ _) hx)).mono ?_
 rintro e w1 ⟨j,rfl,h,hb⟩
 have hB:=(below_alloc w (.cells #[.int .i64 x0,.int .i64 x1] 52)).trans (hb.mono (by simp))
 rcases h with ⟨h1,h2⟩ | ⟨h1,h2⟩
 ·have HN:Hid (pv (⟨x0,x1⟩∈xs)=true):=Lib.hid (pv_true h1)
  clear h1
  go_wp2
  go_ret
  exact ⟨by rw [HN.out];rfl,hB⟩
 ·have HN:Hid (pv (⟨x0,x1⟩∈xs)=false):=Lib.hid (pv_false h1)
  clear h1
  have h3:decide (0≤j)=false:=decide_eq_false (by omega)
  go_wp2
  go_ret
  exact ⟨by rw [HN.out];rfl,hB⟩
set_option maxHeartbeats 2000000 in
theorem indexStep {ok:Nat→Prop} (A:Option Addr) (c:Nat) (xs:List Step) (x:Step) (w:World) (hx:stepK.C w ok A xs) :
  Calls Try.prog 108 #[.slice A xs.length c,x.v] w (RetIdx xs x w):=by
 have hm:=hx.1
 obtain ⟨x0,x1⟩:=x
 go_enter Try.func108,Try.ntmps108
 go_wp2
 obtain ⟨W0,hW0,hB0,hs0,f0,f1⟩:∃W0,W0=w.alloc (.cells #[.int .i64 x0,.int .i64 x1] 46)∧Below w.heap.size w W0∧w.heap.size < W0.heap.size ∧
  W0.cell? ⟨w.heap.size,0,none⟩=some (.int .i64 x0)∧W0.cell? ⟨w.heap.size,1,none⟩=some (.int .i64 x1):=⟨_,rfl,below_alloc _ _,by simp,by simp,by simp⟩
 rw [←hW0]
 clear hW0
 go_loopw [8] (fun i wr=>∃k:Nat,k≤xs.length∧i=.int .i64 k∧Hid (¬inTo xs k ⟨x0,x1⟩)∧Below W0.heap.size W0 wr) (fun i _=>xs.length - (intOf i).toNat)
 case atStart=>exact ⟨0,Nat.zero_le _,rfl,Lib.hid inTo_zero,Below.refl _ _⟩
 case round =>
  obtain ⟨k,hk,rfl,HT,hb⟩:=hrel
  obtain ⟨hc,hf⟩:=bcell hb
  have hs2:w.heap.size < wr.heap.size:=by have:=hb.size;omega
  have hbw:=hB0.trans (hb.mono hB0.size)
  by_cases hlt:k < xs.length
  ·obtain ⟨a0,rfl,y0,y1,E,g0,g1⟩:=stepK_at (Kn.C_below hbw hx) k hlt
   have i0:(0:Int)≤(k:Int):=Int.natCast_nonneg _
   have i1:(k:Int) < (xs.length:Int):=by omega
   have k0:=cell_below hb f0
   have k1:=cell_below hb f1
   by_cases e0:x0=y0
   rotate_left
   ·have d:(x0 == y0)=false:=int_eqf e0
    have HN:=Lib.hid (inTo_snoc HT.out E.out (fun h=>e0 (by injection h with h1 h2;exact h1.symm)))
    clear e0 HT
    go_wp2
    go_quiet (fail)
    go_wp2
    go_roundw
    case rel=>exact ⟨k+1,by omega,by go_num,HN,below_drewN hb _⟩
    case measure=>simp [intOf];omega
   subst e0
   by_cases e1:x1=y1
   rotate_left
   ·have d:(x1 == y1)=false:=int_eqf e1
    have HN:=Lib.hid (inTo_snoc HT.out E.out (fun h=>e1 (by injection h with h1 h2;exact h2.symm)))
    clear e1 HT
    go_wp2
    go_quiet (fail)
    go_wp2
    go_roundw
    case rel=>exact ⟨k+1,by omega,by go_num,HN,below_drewN hb _⟩
    case measure=>simp [intOf];omega
   subst e1
   have HN:=Lib.hid (mem_of_get E.out)
   clear HT
   go_wp2
   go_quiet (fail)
   go_wp2
   go_ret
   exact ⟨_,rfl,.inl ⟨HN.out,i0⟩,below_drewN hbw _⟩
  ·obtain rfl:k=xs.length:=by omega
   have HN:=Lib.hid (inTo_all HT.out)
   go_wp2
   go_ret
   exact ⟨_,rfl,.inr ⟨HN.out,by decide⟩,hbw⟩
set_option maxHeartbeats 1000000 in
theorem containsStep {ok:Nat→Prop} (A:Option Addr) (c:Nat) (xs:List Step) (x:Step) (w:World) (hx:stepK.C w ok A xs) :
  Calls Try.prog 95 #[.slice A xs.length c,x.v] w (RetB (pv (x∈xs)) w):=by
 obtain ⟨x0,x1⟩:=x
 go_enter Try.func95,Try.ntmps95
 go_wp2_with fail
 refine (indexStep _ _ xs ⟨x0,x1⟩ _ (Kn.C_below (below_alloc _ _) hx)).mono ?_
 rintro e w1 ⟨j,rfl,h,hb⟩
 have hB:=(below_alloc w (.cells #[.int .i64 x0,.int .i64 x1] 46)).trans (hb.mono (by simp))
 rcases h with ⟨h1,h2⟩ | ⟨h1,h2⟩
 ·have HN:Hid (pv (⟨x0,x1⟩∈xs)=true):=Lib.hid (pv_true h1)
  clear h1
  go_wp2
  go_ret
  exact ⟨by rw [HN.out];rfl,hB⟩
 ·have HN:Hid (pv (⟨x0,x1⟩∈xs)=false):=Lib.hid (pv_false h1)
  clear h1
  have h3:decide (0≤j)=false:=decide_eq_false (by omega)
  go_wp2
  go_ret
  exact ⟨by rw [HN.out];rfl,hB⟩
set_option maxHeartbeats 2000000 in
theorem indexInt {ok:Nat→Prop} (A:Option Addr) (c:Nat) (xs:List Int) (x:Int) (w:World) (hx:Kn.int.C w ok A xs) :
  Calls Try.prog 81 #[.slice A xs.length c,.int .i64 x] w (RetIdx xs x w):=by
 have hm:=hx.1
 obtain ⟨x0,rfl⟩:∃y,y=x:=⟨_,rfl⟩
 go_enter Try.func81,Try.ntmps81
 go_wp2
 obtain ⟨W0,hW0,hB0⟩:∃W0,W0=w∧Below w.heap.size w W0:=⟨_,rfl,Below.refl _ _⟩
 rw [←hW0]
 clear hW0
 go_loopw [8] (fun i wr=>∃k:Nat,k≤xs.length∧i=.int .i64 k∧Hid (¬inTo xs k x0)∧Below W0.heap.size W0 wr) (fun i _=>xs.length - (intOf i).toNat)
 case atStart=>exact ⟨0,Nat.zero_le _,rfl,Lib.hid inTo_zero,Below.refl _ _⟩
 case round =>
  obtain ⟨k,hk,rfl,HT,hb⟩:=hrel
  obtain ⟨hc,hf⟩:=bcell hb
  have hbw:=hB0.trans (hb.mono hB0.size)
  by_cases hlt:k < xs.length
  ·obtain ⟨a0,rfl,y0,E,g0⟩:=int_at (Kn.C_below hbw hx) k hlt
   have i0:(0:Int)≤(k:Int):=Int.natCast_nonneg _
   have i1:(k:Int) < (xs.length:Int):=by omega
   by_cases e0:x0=y0
   rotate_left
   ·have d:(x0 == y0)=false:=int_eqf e0
    have HN:=Lib.hid (inTo_snoc HT.out E.out (fun h=>e0 (by exact h.symm)))
    clear e0 HT
    go_wp2
    go_roundw
    case rel=>exact ⟨k+1,by omega,by go_num,HN,hb⟩
    case measure=>simp [intOf];omega
   subst e0
   have HN:=Lib.hid (mem_of_get E.out)
   clear HT
   go_wp2
   go_ret
   exact ⟨_,rfl,.inl ⟨HN.out,i0⟩,by first | exact hb | exact hbw⟩
  ·obtain rfl:k=xs.length:=by omega
   have HN:=Lib.hid (inTo_all HT.out)
   go_wp2
   go_ret
   exact ⟨_,rfl,.inr ⟨HN.out,by decide⟩,by first | exact hb | exact hbw⟩
set_option maxHeartbeats 1000000 in
theorem containsInt {ok:Nat→Prop} (A:Option Addr) (c:Nat) (xs:List Int) (x:Int) (w:World) (hx:Kn.int.C w ok A xs) :
  Calls Try.prog 43 #[.slice A xs.length c,.int .i64 x] w (RetB (pv (x∈xs)) w):=by
 obtain ⟨x0,rfl⟩:∃y,y=x:=⟨_,rfl⟩
 go_enter Try.func43,Try.ntmps43
 go_wp2_with fail
 refine (indexInt _ _ xs x0 _ hx).mono ?_
 rintro e w1 ⟨j,rfl,h,hb⟩
 have hB:=hb
 rcases h with ⟨h1,h2⟩ | ⟨h1,h2⟩
 ·have HN:Hid (pv (x0∈xs)=true):=Lib.hid (pv_true h1)
  clear h1
  go_wp2
  go_ret
  exact ⟨by rw [HN.out];rfl,hB⟩
 ·have HN:Hid (pv (x0∈xs)=false):=Lib.hid (pv_false h1)
  clear h1
  have h3:decide (0≤j)=false:=decide_eq_false (by omega)
  go_wp2
  go_ret
  exact ⟨by rw [HN.out];rfl,hB⟩
end Go.Proofs.Ytjccgneimknbpaa.L
namespace Go.Proofs.Ytjccgneimknbpaa.L
open Go.RowKit
def Box {α:Type} (d:Kn α) (e tS:Nat) (w:World) (g:Nat) (xs:List α) (v:Value):Prop:=w.heap[g]?=some (.cells #[v] tS (0,0))∧d.Rw e w nobody v xs∧∀b,v.ownBlock=some b→g < b
def RetBox {α:Type} (d:Kn α) (e tS:Nat) (B g:Nat) (xs:List α) (w:World) (en:Ending) (w':World):Prop:=∃v,en=.returned (.tuple #[])∧Box d e tS w' g xs v∧Below B w w'
set_option maxRecDepth 100000 in
set_option maxHeartbeats 4000000 in
theorem put (g:Nat) (xs:List Lie) (x:Lie) (v:Value) (w:World) (hb:Box lieK 52 39 w g xs v) (hl:xs.length≤4194304) :
  Calls Try.prog 45 #[x.v,.pointer (some ⟨g,0,none⟩)] w (RetBox lieK 52 39 g g (if pv (x∈xs)=true then xs else xs++[x]) w):=by
 obtain ⟨i0,hi,hz0,hz1,hz2⟩:=info_parts info52
 obtain ⟨x0,x1⟩:=x
 obtain ⟨hv,HR,HO⟩:=hb
 obtain ⟨A,c,rfl,hc,HC⟩:=HR.C
 have f0:=cell_of_one hv
 have f1:=free_of_one hv
 have hg:=lt_of_get hv
 have HR:=Lib.hid HR
 have HO:=Lib.hid HO
 have HV:=Lib.hid hv
 clear hv
 by_cases q:(⟨x0,x1⟩:Lie)∈xs
 ·have E:Hid (pv ((⟨x0,x1⟩:Lie)∈xs)=true):=Lib.hid (pv_true q)
  rw [if_pos E.out]
  clear q
  go_enter Try.func45,Try.ntmps45
  go_wp2_with fail
  refine (containsLie _ _ xs ⟨x0,x1⟩ _ (Kn.C_below (below_alloc _ _) HC)).mono ?_
  rintro e w1 ⟨rfl,hb1⟩
  rw [E.out]
  have hbw:=(below_alloc _ _).trans (hb1.mono (by simp))
  go_wp2
  go_end0
  exact ⟨_,rfl,⟨(hbw.block _ hg).trans HV.out,HR.out.below hbw,HO.out⟩,hbw.mono (by omega)⟩
 ·have E:Hid (pv ((⟨x0,x1⟩:Lie)∈xs)=false):=Lib.hid (pv_false q)
  rw [if_neg (by rw [E.out];simp)]
  clear q
  go_enter Try.func45,Try.ntmps45
  go_wp2_with fail
  refine (containsLie _ _ xs ⟨x0,x1⟩ _ (Kn.C_below (below_alloc _ _) HC)).mono ?_
  rintro e w1 ⟨rfl,hb1⟩
  rw [E.out]
  have hbw:=(below_alloc _ _).trans (hb1.mono (by simp))
  have HV1:Hid (w1.heap[g]?=some (.cells #[.slice A xs.length c] 39 (0,0))):=Lib.hid ((hbw.block _ hg).trans HV.out)
  have k0:=cell_of_one HV1.out
  have hs1:w.heap.size < w1.heap.size:=by have:=hb1.size;simp at this;omega
  have kx0:w1.cell? ⟨w.heap.size,0,none⟩=some (.int .i64 x0):=cell_below hb1 (by simp)
  have kx1:w1.cell? ⟨w.heap.size,1,none⟩=some (.int .i64 x1):=cell_below hb1 (by simp)
  go_wp2_with (at_builtin;refine wpList_append_rw _ rfl (.tmp 7) (.tmp 9) 39 rfl 52 i0 _ 16 Try.underlying39 hi hz0 hz1 hz2 rfl (by decide) (.slice A xs.length c) xs [⟨x0,x1⟩] rfl ((HR.out.below hbw).below (below_alloc _ _)) (fun _ h=>h.elim) (some ⟨w1.heap.size,0,none⟩) 1 1 rfl rfl (Kn.Src.one (lieK_mk _ _ _) (new_cells _ _ _ rfl)) (by simp only [maxLen];omega) (by omega) ?_;intro v' w2 HR2 hg2 hat2;obtain ⟨A2,c2,rfl,hc2⟩:=HR2.form1;have HV2:=Lib.hid ((hg2.block g (by simp;omega) (fun e=>by have:=HO.out g e.symm;omega)).trans ((below_alloc _ _).block g (by omega) |>.trans HV1.out));have k2:=cell_of_one HV2.out;have k3:=free_of_one HV2.out)
  go_end0
  have hs2:=hg2.size
  simp at hs2
  refine ⟨_,rfl,⟨one_setCell HV2.out,?_,?_⟩,?_⟩
  ·refine Kn.Rw.move (fun k hk=>Below.heap_setCell _ _ _ _ ?_) (fun _ h=>h.elim) HR2
   have:=own_next (B:=g+1) (fun b h=>HO.out b h) hat2 (by simp;omega) k hk
   show k≠g
   omega
  ·exact fun b h=>own_next (B:=g+1) (fun b h=>HO.out b h) hat2 (by simp;omega) b h
  ·exact ((below_push ((hbw.mono (by omega:g≤w.heap.size)).alloc (by omega) _) hg2 (fun b h=>by have:=HO.out b h;omega) (by simp;omega))).setCell (Nat.le_refl _) _
theorem heap_get_at (W:World) (o:Obj) {g:Nat} (hg:g=W.heap.size):(W.alloc o).heap[g]?=some o:=by rw [hg];exact heap_alloc_new W o
theorem lieK_flat:∀(w:World) (ok ok':Nat→Prop) (x:Lie) (cs:List Value),lieK.K w ok x cs→lieK.K w ok' x cs:=fun _ _ _ _ _ h=>h
set_option maxRecDepth 100000 in
set_option maxHeartbeats 8000000 in
theorem implNeeds {ok:Nat→Prop} (r:Route) (v0 v1 v2 v4 v5 v6:Value) (A3 A7:Option Addr) (c3 c7:Nat) (w:World) (h3:lieK.C w ok A3 r.lies) (h7:flankK.C w ok A7 r.flanks) (hl:r.lies.length≤1048576) (hf:r.flanks.length≤1048576) :
  Calls Try.prog 21 #[.agg #[v0,v1,v2,.slice A3 r.lies.length c3,v4,v5,v6,.slice A7 r.flanks.length c7]] w (RetW 52 lieK nobody (needs r) w):=by
 obtain ⟨i0,hi,hz0,hz1,hz2⟩:=info_parts info52
 have H3:Hid (lieK.C ((w.alloc (.cells #[v0,v1,v2,.slice A3 r.lies.length c3,v4,v5,v6,.slice A7 r.flanks.length c7] 44)).alloc (.cells #[.slice none 0 0] 39)) ok A3 r.lies):=Lib.hid (Kn.C_below ((below_alloc _ _).alloc (by simp) _) h3)
 go_enter Try.func21,Try.ntmps21
 go_wp2_with (at_builtin;refine wpList_append_rw _ rfl (.tmp 8) (.tmp 10) 39 rfl 52 i0 _ 16 Try.underlying39 hi hz0 hz1 hz2 rfl (by decide) (.slice none 0 0) [] r.lies rfl (Kn.Rw.nil (d:=lieK) (ok:=nobody)) (fun _ h=>h.elim) A3 r.lies.length c3 rfl rfl (Kn.Src.flat lieK_flat H3.out) (by simp only [maxLen,List.length_nil];omega) (by simp only [List.length_nil];omega) ?_;intro v' w2 HR2 hg2 hat2;rw [List.nil_append] at HR2;obtain ⟨A2,c2,rfl,hc2,_⟩:=HR2.form;have HV:=Lib.hid ((hg2.block (w.heap.size+1) (by simp) (by simp [Value.ownBlock])).trans (heap_get_at _ _ (by simp)));have k0:=cell_of_one HV.out;have k1:=free_of_one HV.out;have k7:w2.cell? ⟨w.heap.size,7,none⟩=some (.slice A7 r.flanks.length c7):=(World.cell?_of_block (hg2.block w.heap.size (by simp;omega) (by simp [Value.ownBlock]))).trans (by simp))
 have hs2:=hg2.size
 simp at hs2
 have ho2:∀b,(Value.slice A2 r.lies.length c2).ownBlock=some b→w.heap.size+1 < b:=own_next (B:=w.heap.size+2) (by simp [Value.ownBlock]) hat2 (by simp)
 have hbx:Box lieK 52 39 (w2.setCell ⟨w.heap.size+1,0,none⟩ (.slice A2 r.lies.length c2)) (w.heap.size+1) r.lies (.slice A2 r.lies.length c2):=by
  refine ⟨one_setCell HV.out,Kn.Rw.move (fun k hk=>Below.heap_setCell _ _ _ _ ?_) (fun _ h=>h.elim) HR2,ho2⟩
  have:=ho2 k hk
  show k≠w.heap.size+1
  omega
 have hbw:Below (w.heap.size+1) (w.alloc (.cells #[v0,v1,v2,.slice A3 r.lies.length c3,v4,v5,v6,.slice A7 r.flanks.length c7] 44)) (w2.setCell ⟨w.heap.size+1,0,none⟩ (.slice A2 r.lies.length c2)):=by
  have z0:Below (w.heap.size+1) (w.alloc (.cells #[v0,v1,v2,.slice A3 r.lies.length c3,v4,v5,v6,.slice A7 r.flanks.length c7] 44)) ((w.alloc (.cells #[v0,v1,v2,.slice A3 r.lies.length c3,v4,v5,v6,.slice A7 r.flanks.length c7] 44)).alloc (.cells #[.slice none 0 0] 39)):=(Below.refl _ _).alloc (by simp) _
  have z1:=z0.grown hg2 (by simp) (fun k hk=>by simp [Value.ownBlock] at hk)
  exact z1.setCell (Nat.le_refl _) _
 obtain ⟨W0,hW0,hB0,hs0,f7⟩:∃W0,W0=w.alloc (.cells #[v0,v1,v2,.slice A3 r.lies.length c3,v4,v5,v6,.slice A7 r.flanks.length c7] 44)∧Below w.heap.size w W0∧W0.heap.size=w.heap.size+1 ∧
  W0.cell? ⟨w.heap.size,7,none⟩=some (.slice A7 r.flanks.length c7):=⟨_,rfl,below_alloc _ _,by simp,by simp⟩
 rw [←hW0] at hbw
 have HS0:=Lib.hid hs0
 have hs1:w.heap.size < W0.heap.size:=by omega
 clear hW0 H3 HV k0 k1 k7 HR2 hg2 hat2 ho2 hs2 hs0
 generalize w2.setCell ⟨w.heap.size+1,0,none⟩ (.slice A2 r.lies.length c2)=W1 at hbx hbw ⊢
 go_loopw [15] (fun i wr=>∃k v,k≤r.flanks.length∧i=.int .i64 (k:Nat)∧Box lieK 52 39 wr (w.heap.size+1) (needsTo r.lies r.flanks k) v∧Below (w.heap.size+1) W0 wr) (fun i _=>r.flanks.length - (intOf i).toNat)
 case atStart=>exact ⟨0,_,Nat.zero_le _,rfl,hbx,hbw⟩
 case round =>
  clear hbx hbw
  obtain ⟨k,v,hk,rfl,hbx,hb⟩:=hrel
  have hsr:w.heap.size+1 < wr.heap.size:=lt_of_get hbx.1
  have hbw:=hB0.trans (hb.mono (by omega:w.heap.size≤w.heap.size+1))
  have hnl:=needsTo_len r.lies r.flanks k
  by_cases hlt:k < r.flanks.length
  ·obtain ⟨a7,rfl,y0,y1,y2,y3,E,g0,g1,g2,g3⟩:=flankK_at (Kn.C_below hbw h7) k hlt
   have j0:(0:Int)≤(k:Int):=Int.natCast_nonneg _
   have j1:(k:Int) < (r.flanks.length:Int):=by omega
   have hbx2:Box lieK 52 39 (wr.alloc (.cells #[.int .i64 y0,.int .i64 y1,.int .i64 y2,.int .i64 y3] 50)) (w.heap.size+1) (needsTo r.lies r.flanks k) v :=
    ⟨((below_alloc _ _).block _ (by omega)).trans hbx.1,hbx.2.1.below (below_alloc _ _),hbx.2.2⟩
   have HBX:=Lib.hid hbx2
   clear hbx hbx2
   by_cases q:y1=3
   ·have d0:(y1 == 3)=true:=int_eqt q
    have HN:=Lib.hid (needsTo_put (ls:=r.lies) E.out q)
    clear q
    go_wp2_with fail
    refine (put (w.heap.size+1) (needsTo r.lies r.flanks k) ⟨y2,y3⟩ v _ HBX.out (by omega)).mono ?_
    rintro e w1 ⟨v',rfl,hbx1,hb1⟩
    have HB1:=Lib.hid hbx1
    clear hbx1
    go_wp2
    go_roundw
    case rel=>exact ⟨k+1,v',by omega,by go_num,by rw [HN.out];exact HB1.out,(hb.alloc (by omega) _).trans hb1⟩
    case measure=>simp [intOf];omega
   ·have d0:(y1 == 3)=false:=int_eqf q
    have HN:=Lib.hid (needsTo_skip (ls:=r.lies) E.out q)
    clear q
    go_wp2
    go_roundw
    case rel=>exact ⟨k+1,v,by omega,by go_num,by rw [HN.out];exact HBX.out,hb.alloc (by omega) _⟩
    case measure=>simp [intOf];omega
  ·obtain rfl:k=r.flanks.length:=by omega
   have k0:=cell_of_one hbx.1
   have HBX:=Lib.hid hbx
   clear hbx
   go_wp2
   go_ret
   exact ⟨v,rfl,HBX.out.2.1,fun b h=>by have:=HBX.out.2.2 b h;omega,hbw⟩
end Go.Proofs.Ytjccgneimknbpaa.L
namespace Go.Proofs.Ytjccgneimknbpaa.L
open Go.RowKit
abbrev finder (n:Net) (A0 A1:Option Addr) (c0 c1:Nat) (sv:Value) (ov:Int) (vout:Value) (tr:Int) (vseen:Value):List Value:=[.slice A0 n.pieces.length c0,.slice A1 n.joints.length c1,sv,.int .i64 ov,vout,.int .i64 tr,vseen]
theorem beyond_spl {n:Net} {m:Nat} {p way far left:Int} {acc goal:List Part} {x:Joint} {j k:Nat} (h:acc++beyond n m p way far left=goal) (hm:left.toNat < m) (hl:¬left≤0) (ha:atJ n (headE p way)=(j,k)) (hx:jt n j=x) (hs:x.kind=2) :
  ∃m',m=m'+1∧acc++[partN n p way far (tilOf n p far left)]++beyond n m' (en x (1 - k)).piece (wayOf (en x (1 - k))) 0 (left - (tilOf n p far left - far))=goal:=by
 obtain ⟨m',rfl⟩:∃m',m=m'+1:=⟨m - 1,by omega⟩
 rw [beyond_plain hl ha hx hs] at h
 exact ⟨m',rfl,by rw [←h];simp⟩
theorem beyond_end {n:Net} {m:Nat} {p way far left:Int} {acc goal:List Part} {x:Joint} {j k:Nat} (h:acc++beyond n m p way far left=goal) (hm:left.toNat < m) (hl:¬left≤0) (ha:atJ n (headE p way)=(j,k)) (hx:jt n j=x) (hs:left - (tilOf n p far left - far)=0∨¬x.kind=2) :
  acc++[partN n p way far (tilOf n p far left)]=goal:=by
 obtain ⟨m',rfl⟩:∃m',m=m'+1:=⟨m - 1,by omega⟩
 rw [beyond_last hl ha hx hs] at h
 exact h
set_option maxRecDepth 100000 in
set_option maxHeartbeats 8000000 in
theorem specBeyond {ok:Nat→Prop} (n:Net) (A0 A1:Option Addr) (c0 c1:Nat) (sv vout vseen:Value) (ov tr:Int) (g u:Nat) (way far:Int) (w:World) (hf:Blk w g 84 (finder n A0 A1 c0 c1 sv ov vout tr vseen)) (h:NC 102 w ok n A0 A1) (hg:Hid (Good n)) (hu:u < n.pieces.length) (hway:Hid (way=1∨way=-1)) (h0:Hid (0≤far∧far < pl n u)) (ho0:0≤ov) (ho1:ov≤100000) :
  Calls Try.prog 65 #[.pointer (some ⟨g,0,none⟩),.int .i64 u,.int .i64 way,.int .i64 far] w (RetW 48 partK nobody (beyond n (ov.toNat+1) u way far ov) w):=by
 obtain ⟨i0,hi,hz0,hz1,hz2⟩:=info_parts info48
 have hgl:=hf.lt
 have k0:=hf.cell 0 rfl
 have k1:=hf.cell 1 rfl
 have k3:=hf.cell 3 rfl
 have hmp:=h.p.1
 have hmj:=h.j.1
 obtain ⟨goal,HG⟩:∃goal,Hid (beyond n (ov.toNat+1) u way far ov=goal):=⟨_,Lib.hid rfl⟩
 rw [HG.out]
 go_enter Try.func65,Try.ntmps65
 go_wp2
 go_loopw [1,2,3,9,10] (fun pv wv fv o lv wr=>∃(m u:Nat) (way far left:Int) (acc:List Part),pv=.int .i64 u∧wv=.int .i64 way∧fv=.int .i64 far∧lv=.int .i64 left∧u < n.pieces.length∧0≤far∧left≤100000∧Hid (way=1∨way=-1)∧Hid (far < pl n u)∧Hid (acc++beyond n m u way far left=goal)∧Hid (left.toNat < m)∧Hid (partK.Rw 48 wr nobody o acc)∧Hid (∀b,o.ownBlock=some b→w.heap.size≤b)∧Hid (0≤left∧acc.length+left≤ov)∧Below w.heap.size w wr) (fun _ _ _ _ lv _=>(intOf lv).toNat)
 case atStart=>exact ⟨ov.toNat+1,u,way,far,ov,[],rfl,rfl,rfl,rfl,hu,h0.out.1,ho1,hway,Lib.hid h0.out.2,Lib.hid HG.out,Lib.hid (by omega),Lib.hid Kn.Rw.nil,Lib.hid (by simp [Value.ownBlock]),Lib.hid ⟨ho0,by simp⟩,Below.refl _ _⟩
 case round =>
  clear h0 hway
  obtain ⟨m,u,way,far,left,acc,rfl,rfl,rfl,rfl,hu,hf0,hl1,HW,HF,HB,HM,HR,HO,HL,hb⟩:=hrel
  obtain ⟨Ao,co,rfl,hco,_⟩:=HR.out.form
  by_cases hl:left≤0
  ·have HE:Hid (acc=goal):=Lib.hid (by have:=HB.out;rw [beyond_none hl,List.append_nil] at this;exact this)
   go_wp2
   go_ret
   exact ⟨_,rfl,by rw [←HE.out];exact HR.out,HO.out,hb⟩
  have hl0:0 < left:=by omega
  clear hl
  obtain ⟨ad,rfl,z0,z1,z2,z3,E,g0,g1,g2,g3⟩:=pieceK_at (Kn.C_below hb h.p) u hu
  have j0:(0:Int)≤(u:Int):=Int.natCast_nonneg _
  have j1:(u:Int) < (n.pieces.length:Int):=by omega
  have HP:Hid (pl n u=z1):=Lib.hid (pl_get E.out)
  obtain ⟨x1,x2⟩:1≤z1∧z1≤10000000:=by have:=hg.out.piece _ (mem_of_get E.out);exact ⟨this.2.1,this.2.2.1⟩
  have x3:far < z1:=by have:=HF.out;rw [HP.out] at this;exact this
  have q0:=(hf.below hb hgl).cell 0 rfl
  have q1:=(hf.below hb hgl).cell 1 rfl
  have hgs:g < wr.heap.size:=by have:=hb.size;omega
  have HEP:Hid (stepP n.pieces.length ⟨u,way⟩):=Lib.hid ⟨⟨by show (0:Int)≤u;omega,by show (u:Int)≤_;omega⟩,HW.out⟩
  obtain ⟨e0,HE⟩:∃e0,Hid (headE u way=e0):=⟨_,Lib.hid rfl⟩
  have HEO:Hid (endP n.pieces.length e0):=Lib.hid (by rw [←HE.out];exact head_ok HEP.out)
  obtain ⟨j,k,x,hat,hjk,hx,hP,hjl,hkl⟩:=at_get hg.out HEO.out
  have HA:=Lib.hid hjk
  have HX:=Lib.hid hx
  have HAT:=Lib.hid hat
  have HAH:Hid (atJ n (headE u way)=(j,k)):=Lib.hid (by rw [HE.out];exact hjk)
  have HJP:=Lib.hid hP
  clear hjk hx hat hP
  have hlen:=HL.out
  have a63:acc.length+1≤maxLen:=by simp only [maxLen];omega
  have aby:(acc.length+1)*24≤140737488355328:=by omega
  have m0:(0:Int)≤(j:Int):=Int.natCast_nonneg _
  have m1:(j:Int) < (n.joints.length:Int):=by omega
  by_cases hq:z1 < far+left
  ·have d0:decide (z1 < far+left)=true:=decide_eq_true hq
   have d1:decide (far < z1)=true:=decide_eq_true (by omega)
   have HT:Hid (tilOf n u far left=z1):=Lib.hid (by unfold tilOf;rw [HP.out,if_neg (by omega)])
   obtain ⟨P,HPt⟩:∃P,Hid (partN n u way far (z1)=P):=⟨_,Lib.hid rfl⟩
   go_wp2_with fail
   refine (specPart n _ (some ad) c0 u way far (z1) _ (Kn.C_below hb h.p) hg hu HW.out (by omega) (by omega)).mono ?_
   rintro e w1 ⟨rfl,hb1⟩
   rw [HPt.out]
   have hbx:=hb.trans (hb1.mono hb.size)
   have HR1:=Lib.hid ((HR.out.below hb1).below (below_alloc w1 (.cells #[.int .i64 P.piece,.int .i64 P.frm,.int .i64 P.til] 48)))
   clear g0 g1 g2 g3 HR
   go_wp2_with (at_builtin;refine wpList_append_rw _ rfl (.tmp 47) (.tmp 57) 41 rfl 48 i0 _ 24 Try.underlying41 hi hz0 hz1 hz2 rfl (by decide) (.slice Ao acc.length co) acc [P] rfl HR1.out (fun _ h=>h.elim) (some ⟨w1.heap.size,0,none⟩) 1 1 rfl rfl (Kn.Src.one (partK_mk _ _ P) (new_cells _ _ _ rfl)) a63 aby ?_;intro v' w2 HR2 hg2 hat2;obtain ⟨A2,c2,rfl,hc2⟩:=HR2.form1)
   have hbA:=below_push (hbx.alloc hbx.size _) hg2 HO.out (by have:=hbx.size;simp;omega)
   have HO2:=Lib.hid (own_next HO.out hat2 (by have:=hbx.size;simp;omega))
   have HR2:=Lib.hid HR2
   have s0:=(hf.below hbA hgl).cell 0 rfl
   have s1:=(hf.below hbA hgl).cell 1 rfl
   have hgs2:g < w2.heap.size:=by have:=hbA.size;omega
   clear hg2 hat2 hbx HR1 hb1 q0 q1 HO hb hgs
   go_region_held3 (fun w'=>Below w2.heap.size w2 w'∧w'.cell? ⟨g,0,none⟩=some (.slice (some ad) n.pieces.length c0)∧w'.cell? ⟨g,1,none⟩=some (.slice A1 n.joints.length c1))
    (first | exact ⟨(Below.refl _ _).drew,s0,s1⟩ | exact ⟨hbS.trans (hbc.mono hbS.size),cell_below (hbS.trans (hbc.mono hbS.size)) s0,cell_below (hbS.trans (hbc.mono hbS.size)) s1⟩)
    (first | (go_at_call 51;obtain ⟨hbS,_⟩:=‹Below w2.heap.size w2 _∧_›;(with_reducible refine (specHead _ _ _).mono ?_);rintro e wz ⟨rfl,hbc⟩;rw [HE.out]) | (go_at_call 50;obtain ⟨hbS,_⟩:=‹Below w2.heap.size w2 _∧_›;(with_reducible refine (specAt n (some ad) A1 c0 c1 e0 _ (h.below (hbA.trans (hbS.mono hbA.size))) hg HEO).mono ?_);rintro e wz ⟨rfl,hbc⟩;rw [HA.out]))
   obtain ⟨hbF,_⟩:=‹Below w2.heap.size w2 _∧_›
   have hbZ:=hbA.trans (hbF.mono hbA.size)
   have HRZ:=Lib.hid (HR2.out.below hbF)
   have t0:=cell_below hbF s0
   have t1:=cell_below hbF s1
   clear s0 s1 HR2 hbA hgs2
   have hgs3:g < wz.heap.size:=by have:=hbZ.size;omega
   have d2:(left - (z1 - far) == 0)=false:=int_eqf (by omega)
   obtain ⟨a1,rfl,y,E1,A3,c3,r0,r1,r2,l2,C2⟩:=jointK_at (Kn.C_below hbZ h.j) j hjl
   have hy:=HAT.out.1.symm.trans E1.out
   injection hy with hy
   subst hy
   have hme:=C2.1
   by_cases hk:x.kind=2
   rotate_left
   ·have d3:(x.kind != 2)=true:=int_net hk
    have HEN:Hid (acc++[P]=goal):=Lib.hid (by have:=beyond_end HB.out HM.out (by omega) HAH.out HX.out (.inr hk);rw [HT.out,HPt.out] at this;exact this)
    clear hk
    go_wp2
    go_ret
    exact ⟨_,rfl,by rw [←HEN.out];exact HRZ.out,HO2.out,hbZ⟩
   have d3:(x.kind != 2)=false:=int_nef hk
   have hlen2:x.ends.length=2:=by have:=HJP.out.2.1;omega
   have HL2:=Lib.hid hlen2
   have l0:(0:Int) < (x.ends.length:Int):=by omega
   have l1:(1:Int) < (x.ends.length:Int):=by omega
   obtain ⟨m',hmm,hsp⟩:=beyond_spl HB.out HM.out (by omega) HAH.out HX.out hk
   rw [HT.out,HPt.out] at hsp
   have HSP:=Lib.hid hsp
   have HMM:=Lib.hid hmm
   have HEK:Hid (endP n.pieces.length (en x (1 - k))):=Lib.hid (en_ok HJP.out (by omega))
   obtain ⟨u',s',HEN⟩:∃(u':Nat) (s':Int),Hid (en x (1 - k)=⟨u',s'⟩):=⟨(en x (1 - k)).piece.toNat,(en x (1 - k)).side,Lib.hid (by have:=HEK.out.1.1;rw [Int.toNat_of_nonneg this])⟩
   have hue:u' < n.pieces.length∧(s'=0∨s'=1):=by have:=HEK.out;rw [HEN.out] at this;obtain ⟨⟨b1,b2⟩,b3,b4⟩:=this;simp only at b1 b2 b3 b4;omega
   obtain ⟨hu',hs'⟩:=hue
   have HPL:Hid (0 < pl n u'):=Lib.hid (by have:=pl_in hg.out (p:=(u':Int)) (by omega) (by omega);omega)
   have hk2:k=0∨k=1:=by omega
   clear hk hlen2 hmm hsp
   rcases hk2 with rfl | rfl
   ·obtain ⟨a3,rfl,v0,v1⟩:=en_pos (k:=1) (m:=2) C2 (by omega) (by omega) rfl
    rw [HEN.out] at v0 v1
    rcases hs' with rfl | rfl
    ·go_wp2
     go_roundw
     case rel=>exact ⟨m',u',1,0,left - (z1 - far),acc++[P],rfl,rfl,rfl,rfl,hu',by omega,by omega,Lib.hid (.inl rfl),HPL,Lib.hid (by have:=HSP.out;rw [HEN.out] at this;exact this),Lib.hid (by have:=HM.out;have:=HMM.out;omega),Lib.hid (HRZ.out.below (below_alloc _ _)),HO2,Lib.hid ⟨by omega,by rw [List.length_append,List.length_singleton];omega⟩,hbZ.alloc hbZ.size _⟩
     case measure=>simp [intOf];omega
    ·go_wp2
     go_roundw
     case rel=>exact ⟨m',u',-1,0,left - (z1 - far),acc++[P],rfl,rfl,rfl,rfl,hu',by omega,by omega,Lib.hid (.inr rfl),HPL,Lib.hid (by have:=HSP.out;rw [HEN.out] at this;exact this),Lib.hid (by have:=HM.out;have:=HMM.out;omega),Lib.hid (HRZ.out.below (below_alloc _ _)),HO2,Lib.hid ⟨by omega,by rw [List.length_append,List.length_singleton];omega⟩,hbZ.alloc hbZ.size _⟩
     case measure=>simp [intOf];omega
   ·obtain ⟨a3,rfl,v0,v1⟩:=en_zero C2 (by omega)
    rw [HEN.out] at v0 v1
    rcases hs' with rfl | rfl
    ·go_wp2
     go_roundw
     case rel=>exact ⟨m',u',1,0,left - (z1 - far),acc++[P],rfl,rfl,rfl,rfl,hu',by omega,by omega,Lib.hid (.inl rfl),HPL,Lib.hid (by have:=HSP.out;rw [HEN.out] at this;exact this),Lib.hid (by have:=HM.out;have:=HMM.out;omega),Lib.hid (HRZ.out.below (below_alloc _ _)),HO2,Lib.hid ⟨by omega,by rw [List.length_append,List.length_singleton];omega⟩,hbZ.alloc hbZ.size _⟩
     case measure=>simp [intOf];omega
    ·go_wp2
     go_roundw
     case rel=>exact ⟨m',u',-1,0,left - (z1 - far),acc++[P],rfl,rfl,rfl,rfl,hu',by omega,by omega,Lib.hid (.inr rfl),HPL,Lib.hid (by have:=HSP.out;rw [HEN.out] at this;exact this),Lib.hid (by have:=HM.out;have:=HMM.out;omega),Lib.hid (HRZ.out.below (below_alloc _ _)),HO2,Lib.hid ⟨by omega,by rw [List.length_append,List.length_singleton];omega⟩,hbZ.alloc hbZ.size _⟩
     case measure=>simp [intOf];omega
  ·have d0:decide (z1 < far+left)=false:=decide_eq_false hq
   have d1:decide (far < far+left)=true:=decide_eq_true (by omega)
   have HT:Hid (tilOf n u far left=far+left):=Lib.hid (by unfold tilOf;rw [HP.out,if_pos (by omega)])
   obtain ⟨P,HPt⟩:∃P,Hid (partN n u way far (far+left)=P):=⟨_,Lib.hid rfl⟩
   go_wp2_with fail
   refine (specPart n _ (some ad) c0 u way far (far+left) _ (Kn.C_below hb h.p) hg hu HW.out (by omega) (by omega)).mono ?_
   rintro e w1 ⟨rfl,hb1⟩
   rw [HPt.out]
   have hbx:=hb.trans (hb1.mono hb.size)
   have HR1:=Lib.hid ((HR.out.below hb1).below (below_alloc w1 (.cells #[.int .i64 P.piece,.int .i64 P.frm,.int .i64 P.til] 48)))
   clear g0 g1 g2 g3 HR
   go_wp2_with (at_builtin;refine wpList_append_rw _ rfl (.tmp 47) (.tmp 57) 41 rfl 48 i0 _ 24 Try.underlying41 hi hz0 hz1 hz2 rfl (by decide) (.slice Ao acc.length co) acc [P] rfl HR1.out (fun _ h=>h.elim) (some ⟨w1.heap.size,0,none⟩) 1 1 rfl rfl (Kn.Src.one (partK_mk _ _ P) (new_cells _ _ _ rfl)) a63 aby ?_;intro v' w2 HR2 hg2 hat2;obtain ⟨A2,c2,rfl,hc2⟩:=HR2.form1)
   have hbA:=below_push (hbx.alloc hbx.size _) hg2 HO.out (by have:=hbx.size;simp;omega)
   have HO2:=Lib.hid (own_next HO.out hat2 (by have:=hbx.size;simp;omega))
   have HR2:=Lib.hid HR2
   have s0:=(hf.below hbA hgl).cell 0 rfl
   have s1:=(hf.below hbA hgl).cell 1 rfl
   have hgs2:g < w2.heap.size:=by have:=hbA.size;omega
   clear hg2 hat2 hbx HR1 hb1 q0 q1 HO hb hgs
   go_region_held3 (fun w'=>Below w2.heap.size w2 w'∧w'.cell? ⟨g,0,none⟩=some (.slice (some ad) n.pieces.length c0)∧w'.cell? ⟨g,1,none⟩=some (.slice A1 n.joints.length c1))
    (first | exact ⟨(Below.refl _ _).drew,s0,s1⟩ | exact ⟨hbS.trans (hbc.mono hbS.size),cell_below (hbS.trans (hbc.mono hbS.size)) s0,cell_below (hbS.trans (hbc.mono hbS.size)) s1⟩)
    (first | (go_at_call 51;obtain ⟨hbS,_⟩:=‹Below w2.heap.size w2 _∧_›;(with_reducible refine (specHead _ _ _).mono ?_);rintro e wz ⟨rfl,hbc⟩;rw [HE.out]) | (go_at_call 50;obtain ⟨hbS,_⟩:=‹Below w2.heap.size w2 _∧_›;(with_reducible refine (specAt n (some ad) A1 c0 c1 e0 _ (h.below (hbA.trans (hbS.mono hbA.size))) hg HEO).mono ?_);rintro e wz ⟨rfl,hbc⟩;rw [HA.out]))
   obtain ⟨hbF,_⟩:=‹Below w2.heap.size w2 _∧_›
   have hbZ:=hbA.trans (hbF.mono hbA.size)
   have HRZ:=Lib.hid (HR2.out.below hbF)
   have t0:=cell_below hbF s0
   have t1:=cell_below hbF s1
   clear s0 s1 HR2 hbA hgs2
   have hgs3:g < wz.heap.size:=by have:=hbZ.size;omega
   have d2:(left - (far+left - far) == 0)=true:=int_eqt (by omega)
   have HEN:Hid (acc++[P]=goal):=Lib.hid (by have:=beyond_end HB.out HM.out (by omega) HAH.out HX.out (.inl (by rw [HT.out];omega));rw [HT.out,HPt.out] at this;exact this)
   go_wp2
   go_ret
   exact ⟨_,rfl,by rw [←HEN.out];exact HRZ.out,HO2.out,hbZ⟩
end Go.Proofs.Ytjccgneimknbpaa.L
namespace Go.Proofs.Ytjccgneimknbpaa.L
open Go.RowKit
def noneTo {α:Type} (xs:List α) (k:Nat) (P:α→Prop):Prop:=∀j x,j < k→xs[j]?=some x→¬P x
theorem noneTo_zero {α:Type} {xs:List α} {P:α→Prop}:noneTo xs 0 P:=fun j x h=>absurd h (by omega)
theorem noneTo_snoc {α:Type} {xs:List α} {k:Nat} {P:α→Prop} {x:α} (h:noneTo xs k P) (hx:xs[k]?=some x) (hp:¬P x):noneTo xs (k+1) P:=fun j y hj hy=>by
 by_cases e:j=k
 ·subst e
  rw [hx] at hy
  obtain rfl:=Option.some.inj hy
  exact hp
 ·exact h j y (by omega) hy
theorem noneTo_all {α:Type} {xs:List α} {P:α→Prop} (h:noneTo xs xs.length P):¬∃x,x∈xs∧P x:=fun ⟨x,hx,hp⟩=>by
 obtain ⟨j,hj⟩:=List.mem_iff_getElem?.1 hx
 exact h j x (List.getElem?_eq_some_iff.1 hj).1 hj hp
section
variable {a b:Route}
theorem excl_1 (h:touch a.parts b.parts):excl a b=1:=by unfold excl;rw [if_pos h]
theorem excl_2 (h1:¬touch a.parts b.parts) (h:crossP a.crosses b.crosses):excl a b=2:=by unfold excl;rw [if_neg h1,if_pos h]
theorem excl_3 (h1:¬touch a.parts b.parts) (h2:¬crossP a.crosses b.crosses) (h:needP a b):excl a b=3:=by unfold excl;rw [if_neg h1,if_neg h2,if_pos h]
theorem excl_4 (h1:¬touch a.parts b.parts) (h2:¬crossP a.crosses b.crosses) (h3:¬needP a b) (h:touch a.over b.parts∨touch a.parts b.over):excl a b=4:=by unfold excl;rw [if_neg h1,if_neg h2,if_neg h3,if_pos h]
theorem excl_0 (h1:¬touch a.parts b.parts) (h2:¬crossP a.crosses b.crosses) (h3:¬needP a b) (h:¬(touch a.over b.parts∨touch a.parts b.over)):excl a b=0:=by unfold excl;rw [if_neg h1,if_neg h2,if_neg h3,if_neg h]
end
theorem RetW.open {α:Type} {e:Nat} {d:Kn α} {ok:Nat→Prop} {xs:List α} {w w':World} {en:Ending} (h:RetW e d ok xs w en w'):∃A c,en=.returned (.slice A xs.length c)∧xs.length≤c∧Hid (d.C w' (fun _=>True) A xs)∧Below w.heap.size w w':=by
 obtain ⟨v,rfl,h1,h2,h3⟩:=h
 obtain ⟨A,c,rfl,hc,hC⟩:=h1.C
 exact ⟨A,c,rfl,hc,Lib.hid (Kn.C_mono (fun _ _=>trivial) hC),h3⟩
set_option maxHeartbeats 4000000 in
theorem specTouch {ok ok':Nat→Prop} (A B:Option Addr) (c c':Nat) (a b:List Part) (w:World) (ha:partK.C w ok A a) (hb:partK.C w ok' B b) :
  Calls Try.prog 44 #[.slice A a.length c,.slice B b.length c'] w (RetB (pv (touch a b)) w):=by
 have hma:=ha.1
 have hmb:=hb.1
 go_enter Try.func44,Try.ntmps44
 go_wp2
 go_loopw [11] (fun i wr=>∃k:Nat,k≤a.length∧i=.int .i64 k∧Hid (noneTo a k (fun x=>∃y,y∈b∧meets x y))∧Below w.heap.size w wr) (fun i _=>a.length - (intOf i).toNat)
 case atStart=>exact ⟨0,Nat.zero_le _,rfl,Lib.hid noneTo_zero,Below.refl _ _⟩
 case round =>
  obtain ⟨k,hk,rfl,HN,hbw⟩:=hrel
  obtain ⟨wo,rfl⟩:∃wo:World,wo=wr:=⟨_,rfl⟩
  by_cases hlt:k < a.length
  ·obtain ⟨ad,rfl,y0,y1,y2,E,g0,g1,g2⟩:=partK_at (Kn.C_below hbw ha) k hlt
   have i0:(0:Int)≤(k:Int):=Int.natCast_nonneg _
   have i1:(k:Int) < (a.length:Int):=by omega
   go_wp2
   obtain ⟨W1,hW1,hB1,hs1,f0,f1,f2⟩:∃W1,W1=wo.alloc (.cells #[.int .i64 y0,.int .i64 y1,.int .i64 y2] 48)∧Below wo.heap.size wo W1∧wo.heap.size < W1.heap.size ∧
    W1.cell? ⟨wo.heap.size,0,none⟩=some (.int .i64 y0)∧W1.cell? ⟨wo.heap.size,1,none⟩=some (.int .i64 y1)∧W1.cell? ⟨wo.heap.size,2,none⟩=some (.int .i64 y2):=⟨_,rfl,below_alloc _ _,by simp,by simp,by simp,by simp⟩
   rw [←hW1]
   clear hW1
   have hb1:=hbw.trans (hB1.mono hbw.size)
   go_loopw [17] (fun i wr=>∃m:Nat,m≤b.length∧i=.int .i64 m∧Hid (noneTo b m (fun y=>meets ⟨y0,y1,y2⟩ y))∧Below W1.heap.size W1 wr) (fun i _=>b.length - (intOf i).toNat)
   case atStart=>exact ⟨0,Nat.zero_le _,rfl,Lib.hid noneTo_zero,Below.refl _ _⟩
   case round =>
    obtain ⟨m,hm,rfl,HM,hbi⟩:=hrel
    have k0:=cell_below hbi f0
    have k1:=cell_below hbi f1
    have k2:=cell_below hbi f2
    have hbj:=hb1.trans (hbi.mono hb1.size)
    have hsx:wo.heap.size < wr.heap.size:=by have:=hbi.size;omega
    by_cases hlm:m < b.length
    ·obtain ⟨ae,rfl,z0,z1,z2,E1,p0,p1,p2⟩:=partK_at (Kn.C_below hbj hb) m hlm
     have m0:(0:Int)≤(m:Int):=Int.natCast_nonneg _
     have m1:(m:Int) < (b.length:Int):=by omega
     by_cases e0:y0=z0
     rotate_left
     ·have d0:(y0 == z0)=false:=int_eqf e0
      have HN2:=Lib.hid (noneTo_snoc HM.out E1.out (fun h=>e0 h.1))
      clear e0
      go_wp2
      go_roundw
      case rel=>exact ⟨m+1,by omega,by go_num,HN2,hbi.alloc hbi.size _⟩
      case measure=>simp [intOf];omega
     have d0:(y0 == z0)=true:=int_eqt e0
     by_cases e1:y1≤z2
     rotate_left
     ·have d1:decide (y1≤z2)=false:=decide_eq_false e1
      have HN2:=Lib.hid (noneTo_snoc HM.out E1.out (fun h=>e1 h.2.1))
      clear e1 e0
      go_wp2
      go_roundw
      case rel=>exact ⟨m+1,by omega,by go_num,HN2,hbi.alloc hbi.size _⟩
      case measure=>simp [intOf];omega
     have d1:decide (y1≤z2)=true:=decide_eq_true e1
     by_cases e2:z1≤y2
     rotate_left
     ·have d2:decide (z1≤y2)=false:=decide_eq_false e2
      have HN2:=Lib.hid (noneTo_snoc HM.out E1.out (fun h=>e2 h.2.2))
      clear e2 e0 e1
      go_wp2
      go_roundw
      case rel=>exact ⟨m+1,by omega,by go_num,HN2,hbi.alloc hbi.size _⟩
      case measure=>simp [intOf];omega
     have d2:decide (z1≤y2)=true:=decide_eq_true e2
     have HT:Hid (pv (touch a b)=true):=Lib.hid (pv_true ⟨_,mem_of_get E.out,_,mem_of_get E1.out,e0,e1,e2⟩)
     clear e0 e1 e2
     go_wp2
     go_ret
     exact ⟨by rw [HT.out];rfl,hbj.alloc hbj.size _⟩
    ·obtain rfl:m=b.length:=by omega
     have HN2:=Lib.hid (noneTo_snoc HN.out E.out (noneTo_all HM.out))
     go_wp2
     go_roundw
     case rel=>exact ⟨k+1,by omega,by go_num,HN2,hbj⟩
     case measure=>simp [intOf];omega
  ·obtain rfl:k=a.length:=by omega
   have HT:Hid (pv (touch a b)=false):=Lib.hid (pv_false (noneTo_all HN.out))
   go_wp2
   go_ret
   exact ⟨by rw [HT.out];rfl,hbw⟩
set_option maxHeartbeats 4000000 in
theorem implTouch {ok ok':Nat→Prop} (A B:Option Addr) (c c':Nat) (a b:List Part) (w:World) (ha:partK.C w ok A a) (hb:partK.C w ok' B b) :
  Calls Try.prog 42 #[.slice A a.length c,.slice B b.length c'] w (RetB (pv (touch a b)) w):=by
 have hma:=ha.1
 have hmb:=hb.1
 go_enter Try.func42,Try.ntmps42
 go_wp2
 go_loopw [11] (fun i wr=>∃k:Nat,k≤a.length∧i=.int .i64 k∧Hid (noneTo a k (fun x=>∃y,y∈b∧meets x y))∧Below w.heap.size w wr) (fun i _=>a.length - (intOf i).toNat)
 case atStart=>exact ⟨0,Nat.zero_le _,rfl,Lib.hid noneTo_zero,Below.refl _ _⟩
 case round =>
  obtain ⟨k,hk,rfl,HN,hbw⟩:=hrel
  obtain ⟨wo,rfl⟩:∃wo:World,wo=wr:=⟨_,rfl⟩
  by_cases hlt:k < a.length
  ·obtain ⟨ad,rfl,y0,y1,y2,E,g0,g1,g2⟩:=partK_at (Kn.C_below hbw ha) k hlt
   have i0:(0:Int)≤(k:Int):=Int.natCast_nonneg _
   have i1:(k:Int) < (a.length:Int):=by omega
   go_wp2
   obtain ⟨W1,hW1,hB1,hs1,f0,f1,f2⟩:∃W1,W1=wo.alloc (.cells #[.int .i64 y0,.int .i64 y1,.int .i64 y2] 48)∧Below wo.heap.size wo W1∧wo.heap.size < W1.heap.size ∧
    W1.cell? ⟨wo.heap.size,0,none⟩=some (.int .i64 y0)∧W1.cell? ⟨wo.heap.size,1,none⟩=some (.int .i64 y1)∧W1.cell? ⟨wo.heap.size,2,none⟩=some (.int .i64 y2):=⟨_,rfl,below_alloc _ _,by simp,by simp,by simp,by simp⟩
   rw [←hW1]
   clear hW1
   have hb1:=hbw.trans (hB1.mono hbw.size)
   go_loopw [17] (fun i wr=>∃m:Nat,m≤b.length∧i=.int .i64 m∧Hid (noneTo b m (fun y=>meets ⟨y0,y1,y2⟩ y))∧Below W1.heap.size W1 wr) (fun i _=>b.length - (intOf i).toNat)
   case atStart=>exact ⟨0,Nat.zero_le _,rfl,Lib.hid noneTo_zero,Below.refl _ _⟩
   case round =>
    obtain ⟨m,hm,rfl,HM,hbi⟩:=hrel
    have k0:=cell_below hbi f0
    have k1:=cell_below hbi f1
    have k2:=cell_below hbi f2
    have hbj:=hb1.trans (hbi.mono hb1.size)
    have hsx:wo.heap.size < wr.heap.size:=by have:=hbi.size;omega
    by_cases hlm:m < b.length
    ·obtain ⟨ae,rfl,z0,z1,z2,E1,p0,p1,p2⟩:=partK_at (Kn.C_below hbj hb) m hlm
     have m0:(0:Int)≤(m:Int):=Int.natCast_nonneg _
     have m1:(m:Int) < (b.length:Int):=by omega
     by_cases e0:y0=z0
     rotate_left
     ·have d0:(y0 == z0)=false:=int_eqf e0
      have HN2:=Lib.hid (noneTo_snoc HM.out E1.out (fun h=>e0 h.1))
      clear e0
      go_wp2
      go_roundw
      case rel=>exact ⟨m+1,by omega,by go_num,HN2,hbi.alloc hbi.size _⟩
      case measure=>simp [intOf];omega
     have d0:(y0 == z0)=true:=int_eqt e0
     by_cases e1:y1≤z2
     rotate_left
     ·have d1:decide (y1≤z2)=false:=decide_eq_false e1
      have HN2:=Lib.hid (noneTo_snoc HM.out E1.out (fun h=>e1 h.2.1))
      clear e1 e0
      go_wp2
      go_roundw
      case rel=>exact ⟨m+1,by omega,by go_num,HN2,hbi.alloc hbi.size _⟩
      case measure=>simp [intOf];omega
     have d1:decide (y1≤z2)=true:=decide_eq_true e1
     by_cases e2:z1≤y2
     rotate_left
     ·have d2:decide (z1≤y2)=false:=decide_eq_false e2
      have HN2:=Lib.hid (noneTo_snoc HM.out E1.out (fun h=>e2 h.2.2))
      clear e2 e0 e1
      go_wp2
      go_roundw
      case rel=>exact ⟨m+1,by omega,by go_num,HN2,hbi.alloc hbi.size _⟩
      case measure=>simp [intOf];omega
     have d2:decide (z1≤y2)=true:=decide_eq_true e2
     have HT:Hid (pv (touch a b)=true):=Lib.hid (pv_true ⟨_,mem_of_get E.out,_,mem_of_get E1.out,e0,e1,e2⟩)
     clear e0 e1 e2
     go_wp2
     go_ret
     exact ⟨by rw [HT.out];rfl,hbj.alloc hbj.size _⟩
    ·obtain rfl:m=b.length:=by omega
     have HN2:=Lib.hid (noneTo_snoc HN.out E.out (noneTo_all HM.out))
     go_wp2
     go_roundw
     case rel=>exact ⟨k+1,by omega,by go_num,HN2,hbj⟩
     case measure=>simp [intOf];omega
  ·obtain rfl:k=a.length:=by omega
   have HT:Hid (pv (touch a b)=false):=Lib.hid (pv_false (noneTo_all HN.out))
   go_wp2
   go_ret
   exact ⟨by rw [HT.out];rfl,hbw⟩
set_option maxRecDepth 100000 in
set_option maxHeartbeats 16000000 in
theorem specExclude {ok:Nat→Prop} (a b:Route) (p0 p1 p2 q0 q1 q2:Value) (P3 P4 P5 P6 P7 Q3 Q4 Q5 Q6 Q7:Option Addr) (cp3 cp4 cp5 cp6 cp7 cq3 cq4 cq5 cq6 cq7:Nat) (w:World) (hp3:lieK.C w ok P3 a.lies) (hp4:Kn.int.C w ok P4 a.crosses) (hp5:partK.C w ok P5 a.parts) (hp6:partK.C w ok P6 a.over) (hp7:flankK.C w ok P7 a.flanks) (hq3:lieK.C w ok Q3 b.lies) (hq4:Kn.int.C w ok Q4 b.crosses) (hq5:partK.C w ok Q5 b.parts) (hq6:partK.C w ok Q6 b.over) (hq7:flankK.C w ok Q7 b.flanks) (la:a.lies.length≤1048576) (fa:a.flanks.length≤1048576) (lb:b.lies.length≤1048576) (fb:b.flanks.length≤1048576) :
  Calls Try.prog 19 #[.agg #[p0,p1,p2,.slice P3 a.lies.length cp3,.slice P4 a.crosses.length cp4,.slice P5 a.parts.length cp5,.slice P6 a.over.length cp6,.slice P7 a.flanks.length cp7],.agg #[q0,q1,q2,.slice Q3 b.lies.length cq3,.slice Q4 b.crosses.length cq4,.slice Q5 b.parts.length cq5,.slice Q6 b.over.length cq6,.slice Q7 b.flanks.length cq7]] w (RetI (excl a b) w):=by
 have mp4:=hp4.1
 have mq4:=hq4.1
 go_enter Try.func19,Try.ntmps19
 go_wp2_with fail
 obtain ⟨W0,hW0,hB0,hs0,hs1,fp0,fp1,fp2,fp3,fp4,fp5,fp6,fp7,fq0,fq1,fq2,fq3,fq4,fq5,fq6,fq7⟩:∃W0,W0=(w.alloc (.cells #[p0,p1,p2,.slice P3 a.lies.length cp3,.slice P4 a.crosses.length cp4,.slice P5 a.parts.length cp5,.slice P6 a.over.length cp6,.slice P7 a.flanks.length cp7] 44)).alloc (.cells #[q0,q1,q2,.slice Q3 b.lies.length cq3,.slice Q4 b.crosses.length cq4,.slice Q5 b.parts.length cq5,.slice Q6 b.over.length cq6,.slice Q7 b.flanks.length cq7] 44)∧Below w.heap.size w W0∧w.heap.size < W0.heap.size∧w.heap.size+1 < W0.heap.size ∧
  W0.cell? ⟨w.heap.size,0,none⟩=some p0∧W0.cell? ⟨w.heap.size,1,none⟩=some p1∧W0.cell? ⟨w.heap.size,2,none⟩=some p2∧W0.cell? ⟨w.heap.size,3,none⟩=some (.slice P3 a.lies.length cp3)∧W0.cell? ⟨w.heap.size,4,none⟩=some (.slice P4 a.crosses.length cp4)∧W0.cell? ⟨w.heap.size,5,none⟩=some (.slice P5 a.parts.length cp5)∧W0.cell? ⟨w.heap.size,6,none⟩=some (.slice P6 a.over.length cp6)∧W0.cell? ⟨w.heap.size,7,none⟩=some (.slice P7 a.flanks.length cp7)∧W0.cell? ⟨w.heap.size+1,0,none⟩=some q0∧W0.cell? ⟨w.heap.size+1,1,none⟩=some q1∧W0.cell? ⟨w.heap.size+1,2,none⟩=some q2∧W0.cell? ⟨w.heap.size+1,3,none⟩=some (.slice Q3 b.lies.length cq3)∧W0.cell? ⟨w.heap.size+1,4,none⟩=some (.slice Q4 b.crosses.length cq4)∧W0.cell? ⟨w.heap.size+1,5,none⟩=some (.slice Q5 b.parts.length cq5)∧W0.cell? ⟨w.heap.size+1,6,none⟩=some (.slice Q6 b.over.length cq6)∧W0.cell? ⟨w.heap.size+1,7,none⟩=some (.slice Q7 b.flanks.length cq7):=⟨_,rfl,(below_alloc _ _).alloc (by simp) _,by simp;omega,by simp,by simp,by simp,by simp,by simp,by simp,by simp,by simp,by simp,by simp,by simp,by simp,by simp,by simp,by simp,by simp,by simp⟩
 rw [←hW0]
 clear hW0
 refine (specTouch _ _ _ _ _ _ _ (Kn.C_below hB0 hp5) (Kn.C_below hB0 hq5)).mono ?_
 rintro e w1 ⟨rfl,hb1⟩
 have hbw1:=hB0.trans (hb1.mono hB0.size)
 have hz1:w.heap.size < w1.heap.size:=by have:=hb1.size;omega
 have hz2:w.heap.size+1 < w1.heap.size:=by have:=hb1.size;omega
 have kp0:=cell_below hb1 fp0
 have kp1:=cell_below hb1 fp1
 have kp2:=cell_below hb1 fp2
 have kp3:=cell_below hb1 fp3
 have kp4:=cell_below hb1 fp4
 have kp5:=cell_below hb1 fp5
 have kp6:=cell_below hb1 fp6
 have kp7:=cell_below hb1 fp7
 have kq0:=cell_below hb1 fq0
 have kq1:=cell_below hb1 fq1
 have kq2:=cell_below hb1 fq2
 have kq3:=cell_below hb1 fq3
 have kq4:=cell_below hb1 fq4
 have kq5:=cell_below hb1 fq5
 have kq6:=cell_below hb1 fq6
 have kq7:=cell_below hb1 fq7
 clear fp0 fp1 fp2 fp3 fp4 fp5 fp6 fp7 fq0 fq1 fq2 fq3 fq4 fq5 fq6 fq7 hb1 hs0 hs1 hB0
 by_cases t1:touch a.parts b.parts
 ·have HE:Hid (excl a b=1):=Lib.hid (excl_1 t1)
  have HT:Hid (pv (touch a.parts b.parts)=true):=Lib.hid (pv_true t1)
  clear t1
  rw [HT.out]
  go_wp2
  go_ret
  exact ⟨by rw [HE.out];rfl,hbw1⟩
 have T1:=Lib.hid t1
 have HT:Hid (pv (touch a.parts b.parts)=false):=Lib.hid (pv_false t1)
 clear t1
 rw [HT.out]
 clear HT
 go_wp2
 go_loopw [21] (fun i wr=>∃k:Nat,k≤a.crosses.length∧i=.int .i64 k∧Hid (noneTo a.crosses k (fun x=>x∈b.crosses))∧wr=w1) (fun i _=>a.crosses.length - (intOf i).toNat)
 case atStart=>exact ⟨0,Nat.zero_le _,rfl,Lib.hid noneTo_zero,rfl⟩
 case round =>
  obtain ⟨k,hk,rfl,HN,rfl⟩:=hrel
  have hbw:=hbw1
  clear hbw1
  by_cases hlt:k < a.crosses.length
  ·obtain ⟨ad,rfl,y0,E,g0⟩:=int_at (Kn.C_below hbw hp4) k hlt
   have i0:(0:Int)≤(k:Int):=Int.natCast_nonneg _
   have i1:(k:Int) < (a.crosses.length:Int):=by omega
   obtain ⟨wo,rfl⟩:∃wo:World,wo=wr:=⟨_,rfl⟩
   go_wp2
   go_loopw [28] (fun i wr=>∃m:Nat,m≤b.crosses.length∧i=.int .i64 m∧Hid (noneTo b.crosses m (fun y=>y0=y))∧wr=wo) (fun i _=>b.crosses.length - (intOf i).toNat)
   case atStart=>exact ⟨0,Nat.zero_le _,rfl,Lib.hid noneTo_zero,rfl⟩
   case round =>
    obtain ⟨m,hm,rfl,HM,rfl⟩:=hrel
    by_cases hlm:m < b.crosses.length
    ·obtain ⟨ae,rfl,z0,E1,r0⟩:=int_at (Kn.C_below hbw hq4) m hlm
     have m0:(0:Int)≤(m:Int):=Int.natCast_nonneg _
     have m1:(m:Int) < (b.crosses.length:Int):=by omega
     by_cases e0:y0=z0
     rotate_left
     ·have d0:(y0 == z0)=false:=int_eqf e0
      have HN2:=Lib.hid (noneTo_snoc HM.out E1.out e0)
      clear e0
      go_wp2
      go_roundw
      case rel=>exact ⟨m+1,by omega,by go_num,HN2,by first | rfl | trivial⟩
      case measure=>simp [intOf];omega
     have d0:(y0 == z0)=true:=int_eqt e0
     have HE:Hid (excl a b=2):=Lib.hid (excl_2 T1.out ⟨y0,mem_of_get E.out,by rw [e0];exact mem_of_get E1.out⟩)
     clear e0
     go_wp2
     go_ret
     exact ⟨by rw [HE.out];rfl,hbw⟩
    ·obtain rfl:m=b.crosses.length:=by omega
     have HN2:=Lib.hid (noneTo_snoc HN.out E.out (fun h=>noneTo_all HM.out ⟨_,h,rfl⟩))
     go_wp2
     go_roundw
     case rel=>exact ⟨k+1,by omega,by go_num,HN2,by first | rfl | trivial⟩
     case measure=>simp [intOf];omega
  ·obtain rfl:k=a.crosses.length:=by omega
   have T2:Hid (¬crossP a.crosses b.crosses):=Lib.hid (noneTo_all HN.out)
   clear HN
   go_wp2_with fail
   clear hlt hk
   refine (specNeeds a p0 p1 p2 (.slice P4 a.crosses.length cp4) (.slice P5 a.parts.length cp5) (.slice P6 a.over.length cp6) P3 P7 cp3 cp7 _ (Kn.C_below hbw hp3) (Kn.C_below hbw hp7) la fa).mono ?_
   intro e w2 hr
   obtain ⟨NA,nc,rfl,hnc,HC,hb2⟩:=RetW.open hr
   clear hr
   have hbw2:=hbw.trans (hb2.mono hbw.size)
   have hz3:w.heap.size < w2.heap.size:=by have:=hb2.size;omega
   have hz4:w.heap.size+1 < w2.heap.size:=by have:=hb2.size;omega
   have hnm:=HC.out.1
   have hnm2:=(Nat.le_refl (needs a).length)
   have op0:=cell_below hb2 kp0
   have op1:=cell_below hb2 kp1
   have op2:=cell_below hb2 kp2
   have op3:=cell_below hb2 kp3
   have op4:=cell_below hb2 kp4
   have op5:=cell_below hb2 kp5
   have op6:=cell_below hb2 kp6
   have op7:=cell_below hb2 kp7
   have oq0:=cell_below hb2 kq0
   have oq1:=cell_below hb2 kq1
   have oq2:=cell_below hb2 kq2
   have oq3:=cell_below hb2 kq3
   have oq4:=cell_below hb2 kq4
   have oq5:=cell_below hb2 kq5
   have oq6:=cell_below hb2 kq6
   have oq7:=cell_below hb2 kq7
   clear hbw hb2 kp0 kp1 kp2 kp3 kp4 kp5 kp6 kp7 kq0 kq1 kq2 kq3 kq4 kq5 kq6 kq7
   go_wp2
   go_loopw [40] (fun i wr=>∃k:Nat,k≤(needs a).length∧i=.int .i64 k∧Hid (noneTo (needs a) k (fun x=>∃y,y∈needs b∧against x y))∧Below w2.heap.size w2 wr) (fun i _=>(needs a).length - (intOf i).toNat)
   case atStart=>exact ⟨0,Nat.zero_le _,rfl,Lib.hid noneTo_zero,Below.refl _ _⟩
   case round =>
    obtain ⟨k,hk,rfl,HN,hbr⟩:=hrel
    obtain ⟨wo,rfl⟩:∃wo:World,wo=wr:=⟨_,rfl⟩
    have hbw:=hbw2.trans (hbr.mono hbw2.size)
    have hz5:w.heap.size < wo.heap.size:=by have:=hbr.size;omega
    have hz6:w.heap.size+1 < wo.heap.size:=by have:=hbr.size;omega
    by_cases hlt:k < (needs a).length
    ·obtain ⟨ad,rfl,y0,y1,E,g0,g1⟩:=lieK_at (Kn.C_below hbr HC.out) k hlt
     have i0:(0:Int)≤(k:Int):=Int.natCast_nonneg _
     have i1:(k:Int) < ((needs a).length:Int):=by omega
     obtain ⟨W1,hW1,hB1,hs1,u0,u1⟩:∃W1,W1=wo.alloc (.cells #[.int .i64 y0,.int .i64 y1] 52)∧Below wo.heap.size wo W1∧wo.heap.size < W1.heap.size ∧
      W1.cell? ⟨wo.heap.size,0,none⟩=some (.int .i64 y0)∧W1.cell? ⟨wo.heap.size,1,none⟩=some (.int .i64 y1):=⟨_,rfl,below_alloc _ _,by simp,by simp,by simp⟩
     have hb1:=hbr.trans (hB1.mono hbr.size)
     have hbw1:=hbw.trans (hB1.mono hbw.size)
     have tp0:=cell_below hbr op0
     have tp1:=cell_below hbr op1
     have tp2:=cell_below hbr op2
     have tp3:=cell_below hbr op3
     have tp4:=cell_below hbr op4
     have tp5:=cell_below hbr op5
     have tp6:=cell_below hbr op6
     have tp7:=cell_below hbr op7
     have tq0:=cell_below hbr oq0
     have tq1:=cell_below hbr oq1
     have tq2:=cell_below hbr oq2
     have tq3:=cell_below hbr oq3
     have tq4:=cell_below hbr oq4
     have tq5:=cell_below hbr oq5
     have tq6:=cell_below hbr oq6
     have tq7:=cell_below hbr oq7
     go_wp2_with fail
     rw [←hW1]
     clear hW1
     refine (specNeeds b q0 q1 q2 (.slice Q4 b.crosses.length cq4) (.slice Q5 b.parts.length cq5) (.slice Q6 b.over.length cq6) Q3 Q7 cq3 cq7 _ (Kn.C_below hbw1 hq3) (Kn.C_below hbw1 hq7) lb fb).mono ?_
     intro e w3 hr
     obtain ⟨NB,mc,rfl,hmc,HD,hb3⟩:=RetW.open hr
     clear hr
     have hmm:=HD.out.1
     have v0:=cell_below hb3 u0
     have v1:=cell_below hb3 u1
     have hs3:wo.heap.size < w3.heap.size:=by have:=hb3.size;omega
     have hbr3:=hb1.trans (hb3.mono hb1.size)
     have hbw3:=hbw1.trans (hb3.mono hbw1.size)
     clear u0 u1 hs1 hb3 hb1 hbw1 hbw hbr
     go_wp2
     go_loopw [47] (fun i wr=>∃m:Nat,m≤(needs b).length∧i=.int .i64 m∧Hid (noneTo (needs b) m (fun y=>against ⟨y0,y1⟩ y))∧Below w3.heap.size w3 wr) (fun i _=>(needs b).length - (intOf i).toNat)
     case atStart=>exact ⟨0,Nat.zero_le _,rfl,Lib.hid noneTo_zero,Below.refl _ _⟩
     case round =>
      obtain ⟨m,hm,rfl,HM,hbi⟩:=hrel
      have x0:=cell_below hbi v0
      have x1:=cell_below hbi v1
      have hsx:wo.heap.size < wr.heap.size:=by have:=hbi.size;omega
      have hbri:=hbr3.trans (hbi.mono hbr3.size)
      have hbwi:=hbw3.trans (hbi.mono hbw3.size)
      by_cases hlm:m < (needs b).length
      ·obtain ⟨ae,rfl,z0,z1,E1,r0,r1⟩:=lieK_at (Kn.C_below hbi HD.out) m hlm
       have m0:(0:Int)≤(m:Int):=Int.natCast_nonneg _
       have m1:(m:Int) < ((needs b).length:Int):=by omega
       by_cases e0:y0=z0
       rotate_left
       ·have d0:(y0 == z0)=false:=int_eqf e0
        have HN2:=Lib.hid (noneTo_snoc HM.out E1.out (fun h=>e0 h.1))
        clear e0
        go_wp2
        go_roundw
        case rel=>exact ⟨m+1,by omega,by go_num,HN2,hbi.alloc hbi.size _⟩
        case measure=>simp [intOf];omega
       have d0:(y0 == z0)=true:=int_eqt e0
       by_cases e1:y1=z1
       ·have d1:(y1 != z1)=false:=by simpa using e1
        have HN2:=Lib.hid (noneTo_snoc HM.out E1.out (fun h=>h.2 e1))
        clear e0 e1
        go_wp2
        go_roundw
        case rel=>exact ⟨m+1,by omega,by go_num,HN2,hbi.alloc hbi.size _⟩
        case measure=>simp [intOf];omega
       have d1:(y1 != z1)=true:=int_ne e1
       have HE:Hid (excl a b=3):=Lib.hid (excl_3 T1.out T2.out ⟨_,mem_of_get E.out,_,mem_of_get E1.out,e0,e1⟩)
       clear e0 e1
       go_wp2
       go_ret
       exact ⟨by rw [HE.out];rfl,hbwi.alloc hbwi.size _⟩
      ·obtain rfl:m=(needs b).length:=by omega
       have HN2:=Lib.hid (noneTo_snoc HN.out E.out (noneTo_all HM.out))
       go_wp2
       go_roundw
       case rel=>exact ⟨k+1,by omega,by go_num,HN2,hbri⟩
       case measure=>simp [intOf];omega
    ·obtain rfl:k=(needs a).length:=by omega
     have T3:Hid (¬needP a b):=Lib.hid (noneTo_all HN.out)
     have tp0:=cell_below hbr op0
     have tp1:=cell_below hbr op1
     have tp2:=cell_below hbr op2
     have tp3:=cell_below hbr op3
     have tp4:=cell_below hbr op4
     have tp5:=cell_below hbr op5
     have tp6:=cell_below hbr op6
     have tp7:=cell_below hbr op7
     have tq0:=cell_below hbr oq0
     have tq1:=cell_below hbr oq1
     have tq2:=cell_below hbr oq2
     have tq3:=cell_below hbr oq3
     have tq4:=cell_below hbr oq4
     have tq5:=cell_below hbr oq5
     have tq6:=cell_below hbr oq6
     have tq7:=cell_below hbr oq7
     clear HN
     go_wp2_with fail
     refine (specTouch _ _ _ _ _ _ _ (Kn.C_below hbw hp6) (Kn.C_below hbw hq5)).mono ?_
     rintro e w4 ⟨rfl,hb4⟩
     have hbw4:=hbw.trans (hb4.mono hbw.size)
     have hz7:w.heap.size < w4.heap.size:=by have:=hb4.size;omega
     have hz8:w.heap.size+1 < w4.heap.size:=by have:=hb4.size;omega
     have sp0:=cell_below hb4 tp0
     have sp1:=cell_below hb4 tp1
     have sp2:=cell_below hb4 tp2
     have sp3:=cell_below hb4 tp3
     have sp4:=cell_below hb4 tp4
     have sp5:=cell_below hb4 tp5
     have sp6:=cell_below hb4 tp6
     have sp7:=cell_below hb4 tp7
     have sq0:=cell_below hb4 tq0
     have sq1:=cell_below hb4 tq1
     have sq2:=cell_below hb4 tq2
     have sq3:=cell_below hb4 tq3
     have sq4:=cell_below hb4 tq4
     have sq5:=cell_below hb4 tq5
     have sq6:=cell_below hb4 tq6
     have sq7:=cell_below hb4 tq7
     by_cases t4:touch a.over b.parts
     ·have HE:Hid (excl a b=4):=Lib.hid (excl_4 T1.out T2.out T3.out (.inl t4))
      have HT:Hid (pv (touch a.over b.parts)=true):=Lib.hid (pv_true t4)
      clear t4 tp0 tp1 tp2 tp3 tp4 tp5 tp6 tp7 tq0 tq1 tq2 tq3 tq4 tq5 tq6 tq7
      rw [HT.out]
      go_wp2
      go_ret
      exact ⟨by rw [HE.out];rfl,hbw4⟩
     have T4:=Lib.hid t4
     have HT:Hid (pv (touch a.over b.parts)=false):=Lib.hid (pv_false t4)
     clear t4 tp0 tp1 tp2 tp3 tp4 tp5 tp6 tp7 tq0 tq1 tq2 tq3 tq4 tq5 tq6 tq7
     rw [HT.out]
     go_wp2_with fail
     refine (specTouch _ _ _ _ _ _ _ (Kn.C_below hbw4 hp5) (Kn.C_below hbw4 hq6)).mono ?_
     rintro e w5 ⟨rfl,hb5⟩
     have hbw5:=hbw4.trans (hb5.mono hbw4.size)
     by_cases t5:touch a.parts b.over
     ·have HE:Hid (excl a b=4):=Lib.hid (excl_4 T1.out T2.out T3.out (.inr t5))
      have HT:Hid (pv (touch a.parts b.over)=true):=Lib.hid (pv_true t5)
      clear t5
      rw [HT.out]
      go_wp2
      go_ret
      exact ⟨by rw [HE.out];rfl,hbw5⟩
     ·have HE:Hid (excl a b=0):=Lib.hid (excl_0 T1.out T2.out T3.out (fun h=>by rcases h with h | h;exact T4.out h;exact t5 h))
      have HT:Hid (pv (touch a.parts b.over)=false):=Lib.hid (pv_false t5)
      clear t5
      rw [HT.out]
      go_wp2
      go_ret
      exact ⟨by rw [HE.out];rfl,hbw5⟩
set_option maxRecDepth 100000 in
set_option maxHeartbeats 16000000 in
theorem implExclude {ok:Nat→Prop} (a b:Route) (p0 p1 p2 q0 q1 q2:Value) (P3 P4 P5 P6 P7 Q3 Q4 Q5 Q6 Q7:Option Addr) (cp3 cp4 cp5 cp6 cp7 cq3 cq4 cq5 cq6 cq7:Nat) (w:World) (hp3:lieK.C w ok P3 a.lies) (hp4:Kn.int.C w ok P4 a.crosses) (hp5:partK.C w ok P5 a.parts) (hp6:partK.C w ok P6 a.over) (hp7:flankK.C w ok P7 a.flanks) (hq3:lieK.C w ok Q3 b.lies) (hq4:Kn.int.C w ok Q4 b.crosses) (hq5:partK.C w ok Q5 b.parts) (hq6:partK.C w ok Q6 b.over) (hq7:flankK.C w ok Q7 b.flanks) (la:a.lies.length≤1048576) (fa:a.flanks.length≤1048576) (lb:b.lies.length≤1048576) (fb:b.flanks.length≤1048576) :
  Calls Try.prog 18 #[.agg #[p0,p1,p2,.slice P3 a.lies.length cp3,.slice P4 a.crosses.length cp4,.slice P5 a.parts.length cp5,.slice P6 a.over.length cp6,.slice P7 a.flanks.length cp7],.agg #[q0,q1,q2,.slice Q3 b.lies.length cq3,.slice Q4 b.crosses.length cq4,.slice Q5 b.parts.length cq5,.slice Q6 b.over.length cq6,.slice Q7 b.flanks.length cq7]] w (RetI (excl a b) w):=by
 have mp4:=hp4.1
 have mq4:=hq4.1
 go_enter Try.func18,Try.ntmps18
 go_wp2_with fail
 obtain ⟨W0,hW0,hB0,hs0,hs1,fp0,fp1,fp2,fp3,fp4,fp5,fp6,fp7,fq0,fq1,fq2,fq3,fq4,fq5,fq6,fq7⟩:∃W0,W0=(w.alloc (.cells #[p0,p1,p2,.slice P3 a.lies.length cp3,.slice P4 a.crosses.length cp4,.slice P5 a.parts.length cp5,.slice P6 a.over.length cp6,.slice P7 a.flanks.length cp7] 44)).alloc (.cells #[q0,q1,q2,.slice Q3 b.lies.length cq3,.slice Q4 b.crosses.length cq4,.slice Q5 b.parts.length cq5,.slice Q6 b.over.length cq6,.slice Q7 b.flanks.length cq7] 44)∧Below w.heap.size w W0∧w.heap.size < W0.heap.size∧w.heap.size+1 < W0.heap.size ∧
  W0.cell? ⟨w.heap.size,0,none⟩=some p0∧W0.cell? ⟨w.heap.size,1,none⟩=some p1∧W0.cell? ⟨w.heap.size,2,none⟩=some p2∧W0.cell? ⟨w.heap.size,3,none⟩=some (.slice P3 a.lies.length cp3)∧W0.cell? ⟨w.heap.size,4,none⟩=some (.slice P4 a.crosses.length cp4)∧W0.cell? ⟨w.heap.size,5,none⟩=some (.slice P5 a.parts.length cp5)∧W0.cell? ⟨w.heap.size,6,none⟩=some (.slice P6 a.over.length cp6)∧W0.cell? ⟨w.heap.size,7,none⟩=some (.slice P7 a.flanks.length cp7)∧W0.cell? ⟨w.heap.size+1,0,none⟩=some q0∧W0.cell? ⟨w.heap.size+1,1,none⟩=some q1∧W0.cell? ⟨w.heap.size+1,2,none⟩=some q2∧W0.cell? ⟨w.heap.size+1,3,none⟩=some (.slice Q3 b.lies.length cq3)∧W0.cell? ⟨w.heap.size+1,4,none⟩=some (.slice Q4 b.crosses.length cq4)∧W0.cell? ⟨w.heap.size+1,5,none⟩=some (.slice Q5 b.parts.length cq5)∧W0.cell? ⟨w.heap.size+1,6,none⟩=some (.slice Q6 b.over.length cq6)∧W0.cell? ⟨w.heap.size+1,7,none⟩=some (.slice Q7 b.flanks.length cq7):=⟨_,rfl,(below_alloc _ _).alloc (by simp) _,by simp;omega,by simp,by simp,by simp,by simp,by simp,by simp,by simp,by simp,by simp,by simp,by simp,by simp,by simp,by simp,by simp,by simp,by simp⟩
 rw [←hW0]
 clear hW0
 refine (implTouch _ _ _ _ _ _ _ (Kn.C_below hB0 hp5) (Kn.C_below hB0 hq5)).mono ?_
 rintro e w1 ⟨rfl,hb1⟩
 have hbw1:=hB0.trans (hb1.mono hB0.size)
 have hz1:w.heap.size < w1.heap.size:=by have:=hb1.size;omega
 have hz2:w.heap.size+1 < w1.heap.size:=by have:=hb1.size;omega
 have kp0:=cell_below hb1 fp0
 have kp1:=cell_below hb1 fp1
 have kp2:=cell_below hb1 fp2
 have kp3:=cell_below hb1 fp3
 have kp4:=cell_below hb1 fp4
 have kp5:=cell_below hb1 fp5
 have kp6:=cell_below hb1 fp6
 have kp7:=cell_below hb1 fp7
 have kq0:=cell_below hb1 fq0
 have kq1:=cell_below hb1 fq1
 have kq2:=cell_below hb1 fq2
 have kq3:=cell_below hb1 fq3
 have kq4:=cell_below hb1 fq4
 have kq5:=cell_below hb1 fq5
 have kq6:=cell_below hb1 fq6
 have kq7:=cell_below hb1 fq7
 clear fp0 fp1 fp2 fp3 fp4 fp5 fp6 fp7 fq0 fq1 fq2 fq3 fq4 fq5 fq6 fq7 hb1 hs0 hs1 hB0
 by_cases t1:touch a.parts b.parts
 ·have HE:Hid (excl a b=1):=Lib.hid (excl_1 t1)
  have HT:Hid (pv (touch a.parts b.parts)=true):=Lib.hid (pv_true t1)
  clear t1
  rw [HT.out]
  go_wp2
  go_ret
  exact ⟨by rw [HE.out];rfl,hbw1⟩
 have T1:=Lib.hid t1
 have HT:Hid (pv (touch a.parts b.parts)=false):=Lib.hid (pv_false t1)
 clear t1
 rw [HT.out]
 clear HT
 go_wp2
 go_loopw [19] (fun i wr=>∃k:Nat,k≤a.crosses.length∧i=.int .i64 k∧Hid (noneTo a.crosses k (fun x=>x∈b.crosses))∧Below w1.heap.size w1 wr) (fun i _=>a.crosses.length - (intOf i).toNat)
 case atStart=>exact ⟨0,Nat.zero_le _,rfl,Lib.hid noneTo_zero,Below.refl _ _⟩
 case round =>
  obtain ⟨k,hk,rfl,HN,hbr⟩:=hrel
  have hbw:=hbw1.trans (hbr.mono hbw1.size)
  have hz9:w.heap.size < wr.heap.size:=by have:=hbr.size;omega
  have hz10:w.heap.size+1 < wr.heap.size:=by have:=hbr.size;omega
  have jp0:=cell_below hbr kp0
  have jp1:=cell_below hbr kp1
  have jp2:=cell_below hbr kp2
  have jp3:=cell_below hbr kp3
  have jp4:=cell_below hbr kp4
  have jp5:=cell_below hbr kp5
  have jp6:=cell_below hbr kp6
  have jp7:=cell_below hbr kp7
  have jq0:=cell_below hbr kq0
  have jq1:=cell_below hbr kq1
  have jq2:=cell_below hbr kq2
  have jq3:=cell_below hbr kq3
  have jq4:=cell_below hbr kq4
  have jq5:=cell_below hbr kq5
  have jq6:=cell_below hbr kq6
  have jq7:=cell_below hbr kq7
  have HBR:=Lib.hid hbr
  clear hbw1 hbr hz1 hz2 kp0 kp1 kp2 kp3 kp4 kp5 kp6 kp7 kq0 kq1 kq2 kq3 kq4 kq5 kq6 kq7
  by_cases hlt:k < a.crosses.length
  ·obtain ⟨ad,rfl,y0,E,g0⟩:=int_at (Kn.C_below hbw hp4) k hlt
   have i0:(0:Int)≤(k:Int):=Int.natCast_nonneg _
   have i1:(k:Int) < (a.crosses.length:Int):=by omega
   go_wp2_with fail
   refine (containsInt _ _ _ _ _ (Kn.C_below hbw hq4)).mono ?_
   rintro e w2 ⟨rfl,hb2⟩
   have hbw2:=hbw.trans (hb2.mono hbw.size)
   by_cases e0:y0∈b.crosses
   ·have HE:Hid (excl a b=2):=Lib.hid (excl_2 T1.out ⟨y0,mem_of_get E.out,e0⟩)
    have HT:Hid (pv (y0∈b.crosses)=true):=Lib.hid (pv_true e0)
    clear e0
    rw [HT.out]
    go_wp2
    go_ret
    exact ⟨by rw [HE.out];rfl,hbw2⟩
   ·have HT:Hid (pv (y0∈b.crosses)=false):=Lib.hid (pv_false e0)
    have HN2:=Lib.hid (noneTo_snoc HN.out E.out e0)
    clear e0
    rw [HT.out]
    go_wp2
    go_roundw
    case rel=>exact ⟨k+1,by omega,by go_num,HN2,HBR.out.trans (hb2.mono HBR.out.size)⟩
    case measure=>simp [intOf];omega
  ·obtain rfl:k=a.crosses.length:=by omega
   have T2:Hid (¬crossP a.crosses b.crosses):=Lib.hid (noneTo_all HN.out)
   clear HN
   go_wp2_with fail
   clear hlt hk
   refine (implNeeds a p0 p1 p2 (.slice P4 a.crosses.length cp4) (.slice P5 a.parts.length cp5) (.slice P6 a.over.length cp6) P3 P7 cp3 cp7 _ (Kn.C_below hbw hp3) (Kn.C_below hbw hp7) la fa).mono ?_
   intro e w2 hr
   obtain ⟨NA,nc,rfl,hnc,HC,hb2⟩:=RetW.open hr
   clear hr
   have hbw2:=hbw.trans (hb2.mono hbw.size)
   have hz3:w.heap.size < w2.heap.size:=by have:=hb2.size;omega
   have hz4:w.heap.size+1 < w2.heap.size:=by have:=hb2.size;omega
   have hnm:=HC.out.1
   have hnm2:=(Nat.le_refl (needs a).length)
   have op0:=cell_below hb2 jp0
   have op1:=cell_below hb2 jp1
   have op2:=cell_below hb2 jp2
   have op3:=cell_below hb2 jp3
   have op4:=cell_below hb2 jp4
   have op5:=cell_below hb2 jp5
   have op6:=cell_below hb2 jp6
   have op7:=cell_below hb2 jp7
   have oq0:=cell_below hb2 jq0
   have oq1:=cell_below hb2 jq1
   have oq2:=cell_below hb2 jq2
   have oq3:=cell_below hb2 jq3
   have oq4:=cell_below hb2 jq4
   have oq5:=cell_below hb2 jq5
   have oq6:=cell_below hb2 jq6
   have oq7:=cell_below hb2 jq7
   clear hbw hb2 jp0 jp1 jp2 jp3 jp4 jp5 jp6 jp7 jq0 jq1 jq2 jq3 jq4 jq5 jq6 jq7
   go_wp2
   go_loopw [31] (fun i wr=>∃k:Nat,k≤(needs a).length∧i=.int .i64 k∧Hid (noneTo (needs a) k (fun x=>∃y,y∈needs b∧against x y))∧Below w2.heap.size w2 wr) (fun i _=>(needs a).length - (intOf i).toNat)
   case atStart=>exact ⟨0,Nat.zero_le _,rfl,Lib.hid noneTo_zero,Below.refl _ _⟩
   case round =>
    obtain ⟨k,hk,rfl,HN,hbr⟩:=hrel
    obtain ⟨wo,rfl⟩:∃wo:World,wo=wr:=⟨_,rfl⟩
    have hbw:=hbw2.trans (hbr.mono hbw2.size)
    have hz5:w.heap.size < wo.heap.size:=by have:=hbr.size;omega
    have hz6:w.heap.size+1 < wo.heap.size:=by have:=hbr.size;omega
    by_cases hlt:k < (needs a).length
    ·obtain ⟨ad,rfl,y0,y1,E,g0,g1⟩:=lieK_at (Kn.C_below hbr HC.out) k hlt
     have i0:(0:Int)≤(k:Int):=Int.natCast_nonneg _
     have i1:(k:Int) < ((needs a).length:Int):=by omega
     obtain ⟨W1,hW1,hB1,hs1,u0,u1⟩:∃W1,W1=wo.alloc (.cells #[.int .i64 y0,.int .i64 y1] 52)∧Below wo.heap.size wo W1∧wo.heap.size < W1.heap.size ∧
      W1.cell? ⟨wo.heap.size,0,none⟩=some (.int .i64 y0)∧W1.cell? ⟨wo.heap.size,1,none⟩=some (.int .i64 y1):=⟨_,rfl,below_alloc _ _,by simp,by simp,by simp⟩
     have hb1:=hbr.trans (hB1.mono hbr.size)
     have hbw1:=hbw.trans (hB1.mono hbw.size)
     have tp0:=cell_below hbr op0
     have tp1:=cell_below hbr op1
     have tp2:=cell_below hbr op2
     have tp3:=cell_below hbr op3
     have tp4:=cell_below hbr op4
     have tp5:=cell_below hbr op5
     have tp6:=cell_below hbr op6
     have tp7:=cell_below hbr op7
     have tq0:=cell_below hbr oq0
     have tq1:=cell_below hbr oq1
     have tq2:=cell_below hbr oq2
     have tq3:=cell_below hbr oq3
     have tq4:=cell_below hbr oq4
     have tq5:=cell_below hbr oq5
     have tq6:=cell_below hbr oq6
     have tq7:=cell_below hbr oq7
     go_wp2_with fail
     rw [←hW1]
     clear hW1
     refine (implNeeds b q0 q1 q2 (.slice Q4 b.crosses.length cq4) (.slice Q5 b.parts.length cq5) (.slice Q6 b.over.length cq6) Q3 Q7 cq3 cq7 _ (Kn.C_below hbw1 hq3) (Kn.C_below hbw1 hq7) lb fb).mono ?_
     intro e w3 hr
     obtain ⟨NB,mc,rfl,hmc,HD,hb3⟩:=RetW.open hr
     clear hr
     have hmm:=HD.out.1
     have v0:=cell_below hb3 u0
     have v1:=cell_below hb3 u1
     have hs3:wo.heap.size < w3.heap.size:=by have:=hb3.size;omega
     have hbr3:=hb1.trans (hb3.mono hb1.size)
     have hbw3:=hbw1.trans (hb3.mono hbw1.size)
     clear u0 u1 hs1 hb3 hb1 hbw1 hbw hbr
     go_wp2
     go_loopw [38] (fun i wr=>∃m:Nat,m≤(needs b).length∧i=.int .i64 m∧Hid (noneTo (needs b) m (fun y=>against ⟨y0,y1⟩ y))∧Below w3.heap.size w3 wr) (fun i _=>(needs b).length - (intOf i).toNat)
     case atStart=>exact ⟨0,Nat.zero_le _,rfl,Lib.hid noneTo_zero,Below.refl _ _⟩
     case round =>
      obtain ⟨m,hm,rfl,HM,hbi⟩:=hrel
      have x0:=cell_below hbi v0
      have x1:=cell_below hbi v1
      have hsx:wo.heap.size < wr.heap.size:=by have:=hbi.size;omega
      have hbri:=hbr3.trans (hbi.mono hbr3.size)
      have hbwi:=hbw3.trans (hbi.mono hbw3.size)
      by_cases hlm:m < (needs b).length
      ·obtain ⟨ae,rfl,z0,z1,E1,r0,r1⟩:=lieK_at (Kn.C_below hbi HD.out) m hlm
       have m0:(0:Int)≤(m:Int):=Int.natCast_nonneg _
       have m1:(m:Int) < ((needs b).length:Int):=by omega
       by_cases e0:y0=z0
       rotate_left
       ·have d0:(y0 == z0)=false:=int_eqf e0
        have HN2:=Lib.hid (noneTo_snoc HM.out E1.out (fun h=>e0 h.1))
        clear e0
        go_wp2
        go_roundw
        case rel=>exact ⟨m+1,by omega,by go_num,HN2,hbi.alloc hbi.size _⟩
        case measure=>simp [intOf];omega
       have d0:(y0 == z0)=true:=int_eqt e0
       by_cases e1:y1=z1
       ·have d1:(y1 != z1)=false:=by simpa using e1
        have HN2:=Lib.hid (noneTo_snoc HM.out E1.out (fun h=>h.2 e1))
        clear e0 e1
        go_wp2
        go_roundw
        case rel=>exact ⟨m+1,by omega,by go_num,HN2,hbi.alloc hbi.size _⟩
        case measure=>simp [intOf];omega
       have d1:(y1 != z1)=true:=int_ne e1
       have HE:Hid (excl a b=3):=Lib.hid (excl_3 T1.out T2.out ⟨_,mem_of_get E.out,_,mem_of_get E1.out,e0,e1⟩)
       clear e0 e1
       go_wp2
       go_ret
       exact ⟨by rw [HE.out];rfl,hbwi.alloc hbwi.size _⟩
      ·obtain rfl:m=(needs b).length:=by omega
       have HN2:=Lib.hid (noneTo_snoc HN.out E.out (noneTo_all HM.out))
       go_wp2
       go_roundw
       case rel=>exact ⟨k+1,by omega,by go_num,HN2,hbri⟩
       case measure=>simp [intOf];omega
    ·obtain rfl:k=(needs a).length:=by omega
     have T3:Hid (¬needP a b):=Lib.hid (noneTo_all HN.out)
     have tp0:=cell_below hbr op0
     have tp1:=cell_below hbr op1
     have tp2:=cell_below hbr op2
     have tp3:=cell_below hbr op3
     have tp4:=cell_below hbr op4
     have tp5:=cell_below hbr op5
     have tp6:=cell_below hbr op6
     have tp7:=cell_below hbr op7
     have tq0:=cell_below hbr oq0
     have tq1:=cell_below hbr oq1
     have tq2:=cell_below hbr oq2
     have tq3:=cell_below hbr oq3
     have tq4:=cell_below hbr oq4
     have tq5:=cell_below hbr oq5
     have tq6:=cell_below hbr oq6
     have tq7:=cell_below hbr oq7
     clear HN
     go_wp2_with fail
     refine (implTouch _ _ _ _ _ _ _ (Kn.C_below hbw hp6) (Kn.C_below hbw hq5)).mono ?_
     rintro e w4 ⟨rfl,hb4⟩
     have hbw4:=hbw.trans (hb4.mono hbw.size)
     have hz7:w.heap.size < w4.heap.size:=by have:=hb4.size;omega
     have hz8:w.heap.size+1 < w4.heap.size:=by have:=hb4.size;omega
     have sp0:=cell_below hb4 tp0
     have sp1:=cell_below hb4 tp1
     have sp2:=cell_below hb4 tp2
     have sp3:=cell_below hb4 tp3
     have sp4:=cell_below hb4 tp4
     have sp5:=cell_below hb4 tp5
     have sp6:=cell_below hb4 tp6
     have sp7:=cell_below hb4 tp7
     have sq0:=cell_below hb4 tq0
     have sq1:=cell_below hb4 tq1
     have sq2:=cell_below hb4 tq2
     have sq3:=cell_below hb4 tq3
     have sq4:=cell_below hb4 tq4
     have sq5:=cell_below hb4 tq5
     have sq6:=cell_below hb4 tq6
     have sq7:=cell_below hb4 tq7
     by_cases t4:touch a.over b.parts
     ·have HE:Hid (excl a b=4):=Lib.hid (excl_4 T1.out T2.out T3.out (.inl t4))
      have HT:Hid (pv (touch a.over b.parts)=true):=Lib.hid (pv_true t4)
      clear t4 tp0 tp1 tp2 tp3 tp4 tp5 tp6 tp7 tq0 tq1 tq2 tq3 tq4 tq5 tq6 tq7
      rw [HT.out]
      go_wp2
      go_ret
      exact ⟨by rw [HE.out];rfl,hbw4⟩
     have T4:=Lib.hid t4
     have HT:Hid (pv (touch a.over b.parts)=false):=Lib.hid (pv_false t4)
     clear t4 tp0 tp1 tp2 tp3 tp4 tp5 tp6 tp7 tq0 tq1 tq2 tq3 tq4 tq5 tq6 tq7
     rw [HT.out]
     go_wp2_with fail
     refine (implTouch _ _ _ _ _ _ _ (Kn.C_below hbw4 hp5) (Kn.C_below hbw4 hq6)).mono ?_
     rintro e w5 ⟨rfl,hb5⟩
     have hbw5:=hbw4.trans (hb5.mono hbw4.size)
     by_cases t5:touch a.parts b.over
     ·have HE:Hid (excl a b=4):=Lib.hid (excl_4 T1.out T2.out T3.out (.inr t5))
      have HT:Hid (pv (touch a.parts b.over)=true):=Lib.hid (pv_true t5)
      clear t5
      rw [HT.out]
      go_wp2
      go_ret
      exact ⟨by rw [HE.out];rfl,hbw5⟩
     ·have HE:Hid (excl a b=0):=Lib.hid (excl_0 T1.out T2.out T3.out (fun h=>by rcases h with h | h;exact T4.out h;exact t5 h))
      have HT:Hid (pv (touch a.parts b.over)=false):=Lib.hid (pv_false t5)
      clear t5
      rw [HT.out]
      go_wp2
      go_ret
      exact ⟨by rw [HE.out];rfl,hbw5⟩
end Go.Proofs.Ytjccgneimknbpaa.L
namespace Go.Proofs.Ytjccgneimknbpaa.L
open Go.RowKit
theorem C_dr {α:Type} {d:Kn α} {w:World} {ok:Nat→Prop} {A:Option Addr} {xs:List α} (h:d.C w ok A xs):d.C w.drew ok A xs:=Kn.C_move (w:=w) (fun _ _=>rfl) h
structure RC (w:World) (ok:Nat→Prop) (x:Route) (A2 A3 A4 A5 A6 A7:Option Addr):Prop where
 h2:stepK.C w ok A2 x.steps
 h3:lieK.C w ok A3 x.lies
 h4:Kn.int.C w ok A4 x.crosses
 h5:partK.C w ok A5 x.parts
 h6:partK.C w ok A6 x.over
 h7:flankK.C w ok A7 x.flanks
section
variable {w w1:World} {ok ok':Nat→Prop} {x:Route} {A2 A3 A4 A5 A6 A7:Option Addr}
theorem RC.below (hb:Below w.heap.size w w1) (h:RC w ok x A2 A3 A4 A5 A6 A7):RC w1 ok x A2 A3 A4 A5 A6 A7:=⟨Kn.C_below hb h.h2,Kn.C_below hb h.h3,Kn.C_below hb h.h4,Kn.C_below hb h.h5,Kn.C_below hb h.h6,Kn.C_below hb h.h7⟩
theorem RC.mono (hm:∀b,ok b→ok' b) (h:RC w ok x A2 A3 A4 A5 A6 A7):RC w ok' x A2 A3 A4 A5 A6 A7:=⟨Kn.C_mono hm h.h2,Kn.C_mono hm h.h3,Kn.C_mono hm h.h4,Kn.C_mono hm h.h5,Kn.C_mono hm h.h6,Kn.C_mono hm h.h7⟩
theorem RC.drew (h:RC w ok x A2 A3 A4 A5 A6 A7):RC w.drew ok x A2 A3 A4 A5 A6 A7:=⟨C_dr h.h2,C_dr h.h3,C_dr h.h4,C_dr h.h5,C_dr h.h6,C_dr h.h7⟩
theorem RC.keep {S S':Nat→Prop} (hk:Keep S w w1) (hs:∀x,x < w.heap.size→S' x→S x) (h:RC w (Out w S) x A2 A3 A4 A5 A6 A7):RC w1 (Out w1 S') x A2 A3 A4 A5 A6 A7:=⟨Kn.C_keep hk hs h.h2,Kn.C_keep hk hs h.h3,Kn.C_keep hk hs h.h4,Kn.C_keep hk hs h.h5,Kn.C_keep hk hs h.h6,Kn.C_keep hk hs h.h7⟩
end
theorem specExcludeC {ok:Nat→Prop} (a b:Route) (A2 A3 A4 A5 A6 A7:Option Addr) (c2 c3 c4 c5 c6 c7:Nat) (B2 B3 B4 B5 B6 B7:Option Addr) (d2 d3 d4 d5 d6 d7:Nat) (w:World) (h:RC w ok a A2 A3 A4 A5 A6 A7) (h':RC w ok b B2 B3 B4 B5 B6 B7) (la:a.n≤1048576) (lb:b.n≤1048576) :
  Calls Try.prog 19 #[.agg #[.int .i64 a.frm,.int .i64 a.til,.slice A2 a.steps.length c2,.slice A3 a.lies.length c3,.slice A4 a.crosses.length c4,.slice A5 a.parts.length c5,.slice A6 a.over.length c6,.slice A7 a.flanks.length c7],.agg #[.int .i64 b.frm,.int .i64 b.til,.slice B2 b.steps.length d2,.slice B3 b.lies.length d3,.slice B4 b.crosses.length d4,.slice B5 b.parts.length d5,.slice B6 b.over.length d6,.slice B7 b.flanks.length d7]] w (RetI (excl a b) w):=by
 unfold Route.n at la lb
 exact specExclude a b _ _ _ _ _ _ A3 A4 A5 A6 A7 B3 B4 B5 B6 B7 c3 c4 c5 c6 c7 d3 d4 d5 d6 d7 w h.h3 h.h4 h.h5 h.h6 h.h7 h'.h3 h'.h4 h'.h5 h'.h6 h'.h7 (by omega) (by omega) (by omega) (by omega)
theorem implExcludeC {ok:Nat→Prop} (a b:Route) (A2 A3 A4 A5 A6 A7:Option Addr) (c2 c3 c4 c5 c6 c7:Nat) (B2 B3 B4 B5 B6 B7:Option Addr) (d2 d3 d4 d5 d6 d7:Nat) (w:World) (h:RC w ok a A2 A3 A4 A5 A6 A7) (h':RC w ok b B2 B3 B4 B5 B6 B7) (la:a.n≤1048576) (lb:b.n≤1048576) :
  Calls Try.prog 18 #[.agg #[.int .i64 a.frm,.int .i64 a.til,.slice A2 a.steps.length c2,.slice A3 a.lies.length c3,.slice A4 a.crosses.length c4,.slice A5 a.parts.length c5,.slice A6 a.over.length c6,.slice A7 a.flanks.length c7],.agg #[.int .i64 b.frm,.int .i64 b.til,.slice B2 b.steps.length d2,.slice B3 b.lies.length d3,.slice B4 b.crosses.length d4,.slice B5 b.parts.length d5,.slice B6 b.over.length d6,.slice B7 b.flanks.length d7]] w (RetI (excl a b) w):=by
 unfold Route.n at la lb
 exact implExclude a b _ _ _ _ _ _ A3 A4 A5 A6 A7 B3 B4 B5 B6 B7 c3 c4 c5 c6 c7 d3 d4 d5 d6 d7 w h.h3 h.h4 h.h5 h.h6 h.h7 h'.h3 h'.h4 h'.h5 h'.h6 h'.h7 (by omega) (by omega) (by omega) (by omega)
end Go.Proofs.Ytjccgneimknbpaa.L
