/- Routes that are one's own, written over one after the other: what the others keep. -/
import Derived.Test.YtjccgneimknbpaaXn
set_option linter.unusedVariables false
set_option linter.unusedSimpArgs false
namespace Go.Proofs.Ytjccgneimknbpaa.L
open Go.RowKit
open Classical
def RetRo (rs:List Route) (b:Bool) (w:World) (e:Ending) (w':World):Prop :=
 ∃A c,e=.returned (.tuple #[.slice A rs.length c,.bool b])∧rs.length≤c∧Hid (rK.Rw 44 w' (Out w' (fun b=>(Value.slice A rs.length c).ownBlock=some b)) (.slice A rs.length c) rs)∧Hid (∀b,(Value.slice A rs.length c).ownBlock=some b→w.heap.size≤b)∧Below w.heap.size w w'
theorem RetRo.to {rs ss:List Route} {b:Bool} {w w':World} {e:Ending} (h:RetRo rs b w e w') (hx:rs=ss):RetRo ss b w e w':=by subst hx;exact h
theorem RetRo.nil {b:Bool} {w w':World} (hb:Below w.heap.size w w'):RetRo [] b w (.returned (.tuple #[.slice none 0 0,.bool b])) w':=⟨none,0,rfl,Nat.le_refl _,Lib.hid Kn.Rw.nil,Lib.hid (by simp [Value.ownBlock]),hb⟩
noncomputable def askOk (n:Net) (ss:List Signal) (ov:Int):Bool:=pv (signalsOk n ss=⟨0,0⟩∧0≤ov∧ov≤100000)
theorem implFault {n:Net} {ss:List Signal} (h:¬signalsOk n ss=⟨0,0⟩):∃c a,Hid (signalsOk n ss=⟨c,a⟩)∧¬c=0:=⟨(signalsOk n ss).code,(signalsOk n ss).at_,Lib.hid rfl,fun e=>h ((sigOk_code n ss).1 e)⟩
set_option maxRecDepth 100000 in
set_option maxHeartbeats 4000000 in
theorem implRoutes0 {ok ok':Nat→Prop} (n:Net) (ss:List Signal) (ov:Int) (A0 A1 A2:Option Addr) (c0 c1 c2:Nat) (w:World) (h:NC 102 w ok n A0 A1) (hs:signalK.C w ok' A2 ss) (hc:ss.length≤c2) (hn:NetIn n) (hi:SigIn ss) :
  Calls Try.prog 38 #[.agg #[.slice A0 n.pieces.length c0,.slice A1 n.joints.length c1],.slice A2 ss.length c2,.int .i64 ov] w (RetRo (routesF n ss ov) (askOk n ss ov) w):=by
 have hb0:Below w.heap.size w (w.alloc (.cells #[.slice A0 n.pieces.length c0,.slice A1 n.joints.length c1] 26)):=below_alloc _ _
 by_cases hk:signalsOk n ss=⟨0,0⟩
 rotate_left
 ·have HR:=Lib.hid (routesF_bad (ov:=ov) (.inl hk))
  have HA:Hid (askOk n ss ov=false):=Lib.hid (pv_false (fun e=>hk e.1))
  obtain ⟨c,a,hf,hc0⟩:=implFault hk
  have d0:(c == 0)=false:=int_eqf hc0
  clear hk hc0
  go_enter Try.func38,Try.ntmps38
  go_wp2_with (go_at_call 68;refine (implSignalsOkC n ss A0 A1 A2 c0 c1 c2 _ (h.below hb0) (Kn.C_below hb0 hs) hc hn hi).mono ?_;rintro e w1 ⟨rfl,hb1⟩;rw [hf.out])
  go_ret2
  rw [HA.out]
  exact (RetRo.nil (hb0.trans (hb1.mono (by simp)))).to HR.out.symm
 have HS0:=Lib.hid hk
 by_cases ho:0≤ov∧ov≤100000
 rotate_left
 ·have HR:=Lib.hid (routesF_bad (n:=n) (ss:=ss) (.inr ho))
  have HA:Hid (askOk n ss ov=false):=Lib.hid (pv_false (fun e=>ho e.2))
  clear hk
  by_cases o0:ov < 0
  ·have d0:decide (ov < 0)=true:=decide_eq_true o0
   clear ho
   go_enter Try.func38,Try.ntmps38
   go_wp2_with (go_at_call 68;refine (implSignalsOkC n ss A0 A1 A2 c0 c1 c2 _ (h.below hb0) (Kn.C_below hb0 hs) hc hn hi).mono ?_;rintro e w1 ⟨rfl,hb1⟩;rw [HS0.out])
   go_ret2
   rw [HA.out]
   exact (RetRo.nil (hb0.trans (hb1.mono (by simp)))).to HR.out.symm
  ·have d0:decide (ov < 0)=false:=decide_eq_false o0
   have d1:decide (100000 < ov)=true:=decide_eq_true (by omega)
   clear ho
   go_enter Try.func38,Try.ntmps38
   go_wp2_with (go_at_call 68;refine (implSignalsOkC n ss A0 A1 A2 c0 c1 c2 _ (h.below hb0) (Kn.C_below hb0 hs) hc hn hi).mono ?_;rintro e w1 ⟨rfl,hb1⟩;rw [HS0.out])
   go_ret2
   rw [HA.out]
   exact (RetRo.nil (hb0.trans (hb1.mono (by simp)))).to HR.out.symm
 have HA:Hid (askOk n ss ov=true):=Lib.hid (pv_true ⟨hk,ho⟩)
 have HOV:=Lib.hid ho
 obtain ⟨o0,o1⟩:=ho
 have d0:decide (ov < 0)=false:=decide_eq_false (by omega)
 have d1:decide (100000 < ov)=false:=decide_eq_false (by omega)
 have hr:Hid (Right n ss):=Lib.hid (right_of_ok hk)
 have HG:Hid (Good n):=Lib.hid hr.out.g
 have hsl:ss.length≤60:=by
  refine Classical.byContradiction fun hc=>?_
  unfold signalsOk at hk
  split at hk
  ·simp at hk
  rw [if_pos (by omega)] at hk
  simp at hk
 have hpl:n.pieces.length≤100:=HG.out.le
 have Hh:=Lib.hid (h:NC 102 w ok n A0 A1)
 have Hs:=Lib.hid hs
 clear hk
 go_enter Try.func38,Try.ntmps38
 go_upto_region 4 with (go_at_call 68;refine (implSignalsOkC n ss A0 A1 A2 c0 c1 c2 _ (h.below hb0) (Kn.C_below hb0 hs) hc hn hi).mono ?_;rintro e w1 ⟨rfl,hb1⟩;rw [HS0.out];have HN1:Hid (Blk w1 w.heap.size 26 [.slice A0 n.pieces.length c0,.slice A1 n.joints.length c1]):=Lib.hid ((Blk.new w 26 [.slice A0 n.pieces.length c0,.slice A1 n.joints.length c1] rfl).below hb1 (by simp));have n0:=HN1.out.cell 0 rfl;have n1:=HN1.out.cell 1 rfl;have hnz:w.heap.size < w1.heap.size:=HN1.out.lt)
 obtain ⟨W1,hW1,hbW,HS1⟩:∃W,W=w1.alloc (.cells #[.slice A0 n.pieces.length c0,.slice A1 n.joints.length c1,.slice A2 ss.length c2,.int .i64 ov,.slice none 0 0,.int .i64 0] 121)∧Below w.heap.size w W∧Hid (WI W w1.heap.size n ss A0 A1 A2 c0 c1 c2 ov 0 (.slice none 0 0) []):=by
  have hbw:Below w.heap.size w w1:=hb0.trans (hb1.mono (by simp))
  refine ⟨_,rfl,hbw.alloc hbw.size _,Lib.hid ⟨Blk.new _ _ _ rfl,Kn.Rw.nil,?_,?_⟩⟩
  ·refine ⟨Kn.C_mono (fun b hb=>?_) (Kn.C_below (hbw.alloc hbw.size _) (Kn.C_bound Hh.out.p)),Kn.C_mono (fun b hb=>?_) (Kn.C_below (hbw.alloc hbw.size _) (Kn.C_bound Hh.out.j))⟩
   ·exact ⟨by simp;omega,fun e=>by rcases e with e | e;(· omega);(· simp [Value.ownBlock] at e)⟩
   ·exact ⟨by simp;omega,fun e=>by rcases e with e | e;(· omega);(· simp [Value.ownBlock] at e)⟩
  ·refine Kn.C_mono (fun b hb=>?_) (Kn.C_below (hbw.alloc hbw.size _) (Kn.C_bound Hs.out))
   exact ⟨by simp;omega,fun e=>by rcases e with e | e;(· omega);(· simp [Value.ownBlock] at e)⟩
 rw [←hW1]
 have hgW:w.heap.size < w1.heap.size:=hnz
 obtain ⟨g,hg⟩:∃g,Hid (w1.heap.size=g):=⟨_,Lib.hid rfl⟩
 rw [hg.out] at HS1 hgW
 rw [hg.out]
 clear hW1 n0 n1 hnz hb1 HN1 h hs d0 d1
 go_wp2
 go_loopw [31] (fun iv wr=>∃(k:Nat) (vo:Value),k≤ss.length∧iv=.int .i64 k∧Hid (WI wr g n ss A0 A1 A2 c0 c1 c2 ov ((allF n ss ov k).2:Int) vo (allF n ss ov k).1)∧Hid (Keep (WSet g (.slice none 0 0)) W1 wr)∧Hid (Nx (.slice none 0 0) vo W1.heap.size)) (fun iv _=>ss.length - (intOf iv).toNat)
 case atStart=>exact ⟨0,.slice none 0 0,Nat.zero_le _,rfl,Lib.hid HS1.out,Lib.hid (Keep.refl _ _),Lib.hid (Nx.refl _ _)⟩
 case round =>
 obtain ⟨k,vo,hkk,rfl,HS,HK,HN⟩:=hrel
 have hgr:g < wr.heap.size:=HS.out.f.lt
 have HAB:=Lib.hid (allF_bounds (n:=n) (ss:=ss) (ov:=ov) k)
 by_cases hlt:k < ss.length
 ·obtain ⟨ag,rfl,z0,z1,z2,z3,EZ,k0,k1,k2,k3⟩:=signalK_at HS.out.sig k hlt
  have i0:(0:Int)≤(k:Int):=Int.natCast_nonneg _
  have i1:(k:Int) < (ss.length:Int):=by omega
  have HJ:=Lib.hid (sig_in hr.out EZ.out)
  obtain ⟨u,hu,hz1,hway⟩:∃u:Nat,u < n.pieces.length∧z1=u∧(z3=1∨z3=-1):=by
   obtain ⟨⟨⟨b1,b2⟩,b3⟩,b4,b5,b6⟩:=HJ.out
   simp only at b1 b2 b3
   exact ⟨z1.toNat,by omega,by omega,b3⟩
  subst hz1
  have HFAR:Hid (0≤farOf n u z2 z3∧farOf n u z2 z3 < pl n u):=Lib.hid (by have:=HJ.out;simp only at this;unfold farOf;split <;> omega)
  have HAT:Hid (z2=atOf n u z3 (farOf n u z2 z3)):=Lib.hid (by unfold atOf farOf;split <;> omega)
  have HAS:Hid (allF n ss ov (k+1)=walkF n ss ov (2*n.pieces.length+1) (allF n ss ov k) (startR k) u z3 (farOf n u z2 z3)):=Lib.hid (allF_succ EZ.out)
  have g5:=HS.out.f.cell 5 rfl
  have f5:=HS.out.f.frozen 5
  have hTi:(allF n ss ov k).2≤20400:=by have:=HAB.out.2;omega
  have hwr:IntKind.i64.wrap (((allF n ss ov k).2:Int)+1)=((allF n ss ov k).2:Int)+1:=wrap_small (by omega) (by omega)
  go_upto_region 8 with (fail)
  obtain ⟨W2,hW2,HK2,HS2,HB2⟩:∃W,W=(wr.setCell ⟨g,5,none⟩ (.int .i64 (((allF n ss ov k).2:Int)+1))).alloc (.cells #[.string z0,.int .i64 u,.int .i64 z2,.int .i64 z3] 62)∧Hid (Keep (fun b=>b=g) wr W)∧Hid (WI W g n ss A0 A1 (some ag) c0 c1 c2 ov (((allF n ss ov k).2:Int)+1) vo (allF n ss ov k).1)∧Hid (Blk W wr.heap.size 62 [.string z0,.int .i64 u,.int .i64 z2,.int .i64 z3]):=by
   have hk:Keep (fun b=>b=g) wr ((wr.setCell ⟨g,5,none⟩ (.int .i64 (((allF n ss ov k).2:Int)+1))).alloc (.cells #[.string z0,.int .i64 u,.int .i64 z2,.int .i64 z3] 62)):=(Keep.setCell (S:=fun b=>b=g) (p:=⟨g,5,none⟩) (Keep.refl _ _) (fun _=>rfl) _).alloc _
   exact ⟨_,rfl,Lib.hid hk,Lib.hid (HS.out.later hk ((HS.out.f.set_ 5 _).alloc _)),Lib.hid (Blk.new _ _ _ (by simp))⟩
  rw [←hW2]
  clear hW2 k0 k1 k2 k3 g5 f5 hwr
  have t1:=HB2.out.cell 1 rfl
  have t2:=HB2.out.cell 2 rfl
  have t3:=HB2.out.cell 3 rfl
  have hsz:wr.heap.size < W2.heap.size:=HB2.out.lt
  have hW:=implOn (g:=g) (A0:=A0) (A1:=A1) (A2:=some ag) (c0:=c0) (c1:=c1) (c2:=c2) hr HOV (2*n.pieces.length+1) (allF n ss ov k) vo (startR k) u z3 (farOf n u z2 z3) z2 none none none none 0 0 0 0 W2 HS2 (Lib.hid (show stepK.C _ _ none [] from Kn.C_nil)) (Lib.hid (show lieK.C _ _ none [] from Kn.C_nil)) (Lib.hid (show Kn.int.C _ _ none [] from Kn.C_nil)) (Lib.hid (show partK.C _ _ none [] from Kn.C_nil)) (Lib.hid (by simp [startR])) (Lib.hid (RInv.start n ss k)) (Lib.hid (by simp [startR])) (Lib.hid (by have:=HAB.out;omega)) hu hway HFAR HAT
  rw [←HAS.out] at hW
  simp only [startR,List.length_nil] at hW
  go_wp2_with fail
  refine hW.mono ?_
  rintro e wz ⟨rfl,vo2,SZ,KZ,NZ⟩
  have HSZ:=Lib.hid SZ
  have HKZ:Hid (Keep (WSet g (.slice none 0 0)) W1 wz):=Lib.hid ((HK.out.trans HK2.out (fun x _ e=>.inl e)).trans KZ (WSet.next HN.out))
  have HNZ:Hid (Nx (.slice none 0 0) vo2 W1.heap.size):=Lib.hid (HN.out.trans NZ (Nat.le_trans HK.out.size HK2.out.size))
  clear SZ KZ NZ hW t1 t2 t3
  go_wp2
  go_roundw
  case rel=>exact ⟨k+1,vo2,by omega,by go_num,HSZ,HKZ,HNZ⟩
  case measure=>simp [intOf];omega
 obtain rfl:k=ss.length:=by omega
 obtain ⟨st,hst⟩:∃st,Hid (allF n ss ov ss.length=st):=⟨_,Lib.hid rfl⟩
 rw [hst.out] at HS
 have hbZ:Below w.heap.size w wr:=hbW.trans (HK.out.to_below (B:=w.heap.size) (Nat.le_trans hbW.size (Nat.le_refl _)) (fun b hb e=>by rcases e with e | e;(· omega);(· simp [Value.ownBlock] at e)))
 obtain ⟨Ao,co,rfl,hco,_⟩:=HS.out.out.form
 have q4:=HS.out.f.cell 4 rfl
 have HOUT:Hid (∀b,(Value.slice Ao st.1.length co).ownBlock=some b→w.heap.size≤b):=Lib.hid (fun b hb=>by
  rcases HN.out b hb with e | e
  ·simp [Value.ownBlock] at e
  ·exact Nat.le_trans hbW.size e)
 by_cases hfu:full st
 ·have HRF:Hid (routesF n ss ov=[]):=Lib.hid (routesF_full (by rw [hst.out];exact hfu))
  have HFU:Hid (IsFull st.1.length (st.2:Int) true):=Lib.hid ⟨fun _=>rfl,fun _=>by rcases hfu with h | h;(· exact .inl h);(· exact .inr (by omega))⟩
  clear hfu
  go_wp2_with (go_at_call 70;refine (implFull true wr HS.out.f HFU).mono ?_;rintro e w2 ⟨rfl,rfl⟩)
  go_ret2
  rw [HA.out]
  exact (RetRo.nil hbZ).to HRF.out.symm
 ·have HRF:Hid (routesF n ss ov=st.1):=Lib.hid (by rw [routesF_all HS0.out HOV.out (by rw [hst.out];exact hfu),hst.out])
  have HFU:Hid (IsFull st.1.length (st.2:Int) false):=Lib.hid ⟨fun h=>absurd (by rcases h with h | h;(· exact .inl h);(· exact .inr (by omega))) hfu,fun h=>by cases h⟩
  have hfin:RetRo st.1 true w (.returned (.tuple #[.slice Ao st.1.length co,.bool true])) wr:=⟨Ao,co,rfl,hco,Lib.hid (HS.out.out.mono (fun b hb=>⟨hb.1,fun e=>hb.2 (.inr e)⟩)),HOUT,hbZ⟩
  clear hfu
  go_wp2_with (go_at_call 70;refine (implFull false wr HS.out.f HFU).mono ?_;rintro e w2 ⟨rfl,rfl⟩)
  go_ret2
  rw [HA.out]
  exact hfin.to HRF.out.symm
end Go.Proofs.Ytjccgneimknbpaa.L
namespace Go.Proofs.Ytjccgneimknbpaa.L
open Go.RowKit
def Marked (e:TypeId) (sz:Nat) (A:Option Addr) (n c:Nat) (k:Int) (m:Nat) (w:World):Prop :=
 ∃inner,w.ownsRow 0 e sz (.slice A n c) n inner∧∀i,i < m→inner[i]?=some (.int .i64 (k+i))
theorem Marked.start {e:TypeId} {sz:Nat} {A:Option Addr} {n c:Nat} {k:Int} {w:World} {inner:List Value} (h:w.ownsRow 0 e sz (.slice A n c) n inner):Marked e sz A n c k 0 w:=⟨inner,h,fun i hi=>absurd hi (by omega)⟩
theorem Marked.move {e:TypeId} {sz:Nat} {A:Option Addr} {n c m:Nat} {k:Int} {w w1:World} (h:Marked e sz A n c k m w) (hm:∀b,(Value.slice A n c).ownBlock=some b→w1.heap[b]?=w.heap[b]?):Marked e sz A n c k m w1:=by
 obtain ⟨inner,ho,hi⟩:=h
 exact ⟨inner,Kn.own_move ho hm,hi⟩
theorem Marked.at_ {e:TypeId} {sz:Nat} {A:Option Addr} {n c m:Nat} {k:Int} {w:World} (h:Marked e sz A n c k m w) (hn:0 < n):∃g,A=some ⟨g,0,none⟩∧g < w.heap.size∧(∀i,i < m→i < n*sz→w.cell? ⟨g,i,none⟩=some (.int .i64 (k+i))) ∧
  (∀i,i < n*sz→∃u,w.cell? ⟨g,i,none⟩=some u)∧(∀i,w.frozen? ⟨g,i,none⟩=false):=by
 obtain ⟨inner,ho,hi⟩:=h
 have ho':=ho
 rcases ho.2 with ⟨he,h1⟩ | ⟨g,cap,cur,he,_,hh,_,_,_⟩
 ·omega
 ·injection he with he _ _
  subst he
  refine ⟨g,rfl,lt_of_get hh,fun i h1 h2=>by rw [ho.cellAt _ h2];exact hi i h1,fun i h2=>?_,fun i=>ho.frozenAt _⟩
  rw [ho.cellAt _ h2]
  exact ⟨_,List.getElem?_eq_getElem (by rw [ho.1];exact h2)⟩
theorem Marked.put {e:TypeId} {sz n c m g:Nat} {k:Int} {w:World} (h:Marked e sz (some ⟨g,0,none⟩) n c k m w) (hm:m < n*sz) {j:Nat} {v:Int} (hj:j=m) (hv:v=k+m) :
  Marked e sz (some ⟨g,0,none⟩) n c k (m+1) (w.setCell ⟨g,j,none⟩ (.int .i64 v))∧w.grownBy (w.setCell ⟨g,j,none⟩ (.int .i64 v)) (some g):=by
 subst hj
 subst hv
 obtain ⟨inner,ho,hi⟩:=h
 obtain ⟨h1,h2⟩:=ho.stored j (.int .i64 (k+j))
 refine ⟨⟨_,h1,fun i hij=>?_⟩,h2⟩
 by_cases e1:i=j
 ·subst e1
  rw [List.getElem?_set_self (by rw [ho.1];exact hm)]
 ·rw [List.getElem?_set_ne (fun h=>e1 h.symm)]
  exact hi i (by omega)
theorem O_row {α:Type} {d:Kn α} {e:Nat} {w:World} {xs:List α} {v:Value} {F:List Nat} (h:(Kn.slice e d).O w xs [v] F):∃inner,w.ownsRow 0 e d.sz v xs.length inner∧∀b,v.ownBlock=some b→b∈F:=by
 obtain ⟨v',ps,he,rfl,⟨inner,ho,_,_⟩,rfl⟩:=h
 injection he with he _
 subst he
 exact ⟨inner,by rw [List.length_map];exact ho,fun b hb=>Kn.mem_foot_own hb⟩
end Go.Proofs.Ytjccgneimknbpaa.L
namespace Go.Proofs.Ytjccgneimknbpaa.L
open Go.RowKit
theorem items_apart {α:Type}:∀{ps:List (α × List Nat)} {i j:Nat} {p q:α × List Nat} {b:Nat},((ps.map Prod.snd).flatten).Nodup→ps[i]?=some p→ps[j]?=some q→i≠j→b∈p.2→b∈q.2→False
 | [],_,_,_,_,_,_,h,_,_,_,_=>by simp at h
 | a::ps,0,0,_,_,_,_,_,_,hne,_,_=>hne rfl
 | a::ps,0,j+1,p,q,b,hn,hp,hq,_,h1,h2=>by
  rw [List.map_cons,List.flatten_cons,List.nodup_append] at hn
  simp only [List.getElem?_cons_zero,Option.some.injEq] at hp
  subst hp
  rw [List.getElem?_cons_succ] at hq
  exact hn.2.2 b h1 b (List.mem_flatten.2 ⟨q.2,List.mem_map.2 ⟨q,List.mem_of_getElem? hq,rfl⟩,h2⟩) rfl
 | a::ps,i+1,0,p,q,b,hn,hp,hq,_,h1,h2=>by
  rw [List.map_cons,List.flatten_cons,List.nodup_append] at hn
  simp only [List.getElem?_cons_zero,Option.some.injEq] at hq
  subst hq
  rw [List.getElem?_cons_succ] at hp
  exact hn.2.2 b h2 b (List.mem_flatten.2 ⟨p.2,List.mem_map.2 ⟨p,List.mem_of_getElem? hp,rfl⟩,h1⟩) rfl
 | a::ps,i+1,j+1,p,q,b,hn,hp,hq,hne,h1,h2=>by
  rw [List.map_cons,List.flatten_cons,List.nodup_append] at hn
  rw [List.getElem?_cons_succ] at hp hq
  exact items_apart (ps:=ps) hn.2.1 hp hq (fun e=>hne (by rw [e])) h1 h2
def Firsts {α:Type} (ps:List (α × List Nat)) (m b:Nat):Prop:=∃i p,i < m∧ps[i]?=some p∧b∈p.2
theorem firsts_mem {α:Type} {ps:List (α × List Nat)} {m b:Nat} (h:Firsts ps m b):b∈(ps.map Prod.snd).flatten:=by
 obtain ⟨i,p,_,hp,hb⟩:=h
 exact List.mem_flatten.2 ⟨p.2,List.mem_map.2 ⟨p,List.mem_of_getElem? hp,rfl⟩,hb⟩
end Go.Proofs.Ytjccgneimknbpaa.L
namespace Go.Proofs.Ytjccgneimknbpaa.L
open Go.RowKit
theorem drop_cells {inner cs:List Value} {j sz n:Nat} (hl:inner.length=n*sz) (hj:j < n) (h:(inner.drop (j*sz)).take sz=cs) (i:Nat) (hi:i < sz):inner[j*sz+i]?=cs[i]?:=by
 rw [←h,List.getElem?_take,if_pos hi,List.getElem?_drop]
theorem O_slice {α:Type} {d:Kn α} {e:Nat} {w:World} {xs:List α} {v:Value} {F:List Nat} (h:(Kn.slice e d).O w xs [v] F):∃A c,v=.slice A xs.length c:=by
 obtain ⟨A,c,he,_,_⟩:=(Kn.slice e d).K_of h
 injection he with he _
 exact ⟨A,c,he⟩
end Go.Proofs.Ytjccgneimknbpaa.L
namespace Go.Proofs.Ytjccgneimknbpaa.L
open Go.RowKit
open Classical
structure Ap (B:Nat) (A:Option Addr) (c:Nat) (rs:List Route) (inner0 inner:List Value) (ps:List (Route × List Nat)) (i:Nat) (w:World):Prop where
 row:w.ownsRow 0 44 8 (.slice A rs.length c) rs.length inner
 same:∀m,8*i≤m→inner[m]?=inner0[m]?
 firsts:ps.map Prod.fst=rs.take i
 items:Kn.Items rK w ps inner
 nodup:(ps.map Prod.snd).flatten.Nodup
 above:∀b,b∈(ps.map Prod.snd).flatten→B≤b
theorem set6_out {inner:List Value} {k m:Nat} {s2 s3 s4 s5 s6 s7:Value} (h:m < k∨k+6≤m):((((((inner.set k s2).set (k+1) s3).set (k+2) s4).set (k+3) s5).set (k+4) s6).set (k+5) s7)[m]?=inner[m]?:=by
 rw [List.getElem?_set_ne (by omega),List.getElem?_set_ne (by omega),List.getElem?_set_ne (by omega),List.getElem?_set_ne (by omega),List.getElem?_set_ne (by omega),List.getElem?_set_ne (by omega)]
theorem set6_in {inner:List Value} {k:Nat} {s2 s3 s4 s5 s6 s7:Value} (h:k+6≤inner.length):∀i,i < 6→((((((inner.set k s2).set (k+1) s3).set (k+2) s4).set (k+3) s5).set (k+4) s6).set (k+5) s7)[k+i]?=[s2,s3,s4,s5,s6,s7][i]?:=by
 intro i hi
 match i,hi with
 | 0,_=>rw [List.getElem?_set_ne (by omega),List.getElem?_set_ne (by omega),List.getElem?_set_ne (by omega),List.getElem?_set_ne (by omega),List.getElem?_set_ne (by omega),Nat.add_zero,List.getElem?_set_self (by omega)];rfl
 | 1,_=>rw [List.getElem?_set_ne (by omega),List.getElem?_set_ne (by omega),List.getElem?_set_ne (by omega),List.getElem?_set_ne (by omega),List.getElem?_set_self (by simp only [List.length_set];omega)];rfl
 | 2,_=>rw [List.getElem?_set_ne (by omega),List.getElem?_set_ne (by omega),List.getElem?_set_ne (by omega),List.getElem?_set_self (by simp only [List.length_set];omega)];rfl
 | 3,_=>rw [List.getElem?_set_ne (by omega),List.getElem?_set_ne (by omega),List.getElem?_set_self (by simp only [List.length_set];omega)];rfl
 | 4,_=>rw [List.getElem?_set_ne (by omega),List.getElem?_set_self (by simp only [List.length_set];omega)];rfl
 | 5,_=>rw [List.getElem?_set_self (by simp only [List.length_set];omega)];rfl
theorem Ap.next {B:Nat} {A:Option Addr} {c:Nat} {rs:List Route} {inner0 inner:List Value} {ps:List (Route × List Nat)} {i:Nat} {w wz:World} {x:Route} {s2 s3 s4 s5 s6 s7:Value} {F:List Nat} {g:Nat} (h:Ap B A c rs inner0 inner ps i w) (hx:rs[i]?=some x) (hA:A=some ⟨g,0,none⟩)
  (c0:inner0[i*8]?=some (.int .i64 x.frm)) (c1:inner0[i*8+1]?=some (.int .i64 x.til)) (hk:Keep (fun b=>b=g) w wz) (hg:g < B) (hB:B≤w.heap.size)
  (hrow:wz.ownsRow 0 44 8 (.slice A rs.length c) rs.length ((((((inner.set (i*8+2) s2).set (i*8+3) s3).set (i*8+4) s4).set (i*8+5) s5).set (i*8+6) s6).set (i*8+7) s7))
  (hO:rK.O wz x [.int .i64 x.frm,.int .i64 x.til,s2,s3,s4,s5,s6,s7] F) (hF:∀b,b∈F→w.heap.size≤b) :
  Ap B A c rs inner0 ((((((inner.set (i*8+2) s2).set (i*8+3) s3).set (i*8+4) s4).set (i*8+5) s5).set (i*8+6) s6).set (i*8+7) s7) (ps++[(x,F)]) (i+1) wz:=by
 have hil:i < rs.length:=(List.getElem?_eq_some_iff.1 hx).1
 have hin:inner.length=rs.length*8:=h.row.1
 have hpl:ps.length=i:=by
  have:=congrArg List.length h.firsts
  rw [List.length_map,List.length_take] at this
  omega
 have hold:∀b,b∈(ps.map Prod.snd).flatten→b < w.heap.size:=by
  intro b hb
  obtain ⟨l,hl,hb⟩:=List.mem_flatten.1 hb
  obtain ⟨p,hp,rfl⟩:=List.mem_map.1 hl
  obtain ⟨j,hj⟩:=List.mem_iff_getElem?.1 hp
  exact rK.O_lt (h.items j p hj) b hb
 have hout:∀m,m < i*8+2∨i*8+8≤m→((((((inner.set (i*8+2) s2).set (i*8+3) s3).set (i*8+4) s4).set (i*8+5) s5).set (i*8+6) s6).set (i*8+7) s7)[m]?=inner[m]?:=fun m hm=>set6_out (k:=i*8+2) (by omega)
 refine ⟨hrow,fun m hm=>(hout m (by omega)).trans (h.same m (by omega)),?_,?_,?_,?_⟩
 ·rw [List.map_append,h.firsts,List.take_add_one,hx]
  rfl
 ·intro j p hj
  rcases Nat.lt_or_ge j i with hji | hji
  ·rw [List.getElem?_append_left (by omega)] at hj
   have hch:((((((((inner.set (i*8+2) s2).set (i*8+3) s3).set (i*8+4) s4).set (i*8+5) s5).set (i*8+6) s6).set (i*8+7) s7)).drop (j*rK.sz)).take rK.sz=(inner.drop (j*rK.sz)).take rK.sz:=by
    apply List.ext_getElem?
    intro m
    rw [List.getElem?_take,List.getElem?_take]
    split
    ·rename_i hm
     rw [List.getElem?_drop,List.getElem?_drop]
     exact hout _ (.inl (by show j*8+m < i*8+2;have:m < 8:=hm;omega))
    ·rfl
   rw [hch]
   refine rK.O_move (fun b hb=>?_) (h.items j p hj)
   have hbf:b∈(ps.map Prod.snd).flatten:=List.mem_flatten.2 ⟨p.2,List.mem_map.2 ⟨p,List.mem_of_getElem? hj,rfl⟩,hb⟩
   exact hk.block b (hold b hbf) (fun e=>by have:=h.above b hbf;omega)
  ·have hjl:=(List.getElem?_eq_some_iff.1 hj).1
   rw [List.length_append,List.length_singleton] at hjl
   obtain rfl:j=i:=by omega
   rw [List.getElem?_append_right (by omega),hpl,Nat.sub_self] at hj
   obtain rfl:=Option.some.inj hj
   have hch:((((((((inner.set (j*8+2) s2).set (j*8+3) s3).set (j*8+4) s4).set (j*8+5) s5).set (j*8+6) s6).set (j*8+7) s7)).drop (j*rK.sz)).take rK.sz=[.int .i64 x.frm,.int .i64 x.til,s2,s3,s4,s5,s6,s7]:=by
    apply List.ext_getElem?
    intro m
    rw [List.getElem?_take]
    split
    ·rename_i hm
     have hm8:m < 8:=hm
     rw [List.getElem?_drop]
     show _[j*8+m]?=_
     match m,hm8 with
     | 0,_=>rw [hout _ (by omega),h.same _ (by omega)];exact c0
     | 1,_=>rw [hout _ (by omega),h.same _ (by omega)];exact c1
     | m+2,hm8=>rw [show j*8+(m+2)=j*8+2+m by omega];exact set6_in (k:=j*8+2) (by omega) m (by omega)
    ·rename_i hm
     have hm8:8≤m:=Nat.le_of_not_lt hm
     rw [List.getElem?_eq_none (by simp;omega)]
   rw [hch]
   exact hO
 ·rw [List.map_append,List.flatten_append,List.nodup_append]
  refine ⟨h.nodup,by simpa using rK.O_nodup hO,fun a ha b hb=>?_⟩
  have h1:=hold a ha
  have h2:=hF b (by simpa using hb)
  omega
 ·intro b hb
  rw [List.map_append,List.flatten_append] at hb
  rcases List.mem_append.1 hb with hb | hb
  ·exact h.above b hb
  ·have:=hF b (by simpa using hb)
   omega
theorem below_undrew {B:Nat} {w w1:World} (h:Below B w.drew w1):Below B w w1:=⟨h.os,h.tape,h.output,h.size,h.block⟩
theorem Rw_far {α:Type} {d:Kn α} {e g:Nat} {w w1:World} {v:Value} {xs:List α} (h:d.Rw e w nobody v xs) (hk:Keep (fun b=>b=g) w w1) (hg:¬v.ownBlock=some g):d.Rw e w1 nobody v xs :=
 h.grownK hk (fun k hkk e=>hg (by rw [hkk,e])) (fun _ h=>h.elim)
def RetAp (A:Option Addr) (c:Nat) (rs:List Route) (w:World) (en:Ending) (w':World):Prop :=
 en=.returned (.slice A rs.length c)∧Hid (∃ps,rK.R 44 w' (.slice A rs.length c) ps∧ps.map Prod.fst=rs∧∀b,b∈(ps.map Prod.snd).flatten→w.heap.size≤b)∧Keep (fun b=>(Value.slice A rs.length c).ownBlock=some b) w w'
set_option maxRecDepth 100000 in
set_option maxHeartbeats 8000000 in
theorem implApart {S:Nat→Prop} (rs:List Route) (A:Option Addr) (c:Nat) (w:World) (hR:rK.Rw 44 w (Out w (fun b=>(Value.slice A rs.length c).ownBlock=some b)) (.slice A rs.length c) rs) (hn:Hid (∀x∈rs,x.n≤200000)) :
  Calls Try.prog 39 #[.slice A rs.length c] w (RetAp A c rs w):=by
 have hrlen:rs.length≤9223372036854775807:=by obtain ⟨_,_,_,_,h⟩:=hR.form;exact h
 have hlt:=Lib.hid hR.lt
 obtain ⟨inner0,ho,hit⟩:=hR
 have HO:=Lib.hid ho
 have HI:=Lib.hid hit
 clear ho hit
 go_enter Try.func39,Try.ntmps39
 go_wp2
 go_loopw [7] (fun iv wr=>∃(i:Nat) (inner:List Value) (ps:List (Route × List Nat)),i≤rs.length∧iv=.int .i64 i∧Hid (Ap w.heap.size A c rs inner0 inner ps i wr)∧Hid (Keep (fun b=>(Value.slice A rs.length c).ownBlock=some b) w wr)) (fun iv _=>rs.length - (intOf iv).toNat)
 case atStart=>exact ⟨0,inner0,[],Nat.zero_le _,rfl,Lib.hid ⟨HO.out,fun _ _=>rfl,by simp,fun j p h=>by simp at h,by simp,fun b h=>by simp at h⟩,Lib.hid (Keep.refl _ _)⟩
 case round =>
 obtain ⟨i,inner,ps,hi,rfl,HA,HK⟩:=hrel
 by_cases hlt':i < rs.length
 ·have i0:(0:Int)≤(i:Int):=Int.natCast_nonneg _
  have i1:(i:Int) < (rs.length:Int):=by omega
  obtain ⟨x,hx⟩:∃x,rs[i]?=some x:=⟨_,List.getElem?_eq_getElem hlt'⟩
  have hxn:x.n≤200000:=hn.out x (List.mem_of_getElem? hx)
  have hxs:x.n=x.steps.length+x.lies.length+x.crosses.length+x.parts.length+x.over.length+x.flanks.length:=rfl
  obtain ⟨g,rfl,hgw⟩:∃g,A=some ⟨g,0,none⟩∧g < w.heap.size:=by
   rcases HO.out.2 with ⟨he,h2⟩ | ⟨g,cap,cur,he,_,hh,_,_,_⟩
   ·omega
   ·injection he with he _ _
    exact ⟨g,he,lt_of_get hh⟩
  have hin:inner0.length=rs.length*8:=HO.out.1
  have hKx:=HI.out i x hx
  obtain ⟨A2,c2,A3,c3,A4,c4,A5,c5,A6,c6,A7,c7,hcs,l2,H2,l3,H3,l4,H4,l5,H5,l6,H6,l7,H7⟩:=routeK_open hKx
  have hdc:=drop_cells (sz:=8) hin hlt' hcs
  have H2:=Lib.hid (Kn.C_keep HK.out (fun _ _ h=>h) H2)
  have H3:=Lib.hid (Kn.C_keep HK.out (fun _ _ h=>h) H3)
  have H4:=Lib.hid (Kn.C_keep HK.out (fun _ _ h=>h) H4)
  have H5:=Lib.hid (Kn.C_keep HK.out (fun _ _ h=>h) H5)
  have H6:=Lib.hid (Kn.C_keep HK.out (fun _ _ h=>h) H6)
  have H7:=Lib.hid (Kn.C_keep HK.out (fun _ _ h=>h) H7)
  have HC0:Hid (inner0[i*8]?=some (.int .i64 x.frm)):=Lib.hid (hdc 0 (by omega))
  have HC1:Hid (inner0[i*8+1]?=some (.int .i64 x.til)):=Lib.hid (hdc 1 (by omega))
  have hcl:∀m u,m < 8→[Value.int .i64 x.frm,.int .i64 x.til,.slice A2 x.steps.length c2,.slice A3 x.lies.length c3,.slice A4 x.crosses.length c4,.slice A5 x.parts.length c5,.slice A6 x.over.length c6,.slice A7 x.flanks.length c7][m]?=some u→wr.cell? ⟨g,i*8+m,none⟩=some u:=fun m u hm hu=>by
   rw [HA.out.row.cellAt _ (by omega),HA.out.same _ (by omega)]
   exact (hdc m hm).trans hu
  have q2:=hcl 2 _ (by omega) rfl
  have f2:wr.frozen? ⟨g,i*8+2,none⟩=false:=HA.out.row.frozenAt _
  have q3:=hcl 3 _ (by omega) rfl
  have f3:wr.frozen? ⟨g,i*8+3,none⟩=false:=HA.out.row.frozenAt _
  have q4:=hcl 4 _ (by omega) rfl
  have f4:wr.frozen? ⟨g,i*8+4,none⟩=false:=HA.out.row.frozenAt _
  have q5:=hcl 5 _ (by omega) rfl
  have f5:wr.frozen? ⟨g,i*8+5,none⟩=false:=HA.out.row.frozenAt _
  have q6:=hcl 6 _ (by omega) rfl
  have f6:wr.frozen? ⟨g,i*8+6,none⟩=false:=HA.out.row.frozenAt _
  have q7:=hcl 7 _ (by omega) rfl
  have f7:wr.frozen? ⟨g,i*8+7,none⟩=false:=HA.out.row.frozenAt _
  have HROa:=Lib.hid HA.out.row
  have HXI:=Lib.hid hx
  have hgla:g < wr.heap.size:=Nat.lt_of_lt_of_le hgw HK.out.size
  have HQ:Hid (wr.cell? ⟨g,i*8+5,none⟩=some (.slice A5 x.parts.length c5)∧wr.cell? ⟨g,i*8+6,none⟩=some (.slice A6 x.over.length c6)∧wr.cell? ⟨g,i*8+7,none⟩=some (.slice A7 x.flanks.length c7)):=Lib.hid ⟨q5,q6,q7⟩
  clear hcl hdc hcs hKx hin hx l2 l3 l4 l5 l6 l7
  have f5':=Lib.hid f5
  have f6':=Lib.hid f6
  have f7':=Lib.hid f7
  clear q5 q6 q7 f5 f6 f7
  go_upto_region 5 with (fail)
  have HSFa:Hid (∀w',Below wr.heap.size wr w'→(fun w'=>w'.cell? ⟨g,i*8+2,none⟩=some (.slice A2 x.steps.length c2)∧w'.cell? ⟨g,i*8+3,none⟩=some (.slice A3 x.lies.length c3)∧w'.cell? ⟨g,i*8+4,none⟩=some (.slice A4 x.crosses.length c4)) w'):=Lib.hid (fun w' hb=>⟨cell_below hb q2,cell_below hb q3,cell_below hb q4⟩)
  refine Rg.start 18 (fun w'=>w'.cell? ⟨g,i*8+2,none⟩=some (.slice A2 x.steps.length c2)∧w'.cell? ⟨g,i*8+3,none⟩=some (.slice A3 x.lies.length c3)∧w'.cell? ⟨g,i*8+4,none⟩=some (.slice A4 x.crosses.length c4)) 27 rfl (by kernel_rfl) ?_
  have hHeld:=HSFa.out _ (Below.refl _ _).drew
  refine Rg.pure 0 (v:=?v1) rfl (by kernel_rfl) (fun _ _ _ h=>h) (by rfl) hHeld ?y1 ?h1
  case y1=>(intro wA;go_simp;first | done | with_reducible rfl)
  simp only [Act.put,List.setIfInBounds_toArray,List.set_cons_zero,List.set_cons_succ]
  refine Rg.pure 1 (v:=?v2) rfl (by kernel_rfl) (fun _ _ _ h=>h) (by rfl) hHeld ?y2 ?h2
  case y2=>(intro wA;go_simp;first | done | with_reducible rfl)
  simp only [Act.put,List.setIfInBounds_toArray,List.set_cons_zero,List.set_cons_succ]
  refine Rg.pure 2 (v:=?v3) rfl (by kernel_rfl) (fun _ _ _ h=>h) (by rfl) hHeld ?y3 ?h3
  case y3=>(intro wA;go_simp;first | done | with_reducible rfl)
  simp only [Act.put,List.setIfInBounds_toArray,List.set_cons_zero,List.set_cons_succ]
  refine Rg.pure 3 (v:=?v4) rfl (by kernel_rfl) (fun _ _ _ h=>h) (by rfl) hHeld ?y4 ?h4
  case y4=>(intro wA;go_simp;first | done | with_reducible rfl)
  simp only [Act.put,List.setIfInBounds_toArray,List.set_cons_zero,List.set_cons_succ]
  refine Rg.pure 4 (v:=?v5) rfl (by kernel_rfl) (fun _ _ _ h=>h) (by rfl) hHeld ?y5 ?h5
  case y5=>(intro wA;go_simp;first | done | with_reducible rfl)
  simp only [Act.put,List.setIfInBounds_toArray,List.set_cons_zero,List.set_cons_succ]
  refine Rg.pure 5 (v:=?v6) rfl (by kernel_rfl) (fun _ _ _ h=>h) (by rfl) hHeld ?y6 ?h6
  case y6=>(intro wA;go_simp;first | done | with_reducible rfl)
  simp only [Act.put,List.setIfInBounds_toArray,List.set_cons_zero,List.set_cons_succ]
  refine Rg.held 6 (v:=?v7) rfl (by kernel_rfl) (fun _ _ _ h=>h) (by rfl) hHeld ?y7 ?h7
  case y7=>(intro wA hSw;(try dsimp only at hSw);go_simp;first | done | with_reducible rfl)
  simp only [Act.put,List.setIfInBounds_toArray,List.set_cons_zero,List.set_cons_succ]
  refine Rg.pure 8 (v:=?v8) rfl (by kernel_rfl) (fun _ _ _ h=>h) (by rfl) hHeld ?y8 ?h8
  case y8=>(intro wA;go_simp;first | done | with_reducible rfl)
  simp only [Act.put,List.setIfInBounds_toArray,List.set_cons_zero,List.set_cons_succ]
  refine Rg.pure 9 (v:=?v9) rfl (by kernel_rfl) (fun _ _ _ h=>h) (by rfl) hHeld ?y9 ?h9
  case y9=>(intro wA;go_simp;first | done | with_reducible rfl)
  simp only [Act.put,List.setIfInBounds_toArray,List.set_cons_zero,List.set_cons_succ]
  refine Rg.pure 10 (v:=?v10) rfl (by kernel_rfl) (fun _ _ _ h=>h) (by rfl) hHeld ?y10 ?h10
  case y10=>(intro wA;go_simp;first | done | with_reducible rfl)
  simp only [Act.put,List.setIfInBounds_toArray,List.set_cons_zero,List.set_cons_succ]
  refine Rg.held 11 (v:=?v11) rfl (by kernel_rfl) (fun _ _ _ h=>h) (by rfl) hHeld ?y11 ?h11
  case y11=>(intro wA hSw;(try dsimp only at hSw);go_simp;first | done | with_reducible rfl)
  simp only [Act.put,List.setIfInBounds_toArray,List.set_cons_zero,List.set_cons_succ]
  refine Rg.pure 13 (v:=?v12) rfl (by kernel_rfl) (fun _ _ _ h=>h) (by rfl) hHeld ?y12 ?h12
  case y12=>(intro wA;go_simp;first | done | with_reducible rfl)
  simp only [Act.put,List.setIfInBounds_toArray,List.set_cons_zero,List.set_cons_succ]
  refine Rg.pure 14 (v:=?v13) rfl (by kernel_rfl) (fun _ _ _ h=>h) (by rfl) hHeld ?y13 ?h13
  case y13=>(intro wA;go_simp;first | done | with_reducible rfl)
  simp only [Act.put,List.setIfInBounds_toArray,List.set_cons_zero,List.set_cons_succ]
  refine Rg.pure 15 (v:=?v14) rfl (by kernel_rfl) (fun _ _ _ h=>h) (by rfl) hHeld ?y14 ?h14
  case y14=>(intro wA;go_simp;first | done | with_reducible rfl)
  simp only [Act.put,List.setIfInBounds_toArray,List.set_cons_zero,List.set_cons_succ]
  refine Rg.held 16 (v:=?v15) rfl (by kernel_rfl) (fun _ _ _ h=>h) (by rfl) hHeld ?y15 ?h15
  case y15=>(intro wA hSw;(try dsimp only at hSw);go_simp;first | done | with_reducible rfl)
  simp only [Act.put,List.setIfInBounds_toArray,List.set_cons_zero,List.set_cons_succ]
  refine Rg.one 7 rfl (by kernel_rfl) (fun K hK=>?_)
  refine step_is_call 71 rfl rfl ?_
  go_simp
  go_at_call 71
  have hbd:Below wr.heap.size wr _:=(Below.refl _ _).drew
  (with_reducible refine (cloneStep x.steps A2 c2 _ (Kn.C_below hbd H2.out) (by omega)).mono ?_)
  rintro e wx2 ⟨B2,d2,rfl,hd2,HR2,HO2,hbc2⟩
  have hbx2:Below wr.heap.size wr wx2:=hbd.trans (hbc2.mono hbd.size)
  refine hK.out _ _ (HSFa.out _ hbx2) ?_
  clear hK K hbd
  try simp only [Act.put,List.setIfInBounds_toArray,List.set_cons_zero,List.set_cons_succ]
  refine Rg.one 12 rfl (by kernel_rfl) (fun K hK=>?_)
  refine step_is_call 72 rfl rfl ?_
  go_simp
  go_at_call 72
  have hbd:Below wr.heap.size wr _:=hbx2
  (with_reducible refine (cloneLie x.lies A3 c3 _ (Kn.C_below hbd H3.out) (by omega)).mono ?_)
  rintro e wx3 ⟨B3,d3,rfl,hd3,HR3,HO3,hbc3⟩
  have hbx3:Below wr.heap.size wr wx3:=hbd.trans (hbc3.mono hbd.size)
  refine hK.out _ _ (HSFa.out _ hbx3) ?_
  clear hK K hbd
  try simp only [Act.put,List.setIfInBounds_toArray,List.set_cons_zero,List.set_cons_succ]
  refine Rg.one 17 rfl (by kernel_rfl) (fun K hK=>?_)
  refine step_is_call 73 rfl rfl ?_
  go_simp
  go_at_call 73
  have hbd:Below wr.heap.size wr _:=hbx3
  (with_reducible refine (cloneInt x.crosses A4 c4 _ (Kn.C_below hbd H4.out) (by omega)).mono ?_)
  rintro e wx4 ⟨B4,d4,rfl,hd4,HR4,HO4,hbc4⟩
  have hbx4:Below wr.heap.size wr wx4:=hbd.trans (hbc4.mono hbd.size)
  refine hK.out _ _ (HSFa.out _ hbx4) ?_
  clear hK K hbd
  try simp only [Act.put,List.setIfInBounds_toArray,List.set_cons_zero,List.set_cons_succ]
  obtain ⟨r2,r3,r4⟩:=HSFa.out _ hbx4
  have z2:wx4.frozen? ⟨g,i*8+2,none⟩=false:=(hbx4.frozen (p:=⟨g,i*8+2,none⟩) hgla).trans f2
  have z3:wx4.frozen? ⟨g,i*8+3,none⟩=false:=(hbx4.frozen (p:=⟨g,i*8+3,none⟩) hgla).trans f3
  have z4:wx4.frozen? ⟨g,i*8+4,none⟩=false:=(hbx4.frozen (p:=⟨g,i*8+4,none⟩) hgla).trans f4
  have hrowa:=Kn.own_move HROa.out (fun b hb=>hbx4.block b (by rw [show b=g from (by simpa [Value.ownBlock] using hb.symm)];exact hgla))
  obtain ⟨ho1,hg1⟩:=hrowa.stored (i*8+2) (.slice B2 x.steps.length d2)
  obtain ⟨ho2,hg2⟩:=ho1.stored (i*8+3) (.slice B3 x.lies.length d3)
  obtain ⟨ho3,hg3⟩:=ho2.stored (i*8+4) (.slice B4 x.crosses.length d4)
  obtain ⟨Wa,hWa,HRNa,HKNa,HZNa⟩:∃W,W=((wx4.setCell ⟨g,i*8+2,none⟩ (.slice B2 x.steps.length d2)).setCell ⟨g,i*8+3,none⟩ (.slice B3 x.lies.length d3)).setCell ⟨g,i*8+4,none⟩ (.slice B4 x.crosses.length d4)∧Hid (W.ownsRow 0 44 8 (.slice (some ⟨g,0,none⟩) rs.length c) rs.length (((inner.set (i*8+2) (.slice B2 x.steps.length d2)).set (i*8+3) (.slice B3 x.lies.length d3)).set (i*8+4) (.slice B4 x.crosses.length d4)))∧Hid (Keep (fun b=>b=g) wx4 W)∧Hid (W.heap.size=wx4.heap.size) :=
   ⟨_,rfl,Lib.hid ho3,Lib.hid ((((Keep.refl _ _).grown hg1 (fun k hk _=>by simpa [Value.ownBlock] using hk.symm)).grown hg2 (fun k hk _=>by simpa [Value.ownBlock] using hk.symm)).grown hg3 (fun k hk _=>by simpa [Value.ownBlock] using hk.symm)),Lib.hid (by simp)⟩
  clear ho1 ho2 ho3 hg1 hg2 hg3 hrowa
  refine Rg.row [18,19,20,21,22,23,24,25,26] [_,_,_,_,_,_,_,_,_] rfl (by kernel_rfl) ?_
  go_upto_region 6 with (fail)
  rw [←hWa]
  clear hWa z2 z3 z4 r2 r3 r4 q2 q3 q4 f2 f3 f4
  have HKa:Hid (Keep (fun b=>b=g) wr Wa):=Lib.hid ((Keep.of_below hbx4).trans HKNa.out (fun _ _ h=>h))
  have hgLb:g < Wa.heap.size:=Nat.lt_of_lt_of_le hgla HKa.out.size
  obtain ⟨innb,hinnb⟩:∃l,Hid ((((inner.set (i*8+2) (.slice B2 x.steps.length d2)).set (i*8+3) (.slice B3 x.lies.length d3)).set (i*8+4) (.slice B4 x.crosses.length d4))=l):=⟨_,Lib.hid rfl⟩
  have HROb:Hid (Wa.ownsRow 0 44 8 (.slice (some ⟨g,0,none⟩) rs.length c) rs.length innb):=Lib.hid (by have:=HRNa.out;rwa [hinnb.out] at this)
  have hcb:∀m,i*8+5≤m→m < i*8+8→Wa.cell? ⟨g,m,none⟩=wr.cell? ⟨g,m,none⟩:=fun m h1 h2=>by
   rw [HROb.out.cellAt _ (by omega),HROa.out.cellAt _ (by omega),←hinnb.out,List.getElem?_set_ne (by omega),List.getElem?_set_ne (by omega),List.getElem?_set_ne (by omega)]
  have q5:=(hcb (i*8+5) (by omega) (by omega)).trans HQ.out.1
  have q6:=(hcb (i*8+6) (by omega) (by omega)).trans HQ.out.2.1
  have q7:=(hcb (i*8+7) (by omega) (by omega)).trans HQ.out.2.2
  have f5:Wa.frozen? ⟨g,i*8+5,none⟩=false:=HROb.out.frozenAt _
  have f6:Wa.frozen? ⟨g,i*8+6,none⟩=false:=HROb.out.frozenAt _
  have f7:Wa.frozen? ⟨g,i*8+7,none⟩=false:=HROb.out.frozenAt _
  clear hcb
  have hglb:=hgLb
  have H5:=Lib.hid (Kn.C_move (fun b hb=>HKa.out.block b hb.1 (fun e=>hb.2 (by rw [e];rfl))) H5.out)
  have H6:=Lib.hid (Kn.C_move (fun b hb=>HKa.out.block b hb.1 (fun e=>hb.2 (by rw [e];rfl))) H6.out)
  have H7:=Lib.hid (Kn.C_move (fun b hb=>HKa.out.block b hb.1 (fun e=>hb.2 (by rw [e];rfl))) H7.out)
  have HSFb:Hid (∀w',Below Wa.heap.size Wa w'→(fun w'=>w'.cell? ⟨g,i*8+5,none⟩=some (.slice A5 x.parts.length c5)∧w'.cell? ⟨g,i*8+6,none⟩=some (.slice A6 x.over.length c6)∧w'.cell? ⟨g,i*8+7,none⟩=some (.slice A7 x.flanks.length c7)) w'):=Lib.hid (fun w' hb=>⟨cell_below hb q5,cell_below hb q6,cell_below hb q7⟩)
  refine Rg.start 18 (fun w'=>w'.cell? ⟨g,i*8+5,none⟩=some (.slice A5 x.parts.length c5)∧w'.cell? ⟨g,i*8+6,none⟩=some (.slice A6 x.over.length c6)∧w'.cell? ⟨g,i*8+7,none⟩=some (.slice A7 x.flanks.length c7)) 27 rfl (by kernel_rfl) ?_
  have hHeld:=HSFb.out _ (Below.refl _ _).drew
  refine Rg.pure 0 (v:=?v16) rfl (by kernel_rfl) (fun _ _ _ h=>h) (by rfl) hHeld ?y16 ?h16
  case y16=>(intro wA;go_simp;first | done | with_reducible rfl)
  simp only [Act.put,List.setIfInBounds_toArray,List.set_cons_zero,List.set_cons_succ]
  refine Rg.pure 1 (v:=?v17) rfl (by kernel_rfl) (fun _ _ _ h=>h) (by rfl) hHeld ?y17 ?h17
  case y17=>(intro wA;go_simp;first | done | with_reducible rfl)
  simp only [Act.put,List.setIfInBounds_toArray,List.set_cons_zero,List.set_cons_succ]
  refine Rg.pure 2 (v:=?v18) rfl (by kernel_rfl) (fun _ _ _ h=>h) (by rfl) hHeld ?y18 ?h18
  case y18=>(intro wA;go_simp;first | done | with_reducible rfl)
  simp only [Act.put,List.setIfInBounds_toArray,List.set_cons_zero,List.set_cons_succ]
  refine Rg.pure 3 (v:=?v19) rfl (by kernel_rfl) (fun _ _ _ h=>h) (by rfl) hHeld ?y19 ?h19
  case y19=>(intro wA;go_simp;first | done | with_reducible rfl)
  simp only [Act.put,List.setIfInBounds_toArray,List.set_cons_zero,List.set_cons_succ]
  refine Rg.pure 4 (v:=?v20) rfl (by kernel_rfl) (fun _ _ _ h=>h) (by rfl) hHeld ?y20 ?h20
  case y20=>(intro wA;go_simp;first | done | with_reducible rfl)
  simp only [Act.put,List.setIfInBounds_toArray,List.set_cons_zero,List.set_cons_succ]
  refine Rg.pure 5 (v:=?v21) rfl (by kernel_rfl) (fun _ _ _ h=>h) (by rfl) hHeld ?y21 ?h21
  case y21=>(intro wA;go_simp;first | done | with_reducible rfl)
  simp only [Act.put,List.setIfInBounds_toArray,List.set_cons_zero,List.set_cons_succ]
  refine Rg.held 6 (v:=?v22) rfl (by kernel_rfl) (fun _ _ _ h=>h) (by rfl) hHeld ?y22 ?h22
  case y22=>(intro wA hSw;(try dsimp only at hSw);go_simp;first | done | with_reducible rfl)
  simp only [Act.put,List.setIfInBounds_toArray,List.set_cons_zero,List.set_cons_succ]
  refine Rg.pure 8 (v:=?v23) rfl (by kernel_rfl) (fun _ _ _ h=>h) (by rfl) hHeld ?y23 ?h23
  case y23=>(intro wA;go_simp;first | done | with_reducible rfl)
  simp only [Act.put,List.setIfInBounds_toArray,List.set_cons_zero,List.set_cons_succ]
  refine Rg.pure 9 (v:=?v24) rfl (by kernel_rfl) (fun _ _ _ h=>h) (by rfl) hHeld ?y24 ?h24
  case y24=>(intro wA;go_simp;first | done | with_reducible rfl)
  simp only [Act.put,List.setIfInBounds_toArray,List.set_cons_zero,List.set_cons_succ]
  refine Rg.pure 10 (v:=?v25) rfl (by kernel_rfl) (fun _ _ _ h=>h) (by rfl) hHeld ?y25 ?h25
  case y25=>(intro wA;go_simp;first | done | with_reducible rfl)
  simp only [Act.put,List.setIfInBounds_toArray,List.set_cons_zero,List.set_cons_succ]
  refine Rg.held 11 (v:=?v26) rfl (by kernel_rfl) (fun _ _ _ h=>h) (by rfl) hHeld ?y26 ?h26
  case y26=>(intro wA hSw;(try dsimp only at hSw);go_simp;first | done | with_reducible rfl)
  simp only [Act.put,List.setIfInBounds_toArray,List.set_cons_zero,List.set_cons_succ]
  refine Rg.pure 13 (v:=?v27) rfl (by kernel_rfl) (fun _ _ _ h=>h) (by rfl) hHeld ?y27 ?h27
  case y27=>(intro wA;go_simp;first | done | with_reducible rfl)
  simp only [Act.put,List.setIfInBounds_toArray,List.set_cons_zero,List.set_cons_succ]
  refine Rg.pure 14 (v:=?v28) rfl (by kernel_rfl) (fun _ _ _ h=>h) (by rfl) hHeld ?y28 ?h28
  case y28=>(intro wA;go_simp;first | done | with_reducible rfl)
  simp only [Act.put,List.setIfInBounds_toArray,List.set_cons_zero,List.set_cons_succ]
  refine Rg.pure 15 (v:=?v29) rfl (by kernel_rfl) (fun _ _ _ h=>h) (by rfl) hHeld ?y29 ?h29
  case y29=>(intro wA;go_simp;first | done | with_reducible rfl)
  simp only [Act.put,List.setIfInBounds_toArray,List.set_cons_zero,List.set_cons_succ]
  refine Rg.held 16 (v:=?v30) rfl (by kernel_rfl) (fun _ _ _ h=>h) (by rfl) hHeld ?y30 ?h30
  case y30=>(intro wA hSw;(try dsimp only at hSw);go_simp;first | done | with_reducible rfl)
  simp only [Act.put,List.setIfInBounds_toArray,List.set_cons_zero,List.set_cons_succ]
  refine Rg.one 7 rfl (by kernel_rfl) (fun K hK=>?_)
  refine step_is_call 74 rfl rfl ?_
  go_simp
  go_at_call 74
  have hbd:Below Wa.heap.size Wa _:=(Below.refl _ _).drew
  (with_reducible refine (clonePart x.parts A5 c5 _ (Kn.C_below hbd H5.out) (by omega)).mono ?_)
  rintro e wx5 ⟨B5,d5,rfl,hd5,HR5,HO5,hbc5⟩
  have hbx5:Below Wa.heap.size Wa wx5:=hbd.trans (hbc5.mono hbd.size)
  refine hK.out _ _ (HSFb.out _ hbx5) ?_
  clear hK K hbd
  try simp only [Act.put,List.setIfInBounds_toArray,List.set_cons_zero,List.set_cons_succ]
  refine Rg.one 12 rfl (by kernel_rfl) (fun K hK=>?_)
  refine step_is_call 74 rfl rfl ?_
  go_simp
  go_at_call 74
  have hbd:Below Wa.heap.size Wa _:=hbx5
  (with_reducible refine (clonePart x.over A6 c6 _ (Kn.C_below hbd H6.out) (by omega)).mono ?_)
  rintro e wx6 ⟨B6,d6,rfl,hd6,HR6,HO6,hbc6⟩
  have hbx6:Below Wa.heap.size Wa wx6:=hbd.trans (hbc6.mono hbd.size)
  refine hK.out _ _ (HSFb.out _ hbx6) ?_
  clear hK K hbd
  try simp only [Act.put,List.setIfInBounds_toArray,List.set_cons_zero,List.set_cons_succ]
  refine Rg.one 17 rfl (by kernel_rfl) (fun K hK=>?_)
  refine step_is_call 75 rfl rfl ?_
  go_simp
  go_at_call 75
  have hbd:Below Wa.heap.size Wa _:=hbx6
  (with_reducible refine (cloneFlank x.flanks A7 c7 _ (Kn.C_below hbd H7.out) (by omega)).mono ?_)
  rintro e wx7 ⟨B7,d7,rfl,hd7,HR7,HO7,hbc7⟩
  have hbx7:Below Wa.heap.size Wa wx7:=hbd.trans (hbc7.mono hbd.size)
  refine hK.out _ _ (HSFb.out _ hbx7) ?_
  clear hK K hbd
  try simp only [Act.put,List.setIfInBounds_toArray,List.set_cons_zero,List.set_cons_succ]
  obtain ⟨r5,r6,r7⟩:=HSFb.out _ hbx7
  have z5:wx7.frozen? ⟨g,i*8+5,none⟩=false:=(hbx7.frozen (p:=⟨g,i*8+5,none⟩) hglb).trans f5
  have z6:wx7.frozen? ⟨g,i*8+6,none⟩=false:=(hbx7.frozen (p:=⟨g,i*8+6,none⟩) hglb).trans f6
  have z7:wx7.frozen? ⟨g,i*8+7,none⟩=false:=(hbx7.frozen (p:=⟨g,i*8+7,none⟩) hglb).trans f7
  have hrowb:=Kn.own_move HROb.out (fun b hb=>hbx7.block b (by rw [show b=g from (by simpa [Value.ownBlock] using hb.symm)];exact hglb))
  obtain ⟨ho1,hg1⟩:=hrowb.stored (i*8+5) (.slice B5 x.parts.length d5)
  obtain ⟨ho2,hg2⟩:=ho1.stored (i*8+6) (.slice B6 x.over.length d6)
  obtain ⟨ho3,hg3⟩:=ho2.stored (i*8+7) (.slice B7 x.flanks.length d7)
  obtain ⟨Wb,hWb,HRNb,HKNb,HZNb⟩:∃W,W=((wx7.setCell ⟨g,i*8+5,none⟩ (.slice B5 x.parts.length d5)).setCell ⟨g,i*8+6,none⟩ (.slice B6 x.over.length d6)).setCell ⟨g,i*8+7,none⟩ (.slice B7 x.flanks.length d7)∧Hid (W.ownsRow 0 44 8 (.slice (some ⟨g,0,none⟩) rs.length c) rs.length (((innb.set (i*8+5) (.slice B5 x.parts.length d5)).set (i*8+6) (.slice B6 x.over.length d6)).set (i*8+7) (.slice B7 x.flanks.length d7)))∧Hid (Keep (fun b=>b=g) wx7 W)∧Hid (W.heap.size=wx7.heap.size) :=
   ⟨_,rfl,Lib.hid ho3,Lib.hid ((((Keep.refl _ _).grown hg1 (fun k hk _=>by simpa [Value.ownBlock] using hk.symm)).grown hg2 (fun k hk _=>by simpa [Value.ownBlock] using hk.symm)).grown hg3 (fun k hk _=>by simpa [Value.ownBlock] using hk.symm)),Lib.hid (by simp)⟩
  clear ho1 ho2 ho3 hg1 hg2 hg3 hrowb
  refine Rg.row [18,19,20,21,22,23,24,25,26] [_,_,_,_,_,_,_,_,_] rfl (by kernel_rfl) ?_
  go_wp2
  rw [←hWb]
  clear hWb z5 z6 z7 r5 r6 r7 q5 q6 q7 f5 f6 f7
  have HKb:Hid (Keep (fun b=>b=g) wr Wb):=Lib.hid ((HKa.out.trans (Keep.of_below (S:=fun b=>b=g) hbx7) (fun _ _ h=>h)).trans HKNb.out (fun _ _ h=>h))
  have hs2:=hbc2.size
  have hs3:=hbc3.size
  have hs4:=hbc4.size
  have hsa:=HZNa.out
  have hs5:=hbc5.size
  have hs6:=hbc6.size
  have hs7:=hbc7.size
  have hsb:=HZNb.out
  have hsd:wr.drew.heap.size=wr.heap.size:=rfl
  have hse:Wa.drew.heap.size=Wa.heap.size:=rfl
  have hO2:=Kn.Rw.own (fun w ok x cs h=>by obtain rfl:=stepK_open h;exact stepK_own w x) (Rw_far ((((Rw_far ((HR2.out.below hbc3).below hbc4) HKNa.out (fun e=>by have:=HO2.out g e;omega)).below (below_undrew hbc5)).below hbc6).below hbc7) HKNb.out (fun e=>by have:=HO2.out g e;omega))
  have hO3:=Kn.Rw.own (fun w ok x cs h=>by obtain rfl:=lieK_open h;exact lieK_own w x) (Rw_far ((((Rw_far (HR3.out.below hbc4) HKNa.out (fun e=>by have:=HO3.out g e;omega)).below (below_undrew hbc5)).below hbc6).below hbc7) HKNb.out (fun e=>by have:=HO3.out g e;omega))
  have hO4:=Kn.Rw.own (fun w ok x cs h=>by obtain rfl:=(show cs=[.int .i64 x] from h);exact intK_own w x) (Rw_far ((((Rw_far HR4.out HKNa.out (fun e=>by have:=HO4.out g e;omega)).below (below_undrew hbc5)).below hbc6).below hbc7) HKNb.out (fun e=>by have:=HO4.out g e;omega))
  have hO5:=Kn.Rw.own (fun w ok x cs h=>by obtain rfl:=partK_open h;exact partK_own w x) (Rw_far ((HR5.out.below hbc6).below hbc7) HKNb.out (fun e=>by have:=HO5.out g e;omega))
  have hO6:=Kn.Rw.own (fun w ok x cs h=>by obtain rfl:=partK_open h;exact partK_own w x) (Rw_far (HR6.out.below hbc7) HKNb.out (fun e=>by have:=HO6.out g e;omega))
  have hO7:=Kn.Rw.own (fun w ok x cs h=>by obtain rfl:=flankK_open h;exact flankK_own w x) (Rw_far HR7.out HKNb.out (fun e=>by have:=HO7.out g e;omega))
  have hu2:∀b,b∈(Value.slice B2 x.steps.length d2).ownBlock.toList→wr.heap.size≤b∧b < wx2.heap.size:=fun b hb=>⟨HO2.out b (by simpa using hb),HR2.out.lt b (by simpa using hb)⟩
  have hu3:∀b,b∈(Value.slice B3 x.lies.length d3).ownBlock.toList→wx2.heap.size≤b∧b < wx3.heap.size:=fun b hb=>⟨HO3.out b (by simpa using hb),HR3.out.lt b (by simpa using hb)⟩
  have hu4:∀b,b∈(Value.slice B4 x.crosses.length d4).ownBlock.toList→wx3.heap.size≤b∧b < wx4.heap.size:=fun b hb=>⟨HO4.out b (by simpa using hb),HR4.out.lt b (by simpa using hb)⟩
  have hu5:∀b,b∈(Value.slice B5 x.parts.length d5).ownBlock.toList→Wa.heap.size≤b∧b < wx5.heap.size:=fun b hb=>⟨HO5.out b (by simpa using hb),HR5.out.lt b (by simpa using hb)⟩
  have hu6:∀b,b∈(Value.slice B6 x.over.length d6).ownBlock.toList→wx5.heap.size≤b∧b < wx6.heap.size:=fun b hb=>⟨HO6.out b (by simpa using hb),HR6.out.lt b (by simpa using hb)⟩
  have hu7:∀b,b∈(Value.slice B7 x.flanks.length d7).ownBlock.toList→wx6.heap.size≤b∧b < wx7.heap.size:=fun b hb=>⟨HO7.out b (by simpa using hb),HR7.out.lt b (by simpa using hb)⟩
  have hnd:∀v:Value,v.ownBlock.toList.Nodup:=fun v=>by cases v.ownBlock <;> simp
  have hN7:=hnd (.slice B7 x.flanks.length d7)
  have hN6:=nodup_range (hnd (.slice B6 x.over.length d6)) hN7 (fun b hb=>(hu6 b hb).2) (fun b hb=>(hu7 b hb).1)
  have hL6:∀b,b∈(Value.slice B6 x.over.length d6).ownBlock.toList++(Value.slice B7 x.flanks.length d7).ownBlock.toList→wx5.heap.size≤b:=fun b hb=>by
   rcases List.mem_append.1 hb with hb | hb
   ·exact (hu6 b hb).1
   ·have:=(hu7 b hb).1;omega
  have hN5:=nodup_range (hnd (.slice B5 x.parts.length d5)) hN6 (fun b hb=>(hu5 b hb).2) hL6
  have hL5:∀b,b∈(Value.slice B5 x.parts.length d5).ownBlock.toList++((Value.slice B6 x.over.length d6).ownBlock.toList++(Value.slice B7 x.flanks.length d7).ownBlock.toList)→wx4.heap.size≤b:=fun b hb=>by
   rcases List.mem_append.1 hb with hb | hb
   ·have:=(hu5 b hb).1;omega
   ·have:=hL6 b hb;omega
  have hN4:=nodup_range (hnd (.slice B4 x.crosses.length d4)) hN5 (fun b hb=>(hu4 b hb).2) hL5
  have hL4:∀b,b∈(Value.slice B4 x.crosses.length d4).ownBlock.toList++((Value.slice B5 x.parts.length d5).ownBlock.toList++((Value.slice B6 x.over.length d6).ownBlock.toList++(Value.slice B7 x.flanks.length d7).ownBlock.toList))→wx3.heap.size≤b:=fun b hb=>by
   rcases List.mem_append.1 hb with hb | hb
   ·have:=(hu4 b hb).1;omega
   ·have:=hL5 b hb;omega
  have hN3:=nodup_range (hnd (.slice B3 x.lies.length d3)) hN4 (fun b hb=>(hu3 b hb).2) hL4
  have hL3:∀b,b∈(Value.slice B3 x.lies.length d3).ownBlock.toList++((Value.slice B4 x.crosses.length d4).ownBlock.toList++((Value.slice B5 x.parts.length d5).ownBlock.toList++((Value.slice B6 x.over.length d6).ownBlock.toList++(Value.slice B7 x.flanks.length d7).ownBlock.toList)))→wx2.heap.size≤b:=fun b hb=>by
   rcases List.mem_append.1 hb with hb | hb
   ·have:=(hu3 b hb).1;omega
   ·have:=hL4 b hb;omega
  have hN2:=nodup_range (hnd (.slice B2 x.steps.length d2)) hN3 (fun b hb=>(hu2 b hb).2) hL3
  have hL2:∀b,b∈(Value.slice B2 x.steps.length d2).ownBlock.toList++((Value.slice B3 x.lies.length d3).ownBlock.toList++((Value.slice B4 x.crosses.length d4).ownBlock.toList++((Value.slice B5 x.parts.length d5).ownBlock.toList++((Value.slice B6 x.over.length d6).ownBlock.toList++(Value.slice B7 x.flanks.length d7).ownBlock.toList))))→wr.heap.size≤b:=fun b hb=>by
   rcases List.mem_append.1 hb with hb | hb
   ·exact (hu2 b hb).1
   ·have:=hL3 b hb;omega
  have HAN:=Lib.hid (HA.out.next HXI.out rfl HC0.out HC1.out HKb.out hgw HK.out.size (by have:=HRNb.out;rwa [←hinnb.out] at this) (routeK_own hO2 hO3 hO4 hO5 hO6 hO7 hN2) hL2)
  have HKN:Hid (Keep (fun b=>(Value.slice (some ⟨g,0,none⟩) rs.length c).ownBlock=some b) w Wb):=Lib.hid (HK.out.trans HKb.out (fun b _ h=>by rw [h];rfl))
  clear hO2 hO3 hO4 hO5 hO6 hO7 hN2 hN3 hN4 hN5 hN6 hN7 hL2 hL3 hL4 hL5 hL6 hu2 hu3 hu4 hu5 hu6 hu7 hnd hsa hsb hsd hse
  go_roundw
  case rel=>exact ⟨i+1,_,_,by omega,by go_num,HAN,HKN⟩
  case measure=>simp [intOf];omega
 ·obtain rfl:i=rs.length:=by omega
  have HF:Hid (∃ps,rK.R 44 wr (.slice A rs.length c) ps∧ps.map Prod.fst=rs∧∀b,b∈(ps.map Prod.snd).flatten→w.heap.size≤b):=Lib.hid (by
   have hf:=HA.out.firsts
   rw [List.take_length] at hf
   have hl:ps.length=rs.length:=by rw [←hf,List.length_map]
   refine ⟨ps,⟨inner,by rw [hl];exact HA.out.row,HA.out.items,?_⟩,hf,HA.out.above⟩
   unfold Kn.foot
   rw [List.nodup_append]
   refine ⟨by cases (Value.slice A rs.length c).ownBlock <;> simp,HA.out.nodup,fun a ha b hb e=>?_⟩
   subst e
   rw [Option.mem_toList] at ha
   have h1:=hlt.out a ha
   have h2:=HA.out.above a hb
   omega)
  go_wp2
  go_ret
  exact ⟨rfl,HF,HK.out⟩
theorem rt_n {n:Net} {ss:List Signal} {ov:Int}:∀x∈routesF n ss ov,x.n≤141004:=fun x hx=>by
 obtain ⟨hr,h0,h1,hrt⟩:=routesF_rt hx
 have:=Rt.size hr hrt h1
 show x.steps.length+x.lies.length+x.crosses.length+x.parts.length+x.over.length+x.flanks.length≤141004
 omega
set_option maxRecDepth 100000 in
set_option maxHeartbeats 4000000 in
theorem implRoutes {ok ok':Nat→Prop} (n:Net) (ss:List Signal) (ov:Int) (A0 A1 A2:Option Addr) (c0 c1 c2:Nat) (w:World) (h:NC 102 w ok n A0 A1) (hs:signalK.C w ok' A2 ss) (hc:ss.length≤c2) (hn:NetIn n) (hi:SigIn ss) :
  Calls Try.prog 11 #[.agg #[.slice A0 n.pieces.length c0,.slice A1 n.joints.length c1],.slice A2 ss.length c2,.int .i64 ov] w (RetS 44 rK (routesF n ss ov) w):=by
 have hb0:Below w.heap.size w (w.alloc (.cells #[.slice A0 n.pieces.length c0,.slice A1 n.joints.length c1] 26)):=below_alloc _ _
 have HC:Hid (NC 102 (w.alloc (.cells #[.slice A0 n.pieces.length c0,.slice A1 n.joints.length c1] 26)) ok n A0 A1):=Lib.hid (h.below hb0)
 have HS:Hid (signalK.C (w.alloc (.cells #[.slice A0 n.pieces.length c0,.slice A1 n.joints.length c1] 26)) ok' A2 ss):=Lib.hid (Kn.C_below hb0 hs)
 have HN:Hid (∀x∈routesF n ss ov,x.n≤200000):=Lib.hid (fun x hx=>Nat.le_trans (rt_n x hx) (by omega))
 clear h hs
 go_enter Try.func11,Try.ntmps11
 go_wp2_with fail
 refine (implRoutes0 n ss ov A0 A1 A2 c0 c1 c2 _ HC.out HS.out hc hn hi).mono ?_
 rintro e w1 ⟨A,c,rfl,hcl,HR,HO,hb1⟩
 have hb01:Below w.heap.size w w1:=hb0.trans (hb1.mono (by simp))
 clear HC HS
 go_wp2_with fail
 refine (implApart (S:=fun _=>True) (routesF n ss ov) A c w1 HR.out HN).mono ?_
 rintro e w2 ⟨rfl,HF,hK⟩
 go_wp2
 go_ret
 obtain ⟨ps,hR,hf,hab⟩:=HF.out
 have hsz1:=hb01.size
 have hsz:w.heap.size+1≤w1.heap.size:=by have:=hb1.size;simp at this;omega
 refine ⟨A,c,_,rfl,⟨_,ps,rfl,hf.symm,hR,rfl⟩,fun b hb=>?_,hb01.trans (hK.to_below hsz1 (fun k hk e=>by have:=HO.out k e;simp at this;omega))⟩
 rcases List.mem_append.1 hb with hb | hb
 ·rw [Option.mem_toList] at hb
  have:=HO.out b hb
  simp at this
  omega
 ·have:=hab b hb
  omega
end Go.Proofs.Ytjccgneimknbpaa.L
namespace Go.Proofs.Ytjccgneimknbpaa.L
open Go.RowKit
open Classical
set_option maxRecDepth 100000 in
set_option maxHeartbeats 16000000 in
theorem implCheck {ok ok' ok2 ok3:Nat→Prop} (n:Net) (ss:List Signal) (ov:Int) (gs:List Route) (tb:List (List Int)) (A0 A1 A2 A3 A4:Option Addr) (c0 c1 c2 c3 c4:Nat) (w:World) (h:NC 102 w ok n A0 A1) (hs:signalK.C w ok' A2 ss) (hc:ss.length≤c2) (hg:rK.C w ok2 A3 gs) (ht:rowK.C w ok3 A4 tb) (hgn:Hid (∀r∈gs,r.n≤1048576)) (hgl:gs.length≤1048576) (htl:tb.length≤1048576) (htr:Hid (∀r∈tb,r.length≤1048576)) (hn:NetIn n) (hi:SigIn ss) :
  Calls Try.prog 13 #[.agg #[.slice A0 n.pieces.length c0,.slice A1 n.joints.length c1],.slice A2 ss.length c2,.int .i64 ov,.slice A3 gs.length c3,.slice A4 tb.length c4] w (RetV (checkF n ss ov gs tb).v w):=by
 obtain ⟨W0,hW0,hB0,HA,HX⟩:∃W,W=(w.alloc (.cells #[.slice A0 n.pieces.length c0,.slice A1 n.joints.length c1] 26)).alloc (.cells #[.int .i64 0,.int .i64 0,.int .i64 0] 34)∧Below w.heap.size w W∧Hid (Blk W w.heap.size 26 [.slice A0 n.pieces.length c0,.slice A1 n.joints.length c1])∧Hid (Blk W (w.heap.size+1) 34 [.int .i64 0,.int .i64 0,.int .i64 0]):=by
  have h1:=below_alloc w (.cells #[.slice A0 n.pieces.length c0,.slice A1 n.joints.length c1] 26)
  exact ⟨_,rfl,h1.alloc h1.size _,Lib.hid ((Blk.new w 26 [.slice A0 n.pieces.length c0,.slice A1 n.joints.length c1] rfl).alloc _),Lib.hid (Blk.new _ _ _ (part_alloc1 _ _).symm)⟩
 have HN:=Lib.hid (h.below hB0)
 have HS:=Lib.hid (Kn.C_below hB0 hs)
 have HG:=Lib.hid (Kn.C_below hB0 hg)
 have HTB:=Lib.hid (Kn.C_below hB0 ht)
 clear h hs hg ht
 by_cases hk:signalsOk n ss=⟨0,0⟩∧0≤ov∧ov≤100000
 rotate_left
 ·have HB:Hid (askOk n ss ov=false):=Lib.hid (pv_false hk)
  have HF:Hid (checkF n ss ov gs tb=⟨1,0,0⟩):=Lib.hid (checkF_bad hk)
  clear hk
  go_enter Try.func13,Try.ntmps13
  go_wp2_with fail
  rw [←hW0]
  refine (implRoutes0 n ss ov A0 A1 A2 c0 c1 c2 _ HN.out HS.out hc hn hi).mono ?_
  rw [HB.out]
  rintro e w1 ⟨N0,n0,rfl,hn0,HR,HOO,hb1⟩
  have HX1:=Lib.hid (HX.out.below hb1 HX.out.lt)
  have BW:Hid (Below w.heap.size w w1):=Lib.hid (hB0.trans (hb1.mono hB0.size))
  have x0:=HX1.out.cell 0 rfl
  have x1:=HX1.out.cell 1 rfl
  have x2:=HX1.out.cell 2 rfl
  have xz:w.heap.size+1 < w1.heap.size:=HX1.out.lt
  have y0:=HX1.out.frozen 0
  have y1:=HX1.out.frozen 1
  have y2:=HX1.out.frozen 2
  have bz:w.heap.size≤w1.heap.size:=(BW.out).size
  go_wp2
  exact bodyPost_ret (v:=.agg #[.int .i64 1,.int .i64 0,.int .i64 0]) (by simp [results,Try.results13,go_sem,x0,x1,x2,xz]) rfl ⟨by rw [HF.out],by repeat' first | exact BW.out | (refine below_drewN ?_ _) | (refine Below.alloc ?_ ?_ _) | (refine Below.setCell ?_ ?_ _) | omega | (simp;done) | (simp;omega)⟩
 have HB:Hid (askOk n ss ov=true):=Lib.hid (pv_true hk)
 have HASK:Hid (signalsOk n ss=⟨0,0⟩∧0≤ov∧ov≤100000):=Lib.hid hk
 obtain ⟨rs,hrs⟩:∃rs,Hid (routesF n ss ov=rs):=⟨_,Lib.hid rfl⟩
 have hrl:rs.length≤300:=by rw [←hrs.out];exact routesF_len _ _ _
 have HRN:Hid (∀r∈rs,r.n≤1048576):=Lib.hid (by rw [←hrs.out];exact fun r hr=>Nat.le_trans (rt_n r hr) (by omega))
 clear hk
 go_enter Try.func13,Try.ntmps13
 go_wp2_with fail
 rw [←hW0]
 clear hW0
 refine (implRoutes0 n ss ov A0 A1 A2 c0 c1 c2 _ HN.out HS.out hc hn hi).mono ?_
 rw [HB.out,hrs.out]
 rintro e w2 ⟨N0,n0,rfl,hn0,HR,HOO,hb2⟩
 have C0:Hid (rK.C w2 (fun _=>True) N0 rs):=Lib.hid (Kn.C_mono (fun _ _=>trivial) (Rw_slice HR.out).2.2)
 have BW:Hid (Below w.heap.size w w2):=Lib.hid (hB0.trans (hb2.mono hB0.size))
 have HX:=Lib.hid (HX.out.below hb2 HX.out.lt)
 have HG:=Lib.hid (Kn.C_below hb2 HG.out)
 have HTB:=Lib.hid (Kn.C_below hb2 HTB.out)
 clear hb2 HR HOO HA HN HS hB0
 obtain ⟨wb,hwb⟩:∃W,W=w2:=⟨_,rfl⟩
 subst hwb
 obtain ⟨mx,hmx,hmx1,hmx2⟩:∃m:Nat,Hid (m=rs.length∨m=gs.length)∧rs.length≤m∧gs.length≤m:=by
  by_cases h:rs.length≤gs.length
  ·exact ⟨_,Lib.hid (.inr rfl),h,Nat.le_refl _⟩
  ·exact ⟨_,Lib.hid (.inl rfl),Nat.le_refl _,by omega⟩
 go_upto_region 4 with (fail)
 go_cut [33,34] (fun v u wc=>v=.int .i64 mx∧u=.int .i64 0∧Hid (Below wb.heap.size wb wc))
 case first =>
  by_cases h1:rs.length < gs.length
  ·have hm:Hid (mx=gs.length):=Lib.hid (by rcases hmx.out with h | h <;> omega)
   have k0:decide (rs.length < gs.length)=true:=decide_eq_true h1
   have k1:decide (gs.length < rs.length)=false:=decide_eq_false (by omega)
   have k2:decide ((rs.length:Int) < (gs.length:Int))=true:=decide_eq_true (by omega)
   have k3:decide ((gs.length:Int) < (rs.length:Int))=false:=decide_eq_false (by omega)
   go_wp2
   go_meet
   case rel=>exact ⟨by rw [hm.out],rfl,Lib.hid (Below.refl _ _)⟩
  ·by_cases h2:gs.length < rs.length
   ·have hm:Hid (mx=rs.length):=Lib.hid (by rcases hmx.out with h | h <;> omega)
    have k0:decide (rs.length < gs.length)=false:=decide_eq_false h1
    have k1:decide (gs.length < rs.length)=true:=decide_eq_true h2
    have k2:decide ((rs.length:Int) < (gs.length:Int))=false:=decide_eq_false (by omega)
    have k3:decide ((gs.length:Int) < (rs.length:Int))=true:=decide_eq_true (by omega)
    go_wp2
    go_meet
    case rel=>exact ⟨by rw [hm.out],rfl,Lib.hid (Below.refl _ _)⟩
   ·have he:rs.length=gs.length:=by omega
    have hm:Hid (mx=rs.length∧mx=gs.length):=Lib.hid (by rcases hmx.out with h | h <;> omega)
    clear he
    have k0:decide (rs.length < gs.length)=false:=decide_eq_false h1
    have k1:decide (gs.length < rs.length)=false:=decide_eq_false h2
    have k2:decide ((rs.length:Int) < (gs.length:Int))=false:=decide_eq_false (by omega)
    have k3:decide ((gs.length:Int) < (rs.length:Int))=false:=decide_eq_false (by omega)
    go_wp2
    go_meet
    case rel=>exact ⟨by first | rw [hm.out.1] | (rw [←hm.out.1,hm.out.2]),rfl,Lib.hid (Below.refl _ _)⟩
 obtain ⟨rfl,rfl,HBC⟩:=hcut
 go_wp2
 go_loopw [34] (fun iv wr=>∃k:Nat,k≤mx∧iv=.int .i64 k∧Hid (faultR rs gs 0=faultR (rs.drop k) (gs.drop k) k)∧Hid (Below wb.heap.size wb wr)) (fun iv _=>mx - (intOf iv).toNat)
 case atStart=>exact ⟨0,Nat.zero_le _,rfl,Lib.hid rfl,HBC⟩
 case round =>
 obtain ⟨k,hk,rfl,HT,HBr⟩:=hrel
 have HX1:=Lib.hid (HX.out.below HBr.out HX.out.lt)
 have BW1:=Lib.hid (BW.out.trans (HBr.out.mono BW.out.size))
 by_cases hlt:k < mx
 ·have i0:(0:Int)≤(k:Int):=Int.natCast_nonneg _
  have im:(k:Int) < (mx:Int):=by omega
  by_cases hlr:rs.length≤k
  ·have hlg2:k < gs.length:=by rcases hmx.out with h | h <;> omega
   have HF:Hid (checkF n ss ov gs tb=⟨2,k,0⟩):=Lib.hid (checkF_route HASK.out hrs.out (by rw [HT.out];exact faultR_few hlr hlg2))
   have d0:decide (rs.length≤k)=true:=decide_eq_true hlr
   have x0:=HX1.out.cell 0 rfl
   have x1:=HX1.out.cell 1 rfl
   have x2:=HX1.out.cell 2 rfl
   have xz:w.heap.size+1 < wr.heap.size:=HX1.out.lt
   have y0:=HX1.out.frozen 0
   have y1:=HX1.out.frozen 1
   have y2:=HX1.out.frozen 2
   have bz:w.heap.size≤wr.heap.size:=(BW1.out).size
   go_wp2
   exact bodyPost_ret (v:=.agg #[.int .i64 2,.int .i64 k,.int .i64 0]) (by simp [results,Try.results13,go_sem,x0,x1,x2,xz]) rfl ⟨by rw [HF.out],by repeat' first | exact BW1.out | (refine below_drewN ?_ _) | (refine Below.alloc ?_ ?_ _) | (refine Below.setCell ?_ ?_ _) | omega | (simp;done) | (simp;omega)⟩
  have hlt2:k < rs.length:=by omega
  have i1:(k:Int) < (rs.length:Int):=by omega
  have d0:decide (rs.length≤k)=false:=decide_eq_false hlr
  by_cases hlg:gs.length≤k
  ·have HF:Hid (checkF n ss ov gs tb=⟨2,k,0⟩):=Lib.hid (checkF_route HASK.out hrs.out (by rw [HT.out];exact faultR_many hlt2 hlg))
   have d1:decide (gs.length≤k)=true:=decide_eq_true hlg
   have x0:=HX1.out.cell 0 rfl
   have x1:=HX1.out.cell 1 rfl
   have x2:=HX1.out.cell 2 rfl
   have xz:w.heap.size+1 < wr.heap.size:=HX1.out.lt
   have y0:=HX1.out.frozen 0
   have y1:=HX1.out.frozen 1
   have y2:=HX1.out.frozen 2
   have bz:w.heap.size≤wr.heap.size:=(BW1.out).size
   go_wp2
   exact bodyPost_ret (v:=.agg #[.int .i64 2,.int .i64 k,.int .i64 0]) (by simp [results,Try.results13,go_sem,x0,x1,x2,xz]) rfl ⟨by rw [HF.out],by repeat' first | exact BW1.out | (refine below_drewN ?_ _) | (refine Below.alloc ?_ ?_ _) | (refine Below.setCell ?_ ?_ _) | omega | (simp;done) | (simp;omega)⟩
  have hlg2:k < gs.length:=by omega
  have i2:(k:Int) < (gs.length:Int):=by omega
  have d1:decide (gs.length≤k)=false:=decide_eq_false hlg
  obtain ⟨aa,rfl,a,Ea,D2,D3,D4,D5,D6,D7,d2,d3,d4,d5,d6,d7,p0,p1,p2,p3,p4,p5,p6,p7,HRa⟩:=rC_at (Kn.C_below HBr.out C0.out) k hlt2
  obtain ⟨ba,rfl,b,Eb,E2,E3,E4,E5,E6,E7,e2,e3,e4,e5,e6,e7,q0,q1,q2,q3,q4,q5,q6,q7,HRb⟩:=rC_at (Kn.C_below HBr.out HG.out) k hlg2
  have HRa2:=Lib.hid HRa.out.drew
  have HRb2:=Lib.hid HRb.out.drew
  by_cases hab:a=b
  ·have HSF:Hid (partsF a b=0):=Lib.hid (partsF_zero.2 hab)
   have t0:(partsF a b == 0)=true:=by rw [HSF.out];rfl
   have t1:(partsF a b != 0)=false:=by rw [HSF.out];rfl
   have HT2:Hid (faultR rs gs 0=faultR (rs.drop (k+1)) (gs.drop (k+1)) (k+1)):=Lib.hid (HT.out.trans (faultR_step Ea.out (by rw [hab];exact Eb.out)))
   clear hab
   go_wp2
   go_region_held3 (fun w'=>w'.cell? (aa.add (k*8))=some (.int .i64 a.frm)∧w'.cell? ⟨(aa.add (k*8)).block,(aa.add (k*8)).off+1,none⟩=some (.int .i64 a.til)∧w'.cell? ⟨(aa.add (k*8)).block,(aa.add (k*8)).off+2,none⟩=some (.slice D2 a.steps.length d2)∧w'.cell? ⟨(aa.add (k*8)).block,(aa.add (k*8)).off+3,none⟩=some (.slice D3 a.lies.length d3)∧w'.cell? ⟨(aa.add (k*8)).block,(aa.add (k*8)).off+4,none⟩=some (.slice D4 a.crosses.length d4)∧w'.cell? ⟨(aa.add (k*8)).block,(aa.add (k*8)).off+5,none⟩=some (.slice D5 a.parts.length d5)∧w'.cell? ⟨(aa.add (k*8)).block,(aa.add (k*8)).off+6,none⟩=some (.slice D6 a.over.length d6)∧w'.cell? ⟨(aa.add (k*8)).block,(aa.add (k*8)).off+7,none⟩=some (.slice D7 a.flanks.length d7)∧w'.cell? (ba.add (k*8))=some (.int .i64 b.frm)∧w'.cell? ⟨(ba.add (k*8)).block,(ba.add (k*8)).off+1,none⟩=some (.int .i64 b.til)∧w'.cell? ⟨(ba.add (k*8)).block,(ba.add (k*8)).off+2,none⟩=some (.slice E2 b.steps.length e2)∧w'.cell? ⟨(ba.add (k*8)).block,(ba.add (k*8)).off+3,none⟩=some (.slice E3 b.lies.length e3)∧w'.cell? ⟨(ba.add (k*8)).block,(ba.add (k*8)).off+4,none⟩=some (.slice E4 b.crosses.length e4)∧w'.cell? ⟨(ba.add (k*8)).block,(ba.add (k*8)).off+5,none⟩=some (.slice E5 b.parts.length e5)∧w'.cell? ⟨(ba.add (k*8)).block,(ba.add (k*8)).off+6,none⟩=some (.slice E6 b.over.length e6)∧w'.cell? ⟨(ba.add (k*8)).block,(ba.add (k*8)).off+7,none⟩=some (.slice E7 b.flanks.length e7))
   (first | exact ⟨cell_below hb5 p0,cell_below hb5 p1,cell_below hb5 p2,cell_below hb5 p3,cell_below hb5 p4,cell_below hb5 p5,cell_below hb5 p6,cell_below hb5 p7,cell_below hb5 q0,cell_below hb5 q1,cell_below hb5 q2,cell_below hb5 q3,cell_below hb5 q4,cell_below hb5 q5,cell_below hb5 q6,cell_below hb5 q7⟩ | go_keep)
   (first | (go_at_call 40;(with_reducible refine (implParts a b D2 D3 D4 D5 D6 D7 d2 d3 d4 d5 d6 d7 E2 E3 E4 E5 E6 E7 e2 e3 e4 e5 e6 e7 _ HRa2.out HRb2.out).mono ?_);rintro e w5 ⟨rfl,hb5⟩))
   have HB5:Hid (Below wb.heap.size wb w5):=Lib.hid (HBr.out.trans ((((Below.refl wr.heap.size wr).drew).trans hb5).mono HBr.out.size))
   clear hb5
   go_wp2
   go_roundw
   case rel=>exact ⟨k+1,by omega,by go_num,HT2,HB5⟩
   case measure=>simp [intOf];omega
  ·have t0:(partsF a b == 0)=false:=int_eqf (fun e=>hab (partsF_zero.1 e))
   have t1:(partsF a b != 0)=true:=neq_t (fun e=>hab (partsF_zero.1 e))
   have HF:Hid (checkF n ss ov gs tb=⟨partsF a b,k,0⟩):=Lib.hid (checkF_route HASK.out hrs.out (by rw [HT.out,faultR_ne Ea.out Eb.out hab]))
   clear hab
   go_wp2
   go_region_held3 (fun w'=>w'.cell? (aa.add (k*8))=some (.int .i64 a.frm)∧w'.cell? ⟨(aa.add (k*8)).block,(aa.add (k*8)).off+1,none⟩=some (.int .i64 a.til)∧w'.cell? ⟨(aa.add (k*8)).block,(aa.add (k*8)).off+2,none⟩=some (.slice D2 a.steps.length d2)∧w'.cell? ⟨(aa.add (k*8)).block,(aa.add (k*8)).off+3,none⟩=some (.slice D3 a.lies.length d3)∧w'.cell? ⟨(aa.add (k*8)).block,(aa.add (k*8)).off+4,none⟩=some (.slice D4 a.crosses.length d4)∧w'.cell? ⟨(aa.add (k*8)).block,(aa.add (k*8)).off+5,none⟩=some (.slice D5 a.parts.length d5)∧w'.cell? ⟨(aa.add (k*8)).block,(aa.add (k*8)).off+6,none⟩=some (.slice D6 a.over.length d6)∧w'.cell? ⟨(aa.add (k*8)).block,(aa.add (k*8)).off+7,none⟩=some (.slice D7 a.flanks.length d7)∧w'.cell? (ba.add (k*8))=some (.int .i64 b.frm)∧w'.cell? ⟨(ba.add (k*8)).block,(ba.add (k*8)).off+1,none⟩=some (.int .i64 b.til)∧w'.cell? ⟨(ba.add (k*8)).block,(ba.add (k*8)).off+2,none⟩=some (.slice E2 b.steps.length e2)∧w'.cell? ⟨(ba.add (k*8)).block,(ba.add (k*8)).off+3,none⟩=some (.slice E3 b.lies.length e3)∧w'.cell? ⟨(ba.add (k*8)).block,(ba.add (k*8)).off+4,none⟩=some (.slice E4 b.crosses.length e4)∧w'.cell? ⟨(ba.add (k*8)).block,(ba.add (k*8)).off+5,none⟩=some (.slice E5 b.parts.length e5)∧w'.cell? ⟨(ba.add (k*8)).block,(ba.add (k*8)).off+6,none⟩=some (.slice E6 b.over.length e6)∧w'.cell? ⟨(ba.add (k*8)).block,(ba.add (k*8)).off+7,none⟩=some (.slice E7 b.flanks.length e7))
   (first | exact ⟨cell_below hb5 p0,cell_below hb5 p1,cell_below hb5 p2,cell_below hb5 p3,cell_below hb5 p4,cell_below hb5 p5,cell_below hb5 p6,cell_below hb5 p7,cell_below hb5 q0,cell_below hb5 q1,cell_below hb5 q2,cell_below hb5 q3,cell_below hb5 q4,cell_below hb5 q5,cell_below hb5 q6,cell_below hb5 q7⟩ | go_keep)
   (first | (go_at_call 40;(with_reducible refine (implParts a b D2 D3 D4 D5 D6 D7 d2 d3 d4 d5 d6 d7 E2 E3 E4 E5 E6 E7 e2 e3 e4 e5 e6 e7 _ HRa2.out HRb2.out).mono ?_);rintro e w5 ⟨rfl,hb5⟩))
   have HB5:Hid (Below wb.heap.size wb w5):=Lib.hid (HBr.out.trans ((((Below.refl wr.heap.size wr).drew).trans hb5).mono HBr.out.size))
   have HX2:=Lib.hid (HX.out.below HB5.out HX.out.lt)
   have BW2:=Lib.hid (BW.out.trans (HB5.out.mono BW.out.size))
   clear hb5 HX1 BW1
   have x0:=HX2.out.cell 0 rfl
   have x1:=HX2.out.cell 1 rfl
   have x2:=HX2.out.cell 2 rfl
   have xz:w.heap.size+1 < w5.heap.size:=HX2.out.lt
   have y0:=HX2.out.frozen 0
   have y1:=HX2.out.frozen 1
   have y2:=HX2.out.frozen 2
   have bz:w.heap.size≤w5.heap.size:=(BW2.out).size
   go_wp2
   exact bodyPost_ret (v:=.agg #[.int .i64 (partsF a b),.int .i64 k,.int .i64 0]) (by simp [results,Try.results13,go_sem,x0,x1,x2,xz]) rfl ⟨by rw [HF.out],by repeat' first | exact BW2.out | (refine below_drewN ?_ _) | (refine Below.alloc ?_ ?_ _) | (refine Below.setCell ?_ ?_ _) | omega | (simp;done) | (simp;omega)⟩
 obtain rfl:k=mx:=by omega
 have HFR:Hid (faultR rs gs 0=none):=Lib.hid (HT.out.trans (faultR_end hmx1 hmx2))
 have HCT:Hid (checkF n ss ov gs tb=tableW rs tb):=Lib.hid (checkF_table HASK.out hrs.out HFR.out)
 obtain ⟨w3,hw3⟩:∃W,W=wr:=⟨_,rfl⟩
 subst hw3
 have T3:=Lib.hid (Kn.C_below HBr.out HTB.out)
 have C3:=Lib.hid (Kn.C_below HBr.out C0.out)
 clear HT HFR HBr HX BW HTB C0
 go_wp2_with fail
 refine (implTable N0 n0 rs _ C3.out HRN).mono ?_
 intro e w4 hr
 obtain ⟨L0,l0,rfl,hl0,CT,hb4⟩:=RetS.opC hr
 have HX3:=Lib.hid (HX1.out.below hb4 HX1.out.lt)
 have BW3:=Lib.hid (BW1.out.trans (hb4.mono BW1.out.size))
 have T3:=Lib.hid (Kn.C_below hb4 T3.out)
 have HTN:Hid ((tabF rs).length=rs.length):=Lib.hid (tabF_length hrl)
 obtain ⟨tw,htw⟩:∃t,Hid (tabF rs=t):=⟨_,Lib.hid rfl⟩
 rw [htw.out] at CT HTN
 rw [htw.out]
 clear hr hb4 HX1 BW1 C3
 by_cases htb:tb.length=rs.length
 rotate_left
 ·have HF:Hid (checkF n ss ov gs tb=⟨7,tb.length,0⟩):=Lib.hid (by rw [HCT.out,tableW_len htb])
  have d1:=len_ne (a:=tb.length) (b:=tw.length) (by rw [HTN.out];exact htb)
  clear htb
  have x0:=HX3.out.cell 0 rfl
  have x1:=HX3.out.cell 1 rfl
  have x2:=HX3.out.cell 2 rfl
  have xz:w.heap.size+1 < w4.heap.size:=HX3.out.lt
  have y0:=HX3.out.frozen 0
  have y1:=HX3.out.frozen 1
  have y2:=HX3.out.frozen 2
  have bz:w.heap.size≤w4.heap.size:=(BW3.out).size
  go_wp2
  exact bodyPost_ret (v:=.agg #[.int .i64 7,.int .i64 tb.length,.int .i64 0]) (by simp [results,Try.results13,go_sem,x0,x1,x2,xz]) rfl ⟨by rw [HF.out],by repeat' first | exact BW3.out | (refine below_drewN ?_ _) | (refine Below.alloc ?_ ?_ _) | (refine Below.setCell ?_ ?_ _) | omega | (simp;done) | (simp;omega)⟩
 have d1:=len_eq (a:=tb.length) (b:=tw.length) (by rw [HTN.out];exact htb)
 have HTL:=Lib.hid htb
 clear htb
 go_wp2
 clear d1
 go_loopw [76] (fun iv wr=>∃k:Nat,k≤tb.length∧iv=.int .i64 k∧Hid (faultT tw tb 0=faultT (tw.drop k) (tb.drop k) k)∧Hid (Below w4.heap.size w4 wr)) (fun iv _=>tb.length - (intOf iv).toNat)
 case atStart=>exact ⟨0,Nat.zero_le _,rfl,Lib.hid rfl,Lib.hid (Below.refl _ _)⟩
 case round =>
 obtain ⟨k,hk,rfl,HT,HBr⟩:=hrel
 have HX4:=Lib.hid (HX3.out.below HBr.out HX3.out.lt)
 have BW4:=Lib.hid (BW3.out.trans (HBr.out.mono BW3.out.size))
 by_cases hlt:k < tb.length
 rotate_left
 ·obtain rfl:k=tb.length:=by omega
  have HF:Hid (checkF n ss ov gs tb=⟨0,0,0⟩):=Lib.hid (by
   rw [HCT.out]
   exact tableW_none HTL.out (by rw [htw.out,HT.out];exact faultT_end (by rw [HTN.out,HTL.out];exact Nat.le_refl _)))
  have x0:=HX4.out.cell 0 rfl
  have x1:=HX4.out.cell 1 rfl
  have x2:=HX4.out.cell 2 rfl
  have xz:w.heap.size+1 < wr.heap.size:=HX4.out.lt
  have y0:=HX4.out.frozen 0
  have y1:=HX4.out.frozen 1
  have y2:=HX4.out.frozen 2
  have bz:w.heap.size≤wr.heap.size:=(BW4.out).size
  go_wp2
  exact bodyPost_ret (v:=.agg #[.int .i64 0,.int .i64 0,.int .i64 0]) (by simp [results,Try.results13,go_sem,x0,x1,x2,xz]) rfl ⟨by rw [HF.out],by repeat' first | exact BW4.out | (refine below_drewN ?_ _) | (refine Below.alloc ?_ ?_ _) | (refine Below.setCell ?_ ?_ _) | omega | (simp;done) | (simp;omega)⟩
 have i0:(0:Int)≤(k:Int):=Int.natCast_nonneg _
 have i1:(k:Int) < (tb.length:Int):=by omega
 have i2:(k:Int) < (tw.length:Int):=by have:=HTL.out;have:=HTN.out;omega
 obtain ⟨ta,rfl,row,Erow,B,dB,g0,HROW⟩:=row_at (Kn.C_below HBr.out T3.out) k hlt
 obtain ⟨ya,rfl,wow,Ewow,Y,dY,g1,HWOW⟩:=row_at (Kn.C_below HBr.out CT.out) k (by have:=HTL.out;have:=HTN.out;omega)
 have hrow:row.length≤1048576:=htr.out row (List.mem_of_getElem? Erow.out)
 by_cases hrl2:row.length=wow.length
 rotate_left
 ·have HF:Hid (checkF n ss ov gs tb=⟨7,k,row.length⟩):=Lib.hid (by
   rw [HCT.out]
   exact tableW_some HTL.out (by rw [htw.out,HT.out];exact faultT_len Ewow.out Erow.out hrl2))
  have d1:=len_ne hrl2
  clear hrl2
  have x0:=HX4.out.cell 0 rfl
  have x1:=HX4.out.cell 1 rfl
  have x2:=HX4.out.cell 2 rfl
  have xz:w.heap.size+1 < wr.heap.size:=HX4.out.lt
  have y0:=HX4.out.frozen 0
  have y1:=HX4.out.frozen 1
  have y2:=HX4.out.frozen 2
  have bz:w.heap.size≤wr.heap.size:=(BW4.out).size
  go_wp2
  exact bodyPost_ret (v:=.agg #[.int .i64 7,.int .i64 k,.int .i64 row.length]) (by simp [results,Try.results13,go_sem,x0,x1,x2,xz]) rfl ⟨by rw [HF.out],by repeat' first | exact BW4.out | (refine below_drewN ?_ _) | (refine Below.alloc ?_ ?_ _) | (refine Below.setCell ?_ ?_ _) | omega | (simp;done) | (simp;omega)⟩
 have d1:=len_eq hrl2
 have HRL:=Lib.hid hrl2
 clear hrl2
 go_wp2
 clear d1
 obtain ⟨wo,rfl⟩:∃W,W=wr:=⟨_,rfl⟩
 go_loopw [95] (fun iv wr=>∃i:Nat,i≤row.length∧iv=.int .i64 i∧Hid (faultV wow row k 0=faultV (wow.drop i) (row.drop i) k i)∧Hid (Below wo.heap.size wo wr)) (fun iv _=>row.length - (intOf iv).toNat)
 case atStart=>exact ⟨0,Nat.zero_le _,rfl,Lib.hid rfl,Lib.hid (Below.refl _ _)⟩
 case round =>
  obtain ⟨i,hi',rfl,HV,HBi⟩:=hrel
  have HB6:Hid (Below w4.heap.size w4 wr):=Lib.hid (HBr.out.trans (HBi.out.mono HBr.out.size))
  by_cases hit:i < row.length
  rotate_left
  ·obtain rfl:i=row.length:=by omega
   have HT2:Hid (faultT tw tb 0=faultT (tw.drop (k+1)) (tb.drop (k+1)) (k+1)):=Lib.hid (HT.out.trans (faultT_step Ewow.out Erow.out HRL.out (HV.out.trans (faultV_end (by rw [HRL.out];exact Nat.le_refl _)))))
   go_wp2
   go_roundw
   case rel=>exact ⟨k+1,by omega,by go_num,HT2,HB6⟩
   case measure=>simp [intOf];omega
  have j0:(0:Int)≤(i:Int):=Int.natCast_nonneg _
  have j1:(i:Int) < (row.length:Int):=by omega
  have j2:(i:Int) < (wow.length:Int):=by have:=HRL.out;omega
  have g2:=cell_below HBi.out g1
  obtain ⟨va,rfl,x,Ex,g3⟩:=int_at (Kn.C_below HBi.out HROW.out) i hit
  obtain ⟨ua,rfl,y,Ey,g4⟩:=int_at (Kn.C_below HBi.out HWOW.out) i (by have:=HRL.out;omega)
  have g5:=cell_below HBi.out g0
  have HX5:=Lib.hid (HX4.out.below HBi.out HX4.out.lt)
  have BW5:=Lib.hid (BW4.out.trans (HBi.out.mono BW4.out.size))
  by_cases hx:x=y
  ·have t0:(x == y)=true:=by rw [hx];exact beq_self_eq_true _
   have t1:(x != y)=false:=neq_f hx
   have HV2:Hid (faultV wow row k 0=faultV (wow.drop (i+1)) (row.drop (i+1)) k (i+1)):=Lib.hid (HV.out.trans (faultV_step Ey.out (by rw [←hx];exact Ex.out)))
   clear hx
   go_wp2
   go_quiet (fail)
   go_wp2
   go_roundw
   case rel=>exact ⟨i+1,by omega,by go_num,HV2,Lib.hid (below_drewN HBi.out _)⟩
   case measure=>simp [intOf];omega
  ·have t0:(x == y)=false:=int_eqf hx
   have t1:(x != y)=true:=neq_t hx
   have HF:Hid (checkF n ss ov gs tb=⟨7,k,i⟩):=Lib.hid (by
    rw [HCT.out]
    exact tableW_some HTL.out (by
     rw [htw.out,HT.out]
     exact faultT_ne Ewow.out Erow.out HRL.out (HV.out.trans (faultV_ne Ey.out Ex.out (fun e=>hx e.symm)))))
   clear hx
   have x0:=HX5.out.cell 0 rfl
   have x1:=HX5.out.cell 1 rfl
   have x2:=HX5.out.cell 2 rfl
   have xz:w.heap.size+1 < wr.heap.size:=HX5.out.lt
   have y0:=HX5.out.frozen 0
   have y1:=HX5.out.frozen 1
   have y2:=HX5.out.frozen 2
   have bz:w.heap.size≤wr.heap.size:=(BW5.out).size
   go_wp2
   go_quiet (fail)
   go_wp2
   exact bodyPost_ret (v:=.agg #[.int .i64 7,.int .i64 k,.int .i64 i]) (by simp [results,Try.results13,go_sem,x0,x1,x2,xz]) rfl ⟨by rw [HF.out],by repeat' first | exact BW5.out | (refine below_drewN ?_ _) | (refine Below.alloc ?_ ?_ _) | (refine Below.setCell ?_ ?_ _) | omega | (simp;done) | (simp;omega)⟩
end Go.Proofs.Ytjccgneimknbpaa.L
namespace Go.Proofs.Ytjccgneimknbpaa.L
open Classical
theorem faultR_self:∀(l:List Route) (k:Nat),faultR l l k=none
 | [],_=>by rw [faultR]
 | a::l,k=>by rw [faultR,if_pos rfl,faultR_self l (k+1)]
theorem faultV_self:∀(l:List Int) (i k:Nat),faultV l l i k=none
 | [],i,k=>by rw [faultV];intro _ _ _ _ h;cases h
 | a::l,i,k=>by rw [faultV,if_pos rfl,faultV_self l i (k+1)]
theorem faultT_self:∀(l:List (List Int)) (i:Nat),faultT l l i=none
 | [],i=>by rw [faultT];intro _ _ _ _ h;cases h
 | a::l,i=>by rw [faultT,if_pos rfl,faultV_self a i 0,faultT_self l (i+1)];rfl
theorem checkF_own {n:Net} {ss:List Signal} {ov:Int} (h:signalsOk n ss=⟨0,0⟩∧0≤ov∧ov≤100000):checkF n ss ov (routesF n ss ov) (tabF (routesF n ss ov))=⟨0,0,0⟩:=by
 rw [checkF_table h rfl (faultR_self _ _),tableW_none (tabF_length (routesF_len n ss ov)) (faultT_self _ _)]
end Go.Proofs.Ytjccgneimknbpaa.L
namespace Go.Proofs.Ytjccgneimknbpaa.L
open Go.RowKit
set_option maxRecDepth 100000 in
set_option maxHeartbeats 2000000 in
theorem wSteps {ok ok':Nat→Prop} (xs:List Step) (A0 A1:Option Addr) (c0 c1:Nat) (w:World) (hx:stepK.C w ok A0 xs) (hy:stepK.C w ok' A1 xs) :
  Calls Try.prog 26 #[.slice A0 xs.length c0,.slice A1 xs.length c1] w (RetB true w):=by
 have hm:=hx.1
 have HX:=Lib.hid hx
 have HY:=Lib.hid hy
 clear hx hy
 have hlb:((xs.length:Int) != (xs.length:Int))=false:=len_eq rfl
 go_enter Try.func26,Try.ntmps26
 go_wp2
 go_loopw [13] (fun i wr=>∃k:Nat,k≤xs.length∧i=.int .i64 k∧Hid (Below w.heap.size w wr)) (fun i _=>xs.length - (intOf i).toNat)
 case atStart=>exact ⟨0,Nat.zero_le _,rfl,Lib.hid (Below.refl _ _)⟩
 case round =>
 obtain ⟨k,hk,rfl,HB⟩:=hrel
 by_cases hlt:k < xs.length
 rotate_left
 ·have d0:decide ((k:Int) < (xs.length:Int))=false:=decide_eq_false (by omega)
  go_wp2
  go_ret
  exact ⟨rfl,HB.out⟩
 have d0:decide ((k:Int) < (xs.length:Int))=true:=decide_eq_true (by omega)
 have i0:(0:Int)≤(k:Int):=Int.natCast_nonneg _
 have i1:(k:Int) < (xs.length:Int):=by omega
 obtain ⟨a0,rfl,p0,p1,E0,gp0,gp1⟩:=stepK_at (Kn.C_below HB.out HX.out) k hlt
 obtain ⟨a1,rfl,q0,q1,E1,gq0,gq1⟩:=stepK_at (Kn.C_below HB.out HY.out) k hlt
 have EE:=Option.some.inj (E0.out.symm.trans E1.out)
 injection EE with ee0 ee1
 subst ee0 ee1
 go_wp2
 go_quiet (fail)
 go_wp2
 go_roundw
 case rel=>exact ⟨k+1,by omega,by go_num,Lib.hid (below_drewN HB.out _)⟩
 case measure=>simp [intOf];omega
set_option maxRecDepth 100000 in
set_option maxHeartbeats 2000000 in
theorem wParts {ok ok':Nat→Prop} (xs:List Part) (A0 A1:Option Addr) (c0 c1:Nat) (w:World) (hx:partK.C w ok A0 xs) (hy:partK.C w ok' A1 xs) :
  Calls Try.prog 41 #[.slice A0 xs.length c0,.slice A1 xs.length c1] w (RetB true w):=by
 have hm:=hx.1
 have HX:=Lib.hid hx
 have HY:=Lib.hid hy
 clear hx hy
 have hlb:((xs.length:Int) != (xs.length:Int))=false:=len_eq rfl
 go_enter Try.func41,Try.ntmps41
 go_wp2
 go_loopw [13] (fun i wr=>∃k:Nat,k≤xs.length∧i=.int .i64 k∧Hid (Below w.heap.size w wr)) (fun i _=>xs.length - (intOf i).toNat)
 case atStart=>exact ⟨0,Nat.zero_le _,rfl,Lib.hid (Below.refl _ _)⟩
 case round =>
 obtain ⟨k,hk,rfl,HB⟩:=hrel
 by_cases hlt:k < xs.length
 rotate_left
 ·have d0:decide ((k:Int) < (xs.length:Int))=false:=decide_eq_false (by omega)
  go_wp2
  go_ret
  exact ⟨rfl,HB.out⟩
 have d0:decide ((k:Int) < (xs.length:Int))=true:=decide_eq_true (by omega)
 have i0:(0:Int)≤(k:Int):=Int.natCast_nonneg _
 have i1:(k:Int) < (xs.length:Int):=by omega
 obtain ⟨a0,rfl,p0,p1,p2,E0,gp0,gp1,gp2⟩:=partK_at (Kn.C_below HB.out HX.out) k hlt
 obtain ⟨a1,rfl,q0,q1,q2,E1,gq0,gq1,gq2⟩:=partK_at (Kn.C_below HB.out HY.out) k hlt
 have EE:=Option.some.inj (E0.out.symm.trans E1.out)
 injection EE with ee0 ee1 ee2
 subst ee0 ee1 ee2
 go_wp2
 go_quiet (fail)
 go_wp2
 go_roundw
 case rel=>exact ⟨k+1,by omega,by go_num,Lib.hid (below_drewN HB.out _)⟩
 case measure=>simp [intOf];omega
set_option maxRecDepth 100000 in
set_option maxHeartbeats 8000000 in
theorem wRoute {ok ok':Nat→Prop} (x:Route) (A2 A3 A4 A5 A6 A7:Option Addr) (c2 c3 c4 c5 c6 c7:Nat) (B2 B3 B4 B5 B6 B7:Option Addr) (d2 d3 d4 d5 d6 d7:Nat) (w:World) (h:RC w ok x A2 A3 A4 A5 A6 A7) (h':RC w ok' x B2 B3 B4 B5 B6 B7) (hn:x.n≤1048576) :
  Calls Try.prog 15 #[.agg #[.int .i64 x.frm,.int .i64 x.til,.slice A2 x.steps.length c2,.slice A3 x.lies.length c3,.slice A4 x.crosses.length c4,.slice A5 x.parts.length c5,.slice A6 x.over.length c6,.slice A7 x.flanks.length c7],.agg #[.int .i64 x.frm,.int .i64 x.til,.slice B2 x.steps.length d2,.slice B3 x.lies.length d3,.slice B4 x.crosses.length d4,.slice B5 x.parts.length d5,.slice B6 x.over.length d6,.slice B7 x.flanks.length d7]] w (RetB true w):=by
 have hl3:x.lies.length≤1048576:=by unfold Route.n at hn;omega
 have hl4:x.crosses.length≤1048576:=by unfold Route.n at hn;omega
 have hl7:x.flanks.length≤1048576:=by unfold Route.n at hn;omega
 obtain ⟨W1,hW1,HB1,HQ,HP⟩:∃W,W=(w.alloc (.cells #[.int .i64 x.frm,.int .i64 x.til,.slice A2 x.steps.length c2,.slice A3 x.lies.length c3,.slice A4 x.crosses.length c4,.slice A5 x.parts.length c5,.slice A6 x.over.length c6,.slice A7 x.flanks.length c7] 44)).alloc (.cells #[.int .i64 x.frm,.int .i64 x.til,.slice B2 x.steps.length d2,.slice B3 x.lies.length d3,.slice B4 x.crosses.length d4,.slice B5 x.parts.length d5,.slice B6 x.over.length d6,.slice B7 x.flanks.length d7] 44)∧Hid (Below w.heap.size w W)∧Hid (Blk W w.heap.size 44 [.int .i64 x.frm,.int .i64 x.til,.slice A2 x.steps.length c2,.slice A3 x.lies.length c3,.slice A4 x.crosses.length c4,.slice A5 x.parts.length c5,.slice A6 x.over.length c6,.slice A7 x.flanks.length c7])∧Hid (Blk W (w.heap.size+1) 44 [.int .i64 x.frm,.int .i64 x.til,.slice B2 x.steps.length d2,.slice B3 x.lies.length d3,.slice B4 x.crosses.length d4,.slice B5 x.parts.length d5,.slice B6 x.over.length d6,.slice B7 x.flanks.length d7]):=⟨_,rfl,Lib.hid ((below_alloc _ _).alloc (by simp) _),Lib.hid ((Blk.new w 44 _ rfl).alloc _),Lib.hid (Blk.new _ _ _ (by simp))⟩
 have H:=Lib.hid (h.below HB1.out)
 have H':=Lib.hid (h'.below HB1.out)
 clear h h'
 go_enter Try.func15,Try.ntmps15
 go_upto_region 1 with (fail)
 rw [←hW1]
 clear hW1
 have s0:=HQ.out.cell 0 rfl
 have s1:=HQ.out.cell 1 rfl
 have s2:=HQ.out.cell 2 rfl
 have s3:=HQ.out.cell 3 rfl
 have s4:=HQ.out.cell 4 rfl
 have s5:=HQ.out.cell 5 rfl
 have s6:=HQ.out.cell 6 rfl
 have s7:=HQ.out.cell 7 rfl
 have t0:=HP.out.cell 0 rfl
 have t1:=HP.out.cell 1 rfl
 have t2:=HP.out.cell 2 rfl
 have t3:=HP.out.cell 3 rfl
 have t4:=HP.out.cell 4 rfl
 have t5:=HP.out.cell 5 rfl
 have t6:=HP.out.cell 6 rfl
 have t7:=HP.out.cell 7 rfl
 have hz:w.heap.size < W1.heap.size:=HQ.out.lt
 have hz1:w.heap.size+1 < W1.heap.size:=HP.out.lt
 have f0:(x.frm != x.frm)=false:=by simp
 have f1:(x.til != x.til)=false:=by simp
 go_wp2_with fail
 refine (wSteps x.steps A2 B2 c2 d2 _ H.out.h2 H'.out.h2).mono ?_
 rintro e w2 ⟨rfl,hb⟩
 have H:=Lib.hid (H.out.below hb)
 have H':=Lib.hid (H'.out.below hb)
 have HQ:=Lib.hid (HQ.out.below hb HQ.out.lt)
 have HP:=Lib.hid (HP.out.below hb HP.out.lt)
 have HB1:=Lib.hid (HB1.out.trans (hb.mono HB1.out.size))
 clear hb
 clear s0 t0 s1 t1 s2 t2 s3 t3 s4 t4 s5 t5 s6 t6 s7 t7 hz hz1
 have s0:=HQ.out.cell 0 rfl
 have s1:=HQ.out.cell 1 rfl
 have s2:=HQ.out.cell 2 rfl
 have s3:=HQ.out.cell 3 rfl
 have s4:=HQ.out.cell 4 rfl
 have s5:=HQ.out.cell 5 rfl
 have s6:=HQ.out.cell 6 rfl
 have s7:=HQ.out.cell 7 rfl
 have t0:=HP.out.cell 0 rfl
 have t1:=HP.out.cell 1 rfl
 have t2:=HP.out.cell 2 rfl
 have t3:=HP.out.cell 3 rfl
 have t4:=HP.out.cell 4 rfl
 have t5:=HP.out.cell 5 rfl
 have t6:=HP.out.cell 6 rfl
 have t7:=HP.out.cell 7 rfl
 have hz:w.heap.size < w2.heap.size:=HQ.out.lt
 have hz1:w.heap.size+1 < w2.heap.size:=HP.out.lt
 go_wp2_with fail
 refine (wParts x.parts A5 B5 c5 d5 _ H.out.h5 H'.out.h5).mono ?_
 rintro e w3 ⟨rfl,hb⟩
 have H:=Lib.hid (H.out.below hb)
 have H':=Lib.hid (H'.out.below hb)
 have HQ:=Lib.hid (HQ.out.below hb HQ.out.lt)
 have HP:=Lib.hid (HP.out.below hb HP.out.lt)
 have HB1:=Lib.hid (HB1.out.trans (hb.mono HB1.out.size))
 clear hb
 clear s0 t0 s1 t1 s2 t2 s3 t3 s4 t4 s5 t5 s6 t6 s7 t7 hz hz1
 have s0:=HQ.out.cell 0 rfl
 have s1:=HQ.out.cell 1 rfl
 have s2:=HQ.out.cell 2 rfl
 have s3:=HQ.out.cell 3 rfl
 have s4:=HQ.out.cell 4 rfl
 have s5:=HQ.out.cell 5 rfl
 have s6:=HQ.out.cell 6 rfl
 have s7:=HQ.out.cell 7 rfl
 have t0:=HP.out.cell 0 rfl
 have t1:=HP.out.cell 1 rfl
 have t2:=HP.out.cell 2 rfl
 have t3:=HP.out.cell 3 rfl
 have t4:=HP.out.cell 4 rfl
 have t5:=HP.out.cell 5 rfl
 have t6:=HP.out.cell 6 rfl
 have t7:=HP.out.cell 7 rfl
 have hz:w.heap.size < w3.heap.size:=HQ.out.lt
 have hz1:w.heap.size+1 < w3.heap.size:=HP.out.lt
 go_wp2_with fail
 refine (wParts x.over A6 B6 c6 d6 _ H.out.h6 H'.out.h6).mono ?_
 rintro e w4 ⟨rfl,hb⟩
 have H:=Lib.hid (H.out.below hb)
 have H':=Lib.hid (H'.out.below hb)
 have HQ:=Lib.hid (HQ.out.below hb HQ.out.lt)
 have HP:=Lib.hid (HP.out.below hb HP.out.lt)
 have HB1:=Lib.hid (HB1.out.trans (hb.mono HB1.out.size))
 clear hb
 clear s0 t0 s1 t1 s2 t2 s3 t3 s4 t4 s5 t5 s6 t6 s7 t7 hz hz1
 have s0:=HQ.out.cell 0 rfl
 have s1:=HQ.out.cell 1 rfl
 have s2:=HQ.out.cell 2 rfl
 have s3:=HQ.out.cell 3 rfl
 have s4:=HQ.out.cell 4 rfl
 have s5:=HQ.out.cell 5 rfl
 have s6:=HQ.out.cell 6 rfl
 have s7:=HQ.out.cell 7 rfl
 have t0:=HP.out.cell 0 rfl
 have t1:=HP.out.cell 1 rfl
 have t2:=HP.out.cell 2 rfl
 have t3:=HP.out.cell 3 rfl
 have t4:=HP.out.cell 4 rfl
 have t5:=HP.out.cell 5 rfl
 have t6:=HP.out.cell 6 rfl
 have t7:=HP.out.cell 7 rfl
 have hz:w.heap.size < w4.heap.size:=HQ.out.lt
 have hz1:w.heap.size+1 < w4.heap.size:=HP.out.lt
 have k3:((x.lies.length:Int) != (x.lies.length:Int))=false:=len_eq rfl
 have k4:((x.crosses.length:Int) != (x.crosses.length:Int))=false:=len_eq rfl
 have k7:((x.flanks.length:Int) != (x.flanks.length:Int))=false:=len_eq rfl
 go_wp2
 clear f0 f1 k3 k4 k7
 clear s0 t0 s1 t1 s2 t2 s3 t3 s4 t4 s5 t5 s6 t6 s7 t7 hz hz1
 go_loopw [72] (fun v wr=>∃k:Nat,k≤x.lies.length∧v=.int .i64 k∧Hid (Below w4.heap.size w4 wr)) (fun v _=>x.lies.length - (intOf v).toNat)
 case atStart=>exact ⟨0,Nat.zero_le _,rfl,Lib.hid (Below.refl _ _)⟩
 case round =>
 obtain ⟨v3,rfl⟩:∃W:World,W=wr:=⟨_,rfl⟩
 obtain ⟨k,hk,rfl,HBr⟩:=hrel
 have H:=Lib.hid (H.out.below HBr.out)
 have H':=Lib.hid (H'.out.below HBr.out)
 have HQ:=Lib.hid (HQ.out.below HBr.out HQ.out.lt)
 have HP:=Lib.hid (HP.out.below HBr.out HP.out.lt)
 have s0:=HQ.out.cell 0 rfl
 have s1:=HQ.out.cell 1 rfl
 have s2:=HQ.out.cell 2 rfl
 have s3:=HQ.out.cell 3 rfl
 have s4:=HQ.out.cell 4 rfl
 have s5:=HQ.out.cell 5 rfl
 have s6:=HQ.out.cell 6 rfl
 have s7:=HQ.out.cell 7 rfl
 have t0:=HP.out.cell 0 rfl
 have t1:=HP.out.cell 1 rfl
 have t2:=HP.out.cell 2 rfl
 have t3:=HP.out.cell 3 rfl
 have t4:=HP.out.cell 4 rfl
 have t5:=HP.out.cell 5 rfl
 have t6:=HP.out.cell 6 rfl
 have t7:=HP.out.cell 7 rfl
 have hz:w.heap.size < v3.heap.size:=HQ.out.lt
 have hz1:w.heap.size+1 < v3.heap.size:=HP.out.lt
 by_cases hlt:k < x.lies.length
 ·as_aux_lemma =>
  have d0:decide ((k:Int) < (x.lies.length:Int))=true:=decide_eq_true (by omega)
  have i0:(0:Int)≤(k:Int):=Int.natCast_nonneg _
  have i1:(k:Int) < (x.lies.length:Int):=by omega
  obtain ⟨a0,rfl,p0,p1,E0,gp0,gp1⟩:=lieK_at (H.out.h3) k hlt
  obtain ⟨a1,rfl,q0,q1,E1,gq0,gq1⟩:=lieK_at (H'.out.h3) k hlt
  have EE:=Option.some.inj (E0.out.symm.trans E1.out)
  injection EE with ee0 ee1
  subst ee0 ee1
  go_wp2
  go_quiet (fail)
  go_wp2
  go_roundw
  case rel=>exact ⟨k+1,by omega,by go_num,Lib.hid (below_drewN HBr.out _)⟩
  case measure=>simp [intOf];omega
 obtain rfl:k=x.lies.length:=by omega
 have d0:decide ((x.lies.length:Int) < (x.lies.length:Int))=false:=decide_eq_false (by omega)
 have HB1:=Lib.hid (HB1.out.trans (HBr.out.mono HB1.out.size))
 go_wp2
 clear d0 HBr hlt hk
 clear s0 t0 s1 t1 s2 t2 s3 t3 s4 t4 s5 t5 s6 t6 s7 t7 hz hz1
 go_loopw [90] (fun v wr=>∃k:Nat,k≤x.crosses.length∧v=.int .i64 k∧Hid (Below v3.heap.size v3 wr)) (fun v _=>x.crosses.length - (intOf v).toNat)
 case atStart=>exact ⟨0,Nat.zero_le _,rfl,Lib.hid (Below.refl _ _)⟩
 case round =>
 obtain ⟨v4,rfl⟩:∃W:World,W=wr:=⟨_,rfl⟩
 obtain ⟨k,hk,rfl,HBr⟩:=hrel
 have H:=Lib.hid (H.out.below HBr.out)
 have H':=Lib.hid (H'.out.below HBr.out)
 have HQ:=Lib.hid (HQ.out.below HBr.out HQ.out.lt)
 have HP:=Lib.hid (HP.out.below HBr.out HP.out.lt)
 have s0:=HQ.out.cell 0 rfl
 have s1:=HQ.out.cell 1 rfl
 have s2:=HQ.out.cell 2 rfl
 have s3:=HQ.out.cell 3 rfl
 have s4:=HQ.out.cell 4 rfl
 have s5:=HQ.out.cell 5 rfl
 have s6:=HQ.out.cell 6 rfl
 have s7:=HQ.out.cell 7 rfl
 have t0:=HP.out.cell 0 rfl
 have t1:=HP.out.cell 1 rfl
 have t2:=HP.out.cell 2 rfl
 have t3:=HP.out.cell 3 rfl
 have t4:=HP.out.cell 4 rfl
 have t5:=HP.out.cell 5 rfl
 have t6:=HP.out.cell 6 rfl
 have t7:=HP.out.cell 7 rfl
 have hz:w.heap.size < v4.heap.size:=HQ.out.lt
 have hz1:w.heap.size+1 < v4.heap.size:=HP.out.lt
 by_cases hlt:k < x.crosses.length
 ·as_aux_lemma =>
  have d0:decide ((k:Int) < (x.crosses.length:Int))=true:=decide_eq_true (by omega)
  have i0:(0:Int)≤(k:Int):=Int.natCast_nonneg _
  have i1:(k:Int) < (x.crosses.length:Int):=by omega
  obtain ⟨a0,rfl,p0,E0,gp0⟩:=int_at (H.out.h4) k hlt
  obtain ⟨a1,rfl,q0,E1,gq0⟩:=int_at (H'.out.h4) k hlt
  obtain rfl:=Option.some.inj (E0.out.symm.trans E1.out)
  go_wp2
  go_quiet (fail)
  go_wp2
  go_roundw
  case rel=>exact ⟨k+1,by omega,by go_num,Lib.hid (below_drewN HBr.out _)⟩
  case measure=>simp [intOf];omega
 obtain rfl:k=x.crosses.length:=by omega
 have d0:decide ((x.crosses.length:Int) < (x.crosses.length:Int))=false:=decide_eq_false (by omega)
 have HB1:=Lib.hid (HB1.out.trans (HBr.out.mono HB1.out.size))
 go_wp2
 clear d0 HBr hlt hk
 clear s0 t0 s1 t1 s2 t2 s3 t3 s4 t4 s5 t5 s6 t6 s7 t7 hz hz1
 go_loopw [108] (fun v wr=>∃k:Nat,k≤x.flanks.length∧v=.int .i64 k∧Hid (Below v4.heap.size v4 wr)) (fun v _=>x.flanks.length - (intOf v).toNat)
 case atStart=>exact ⟨0,Nat.zero_le _,rfl,Lib.hid (Below.refl _ _)⟩
 case round =>
 obtain ⟨v7,rfl⟩:∃W:World,W=wr:=⟨_,rfl⟩
 obtain ⟨k,hk,rfl,HBr⟩:=hrel
 have H:=Lib.hid (H.out.below HBr.out)
 have H':=Lib.hid (H'.out.below HBr.out)
 have HQ:=Lib.hid (HQ.out.below HBr.out HQ.out.lt)
 have HP:=Lib.hid (HP.out.below HBr.out HP.out.lt)
 have s0:=HQ.out.cell 0 rfl
 have s1:=HQ.out.cell 1 rfl
 have s2:=HQ.out.cell 2 rfl
 have s3:=HQ.out.cell 3 rfl
 have s4:=HQ.out.cell 4 rfl
 have s5:=HQ.out.cell 5 rfl
 have s6:=HQ.out.cell 6 rfl
 have s7:=HQ.out.cell 7 rfl
 have t0:=HP.out.cell 0 rfl
 have t1:=HP.out.cell 1 rfl
 have t2:=HP.out.cell 2 rfl
 have t3:=HP.out.cell 3 rfl
 have t4:=HP.out.cell 4 rfl
 have t5:=HP.out.cell 5 rfl
 have t6:=HP.out.cell 6 rfl
 have t7:=HP.out.cell 7 rfl
 have hz:w.heap.size < v7.heap.size:=HQ.out.lt
 have hz1:w.heap.size+1 < v7.heap.size:=HP.out.lt
 by_cases hlt:k < x.flanks.length
 ·as_aux_lemma =>
  have d0:decide ((k:Int) < (x.flanks.length:Int))=true:=decide_eq_true (by omega)
  have i0:(0:Int)≤(k:Int):=Int.natCast_nonneg _
  have i1:(k:Int) < (x.flanks.length:Int):=by omega
  obtain ⟨a0,rfl,p0,p1,p2,p3,E0,gp0,gp1,gp2,gp3⟩:=flankK_at (H.out.h7) k hlt
  obtain ⟨a1,rfl,q0,q1,q2,q3,E1,gq0,gq1,gq2,gq3⟩:=flankK_at (H'.out.h7) k hlt
  have EE:=Option.some.inj (E0.out.symm.trans E1.out)
  injection EE with ee0 ee1 ee2 ee3
  subst ee0 ee1 ee2 ee3
  go_wp2
  go_quiet (fail)
  go_wp2
  go_roundw
  case rel=>exact ⟨k+1,by omega,by go_num,Lib.hid (below_drewN HBr.out _)⟩
  case measure=>simp [intOf];omega
 obtain rfl:k=x.flanks.length:=by omega
 have d0:decide ((x.flanks.length:Int) < (x.flanks.length:Int))=false:=decide_eq_false (by omega)
 have HB1:=Lib.hid (HB1.out.trans (HBr.out.mono HB1.out.size))
 go_wp2
 go_ret
 exact ⟨rfl,HB1.out⟩
set_option maxRecDepth 100000 in
set_option maxHeartbeats 8000000 in
theorem wRoutes {ok ok':Nat→Prop} (xs:List Route) (A0 A1:Option Addr) (c0 c1:Nat) (w:World) (hx:rK.C w ok A0 xs) (hy:rK.C w ok' A1 xs) (hn:Hid (∀x∈xs,x.n≤1048576)) :
  Calls Try.prog 12 #[.slice A0 xs.length c0,.slice A1 xs.length c1] w (RetB true w):=by
 have hm:=hx.1
 have HX:=Lib.hid hx
 have HY:=Lib.hid hy
 clear hx hy
 have hlb:((xs.length:Int) != (xs.length:Int))=false:=len_eq rfl
 go_enter Try.func12,Try.ntmps12
 go_wp2
 go_loopw [13] (fun i wr=>∃k:Nat,k≤xs.length∧i=.int .i64 k∧Hid (Below w.heap.size w wr)) (fun i _=>xs.length - (intOf i).toNat)
 case atStart=>exact ⟨0,Nat.zero_le _,rfl,Lib.hid (Below.refl _ _)⟩
 case round =>
 obtain ⟨wo,rfl⟩:∃W:World,W=wr:=⟨_,rfl⟩
 obtain ⟨k,hk,rfl,HB⟩:=hrel
 by_cases hlt:k < xs.length
 rotate_left
 ·have d0:decide ((k:Int) < (xs.length:Int))=false:=decide_eq_false (by omega)
  go_wp2
  go_ret
  exact ⟨rfl,HB.out⟩
 have d0:decide ((k:Int) < (xs.length:Int))=true:=decide_eq_true (by omega)
 have i0:(0:Int)≤(k:Int):=Int.natCast_nonneg _
 have i1:(k:Int) < (xs.length:Int):=by omega
 obtain ⟨ga,rfl,x,Ex,D2,D3,D4,D5,D6,D7,d2,d3,d4,d5,d6,d7,p0,p1,p2,p3,p4,p5,p6,p7,HRa⟩:=rC_at (Kn.C_below HB.out HX.out) k hlt
 obtain ⟨gb,rfl,y,Ey,E2,E3,E4,E5,E6,E7,e2,e3,e4,e5,e6,e7,q0,q1,q2,q3,q4,q5,q6,q7,HRb⟩:=rC_at (Kn.C_below HB.out HY.out) k hlt
 obtain rfl:=Option.some.inj (Ex.out.symm.trans Ey.out)
 have hxn:=hn.out x (List.mem_of_getElem? Ex.out)
 go_wp2
 go_region_held3 (fun w'=>Below wo.heap.size wo w'∧w'.cell? (ga.add (k*8))=some (.int .i64 x.frm)∧w'.cell? ⟨(ga.add (k*8)).block,(ga.add (k*8)).off+1,none⟩=some (.int .i64 x.til)∧w'.cell? ⟨(ga.add (k*8)).block,(ga.add (k*8)).off+2,none⟩=some (.slice D2 x.steps.length d2)∧w'.cell? ⟨(ga.add (k*8)).block,(ga.add (k*8)).off+3,none⟩=some (.slice D3 x.lies.length d3)∧w'.cell? ⟨(ga.add (k*8)).block,(ga.add (k*8)).off+4,none⟩=some (.slice D4 x.crosses.length d4)∧w'.cell? ⟨(ga.add (k*8)).block,(ga.add (k*8)).off+5,none⟩=some (.slice D5 x.parts.length d5)∧w'.cell? ⟨(ga.add (k*8)).block,(ga.add (k*8)).off+6,none⟩=some (.slice D6 x.over.length d6)∧w'.cell? ⟨(ga.add (k*8)).block,(ga.add (k*8)).off+7,none⟩=some (.slice D7 x.flanks.length d7)∧w'.cell? (gb.add (k*8))=some (.int .i64 x.frm)∧w'.cell? ⟨(gb.add (k*8)).block,(gb.add (k*8)).off+1,none⟩=some (.int .i64 x.til)∧w'.cell? ⟨(gb.add (k*8)).block,(gb.add (k*8)).off+2,none⟩=some (.slice E2 x.steps.length e2)∧w'.cell? ⟨(gb.add (k*8)).block,(gb.add (k*8)).off+3,none⟩=some (.slice E3 x.lies.length e3)∧w'.cell? ⟨(gb.add (k*8)).block,(gb.add (k*8)).off+4,none⟩=some (.slice E4 x.crosses.length e4)∧w'.cell? ⟨(gb.add (k*8)).block,(gb.add (k*8)).off+5,none⟩=some (.slice E5 x.parts.length e5)∧w'.cell? ⟨(gb.add (k*8)).block,(gb.add (k*8)).off+6,none⟩=some (.slice E6 x.over.length e6)∧w'.cell? ⟨(gb.add (k*8)).block,(gb.add (k*8)).off+7,none⟩=some (.slice E7 x.flanks.length e7))
  (first | exact ⟨(Below.refl _ _).drew,p0,p1,p2,p3,p4,p5,p6,p7,q0,q1,q2,q3,q4,q5,q6,q7⟩ | exact ⟨hbS.trans (hbc.mono hbS.size),cell_below (hbS.trans (hbc.mono hbS.size)) p0,cell_below (hbS.trans (hbc.mono hbS.size)) p1,cell_below (hbS.trans (hbc.mono hbS.size)) p2,cell_below (hbS.trans (hbc.mono hbS.size)) p3,cell_below (hbS.trans (hbc.mono hbS.size)) p4,cell_below (hbS.trans (hbc.mono hbS.size)) p5,cell_below (hbS.trans (hbc.mono hbS.size)) p6,cell_below (hbS.trans (hbc.mono hbS.size)) p7,cell_below (hbS.trans (hbc.mono hbS.size)) q0,cell_below (hbS.trans (hbc.mono hbS.size)) q1,cell_below (hbS.trans (hbc.mono hbS.size)) q2,cell_below (hbS.trans (hbc.mono hbS.size)) q3,cell_below (hbS.trans (hbc.mono hbS.size)) q4,cell_below (hbS.trans (hbc.mono hbS.size)) q5,cell_below (hbS.trans (hbc.mono hbS.size)) q6,cell_below (hbS.trans (hbc.mono hbS.size)) q7⟩)
  (first | (go_at_call 15;obtain ⟨hbS,_⟩:=‹Below wo.heap.size wo _∧_›;(with_reducible refine (wRoute x D2 D3 D4 D5 D6 D7 d2 d3 d4 d5 d6 d7 E2 E3 E4 E5 E6 E7 e2 e3 e4 e5 e6 e7 _ (HRa.out.below hbS) (HRb.out.below hbS) hxn).mono ?_);rintro e wz ⟨rfl,hbc⟩))
 obtain ⟨hbF,_⟩:=‹Below wo.heap.size wo wz∧_›
 have HBN:=Lib.hid (HB.out.trans (hbF.mono HB.out.size))
 go_wp2
 go_roundw
 case rel=>exact ⟨k+1,by omega,by go_num,HBN⟩
 case measure=>simp [intOf];omega
end Go.Proofs.Ytjccgneimknbpaa.L
namespace Go.Proofs.Ytjccgneimknbpaa.L
open Go.RowKit
theorem RetS.R {α:Type} {e:Nat} {d:Kn α} {xs:List α} {w w':World} {en:Ending} (h:RetS e d xs w en w') :
  ∃A c ps,en=.returned (.slice A xs.length c)∧Hid (d.C w' (fun b=>b∈Kn.foot (.slice A xs.length c) ps) A xs)∧Hid (d.R e w' (.slice A xs.length c) ps)∧Hid (ps.map Prod.fst=xs)∧Hid (∀b,b∈Kn.foot (.slice A xs.length c) ps→w.heap.size≤b∧b < w'.heap.size)∧Below w.heap.size w w':=by
 obtain ⟨A,c,F,rfl,⟨v,ps,he,hx,hR,hF⟩,hf,hb⟩:=h
 injection he with he _
 subst he
 subst hF
 obtain ⟨A',c',he,_,hC⟩:=Kn.R_C hR
 rw [←hx] at hC
 injection he with he1 he2 he3
 subst he1 he3
 exact ⟨A,c,ps,rfl,Lib.hid hC,Lib.hid hR,Lib.hid hx.symm,Lib.hid (fun b hbb=>⟨hf b hbb,Kn.R_lt hR b hbb⟩),hb⟩
end Go.Proofs.Ytjccgneimknbpaa.L
namespace Go.Proofs.Ytjccgneimknbpaa.L
open Go.RowKit
def InL (w:World) (F:List Nat) (A:Option Addr) (m:Nat):Prop :=
 0 < m→∃b,A=some ⟨b,0,none⟩∧b < w.heap.size∧b∈F∧∀i,i < m→(∃u,w.cell? ⟨b,i,none⟩=some u)∧w.frozen? ⟨b,i,none⟩=false
theorem inL_of {α:Type} {d:Kn α} {e:Nat} {w:World} {xs:List α} {A:Option Addr} {c:Nat} {F F':List Nat} (o:(Kn.slice e d).O w xs [.slice A xs.length c] F') (hF:∀b,b∈F'→b∈F):InL w F A (xs.length*d.sz):=by
 intro h0
 obtain ⟨inner,ho,hb⟩:=O_row o
 have hn:0 < xs.length:=Nat.pos_of_mul_pos_right h0
 obtain ⟨g,hA,hg,_,h1,h2⟩:=(Marked.start (k:=0) ho).at_ hn
 subst hA
 exact ⟨g,rfl,hg,hF g (hb g (by simp [Value.ownBlock])),fun i hi=>⟨h1 i hi,h2 i⟩⟩
theorem top_at {w:World} {A:Option Addr} {c:Nat} {ps:List (Route × List Nat)} (hr:rK.R 44 w (.slice A ps.length c) ps) {j:Nat} (hj:j < ps.length) :
  ∃g p,A=some ⟨g,0,none⟩∧g < w.heap.size∧ps[j]?=some p∧(∀m,¬Firsts ps m g)∧(∀b,b∈p.2→¬Firsts ps j b∧b < w.heap.size)∧∃A2 A3 A4 A5 A6 A7 c2 c3 c4 c5 c6 c7,
   w.cell? ⟨g,j*8,none⟩=some (.int .i64 p.1.frm)∧w.cell? ⟨g,j*8+1,none⟩=some (.int .i64 p.1.til)∧w.cell? ⟨g,j*8+2,none⟩=some (.slice A2 p.1.steps.length c2)∧w.cell? ⟨g,j*8+3,none⟩=some (.slice A3 p.1.lies.length c3)∧w.cell? ⟨g,j*8+4,none⟩=some (.slice A4 p.1.crosses.length c4)∧w.cell? ⟨g,j*8+5,none⟩=some (.slice A5 p.1.parts.length c5)∧w.cell? ⟨g,j*8+6,none⟩=some (.slice A6 p.1.over.length c6)∧w.cell? ⟨g,j*8+7,none⟩=some (.slice A7 p.1.flanks.length c7) ∧
   Hid (RC w (fun b=>b∈p.2) p.1 A2 A3 A4 A5 A6 A7)∧Hid (InL w p.2 A2 (p.1.steps.length*2))∧Hid (InL w p.2 A3 (p.1.lies.length*2))∧Hid (InL w p.2 A4 (p.1.crosses.length*1))∧Hid (InL w p.2 A5 (p.1.parts.length*3))∧Hid (InL w p.2 A6 (p.1.over.length*3))∧Hid (InL w p.2 A7 (p.1.flanks.length*4)):=by
 have hlt:=Kn.R_lt hr
 obtain ⟨inner,ho,hit,hnd⟩:=hr
 unfold Kn.foot at hnd
 rw [List.nodup_append] at hnd
 obtain ⟨p,hp⟩:∃p,ps[j]?=some p:=⟨_,List.getElem?_eq_getElem hj⟩
 obtain ⟨g,hA,hg⟩:∃g,A=some ⟨g,0,none⟩∧g < w.heap.size:=by
  rcases ho.2 with ⟨he,h2⟩ | ⟨g,cap,cur,he,_,hh,_,_,_⟩
  ·omega
  ·injection he with he _ _
   exact ⟨g,he,lt_of_get hh⟩
 subst hA
 have hO:=hit j p hp
 obtain ⟨v2,v3,v4,v5,v6,v7,F2,F3,F4,F5,F6,F7,hcs,hF,o2,o3,o4,o5,o6,o7,hFn⟩:=routeK_O hO
 have hdc:=drop_cells (sz:=8) ho.1 hj hcs
 obtain ⟨A2,c2,rfl⟩:=O_slice o2
 obtain ⟨A3,c3,rfl⟩:=O_slice o3
 obtain ⟨A4,c4,rfl⟩:=O_slice o4
 obtain ⟨A5,c5,rfl⟩:=O_slice o5
 obtain ⟨A6,c6,rfl⟩:=O_slice o6
 obtain ⟨A7,c7,rfl⟩:=O_slice o7
 have hcl:∀i u,i < 8→[Value.int .i64 p.1.frm,.int .i64 p.1.til,.slice A2 p.1.steps.length c2,.slice A3 p.1.lies.length c3,.slice A4 p.1.crosses.length c4,.slice A5 p.1.parts.length c5,.slice A6 p.1.over.length c6,.slice A7 p.1.flanks.length c7][i]?=some u→w.cell? ⟨g,j*8+i,none⟩=some u:=fun i u hi hu=>by
  have h8:inner.length=ps.length*8:=ho.1
  rw [ho.cellAt _ (show j*8+i < ps.length*8 by omega)]
  exact (hdc i hi).trans hu
 have hgo:g∈(Value.slice (some ⟨g,0,none⟩) ps.length c).ownBlock.toList:=by simp [Value.ownBlock]
 have hgf:∀m,¬Firsts ps m g:=fun m h=>hnd.2.2 g hgo g (firsts_mem h) rfl
 have hfp:∀b,b∈p.2→¬Firsts ps j b∧b < w.heap.size:=fun b hb=>⟨fun ⟨i,q,hi,hq,hbq⟩=>items_apart hnd.2.1 hq hp (by omega) hbq hb,hlt b (Kn.mem_foot_item hp hb)⟩
 have hK:=rK.K_of hO
 rw [hcs] at hK
 obtain ⟨D2,d2,D3,d3,D4,d4,D5,d5,D6,d6,D7,d7,he,l2,q2,l3,q3,l4,q4,l5,q5,l6,q6,l7,q7⟩:=routeK_open hK
 injection he with _ he
 injection he with _ he
 injection he with e2 he
 injection e2 with e2 _ _
 subst e2
 injection he with e3 he
 injection e3 with e3 _ _
 subst e3
 injection he with e4 he
 injection e4 with e4 _ _
 subst e4
 injection he with e5 he
 injection e5 with e5 _ _
 subst e5
 injection he with e6 he
 injection e6 with e6 _ _
 subst e6
 injection he with e7 he
 injection e7 with e7 _ _
 subst e7
 have hm:∀b,b∈(F2++(F3++(F4++(F5++(F6++F7)))))→b∈p.2:=fun b h=>hF▸h
 refine ⟨g,p,rfl,hg,hp,hgf,hfp,_,_,_,_,_,_,c2,c3,c4,c5,c6,c7,hcl 0 _ (by omega) rfl,hcl 1 _ (by omega) rfl,hcl 2 _ (by omega) rfl,hcl 3 _ (by omega) rfl,hcl 4 _ (by omega) rfl,hcl 5 _ (by omega) rfl,hcl 6 _ (by omega) rfl,hcl 7 _ (by omega) rfl,Lib.hid ⟨q2,q3,q4,q5,q6,q7⟩,Lib.hid (inL_of o2 (fun b hb=>hm b (by simp [hb]))),Lib.hid (inL_of o3 (fun b hb=>hm b (by simp [hb]))),Lib.hid (inL_of o4 (fun b hb=>hm b (by simp [hb]))),Lib.hid (inL_of o5 (fun b hb=>hm b (by simp [hb]))),Lib.hid (inL_of o6 (fun b hb=>hm b (by simp [hb]))),Lib.hid (inL_of o7 (fun b hb=>hm b (by simp [hb])))⟩
structure TJ (ps:List (Route × List Nat)) (m:Nat) (w w':World):Prop where
 k:Keep (Firsts ps m) w w'
 c:∀q:Addr,q.block < w.heap.size→(∃u,w.cell? q=some u)→∃u,w'.cell? q=some u
 f:∀q:Addr,q.block < w.heap.size→w'.frozen? q=w.frozen? q
section
variable {ps:List (Route × List Nat)} {m m':Nat} {w w1 w2:World}
theorem TJ.refl:TJ ps m w w:=⟨Keep.refl _ _,fun _ _ h=>h,fun _ _=>rfl⟩
theorem TJ.mono (h:TJ ps m w w1) (hm:m≤m'):TJ ps m' w w1:=⟨h.k.mono (fun x _ ⟨i,p,h1,h2,h3⟩=>⟨i,p,by omega,h2,h3⟩),h.c,h.f⟩
theorem TJ.below (h:TJ ps m w w1) (hb:Below w1.heap.size w1 w2):TJ ps m w w2 :=
 ⟨h.k.below hb,fun q hq hu=>by
  obtain ⟨u,hu⟩:=h.c q hq hu
  exact ⟨u,cell_below hb hu⟩,fun q hq=>(hb.frozen (Nat.lt_of_lt_of_le hq h.k.size)).trans (h.f q hq)⟩
theorem TJ.put (h:TJ ps m w w1) {p:Addr} (hp:Firsts ps m p.block) (v:Value):TJ ps m w (w1.setCell p v) :=
 ⟨h.k.setCell (fun _=>hp) v,fun q hq hu=>by
  obtain ⟨u,hu⟩:=h.c q hq hu
  exact cell?_setCell_some hu,fun q hq=>by rw [World.frozen?_setCell];exact h.f q hq⟩
theorem TJ.cell (h:TJ ps m w w1) {p:Addr} {u:Value} (hp:¬Firsts ps m p.block) (hu:w.cell? p=some u):w1.cell? p=some u :=
 (World.cell?_of_block (h.k.block _ (World.block_lt_of_cell? _ _ hu) hp)).trans hu
theorem TJ.size (h:TJ ps m w w1):w.heap.size≤w1.heap.size:=h.k.size
theorem InL.at_ {F:List Nat} {A:Option Addr} {k i:Nat} (h:TJ ps m w w1) (hi:InL w F A k) (hik:i < k):∃b,A=some ⟨b,0,none⟩∧b∈F∧b < w1.heap.size∧(∃u,w1.cell? ⟨b,i,none⟩=some u)∧w1.frozen? ⟨b,i,none⟩=false:=by
 obtain ⟨b,hA,hb,hF,hc⟩:=hi (by omega)
 exact ⟨b,hA,hF,Nat.lt_of_lt_of_le hb h.size,h.c _ hb (hc i hik).1,(h.f _ hb).trans (hc i hik).2⟩
end
end Go.Proofs.Ytjccgneimknbpaa.L
