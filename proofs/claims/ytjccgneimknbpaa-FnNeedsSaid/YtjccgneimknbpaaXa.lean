/- What SignalsOk says; the reference's SignalsOk answers so. -/
import Derived.WalkKit
import Derived.Below
import Derived.Lib.Hide
import Derived.Deep.Draws
import Derived.Deep.QuietTactic
import Derived.Deep.RegionHeld3
import Derived.Deep.LoopGhost
import Derived.Deep.DeepCutAuto
import Derived.BigQuiet
import Derived.KernelRfl
import Derived.RowKit
import Derived.OwnWalk
import Derived.Maps.AppendAt
import Derived.Laws.OwnMore
import Derived.Laws.MakeOwn
import Derived.Laws.Rows
import Derived.Deep.MidRow
import Derived.ProofKit
import Derived.OpenShut
import Derived.ChangeOld
import Derived.SizedLaws
import Derived.Carry
import Derived.Test.YtjccgneimknbpaaProg
import Derived.Deep.AppendLies
import Derived.RegionTactic
import Derived.Laws.BytesArg
import Derived.Lib.ItoaNum
import Derived.Laws.Bits64b
import Derived.Test.YtjccgneimknbpaaRows
set_option linter.unusedVariables false
set_option linter.unusedSimpArgs false
namespace Go.Proofs.Ytjccgneimknbpaa.L
open Go.RowKit
theorem lt_of_get {w:World} {b:Nat} {o:Obj} (h:w.heap[b]?=some o):b < w.heap.size:=(Array.getElem?_eq_some_iff.1 h).1
theorem lt_of_same {w w1:World} {b:Nat} (h:w1.heap[b]?=w.heap[b]?) (hb:b < w.heap.size):b < w1.heap.size:=by
 rw [Array.getElem?_eq_getElem hb] at h
 exact lt_of_get h
theorem cell_same {w w1:World} {a:Addr} (h:w1.heap[a.block]?=w.heap[a.block]?) {v:Value} (hc:w.cell? a=some v):w1.cell? a=some v:=(World.cell?_of_block h).trans hc
theorem cell_below {w w1:World} (h:Below w.heap.size w w1) {a:Addr} {v:Value} (hc:w.cell? a=some v):w1.cell? a=some v:=(h.cell (World.block_lt_of_cell? w a hc)).trans hc
theorem bcell {W w1:World} (hb:Below W.heap.size W w1):(∀b o,b < W.heap.size→w1.cell? ⟨b,o,none⟩=W.cell? ⟨b,o,none⟩)∧(∀b o,b < W.heap.size→w1.frozen? ⟨b,o,none⟩=W.frozen? ⟨b,o,none⟩) :=
 ⟨fun b o h=>hb.cell (p:=⟨b,o,none⟩) h,fun b o h=>hb.frozen (p:=⟨b,o,none⟩) h⟩
theorem below_alloc (w:World) (o:Obj):Below w.heap.size w (w.alloc o):=(Below.refl _ _).alloc (Nat.le_refl _) _
theorem below_drewN {B:Nat} {w W:World} (h:Below B w W) (n:Nat):Below B w (W.drewN n):=⟨h.os,h.tape,h.output,h.size,h.block⟩
theorem add_block (a:Addr) (n:Nat):(a.add n).block=a.block:=by unfold Addr.add;split <;> rfl
theorem add_zero (g j:Nat):(⟨g,0,none⟩:Addr).add j=⟨g,j,none⟩:=by unfold Addr.add;split <;> simp_all
theorem add_field (ad:Addr) (m j:Nat) (hj:0 < j):ad.add (m+j)=⟨(ad.add m).block,(ad.add m).off+j,none⟩:=by
 unfold Addr.add
 by_cases hm:m=0
 ·subst hm
  simp [Nat.ne_of_gt hj]
 ·simp [hm,Nat.add_assoc]
structure Kn (α:Type) where
 sz:Nat
 K:World→(Nat→Prop)→α→List Value→Prop
 O:World→α→List Value→List Nat→Prop
 K_len:∀{w ok x cs},K w ok x cs→cs.length=sz
 K_one:∀{w ok x cs},K w ok x cs→∀u∈cs,u.oneCell'=true
 K_mono:∀{w ok ok' x cs},(∀b,ok b→ok' b)→K w ok x cs→K w ok' x cs
 K_bound:∀{w:World} {ok x cs},K w ok x cs→K w (fun b=>ok b∧b < w.heap.size) x cs
 K_move:∀{w w1:World} {ok x cs},(∀b,ok b→w1.heap[b]?=w.heap[b]?)→K w ok x cs→K w1 ok x cs
 K_of:∀{w x cs F},O w x cs F→K w (fun b=>b∈F) x cs
 O_move:∀{w w1:World} {x cs F},(∀b,b∈F→w1.heap[b]?=w.heap[b]?)→O w x cs F→O w1 x cs F
 O_lt:∀{w:World} {x cs F},O w x cs F→∀b,b∈F→b < w.heap.size
 O_nodup:∀{w x cs F},O w x cs F→F.Nodup
namespace Kn
def C {α:Type} (d:Kn α) (w:World) (ok:Nat→Prop) (A:Option Addr) (xs:List α):Prop :=
 xs.length≤9223372036854775807∧(0 < xs.length→∃ad,A=some ad∧ok ad.block∧ad.block < w.heap.size∧∀j x,xs[j]?=some x→∃c,d.K w ok x c∧∀i u,c[i]?=some u→w.cell? (ad.add (j*d.sz+i))=some u)
def Items {α:Type} (d:Kn α) (w:World) (ps:List (α × List Nat)) (inner:List Value):Prop :=
 ∀j p,ps[j]?=some p→d.O w p.1 ((inner.drop (j*d.sz)).take d.sz) p.2
def foot {α:Type} (v:Value) (ps:List (α × List Nat)):List Nat:=v.ownBlock.toList++(ps.map Prod.snd).flatten
def R {α:Type} (d:Kn α) (e:Nat) (w:World) (v:Value) (ps:List (α × List Nat)):Prop :=
 ∃inner,w.ownsRow 0 e d.sz v ps.length inner∧Items d w ps inner∧(foot v ps).Nodup
section
variable {α:Type} {d:Kn α} {w w1:World} {ok ok':Nat→Prop} {A:Option Addr} {xs:List α}
theorem C_mono (h:∀b,ok b→ok' b) (hc:d.C w ok A xs):d.C w ok' A xs :=
 ⟨hc.1,fun h0=>by
  obtain ⟨ad,e,ho,hl,hx⟩:=hc.2 h0
  refine ⟨ad,e,h _ ho,hl,fun j x hj=>?_⟩
  obtain ⟨c,hk,hcell⟩:=hx j x hj
  exact ⟨c,d.K_mono h hk,hcell⟩⟩
theorem C_bound (hc:d.C w ok A xs):d.C w (fun b=>ok b∧b < w.heap.size) A xs :=
 ⟨hc.1,fun h0=>by
  obtain ⟨ad,e,ho,hl,hx⟩:=hc.2 h0
  refine ⟨ad,e,⟨ho,hl⟩,hl,fun j x hj=>?_⟩
  obtain ⟨c,hk,hcell⟩:=hx j x hj
  exact ⟨c,d.K_bound hk,hcell⟩⟩
theorem C_move (h:∀b,ok b→w1.heap[b]?=w.heap[b]?) (hc:d.C w ok A xs):d.C w1 ok A xs :=
 ⟨hc.1,fun h0=>by
  obtain ⟨ad,e,ho,hl,hx⟩:=hc.2 h0
  refine ⟨ad,e,ho,lt_of_same (h _ ho) hl,fun j x hj=>?_⟩
  obtain ⟨c,hk,hcell⟩:=hx j x hj
  exact ⟨c,d.K_move h hk,fun i u hu=>cell_same (by rw [add_block];exact h _ ho) (hcell i u hu)⟩⟩
theorem C_below (hb:Below w.heap.size w w1) (hc:d.C w ok A xs):d.C w1 ok A xs :=
 C_mono (fun _ h=>h.1) (C_move (fun b h=>hb.block b h.2) (C_bound hc))
theorem K_below {x:α} {cs:List Value} (hb:Below w.heap.size w w1) (hc:d.K w ok x cs):d.K w1 ok x cs :=
 d.K_mono (fun _ h=>h.1) (d.K_move (fun b h=>hb.block b h.2) (d.K_bound hc))
theorem C_at (hc:d.C w ok A xs) (k:Nat) (hk:k < xs.length):∃ad x c,A=some ad∧ok ad.block∧xs[k]?=some x∧d.K w ok x c∧∀i u,c[i]?=some u→w.cell? (ad.add (k*d.sz+i))=some u:=by
 obtain ⟨ad,e,ho,hl,hx⟩:=hc.2 (by omega)
 obtain ⟨c,hkk,hcell⟩:=hx k _ (List.getElem?_eq_getElem hk)
 exact ⟨ad,_,c,e,ho,List.getElem?_eq_getElem hk,hkk,hcell⟩
theorem C_nil:d.C w ok A []:=⟨by simp,fun h=>absurd h (by simp)⟩
end
theorem mem_foot_item {α:Type} {v:Value} {ps:List (α × List Nat)} {j:Nat} {p:α × List Nat} (h:ps[j]?=some p) {b:Nat} (hb:b∈p.2):b∈foot v ps:=by
 refine List.mem_append_right _ (List.mem_flatten.2 ⟨p.2,?_,hb⟩)
 exact List.mem_map.2 ⟨p,List.mem_of_getElem? h,rfl⟩
theorem mem_foot_own {α:Type} {v:Value} {ps:List (α × List Nat)} {b:Nat} (h:v.ownBlock=some b):b∈foot v ps:=by
 refine List.mem_append_left _ ?_
 rw [h]
 exact List.mem_singleton.2 rfl
section
variable {α:Type} {d:Kn α} {e:Nat} {w w1:World} {v:Value} {ps:List (α × List Nat)}
theorem own_move {base size n:Nat} {xs:List Value} (h:w.ownsRow base e size v n xs) (hm:∀k,v.ownBlock=some k→w1.heap[k]?=w.heap[k]?):w1.ownsRow base e size v n xs:=by
 obtain ⟨h1,h2⟩:=h
 refine ⟨h1,?_⟩
 rcases h2 with h2 | ⟨g,cap,cur,rfl,hg,hh,r⟩
 ·exact .inl h2
 ·exact .inr ⟨g,cap,cur,rfl,hg,(hm g (by simp [Value.ownBlock])).trans hh,r⟩
theorem R_move (hm:∀b,b∈foot v ps→w1.heap[b]?=w.heap[b]?) (h:d.R e w v ps):d.R e w1 v ps:=by
 obtain ⟨inner,ho,hi,hn⟩:=h
 exact ⟨inner,own_move ho (fun k hk=>hm k (mem_foot_own hk)),fun j p hj=>d.O_move (fun b hb=>hm b (mem_foot_item hj hb)) (hi j p hj),hn⟩
theorem R_lt (h:d.R e w v ps):∀b,b∈foot v ps→b < w.heap.size:=by
 obtain ⟨inner,ho,hi,hn⟩:=h
 intro b hb
 rcases List.mem_append.1 hb with hb | hb
 ·rw [Option.mem_toList] at hb
  exact (ho.lt b hb).2
 ·obtain ⟨l,hl,hb⟩:=List.mem_flatten.1 hb
  obtain ⟨p,hp,rfl⟩:=List.mem_map.1 hl
  obtain ⟨j,hj⟩:=List.mem_iff_getElem?.1 hp
  exact d.O_lt (hi j p hj) b hb
theorem R_len (h:d.R e w v ps):∃A c,v=.slice A ps.length c∧ps.length≤c∧ps.length≤9223372036854775807:=by
 obtain ⟨inner,ho,hi,hn⟩:=h
 rcases ho.2 with ⟨rfl,h0⟩ | ⟨g,cap,cur,rfl,_,hh,hc,hm,_⟩
 ·exact ⟨none,0,by rw [h0],by omega,by omega⟩
 ·simp only [maxLen] at hm
  exact ⟨_,cap,rfl,hc,by omega⟩
theorem R_C (h:d.R e w v ps):∃A c,v=.slice A ps.length c∧ps.length≤c∧d.C w (fun b=>b∈foot v ps) A (ps.map Prod.fst):=by
 obtain ⟨A,c,rfl,hc,hm⟩:=R_len h
 obtain ⟨inner,ho,hi,hn⟩:=h
 refine ⟨A,c,rfl,hc,by simpa using hm,fun h0=>?_⟩
 rcases ho.2 with ⟨he,h1⟩ | ⟨g,cap,cur,he,_,hh,_,_,_⟩
 ·simp at h0
  omega
 ·injection he with he _ _
  subst he
  refine ⟨⟨g,0,none⟩,rfl,mem_foot_own rfl,lt_of_get hh,fun j x hj=>?_⟩
  rw [List.getElem?_map,Option.map_eq_some_iff] at hj
  obtain ⟨p,hp,rfl⟩:=hj
  refine ⟨_,d.K_mono (fun b hb=>mem_foot_item hp hb) (d.K_of (hi j p hp)),fun i u hu=>?_⟩
  rw [List.getElem?_take] at hu
  split at hu
  ·rw [List.getElem?_drop] at hu
   exact ho.cells (g:=g) rfl _ u hu
  ·cases hu
end
def scalar {α:Type} (enc:α→Value) (h1:∀x,(enc x).oneCell'=true):Kn α where
 sz:=1
 K:=fun _ _ x cs=>cs=[enc x]
 O:=fun _ x cs F=>cs=[enc x]∧F=[]
 K_len:=fun h=>by rw [h];rfl
 K_one:=fun h u hu=>by
  rw [h] at hu
  rw [List.mem_singleton.1 hu]
  exact h1 _
 K_mono:=fun _ h=>h
 K_bound:=fun h=>h
 K_move:=fun _ h=>h
 K_of:=fun h=>h.1
 O_move:=fun _ h=>h
 O_lt:=fun h b hb=>by rw [h.2] at hb;cases hb
 O_nodup:=fun h=>by rw [h.2];exact List.nodup_nil
def int:Kn Int:=scalar (Value.int .i64) (fun _=>rfl)
def str:Kn ByteArray:=scalar Value.string (fun _=>rfl)
def pair {α β:Type} (a:Kn α) (b:Kn β):Kn (α × β) where
 sz:=a.sz+b.sz
 K:=fun w ok x cs=>∃c0 c1,cs=c0++c1∧a.K w ok x.1 c0∧b.K w ok x.2 c1
 O:=fun w x cs F=>∃c0 c1 F0 F1,cs=c0++c1∧F=F0++F1∧a.O w x.1 c0 F0∧b.O w x.2 c1 F1∧F.Nodup
 K_len:=by
  rintro w ok x cs ⟨c0,c1,rfl,h0,h1⟩
  rw [List.length_append,a.K_len h0,b.K_len h1]
 K_one:=by
  rintro w ok x cs ⟨c0,c1,rfl,h0,h1⟩ u hu
  rcases List.mem_append.1 hu with hu | hu
  ·exact a.K_one h0 u hu
  ·exact b.K_one h1 u hu
 K_mono:=by
  rintro w ok ok' x cs hm ⟨c0,c1,rfl,h0,h1⟩
  exact ⟨c0,c1,rfl,a.K_mono hm h0,b.K_mono hm h1⟩
 K_bound:=by
  rintro w ok x cs ⟨c0,c1,rfl,h0,h1⟩
  exact ⟨c0,c1,rfl,a.K_bound h0,b.K_bound h1⟩
 K_move:=by
  rintro w w1 ok x cs hm ⟨c0,c1,rfl,h0,h1⟩
  exact ⟨c0,c1,rfl,a.K_move hm h0,b.K_move hm h1⟩
 K_of:=by
  rintro w x cs F ⟨c0,c1,F0,F1,rfl,rfl,h0,h1,_⟩
  exact ⟨c0,c1,rfl,a.K_mono (fun _ h=>List.mem_append_left _ h) (a.K_of h0),b.K_mono (fun _ h=>List.mem_append_right _ h) (b.K_of h1)⟩
 O_move:=by
  rintro w w1 x cs F hm ⟨c0,c1,F0,F1,rfl,rfl,h0,h1,hn⟩
  exact ⟨c0,c1,F0,F1,rfl,rfl,a.O_move (fun k hk=>hm k (List.mem_append_left _ hk)) h0,b.O_move (fun k hk=>hm k (List.mem_append_right _ hk)) h1,hn⟩
 O_lt:=by
  rintro w x cs F ⟨c0,c1,F0,F1,rfl,rfl,h0,h1,hn⟩ k hk
  rcases List.mem_append.1 hk with hk | hk
  ·exact a.O_lt h0 k hk
  ·exact b.O_lt h1 k hk
 O_nodup:=by
  rintro w x cs F ⟨c0,c1,F0,F1,rfl,rfl,h0,h1,hn⟩
  exact hn
def iso {α β:Type} (d:Kn α) (f:β→α):Kn β where
 sz:=d.sz
 K:=fun w ok x cs=>d.K w ok (f x) cs
 O:=fun w x cs F=>d.O w (f x) cs F
 K_len:=d.K_len
 K_one:=d.K_one
 K_mono:=d.K_mono
 K_bound:=d.K_bound
 K_move:=d.K_move
 K_of:=d.K_of
 O_move:=d.O_move
 O_lt:=d.O_lt
 O_nodup:=d.O_nodup
def slice {α:Type} (e:Nat) (d:Kn α):Kn (List α) where
 sz:=1
 K:=fun w ok xs cs=>∃A c,cs=[.slice A xs.length c]∧xs.length≤c∧d.C w ok A xs
 O:=fun w xs cs F=>∃v ps,cs=[v]∧xs=ps.map Prod.fst∧d.R e w v ps∧F=foot v ps
 K_len:=by
  rintro w ok x cs ⟨A,c,rfl,_⟩
  rfl
 K_one:=by
  rintro w ok x cs ⟨A,c,rfl,_⟩ u hu
  rw [List.mem_singleton.1 hu]
  rfl
 K_mono:=by
  rintro w ok ok' x cs hm ⟨A,c,rfl,hl,hc⟩
  exact ⟨A,c,rfl,hl,C_mono hm hc⟩
 K_bound:=by
  rintro w ok x cs ⟨A,c,rfl,hl,hc⟩
  exact ⟨A,c,rfl,hl,C_bound hc⟩
 K_move:=by
  rintro w w1 ok x cs hm ⟨A,c,rfl,hl,hc⟩
  exact ⟨A,c,rfl,hl,C_move hm hc⟩
 K_of:=by
  rintro w x cs F ⟨v,ps,rfl,rfl,h,rfl⟩
  obtain ⟨A,c,he,hl,hc⟩:=R_C h
  refine ⟨A,c,?_,?_,hc⟩
  ·rw [he,List.length_map]
  ·rw [List.length_map]
   exact hl
 O_move:=by
  rintro w w1 x cs F hm ⟨v,ps,rfl,rfl,h,rfl⟩
  exact ⟨v,ps,rfl,rfl,R_move hm h,rfl⟩
 O_lt:=by
  rintro w x cs F ⟨v,ps,rfl,rfl,h,rfl⟩
  exact R_lt h
 O_nodup:=by
  rintro w x cs F ⟨v,ps,rfl,rfl,⟨_,_,_,hn⟩,rfl⟩
  exact hn
end Kn
def setAll (xs:List Value):Nat→List Value→List Value
 | _,[]=>xs
 | o,c::cs=>setAll (xs.set o c) (o+1) cs
theorem setAll_out:∀(cs xs:List Value) (o i:Nat),i < o∨o+cs.length≤i→(setAll xs o cs)[i]?=xs[i]?
 | [],_,_,_,_=>rfl
 | c::cs,xs,o,i,h=>by
  rw [List.length_cons] at h
  rw [setAll,setAll_out cs _ _ _ (by omega),List.getElem?_set_ne (by omega)]
theorem setAll_in:∀(cs xs:List Value) (o i:Nat),i < cs.length→o+cs.length≤xs.length→(setAll xs o cs)[o+i]?=cs[i]?
 | [],_,_,_,h,_=>absurd h (by simp)
 | c::cs,xs,o,i,h,hl=>by
  rw [List.length_cons] at h hl
  rw [setAll]
  cases i with
  | zero =>
   rw [setAll_out cs _ _ _ (by omega),Nat.add_zero,List.getElem?_set_self (by omega)]
   rfl
  | succ i =>
   have:=setAll_in cs (xs.set o c) (o+1) i (by omega) (by rw [List.length_set];omega)
   rw [show o+(i+1)=o+1+i by omega,this]
   rfl
theorem setAll_chunk {cs xs:List Value} {sz k:Nat} (hc:cs.length=sz) (hk:k*sz+sz≤xs.length):((setAll xs (k*sz) cs).drop (k*sz)).take sz=cs:=by
 apply List.ext_getElem?
 intro i
 rw [List.getElem?_take]
 split
 ·rw [List.getElem?_drop,setAll_in cs xs (k*sz) i (by omega) (by omega)]
 ·rw [List.getElem?_eq_none (by omega)]
theorem setAll_other {cs xs:List Value} {sz k j:Nat} (hc:cs.length=sz) (hj:j≠k):((setAll xs (k*sz) cs).drop (j*sz)).take sz=(xs.drop (j*sz)).take sz:=by
 apply List.ext_getElem?
 intro i
 rw [List.getElem?_take,List.getElem?_take]
 split
 ·rw [List.getElem?_drop,List.getElem?_drop,setAll_out]
  rcases Nat.lt_or_gt_of_ne hj with h | h
  ·have:j*sz+sz≤k*sz:=by rw [←Nat.succ_mul];exact Nat.mul_le_mul_right _ h
   omega
  ·have:k*sz+sz≤j*sz:=by rw [←Nat.succ_mul];exact Nat.mul_le_mul_right _ h
   omega
 ·rfl
theorem own_setCells {e sz n cap g:Nat}:∀(cs inner:List Value) (o:Nat) (w:World),w.ownsRow 0 e sz (.slice (some ⟨g,0,none⟩) n cap) n inner →
  (w.setCells g o cs).ownsRow 0 e sz (.slice (some ⟨g,0,none⟩) n cap) n (setAll inner o cs)∧w.grownBy (w.setCells g o cs) (some g)
 | [],_,_,w,h=>⟨h,World.grownBy.refl _ _⟩
 | c::cs,inner,o,w,h=>by
  obtain ⟨h1,g1⟩:=h.stored o c
  obtain ⟨h2,g2⟩:=own_setCells cs (inner.set o c) (o+1) _ h1
  exact ⟨h2,World.grownBy.trans g1 g2⟩
theorem size_of_info {P:Program} {e:TypeId} {z:Option Value} {s b:Nat} (h:(P.info? e).map (fun i=>(i.zero,i.size,i.bytes))=some (z,s,b)):(P.info? e).map (·.size)=some s:=by
 cases hq:P.info? e with
 | none=>simp [hq] at h
 | some i=>simp [hq] at h ⊢;exact h.2.1
section
variable {P:Program} {ops:Array Oper} {rest:List Oper} {o:Oper} {a:Act} {Q:Exit→Act→World→Prop}
theorem wpList_store_own {w:World} (hgd:o.guard=none) (ty:TypeId) (x y:Operand) (ho:o.op=.store ty x y) {e sz n cap g off:Nat} {inner:List Value} (cs:List Value)
  (hown:w.ownsRow 0 e sz (.slice (some ⟨g,0,none⟩) n cap) n inner) (hx:a.eval x=.pointer (some ⟨g,off,none⟩)) (hy:a.eval y=.agg cs.toArray)
  (hoff:off+cs.length≤n*sz) (hi:(P.info? ty).map (·.size)=some cs.length) (h1:cs.all (·.oneCell')=true)
  (h:∀w1,w1.ownsRow 0 e sz (.slice (some ⟨g,0,none⟩) n cap) n (setAll inner off cs)→w.grownBy w1 (some g)→wpList P ops Q rest (a.put o.dst undef) w1) :
  wpList P ops Q (o::rest) a w:=by
 refine wpList_store_mid hgd ty x y ho g off cs.toArray hx hy (fun j hj=>⟨?_,hown.frozenAt _⟩) (by simpa using hi) (all_oneCell_toArray (List.all_eq_true.1 h1)) ?_
 ·have hj':j < cs.length:=by simpa using hj
  rw [hown.cellAt _ (by omega),List.getElem?_eq_getElem (by rw [hown.1];omega)]
  rfl
 ·obtain ⟨h2,g2⟩:=own_setCells cs inner off w hown
  exact h _ h2 g2
end
theorem below_grown {B:Nat} {w w1 w2:World} (hb:Below B w w1) {g:Nat} (hg:w1.grownBy w2 (some g)) (hB:B≤g) (hs:B≤w1.heap.size):Below B w w2 :=
 hb.grown hg hs (fun k hk=>by injection hk with hk;omega)
end Go.Proofs.Ytjccgneimknbpaa.L
namespace Go.Proofs.Ytjccgneimknbpaa.L
open Go.RowKit
noncomputable def eqv {α:Type} (x y:α):Bool:=@decide (x=y) (Classical.propDecidable _)
theorem eqv_true {α:Type} {x y:α} (h:x=y):eqv x y=true:=by unfold eqv;exact @decide_eq_true _ (Classical.propDecidable _) h
theorem eqv_false {α:Type} {x y:α} (h:¬x=y):eqv x y=false:=by unfold eqv;exact @decide_eq_false _ (Classical.propDecidable _) h
theorem eqv_self {α:Type} (x:α):eqv x x=true:=eqv_true rfl
theorem of_eqv {α:Type} {x y:α} (h:eqv x y=true):x=y:=by unfold eqv at h;exact @of_decide_eq_true _ (Classical.propDecidable _) h
structure Piece where
 name:ByteArray
 len:Int
 speed:Int
 brake:Int
def pieceK:Kn Piece:=Kn.iso (Kn.pair Kn.str (Kn.pair Kn.int (Kn.pair Kn.int Kn.int))) (fun x=>(x.name,x.len,x.speed,x.brake))
abbrev Piece.cs (x:Piece):List Value:=[.string x.name,.int .i64 x.len,.int .i64 x.speed,.int .i64 x.brake]
abbrev Piece.v (x:Piece):Value:=.agg #[.string x.name,.int .i64 x.len,.int .i64 x.speed,.int .i64 x.brake]
theorem pieceK_open {w:World} {ok:Nat→Prop} {x:Piece} {cs:List Value} (h:pieceK.K w ok x cs):cs=x.cs:=by
 obtain ⟨_,_,rfl,rfl,⟨_,_,rfl,rfl,⟨_,_,rfl,rfl,rfl⟩⟩⟩:=h
 rfl
theorem pieceK_mk (w:World) (ok:Nat→Prop) (x:Piece):pieceK.K w ok x x.cs:=⟨_,_,rfl,rfl,⟨_,_,rfl,rfl,⟨_,_,rfl,rfl,rfl⟩⟩⟩
theorem pieceK_at {w:World} {ok:Nat→Prop} {A:Option Addr} {xs:List Piece} (h:pieceK.C w ok A xs) (k:Nat) (hk:k < xs.length):∃ad,A=some ad∧∃y0 y1 y2 y3,Hid (xs[k]?=some ⟨y0,y1,y2,y3⟩)∧w.cell? (ad.add (k*4))=some (.string y0)∧w.cell? ⟨(ad.add (k*4)).block,(ad.add (k*4)).off+1,none⟩=some (.int .i64 y1)∧w.cell? ⟨(ad.add (k*4)).block,(ad.add (k*4)).off+2,none⟩=some (.int .i64 y2)∧w.cell? ⟨(ad.add (k*4)).block,(ad.add (k*4)).off+3,none⟩=some (.int .i64 y3):=by
 obtain ⟨ad,x,c,e,_,hx,hkk,hc⟩:=Kn.C_at h k hk
 obtain rfl:=pieceK_open hkk
 refine ⟨ad,e,_,_,_,_,Lib.hid hx,hc 0 _ rfl,by rw [←add_field _ _ 1 (by omega)];exact hc 1 _ rfl,by rw [←add_field _ _ 2 (by omega)];exact hc 2 _ rfl,by rw [←add_field _ _ 3 (by omega)];exact hc 3 _ rfl⟩
structure End where
 piece:Int
 side:Int
def endK:Kn End:=Kn.iso (Kn.pair Kn.int Kn.int) (fun x=>(x.piece,x.side))
abbrev End.cs (x:End):List Value:=[.int .i64 x.piece,.int .i64 x.side]
abbrev End.v (x:End):Value:=.agg #[.int .i64 x.piece,.int .i64 x.side]
theorem endK_open {w:World} {ok:Nat→Prop} {x:End} {cs:List Value} (h:endK.K w ok x cs):cs=x.cs:=by
 obtain ⟨_,_,rfl,rfl,rfl⟩:=h
 rfl
theorem endK_mk (w:World) (ok:Nat→Prop) (x:End):endK.K w ok x x.cs:=⟨_,_,rfl,rfl,rfl⟩
theorem endK_at {w:World} {ok:Nat→Prop} {A:Option Addr} {xs:List End} (h:endK.C w ok A xs) (k:Nat) (hk:k < xs.length):∃ad,A=some ad∧∃y0 y1,Hid (xs[k]?=some ⟨y0,y1⟩)∧w.cell? (ad.add (k*2))=some (.int .i64 y0)∧w.cell? ⟨(ad.add (k*2)).block,(ad.add (k*2)).off+1,none⟩=some (.int .i64 y1):=by
 obtain ⟨ad,x,c,e,_,hx,hkk,hc⟩:=Kn.C_at h k hk
 obtain rfl:=endK_open hkk
 refine ⟨ad,e,_,_,Lib.hid hx,hc 0 _ rfl,by rw [←add_field _ _ 1 (by omega)];exact hc 1 _ rfl⟩
structure Signal where
 name:ByteArray
 piece:Int
 at_:Int
 way:Int
def signalK:Kn Signal:=Kn.iso (Kn.pair Kn.str (Kn.pair Kn.int (Kn.pair Kn.int Kn.int))) (fun x=>(x.name,x.piece,x.at_,x.way))
abbrev Signal.cs (x:Signal):List Value:=[.string x.name,.int .i64 x.piece,.int .i64 x.at_,.int .i64 x.way]
abbrev Signal.v (x:Signal):Value:=.agg #[.string x.name,.int .i64 x.piece,.int .i64 x.at_,.int .i64 x.way]
theorem signalK_open {w:World} {ok:Nat→Prop} {x:Signal} {cs:List Value} (h:signalK.K w ok x cs):cs=x.cs:=by
 obtain ⟨_,_,rfl,rfl,⟨_,_,rfl,rfl,⟨_,_,rfl,rfl,rfl⟩⟩⟩:=h
 rfl
theorem signalK_mk (w:World) (ok:Nat→Prop) (x:Signal):signalK.K w ok x x.cs:=⟨_,_,rfl,rfl,⟨_,_,rfl,rfl,⟨_,_,rfl,rfl,rfl⟩⟩⟩
theorem signalK_at {w:World} {ok:Nat→Prop} {A:Option Addr} {xs:List Signal} (h:signalK.C w ok A xs) (k:Nat) (hk:k < xs.length):∃ad,A=some ad∧∃y0 y1 y2 y3,Hid (xs[k]?=some ⟨y0,y1,y2,y3⟩)∧w.cell? (ad.add (k*4))=some (.string y0)∧w.cell? ⟨(ad.add (k*4)).block,(ad.add (k*4)).off+1,none⟩=some (.int .i64 y1)∧w.cell? ⟨(ad.add (k*4)).block,(ad.add (k*4)).off+2,none⟩=some (.int .i64 y2)∧w.cell? ⟨(ad.add (k*4)).block,(ad.add (k*4)).off+3,none⟩=some (.int .i64 y3):=by
 obtain ⟨ad,x,c,e,_,hx,hkk,hc⟩:=Kn.C_at h k hk
 obtain rfl:=signalK_open hkk
 refine ⟨ad,e,_,_,_,_,Lib.hid hx,hc 0 _ rfl,by rw [←add_field _ _ 1 (by omega)];exact hc 1 _ rfl,by rw [←add_field _ _ 2 (by omega)];exact hc 2 _ rfl,by rw [←add_field _ _ 3 (by omega)];exact hc 3 _ rfl⟩
structure Step where
 piece:Int
 way:Int
def stepK:Kn Step:=Kn.iso (Kn.pair Kn.int Kn.int) (fun x=>(x.piece,x.way))
abbrev Step.cs (x:Step):List Value:=[.int .i64 x.piece,.int .i64 x.way]
abbrev Step.v (x:Step):Value:=.agg #[.int .i64 x.piece,.int .i64 x.way]
theorem stepK_open {w:World} {ok:Nat→Prop} {x:Step} {cs:List Value} (h:stepK.K w ok x cs):cs=x.cs:=by
 obtain ⟨_,_,rfl,rfl,rfl⟩:=h
 rfl
theorem stepK_mk (w:World) (ok:Nat→Prop) (x:Step):stepK.K w ok x x.cs:=⟨_,_,rfl,rfl,rfl⟩
theorem stepK_own (w:World) (x:Step):stepK.O w x x.cs []:=⟨_,_,[],[],rfl,rfl,⟨rfl,rfl⟩,⟨rfl,rfl⟩,List.nodup_nil⟩
theorem stepK_at {w:World} {ok:Nat→Prop} {A:Option Addr} {xs:List Step} (h:stepK.C w ok A xs) (k:Nat) (hk:k < xs.length):∃ad,A=some ad∧∃y0 y1,Hid (xs[k]?=some ⟨y0,y1⟩)∧w.cell? (ad.add (k*2))=some (.int .i64 y0)∧w.cell? ⟨(ad.add (k*2)).block,(ad.add (k*2)).off+1,none⟩=some (.int .i64 y1):=by
 obtain ⟨ad,x,c,e,_,hx,hkk,hc⟩:=Kn.C_at h k hk
 obtain rfl:=stepK_open hkk
 refine ⟨ad,e,_,_,Lib.hid hx,hc 0 _ rfl,by rw [←add_field _ _ 1 (by omega)];exact hc 1 _ rfl⟩
structure Lie where
 joint:Int
 lie:Int
def lieK:Kn Lie:=Kn.iso (Kn.pair Kn.int Kn.int) (fun x=>(x.joint,x.lie))
abbrev Lie.cs (x:Lie):List Value:=[.int .i64 x.joint,.int .i64 x.lie]
abbrev Lie.v (x:Lie):Value:=.agg #[.int .i64 x.joint,.int .i64 x.lie]
theorem lieK_open {w:World} {ok:Nat→Prop} {x:Lie} {cs:List Value} (h:lieK.K w ok x cs):cs=x.cs:=by
 obtain ⟨_,_,rfl,rfl,rfl⟩:=h
 rfl
theorem lieK_mk (w:World) (ok:Nat→Prop) (x:Lie):lieK.K w ok x x.cs:=⟨_,_,rfl,rfl,rfl⟩
theorem lieK_own (w:World) (x:Lie):lieK.O w x x.cs []:=⟨_,_,[],[],rfl,rfl,⟨rfl,rfl⟩,⟨rfl,rfl⟩,List.nodup_nil⟩
theorem lieK_at {w:World} {ok:Nat→Prop} {A:Option Addr} {xs:List Lie} (h:lieK.C w ok A xs) (k:Nat) (hk:k < xs.length):∃ad,A=some ad∧∃y0 y1,Hid (xs[k]?=some ⟨y0,y1⟩)∧w.cell? (ad.add (k*2))=some (.int .i64 y0)∧w.cell? ⟨(ad.add (k*2)).block,(ad.add (k*2)).off+1,none⟩=some (.int .i64 y1):=by
 obtain ⟨ad,x,c,e,_,hx,hkk,hc⟩:=Kn.C_at h k hk
 obtain rfl:=lieK_open hkk
 refine ⟨ad,e,_,_,Lib.hid hx,hc 0 _ rfl,by rw [←add_field _ _ 1 (by omega)];exact hc 1 _ rfl⟩
structure Part where
 piece:Int
 frm:Int
 til:Int
def partK:Kn Part:=Kn.iso (Kn.pair Kn.int (Kn.pair Kn.int Kn.int)) (fun x=>(x.piece,x.frm,x.til))
abbrev Part.cs (x:Part):List Value:=[.int .i64 x.piece,.int .i64 x.frm,.int .i64 x.til]
abbrev Part.v (x:Part):Value:=.agg #[.int .i64 x.piece,.int .i64 x.frm,.int .i64 x.til]
theorem partK_open {w:World} {ok:Nat→Prop} {x:Part} {cs:List Value} (h:partK.K w ok x cs):cs=x.cs:=by
 obtain ⟨_,_,rfl,rfl,⟨_,_,rfl,rfl,rfl⟩⟩:=h
 rfl
theorem partK_mk (w:World) (ok:Nat→Prop) (x:Part):partK.K w ok x x.cs:=⟨_,_,rfl,rfl,⟨_,_,rfl,rfl,rfl⟩⟩
theorem partK_own (w:World) (x:Part):partK.O w x x.cs []:=⟨_,_,[],[],rfl,rfl,⟨rfl,rfl⟩,⟨_,_,[],[],rfl,rfl,⟨rfl,rfl⟩,⟨rfl,rfl⟩,List.nodup_nil⟩,List.nodup_nil⟩
theorem partK_at {w:World} {ok:Nat→Prop} {A:Option Addr} {xs:List Part} (h:partK.C w ok A xs) (k:Nat) (hk:k < xs.length):∃ad,A=some ad∧∃y0 y1 y2,Hid (xs[k]?=some ⟨y0,y1,y2⟩)∧w.cell? (ad.add (k*3))=some (.int .i64 y0)∧w.cell? ⟨(ad.add (k*3)).block,(ad.add (k*3)).off+1,none⟩=some (.int .i64 y1)∧w.cell? ⟨(ad.add (k*3)).block,(ad.add (k*3)).off+2,none⟩=some (.int .i64 y2):=by
 obtain ⟨ad,x,c,e,_,hx,hkk,hc⟩:=Kn.C_at h k hk
 obtain rfl:=partK_open hkk
 refine ⟨ad,e,_,_,_,Lib.hid hx,hc 0 _ rfl,by rw [←add_field _ _ 1 (by omega)];exact hc 1 _ rfl,by rw [←add_field _ _ 2 (by omega)];exact hc 2 _ rfl⟩
structure Flank where
 at_:Int
 kind:Int
 of_:Int
 lie:Int
def flankK:Kn Flank:=Kn.iso (Kn.pair Kn.int (Kn.pair Kn.int (Kn.pair Kn.int Kn.int))) (fun x=>(x.at_,x.kind,x.of_,x.lie))
abbrev Flank.cs (x:Flank):List Value:=[.int .i64 x.at_,.int .i64 x.kind,.int .i64 x.of_,.int .i64 x.lie]
abbrev Flank.v (x:Flank):Value:=.agg #[.int .i64 x.at_,.int .i64 x.kind,.int .i64 x.of_,.int .i64 x.lie]
theorem flankK_open {w:World} {ok:Nat→Prop} {x:Flank} {cs:List Value} (h:flankK.K w ok x cs):cs=x.cs:=by
 obtain ⟨_,_,rfl,rfl,⟨_,_,rfl,rfl,⟨_,_,rfl,rfl,rfl⟩⟩⟩:=h
 rfl
theorem flankK_mk (w:World) (ok:Nat→Prop) (x:Flank):flankK.K w ok x x.cs:=⟨_,_,rfl,rfl,⟨_,_,rfl,rfl,⟨_,_,rfl,rfl,rfl⟩⟩⟩
theorem flankK_own (w:World) (x:Flank):flankK.O w x x.cs []:=⟨_,_,[],[],rfl,rfl,⟨rfl,rfl⟩,⟨_,_,[],[],rfl,rfl,⟨rfl,rfl⟩,⟨_,_,[],[],rfl,rfl,⟨rfl,rfl⟩,⟨rfl,rfl⟩,List.nodup_nil⟩,List.nodup_nil⟩,List.nodup_nil⟩
theorem flankK_at {w:World} {ok:Nat→Prop} {A:Option Addr} {xs:List Flank} (h:flankK.C w ok A xs) (k:Nat) (hk:k < xs.length):∃ad,A=some ad∧∃y0 y1 y2 y3,Hid (xs[k]?=some ⟨y0,y1,y2,y3⟩)∧w.cell? (ad.add (k*4))=some (.int .i64 y0)∧w.cell? ⟨(ad.add (k*4)).block,(ad.add (k*4)).off+1,none⟩=some (.int .i64 y1)∧w.cell? ⟨(ad.add (k*4)).block,(ad.add (k*4)).off+2,none⟩=some (.int .i64 y2)∧w.cell? ⟨(ad.add (k*4)).block,(ad.add (k*4)).off+3,none⟩=some (.int .i64 y3):=by
 obtain ⟨ad,x,c,e,_,hx,hkk,hc⟩:=Kn.C_at h k hk
 obtain rfl:=flankK_open hkk
 refine ⟨ad,e,_,_,_,_,Lib.hid hx,hc 0 _ rfl,by rw [←add_field _ _ 1 (by omega)];exact hc 1 _ rfl,by rw [←add_field _ _ 2 (by omega)];exact hc 2 _ rfl,by rw [←add_field _ _ 3 (by omega)];exact hc 3 _ rfl⟩
structure Fault where
 code:Int
 at_:Int
abbrev Fault.cs (x:Fault):List Value:=[.int .i64 x.code,.int .i64 x.at_]
abbrev Fault.v (x:Fault):Value:=.agg #[.int .i64 x.code,.int .i64 x.at_]
structure Wrong where
 code:Int
 a:Int
 b:Int
abbrev Wrong.cs (x:Wrong):List Value:=[.int .i64 x.code,.int .i64 x.a,.int .i64 x.b]
abbrev Wrong.v (x:Wrong):Value:=.agg #[.int .i64 x.code,.int .i64 x.a,.int .i64 x.b]
theorem int_at {w:World} {ok:Nat→Prop} {A:Option Addr} {xs:List Int} (h:Kn.int.C w ok A xs) (k:Nat) (hk:k < xs.length):∃ad,A=some ad∧∃y,Hid (xs[k]?=some y)∧w.cell? (ad.add k)=some (.int .i64 y):=by
 obtain ⟨ad,x,c,e,_,hx,rfl,hc⟩:=Kn.C_at h k hk
 exact ⟨ad,e,_,Lib.hid hx,by have:=hc 0 _ rfl;rwa [show k*Kn.int.sz+0=k from by show k*1+0=k;omega] at this⟩
structure Joint where
 kind:Int
 name:ByteArray
 ends:List End
def jointK (eE:Nat):Kn Joint:=Kn.iso (Kn.pair Kn.int (Kn.pair Kn.str (Kn.slice eE endK))) (fun x=>(x.kind,x.name,x.ends))
theorem jointK_open {eE:Nat} {w:World} {ok:Nat→Prop} {x:Joint} {cs:List Value} (h:(jointK eE).K w ok x cs):∃A0 c0,cs=[.int .i64 x.kind,.string x.name,.slice A0 x.ends.length c0]∧x.ends.length≤c0∧endK.C w ok A0 x.ends:=by
 obtain ⟨_,_,rfl,rfl,⟨_,_,rfl,rfl,⟨A0,c0,rfl,l0,h0⟩⟩⟩:=h
 exact ⟨A0,c0,rfl,l0,h0⟩
theorem jointK_mk {eE:Nat} {w:World} {ok:Nat→Prop} {x:Joint} {A0:Option Addr} {c0:Nat} (l0:x.ends.length≤c0) (h0:endK.C w ok A0 x.ends):(jointK eE).K w ok x [.int .i64 x.kind,.string x.name,.slice A0 x.ends.length c0]:=⟨_,_,rfl,rfl,⟨_,_,rfl,rfl,⟨A0,c0,rfl,l0,h0⟩⟩⟩
theorem jointK_at {eE:Nat} {w:World} {ok:Nat→Prop} {A:Option Addr} {xs:List Joint} (h:(jointK eE).C w ok A xs) (k:Nat) (hk:k < xs.length):∃ad,A=some ad∧∃x,Hid (xs[k]?=some x)∧∃A0 c0,w.cell? (ad.add (k*3))=some (.int .i64 x.kind)∧w.cell? ⟨(ad.add (k*3)).block,(ad.add (k*3)).off+1,none⟩=some (.string x.name)∧w.cell? ⟨(ad.add (k*3)).block,(ad.add (k*3)).off+2,none⟩=some (.slice A0 x.ends.length c0)∧x.ends.length≤c0∧endK.C w ok A0 x.ends:=by
 obtain ⟨ad,x,c,e,_,hx,hkk,hc⟩:=Kn.C_at h k hk
 obtain ⟨A0,c0,rfl,l0,h0⟩:=jointK_open hkk
 exact ⟨ad,e,x,Lib.hid hx,A0,c0,hc 0 _ rfl,by rw [←add_field _ _ 1 (by omega)];exact hc 1 _ rfl,by rw [←add_field _ _ 2 (by omega)];exact hc 2 _ rfl,l0,h0⟩
structure Net where
 pieces:List Piece
 joints:List Joint
structure Route where
 frm:Int
 til:Int
 steps:List Step
 lies:List Lie
 crosses:List Int
 parts:List Part
 over:List Part
 flanks:List Flank
def routeK (eS eL eI eP eF:Nat):Kn Route:=Kn.iso (Kn.pair Kn.int (Kn.pair Kn.int (Kn.pair (Kn.slice eS stepK) (Kn.pair (Kn.slice eL lieK) (Kn.pair (Kn.slice eI Kn.int) (Kn.pair (Kn.slice eP partK) (Kn.pair (Kn.slice eP partK) (Kn.slice eF flankK)))))))) (fun x=>(x.frm,x.til,x.steps,x.lies,x.crosses,x.parts,x.over,x.flanks))
theorem routeK_open {eS eL eI eP eF:Nat} {w:World} {ok:Nat→Prop} {x:Route} {cs:List Value} (h:(routeK eS eL eI eP eF).K w ok x cs):∃A0 c0 A1 c1 A2 c2 A3 c3 A4 c4 A5 c5,cs=[.int .i64 x.frm,.int .i64 x.til,.slice A0 x.steps.length c0,.slice A1 x.lies.length c1,.slice A2 x.crosses.length c2,.slice A3 x.parts.length c3,.slice A4 x.over.length c4,.slice A5 x.flanks.length c5]∧x.steps.length≤c0∧stepK.C w ok A0 x.steps∧x.lies.length≤c1∧lieK.C w ok A1 x.lies∧x.crosses.length≤c2∧Kn.int.C w ok A2 x.crosses∧x.parts.length≤c3∧partK.C w ok A3 x.parts∧x.over.length≤c4∧partK.C w ok A4 x.over∧x.flanks.length≤c5∧flankK.C w ok A5 x.flanks:=by
 obtain ⟨_,_,rfl,rfl,⟨_,_,rfl,rfl,⟨_,_,rfl,⟨A0,c0,rfl,l0,h0⟩,⟨_,_,rfl,⟨A1,c1,rfl,l1,h1⟩,⟨_,_,rfl,⟨A2,c2,rfl,l2,h2⟩,⟨_,_,rfl,⟨A3,c3,rfl,l3,h3⟩,⟨_,_,rfl,⟨A4,c4,rfl,l4,h4⟩,⟨A5,c5,rfl,l5,h5⟩⟩⟩⟩⟩⟩⟩⟩:=h
 exact ⟨A0,c0,A1,c1,A2,c2,A3,c3,A4,c4,A5,c5,rfl,l0,h0,l1,h1,l2,h2,l3,h3,l4,h4,l5,h5⟩
theorem routeK_mk {eS eL eI eP eF:Nat} {w:World} {ok:Nat→Prop} {x:Route} {A0:Option Addr} {c0:Nat} {A1:Option Addr} {c1:Nat} {A2:Option Addr} {c2:Nat} {A3:Option Addr} {c3:Nat} {A4:Option Addr} {c4:Nat} {A5:Option Addr} {c5:Nat} (l0:x.steps.length≤c0) (h0:stepK.C w ok A0 x.steps) (l1:x.lies.length≤c1) (h1:lieK.C w ok A1 x.lies) (l2:x.crosses.length≤c2) (h2:Kn.int.C w ok A2 x.crosses) (l3:x.parts.length≤c3) (h3:partK.C w ok A3 x.parts) (l4:x.over.length≤c4) (h4:partK.C w ok A4 x.over) (l5:x.flanks.length≤c5) (h5:flankK.C w ok A5 x.flanks):(routeK eS eL eI eP eF).K w ok x [.int .i64 x.frm,.int .i64 x.til,.slice A0 x.steps.length c0,.slice A1 x.lies.length c1,.slice A2 x.crosses.length c2,.slice A3 x.parts.length c3,.slice A4 x.over.length c4,.slice A5 x.flanks.length c5]:=⟨_,_,rfl,rfl,⟨_,_,rfl,rfl,⟨_,_,rfl,⟨A0,c0,rfl,l0,h0⟩,⟨_,_,rfl,⟨A1,c1,rfl,l1,h1⟩,⟨_,_,rfl,⟨A2,c2,rfl,l2,h2⟩,⟨_,_,rfl,⟨A3,c3,rfl,l3,h3⟩,⟨_,_,rfl,⟨A4,c4,rfl,l4,h4⟩,⟨A5,c5,rfl,l5,h5⟩⟩⟩⟩⟩⟩⟩⟩
theorem routeK_at {eS eL eI eP eF:Nat} {w:World} {ok:Nat→Prop} {A:Option Addr} {xs:List Route} (h:(routeK eS eL eI eP eF).C w ok A xs) (k:Nat) (hk:k < xs.length):∃ad,A=some ad∧∃x,Hid (xs[k]?=some x)∧∃A0 c0 A1 c1 A2 c2 A3 c3 A4 c4 A5 c5,w.cell? (ad.add (k*8))=some (.int .i64 x.frm)∧w.cell? ⟨(ad.add (k*8)).block,(ad.add (k*8)).off+1,none⟩=some (.int .i64 x.til)∧w.cell? ⟨(ad.add (k*8)).block,(ad.add (k*8)).off+2,none⟩=some (.slice A0 x.steps.length c0)∧w.cell? ⟨(ad.add (k*8)).block,(ad.add (k*8)).off+3,none⟩=some (.slice A1 x.lies.length c1)∧w.cell? ⟨(ad.add (k*8)).block,(ad.add (k*8)).off+4,none⟩=some (.slice A2 x.crosses.length c2)∧w.cell? ⟨(ad.add (k*8)).block,(ad.add (k*8)).off+5,none⟩=some (.slice A3 x.parts.length c3)∧w.cell? ⟨(ad.add (k*8)).block,(ad.add (k*8)).off+6,none⟩=some (.slice A4 x.over.length c4)∧w.cell? ⟨(ad.add (k*8)).block,(ad.add (k*8)).off+7,none⟩=some (.slice A5 x.flanks.length c5)∧x.steps.length≤c0∧stepK.C w ok A0 x.steps∧x.lies.length≤c1∧lieK.C w ok A1 x.lies∧x.crosses.length≤c2∧Kn.int.C w ok A2 x.crosses∧x.parts.length≤c3∧partK.C w ok A3 x.parts∧x.over.length≤c4∧partK.C w ok A4 x.over∧x.flanks.length≤c5∧flankK.C w ok A5 x.flanks:=by
 obtain ⟨ad,x,c,e,_,hx,hkk,hc⟩:=Kn.C_at h k hk
 obtain ⟨A0,c0,A1,c1,A2,c2,A3,c3,A4,c4,A5,c5,rfl,l0,h0,l1,h1,l2,h2,l3,h3,l4,h4,l5,h5⟩:=routeK_open hkk
 exact ⟨ad,e,x,Lib.hid hx,A0,c0,A1,c1,A2,c2,A3,c3,A4,c4,A5,c5,hc 0 _ rfl,by rw [←add_field _ _ 1 (by omega)];exact hc 1 _ rfl,by rw [←add_field _ _ 2 (by omega)];exact hc 2 _ rfl,by rw [←add_field _ _ 3 (by omega)];exact hc 3 _ rfl,by rw [←add_field _ _ 4 (by omega)];exact hc 4 _ rfl,by rw [←add_field _ _ 5 (by omega)];exact hc 5 _ rfl,by rw [←add_field _ _ 6 (by omega)];exact hc 6 _ rfl,by rw [←add_field _ _ 7 (by omega)];exact hc 7 _ rfl,l0,h0,l1,h1,l2,h2,l3,h3,l4,h4,l5,h5⟩
end Go.Proofs.Ytjccgneimknbpaa.L
namespace Go.Proofs.Ytjccgneimknbpaa.L
open Go.ChangeShapes Go.WideShapes Go.ChangeAt Go.RowKit
theorem trodAll_below {H:Type} {enc:TypeId × Value→H} {P:Program} (hl:laidOutB P=true) {W W':World} (hb:Below W.heap.size W W') :
  ∀(ts:List TypeId) (vs:List Value) (ds:List (DataW H)) (ps:List MemPlace),(∀t∈ts,P.readableRec t=true∧t < P.types.size) →
   DataW.TrodAll enc P W 0 (fun _=>true) true ts vs ds ps→(∀x∈ps,x.block < W.heap.size)→DataW.TrodAll enc P W' 0 (fun b=>decide (b < W.heap.size)) true ts vs ds ps
 | [],[],[],ps,_,h,_=>h
 | t::ts,v::vs,d::ds,ps,hp,h,hlt=>by
  obtain ⟨p,q,h1,h2,rfl⟩:=h
  refine ⟨p,q,Below.trod hl (hp t (by simp)).1 (hp t (by simp)).2 h1 hb (fun x hx=>hlt x (List.mem_append_left _ hx)),?_,rfl⟩
  exact trodAll_below hl hb ts vs ds q (fun t ht=>hp t (by simp [ht])) h2 (fun x hx=>hlt x (List.mem_append_right _ hx))
 | [],_::_,_,_,_,h,_=>h.elim
 | [],[],_::_,_,_,h,_=>h.elim
 | _::_,[],_,_,_,h,_=>h.elim
 | _::_,_::_,[],_,_,h,_=>h.elim
theorem trodAll_len {H:Type} {enc:TypeId × Value→H} {P:Program} {W:World} {b:Nat} {sp:Nat→Bool} {hd:Bool} :
  ∀(ts:List TypeId) (vs:List Value) (ds:List (DataW H)) (ps:List MemPlace),DataW.TrodAll enc P W b sp hd ts vs ds ps→ds.length=ts.length
 | [],[],[],_,_=>rfl
 | t::ts,v::vs,d::ds,ps,h=>by
  obtain ⟨p,q,h1,h2,rfl⟩:=h
  simp [trodAll_len ts vs ds q h2]
 | [],_::_,_,_,h=>h.elim
 | [],[],_::_,_,h=>h.elim
 | _::_,[],_,_,h=>h.elim
 | _::_,_::_,[],_,h=>h.elim
theorem law_lift {H:Type} {enc:TypeId × Value→H} {C:Checked} {os:Os} {f:FuncId} {fn:Func} {s:ChangeSpec} {tb:TypeId}
  (own:ownKnob C.prog.godebug=none) (started:os.Started) (noInit:C.prog.inits.idxOf? f=none) (hfn:C.prog.funcs[f]?=some fn) (hl:laidOutB C.prog=true)
  (hs:s.vars=[]) (hr:fn.resultTypes.toList=[tb]) (hb:C.prog.underlying tb=some .bool) (hp:∀t∈fn.params.toList,C.prog.readableRec t=true∧t < C.prog.types.size)
  (hfc:∀ds:List (DataW H),ds.length=fn.params.toList.length→s.fn H ds={ results:=[.lit (.bool true)],args:=ds })
  (witness:∃(w:World) (tape:Tape) (i:Input),w.os=os∧(w.forCall tape i).Shaped C.prog∧i.vars=[]∧Input.okWide C.prog (w.forCall tape i) .any w.heap.size f i ∧
   s.pre6 enc C.prog fn [] false (w.forCall tape i).memory i.args∧Assume.holds {} C.prog (lone (Frame.enter C.prog f i.args .normal) [] (w.forCall tape i)))
  (walk:∀(W:World) (base:Nat) (args:Array Value) (ds:List (DataW H)) (p:List MemPlace),(∀(j:Nat) t v,fn.params.toList[j]?=some t→args[j]?=some v→Value.okWide C.prog W .any base t v) →
   DataW.TrodAll enc C.prog W 0 (fun _=>true) true fn.params.toList args.toList ds p→Calls C.prog f args W fun e W'=>e=.returned (.bool true)∧Below W.heap.size W W') :
  ReturnsInHanded {} C os f .any (s.pre6 enc C.prog fn [] false) (s.post enc C.prog fn false true false false):=by
 refine returnsInHanded_of_change_sized own started noInit hfn witness ?_
 intro W base args ds gs before hval hW _ _ _
 have hW':=hW
 obtain ⟨p,q,hA,hV,rfl,_,_⟩:=hW
 rw [hs] at hV
 obtain ⟨rfl,rfl⟩:=trodVars_none hV
 have hlt:∀x∈p,x.block < W.heap.size:=fun x hx=>hW'.lt x (List.mem_append_left _ hx)
 refine (walk W base args ds p (fun j t v h1 h2=>hval j t v (by rw [←Array.getElem?_toList];exact h1) h2) hA).mono fun e W' ⟨he,hw⟩=>?_
 subst he
 have hlen:=trodAll_len _ _ _ _ hA
 have hsz:fn.resultTypes.size=1:=by rw [←Array.length_toList,hr];rfl
 refine ⟨_,rfl,ds,[],_,[],p,[],hW',?_,?_,?_,hw.frame _,fun h=>by cases h⟩
 ·rw [List.append_nil,hfc ds hlen,hr,hsz]
  exact trodAll_mk1 (shut_bool hb _)
 ·rw [List.append_nil,hfc ds hlen]
  exact trodAll_below hl hw _ _ _ _ hp hA hlt
 ·rw [List.append_nil,hfc ds hlen,hs]
  rfl
theorem add_add (a:Addr) (m k:Nat):(a.add m).add k=a.add (m+k):=by
 unfold Addr.add
 by_cases hm:m=0
 ·subst hm
  simp
 ·by_cases hk:k=0
  ·subst hk
   simp [hm]
  ·simp [hm,hk,Nat.add_assoc]
def Opens {α:Type} (P:Program) (t:TypeId) (d:Kn α) (fit:α→Prop):Prop :=
 P.cellsOf t=d.sz∧∀(H:Type) (enc:TypeId × Value→H) (w:World) (sp:Nat→Bool) (hd:Bool) (m:Nat) (cs:List Value) (x:DataW H × List MemPlace),
  DataW.trod enc P w 0 sp hd m t cs=some x→∃y,d.K w (fun _=>True) y cs∧fit y
theorem opens_slice {P:Program} {t e:TypeId} {α:Type} {d:Kn α} {fit:α→Prop} {E:Nat} (ht:P.underlying t=some (.slice e)) (hc:P.cellsOf t=1) (he:Opens P e d fit) (hz:0 < d.sz) :
  Opens P t (Kn.slice E d) (fun xs=>∀x∈xs,fit x) :=
 ⟨hc,fun H enc w sp hd m cs x h=>by
  rcases DataW.trod_slice ht h with ⟨rfl,_⟩ | ⟨a,len,cap,elems,rest,n,rfl,rfl,_,hb,hl,hm,hel,hi,_⟩
  ·exact ⟨[],⟨none,0,rfl,by simp,Kn.C_nil⟩,by simp⟩
  ·have key:∀k,k≤len→∃xs:List α,xs.length=k∧(∀x∈xs,fit x)∧∀j x,xs[j]?=some x→∃c,d.K w (fun _=>True) x c∧∀i u,c[i]?=some u→w.cell? (a.add (j*d.sz+i))=some u:=by
    intro k
    induction k with
    | zero=>exact fun _=>⟨[],rfl,by simp,by simp⟩
    | succ k ih =>
     intro hk
     obtain ⟨xs,h1,h2,h3⟩:=ih (by omega)
     have h4:=hi k (by omega)
     rw [List.getElem?_eq_getElem (by omega),Option.bind_eq_some_iff] at h4
     obtain ⟨c,h5,h6⟩:=h4
     obtain ⟨y,h7,h8⟩:=he.2 H enc w sp hd n c _ h6
     obtain ⟨_,h9,h10⟩:=World.cells?_some h5
     rw [he.1] at h9 h10
     refine ⟨xs++[y],by simp [h1],?_,?_⟩
     ·intro x hx
      rcases List.mem_append.1 hx with hx | hx
      ·exact h2 x hx
      ·rw [List.mem_singleton.1 hx]
       exact h8
     ·intro j x hj
      by_cases hjk:j < xs.length
      ·rw [List.getElem?_append_left hjk] at hj
       exact h3 j x hj
      ·have hjl:=(List.getElem?_eq_some_iff.1 hj).1
       rw [List.length_append,List.length_singleton] at hjl
       obtain rfl:j=k:=by omega
       rw [List.getElem?_append_right (by omega),h1,Nat.sub_self] at hj
       obtain rfl:=Option.some.inj hj
       refine ⟨c,h7,fun i u hu=>?_⟩
       have hil:=(List.getElem?_eq_some_iff.1 hu).1
       rw [←add_add,h10 i (by omega)]
       exact hu
   obtain ⟨xs,h1,h2,h3⟩:=key len (Nat.le_refl _)
   simp only [maxLen] at hm
   refine ⟨xs,⟨some a,cap,by rw [h1],by omega,by omega,fun h0=>⟨a,rfl,trivial,?_,h3⟩⟩,h2⟩
   have h4:=hi 0 (by omega)
   rw [List.getElem?_eq_getElem (by omega),Option.bind_eq_some_iff] at h4
   obtain ⟨c,h5,_⟩:=h4
   have:=World.cells?_block h5 (by rw [he.1];exact hz)
   simpa [add_block] using this⟩
end Go.Proofs.Ytjccgneimknbpaa.L
namespace Go.Proofs.Ytjccgneimknbpaa.L
open Go.RowKit
def RetI (r:Int) (w:World) (e:Ending) (w':World):Prop:=e=.returned (.int .i64 r)∧Below w.heap.size w w'
def tot {α:Type} (f:α→Nat) (xs:List α):Nat:=(xs.map f).sum
theorem tot_nil {α:Type} (f:α→Nat):tot f []=0:=rfl
theorem tot_snoc {α:Type} (f:α→Nat) (xs:List α) (k:Nat) (x:α) (h:xs[k]?=some x):tot f (xs.take (k+1))=tot f (xs.take k)+f x:=by
 rw [List.take_add_one,h]
 simp [tot]
theorem tot_le {α:Type} (f:α→Nat) (xs:List α) (k:Nat):tot f (xs.take k)≤tot f xs:=by
 have h:xs=xs.take k++xs.drop k:=(List.take_append_drop k xs).symm
 have h2:tot f xs=tot f (xs.take k)+tot f (xs.drop k):=by
  conv=>lhs;rw [h]
  simp only [tot,List.map_append,List.sum_append]
 omega
theorem mem_of_get {α:Type} {xs:List α} {k:Nat} {x:α} (h:xs[k]?=some x):x∈xs:=List.mem_of_getElem? h
abbrev maxN:Nat:=9223372036854775807
def Piece.n (x:Piece):Nat:=x.name.size
def Signal.n (x:Signal):Nat:=x.name.size
def Joint.n (x:Joint):Nat:=x.name.size+x.ends.length
def lenS {α:Type} (f:α→Nat) (xs:List α):Nat:=xs.length+tot f xs
def Net.n (x:Net):Nat:=lenS Piece.n x.pieces+lenS Joint.n x.joints
def Route.n (x:Route):Nat:=x.steps.length+x.lies.length+x.crosses.length+x.parts.length+x.over.length+x.flanks.length
def Piece.fit (x:Piece):Prop:=x.name.size≤maxN
def Signal.fit (x:Signal):Prop:=x.name.size≤maxN
def Joint.fit (x:Joint):Prop:=x.name.size≤maxN
def Net.fit (x:Net):Prop:=(∀p∈x.pieces,p.fit)∧∀j∈x.joints,j.fit
end Go.Proofs.Ytjccgneimknbpaa.L
namespace Go.Proofs.Ytjccgneimknbpaa.L
open Go.RowKit
theorem str_ne {a b:ByteArray} (h:¬a=b):(a.toList == b.toList)=false:=by
 rw [Go.ByteArray.toList_eq,Go.ByteArray.toList_eq]
 refine beq_eq_false_iff_ne.2 (fun e=>h ?_)
 exact WideShapes.bytes_inj e
theorem int_ne {a b:Int} (h:¬a=b):(a != b)=true:=by simpa using h
theorem len_ne {a b:Nat} (h:¬a=b):((a:Int) != (b:Int))=true:=by
 rw [bne_iff_ne]
 omega
theorem len_eq {a b:Nat} (h:a=b):((a:Int) != (b:Int))=false:=by
 rw [h]
 simp
def RetB (r:Bool) (w:World) (e:Ending) (w':World):Prop:=e=.returned (.bool r)∧Below w.heap.size w w'
theorem take_eq_snoc {α:Type} {xs ys:List α} {k:Nat} {x:α} (h:xs.take k=ys.take k) (h1:xs[k]?=some x) (h2:ys[k]?=some x):xs.take (k+1)=ys.take (k+1):=by
 rw [List.take_add_one,List.take_add_one,h,h1,h2]
theorem take_ne {α:Type} {xs ys:List α} {k:Nat} {x y:α} (h1:xs[k]?=some x) (h2:ys[k]?=some y) (h:¬x=y):¬xs=ys:=by
 rintro rfl
 rw [h1] at h2
 exact h (Option.some.inj h2)
end Go.Proofs.Ytjccgneimknbpaa.L
namespace Go.Proofs.Ytjccgneimknbpaa.L
open Go.RowKit
def RetV (v:Value) (w:World) (e:Ending) (w':World):Prop:=e=.returned v∧Below w.heap.size w w'
def RetS {α:Type} (e:Nat) (d:Kn α) (xs:List α) (w:World) (en:Ending) (w':World):Prop:=∃A c F,en=.returned (.slice A xs.length c)∧(Kn.slice e d).O w' xs [.slice A xs.length c] F∧(∀b,b∈F→w.heap.size≤b)∧Below w.heap.size w w'
theorem info102:(Try.prog.info? 102).map (fun i=>(i.zero,i.size,i.bytes))=some (some (.agg #[.int .i64 0,.int .i64 0]),2,16):=by kernel_rfl
end Go.Proofs.Ytjccgneimknbpaa.L
namespace Go.Proofs.Ytjccgneimknbpaa.L
open Go.RowKit
structure Keep (S:Nat→Prop) (w w':World):Prop where
 os:w'.os=w.os
 tape:w'.tape=w.tape
 output:w'.output=w.output
 size:w.heap.size≤w'.heap.size
 block:∀k,k < w.heap.size→¬S k→w'.heap[k]?=w.heap[k]?
namespace Keep
variable {S S':Nat→Prop} {a b c w w1 w2:World}
theorem refl (S:Nat→Prop) (w:World):Keep S w w:=⟨rfl,rfl,rfl,Nat.le_refl _,fun _ _ _=>rfl⟩
theorem trans (h:Keep S a b) (k:Keep S' b c) (hs:∀x,x < a.heap.size→S' x→S x):Keep S a c :=
 ⟨k.os.trans h.os,k.tape.trans h.tape,k.output.trans h.output,Nat.le_trans h.size k.size,fun i hi hn=>(k.block i (Nat.lt_of_lt_of_le hi h.size) (fun e=>hn (hs i hi e))).trans (h.block i hi hn)⟩
theorem mono (h:Keep S' a b) (hs:∀x,x < a.heap.size→S' x→S x):Keep S a b :=
 ⟨h.os,h.tape,h.output,h.size,fun i hi hn=>h.block i hi (fun e=>hn (hs i hi e))⟩
theorem of_below (h:Below w.heap.size w w1):Keep S w w1:=⟨h.os,h.tape,h.output,h.size,fun k hk _=>h.block k hk⟩
theorem below (h:Keep S a b) (k:Below b.heap.size b c):Keep S a c:=h.trans (of_below (S:=fun _=>False) k) (fun _ _ e=>e.elim)
theorem to_below {B:Nat} (h:Keep S a b) (hB:B≤a.heap.size) (hs:∀k,k < B→¬S k):Below B a b :=
 ⟨h.os,h.tape,h.output,h.size,fun k hk=>h.block k (Nat.lt_of_lt_of_le hk hB) (hs k hk)⟩
theorem alloc (h:Keep S w w1) (o:Obj):Keep S w (w1.alloc o):=h.below (below_alloc _ _)
theorem drew (h:Keep S w w1):Keep S w w1.drew:=⟨h.os,h.tape,h.output,h.size,h.block⟩
theorem drewN (h:Keep S w w1) (n:Nat):Keep S w (w1.drewN n):=⟨h.os,h.tape,h.output,h.size,h.block⟩
theorem setCell (h:Keep S w w1) {p:Addr} (hp:p.block < w.heap.size→S p.block) (u:Value):Keep S w (w1.setCell p u):=by
 refine h.trans (b:=w1) (S':=fun k=>k=p.block) ⟨rfl,rfl,rfl,?_,fun k hk hn=>Below.heap_setCell w1 p u k hn⟩ (fun x hx e=>by subst e;exact hp hx)
 simp
theorem grown (h:Keep S w w1) {row:Option Nat} (hg:w1.grownBy w2 row) (hr:∀k,row=some k→k < w.heap.size→S k):Keep S w w2 :=
 h.trans (S':=fun k=>row=some k) ⟨hg.os,hg.tape,hg.output,hg.size,fun k hk hn=>hg.block k hk (fun e=>hn e.symm)⟩ (fun x hx e=>hr x e hx)
theorem cell (h:Keep S w w1) {p:Addr} (hp:p.block < w.heap.size) (hn:¬S p.block):w1.cell? p=w.cell? p:=World.cell?_of_block (h.block _ hp hn)
theorem frozen (h:Keep S w w1) {p:Addr} (hp:p.block < w.heap.size) (hn:¬S p.block):w1.frozen? p=w.frozen? p:=World.frozen?_of_block (h.block _ hp hn)
end Keep
def Out (w:World) (S:Nat→Prop) (b:Nat):Prop:=b < w.heap.size∧¬S b
theorem Out.keep {w w1:World} {S S':Nat→Prop} {b:Nat} (h:Keep S w w1) (hs:∀x,x < w.heap.size→S' x→S x) (hb:Out w S b):Out w1 S' b :=
 ⟨Nat.lt_of_lt_of_le hb.1 h.size,fun e=>hb.2 (hs b hb.1 e)⟩
namespace Kn
variable {α:Type} {d:Kn α} {w w1:World} {S S':Nat→Prop}
theorem C_keep {A:Option Addr} {xs:List α} (hk:Keep S w w1) (hs:∀x,x < w.heap.size→S' x→S x) (h:d.C w (Out w S) A xs):d.C w1 (Out w1 S') A xs :=
 C_mono (fun b hb=>Out.keep hk hs hb) (C_move (fun b hb=>hk.block b hb.1 hb.2) h)
theorem C_out {ok:Nat→Prop} {A:Option Addr} {xs:List α} (hn:∀b,ok b→b < w.heap.size→¬S b) (h:d.C w ok A xs):d.C w (Out w S) A xs :=
 C_mono (fun b hb=>⟨hb.2,hn b hb.1 hb.2⟩) (C_bound h)
def Rw {α:Type} (d:Kn α) (e:Nat) (w:World) (ok:Nat→Prop) (v:Value) (xs:List α):Prop :=
 ∃inner,w.ownsRow 0 e d.sz v xs.length inner∧∀j x,xs[j]?=some x→d.K w ok x ((inner.drop (j*d.sz)).take d.sz)
variable {e:Nat} {ok ok':Nat→Prop} {v:Value} {xs:List α}
theorem Rw.nil:d.Rw e w ok (.slice none 0 0) []:=⟨[],World.ownsRow_nil w 0 e d.sz,by simp⟩
theorem Rw.lt (h:d.Rw e w ok v xs):∀k,v.ownBlock=some k→k < w.heap.size:=by
 obtain ⟨inner,ho,_⟩:=h
 exact fun k hk=>(ho.lt k hk).2
theorem Rw.mono (hm:∀b,ok b→ok' b) (h:d.Rw e w ok v xs):d.Rw e w ok' v xs:=by
 obtain ⟨inner,ho,hi⟩:=h
 exact ⟨inner,ho,fun j x hj=>d.K_mono hm (hi j x hj)⟩
theorem Rw.move (hv:∀k,v.ownBlock=some k→w1.heap[k]?=w.heap[k]?) (hm:∀b,ok b→w1.heap[b]?=w.heap[b]?) (h:d.Rw e w ok v xs):d.Rw e w1 ok v xs:=by
 obtain ⟨inner,ho,hi⟩:=h
 exact ⟨inner,own_move ho hv,fun j x hj=>d.K_move hm (hi j x hj)⟩
theorem Rw.form (h:d.Rw e w ok v xs):∃A c,v=.slice A xs.length c∧xs.length≤c∧xs.length≤9223372036854775807:=by
 obtain ⟨inner,ho,_⟩:=h
 rcases ho.2 with ⟨rfl,h0⟩ | ⟨g,cap,cur,rfl,_,hh,hc,hm,_⟩
 ·exact ⟨none,0,by rw [h0],by omega,by omega⟩
 ·simp only [maxLen] at hm
  exact ⟨_,cap,rfl,hc,by omega⟩
theorem Rw.C (h:d.Rw e w ok v xs):∃A c,v=.slice A xs.length c∧xs.length≤c∧d.C w (fun b=>ok b∨v.ownBlock=some b) A xs:=by
 obtain ⟨A,c,rfl,hc,hm⟩:=h.form
 obtain ⟨inner,ho,hi⟩:=h
 refine ⟨A,c,rfl,hc,by simpa using hm,fun h0=>?_⟩
 rcases ho.2 with ⟨he,h1⟩ | ⟨g,cap,cur,he,_,hh,_,_,_⟩
 ·omega
 ·injection he with he _ _
  subst he
  refine ⟨⟨g,0,none⟩,rfl,.inr rfl,lt_of_get hh,fun j x hj=>?_⟩
  refine ⟨_,d.K_mono (fun b hb=>.inl hb) (hi j x hj),fun i u hu=>?_⟩
  rw [List.getElem?_take] at hu
  split at hu
  ·rw [List.getElem?_drop] at hu
   exact ho.cells (g:=g) rfl _ u hu
  ·cases hu
theorem Rw.snoc {v':Value} {x:α} {cs:List Value} {inner:List Value} (ho':w1.ownsRow 0 e d.sz v' (xs.length+1) (inner++cs)) (hl:inner.length=xs.length*d.sz)
  (hi:∀j x,xs[j]?=some x→d.K w1 ok x ((inner.drop (j*d.sz)).take d.sz)) (hx:d.K w1 ok x cs):d.Rw e w1 ok v' (xs++[x]):=by
 refine ⟨inner++cs,by rw [List.length_append];exact ho',fun j y hj=>?_⟩
 by_cases hjl:j < xs.length
 ·rw [List.getElem?_append_left hjl] at hj
  have hle:j*d.sz+d.sz≤xs.length*d.sz:=by rw [←Nat.succ_mul];exact Nat.mul_le_mul_right _ hjl
  rw [List.drop_append_of_le_length (by omega),List.take_append_of_le_length (by rw [List.length_drop];omega)]
  exact hi j y hj
 ·have hjl':=(List.getElem?_eq_some_iff.1 hj).1
  rw [List.length_append,List.length_singleton] at hjl'
  obtain rfl:j=xs.length:=by omega
  rw [List.getElem?_append_right (Nat.le_refl _),Nat.sub_self] at hj
  obtain rfl:=Option.some.inj hj
  rw [←hl,List.drop_left,List.take_of_length_le (by rw [d.K_len hx];exact Nat.le_refl _)]
  exact hx
end Kn
end Go.Proofs.Ytjccgneimknbpaa.L
namespace Go.Proofs.Ytjccgneimknbpaa.L
open Go.RowKit
namespace Kn
variable {α:Type} {d:Kn α} {w w1:World} {ok:Nat→Prop}
def Src (d:Kn α) (w:World) (ok:Nat→Prop) (A:Option Addr) (ys:List α):Prop :=
 0 < ys.length→∃ad,A=some ad∧∀j x,ys[j]?=some x→∃c,d.K w ok x c∧∀i u,c[i]?=some u→w.cell? (ad.add (j*d.sz+i))=some u
theorem Src.flat {ok':Nat→Prop} {A:Option Addr} {ys:List α} (hd:∀w ok ok' x cs,d.K w ok x cs→d.K w ok' x cs) (h:d.C w ok' A ys):Src d w ok A ys:=fun h0=>by
 obtain ⟨ad,e,ho,hl,hx⟩:=h.2 h0
 refine ⟨ad,e,fun j x hj=>?_⟩
 obtain ⟨c,hk,hc⟩:=hx j x hj
 exact ⟨c,hd _ _ _ _ _ hk,hc⟩
theorem Src.one {ad:Addr} {x:α} {cs:List Value} (hk:d.K w ok x cs) (hc:∀i u,cs[i]?=some u→w.cell? (ad.add i)=some u):Src d w ok (some ad) [x]:=fun _ =>
 ⟨ad,rfl,fun j y hj=>by
  obtain ⟨h1,h2⟩:=List.getElem?_eq_some_iff.1 hj
  simp only [List.length_singleton] at h1
  obtain rfl:j=0:=by omega
  simp only [List.getElem_cons_zero] at h2
  subst h2
  exact ⟨cs,hk,fun i u hu=>by rw [Nat.zero_mul,Nat.zero_add];exact hc i u hu⟩⟩
theorem Src.cells {A:Option Addr} {ys:List α} (h:Src d w ok A ys):∃news:List Value,news.length=ys.length*d.sz∧(∀j y,ys[j]?=some y→d.K w ok y ((news.drop (j*d.sz)).take d.sz)) ∧
  (∀u∈news,u.oneCell'=true)∧(0 < ys.length→∃ad,A=some ad∧∀j u,news[j]?=some u→w.cell? (ad.add j)=some u):=by
 rcases Nat.eq_zero_or_pos ys.length with h0 | h0
 ·obtain rfl:ys=[]:=List.eq_nil_of_length_eq_zero h0
  exact ⟨[],by simp,by simp,by simp,by simp⟩
 obtain ⟨ad,e,hx⟩:=h h0
 have key:∀k,k≤ys.length→∃news:List Value,news.length=k*d.sz∧(∀j y,j < k→ys[j]?=some y→d.K w ok y ((news.drop (j*d.sz)).take d.sz))∧(∀u∈news,u.oneCell'=true)∧∀j u,news[j]?=some u→w.cell? (ad.add j)=some u:=by
  intro k
  induction k with
  | zero=>exact fun _=>⟨[],by simp,fun j y hj=>absurd hj (by omega),by simp,by simp⟩
  | succ k ih =>
   intro hk
   obtain ⟨news,h1,h2,h3,h4⟩:=ih (by omega)
   obtain ⟨c,hkk,hc⟩:=hx k _ (List.getElem?_eq_getElem (by omega))
   have hcl:=d.K_len hkk
   refine ⟨news++c,by rw [List.length_append,h1,hcl,Nat.succ_mul],fun j y hj hy=>?_,fun u hu=>?_,fun j u hu=>?_⟩
   ·by_cases hjk:j < k
    ·have hle:j*d.sz+d.sz≤k*d.sz:=by rw [←Nat.succ_mul];exact Nat.mul_le_mul_right _ hjk
     rw [List.drop_append_of_le_length (by omega),List.take_append_of_le_length (by rw [List.length_drop];omega)]
     exact h2 j y hjk hy
    ·obtain rfl:j=k:=by omega
     rw [List.getElem?_eq_getElem (by omega)] at hy
     obtain rfl:=Option.some.inj hy
     rw [←h1,List.drop_left,List.take_of_length_le (by omega)]
     exact hkk
   ·rcases List.mem_append.1 hu with hu | hu
    ·exact h3 u hu
    ·exact d.K_one hkk u hu
   ·by_cases hjn:j < news.length
    ·rw [List.getElem?_append_left hjn] at hu
     exact h4 j u hu
    ·rw [List.getElem?_append_right (by omega)] at hu
     have:=hc _ u hu
     rwa [←h1,show news.length+(j - news.length)=j by omega] at this
 obtain ⟨news,h1,h2,h3,h4⟩:=key _ (Nat.le_refl _)
 exact ⟨news,h1,fun j y hj=>h2 j y (List.getElem?_eq_some_iff.1 hj).1 hj,h3,fun _=>⟨ad,e,h4⟩⟩
theorem Rw.app {e:Nat} {v':Value} {xs ys:List α} {inner news:List Value} (ho':w1.ownsRow 0 e d.sz v' (xs.length+ys.length) (inner++news)) (hl:inner.length=xs.length*d.sz) (hn:news.length=ys.length*d.sz)
  (hi:∀j x,xs[j]?=some x→d.K w1 ok x ((inner.drop (j*d.sz)).take d.sz)) (hx:∀j y,ys[j]?=some y→d.K w1 ok y ((news.drop (j*d.sz)).take d.sz)):d.Rw e w1 ok v' (xs++ys):=by
 refine ⟨inner++news,by rw [List.length_append];exact ho',fun j y hj=>?_⟩
 by_cases hjl:j < xs.length
 ·rw [List.getElem?_append_left hjl] at hj
  have hle:j*d.sz+d.sz≤xs.length*d.sz:=by rw [←Nat.succ_mul];exact Nat.mul_le_mul_right _ hjl
  rw [List.drop_append_of_le_length (by omega),List.take_append_of_le_length (by rw [List.length_drop];omega)]
  exact hi j y hj
 ·rw [List.getElem?_append_right (by omega)] at hj
  have:=hx _ y hj
  rw [Nat.sub_mul] at this
  have hge:inner.length≤j*d.sz:=by rw [hl];exact Nat.mul_le_mul_right _ (by omega)
  rw [List.drop_append,List.drop_eq_nil_of_le hge,List.nil_append,hl]
  exact this
theorem Rw.below {e:Nat} {v:Value} {xs:List α} (hb:Below w.heap.size w w1) (h:d.Rw e w ok v xs):d.Rw e w1 ok v xs:=by
 obtain ⟨inner,ho,hi⟩:=h
 exact ⟨inner,own_move ho (fun k hk=>hb.block k (ho.lt k hk).2),fun j x hj=>K_below hb (hi j x hj)⟩
theorem Rw.grownK {e:Nat} {v:Value} {xs:List α} {S:Nat→Prop} (hk:Keep S w w1) (hv:∀k,v.ownBlock=some k→¬S k) (ho:∀b,ok b→b < w.heap.size→¬S b) (h:d.Rw e w ok v xs):d.Rw e w1 ok v xs:=by
 obtain ⟨inner,hw,hi⟩:=h
 exact ⟨inner,own_move hw (fun k hkk=>hk.block k (hw.lt k hkk).2 (hv k hkk)),fun j x hj=>d.K_mono (fun b hb=>hb.1) (d.K_move (fun b hb=>hk.block b hb.2 (ho b hb.1 hb.2)) (d.K_bound (hi j x hj)))⟩
theorem Rw.form1 {e:Nat} {v:Value} {xs:List α} {x:α} (h:d.Rw e w ok v (xs++[x])):∃A c,v=.slice A (xs.length+1) c∧xs.length+1≤c:=by
 obtain ⟨A,c,rfl,hc,_⟩:=h.form
 rw [List.length_append,List.length_singleton] at hc ⊢
 exact ⟨A,c,rfl,hc⟩
theorem Rw.own {e:Nat} {v:Value} {xs:List α} (hd:∀w ok x cs,d.K w ok x cs→d.O w x cs []) (h:d.Rw e w ok v xs):(Kn.slice e d).O w xs [v] v.ownBlock.toList:=by
 obtain ⟨inner,ho,hi⟩:=h
 refine ⟨v,xs.map (fun x=>(x,[])),rfl,by rw [List.map_map];exact (List.map_id xs).symm,⟨inner,by rw [List.length_map];exact ho,fun j p hj=>?_,?_⟩,?_⟩
 ·rw [List.getElem?_map,Option.map_eq_some_iff] at hj
  obtain ⟨x,hx,rfl⟩:=hj
  exact hd _ _ _ _ (hi j x hx)
 ·unfold foot
  rw [show (List.map Prod.snd (xs.map (fun x=>(x,([]:List Nat))))).flatten=[] from by simp]
  rw [List.append_nil]
  cases v.ownBlock <;> simp
 ·unfold foot
  rw [show (List.map Prod.snd (xs.map (fun x=>(x,([]:List Nat))))).flatten=[] from by simp]
  rw [List.append_nil]
end Kn
def RetW {α:Type} (e:Nat) (d:Kn α) (ok:Nat→Prop) (xs:List α) (w:World) (en:Ending) (w':World):Prop :=
 ∃v,en=.returned v∧d.Rw e w' ok v xs∧(∀b,v.ownBlock=some b→w.heap.size≤b)∧Below w.heap.size w w'
def nobody:Nat→Prop:=fun _=>False
section
variable {α:Type} {d:Kn α} {P:Program} (w:World) {ok:Nat→Prop}
theorem run_append_nil_src (base:Nat) (t ty e:TypeId) (i:TypeInfo) (size:Nat) (ht:P.underlying t=some (.slice e)) (hi:P.info? e=some i)
  (v:Value) (n:Nat) (xs:List Value) (hown:w.ownsRow base e size v n xs) (c:Nat):(Builtin.append_ #[t,t] ty #[v,.slice none 0 c]).run P w=.ok v w:=by
 rcases hown.2 with ⟨rfl,rfl⟩ | ⟨g,cap,cur,rfl,_,_,hnc,_⟩
 ·simp [Builtin.append_,run_underlying ht,sizeOf,typeInfo,hi,Builtin.lenOf,Builtin.firstCells]
 ·simp [Builtin.append_,run_underlying ht,sizeOf,typeInfo,hi,Builtin.lenOf,Builtin.firstCells,hnc,storeCells]
theorem run_append_rw (t ty e:TypeId) (i:TypeInfo) (z:Value) (bytes:Nat) (ht:P.underlying t=some (.slice e)) (hi:P.info? e=some i) (hz:i.zero=some z)
  (hsize:i.size=d.sz) (hby:i.bytes=bytes) (hzs:z.cells.size=d.sz) (hsz:0 < d.sz)
  (v:Value) (xs ys:List α) (hown:d.Rw e w ok v xs) (hok:∀b,ok b→¬v.ownBlock=some b) (A:Option Addr) (m c:Nat) (hm:m=ys.length) (hr:Kn.Src d w ok A ys)
  (h63:xs.length+m≤maxLen) (hbytes:(xs.length+m)*bytes≤140737488355328) :
  ∃v' w',(Builtin.append_ #[t,t] ty #[v,.slice A m c]).run P w=.ok v' w'∧d.Rw e w' ok v' (xs++ys)∧w.grownBy w' v.ownBlock∧(v'.ownBlock=v.ownBlock∨v'.ownBlock=some w.heap.size):=by
 subst hm
 obtain ⟨news,n1,n2,n3,n4⟩:=hr.cells
 obtain ⟨inner,ho,hinner⟩:=hown
 have keep:∀{w1:World},w.grownBy w1 v.ownBlock→∀{x:α} {cs:List Value},d.K w ok x cs→d.K w1 ok x cs:=fun hg x cs hk =>
  d.K_mono (fun b hb=>hb.1) (d.K_move (fun b hb=>hg.block b hb.2 (fun e=>hok b hb.1 e.symm)) (d.K_bound hk))
 rcases A with _ | ad
 ·have h0:ys.length=0:=by
   rcases Nat.eq_zero_or_pos ys.length with h0 | h0
   ·exact h0
   ·obtain ⟨ad,h,_⟩:=n4 h0
    cases h
  obtain rfl:ys=[]:=List.eq_nil_of_length_eq_zero h0
  exact ⟨v,w,run_append_nil_src w 0 t ty e i d.sz ht hi v xs.length inner ho c,by rw [List.append_nil];exact ⟨inner,ho,hinner⟩,World.grownBy.refl w _,.inl rfl⟩
 ·have hcells:∀j u,news[j]?=some u→w.cell? (ad.add j)=some u:=by
   intro j u hu
   rcases Nat.eq_zero_or_pos ys.length with h0 | h0
   ·have hn:news=[]:=List.eq_nil_of_length_eq_zero (by rw [n1,h0,Nat.zero_mul])
    subst hn
    simp at hu
   ·obtain ⟨ad',h,hc⟩:=n4 h0
    injection h with h
    subst h
    exact hc j u hu
  obtain ⟨v',w',hrun,h2,h3,_,h5⟩:=run_append_own_at (P:=P) w 0 t ty e i z d.sz bytes ht hi hz hsize hby hzs hsz v xs.length inner ho ad ys.length c news n1 hcells n3 h63 hbytes (Nat.zero_le _)
  exact ⟨v',w',hrun,Kn.Rw.app h2 ho.1 n1 (fun j x hj=>keep h3 (hinner j x hj)) (fun j y hj=>keep h3 (n2 j y hj)),h3,h5⟩
theorem wp_append_rw {o:Oper} {a:Act} {K:Act→World→Prop} {Q:Exit→Act→World→Prop} (s x:Operand) (t:TypeId)
  (ho:o.op=.call { callee:=.builtin .append,args:=#[s,x],argTypes:=#[t,t] })
  (e:TypeId) (i:TypeInfo) (z:Value) (bytes:Nat) (ht:P.underlying t=some (.slice e)) (hi:P.info? e=some i) (hz:i.zero=some z)
  (hsize:i.size=d.sz) (hby:i.bytes=bytes) (hzs:z.cells.size=d.sz) (hsz:0 < d.sz)
  (v:Value) (xs ys:List α) (hs:a.eval s=v) (hown:d.Rw e w ok v xs) (hok:∀b,ok b→¬v.ownBlock=some b) (A:Option Addr) (m c:Nat) (hx:a.eval x=.slice A m c) (hm:m=ys.length) (hr:Kn.Src d w ok A ys)
  (h63:xs.length+m≤maxLen) (hbytes:(xs.length+m)*bytes≤140737488355328)
  (h:∀v' w',d.Rw e w' ok v' (xs++ys)→w.grownBy w' v.ownBlock→(v'.ownBlock=v.ownBlock∨v'.ownBlock=some w.heap.size)→K (a.put o.dst v') w'):o.wp P a w K Q:=by
 obtain ⟨v',w',hrun,h2,h3,h4⟩:=run_append_rw (P:=P) w t o.type e i z bytes ht hi hz hsize hby hzs hsz v xs ys hown hok A m c hm hr h63 hbytes
 unfold Oper.wp execOp
 simp only [ho,resolve,invoke,builtin,Sem.run_bind,Sem.run_pure,Result.andThen_ok,List.map_toArray,List.map_cons,List.map_nil,hs,hx,hrun]
 exact h v' w' h2 h3 h4
theorem wpList_append_rw {ops:Array Oper} {rest:List Oper} {o:Oper} {a:Act} {Q:Exit→Act→World→Prop} (hgd:o.guard=none) (s x:Operand) (t:TypeId)
  (ho:o.op=.call { callee:=.builtin .append,args:=#[s,x],argTypes:=#[t,t] })
  (e:TypeId) (i:TypeInfo) (z:Value) (bytes:Nat) (ht:P.underlying t=some (.slice e)) (hi:P.info? e=some i) (hz:i.zero=some z)
  (hsize:i.size=d.sz) (hby:i.bytes=bytes) (hzs:z.cells.size=d.sz) (hsz:0 < d.sz)
  (v:Value) (xs ys:List α) (hs:a.eval s=v) (hown:d.Rw e w ok v xs) (hok:∀b,ok b→¬v.ownBlock=some b) (A:Option Addr) (m c:Nat) (hx:a.eval x=.slice A m c) (hm:m=ys.length) (hr:Kn.Src d w ok A ys)
  (h63:xs.length+m≤maxLen) (hbytes:(xs.length+m)*bytes≤140737488355328)
  (h:∀v' w',d.Rw e w' ok v' (xs++ys)→w.grownBy w' v.ownBlock→(v'.ownBlock=v.ownBlock∨v'.ownBlock=some w.heap.size)→wpList P ops Q rest (a.put o.dst v') w'):wpList P ops Q (o::rest) a w :=
 wpList_plain hgd fun _ hK=>wp_append_rw w s x t ho e i z bytes ht hi hz hsize hby hzs hsz v xs ys hs hown hok A m c hx hm hr h63 hbytes fun v' w' h2 h3 h4=>hK _ _ (h v' w' h2 h3 h4)
theorem step_append_rw {ops:Array Oper} {o:Oper} {a:Act} {K:Act→World→Prop} {Q:Exit→Act→World→Prop} {E:Prop} (hgd:o.guard=none) (s x:Operand) (t:TypeId)
  (ho:o.op=.call { callee:=.builtin .append,args:=#[s,x],argTypes:=#[t,t] })
  (e:TypeId) (i:TypeInfo) (z:Value) (bytes:Nat) (ht:P.underlying t=some (.slice e)) (hi:P.info? e=some i) (hz:i.zero=some z)
  (hsize:i.size=d.sz) (hby:i.bytes=bytes) (hzs:z.cells.size=d.sz) (hsz:0 < d.sz)
  (v:Value) (xs ys:List α) (hs:a.eval s=v) (hown:d.Rw e w ok v xs) (hok:∀b,ok b→¬v.ownBlock=some b) (A:Option Addr) (m c:Nat) (hx:a.eval x=.slice A m c) (hm:m=ys.length) (hr:Kn.Src d w ok A ys)
  (h63:xs.length+m≤maxLen) (hbytes:(xs.length+m)*bytes≤140737488355328)
  (h:∀v' w',d.Rw e w' ok v' (xs++ys)→w.grownBy w' v.ownBlock→(v'.ownBlock=v.ownBlock∨v'.ownBlock=some w.heap.size)→K (a.put o.dst v') w') :
  if Region.wanted o (yielded ops a.tmps)=true then Oper.wp P o a w K Q else E:=by
 have hw:Region.wanted o (yielded ops a.tmps)=true:=by simp [Region.wanted,hgd]
 rw [if_pos hw]
 exact wp_append_rw w s x t ho e i z bytes ht hi hz hsize hby hzs hsz v xs ys hs hown hok A m c hx hm hr h63 hbytes h
end
end Go.Proofs.Ytjccgneimknbpaa.L
namespace Go.Proofs.Ytjccgneimknbpaa.L
open Go.RowKit
def Blk (w:World) (g:Nat) (t:TypeId) (cs:List Value):Prop:=w.heap[g]?=some (.cells cs.toArray t (0,0))
namespace Blk
variable {w w1:World} {g:Nat} {t:TypeId} {cs:List Value}
theorem lt (h:Blk w g t cs):g < w.heap.size:=lt_of_get h
theorem cell (h:Blk w g t cs) (i:Nat) {u:Value} (hu:cs[i]?=some u):w.cell? ⟨g,i,none⟩=some u:=by
 rw [cell_of_row w g i _ t (0,0) h]
 simpa using hu
theorem frozen (h:Blk w g t cs) (i:Nat):w.frozen? ⟨g,i,none⟩=false:=by
 unfold Blk at h
 simp [World.frozen?,h]
theorem new (w:World) (t:TypeId) (cs:List Value) {g:Nat} (hg:g=w.heap.size):Blk (w.alloc (.cells cs.toArray t)) g t cs:=by subst hg;exact heap_alloc_new w _
theorem alloc (h:Blk w g t cs) (o:Obj):Blk (w.alloc o) g t cs:=(Below.heap_alloc w o g h.lt).trans h
theorem set_ (h:Blk w g t cs) (i:Nat) (u:Value):Blk (w.setCell ⟨g,i,none⟩ u) g t (cs.set i u):=by
 unfold Blk at h ⊢
 simp [World.setCell,Array.getElem?_modify,h]
theorem far (h:Blk w g t cs) {p:Addr} (hp:g≠p.block) (u:Value):Blk (w.setCell p u) g t cs:=(Below.heap_setCell w p u g hp).trans h
theorem below {B:Nat} (h:Blk w g t cs) (hb:Below B w w1) (hg:g < B):Blk w1 g t cs:=(hb.block g hg).trans h
theorem keep {S:Nat→Prop} (h:Blk w g t cs) (hb:Keep S w w1) (hg:¬S g):Blk w1 g t cs:=(hb.block g h.lt hg).trans h
end Blk
theorem info46:(Try.prog.info? 46).map (fun i=>(i.zero,i.size,i.bytes))=some (some (.agg #[.int .i64 0,.int .i64 0]),2,16):=by kernel_rfl
theorem info52:(Try.prog.info? 52).map (fun i=>(i.zero,i.size,i.bytes))=some (some (.agg #[.int .i64 0,.int .i64 0]),2,16):=by kernel_rfl
theorem info48:(Try.prog.info? 48).map (fun i=>(i.zero,i.size,i.bytes))=some (some (.agg #[.int .i64 0,.int .i64 0,.int .i64 0]),3,24):=by kernel_rfl
theorem info50:(Try.prog.info? 50).map (fun i=>(i.zero,i.size,i.bytes))=some (some (.agg #[.int .i64 0,.int .i64 0,.int .i64 0,.int .i64 0]),4,32):=by kernel_rfl
theorem info3:(Try.prog.info? 3).map (fun i=>(i.zero,i.size,i.bytes))=some (some (.int .i64 0),1,8):=by kernel_rfl
theorem intK_own (w:World) (x:Int):Kn.int.O w x [.int .i64 x] []:=⟨rfl,rfl⟩
abbrev rK:Kn Route:=routeK 46 52 3 48 50
theorem nodup_range {F G:List Nat} {B:Nat} (hF:F.Nodup) (hG:G.Nodup) (h1:∀b,b∈F→b < B) (h2:∀b,b∈G→B≤b):(F++G).Nodup:=List.nodup_append.2 ⟨hF,hG,fun a ha b hb=>by have:=h1 a ha;have:=h2 b hb;omega⟩
theorem routeK_own {w:World} {x:Route} {v2 v3 v4 v5 v6 v7:Value} {F2 F3 F4 F5 F6 F7:List Nat} (h2:(Kn.slice 46 stepK).O w x.steps [v2] F2) (h3:(Kn.slice 52 lieK).O w x.lies [v3] F3) (h4:(Kn.slice 3 Kn.int).O w x.crosses [v4] F4) (h5:(Kn.slice 48 partK).O w x.parts [v5] F5) (h6:(Kn.slice 48 partK).O w x.over [v6] F6) (h7:(Kn.slice 50 flankK).O w x.flanks [v7] F7) (n2:(F2++(F3++(F4++(F5++(F6++F7))))).Nodup) :
  rK.O w x [.int .i64 x.frm,.int .i64 x.til,v2,v3,v4,v5,v6,v7] (F2++(F3++(F4++(F5++(F6++F7))))):=by
 have n3:=(List.nodup_append.1 n2).2.1
 have n4:=(List.nodup_append.1 n3).2.1
 have n5:=(List.nodup_append.1 n4).2.1
 have n6:=(List.nodup_append.1 n5).2.1
 exact ⟨_,_,[],_,rfl,rfl,⟨rfl,rfl⟩,⟨_,_,[],_,rfl,rfl,⟨rfl,rfl⟩,⟨_,_,F2,(F3++(F4++(F5++(F6++F7)))),rfl,rfl,h2,⟨_,_,F3,(F4++(F5++(F6++F7))),rfl,rfl,h3,⟨_,_,F4,(F5++(F6++F7)),rfl,rfl,h4,⟨_,_,F5,(F6++F7),rfl,rfl,h5,⟨_,_,F6,F7,rfl,rfl,h6,h7,n6⟩,n5⟩,n4⟩,n3⟩,n2⟩,n2⟩,n2⟩
theorem routeK_O {w:World} {x:Route} {cs:List Value} {F:List Nat} (h:rK.O w x cs F):∃v2 v3 v4 v5 v6 v7 F2 F3 F4 F5 F6 F7,cs=[.int .i64 x.frm,.int .i64 x.til,v2,v3,v4,v5,v6,v7]∧F=(F2++(F3++(F4++(F5++(F6++F7)))))∧(Kn.slice 46 stepK).O w x.steps [v2] F2∧(Kn.slice 52 lieK).O w x.lies [v3] F3∧(Kn.slice 3 Kn.int).O w x.crosses [v4] F4∧(Kn.slice 48 partK).O w x.parts [v5] F5∧(Kn.slice 48 partK).O w x.over [v6] F6∧(Kn.slice 50 flankK).O w x.flanks [v7] F7∧F.Nodup:=by
 obtain ⟨_,_,_,_,rfl,rfl,⟨rfl,rfl⟩,⟨_,_,_,_,rfl,rfl,⟨rfl,rfl⟩,⟨_,_,_,_,rfl,rfl,⟨v2,ps2,rfl,e2,r2,rfl⟩,⟨_,_,_,_,rfl,rfl,⟨v3,ps3,rfl,e3,r3,rfl⟩,⟨_,_,_,_,rfl,rfl,⟨v4,ps4,rfl,e4,r4,rfl⟩,⟨_,_,_,_,rfl,rfl,⟨v5,ps5,rfl,e5,r5,rfl⟩,⟨_,_,_,_,rfl,rfl,⟨v6,ps6,rfl,e6,r6,rfl⟩,⟨v7,ps7,rfl,e7,r7,rfl⟩,_⟩,_⟩,_⟩,_⟩,_⟩,_⟩,hn⟩:=h
 exact ⟨v2,v3,v4,v5,v6,v7,Kn.foot v2 ps2,Kn.foot v3 ps3,Kn.foot v4 ps4,Kn.foot v5 ps5,Kn.foot v6 ps6,Kn.foot v7 ps7,rfl,rfl,⟨v2,ps2,rfl,e2,r2,rfl⟩,⟨v3,ps3,rfl,e3,r3,rfl⟩,⟨v4,ps4,rfl,e4,r4,rfl⟩,⟨v5,ps5,rfl,e5,r5,rfl⟩,⟨v6,ps6,rfl,e6,r6,rfl⟩,⟨v7,ps7,rfl,e7,r7,rfl⟩,hn⟩
theorem info44:(Try.prog.info? 44).map (fun i=>(i.zero,i.size,i.bytes))=some (some (.agg #[.int .i64 0,.int .i64 0,.slice none 0 0,.slice none 0 0,.slice none 0 0,.slice none 0 0,.slice none 0 0,.slice none 0 0]),8,160):=by kernel_rfl
end Go.Proofs.Ytjccgneimknbpaa.L
namespace Go.Proofs.Ytjccgneimknbpaa.L
open Go.RowKit
def RetStr (s:ByteArray) (w:World) (e:Ending) (w':World):Prop:=e=.returned (.string s)∧Below w.heap.size w w'
def decT (u:Nat):ByteArray:=⟨(Lib.decDigits u).toArray⟩
theorem decT_cons {u m:Nat} {l:List UInt8} (hm:0 < m) (h:Lib.decDigits u=Lib.decDigits m++l) :
  (m / 10=0→Lib.decDigits u=UInt8.ofNat (48+m % 10)::l)∧(0 < m / 10→Lib.decDigits u=Lib.decDigits (m / 10)++(UInt8.ofNat (48+m % 10)::l)):=by
 have e:Lib.decDigits m=if h:m < 10 then [UInt8.ofNat (48+m)] else Lib.decDigits (m / 10)++[UInt8.ofNat (48+m % 10)]:=by rw [Lib.decDigits]
 rw [e] at h
 by_cases h10:m < 10
 ·rw [dif_pos h10] at h
  have h1:m / 10=0:=by omega
  have h2:m % 10=m:=by omega
  exact ⟨fun _=>by rw [h,h2];rfl,fun e=>by omega⟩
 ·rw [dif_neg h10] at h
  exact ⟨fun e=>by omega,fun _=>by rw [h,List.append_assoc];rfl⟩
set_option maxRecDepth 100000 in
set_option maxHeartbeats 4000000 in
theorem l4decimal (u:Nat) (w:World) (h:u≤1125899906842624):Calls Try.prog 89 #[.int .i64 u] w (RetStr (decT u) w):=by
 by_cases h0:u=0
 ·subst h0
  have HZ:Hid (decT 0=⟨#[48]⟩):=Lib.hid (by unfold decT;rw [Lib.decDigits,dif_pos (by omega)];rfl)
  go_enter Try.func89,Try.ntmps89
  go_wp2
  go_ret
  exact ⟨by rw [HZ.out];rfl,Below.refl _ _⟩
 have d0:(((u:Nat):Int) == 0)=false:=by simp [h0]
 have d1:decide (((u:Nat):Int) < 0)=false:=decide_eq_false (by omega)
 have hu:0 < u:=by omega
 clear h0
 go_enter Try.func89,Try.ntmps89
 go_wp2
 go_loopw [0,4] (fun kv ov wr=>∃(m:Nat) (s:ByteArray),m≤u∧kv=.int .i64 m∧ov=.string s∧s.size+m≤1125899906842630∧Hid ((m=0→Lib.decDigits u=s.data.toList)∧(0 < m→Lib.decDigits u=Lib.decDigits m++s.data.toList))∧Below w.heap.size w wr) (fun kv _ _=>(intOf kv).toNat)
 case atStart=>exact ⟨u,_,Nat.le_refl _,rfl,rfl,by show 0+u≤_;omega,Lib.hid ⟨fun e=>by omega,fun _=>by simp⟩,Below.refl _ _⟩
 case round =>
  obtain ⟨m,s,hmu,rfl,rfl,hs,HI,hb⟩:=hrel
  by_cases hlt:0 < m
  ·have d2:decide ((0:Int) < (m:Int))=true:=decide_eq_true (by omega)
   have hsz:s.size≤1125899906842630:=by omega
   have hs1:(strOfNums [48+((m:Int) % 10)]).size+s.size≤9223372036854775807:=by rw [strOfNums_size];simp only [List.length_singleton];omega
   have hcv:=run_convert_bytes_arg (P:=Try.prog) (wr.alloc (.cells #[.int .u8 (48+(m:Int) % 10)] 5)) 22 5 Try.underlying22 Try.underlying5 wr.heap.size 0 1 1 [48+(m:Int) % 10] rfl (fun i hi=>by
    obtain rfl:i=0:=by omega
    simp) 9 Try.underlying9
   have HZ:Hid ((strOfNums [48+(m:Int) % 10]++s).size+m / 10≤1125899906842630):=Lib.hid (by
    have:(strOfNums [48+(m:Int) % 10]++s).size=1+s.size:=by rw [ByteArray.size_append,strOfNums_size];rfl
    rw [this]
    omega)
   have HD:Hid ((strOfNums [48+(m:Int) % 10]++s).data.toList=UInt8.ofNat (48+m % 10)::s.data.toList):=Lib.hid (by
    rw [ByteArray.data_append,Array.toList_append,strOfNums_data]
    have:(48+(m:Int) % 10).toNat=48+m % 10:=by omega
    simp [this])
   have HN:Hid ((m / 10=0→Lib.decDigits u=(strOfNums [48+(m:Int) % 10]++s).data.toList)∧(0 < m / 10→Lib.decDigits u=Lib.decDigits (m / 10)++(strOfNums [48+(m:Int) % 10]++s).data.toList)):=Lib.hid (by
    rw [HD.out]
    exact decT_cons hlt (HI.out.2 hlt))
   clear HI
   go_wp2
   go_roundw
   case rel=>exact ⟨m / 10,_,by omega,by go_num,rfl,HZ.out,HN,hb.alloc hb.size _⟩
   case measure=>simp [intOf];omega
  ·obtain rfl:m=0:=by omega
   have HF:Hid (decT u=s):=Lib.hid (by
    unfold decT
    rw [HI.out.1 rfl])
   go_wp2
   go_ret
   exact ⟨by rw [HF.out];rfl,hb⟩
end Go.Proofs.Ytjccgneimknbpaa.L
namespace Go.Proofs.Ytjccgneimknbpaa.L
open Go.RowKit
def nameF (i:Nat):ByteArray:=strOfNums [97+(i:Int) % 26]++decT i
def byteK:Kn Int:=Kn.scalar (Value.int .u8) (fun _=>rfl)
theorem byte_at {w:World} {ok:Nat→Prop} {A:Option Addr} {xs:List Int} (h:byteK.C w ok A xs) (k:Nat) (hk:k < xs.length):∃ad,A=some ad∧∃y,Hid (xs[k]?=some y)∧w.cell? (ad.add k)=some (.int .u8 y):=by
 obtain ⟨ad,x,c,e,_,hx,rfl,hc⟩:=Kn.C_at h k hk
 exact ⟨ad,e,_,Lib.hid hx,by have:=hc 0 _ rfl;rwa [show k*byteK.sz+0=k from by show k*1+0=k;omega] at this⟩
structure Cb (w:World) (g k B:Nat):Prop where
 ex:∃(A:Option Addr) (c:Nat) (bs:List Int) (i:Nat) (sd:Int),Blk w g 75 [.slice A bs.length c,.int .i64 i,.int .u64 sd]∧byteK.C w (fun b=>¬b=g∧b < B) A bs∧(∀x∈bs,0≤x∧x≤255)∧i≤k
theorem Cb.mono {w:World} {g k m B B':Nat} (h:Cb w g k B) (hm:k≤m) (hB:B≤B'):Cb w g m B':=by
 obtain ⟨A,c,bs,i,sd,h1,h2,h3,h4⟩:=h.ex
 exact ⟨A,c,bs,i,sd,h1,Kn.C_mono (fun b hb=>⟨hb.1,Nat.lt_of_lt_of_le hb.2 hB⟩) h2,h3,Nat.le_trans h4 hm⟩
theorem Cb.lt {w:World} {g k B:Nat} (h:Cb w g k B):g < w.heap.size:=by
 obtain ⟨A,c,bs,i,sd,h1,_⟩:=h.ex
 exact h1.lt
theorem Cb.keep {w w1:World} {g k B:Nat} {S:Nat→Prop} (h:Cb w g k B) (hk:Keep S w w1) (hg:¬S g) (hS:∀b,b < B→¬b=g→¬S b):Cb w1 g k B:=by
 obtain ⟨A,c,bs,i,sd,h1,h2,h3,h4⟩:=h.ex
 refine ⟨A,c,bs,i,sd,h1.keep hk hg,?_,h3,h4⟩
 exact Kn.C_mono (fun b hb=>hb.1) (Kn.C_move (fun b hb=>hk.block b hb.2 (hS b hb.1.2 hb.1.1)) (Kn.C_bound h2))
theorem Cb.below {w w1:World} {g k B:Nat} (h:Cb w g k B) (hb:Below w.heap.size w w1):Cb w1 g k B :=
 h.keep (Keep.of_below (S:=fun _=>False) hb) (fun e=>e) (fun _ _ _ e=>e)
def RetCu (lo hi:Int) (g k B:Nat) (w:World) (e:Ending) (w':World):Prop :=
 ∃v:Int,e=.returned (.int .i64 v)∧Hid (lo≤v∧v≤hi)∧Hid (Cb w' g k B)∧Hid (Keep (fun b=>b=g) w w')
theorem RetCu.mono {lo hi:Int} {g k m B:Nat} {w w':World} {e:Ending} (h:RetCu lo hi g k B w e w') (hm:k≤m):RetCu lo hi g m B w e w':=by
 obtain ⟨v,h1,h2,h3,h4⟩:=h
 exact ⟨v,h1,h2,Lib.hid (h3.out.mono hm (Nat.le_refl _)),h4⟩
theorem Cb.put {w w1:World} {g k B c i j:Nat} {A:Option Addr} {bs:List Int} {sd:Int} (h2:byteK.C w (fun b=>¬b=g∧b < B) A bs) (h3:∀x∈bs,0≤x∧x≤255) (h4:j≤k)
  (h1:Blk w1 g 75 [.slice A bs.length c,.int .i64 j,.int .u64 sd]) (hk:Keep (fun b=>b=g) w w1):Cb w1 g k B :=
 ⟨A,c,bs,j,sd,h1,Kn.C_mono (fun b hb=>hb.1) (Kn.C_move (fun b hb=>hk.block b hb.2 hb.1.1) (Kn.C_bound h2)),h3,h4⟩
theorem Blk.drewN {w:World} {g t:Nat} {cs:List Value} (h:Blk w g t cs) (n:Nat):Blk (w.drewN n) g t cs:=h.below (below_drewN (Below.refl _ _) n) h.lt
theorem and255 (x:Int) (h0:0≤x) (h1:x < 18446744073709551616):0≤wrap64 (bits BinOp.and IntKind.u64 x 255)∧wrap64 (bits BinOp.and IntKind.u64 x 255)≤255:=by
 obtain ⟨a,rfl⟩:∃a:Nat,x=a:=⟨x.toNat,by omega⟩
 have h:=bits_and_u64_nat a 255 (by omega) (by omega)
 have h2:bits BinOp.and IntKind.u64 (a:Int) 255=((a &&& 255:Nat):Int):=h
 have h3:a &&& 255≤255:=Nat.and_le_right
 rw [h2]
 unfold wrap64
 omega
set_option maxRecDepth 100000 in
set_option maxHeartbeats 4000000 in
theorem curNext (g k B:Nat) (w:World) (h:Hid (Cb w g k B)) (hk:k≤1125899906842624):Calls Try.prog 61 #[.pointer (some ⟨g,0,none⟩)] w (RetCu 0 255 g (k+1) B w):=by
 obtain ⟨A,c,bs,i,sd,h1,h2,h3,h4⟩:=h.out.ex
 have HB:=Lib.hid h1
 have HC:=Lib.hid h2
 have HR:=Lib.hid h3
 have hg:g < w.heap.size:=h1.lt
 have s0:=h1.cell 0 rfl
 have s1:=h1.cell 1 rfl
 have s2:=h1.cell 2 rfl
 have f0:=h1.frozen 0
 have f1:=h1.frozen 1
 have f2:=h1.frozen 2
 have hm:=h2.1
 clear h h1 h2 h3
 by_cases hlt:i < bs.length
 ·obtain ⟨ad,rfl,y,EY,c0⟩:=byte_at HC.out i hlt
  have i0:(0:Int)≤(i:Int):=Int.natCast_nonneg _
  have i1:(i:Int) < (bs.length:Int):=by omega
  have d0:decide ((i:Int) < (bs.length:Int))=true:=decide_eq_true i1
  have hy:=HR.out y (List.mem_of_getElem? EY.out)
  go_enter Try.func61,Try.ntmps61
  go_wp2
  go_quiet (fail)
  go_wp2
  go_quiet (fail)
  go_wp2
  go_ret
  refine ⟨y,rfl,Lib.hid hy,Lib.hid (Cb.put (i:=i) (j:=i+1) HC.out HR.out (by omega) (((HB.out.drewN _).set_ 1 _).set_ 2 _) ?_),Lib.hid ?_⟩
  ·exact (((Keep.refl (fun b=>b=g) w).drewN _).setCell (p:=⟨g,1,none⟩) (fun _=>rfl) _).setCell (p:=⟨g,2,none⟩) (fun _=>rfl) _
  ·exact (((Keep.refl (fun b=>b=g) w).drewN _).setCell (p:=⟨g,1,none⟩) (fun _=>rfl) _).setCell (p:=⟨g,2,none⟩) (fun _=>rfl) _
 ·have d0:decide ((i:Int) < (bs.length:Int))=false:=decide_eq_false (by omega)
  go_enter Try.func61,Try.ntmps61
  go_wp2
  go_quiet (fail)
  go_wp2
  go_ret
  refine ⟨_,rfl,Lib.hid ?_,Lib.hid (Cb.put (i:=i) (j:=i+1) HC.out HR.out (by omega) (((HB.out.drewN _).set_ 2 _).set_ 1 _) ?_),Lib.hid ?_⟩
  ·exact and255 _ (by rw [IntKind.wrap_u64];omega) (by rw [IntKind.wrap_u64];omega)
  ·exact (((Keep.refl (fun b=>b=g) w).drewN _).setCell (p:=⟨g,2,none⟩) (fun _=>rfl) _).setCell (p:=⟨g,1,none⟩) (fun _=>rfl) _
  ·exact (((Keep.refl (fun b=>b=g) w).drewN _).setCell (p:=⟨g,2,none⟩) (fun _=>rfl) _).setCell (p:=⟨g,1,none⟩) (fun _=>rfl) _
set_option maxRecDepth 100000 in
set_option maxHeartbeats 4000000 in
/-- A choice among n. -/
theorem curPick (n hi:Int) (g k B:Nat) (w:World) (h:Hid (Cb w g k B)) (hk:k≤1125899906842620) (hn:n≤65536) (h0:0≤hi) (hh:n - 1≤hi):Calls Try.prog 33 #[.pointer (some ⟨g,0,none⟩),.int .i64 n] w (RetCu 0 hi g (k+2) B w):=by
 by_cases h1:n≤1
 ·have d0:decide (n≤1)=true:=decide_eq_true h1
  go_enter Try.func33,Try.ntmps33
  go_wp2
  go_ret
  exact ⟨0,rfl,Lib.hid ⟨Int.le_refl _,h0⟩,Lib.hid (h.out.mono (by omega) (Nat.le_refl _)),Lib.hid (Keep.refl _ _)⟩
 have d0:decide (n≤1)=false:=decide_eq_false h1
 have dz:(n == 0)=false:=by simp;omega
 have dz2:¬n=0:=by omega
 by_cases h2:200 < n
 ·have d1:decide (200 < n)=true:=decide_eq_true h2
  go_enter Try.func33,Try.ntmps33
  go_wp2_with fail
  refine (curNext g k B _ h (by omega)).mono ?_
  rintro e w1 ⟨v1,rfl,HV1,HC1,HK1⟩
  have v1a:=HV1.out.1
  have v1b:=HV1.out.2
  go_wp2_with fail
  refine (curNext g (k+1) B _ HC1 (by omega)).mono ?_
  rintro e w2 ⟨v2,rfl,HV2,HC2,HK2⟩
  have v2a:=HV2.out.1
  have v2b:=HV2.out.2
  go_wp2
  go_ret
  exact ⟨_,rfl,Lib.hid ⟨Int.emod_nonneg _ dz2,by have:=Int.emod_lt_of_pos (v1*256+v2) (show 0 < n by omega);omega⟩,HC2,Lib.hid (HK1.out.trans HK2.out (fun _ _ e=>e))⟩
 ·have d1:decide (200 < n)=false:=decide_eq_false h2
  go_enter Try.func33,Try.ntmps33
  go_wp2_with fail
  refine (curNext g k B _ h (by omega)).mono ?_
  rintro e w1 ⟨v1,rfl,HV1,HC1,HK1⟩
  have v1a:=HV1.out.1
  have v1b:=HV1.out.2
  go_wp2
  go_ret
  exact ⟨_,rfl,Lib.hid ⟨Int.emod_nonneg _ dz2,by have:=Int.emod_lt_of_pos v1 (show 0 < n by omega);omega⟩,Lib.hid (HC1.out.mono (by omega) (Nat.le_refl _)),HK1⟩
set_option maxRecDepth 100000 in
set_option maxHeartbeats 4000000 in
theorem curWide (n hi:Int) (g k B:Nat) (w:World) (h:Hid (Cb w g k B)) (hk:k≤1125899906842620) (h1:1≤n) (hh:n - 1≤hi):Calls Try.prog 32 #[.pointer (some ⟨g,0,none⟩),.int .i64 n] w (RetCu 0 hi g (k+2) B w):=by
 have dz:(n == 0)=false:=by simp;omega
 have dz2:¬n=0:=by omega
 go_enter Try.func32,Try.ntmps32
 go_wp2_with fail
 refine (curNext g k B _ h (by omega)).mono ?_
 rintro e w1 ⟨v1,rfl,HV1,HC1,HK1⟩
 have v1a:=HV1.out.1
 have v1b:=HV1.out.2
 go_wp2_with fail
 refine (curNext g (k+1) B _ HC1 (by omega)).mono ?_
 rintro e w2 ⟨v2,rfl,HV2,HC2,HK2⟩
 have v2a:=HV2.out.1
 have v2b:=HV2.out.2
 go_wp2
 go_ret
 exact ⟨_,rfl,Lib.hid ⟨Int.emod_nonneg _ dz2,by have:=Int.emod_lt_of_pos (v1*256+v2) (show 0 < n by omega);omega⟩,HC2,Lib.hid (HK1.out.trans HK2.out (fun _ _ e=>e))⟩
theorem dec_len7 {u:Nat} (h:u < 10000000):(Lib.decDigits u).length≤7:=by
 rw [Lib.decDigits]
 split
 ·simp
 rw [Lib.decDigits]
 split
 ·simp
 rw [Lib.decDigits]
 split
 ·simp
 rw [Lib.decDigits]
 split
 ·simp
 rw [Lib.decDigits]
 split
 ·simp
 rw [Lib.decDigits]
 split
 ·simp
 rw [Lib.decDigits,dif_pos (by omega)]
 simp
set_option maxRecDepth 100000 in
set_option maxHeartbeats 4000000 in
theorem curName (u g:Nat) (w:World) (hu:u≤1048576):Calls Try.prog 59 #[.pointer (some ⟨g,0,none⟩),.int .i64 u] w (RetStr (nameF u) w):=by
 have u0:(0:Int)≤(u:Int):=Int.natCast_nonneg _
 have u2:(u:Int).tmod 26=(u:Int) % 26:=Int.tmod_eq_emod_of_nonneg u0
 obtain ⟨r,hr⟩:∃r:Int,r=(u:Int) % 26:=⟨_,rfl⟩
 have r0:0≤r:=by omega
 have r1:r < 26:=by omega
 have HF:Hid (strOfNums [97+r]++decT u=nameF u):=Lib.hid (by rw [hr];rfl)
 have hsz:(strOfNums [97+r]).size+(decT u).size≤9223372036854775807:=by
  rw [strOfNums_size]
  have:(decT u).size=(Lib.decDigits u).length:=rfl
  rw [this]
  have:=dec_len7 (u:=u) (by omega)
  simp only [List.length_singleton]
  omega
 rw [←hr] at u2
 clear hr
 have wa:IntKind.i64.wrap (97+r)=97+r:=by rw [IntKind.wrap_i64];omega
 have wb:IntKind.u8.wrap (97+r)=97+r:=by rw [IntKind.wrap_u8];omega
 have hcv:∀(W:World) (b:Nat),W.cell? ⟨b,0,none⟩=some (.int .u8 (97+r))→(convert 22 9 (.slice (some ⟨b,0,none⟩) 1 1)).run Try.prog W=.ok (.string (strOfNums [97+r])) W:=fun W b hc =>
  run_convert_bytes_arg (P:=Try.prog) W 22 5 Try.underlying22 Try.underlying5 b 0 1 1 [97+r] rfl (fun i hi=>by
    obtain rfl:i=0:=by omega
    simpa using hc) 9 Try.underlying9
 go_enter Try.func59,Try.ntmps59
 go_wp2
 go_region_with (refine (l4decimal u _ (by omega)).mono ?_;rintro e w1 ⟨rfl,hb1⟩;have hcc:=fun c=>cell_below hb1 (a:=⟨w.heap.size,0,none⟩) (v:=.int .u8 (97+r)) c;try simp at hcc)
 all_goals (go_wp2;go_ret;refine ⟨by rw [HF.out];rfl,?_⟩)
 all_goals first
  | exact (below_alloc _ _).drew.trans (hb1.mono (by simp))
  | exact ((Below.refl _ _).drew.trans (hb1.mono (by simp))).alloc (by have:=hb1.size;simpa using this) _
end Go.Proofs.Ytjccgneimknbpaa.L
namespace Go.Proofs.Ytjccgneimknbpaa.L
open Go.ChangeShapes Go.WideShapes Go.ChangeAt Go.RowKit
theorem opens_byte:Opens Try.prog 5 byteK (fun n=>0≤n∧n≤255) :=
 ⟨by kernel_rfl,fun H enc w sp hd m cs x h=>by
  obtain ⟨n,rfl,_,hn⟩:=DataW.trod_int Try.underlying5 h
  refine ⟨n,rfl,?_⟩
  simp [Lit.wf,IntKind.min,IntKind.max,IntKind.bits,IntKind.signed] at hn
  omega⟩
theorem opens_bytes:Opens Try.prog 22 (Kn.slice 0 byteK) (fun xs=>∀x∈xs,0≤x∧x≤255):=opens_slice Try.underlying22 (by kernel_rfl) opens_byte (by decide)
theorem own:ownKnob Try.prog.godebug=none:=by kernel_rfl
theorem laidOut:laidOutB Try.prog=true:=by kernel_rfl
end Go.Proofs.Ytjccgneimknbpaa.L
namespace Go.Proofs.Ytjccgneimknbpaa.L
open Go.RowKit
noncomputable def pv (p:Prop):Bool:=@decide p (Classical.propDecidable p)
theorem pv_true {p:Prop} (h:p):pv p=true:=by unfold pv;exact @decide_eq_true _ (Classical.propDecidable _) h
theorem pv_false {p:Prop} (h:¬p):pv p=false:=by unfold pv;exact @decide_eq_false _ (Classical.propDecidable _) h
def nameB (b:Nat):Prop:=(97≤b∧b≤122)∨(48≤b∧b≤57)∨b=95
def nameTo (s:ByteArray) (k:Nat):Prop:=∀j (h:j < s.size),j < k→nameB s[j].toNat
def nameP (s:ByteArray):Prop:=1≤s.size∧s.size≤20∧nameTo s s.size
theorem nameTo_zero (s:ByteArray):nameTo s 0:=fun j h hj=>absurd hj (by omega)
theorem nameTo_succ {s:ByteArray} {k:Nat} (h:nameTo s k) (hk:k < s.size) (hb:nameB s[k].toNat):nameTo s (k+1):=fun j hj hjk=>by
 by_cases e:j=k
 ·subst e;exact hb
 ·exact h j hj (by omega)
def RetB0 (r:Bool) (w:World) (e:Ending) (w':World):Prop:=e=.returned (.bool r)∧w=w'
theorem ret_bool {a b:Bool} (h:a=b):Ending.returned (.bool a)=.returned (.bool b):=by rw [h]
theorem l1in (x a b:Int) (w:World):Calls Try.prog 35 #[.int .i64 x,.int .i64 a,.int .i64 b] w (RetB0 (decide (a≤x∧x≤b)) w):=by
 go_enter Try.func35,Try.ntmps35
 by_cases h1:a≤x
 ·by_cases h2:x≤b
  ·go_wp2
   go_ret
   exact ⟨ret_bool (by simp [h1,h2]),rfl⟩
  ·go_wp2
   go_ret
   exact ⟨ret_bool (by simp [h1,h2]),rfl⟩
 ·go_wp2
  go_ret
  exact ⟨ret_bool (by simp;omega),rfl⟩
theorem byte_cases (b:Nat):(nameB b∧decide ((97:Int)≤b)=true∧decide ((b:Int)≤122)=true)∨(¬nameB b∧decide ((97:Int)≤b)=true∧decide ((b:Int)≤122)=false∧decide ((48:Int)≤b)=true∧decide ((b:Int)≤57)=false∧((b:Int) == 95)=false)∨(nameB b∧decide ((97:Int)≤b)=false∧decide ((48:Int)≤b)=true∧decide ((b:Int)≤57)=true)∨(¬nameB b∧decide ((97:Int)≤b)=false∧decide ((48:Int)≤b)=true∧decide ((b:Int)≤57)=false∧((b:Int) == 95)=false)∨(nameB b∧decide ((97:Int)≤b)=false∧decide ((48:Int)≤b)=true∧decide ((b:Int)≤57)=false∧((b:Int) == 95)=true)∨(¬nameB b∧decide ((97:Int)≤b)=false∧decide ((48:Int)≤b)=false∧((b:Int) == 95)=false):=by
 unfold nameB
 simp only [decide_eq_true_eq,decide_eq_false_iff_not,beq_iff_eq,beq_eq_false_iff_ne]
 omega
set_option maxHeartbeats 2000000 in
theorem l1name (s:ByteArray) (w:World) (hs:s.size≤9223372036854775807):Calls Try.prog 91 #[.string s] w (RetB0 (pv (nameP s)) w):=by
 go_enter Try.func91,Try.ntmps91
 go_wp2
 go_loop [3,4] (fun i _=>∃k:Nat,k≤s.size∧i=.int .i64 k∧Hid (nameTo s k)) (fun i _=>s.size - (intOf i).toNat)
 case atStart=>exact ⟨0,Nat.zero_le _,rfl,Lib.hid (nameTo_zero s)⟩
 case round =>
  obtain ⟨k,hk,rfl,HT⟩:=hrel
  by_cases hlt:k < s.size
  ·have hlo:(0:Int)≤(s[k].toNat:Int):=Int.natCast_nonneg _
   rcases byte_cases s[k].toNat with ⟨hb,h1,h2⟩ | ⟨hb,h1,h2,h3,h4,h5⟩ | ⟨hb,h1,h2,h3⟩ | ⟨hb,h1,h2,h3,h4⟩ | ⟨hb,h1,h2,h3,h4⟩ | ⟨hb,h1,h2,h3⟩
   ·have HN:=Lib.hid (nameTo_succ HT.out hlt hb)
    clear hb
    go_wp2
    go_round
    case rel=>exact ⟨k+1,by omega,by go_num,HN⟩
    case measure=>simp [intOf];omega
   ·have HN:Hid (pv (nameP s)=false):=Lib.hid (pv_false (fun h=>hb (h.2.2 k hlt hlt)))
    clear hb
    go_wp2
    go_ret
    exact ⟨by rw [HN.out];rfl,rfl⟩
   ·have HN:=Lib.hid (nameTo_succ HT.out hlt hb)
    clear hb
    go_wp2
    go_round
    case rel=>exact ⟨k+1,by omega,by go_num,HN⟩
    case measure=>simp [intOf];omega
   ·have HN:Hid (pv (nameP s)=false):=Lib.hid (pv_false (fun h=>hb (h.2.2 k hlt hlt)))
    clear hb
    go_wp2
    go_ret
    exact ⟨by rw [HN.out];rfl,rfl⟩
   ·have HN:=Lib.hid (nameTo_succ HT.out hlt hb)
    clear hb
    go_wp2
    go_round
    case rel=>exact ⟨k+1,by omega,by go_num,HN⟩
    case measure=>simp [intOf];omega
   ·have HN:Hid (pv (nameP s)=false):=Lib.hid (pv_false (fun h=>hb (h.2.2 k hlt hlt)))
    clear hb
    go_wp2
    go_ret
    exact ⟨by rw [HN.out];rfl,rfl⟩
  ·have hge:s.size≤k:=by omega
   have HK:Hid (k=s.size):=Lib.hid (by omega)
   by_cases h1:1≤s.size
   ·by_cases h2:s.size≤20
    ·have HN:Hid (pv (nameP s)=true):=Lib.hid (pv_true ⟨h1,h2,by have:=HT.out;rw [HK.out] at this;exact this⟩)
     have d2:decide ((s.size:Int)≤20)=true:=decide_eq_true (by omega)
     go_wp2
     go_ret
     exact ⟨by rw [HN.out];rfl,rfl⟩
    ·have HN:Hid (pv (nameP s)=false):=Lib.hid (pv_false (fun h=>h2 h.2.1))
     have d2:decide ((s.size:Int)≤20)=false:=decide_eq_false (by omega)
     go_wp2
     go_ret
     exact ⟨by rw [HN.out];rfl,rfl⟩
   ·have HN:Hid (pv (nameP s)=false):=Lib.hid (pv_false (fun h=>h1 h.1))
    have d2:decide ((1:Int)≤(s.size:Int))=false:=decide_eq_false (by omega)
    go_wp2
    go_ret
    exact ⟨by rw [HN.out];rfl,rfl⟩
set_option maxHeartbeats 2000000 in
theorem named (s:ByteArray) (w:World) (hs:s.size≤9223372036854775807):Calls Try.prog 94 #[.string s] w (RetB0 (pv (nameP s)) w):=by
 by_cases g1:1≤s.size
 rotate_left
 ·have HN:Hid (pv (nameP s)=false):=Lib.hid (pv_false (fun h=>g1 h.1))
  go_enter Try.func94,Try.ntmps94
  go_wp2
  go_ret
  exact ⟨by rw [HN.out];rfl,rfl⟩
 by_cases g2:s.size≤20
 rotate_left
 ·have HN:Hid (pv (nameP s)=false):=Lib.hid (pv_false (fun h=>g2 h.2.1))
  go_enter Try.func94,Try.ntmps94
  go_wp2
  go_ret
  exact ⟨by rw [HN.out];rfl,rfl⟩
 go_enter Try.func94,Try.ntmps94
 go_wp2
 go_loop [3,4] (fun i _=>∃k:Nat,k≤s.size∧i=.int .i64 k∧Hid (nameTo s k)) (fun i _=>s.size - (intOf i).toNat)
 case atStart=>exact ⟨0,Nat.zero_le _,rfl,Lib.hid (nameTo_zero s)⟩
 case round =>
  obtain ⟨k,hk,rfl,HT⟩:=hrel
  by_cases hlt:k < s.size
  ·have hlo:(0:Int)≤(s[k].toNat:Int):=Int.natCast_nonneg _
   rcases byte_cases s[k].toNat with ⟨hb,h1,h2⟩ | ⟨hb,h1,h2,h3,h4,h5⟩ | ⟨hb,h1,h2,h3⟩ | ⟨hb,h1,h2,h3,h4⟩ | ⟨hb,h1,h2,h3,h4⟩ | ⟨hb,h1,h2,h3⟩
   ·have HN:=Lib.hid (nameTo_succ HT.out hlt hb)
    clear hb
    go_wp2
    go_round
    case rel=>exact ⟨k+1,by omega,by go_num,HN⟩
    case measure=>simp [intOf];omega
   ·have HN:Hid (pv (nameP s)=false):=Lib.hid (pv_false (fun h=>hb (h.2.2 k hlt hlt)))
    clear hb
    go_wp2
    go_ret
    exact ⟨by rw [HN.out];rfl,rfl⟩
   ·have HN:=Lib.hid (nameTo_succ HT.out hlt hb)
    clear hb
    go_wp2
    go_round
    case rel=>exact ⟨k+1,by omega,by go_num,HN⟩
    case measure=>simp [intOf];omega
   ·have HN:Hid (pv (nameP s)=false):=Lib.hid (pv_false (fun h=>hb (h.2.2 k hlt hlt)))
    clear hb
    go_wp2
    go_ret
    exact ⟨by rw [HN.out];rfl,rfl⟩
   ·have HN:=Lib.hid (nameTo_succ HT.out hlt hb)
    clear hb
    go_wp2
    go_round
    case rel=>exact ⟨k+1,by omega,by go_num,HN⟩
    case measure=>simp [intOf];omega
   ·have HN:Hid (pv (nameP s)=false):=Lib.hid (pv_false (fun h=>hb (h.2.2 k hlt hlt)))
    clear hb
    go_wp2
    go_ret
    exact ⟨by rw [HN.out];rfl,rfl⟩
  ·have hge:s.size≤k:=by omega
   have HK:Hid (k=s.size):=Lib.hid (by omega)
   have HN:Hid (pv (nameP s)=true):=Lib.hid (pv_true ⟨g1,g2,by have:=HT.out;rw [HK.out] at this;exact this⟩)
   go_wp2
   go_ret
   exact ⟨by rw [HN.out];rfl,rfl⟩
noncomputable def least (P:Nat→Prop):Nat→Nat
 | 0=>0
 | n+1=>@ite _ (least P n < n) (Nat.decLt _ _) (least P n) (@ite _ (P n) (Classical.propDecidable _) n (n+1))
theorem least_none {P:Nat→Prop}:∀{n:Nat},(∀j,j < n→¬P j)→least P n=n
 | 0,_=>rfl
 | n+1,h=>by
  rw [least,least_none (fun j hj=>h j (by omega)),if_neg (by omega),if_neg (h n (by omega))]
theorem least_eq {P:Nat→Prop} {i:Nat}:∀{n:Nat},i < n→P i→(∀j,j < i→¬P j)→least P n=i
 | 0,h,_,_=>absurd h (by omega)
 | n+1,h,hp,hj=>by
  rw [least]
  by_cases e:i=n
  ·subst e
   rw [least_none hj,if_neg (by omega),if_pos hp]
  ·rw [least_eq (n:=n) (by omega) hp hj,if_pos (by omega)]
def pieceP (p:Piece):Prop:=nameP p.name∧1≤p.len∧p.len≤10000000∧1≤p.speed∧p.speed≤10000∧1≤p.brake∧p.brake≤1000
def endP (n:Nat) (e:End):Prop:=(0≤e.piece∧e.piece≤(n:Int) - 1)∧(0≤e.side∧e.side≤1)
def sameName (xs:List ByteArray) (i:Nat) (s:ByteArray):Prop:=∃j,j < i∧xs[j]?=some s
def bad2 (n:Net) (i:Nat):Prop:=∃p,n.pieces[i]?=some p∧(¬pieceP p∨sameName (n.pieces.map Piece.name) i p.name)
def jointP (n:Nat) (x:Joint):Prop:=(1≤x.kind∧x.kind≤4)∧(x.ends.length:Int)=x.kind∧∀e∈x.ends,endP n e
def bad3 (n:Net) (i:Nat):Prop:=∃x,n.joints[i]?=some x∧¬jointP n.pieces.length x
def nameBad (js:List Joint) (i:Nat) (x:Joint):Prop:=(x.kind < 3∧¬x.name=⟨#[]⟩)∨(3≤x.kind∧(¬nameP x.name∨sameName (js.map Joint.name) i x.name))
def bad4 (n:Net) (i:Nat):Prop:=∃x,n.joints[i]?=some x∧nameBad n.joints i x
noncomputable def usesIn (es:List End) (e:End):Nat:=tot (fun x=>if eqv x e=true then 1 else 0) es
noncomputable def uses (js:List Joint) (e:End):Nat:=tot (fun j=>usesIn j.ends e) js
def bad5 (n:Net) (i:Nat):Prop:=¬uses n.joints ⟨i,0⟩=1∨¬uses n.joints ⟨i,1⟩=1
def bad1 (n:Net):Prop:=n.pieces.length=0∨100 < n.pieces.length∨120 < n.joints.length
open Classical in
/-- NetOk, as both say it. -/
noncomputable def netOk (n:Net):Fault :=
 if bad1 n then ⟨1,0⟩
 else if ∃i,i < n.pieces.length∧bad2 n i then ⟨2,least (bad2 n) n.pieces.length⟩
 else if ∃i,i < n.joints.length∧bad3 n i then ⟨3,least (bad3 n) n.joints.length⟩
 else if ∃i,i < n.joints.length∧bad4 n i then ⟨4,least (bad4 n) n.joints.length⟩
 else if ∃i,i < n.pieces.length∧bad5 n i then ⟨5,least (bad5 n) n.pieces.length⟩
 else ⟨0,0⟩
theorem netOk_1 {n:Net} (h:bad1 n):netOk n=⟨1,0⟩:=by unfold netOk;rw [if_pos h]
theorem netOk_2 {n:Net} {i:Nat} (h1:¬bad1 n) (hi:i < n.pieces.length) (hb:bad2 n i) (hj:∀j,j < i→¬bad2 n j):netOk n=⟨2,i⟩:=by
 unfold netOk
 rw [if_neg h1,if_pos ⟨i,hi,hb⟩,least_eq hi hb hj]
theorem netOk_3 {n:Net} {i:Nat} (h1:¬bad1 n) (h2:∀j,j < n.pieces.length→¬bad2 n j) (hi:i < n.joints.length) (hb:bad3 n i) (hj:∀j,j < i→¬bad3 n j):netOk n=⟨3,i⟩:=by
 unfold netOk
 rw [if_neg h1,if_neg (fun ⟨j,a,b⟩=>h2 j a b),if_pos ⟨i,hi,hb⟩,least_eq hi hb hj]
theorem netOk_4 {n:Net} {i:Nat} (h1:¬bad1 n) (h2:∀j,j < n.pieces.length→¬bad2 n j) (h3:∀j,j < n.joints.length→¬bad3 n j) (hi:i < n.joints.length) (hb:bad4 n i) (hj:∀j,j < i→¬bad4 n j):netOk n=⟨4,i⟩:=by
 unfold netOk
 rw [if_neg h1,if_neg (fun ⟨j,a,b⟩=>h2 j a b),if_neg (fun ⟨j,a,b⟩=>h3 j a b),if_pos ⟨i,hi,hb⟩,least_eq hi hb hj]
theorem netOk_5 {n:Net} {i:Nat} (h1:¬bad1 n) (h2:∀j,j < n.pieces.length→¬bad2 n j) (h3:∀j,j < n.joints.length→¬bad3 n j) (h4:∀j,j < n.joints.length→¬bad4 n j) (hi:i < n.pieces.length) (hb:bad5 n i) (hj:∀j,j < i→¬bad5 n j):netOk n=⟨5,i⟩:=by
 unfold netOk
 rw [if_neg h1,if_neg (fun ⟨j,a,b⟩=>h2 j a b),if_neg (fun ⟨j,a,b⟩=>h3 j a b),if_neg (fun ⟨j,a,b⟩=>h4 j a b),if_pos ⟨i,hi,hb⟩,least_eq hi hb hj]
theorem netOk_0 {n:Net} (h1:¬bad1 n) (h2:∀j,j < n.pieces.length→¬bad2 n j) (h3:∀j,j < n.joints.length→¬bad3 n j) (h4:∀j,j < n.joints.length→¬bad4 n j) (h5:∀j,j < n.pieces.length→¬bad5 n j):netOk n=⟨0,0⟩:=by
 unfold netOk
 rw [if_neg h1,if_neg (fun ⟨j,a,b⟩=>h2 j a b),if_neg (fun ⟨j,a,b⟩=>h3 j a b),if_neg (fun ⟨j,a,b⟩=>h4 j a b),if_neg (fun ⟨j,a,b⟩=>h5 j a b)]
theorem l1end (A0 A1:Option Addr) (n0 c0 n1 c1:Nat) (x:End) (w:World) (hn:n0≤9223372036854775807):Calls Try.prog 115 #[.agg #[.slice A0 n0 c0,.slice A1 n1 c1],x.v] w (RetB (pv (endP n0 x)) w):=by
 obtain ⟨p,q⟩:=x
 have hB:=(below_alloc w (.cells #[.slice A0 n0 c0,.slice A1 n1 c1] 26)).alloc (by simp) (.cells #[.int .i64 p,.int .i64 q] 102)
 by_cases h1:0≤p∧p≤(n0:Int) - 1
 ·by_cases h2:0≤q∧q≤1
  ·have HN:Hid (pv (endP n0 ⟨p,q⟩)=true):=Lib.hid (pv_true ⟨h1,h2⟩)
   have d1:Hid (decide (0≤p∧p≤(n0:Int) - 1)=true):=Lib.hid (decide_eq_true h1)
   have d2:Hid (decide (0≤q∧q≤1)=true):=Lib.hid (decide_eq_true h2)
   clear h1 h2
   go_enter Try.func115,Try.ntmps115
   go_wp2_with fail
   refine (l1in _ _ _ _).mono ?_
   rintro e w1 ⟨rfl,rfl⟩
   rw [d1.out]
   go_wp2_with fail
   refine (l1in _ _ _ _).mono ?_
   rintro e w1 ⟨rfl,rfl⟩
   rw [d2.out]
   go_wp2
   go_ret
   exact ⟨by rw [HN.out];rfl,hB⟩
  ·have HN:Hid (pv (endP n0 ⟨p,q⟩)=false):=Lib.hid (pv_false (fun h=>h2 h.2))
   have d1:Hid (decide (0≤p∧p≤(n0:Int) - 1)=true):=Lib.hid (decide_eq_true h1)
   have d2:Hid (decide (0≤q∧q≤1)=false):=Lib.hid (decide_eq_false h2)
   clear h1 h2
   go_enter Try.func115,Try.ntmps115
   go_wp2_with fail
   refine (l1in _ _ _ _).mono ?_
   rintro e w1 ⟨rfl,rfl⟩
   rw [d1.out]
   go_wp2_with fail
   refine (l1in _ _ _ _).mono ?_
   rintro e w1 ⟨rfl,rfl⟩
   rw [d2.out]
   go_wp2
   go_ret
   exact ⟨by rw [HN.out];rfl,hB⟩
 ·have HN:Hid (pv (endP n0 ⟨p,q⟩)=false):=Lib.hid (pv_false (fun h=>h1 h.1))
  have d1:Hid (decide (0≤p∧p≤(n0:Int) - 1)=false):=Lib.hid (decide_eq_false h1)
  clear h1
  go_enter Try.func115,Try.ntmps115
  go_wp2_with fail
  refine (l1in _ _ _ _).mono ?_
  rintro e w1 ⟨rfl,rfl⟩
  rw [d1.out]
  go_wp2
  go_ret
  exact ⟨by rw [HN.out];rfl,hB⟩
end Go.Proofs.Ytjccgneimknbpaa.L
namespace Go.Proofs.Ytjccgneimknbpaa.L
open Go.RowKit
theorem uses_snoc (js:List Joint) (e:End) (k:Nat) (x:Joint) (h:js[k]?=some x):uses (js.take (k+1)) e=uses (js.take k) e+usesIn x.ends e:=tot_snoc _ _ _ _ h
theorem usesIn_snoc (es:List End) (e:End) (k:Nat) (x:End) (h:es[k]?=some x):usesIn (es.take (k+1)) e=usesIn (es.take k) e+(if eqv x e=true then 1 else 0):=tot_snoc _ _ _ _ h
theorem uses_le (js:List Joint) (e:End) (k:Nat):uses (js.take k) e≤uses js e:=tot_le _ _ _
theorem usesIn_le (es:List End) (e:End) (k:Nat):usesIn (es.take k) e≤usesIn es e:=tot_le _ _ _
set_option maxRecDepth 100000 in
set_option maxHeartbeats 2000000 in
theorem l1uses {ok:Nat→Prop} (A0 A1:Option Addr) (n0 c0 c1:Nat) (js:List Joint) (x:End) (w:World) (hj:(jointK 102).C w ok A1 js) (hu:Hid (uses js x≤1048576)) :
  Calls Try.prog 112 #[.agg #[.slice A0 n0 c0,.slice A1 js.length c1],x.v] w (RetI (uses js x) w):=by
 have hm:=hj.1
 obtain ⟨p,q⟩:=x
 go_enter Try.func112,Try.ntmps112
 go_wp2
 obtain ⟨W0,hW0,hB0,f0,f1,f2,f3,hs0,hs1⟩:∃W0,W0=(w.alloc (.cells #[.slice A0 n0 c0,.slice A1 js.length c1] 26)).alloc (.cells #[.int .i64 p,.int .i64 q] 102)∧Below w.heap.size w W0 ∧
   W0.cell? ⟨w.heap.size,0,none⟩=some (.slice A0 n0 c0)∧W0.cell? ⟨w.heap.size,1,none⟩=some (.slice A1 js.length c1)∧W0.cell? ⟨w.heap.size+1,0,none⟩=some (.int .i64 p)∧W0.cell? ⟨w.heap.size+1,1,none⟩=some (.int .i64 q) ∧
   w.heap.size < W0.heap.size∧w.heap.size+1 < W0.heap.size:=⟨_,rfl,(below_alloc _ _).alloc (by simp) _,by simp,by simp,by simp,by simp,by simp;omega,by simp⟩
 rw [←hW0]
 clear hW0
 go_loopw [5,13] (fun c i wr=>∃(k cn:Nat),k≤js.length∧i=.int .i64 k∧c=.int .i64 cn∧Hid (cn=uses (js.take k) ⟨p,q⟩)∧Below W0.heap.size W0 wr) (fun _ i _=>js.length - (intOf i).toNat)
 case atStart=>exact ⟨0,0,Nat.zero_le _,rfl,rfl,Lib.hid rfl,Below.refl _ _⟩
 case round =>
  obtain ⟨k,cn,hk,rfl,rfl,HC,hb⟩:=hrel
  have hbw:=hB0.trans (hb.mono hB0.size)
  by_cases hlt:k < js.length
  ·obtain ⟨a0,rfl,y,E,A2,c2,g0,g1,g2,l2,q2⟩:=jointK_at (Kn.C_below hbw hj) k hlt
   obtain ⟨hc,hf⟩:=bcell hb
   have i0:(0:Int)≤(k:Int):=Int.natCast_nonneg _
   have i1:(k:Int) < (js.length:Int):=by omega
   have hm2:=q2.1
   have HU:Hid (uses (js.take (k+1)) ⟨p,q⟩=cn+usesIn y.ends ⟨p,q⟩):=Lib.hid (by rw [uses_snoc _ _ _ _ E.out,HC.out])
   have hcn:cn+usesIn y.ends ⟨p,q⟩≤1048576:=by have h1:=uses_le js ⟨p,q⟩ (k+1);have h2:=HU.out;have h3:=hu.out;omega
   obtain ⟨wo,rfl⟩:∃wo:World,wo=wr:=⟨_,rfl⟩
   go_wp2
   go_loopw [5,20] (fun c i wi=>∃(m cm:Nat),m≤y.ends.length∧i=.int .i64 m∧c=.int .i64 cm∧cm≤1048576∧Hid (cm=cn+usesIn (y.ends.take m) ⟨p,q⟩)∧Below wo.heap.size wo wi) (fun _ i _=>y.ends.length - (intOf i).toNat)
   case atStart=>exact ⟨0,cn,Nat.zero_le _,rfl,rfl,by omega,Lib.hid rfl,below_alloc _ _⟩
   case round =>
    obtain ⟨m,cm,hmk,rfl,rfl,hcm,HM,hbi⟩:=hrel
    obtain ⟨hci,hfi⟩:=bcell (hb.trans (hbi.mono hb.size))
    have hs2:w.heap.size < wr.heap.size:=by have:=hb.size;have:=hbi.size;omega
    have hs3:w.heap.size+1 < wr.heap.size:=by have:=hb.size;have:=hbi.size;omega
    have hs4:wo.heap.size≤wr.heap.size:=hbi.size
    by_cases hlm:m < y.ends.length
    ·obtain ⟨a1,rfl,p1,q1,E1,g3,g4⟩:=endK_at (Kn.C_below hbi q2) m hlm
     have j0:(0:Int)≤(m:Int):=Int.natCast_nonneg _
     have j1:(m:Int) < (y.ends.length:Int):=by omega
     have HU1:Hid (usesIn (y.ends.take (m+1)) ⟨p,q⟩=usesIn (y.ends.take m) ⟨p,q⟩+(if eqv (⟨p1,q1⟩:End) ⟨p,q⟩=true then 1 else 0)):=Lib.hid (usesIn_snoc _ _ _ _ E1.out)
     have hle:Hid (cn+usesIn (y.ends.take (m+1)) ⟨p,q⟩≤1048576):=Lib.hid (by have:=usesIn_le y.ends ⟨p,q⟩ (m+1);omega)
     by_cases he:p1=p
     ·subst he
      by_cases he2:q1=q
      ·subst he2
       have hcm2:cm+1≤1048576:=by have h1:=HU1.out;rw [if_pos (eqv_self _)] at h1;have h2:=hle.out;have h3:=HM.out;omega
       have HN:Hid (cm+1=cn+usesIn (y.ends.take (m+1)) ⟨p1,q1⟩):=Lib.hid (by rw [HU1.out,if_pos (eqv_self _),HM.out];omega)
       go_wp2
       go_roundw
       case rel=>exact ⟨m+1,cm+1,by omega,by go_num,by go_num,hcm2,HN,hbi.trans ((below_alloc _ _).mono hbi.size)⟩
       case measure=>simp [intOf];omega
      ·have HN:Hid (cm=cn+usesIn (y.ends.take (m+1)) ⟨p1,q⟩):=Lib.hid (by rw [HU1.out,if_neg (by rw [eqv_false (by intro h;injection h;exact he2 ‹_›)];simp),HM.out];rfl)
       have hq:(q1 == q)=false:=by simpa using he2
       clear he2
       go_wp2
       go_roundw
       case rel=>exact ⟨m+1,cm,by omega,by go_num,rfl,hcm,HN,hbi.trans ((below_alloc _ _).mono hbi.size)⟩
       case measure=>simp [intOf];omega
     ·have HN:Hid (cm=cn+usesIn (y.ends.take (m+1)) ⟨p,q⟩):=Lib.hid (by rw [HU1.out,if_neg (by rw [eqv_false (by intro h;injection h;exact he ‹_›)];simp),HM.out];rfl)
      have hq:(p1 == p)=false:=by simpa using he
      clear he
      go_wp2
      go_roundw
      case rel=>exact ⟨m+1,cm,by omega,by go_num,rfl,hcm,HN,hbi.trans ((below_alloc _ _).mono hbi.size)⟩
      case measure=>simp [intOf];omega
    ·have hge:y.ends.length≤m:=by omega
     have HN:Hid (cm=uses (js.take (k+1)) ⟨p,q⟩):=Lib.hid (by rw [HU.out,HM.out,List.take_of_length_le hge])
     go_wp2
     go_roundw
     case rel=>exact ⟨k+1,cm,by omega,by go_num,rfl,HN,hb.trans (hbi.mono hb.size)⟩
     case measure=>simp [intOf];omega
  ·have hge:js.length≤k:=by omega
   have HN:Hid (cn=uses js ⟨p,q⟩):=Lib.hid (by rw [HC.out,List.take_of_length_le hge])
   go_wp2
   go_ret
   exact ⟨by rw [←HN.out];rfl,hbw⟩
noncomputable def jcode (n0:Nat) (js:List Joint) (k:Nat) (x:Joint):Int :=
 @ite _ (jointP n0 x) (Classical.propDecidable _) (@ite _ (nameBad js k x) (Classical.propDecidable _) 4 0) 3
theorem jcode_3 {n0:Nat} {js:List Joint} {k:Nat} {x:Joint} (h:¬jointP n0 x):jcode n0 js k x=3:=by unfold jcode;rw [if_neg h]
theorem jcode_4 {n0:Nat} {js:List Joint} {k:Nat} {x:Joint} (h:jointP n0 x) (hb:nameBad js k x):jcode n0 js k x=4:=by unfold jcode;rw [if_pos h,if_pos hb]
theorem jcode_0 {n0:Nat} {js:List Joint} {k:Nat} {x:Joint} (h:jointP n0 x) (hb:¬nameBad js k x):jcode n0 js k x=0:=by unfold jcode;rw [if_pos h,if_neg hb]
theorem str_empty {s:ByteArray} (h:s=⟨#[]⟩):s.toList.isEmpty=true∧(!s.toList.isEmpty)=false:=by
 have:s.toList.isEmpty=true:=by subst h;rw [Go.ByteArray.toList_eq];rfl
 exact ⟨this,by rw [this];rfl⟩
theorem str_full {s:ByteArray} (h:¬s=⟨#[]⟩):s.toList.isEmpty=false∧(!s.toList.isEmpty)=true:=by
 have:s.toList.isEmpty=false:=by
  cases he:s.toList.isEmpty
  ·rfl
  ·rw [Go.ByteArray.toList_eq,List.isEmpty_iff] at he
   exact absurd (WideShapes.bytes_inj (b:=⟨#[]⟩) (by rw [he])) h
 exact ⟨this,by rw [this];rfl⟩
theorem str_beq {a b:ByteArray} (h:a=b):(a.toList == b.toList)=true:=by rw [h];exact beq_self_eq_true _
theorem ends_snoc {n0:Nat} {es:List End} {m:Nat} {e:End} (h:∀j e,j < m→es[j]?=some e→endP n0 e) (hm:es[m]?=some e) (he:endP n0 e):∀j e,j < m+1→es[j]?=some e→endP n0 e:=fun j e' hj hje=>by
 by_cases hjm:j=m
 ·subst hjm
  rw [hm] at hje
  obtain rfl:=Option.some.inj hje
  exact he
 ·exact h j e' (by omega) hje
theorem names_at {js:List Joint} {j:Nat} {y:Joint} (h:js[j]?=some y):(js.map Joint.name)[j]?=some y.name:=by rw [List.getElem?_map,h];rfl
theorem same_snoc {ns:List ByteArray} {m:Nat} {s a:ByteArray} (h:¬sameName ns m s) (hm:ns[m]?=some a) (ha:¬a=s):¬sameName ns (m+1) s:=fun ⟨j,hj,hs⟩=>by
 by_cases hjm:j=m
 ·subst hjm
  rw [hm] at hs
  exact ha (Option.some.inj hs)
 ·exact h ⟨j,by omega,hs⟩
theorem same_zero {ns:List ByteArray} {s:ByteArray}:¬sameName ns 0 s:=fun ⟨j,hj,_⟩=>by omega
set_option maxRecDepth 100000 in
set_option maxHeartbeats 4000000 in
theorem l1joint {ok:Nat→Prop} (A0 A1:Option Addr) (n0 c0 c1:Nat) (js:List Joint) (k:Nat) (x:Joint) (w:World) (hj:(jointK 102).C w ok A1 js) (hx:js[k]?=some x) (hn:n0≤9223372036854775807) (hfit:Hid (∀j∈js,j.fit)) :
  Calls Try.prog 111 #[.agg #[.slice A0 n0 c0,.slice A1 js.length c1],.int .i64 k] w (RetI (jcode n0 js k x) w):=by
 have hm:=hj.1
 have hlt:=(List.getElem?_eq_some_iff.1 hx).1
 obtain ⟨a0,rfl,y,E,A2,c2,g0,g1,g2,l2,q2⟩:=jointK_at hj k hlt
 obtain rfl:y=x:=Option.some.inj (E.out.symm.trans hx)
 clear hx
 have hbk:=World.block_lt_of_cell? w _ g0
 have i0:(0:Int)≤(k:Int):=Int.natCast_nonneg _
 have i1:(k:Int) < (js.length:Int):=by omega
 have hm2:=q2.1
 have hys:y.name.size≤9223372036854775807:=hfit.out _ (mem_of_get E.out)
 by_cases c1:1≤y.kind∧y.kind≤4
 rotate_left
 ·have HN:Hid (jcode n0 js k y=3):=Lib.hid (jcode_3 (fun h=>c1 h.1))
  have d1:Hid (decide (1≤y.kind∧y.kind≤4)=false):=Lib.hid (decide_eq_false c1)
  clear c1
  go_enter Try.func111,Try.ntmps111
  go_wp2_with fail
  refine (l1in _ _ _ _).mono ?_
  rintro e w1 ⟨rfl,rfl⟩
  rw [d1.out]
  go_wp2
  go_ret
  exact ⟨by rw [HN.out];rfl,(below_alloc _ _).alloc (by simp) _⟩
 have d1:Hid (decide (1≤y.kind∧y.kind≤4)=true):=Lib.hid (decide_eq_true c1)
 have C1:=Lib.hid c1
 clear c1
 by_cases c2:(y.ends.length:Int)=y.kind
 rotate_left
 ·have HN:Hid (jcode n0 js k y=3):=Lib.hid (jcode_3 (fun h=>c2 h.2.1))
  have d2:((y.ends.length:Int) != y.kind)=true:=int_ne c2
  clear c2
  go_enter Try.func111,Try.ntmps111
  go_wp2_with fail
  refine (l1in _ _ _ _).mono ?_
  rintro e w1 ⟨rfl,rfl⟩
  rw [d1.out]
  go_wp2
  go_ret
  exact ⟨by rw [HN.out];rfl,(below_alloc _ _).alloc (by simp) _⟩
 have d2:((y.ends.length:Int) != y.kind)=false:=by rw [c2];simp
 have C2:=Lib.hid c2
 clear c2
 go_enter Try.func111,Try.ntmps111
 go_wp2_with fail
 refine (l1in _ _ _ _).mono ?_
 rintro e w1 ⟨rfl,rfl⟩
 rw [d1.out]
 go_wp2
 obtain ⟨W0,hW0,hB0,f0,f1,f2,f3,f4,hs0,hs1⟩:∃W0,W0=(w.alloc (.cells #[.slice A0 n0 c0,.slice (some a0) js.length c1] 26)).alloc (.cells #[.int .i64 y.kind,.string y.name,.slice A2 y.ends.length c2] 97)∧Below w.heap.size w W0 ∧
   W0.cell? ⟨w.heap.size,0,none⟩=some (.slice A0 n0 c0)∧W0.cell? ⟨w.heap.size,1,none⟩=some (.slice (some a0) js.length c1)∧W0.cell? ⟨w.heap.size+1,0,none⟩=some (.int .i64 y.kind)∧W0.cell? ⟨w.heap.size+1,1,none⟩=some (.string y.name) ∧
   W0.cell? ⟨w.heap.size+1,2,none⟩=some (.slice A2 y.ends.length c2)∧w.heap.size < W0.heap.size∧w.heap.size+1 < W0.heap.size:=⟨_,rfl,(below_alloc _ _).alloc (by simp) _,by simp,by simp,by simp,by simp,by simp,by simp;omega,by simp⟩
 rw [←hW0]
 clear hW0
 go_loopw [29] (fun i wr=>∃m:Nat,m≤y.ends.length∧i=.int .i64 m∧Hid (∀j e,j < m→y.ends[j]?=some e→endP n0 e)∧Below W0.heap.size W0 wr) (fun i _=>y.ends.length - (intOf i).toNat)
 case atStart=>exact ⟨0,Nat.zero_le _,rfl,Lib.hid (fun j e h=>absurd h (by omega)),Below.refl _ _⟩
 case round =>
  obtain ⟨m,hmk,rfl,HM,hb⟩:=hrel
  obtain ⟨hc,hf⟩:=bcell hb
  have hs2:w.heap.size < wr.heap.size:=by have:=hb.size;omega
  have hs3:w.heap.size+1 < wr.heap.size:=by have:=hb.size;omega
  have hbw:=hB0.trans (hb.mono hB0.size)
  by_cases hlm:m < y.ends.length
  ·obtain ⟨a1,rfl,p1,q1,E1,g3,g4⟩:=endK_at (Kn.C_below hbw q2) m hlm
   have j0:(0:Int)≤(m:Int):=Int.natCast_nonneg _
   have j1:(m:Int) < (y.ends.length:Int):=by omega
   by_cases he:endP n0 ⟨p1,q1⟩
   ·have HE:Hid (pv (endP n0 ⟨p1,q1⟩)=true):=Lib.hid (pv_true he)
    have HN:=Lib.hid (ends_snoc HM.out E1.out he)
    clear he
    go_wp2_with fail
    refine (l1end _ _ _ _ _ _ ⟨p1,q1⟩ _ hn).mono ?_
    rintro e w1 ⟨rfl,hb1⟩
    rw [HE.out]
    go_wp2
    go_roundw
    case rel=>exact ⟨m+1,by omega,by go_num,HN,hb.trans (((below_alloc _ _).trans (hb1.mono (by simp))).mono hb.size)⟩
    case measure=>simp [intOf];omega
   ·have HE:Hid (pv (endP n0 ⟨p1,q1⟩)=false):=Lib.hid (pv_false he)
    have HN:Hid (jcode n0 js k y=3):=Lib.hid (jcode_3 (fun h=>he (h.2.2 _ (mem_of_get E1.out))))
    clear he
    go_wp2_with fail
    refine (l1end _ _ _ _ _ _ ⟨p1,q1⟩ _ hn).mono ?_
    rintro e w1 ⟨rfl,hb1⟩
    rw [HE.out]
    go_wp2
    go_ret
    exact ⟨by rw [HN.out];rfl,hbw.trans (((below_alloc _ _).trans (hb1.mono (by simp))).mono hbw.size)⟩
  ·have hge:y.ends.length≤m:=by omega
   have HJ:Hid (jointP n0 y):=Lib.hid ⟨C1.out,C2.out,fun e he=>by
    obtain ⟨j,hj⟩:=List.mem_iff_getElem?.1 he
    exact HM.out j e (by have:=(List.getElem?_eq_some_iff.1 hj).1;omega) hj⟩
   by_cases c3:y.kind < 3
   ·by_cases c4:y.name=⟨#[]⟩
    ·have HN:Hid (jcode n0 js k y=0):=Lib.hid (jcode_0 HJ.out (fun h=>by rcases h with h | h;exact h.2 c4;omega))
     obtain ⟨d4,d5⟩:=str_empty c4
     clear c4
     go_wp2
     go_ret
     exact ⟨by rw [HN.out];rfl,hbw⟩
    ·have HN:Hid (jcode n0 js k y=4):=Lib.hid (jcode_4 HJ.out (.inl ⟨c3,c4⟩))
     obtain ⟨d4,d5⟩:=str_full c4
     clear c4
     go_wp2
     go_ret
     exact ⟨by rw [HN.out];rfl,hbw⟩
   ·have c3':3≤y.kind:=by omega
    by_cases c4:nameP y.name
    rotate_left
    ·have HN:Hid (jcode n0 js k y=4):=Lib.hid (jcode_4 HJ.out (.inr ⟨c3',.inl c4⟩))
     have HE:Hid (pv (nameP y.name)=false):=Lib.hid (pv_false c4)
     clear c4
     go_wp2_with fail
     refine (l1name _ _ hys).mono ?_
     rintro e w1 ⟨rfl,rfl⟩
     rw [HE.out]
     go_wp2
     go_ret
     exact ⟨by rw [HN.out];rfl,hbw⟩
    have HE:Hid (pv (nameP y.name)=true):=Lib.hid (pv_true c4)
    have C4:=Lib.hid c4
    clear c4
    go_wp2_with fail
    refine (l1name _ _ hys).mono ?_
    rintro e w1 ⟨rfl,rfl⟩
    rw [HE.out]
    go_wp2
    go_loopw [8] (fun i wi=>∃m:Nat,m≤k∧i=.int .i64 m∧Hid (¬sameName (js.map Joint.name) m y.name)∧Below wr.heap.size wr wi) (fun i _=>k - (intOf i).toNat)
    case atStart=>exact ⟨0,Nat.zero_le _,rfl,Lib.hid same_zero,Below.refl _ _⟩
    case round =>
     obtain ⟨m2,hmk2,rfl,HM2,hbi⟩:=hrel
     obtain ⟨hci,hfi⟩:=bcell (hb.trans (hbi.mono hb.size))
     have hs4:w.heap.size < wr.heap.size:=by have:=hbi.size;omega
     have hbw2:=hbw.trans (hbi.mono hbw.size)
     by_cases hlm2:m2 < k
     ·obtain ⟨a1,ha1,z,E2,A3,c3,g3,g4,g5,l5,q5⟩:=jointK_at (Kn.C_below hbw2 hj) m2 (by omega)
      obtain rfl:=Option.some.inj ha1
      have j0:(0:Int)≤(m2:Int):=Int.natCast_nonneg _
      have j1:(m2:Int) < (js.length:Int):=by omega
      have j2:(m2:Int) < (k:Int):=by omega
      by_cases he:z.name=y.name
      ·have HN:Hid (jcode n0 js k y=4):=Lib.hid (jcode_4 HJ.out (.inr ⟨c3',.inr ⟨m2,hlm2,by rw [names_at E2.out,he]⟩⟩))
       have HE:=str_beq he
       clear he
       go_wp2
       go_quiet (fail)
       go_wp2
       go_ret
       exact ⟨by rw [HN.out];rfl,below_drewN hbw2 _⟩
      ·have HN:=Lib.hid (same_snoc HM2.out (names_at E2.out) he)
       have HE:=str_ne he
       clear he
       go_wp2
       go_quiet (fail)
       go_wp2
       go_roundw
       case rel=>exact ⟨m2+1,by omega,by go_num,HN,below_drewN hbi _⟩
       case measure=>simp [intOf];omega
     ·have hge2:k≤m2:=by omega
      have HN:Hid (jcode n0 js k y=0):=Lib.hid (jcode_0 HJ.out (fun h=>by
       rcases h with h | ⟨_,h | ⟨j,hj,hs⟩⟩
       ·omega
       ·exact h C4.out
       ·exact HM2.out ⟨j,by omega,hs⟩))
      go_wp2
      go_ret
      exact ⟨by rw [HN.out];rfl,hbw2⟩
end Go.Proofs.Ytjccgneimknbpaa.L
namespace Go.Proofs.Ytjccgneimknbpaa.L
open Go.RowKit
theorem none_snoc {P:Nat→Prop} {k:Nat} (h:∀j,j < k→¬P j) (hk:¬P k):∀j,j < k+1→¬P j:=fun j hj=>by
 by_cases e:j=k
 ·rw [e];exact hk
 ·exact h j (by omega)
theorem not_bad2 {n:Net} {k:Nat} {p:Piece} (h:n.pieces[k]?=some p) (hp:pieceP p) (hd:¬sameName (n.pieces.map Piece.name) k p.name):¬bad2 n k:=fun ⟨q,hq,hb⟩=>by
 rw [h] at hq
 obtain rfl:=Option.some.inj hq
 rcases hb with hb | hb
 ·exact hb hp
 ·exact hd hb
theorem pnames_at {ps:List Piece} {j:Nat} {y:Piece} (h:ps[j]?=some y):(ps.map Piece.name)[j]?=some y.name:=by rw [List.getElem?_map,h];rfl
theorem jcode_bad3 {n:Net} {k:Nat} {x:Joint} (h:n.joints[k]?=some x):(jcode n.pieces.length n.joints k x=3∧bad3 n k)∨(¬jcode n.pieces.length n.joints k x=3∧¬bad3 n k):=by
 by_cases hp:jointP n.pieces.length x
 ·refine .inr ⟨?_,fun ⟨y,hy,hb⟩=>?_⟩
  ·by_cases hb:nameBad n.joints k x
   ·rw [jcode_4 hp hb];omega
   ·rw [jcode_0 hp hb];omega
  ·rw [h] at hy
   obtain rfl:=Option.some.inj hy
   exact hb hp
 ·exact .inl ⟨jcode_3 hp,x,h,hp⟩
theorem jcode_bad4 {n:Net} {k:Nat} {x:Joint} (h:n.joints[k]?=some x) (h3:¬bad3 n k):(jcode n.pieces.length n.joints k x=4∧bad4 n k)∨(¬jcode n.pieces.length n.joints k x=4∧¬bad4 n k):=by
 have hp:jointP n.pieces.length x:=Classical.byContradiction fun hp=>h3 ⟨x,h,hp⟩
 by_cases hb:nameBad n.joints k x
 ·exact .inl ⟨jcode_4 hp hb,x,h,hb⟩
 ·refine .inr ⟨by rw [jcode_0 hp hb];omega,fun ⟨y,hy,hb'⟩=>?_⟩
  rw [h] at hy
  obtain rfl:=Option.some.inj hy
  exact hb hb'
set_option maxRecDepth 100000 in
set_option maxHeartbeats 8000000 in
theorem specNetOk {ok:Nat→Prop} (n:Net) (A0 A1:Option Addr) (c0 c1:Nat) (w:World) (hp:pieceK.C w ok A0 n.pieces) (hj:(jointK 102).C w ok A1 n.joints) (hfit:Hid n.fit) (hu:Hid (∀e,uses n.joints e≤1048576)) :
  Calls Try.prog 106 #[.agg #[.slice A0 n.pieces.length c0,.slice A1 n.joints.length c1]] w (RetV (netOk n).v w):=by
 have hm0:=hp.1
 have hm1:=hj.1
 by_cases b1:n.pieces.length=0
 ·have d1:((n.pieces.length:Int) == 0)=true:=by rw [beq_iff_eq];omega
  have HN:Hid (netOk n=⟨1,0⟩):=Lib.hid (netOk_1 (.inl b1))
  clear b1
  go_enter Try.func106,Try.ntmps106
  go_wp2
  exact bodyPost_ret (v:=.agg #[.int .i64 1,.int .i64 0]) (by simp [results,Try.results106,go_sem]) rfl ⟨by rw [HN.out],(below_alloc _ _).alloc (by simp) _⟩
 have d1:((n.pieces.length:Int) == 0)=false:=by rw [beq_eq_false_iff_ne];omega
 by_cases b2:100 < n.pieces.length
 ·have HN:Hid (netOk n=⟨1,0⟩):=Lib.hid (netOk_1 (.inr (.inl b2)))
  go_enter Try.func106,Try.ntmps106
  go_wp2
  exact bodyPost_ret (v:=.agg #[.int .i64 1,.int .i64 0]) (by simp [results,Try.results106,go_sem]) rfl ⟨by rw [HN.out],(below_alloc _ _).alloc (by simp) _⟩
 by_cases b3:120 < n.joints.length
 ·have HN:Hid (netOk n=⟨1,0⟩):=Lib.hid (netOk_1 (.inr (.inr b3)))
  go_enter Try.func106,Try.ntmps106
  go_wp2
  exact bodyPost_ret (v:=.agg #[.int .i64 1,.int .i64 0]) (by simp [results,Try.results106,go_sem]) rfl ⟨by rw [HN.out],(below_alloc _ _).alloc (by simp) _⟩
 have B1:Hid (¬bad1 n):=Lib.hid (fun h=>by rcases h with h | h | h;exact b1 h;exact b2 h;exact b3 h)
 clear b1
 go_enter Try.func106,Try.ntmps106
 go_wp2
 obtain ⟨W0,hW0,hB0,f0,f1,f2,f3,f4,f5,hs0,hs1⟩:∃W0,W0=(w.alloc (.cells #[.slice A0 n.pieces.length c0,.slice A1 n.joints.length c1] 26)).alloc (.cells #[.int .i64 0,.int .i64 0] 112)∧Below w.heap.size w W0 ∧
   W0.cell? ⟨w.heap.size,0,none⟩=some (.slice A0 n.pieces.length c0)∧W0.cell? ⟨w.heap.size,1,none⟩=some (.slice A1 n.joints.length c1)∧W0.cell? ⟨w.heap.size+1,0,none⟩=some (.int .i64 0)∧W0.cell? ⟨w.heap.size+1,1,none⟩=some (.int .i64 0) ∧
   W0.frozen? ⟨w.heap.size+1,0,none⟩=false∧W0.frozen? ⟨w.heap.size+1,1,none⟩=false∧w.heap.size < W0.heap.size∧w.heap.size+1 < W0.heap.size:=⟨_,rfl,(below_alloc _ _).alloc (by simp) _,by simp,by simp,by simp,by simp,by simp,by simp,by simp;omega,by simp⟩
 rw [←hW0]
 clear hW0
 go_loopw [30] (fun i wr=>∃k:Nat,k≤n.pieces.length∧i=.int .i64 k∧Hid (∀j,j < k→¬bad2 n j)∧Below W0.heap.size W0 wr) (fun i _=>n.pieces.length - (intOf i).toNat)
 case atStart=>exact ⟨0,Nat.zero_le _,rfl,Lib.hid (fun j h=>absurd h (by omega)),Below.refl _ _⟩
 case round =>
  obtain ⟨k,hk,rfl,HB2,hb⟩:=hrel
  obtain ⟨hc,hf⟩:=bcell hb
  have hs2:w.heap.size < wr.heap.size:=by have:=hb.size;omega
  have hs3:w.heap.size+1 < wr.heap.size:=by have:=hb.size;omega
  have hbw:=hB0.trans (hb.mono hB0.size)
  obtain ⟨wo,rfl⟩:∃wo:World,wo=wr:=⟨_,rfl⟩
  by_cases hlt:k < n.pieces.length
  ·obtain ⟨a0,rfl,y0,y1,y2,y3,E,g0,g1,g2,g3⟩:=pieceK_at (Kn.C_below hbw hp) k hlt
   have i0:(0:Int)≤(k:Int):=Int.natCast_nonneg _
   have i1:(k:Int) < (n.pieces.length:Int):=by omega
   have hys:y0.size≤9223372036854775807:=hfit.out.1 _ (mem_of_get E.out)
   by_cases q0:nameP y0
   rotate_left
   ·have HN:Hid (netOk n=⟨2,k⟩):=Lib.hid (netOk_2 B1.out hlt ⟨_,E.out,.inl (fun h=>q0 h.1)⟩ HB2.out)
    have D0:Hid (pv (nameP y0)=false):=Lib.hid (pv_false q0)
    clear q0
    go_wp2_with fail
    refine (l1name _ _ hys).mono ?_
    rintro e w1 ⟨rfl,rfl⟩
    rw [D0.out]
    go_wp2
    exact bodyPost_ret (v:=.agg #[.int .i64 2,.int .i64 k]) (by simp [results,Try.results106,go_sem,hc,hs0,hs1,hs2,hs3,f2,f3]) rfl ⟨by rw [HN.out],by repeat' first | exact hbw | (refine Below.alloc ?_ ?_ _) | (refine Below.setCell ?_ ?_ _) | (simp;done) | (simp;omega)⟩
   have D0:Hid (pv (nameP y0)=true):=Lib.hid (pv_true q0)
   by_cases q1:1≤y1∧y1≤10000000
   rotate_left
   ·have HN:Hid (netOk n=⟨2,k⟩):=Lib.hid (netOk_2 B1.out hlt ⟨_,E.out,.inl (fun h=>q1 ⟨h.2.1,h.2.2.1⟩)⟩ HB2.out)
    have D1:Hid (decide (1≤y1∧y1≤10000000)=false):=Lib.hid (decide_eq_false q1)
    clear q1
    go_wp2_with fail
    refine (l1name _ _ hys).mono ?_
    rintro e w1 ⟨rfl,rfl⟩
    rw [D0.out]
    go_wp2_with fail
    refine (l1in _ _ _ _).mono ?_
    rintro e w1 ⟨rfl,rfl⟩
    rw [D1.out]
    go_wp2
    exact bodyPost_ret (v:=.agg #[.int .i64 2,.int .i64 k]) (by simp [results,Try.results106,go_sem,hc,hs0,hs1,hs2,hs3,f2,f3]) rfl ⟨by rw [HN.out],by repeat' first | exact hbw | (refine Below.alloc ?_ ?_ _) | (refine Below.setCell ?_ ?_ _) | (simp;done) | (simp;omega)⟩
   have D1:Hid (decide (1≤y1∧y1≤10000000)=true):=Lib.hid (decide_eq_true q1)
   by_cases q2:1≤y2∧y2≤10000
   rotate_left
   ·have HN:Hid (netOk n=⟨2,k⟩):=Lib.hid (netOk_2 B1.out hlt ⟨_,E.out,.inl (fun h=>q2 ⟨h.2.2.2.1,h.2.2.2.2.1⟩)⟩ HB2.out)
    have D2:Hid (decide (1≤y2∧y2≤10000)=false):=Lib.hid (decide_eq_false q2)
    clear q2
    go_wp2_with fail
    refine (l1name _ _ hys).mono ?_
    rintro e w1 ⟨rfl,rfl⟩
    rw [D0.out]
    go_wp2_with fail
    refine (l1in _ _ _ _).mono ?_
    rintro e w1 ⟨rfl,rfl⟩
    rw [D1.out]
    go_wp2_with fail
    refine (l1in _ _ _ _).mono ?_
    rintro e w1 ⟨rfl,rfl⟩
    rw [D2.out]
    go_wp2
    exact bodyPost_ret (v:=.agg #[.int .i64 2,.int .i64 k]) (by simp [results,Try.results106,go_sem,hc,hs0,hs1,hs2,hs3,f2,f3]) rfl ⟨by rw [HN.out],by repeat' first | exact hbw | (refine Below.alloc ?_ ?_ _) | (refine Below.setCell ?_ ?_ _) | (simp;done) | (simp;omega)⟩
   have D2:Hid (decide (1≤y2∧y2≤10000)=true):=Lib.hid (decide_eq_true q2)
   by_cases q3:1≤y3∧y3≤1000
   rotate_left
   ·have HN:Hid (netOk n=⟨2,k⟩):=Lib.hid (netOk_2 B1.out hlt ⟨_,E.out,.inl (fun h=>q3 ⟨h.2.2.2.2.2.1,h.2.2.2.2.2.2⟩)⟩ HB2.out)
    have D3:Hid (decide (1≤y3∧y3≤1000)=false):=Lib.hid (decide_eq_false q3)
    clear q3
    go_wp2_with fail
    refine (l1name _ _ hys).mono ?_
    rintro e w1 ⟨rfl,rfl⟩
    rw [D0.out]
    go_wp2_with fail
    refine (l1in _ _ _ _).mono ?_
    rintro e w1 ⟨rfl,rfl⟩
    rw [D1.out]
    go_wp2_with fail
    refine (l1in _ _ _ _).mono ?_
    rintro e w1 ⟨rfl,rfl⟩
    rw [D2.out]
    go_wp2_with fail
    refine (l1in _ _ _ _).mono ?_
    rintro e w1 ⟨rfl,rfl⟩
    rw [D3.out]
    go_wp2
    exact bodyPost_ret (v:=.agg #[.int .i64 2,.int .i64 k]) (by simp [results,Try.results106,go_sem,hc,hs0,hs1,hs2,hs3,f2,f3]) rfl ⟨by rw [HN.out],by repeat' first | exact hbw | (refine Below.alloc ?_ ?_ _) | (refine Below.setCell ?_ ?_ _) | (simp;done) | (simp;omega)⟩
   have D3:Hid (decide (1≤y3∧y3≤1000)=true):=Lib.hid (decide_eq_true q3)
   have HP:Hid (pieceP ⟨y0,y1,y2,y3⟩):=Lib.hid ⟨q0,q1.1,q1.2,q2.1,q2.2,q3.1,q3.2⟩
   clear q0 q1 q2 q3
   go_wp2_with fail
   refine (l1name _ _ hys).mono ?_
   rintro e w1 ⟨rfl,rfl⟩
   rw [D0.out]
   go_wp2_with fail
   refine (l1in _ _ _ _).mono ?_
   rintro e w1 ⟨rfl,rfl⟩
   rw [D1.out]
   go_wp2_with fail
   refine (l1in _ _ _ _).mono ?_
   rintro e w1 ⟨rfl,rfl⟩
   rw [D2.out]
   go_wp2_with fail
   refine (l1in _ _ _ _).mono ?_
   rintro e w1 ⟨rfl,rfl⟩
   rw [D3.out]
   go_wp2
   obtain ⟨W1,hW1,hB1,e0,hs4⟩:∃W1,W1=wo.alloc (.cells #[.string y0,.int .i64 y1,.int .i64 y2,.int .i64 y3] 64)∧Below wo.heap.size wo W1∧W1.cell? ⟨wo.heap.size,0,none⟩=some (.string y0)∧wo.heap.size < W1.heap.size:=⟨_,rfl,below_alloc _ _,by simp,by simp⟩
   rw [←hW1]
   clear hW1
   have hb1:=hb.trans (hB1.mono hb.size)
   go_loopw [5] (fun i wr=>∃m:Nat,m≤k∧i=.int .i64 m∧Hid (¬sameName (n.pieces.map Piece.name) m y0)∧Below W1.heap.size W1 wr) (fun i _=>k - (intOf i).toNat)
   case atStart=>exact ⟨0,Nat.zero_le _,rfl,Lib.hid same_zero,Below.refl _ _⟩
   case round =>
    obtain ⟨m,hmk,rfl,HM,hbi⟩:=hrel
    have hbj:=hb1.trans (hbi.mono hb1.size)
    have hbw2:=hB0.trans (hbj.mono hB0.size)
    obtain ⟨hci,hfi⟩:=bcell hbj
    obtain ⟨hcj,hfj⟩:=bcell hbi
    have hs5:w.heap.size < wr.heap.size:=by have:=hbj.size;omega
    have hs6:w.heap.size+1 < wr.heap.size:=by have:=hbj.size;omega
    by_cases hlm:m < k
    ·obtain ⟨a1,ha1,z0,z1,z2,z3,E2,g4,g5,g6,g7⟩:=pieceK_at (Kn.C_below hbw2 hp) m (by omega)
     obtain rfl:=Option.some.inj ha1
     have j0:(0:Int)≤(m:Int):=Int.natCast_nonneg _
     have j1:(m:Int) < (n.pieces.length:Int):=by omega
     have j2:(m:Int) < (k:Int):=by omega
     by_cases he:z0=y0
     ·have HN:Hid (netOk n=⟨2,k⟩):=Lib.hid (netOk_2 B1.out hlt ⟨_,E.out,.inr ⟨m,hlm,by rw [pnames_at E2.out,he]⟩⟩ HB2.out)
      have HE:=str_beq he
      clear he
      go_wp2
      go_quiet (fail)
      go_wp2
      exact bodyPost_ret (v:=.agg #[.int .i64 2,.int .i64 k]) (by simp [results,Try.results106,go_sem,hci,hs0,hs1,hs5,hs6,f2,f3]) rfl ⟨by rw [HN.out],((below_drewN hbw2 _).setCell (by simp) _).setCell (by simp) _⟩
     ·have HN:=Lib.hid (same_snoc HM.out (pnames_at E2.out) he)
      have HE:=str_ne he
      clear he
      go_wp2
      go_quiet (fail)
      go_wp2
      go_roundw
      case rel=>exact ⟨m+1,by omega,by go_num,HN,below_drewN hbi _⟩
      case measure=>simp [intOf];omega
    ·have hge:k≤m:=by omega
     have HN:=Lib.hid (none_snoc HB2.out (not_bad2 E.out HP.out (fun ⟨j,h1,h2⟩=>HM.out ⟨j,by omega,h2⟩)))
     go_wp2
     go_roundw
     case rel=>exact ⟨k+1,by omega,by go_num,HN,hbj⟩
     case measure=>simp [intOf];omega
  ·have hge:n.pieces.length≤k:=by omega
   have HB2':Hid (∀j,j < n.pieces.length→¬bad2 n j):=Lib.hid (fun j h=>HB2.out j (by omega))
   clear HB2
   go_wp2
   obtain ⟨w1,hw1,hb1⟩:∃w1,w1=wo∧Below W0.heap.size W0 w1:=⟨_,rfl,hb⟩
   rw [←hw1]
   clear hw1 hc hf hs2 hs3 hb hbw
   go_loopw [6] (fun i wr=>∃c:Int,(c=3∨c=4∨c=5)∧i=.int .i64 c∧Hid (4≤c→∀j,j < n.joints.length→¬bad3 n j)∧Hid (5≤c→∀j,j < n.joints.length→¬bad4 n j)∧Below W0.heap.size W0 wr) (fun i _=>(5 - intOf i).toNat)
   case atStart=>exact ⟨3,.inl rfl,rfl,Lib.hid (fun h=>absurd h (by omega)),Lib.hid (fun h=>absurd h (by omega)),hb1⟩
   case round =>
    obtain ⟨c,hcc,rfl,H3,H4,hb⟩:=hrel
    obtain ⟨hc,hf⟩:=bcell hb
    have hs2:w.heap.size < wr.heap.size:=by have:=hb.size;omega
    have hs3:w.heap.size+1 < wr.heap.size:=by have:=hb.size;omega
    have hbw:=hB0.trans (hb.mono hB0.size)
    obtain ⟨wo,rfl⟩:∃wo:World,wo=wr:=⟨_,rfl⟩
    rcases hcc with rfl | rfl | rfl
    ·go_wp2
     go_loopw [83] (fun i wr=>∃m:Nat,m≤n.joints.length∧i=.int .i64 m∧Hid (∀j,j < m→¬bad3 n j)∧Below wo.heap.size wo wr) (fun i _=>n.joints.length - (intOf i).toNat)
     case atStart=>exact ⟨0,Nat.zero_le _,rfl,Lib.hid (fun j h=>absurd h (by omega)),Below.refl _ _⟩
     case round =>
      obtain ⟨m,hmk,rfl,HM,hbi⟩:=hrel
      have hbj:=hb.trans (hbi.mono hb.size)
      have hbw2:=hB0.trans (hbj.mono hB0.size)
      obtain ⟨hci,hfi⟩:=bcell hbj
      have hs5:w.heap.size < wr.heap.size:=by have:=hbj.size;omega
      have hs6:w.heap.size+1 < wr.heap.size:=by have:=hbj.size;omega
      by_cases hlm:m < n.joints.length
      ·obtain ⟨x,hx⟩:∃x,n.joints[m]?=some x:=⟨_,List.getElem?_eq_getElem hlm⟩
       have E:=Lib.hid hx
       have j0:(0:Int)≤(m:Int):=Int.natCast_nonneg _
       have j1:(m:Int) < (n.joints.length:Int):=by omega
       rcases jcode_bad3 hx with ⟨h1,h2⟩ | ⟨h1,h2⟩
       ·have HN:Hid (netOk n=⟨3,m⟩):=Lib.hid (netOk_3 B1.out HB2'.out hlm h2 HM.out)
        have HJ:Hid (jcode n.pieces.length n.joints m x=3):=Lib.hid h1
        clear h1 h2 hx
        go_wp2_with fail
        refine (l1joint _ _ _ _ _ _ m x _ (Kn.C_below hbw2 hj) E.out hm0 (Lib.hid hfit.out.2)).mono ?_
        rintro e w2 ⟨rfl,hb2⟩
        rw [HJ.out]
        have hbk:=hbj.trans (hb2.mono hbj.size)
        obtain ⟨hck,hfk⟩:=bcell hbk
        have hs7:w.heap.size+1 < w2.heap.size:=by have:=hbk.size;omega
        go_wp2
        exact bodyPost_ret (v:=.agg #[.int .i64 3,.int .i64 m]) (by simp [results,Try.results106,go_sem,hck,hs0,hs1,hs7,f2,f3]) rfl ⟨by rw [HN.out],by repeat' first | exact hB0.trans (hbk.mono hB0.size) | (refine Below.alloc ?_ ?_ _) | (refine Below.setCell ?_ ?_ _) | (simp;done) | (simp;omega)⟩
       ·have HN:=Lib.hid (none_snoc HM.out h2)
        have HJ:(jcode n.pieces.length n.joints m x == 3)=false:=by rw [beq_eq_false_iff_ne];exact h1
        clear h1 h2 hx
        go_wp2_with fail
        refine (l1joint _ _ _ _ _ _ m x _ (Kn.C_below hbw2 hj) E.out hm0 (Lib.hid hfit.out.2)).mono ?_
        rintro e w2 ⟨rfl,hb2⟩
        go_wp2
        go_roundw
        case rel=>exact ⟨m+1,by omega,by go_num,HN,hbi.trans (hb2.mono hbi.size)⟩
        case measure=>simp [intOf];omega
      ·have hge:n.joints.length≤m:=by omega
       have HN:Hid (∀j,j < n.joints.length→¬bad3 n j):=Lib.hid (fun j h=>HM.out j (by omega))
       go_wp2
       go_roundw
       case rel=>exact ⟨4,.inr (.inl rfl),rfl,Lib.hid (fun _=>HN.out),Lib.hid (fun h=>absurd h (by omega)),hbj⟩
       case measure=>simp [intOf]
    ·have HB3:Hid (∀j,j < n.joints.length→¬bad3 n j):=Lib.hid (H3.out (by omega))
     go_wp2
     go_loopw [83] (fun i wr=>∃m:Nat,m≤n.joints.length∧i=.int .i64 m∧Hid (∀j,j < m→¬bad4 n j)∧Below wo.heap.size wo wr) (fun i _=>n.joints.length - (intOf i).toNat)
     case atStart=>exact ⟨0,Nat.zero_le _,rfl,Lib.hid (fun j h=>absurd h (by omega)),Below.refl _ _⟩
     case round =>
      obtain ⟨m,hmk,rfl,HM,hbi⟩:=hrel
      have hbj:=hb.trans (hbi.mono hb.size)
      have hbw2:=hB0.trans (hbj.mono hB0.size)
      obtain ⟨hci,hfi⟩:=bcell hbj
      have hs5:w.heap.size < wr.heap.size:=by have:=hbj.size;omega
      have hs6:w.heap.size+1 < wr.heap.size:=by have:=hbj.size;omega
      by_cases hlm:m < n.joints.length
      ·obtain ⟨x,hx⟩:∃x,n.joints[m]?=some x:=⟨_,List.getElem?_eq_getElem hlm⟩
       have E:=Lib.hid hx
       have j0:(0:Int)≤(m:Int):=Int.natCast_nonneg _
       have j1:(m:Int) < (n.joints.length:Int):=by omega
       rcases jcode_bad4 hx (HB3.out m hlm) with ⟨h1,h2⟩ | ⟨h1,h2⟩
       ·have HN:Hid (netOk n=⟨4,m⟩):=Lib.hid (netOk_4 B1.out HB2'.out HB3.out hlm h2 HM.out)
        have HJ:Hid (jcode n.pieces.length n.joints m x=4):=Lib.hid h1
        clear h1 h2 hx
        go_wp2_with fail
        refine (l1joint _ _ _ _ _ _ m x _ (Kn.C_below hbw2 hj) E.out hm0 (Lib.hid hfit.out.2)).mono ?_
        rintro e w2 ⟨rfl,hb2⟩
        rw [HJ.out]
        have hbk:=hbj.trans (hb2.mono hbj.size)
        obtain ⟨hck,hfk⟩:=bcell hbk
        have hs7:w.heap.size+1 < w2.heap.size:=by have:=hbk.size;omega
        go_wp2
        exact bodyPost_ret (v:=.agg #[.int .i64 4,.int .i64 m]) (by simp [results,Try.results106,go_sem,hck,hs0,hs1,hs7,f2,f3]) rfl ⟨by rw [HN.out],by repeat' first | exact hB0.trans (hbk.mono hB0.size) | (refine Below.alloc ?_ ?_ _) | (refine Below.setCell ?_ ?_ _) | (simp;done) | (simp;omega)⟩
       ·have HN:=Lib.hid (none_snoc HM.out h2)
        have HJ:(jcode n.pieces.length n.joints m x == 4)=false:=by rw [beq_eq_false_iff_ne];exact h1
        clear h1 h2 hx
        go_wp2_with fail
        refine (l1joint _ _ _ _ _ _ m x _ (Kn.C_below hbw2 hj) E.out hm0 (Lib.hid hfit.out.2)).mono ?_
        rintro e w2 ⟨rfl,hb2⟩
        go_wp2
        go_roundw
        case rel=>exact ⟨m+1,by omega,by go_num,HN,hbi.trans (hb2.mono hbi.size)⟩
        case measure=>simp [intOf];omega
      ·have hge:n.joints.length≤m:=by omega
       have HN:Hid (∀j,j < n.joints.length→¬bad4 n j):=Lib.hid (fun j h=>HM.out j (by omega))
       go_wp2
       go_roundw
       case rel=>exact ⟨5,.inr (.inr rfl),rfl,Lib.hid (fun _=>HB3.out),Lib.hid (fun _=>HN.out),hbj⟩
       case measure=>simp [intOf]
    ·have HB3:Hid (∀j,j < n.joints.length→¬bad3 n j):=Lib.hid (H3.out (by omega))
     have HB4:Hid (∀j,j < n.joints.length→¬bad4 n j):=Lib.hid (H4.out (by omega))
     clear H3 H4
     go_wp2
     go_loopw [98] (fun i wr=>∃k:Nat,k≤n.pieces.length∧i=.int .i64 k∧Hid (∀j,j < k→¬bad5 n j)∧Below W0.heap.size W0 wr) (fun i _=>n.pieces.length - (intOf i).toNat)
     case atStart=>exact ⟨0,Nat.zero_le _,rfl,Lib.hid (fun j h=>absurd h (by omega)),hb⟩
     case round =>
      clear hc hf hs2 hs3 hbw hb
      obtain ⟨k,hk,rfl,HB5,hb⟩:=hrel
      obtain ⟨hc,hf⟩:=bcell hb
      have hs2:w.heap.size < wr.heap.size:=by have:=hb.size;omega
      have hs3:w.heap.size+1 < wr.heap.size:=by have:=hb.size;omega
      have hbw:=hB0.trans (hb.mono hB0.size)
      obtain ⟨wo,rfl⟩:∃wo:World,wo=wr:=⟨_,rfl⟩
      by_cases hlt:k < n.pieces.length
      ·have i0:(0:Int)≤(k:Int):=Int.natCast_nonneg _
       have i1:(k:Int) < (n.pieces.length:Int):=by omega
       go_wp2
       go_loopw [9] (fun i wr=>∃c:Int,(c=0∨c=1∨c=2)∧i=.int .i64 c∧Hid (1≤c→uses n.joints ⟨k,0⟩=1)∧Hid (2≤c→uses n.joints ⟨k,1⟩=1)∧Below W0.heap.size W0 wr) (fun i _=>(2 - intOf i).toNat)
       case atStart=>exact ⟨0,.inl rfl,rfl,Lib.hid (fun h=>absurd h (by omega)),Lib.hid (fun h=>absurd h (by omega)),hb⟩
       case round =>
        clear hc hf hs2 hs3 hbw hb
        obtain ⟨c,hcc,rfl,U0,U1,hb⟩:=hrel
        obtain ⟨hc,hf⟩:=bcell hb
        have hs2:w.heap.size < wr.heap.size:=by have:=hb.size;omega
        have hs3:w.heap.size+1 < wr.heap.size:=by have:=hb.size;omega
        have hbw:=hB0.trans (hb.mono hB0.size)
        rcases hcc with rfl | rfl | rfl
        ·by_cases hu0:uses n.joints ⟨k,0⟩=1
         ·have HU:((uses n.joints ⟨k,0⟩:Int) != 1)=false:=by rw [hu0];rfl
          have HN:=Lib.hid hu0
          clear hu0
          go_wp2_with fail
          refine (l1uses _ _ _ _ _ _ ⟨k,0⟩ _ (Kn.C_below hbw hj) (Lib.hid (hu.out _))).mono ?_
          rintro e w2 ⟨rfl,hb2⟩
          go_wp2
          go_roundw
          case rel=>exact ⟨1,.inr (.inl rfl),rfl,Lib.hid (fun _=>HN.out),Lib.hid (fun h=>absurd h (by omega)),hb.trans (hb2.mono hb.size)⟩
          case measure=>simp [intOf]
         ·have HU:((uses n.joints ⟨k,0⟩:Int) != 1)=true:=by rw [bne_iff_ne];omega
          have HN:Hid (netOk n=⟨5,k⟩):=Lib.hid (netOk_5 B1.out HB2'.out HB3.out HB4.out hlt (.inl hu0) HB5.out)
          clear hu0
          go_wp2_with fail
          refine (l1uses _ _ _ _ _ _ ⟨k,0⟩ _ (Kn.C_below hbw hj) (Lib.hid (hu.out _))).mono ?_
          rintro e w2 ⟨rfl,hb2⟩
          have hbk:=hb.trans (hb2.mono hb.size)
          obtain ⟨hck,hfk⟩:=bcell hbk
          have hs7:w.heap.size+1 < w2.heap.size:=by have:=hbk.size;omega
          go_wp2
          exact bodyPost_ret (v:=.agg #[.int .i64 5,.int .i64 k]) (by simp [results,Try.results106,go_sem,hck,hs0,hs1,hs7,f2,f3]) rfl ⟨by rw [HN.out],by repeat' first | exact hB0.trans (hbk.mono hB0.size) | (refine Below.alloc ?_ ?_ _) | (refine Below.setCell ?_ ?_ _) | (simp;done) | (simp;omega)⟩
        ·by_cases hu1:uses n.joints ⟨k,1⟩=1
         ·have HU:((uses n.joints ⟨k,1⟩:Int) != 1)=false:=by rw [hu1];rfl
          have HN:=Lib.hid hu1
          clear hu1
          go_wp2_with fail
          refine (l1uses _ _ _ _ _ _ ⟨k,1⟩ _ (Kn.C_below hbw hj) (Lib.hid (hu.out _))).mono ?_
          rintro e w2 ⟨rfl,hb2⟩
          go_wp2
          go_roundw
          case rel=>exact ⟨2,.inr (.inr rfl),rfl,Lib.hid (fun _=>U0.out (by omega)),Lib.hid (fun _=>HN.out),hb.trans (hb2.mono hb.size)⟩
          case measure=>simp [intOf]
         ·have HU:((uses n.joints ⟨k,1⟩:Int) != 1)=true:=by rw [bne_iff_ne];omega
          have HN:Hid (netOk n=⟨5,k⟩):=Lib.hid (netOk_5 B1.out HB2'.out HB3.out HB4.out hlt (.inr hu1) HB5.out)
          clear hu1
          go_wp2_with fail
          refine (l1uses _ _ _ _ _ _ ⟨k,1⟩ _ (Kn.C_below hbw hj) (Lib.hid (hu.out _))).mono ?_
          rintro e w2 ⟨rfl,hb2⟩
          have hbk:=hb.trans (hb2.mono hb.size)
          obtain ⟨hck,hfk⟩:=bcell hbk
          have hs7:w.heap.size+1 < w2.heap.size:=by have:=hbk.size;omega
          go_wp2
          exact bodyPost_ret (v:=.agg #[.int .i64 5,.int .i64 k]) (by simp [results,Try.results106,go_sem,hck,hs0,hs1,hs7,f2,f3]) rfl ⟨by rw [HN.out],by repeat' first | exact hB0.trans (hbk.mono hB0.size) | (refine Below.alloc ?_ ?_ _) | (refine Below.setCell ?_ ?_ _) | (simp;done) | (simp;omega)⟩
        ·have HN:=Lib.hid (none_snoc HB5.out (fun h=>h.elim (fun h=>h (U0.out (by omega))) (fun h=>h (U1.out (by omega)))))
         go_wp2
         go_roundw
         case rel=>exact ⟨k+1,by omega,by go_num,HN,hb⟩
         case measure=>simp [intOf];omega
      ·have hge:n.pieces.length≤k:=by omega
       have HN:Hid (netOk n=⟨0,0⟩):=Lib.hid (netOk_0 B1.out HB2'.out HB3.out HB4.out (fun j h=>HB5.out j (by omega)))
       go_wp2
       exact bodyPost_ret (v:=.agg #[.int .i64 0,.int .i64 0]) (by simp [results,Try.results106,go_sem,hc,hs0,hs1,hs2,hs3,f2,f3]) rfl ⟨by rw [HN.out],by repeat' first | exact hbw | (refine Below.alloc ?_ ?_ _) | (refine Below.setCell ?_ ?_ _) | (simp;done) | (simp;omega)⟩
end Go.Proofs.Ytjccgneimknbpaa.L
namespace Go.Proofs.Ytjccgneimknbpaa.L
open Go.RowKit
def signalP (n:Net) (s:Signal):Prop:=nameP s.name∧(0≤s.piece∧s.piece≤(n.pieces.length:Int) - 1)∧(s.way=1∨s.way=-1)∧∃p,n.pieces[s.piece.toNat]?=some p∧1≤s.at_∧s.at_≤p.len - 1
def clash (a b:Signal):Prop:=a.name=b.name∨(a.piece=b.piece∧a.at_=b.at_∧a.way=b.way)
def sbad3 (n:Net) (ss:List Signal) (i:Nat):Prop:=∃s,ss[i]?=some s∧¬signalP n s
def before (ss:List Signal) (i k:Nat):Prop:=∃j a b,j < k∧ss[j]?=some a∧ss[i]?=some b∧clash a b
def sbad4 (ss:List Signal) (i:Nat):Prop:=before ss i i
open Classical in
/-- SignalsOk, as both say it. -/
noncomputable def signalsOk (n:Net) (ss:List Signal):Fault :=
 if ¬netOk n=⟨0,0⟩ then ⟨1,0⟩
 else if 60 < ss.length then ⟨2,0⟩
 else if ∃i,i < ss.length∧sbad3 n ss i then ⟨3,least (sbad3 n ss) ss.length⟩
 else if ∃i,i < ss.length∧sbad4 ss i then ⟨4,least (sbad4 ss) ss.length⟩
 else ⟨0,0⟩
section
variable {n:Net} {ss:List Signal}
theorem signalsOk_1 (h:¬netOk n=⟨0,0⟩):signalsOk n ss=⟨1,0⟩:=by unfold signalsOk;rw [if_pos h]
theorem signalsOk_2 (h:netOk n=⟨0,0⟩) (h2:60 < ss.length):signalsOk n ss=⟨2,0⟩:=by unfold signalsOk;rw [if_neg (fun e=>e h),if_pos h2]
theorem signalsOk_3 {i:Nat} (h:netOk n=⟨0,0⟩) (h2:¬60 < ss.length) (hi:i < ss.length) (hb:sbad3 n ss i) (hj:∀j,j < i→¬sbad3 n ss j):signalsOk n ss=⟨3,i⟩:=by
 unfold signalsOk
 rw [if_neg (fun e=>e h),if_neg h2,if_pos ⟨i,hi,hb⟩,least_eq hi hb hj]
theorem signalsOk_4 {i:Nat} (h:netOk n=⟨0,0⟩) (h2:¬60 < ss.length) (h3:∀j,j < ss.length→¬sbad3 n ss j) (hi:i < ss.length) (hb:sbad4 ss i) (hj:∀j,j < i→¬sbad4 ss j):signalsOk n ss=⟨4,i⟩:=by
 unfold signalsOk
 rw [if_neg (fun e=>e h),if_neg h2,if_neg (fun ⟨j,a,b⟩=>h3 j a b),if_pos ⟨i,hi,hb⟩,least_eq hi hb hj]
theorem signalsOk_0 (h:netOk n=⟨0,0⟩) (h2:¬60 < ss.length) (h3:∀j,j < ss.length→¬sbad3 n ss j) (h4:∀j,j < ss.length→¬sbad4 ss j):signalsOk n ss=⟨0,0⟩:=by
 unfold signalsOk
 rw [if_neg (fun e=>e h),if_neg h2,if_neg (fun ⟨j,a,b⟩=>h3 j a b),if_neg (fun ⟨j,a,b⟩=>h4 j a b)]
theorem before_zero {i:Nat}:¬before ss i 0:=fun ⟨j,_,_,h,_⟩=>by omega
theorem before_snoc {i k:Nat} {a b:Signal} (h:¬before ss i k) (ha:ss[k]?=some a) (hb:ss[i]?=some b) (hc:¬clash a b):¬before ss i (k+1):=by
 rintro ⟨j,a',b',hj,h1,h2,h3⟩
 rw [hb] at h2
 obtain rfl:=Option.some.inj h2
 by_cases e:j=k
 ·subst e
  rw [ha] at h1
  obtain rfl:=Option.some.inj h1
  exact hc h3
 ·exact h ⟨j,a',b,by omega,h1,hb,h3⟩
theorem netOk_code (n:Net):(netOk n).code=0↔netOk n=⟨0,0⟩:=by
 constructor
 ·unfold netOk
  intro h
  split at h
  ·simp at h
  split at h
  ·simp at h
  split at h
  ·simp at h
  split at h
  ·simp at h
  split at h
  ·simp at h
  ·rename_i g1 g2 g3 g4 g5
   rw [if_neg g1,if_neg g2,if_neg g3,if_neg g4,if_neg g5]
 ·intro h
  rw [h]
theorem pieces_of_ok (h:netOk n=⟨0,0⟩):0 < n.pieces.length∧n.pieces.length≤100∧n.joints.length≤120∧∀p∈n.pieces,pieceP p:=by
 unfold netOk at h
 split at h
 ·simp at h
 rename_i g1
 split at h
 ·simp at h
 rename_i g2
 refine ⟨Nat.pos_of_ne_zero (fun e=>g1 (.inl e)),Nat.le_of_not_lt (fun e=>g1 (.inr (.inl e))),Nat.le_of_not_lt (fun e=>g1 (.inr (.inr e))),fun p hp=>Classical.byContradiction fun hb=>?_⟩
 obtain ⟨i,hi⟩:=List.mem_iff_getElem?.1 hp
 exact g2 ⟨i,(List.getElem?_eq_some_iff.1 hi).1,p,hi,.inl hb⟩
end
theorem l1in_q {x a b:Int} {r:Bool} {w:World} (h:decide (a≤x∧x≤b)=r):Calls Try.prog 35 #[.int .i64 x,.int .i64 a,.int .i64 b] w fun e w'=>e=.returned (.bool r)∧w'=w:=by
 subst h
 exact (l1in x a b w).mono fun e w' ⟨h1,h2⟩=>⟨h1,h2.symm⟩
theorem str_eq {a b:ByteArray} (h:a=b):(a.toList == b.toList)=true:=by
 rw [h]
 exact beq_self_eq_true _
theorem int_eqf {a b:Int} (h:¬a=b):(a == b)=false:=by simpa using h
theorem int_eqt {a b:Int} (h:a=b):(a == b)=true:=by simpa using h
set_option maxHeartbeats 1000000 in
theorem l1ok {ok:Nat→Prop} (n:Net) (A0 A1:Option Addr) (c0 c1:Nat) (w:World) (hp:pieceK.C w ok A0 n.pieces) (hj:(jointK 102).C w ok A1 n.joints) (hfit:Hid n.fit) (hu:Hid (∀e,uses n.joints e≤1048576)) :
  Calls Try.prog 90 #[.agg #[.slice A0 n.pieces.length c0,.slice A1 n.joints.length c1]] w (RetB (eqv (netOk n) ⟨0,0⟩) w):=by
 obtain ⟨f,hf⟩:∃f,Hid (netOk n=f):=⟨_,Lib.hid rfl⟩
 by_cases h:netOk n=⟨0,0⟩
 ·have HE:Hid (eqv (netOk n) ⟨0,0⟩=true):=Lib.hid (eqv_true h)
  have HN:=Lib.hid h
  have hk0:(((0:Int)) == 0)=true:=rfl
  clear h
  go_enter Try.func90,Try.ntmps90
  go_wp2_with fail
  refine (specNetOk n A0 A1 c0 c1 _ (Kn.C_below (below_alloc _ _) hp) (Kn.C_below (below_alloc _ _) hj) hfit hu).mono ?_
  rintro e w1 ⟨rfl,hb1⟩
  rw [HN.out]
  go_wp2
  go_ret
  exact ⟨by rw [HE.out];rfl,(((below_alloc _ _).trans (hb1.mono (by simp))).alloc (by have:=hb1.size;simp at this;omega) _)⟩
 ·have HE:Hid (eqv (netOk n) ⟨0,0⟩=false):=Lib.hid (eqv_false h)
  have hk0:((netOk n).code == 0)=false:=int_eqf (fun e=>h ((netOk_code n).1 e))
  clear h
  go_enter Try.func90,Try.ntmps90
  go_wp2_with fail
  refine (specNetOk n A0 A1 c0 c1 _ (Kn.C_below (below_alloc _ _) hp) (Kn.C_below (below_alloc _ _) hj) hfit hu).mono ?_
  rintro e w1 ⟨rfl,hb1⟩
  go_wp2
  go_ret
  exact ⟨by rw [HE.out];rfl,(((below_alloc _ _).trans (hb1.mono (by simp))).alloc (by have:=hb1.size;simp at this;omega) _)⟩
set_option maxHeartbeats 2000000 in
theorem l1before {ok:Nat→Prop} (ss:List Signal) (A0:Option Addr) (c0 i:Nat) (w:World) (hs:signalK.C w ok A0 ss) (hi:i < ss.length):Calls Try.prog 60 #[.slice A0 ss.length c0,.int .i64 i] w (RetB (pv (before ss i i)) w):=by
 have hm:=hs.1
 go_enter Try.func60,Try.ntmps60
 go_wp2
 go_loopw [5] (fun i0 wr=>∃k:Nat,k≤i∧i0=.int .i64 k∧Hid (¬before ss i k)∧Below w.heap.size w wr) (fun i0 _=>i - (intOf i0).toNat)
 case atStart=>exact ⟨0,Nat.zero_le _,rfl,Lib.hid before_zero,Below.refl _ _⟩
 case round =>
  obtain ⟨k,hk,rfl,HB,hb⟩:=hrel
  by_cases hlt:k < i
  ·obtain ⟨a0,rfl,y0,y1,y2,y3,E0,g0,g1,g2,g3⟩:=signalK_at (Kn.C_below hb hs) k (by omega)
   obtain ⟨a1,he,z0,z1,z2,z3,E1,k0,k1,k2,k3⟩:=signalK_at (Kn.C_below hb hs) i hi
   obtain rfl:=Option.some.inj he
   have i0:(0:Int)≤(k:Int):=Int.natCast_nonneg _
   have i1:(k:Int) < (ss.length:Int):=by omega
   have i2:(0:Int)≤(i:Int):=Int.natCast_nonneg _
   have i3:(i:Int) < (ss.length:Int):=by omega
   have i4:(k:Int) < (i:Int):=by omega
   have gb0:=World.block_lt_of_cell? _ _ k0
   have gb0':(a0.add (i*4)).block < wr.heap.size:=gb0
   have hbx:=(hb.alloc hb.size (Obj.cells #[.string y0,.int .i64 y1,.int .i64 y2,.int .i64 y3] 62)).alloc (by have:=hb.size;simp;omega) (Obj.cells #[.string z0,.int .i64 z1,.int .i64 z2,.int .i64 z3] 62)
   by_cases q0:y0=z0
   ·have d0:=str_eq q0
    have HN:Hid (pv (before ss i i)=true):=Lib.hid (pv_true ⟨k,_,_,hlt,E0.out,E1.out,(.inl q0:clash ⟨y0,y1,y2,y3⟩ ⟨z0,z1,z2,z3⟩)⟩)
    clear q0
    go_wp2
    go_ret
    exact ⟨by rw [HN.out];rfl,hbx⟩
   have d0:=str_ne q0
   by_cases q1:y1=z1
   rotate_left
   ·have d1:=int_eqf q1
    have HN:=Lib.hid (before_snoc HB.out E0.out E1.out (fun h=>by rcases h with h | h;exact q0 h;exact q1 h.1))
    clear q0 q1
    go_wp2
    go_roundw
    case rel=>exact ⟨k+1,by omega,by go_num,HN,hbx⟩
    case measure=>simp [intOf];omega
   have d1:=int_eqt q1
   by_cases q2:y2=z2
   rotate_left
   ·have d2:=int_eqf q2
    have HN:=Lib.hid (before_snoc HB.out E0.out E1.out (fun h=>by rcases h with h | h;exact q0 h;exact q2 h.2.1))
    clear q0 q1 q2
    go_wp2
    go_roundw
    case rel=>exact ⟨k+1,by omega,by go_num,HN,hbx⟩
    case measure=>simp [intOf];omega
   have d2:=int_eqt q2
   by_cases q3:y3=z3
   rotate_left
   ·have d3:=int_eqf q3
    have HN:=Lib.hid (before_snoc HB.out E0.out E1.out (fun h=>by rcases h with h | h;exact q0 h;exact q3 h.2.2))
    clear q0 q1 q2 q3
    go_wp2
    go_roundw
    case rel=>exact ⟨k+1,by omega,by go_num,HN,hbx⟩
    case measure=>simp [intOf];omega
   have d3:=int_eqt q3
   have HN:Hid (pv (before ss i i)=true):=Lib.hid (pv_true ⟨k,_,_,hlt,E0.out,E1.out,(.inr ⟨q1,q2,q3⟩:clash ⟨y0,y1,y2,y3⟩ ⟨z0,z1,z2,z3⟩)⟩)
   clear q0 q1 q2 q3
   go_wp2
   go_ret
   exact ⟨by rw [HN.out];rfl,hbx⟩
  ·obtain rfl:k=i:=by omega
   have HN:Hid (pv (before ss k k)=false):=Lib.hid (pv_false HB.out)
   go_wp2
   go_ret
   exact ⟨by rw [HN.out];rfl,hb⟩
end Go.Proofs.Ytjccgneimknbpaa.L
