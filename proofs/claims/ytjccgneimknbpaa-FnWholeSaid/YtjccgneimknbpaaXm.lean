/- The program's search: is it full; where a switch stands in a list; a route that is being driven, in memory. -/
import Derived.Test.YtjccgneimknbpaaXj
import Derived.Lib.LazyBuf
import Derived.Laws.EntriesVeiled
set_option linter.unusedVariables false
set_option linter.unusedSimpArgs false
namespace Go.Proofs.Ytjccgneimknbpaa.L
open Go.RowKit
noncomputable def endSet (es:List End):Value→Option Value:=fun v=>@ite _ (∃e,e∈es∧v=e.v) (Classical.propDecidable _) (some (.bool true)) none
theorem endSet_nil:endSet []=fun _=>none:=by
 funext v
 unfold endSet
 rw [if_neg (fun ⟨s,h,_⟩=>by cases h)]
theorem endSet_at (es:List End) (e:End):(endSet es e.v).getD (.bool false)=.bool (pv (e∈es)):=by
 unfold endSet
 by_cases h:e∈es
 ·rw [if_pos ⟨e,h,rfl⟩,pv_true h]
  rfl
 ·rw [if_neg (fun ⟨t,ht,he⟩=>h (by rw [endv_inj he];exact ht)),pv_false h]
  rfl
theorem endSet_snoc (es:List End) (e:End):upd (endSet es) e.v (.bool true)=endSet (es++[e]):=by
 funext v
 by_cases h:v=e.v
 ·subst h
  rw [upd_same]
  unfold endSet
  rw [if_pos ⟨e,List.mem_append_right _ (List.mem_singleton.2 rfl),rfl⟩]
 ·rw [upd_other _ h]
  unfold endSet
  by_cases h2:∃t,t∈es∧v=t.v
  ·obtain ⟨t,h3,h4⟩:=h2
   rw [if_pos ⟨t,h3,h4⟩,if_pos ⟨t,List.mem_append_left _ h3,h4⟩]
  ·rw [if_neg h2,if_neg (fun ⟨t,h3,h4⟩=>by
    rcases List.mem_append.1 h3 with h3 | h3
    ·exact h2 ⟨t,h3,h4⟩
    ·rw [List.mem_singleton.1 h3] at h4
     exact h h4)]
def LSet (bo bm:Nat) (vf:Value) (b:Nat):Prop:=b=bo∨b=bm∨vf.ownBlock=some b
abbrev lookV (bn bs br bl bo bv bk:Nat):Value:=.func (.func 114) #[] #[.pointer (some ⟨bv,0,none⟩),.pointer (some ⟨bs,0,none⟩),.pointer (some ⟨bo,0,none⟩),.pointer (some ⟨bl,0,none⟩),.pointer (some ⟨bn,0,none⟩),.pointer (some ⟨br,0,none⟩),.pointer (some ⟨bk,0,none⟩)]
structure LS (w:World) (bn bs br bl bo bm bv bk:Nat) (n:Net) (ss:List Signal) (lies:List Lie) (A0 A1 A2 A3:Option Addr) (c0 c1 c2 c3:Nat) (a lv:Int) (v0 v1 v2 v4 v5 v6 v7 vf:Value) (seen:List End) (fl:List Flank):Prop where
 nb:Blk w bn 26 [.slice A0 n.pieces.length c0,.slice A1 n.joints.length c1]
 sb:Blk w bs 27 [.slice A2 ss.length c2]
 rb:Blk w br 44 [v0,v1,v2,.slice A3 lies.length c3,v4,v5,v6,v7]
 lb:Blk w bl 52 [.int .i64 a,.int .i64 lv]
 ob:Blk w bo 42 [vf]
 vb:Blk w bv 169 [.map (some bm)]
 kb:Blk w bk 170 [lookV bn bs br bl bo bv bk]
 mb:EM Try.prog 102 w bm seen.length (endSet seen)
 net:NC 102 w (Out w (LSet bo bm vf)) n A0 A1
 sig:signalK.C w (Out w (LSet bo bm vf)) A2 ss
 lie:lieK.C w (Out w (LSet bo bm vf)) A3 lies
 fn:flankK.Rw 50 w nobody vf fl
theorem Blk.ne {w:World} {g h t t':Nat} {cs cs':List Value} (hg:Blk w g t cs) (hh:Blk w h t' cs') (ht:t≠t'):g≠h:=fun e=>by
 subst e
 unfold Blk at hg hh
 rw [hg] at hh
 injection hh with hh
 injection hh with _ hh _
 exact ht hh
theorem Blk.ne_map {P:Program} {k:TypeId} {w:World} {g b m t:Nat} {cs:List Value} {f:Value→Option Value} (hg:Blk w g t cs) (hm:EM P k w b m f):g≠b:=fun e=>by
 subst e
 obtain ⟨es,clock,hb,_⟩:=hm
 unfold Blk at hg
 rw [hg] at hb
 injection hb with hb
 cases hb
theorem own_ne_map {α:Type} {d:Kn α} {e:Nat} {P:Program} {k:TypeId} {w:World} {b m:Nat} {ok:Nat→Prop} {v:Value} {xs:List α} {f:Value→Option Value} (h:d.Rw e w ok v xs) (hm:EM P k w b m f):¬v.ownBlock=some b:=by
 intro hv
 obtain ⟨inner,ho,_⟩:=h
 obtain ⟨es,clock,hb,_⟩:=hm
 rcases ho.2 with ⟨rfl,_⟩ | ⟨b1,cap,cur,rfl,_,hh,_⟩
 ·simp [Value.ownBlock] at hv
 ·simp only [Value.ownBlock,Option.some.injEq] at hv
  subst hv
  rw [hh] at hb
  injection hb with hb
  cases hb
theorem EM.keep {P:Program} {k:TypeId} {w w1:World} {b m:Nat} {f:Value→Option Value} {S:Nat→Prop} (h:EM P k w b m f) (hk:Keep S w w1) (hb:¬S b):EM P k w1 b m f:=h.move (hk.block b h.lt hb)
section
variable {w w1 w2 wa:World} {bn bs br bl bo bm bv bk:Nat} {n:Net} {ss:List Signal} {lies:List Lie} {A0 A1 A2 A3:Option Addr} {c0 c1 c2 c3:Nat} {a lv:Int} {v0 v1 v2 v4 v5 v6 v7 vf v':Value} {seen:List End} {fl:List Flank}
theorem LS.below (hb:Below w.heap.size w w1) (F:LS w bn bs br bl bo bm bv bk n ss lies A0 A1 A2 A3 c0 c1 c2 c3 a lv v0 v1 v2 v4 v5 v6 v7 vf seen fl):LS w1 bn bs br bl bo bm bv bk n ss lies A0 A1 A2 A3 c0 c1 c2 c3 a lv v0 v1 v2 v4 v5 v6 v7 vf seen fl :=
 ⟨F.nb.below hb F.nb.lt,F.sb.below hb F.sb.lt,F.rb.below hb F.rb.lt,F.lb.below hb F.lb.lt,F.ob.below hb F.ob.lt,F.vb.below hb F.vb.lt,F.kb.below hb F.kb.lt,F.mb.below hb,F.net.keep (Keep.of_below hb) (fun _ _ h=>h),Kn.C_keep (Keep.of_below hb) (fun _ _ h=>h) F.sig,Kn.C_keep (Keep.of_below hb) (fun _ _ h=>h) F.lie,F.fn.below hb⟩
theorem LS.apart (F:LS w bn bs br bl bo bm bv bk n ss lies A0 A1 A2 A3 c0 c1 c2 c3 a lv v0 v1 v2 v4 v5 v6 v7 vf seen fl):¬LSet bo bm vf bn∧¬LSet bo bm vf bs∧¬LSet bo bm vf br∧¬LSet bo bm vf bl∧¬LSet bo bm vf bv∧¬LSet bo bm vf bk:=by
 refine ⟨?_,?_,?_,?_,?_,?_⟩
 ·rintro (h | h | h)
  ·exact F.nb.ne F.ob (by decide) h
  ·exact F.nb.ne_map F.mb h
  ·exact own_not F.fn F.nb (by decide) h
 ·rintro (h | h | h)
  ·exact F.sb.ne F.ob (by decide) h
  ·exact F.sb.ne_map F.mb h
  ·exact own_not F.fn F.sb (by decide) h
 ·rintro (h | h | h)
  ·exact F.rb.ne F.ob (by decide) h
  ·exact F.rb.ne_map F.mb h
  ·exact own_not F.fn F.rb (by decide) h
 ·rintro (h | h | h)
  ·exact F.lb.ne F.ob (by decide) h
  ·exact F.lb.ne_map F.mb h
  ·exact own_not F.fn F.lb (by decide) h
 ·rintro (h | h | h)
  ·exact F.vb.ne F.ob (by decide) h
  ·exact F.vb.ne_map F.mb h
  ·exact own_not F.fn F.vb (by decide) h
 ·rintro (h | h | h)
  ·exact F.kb.ne F.ob (by decide) h
  ·exact F.kb.ne_map F.mb h
  ·exact own_not F.fn F.kb (by decide) h
theorem LSet.next {s:Nat} (h1:Nx vf v' s):∀x,x < s→LSet bo bm v' x→LSet bo bm vf x:=fun x hx hm=>by
 rcases hm with hm | hm | hm
 ·exact .inl hm
 ·exact .inr (.inl hm)
 ·rcases h1 x hm with hm | hm
  ·exact .inr (.inr hm)
  ·omega
theorem LS.new (F:LS w bn bs br bl bo bm bv bk n ss lies A0 A1 A2 A3 c0 c1 c2 c3 a lv v0 v1 v2 v4 v5 v6 v7 vf seen fl) {b:Nat} (hb:w.heap.size≤b):¬LSet bo bm vf b:=fun hm=>by
 have h1:=F.ob.lt
 have h2:=F.mb.lt
 rcases hm with hm | hm | hm
 ·omega
 ·omega
 ·have:=F.fn.lt b hm
  omega
theorem LS.more (F:LS w bn bs br bl bo bm bv bk n ss lies A0 A1 A2 A3 c0 c1 c2 c3 a lv v0 v1 v2 v4 v5 v6 v7 vf seen fl) {e:End} (hg:w.grownBy w1 (some bm)) (hm:EM Try.prog 102 w1 bm (seen.length+1) (endSet (seen++[e]))) :
  LS w1 bn bs br bl bo bm bv bk n ss lies A0 A1 A2 A3 c0 c1 c2 c3 a lv v0 v1 v2 v4 v5 v6 v7 vf (seen++[e]) fl∧Keep (LSet bo bm vf) w w1:=by
 have hk:Keep (LSet bo bm vf) w w1:=(Keep.refl _ _).grown hg (fun k hk _=>.inr (.inl (by first | exact Option.some.inj hk | exact (Option.some.inj hk).symm)))
 obtain ⟨a1,a2,a3,a4,a5,a6⟩:=F.apart
 have hbo:Blk w1 bo 42 [vf]:=(hg.block bo F.ob.lt (fun e=>F.ob.ne_map F.mb (by first | exact Option.some.inj e | exact (Option.some.inj e).symm))).trans F.ob
 refine ⟨⟨F.nb.keep hk a1,F.sb.keep hk a2,F.rb.keep hk a3,F.lb.keep hk a4,hbo,F.vb.keep hk a5,F.kb.keep hk a6,by rw [List.length_append];exact hm,F.net.keep hk (fun _ _ h=>h),Kn.C_keep hk (fun _ _ h=>h) F.sig,Kn.C_keep hk (fun _ _ h=>h) F.lie,?_⟩,hk⟩
 refine Kn.Rw.move (fun k hk=>?_) (fun _ h=>h.elim) F.fn
 exact hg.block k (F.fn.lt k hk) (fun e=>own_ne_map F.fn F.mb (by rw [hk];first | exact e | exact e.symm))
theorem LS.oAt (F:LS w bn bs br bl bo bm bv bk n ss lies A0 A1 A2 A3 c0 c1 c2 c3 a lv v0 v1 v2 v4 v5 v6 v7 vf seen fl) (hb:Below w.heap.size w wa) (hg:wa.grownBy w2 vf.ownBlock):Blk w2 bo 42 [vf] :=
 (hg.block bo (Nat.lt_of_lt_of_le F.ob.lt hb.size) (fun e=>own_not F.fn F.ob (by decide) e.symm)).trans (F.ob.below hb F.ob.lt)
def RetL (bn bs br bl bo bm bv bk:Nat) (n:Net) (ss:List Signal) (lies:List Lie) (A0 A1 A2 A3:Option Addr) (c0 c1 c2 c3:Nat) (a lv:Int) (v0 v1 v2 v4 v5 v6 v7 vf:Value) (st:List End × List Flank) (w:World) (en:Ending) (w':World):Prop :=
 en=.returned (.tuple #[])∧∃vf',LS w' bn bs br bl bo bm bv bk n ss lies A0 A1 A2 A3 c0 c1 c2 c3 a lv v0 v1 v2 v4 v5 v6 v7 vf' st.1 st.2∧Keep (LSet bo bm vf) w w'∧Nx vf vf' w.heap.size
theorem RetL.after {vf1:Value} {st:List End × List Flank} {en:Ending} {w':World} (hk:Keep (LSet bo bm vf) w wa) (h1:Nx vf vf1 w.heap.size) (hR:RetL bn bs br bl bo bm bv bk n ss lies A0 A1 A2 A3 c0 c1 c2 c3 a lv v0 v1 v2 v4 v5 v6 v7 vf1 st wa en w'):RetL bn bs br bl bo bm bv bk n ss lies A0 A1 A2 A3 c0 c1 c2 c3 a lv v0 v1 v2 v4 v5 v6 v7 vf st w en w':=by
 obtain ⟨rfl,vf',F,K,N1⟩:=hR
 exact ⟨rfl,vf',F,hk.trans K (LSet.next h1),h1.trans N1 hk.size⟩
theorem LS.last (F:LS w bn bs br bl bo bm bv bk n ss lies A0 A1 A2 A3 c0 c1 c2 c3 a lv v0 v1 v2 v4 v5 v6 v7 vf seen fl) (hb:Below w.heap.size w wa) (hg:wa.grownBy w2 vf.ownBlock) {e:Flank} (hR:flankK.Rw 50 w2 nobody v' (fl++[e])) (ha:v'.ownBlock=vf.ownBlock∨v'.ownBlock=some wa.heap.size) :
  RetL bn bs br bl bo bm bv bk n ss lies A0 A1 A2 A3 c0 c1 c2 c3 a lv v0 v1 v2 v4 v5 v6 v7 vf (seen,fl++[e]) w (.returned (.tuple #[])) (w2.setCell ⟨bo,0,none⟩ v'):=by
 have hk0:Keep (LSet bo bm vf) w w2:=(Keep.of_below hb).grown hg (fun k hk _=>.inr (.inr hk))
 have hk:Keep (LSet bo bm vf) w (w2.setCell ⟨bo,0,none⟩ v'):=hk0.setCell (fun _=>.inl rfl) v'
 have hnx:Nx vf v' w.heap.size:=(Nx.of ha).mono hb.size
 obtain ⟨a1,a2,a3,a4,a5,a6⟩:=F.apart
 have hbo:=F.oAt hb hg
 have hm2:EM Try.prog 102 (w2.setCell ⟨bo,0,none⟩ v') bm seen.length (endSet seen):=by
  refine F.mb.move ?_
  rw [Below.heap_setCell _ _ _ _ (fun e=>F.ob.ne_map F.mb (by rw [←show bm=bo from e])),hg.block bm (Nat.lt_of_lt_of_le F.mb.lt hb.size) (fun e=>own_ne_map F.fn F.mb e.symm),hb.block bm F.mb.lt]
 have hs:=LSet.next (bo:=bo) (bm:=bm) hnx
 refine ⟨rfl,v',⟨F.nb.keep hk a1,F.sb.keep hk a2,F.rb.keep hk a3,F.lb.keep hk a4,hbo.set_ 0 v',F.vb.keep hk a5,F.kb.keep hk a6,hm2,F.net.keep hk hs,Kn.C_keep hk hs F.sig,Kn.C_keep hk hs F.lie,?_⟩,hk,hnx⟩
 exact Kn.Rw.move (fun k hk=>Below.heap_setCell _ _ _ _ (fun e=>own_not hR hbo (by decide) (by rw [←show k=bo from e];exact hk))) (fun _ h=>h.elim) hR
end
end Go.Proofs.Ytjccgneimknbpaa.L
namespace Go.Proofs.Ytjccgneimknbpaa.L
open Go.RowKit
noncomputable def onTo (n:Net) (ss:List Signal) (lies:List Lie) (a:Int) (m:Nat) (st:List End × List Flank) (es:List End) (i:Nat):List End × List Flank:=(es.take i).foldl (fun s e=>flankF n ss lies a m s e) st
theorem onTo_zero {n:Net} {ss:List Signal} {lies:List Lie} {a:Int} {m:Nat} {st:List End × List Flank} {es:List End}:onTo n ss lies a m st es 0=st:=by simp [onTo]
theorem onTo_succ {n:Net} {ss:List Signal} {lies:List Lie} {a:Int} {m:Nat} {st:List End × List Flank} {es:List End} {i:Nat} {e:End} (h:es[i]?=some e):onTo n ss lies a m st es (i+1)=flankF n ss lies a m (onTo n ss lies a m st es i) e:=by
 unfold onTo
 obtain ⟨hi,rfl⟩:=List.getElem?_eq_some_iff.1 h
 rw [List.take_succ_eq_append_getElem hi,List.foldl_append]
 rfl
theorem onTo_all {n:Net} {ss:List Signal} {lies:List Lie} {a:Int} {m:Nat} {st:List End × List Flank} {x:Joint} {k:Nat} (h:1≤x.kind∧x.kind≤4) (q1:¬x.kind=1) (q3:x.kind=3→k=0) :
  onTo n ss lies a m st (across x k) (across x k).length=if x.kind=3 then flankF n ss lies a m (flankF n ss lies a m st (en x 1)) (en x 2) else flankF n ss lies a m st ((across x k).headD ⟨0,0⟩):=by
 unfold onTo
 rw [List.take_length]
 by_cases h3:x.kind=3
 ·rw [if_pos h3]
  unfold across
  rw [if_neg (by omega),if_pos h3,if_pos (q3 h3)]
  rfl
 ·rw [if_neg h3]
  obtain ⟨e,he⟩:=one_across (k:=k) q1 h3 h
  rw [he.out]
  rfl
theorem onTo_keeps {n:Net} {ss:List Signal} {lies:List Lie} {a:Int} {m B:Nat} (hg:Good n) {es:List End} (hes:∀e∈es,endP n.pieces.length e) {st:List End × List Flank} (h1:st.1.Nodup) (h2:∀x∈st.1,endP n.pieces.length x) (h3:st.2.length≤B+st.1.length):∀i,
  (onTo n ss lies a m st es i).1.Nodup∧(∀x∈(onTo n ss lies a m st es i).1,endP n.pieces.length x)∧st.1.length≤(onTo n ss lies a m st es i).1.length∧(onTo n ss lies a m st es i).2.length≤B+(onTo n ss lies a m st es i).1.length
 | 0=>by rw [onTo_zero];exact ⟨h1,h2,Nat.le_refl _,h3⟩
 | i+1=>by
  obtain ⟨a1,a2,a3,a4⟩:=onTo_keeps (ss:=ss) (lies:=lies) (a:=a) (m:=m) hg hes h1 h2 h3 i
  cases he:es[i]? with
  | none =>
   have hl:es.length≤i:=by rw [List.getElem?_eq_none_iff] at he;exact he
   have e1:es.take (i+1)=es.take i:=by rw [List.take_of_length_le (show es.length≤i+1 by omega),List.take_of_length_le hl]
   have e2:onTo n ss lies a m st es (i+1)=onTo n ss lies a m st es i:=by unfold onTo;rw [e1]
   rw [e2]
   exact ⟨a1,a2,a3,a4⟩
  | some e =>
   rw [onTo_succ he]
   have hs:=flankF_seen (ss:=ss) (lies:=lies) (a:=a) hg m (onTo n ss lies a m st es i) e (hes e (mem_of_get he)) a1 a2
   have hl:=flankF_len (n:=n) (ss:=ss) (lies:=lies) (a:=a) m (onTo n ss lies a m st es i) e
   exact ⟨hs.1,hs.2.1,by omega,by omega⟩
theorem zeroBoolE (w:World):(zeroValue 4).run Try.prog w=.ok (.bool false) w:=by kernel_rfl
set_option maxRecDepth 100000 in
set_option maxHeartbeats 16000000 in
theorem implLook {n:Net} {ss:List Signal} {lies:List Lie} {A0 A1 A2 A3:Option Addr} {c0 c1 c2 c3:Nat} {a lv:Int} {v0 v1 v2 v4 v5 v6 v7:Value} {bn bs br bl bo bm bv bk:Nat} (hr:Hid (Right n ss)) (hll:lies.length≤1000):∀(m:Nat) (vf:Value) (seen:List End) (fl:List Flank) (e:End) (w:World),LS w bn bs br bl bo bm bv bk n ss lies A0 A1 A2 A3 c0 c1 c2 c3 a lv v0 v1 v2 v4 v5 v6 v7 vf seen fl→Hid (endP n.pieces.length e)→Hid (seen.Nodup∧∀x∈seen,endP n.pieces.length x)→Hid (2*n.pieces.length+1≤m+seen.length)→Hid (fl.length≤50000+seen.length) →
  Calls Try.prog 114 #[e.v,.pointer (some ⟨bv,0,none⟩),.pointer (some ⟨bs,0,none⟩),.pointer (some ⟨bo,0,none⟩),.pointer (some ⟨bl,0,none⟩),.pointer (some ⟨bn,0,none⟩),.pointer (some ⟨br,0,none⟩),.pointer (some ⟨bk,0,none⟩)] w (RetL bn bs br bl bo bm bv bk n ss lies A0 A1 A2 A3 c0 c1 c2 c3 a lv v0 v1 v2 v4 v5 v6 v7 vf (flankF n ss lies a m (seen,fl) e) w):=by
 intro m
 induction m with
 | zero =>
  intro vf seen fl e w F he hsn hm hfl
  have:=ends_bound hsn.out.1 hsn.out.2
  have:=hm.out
  omega
 | succ m ih =>
 have IH:=Lib.hid ih
 clear ih
 intro vf seen fl e w F he hsn hm hfl
 obtain ⟨p,s⟩:=e
 obtain ⟨u,rfl⟩:∃u:Nat,p=u:=⟨p.toNat,by have:=he.out.1.1;simp only at this;omega⟩
 have hu:u < n.pieces.length:=by have:=he.out.1;simp only at this;omega
 have hss:0≤s∧s≤1:=by have:=he.out.2;simp only at this;exact this
 obtain ⟨hs0,hs1⟩:=hss
 have hg:=hr.out.g
 have hpl:=hg.le
 have HG:=Lib.hid hg
 have hsl:seen.length≤200:=by have:=ends_bound hsn.out.1 hsn.out.2;omega
 have hfb:fl.length≤60000:=by have:=hfl.out;omega
 obtain ⟨q0,qi,qz0,qz1,qz2⟩:=info_parts info50
 obtain ⟨Af,cf,rfl,hcf,_⟩:=F.fn.form
 have hnp:=F.net.p.1
 have hnj:=F.net.j.1
 have hns:=F.sig.1
 have hnl:=F.lie.1
 have b63:fl.length+1≤maxLen:=by simp only [maxLen];omega
 have bby:(fl.length+1)*32≤140737488355328:=by omega
 have HF:=Lib.hid F
 obtain ⟨kl,hkey⟩:∃l,keyOf Try.prog 102 (.agg #[.int .i64 u,.int .i64 s])=some l:=keyEnd u s (WalkArith.wf_i64 (by omega)) (WalkArith.wf_i64 (by omega))
 have HKY:=Lib.hid hkey
 obtain ⟨W0,hW,HB0,e0,e1,F0,hsz0⟩:∃W,W=w.alloc (.cells #[.int .i64 u,.int .i64 s] 102)∧Below w.heap.size w W∧W.cell? ⟨w.heap.size,0,none⟩=some (.int .i64 u)∧W.cell? ⟨w.heap.size,1,none⟩=some (.int .i64 s)∧Hid (LS W bn bs br bl bo bm bv bk n ss lies A0 A1 A2 A3 c0 c1 c2 c3 a lv v0 v1 v2 v4 v5 v6 v7 (.slice Af fl.length cf) seen fl)∧w.heap.size < W.heap.size:=⟨_,rfl,below_alloc _ _,by simp,by simp,Lib.hid (F.below (below_alloc _ _)),by simp⟩
 have HE0:Hid (Blk W0 w.heap.size 102 [.int .i64 u,.int .i64 s]):=Lib.hid (by rw [hW];exact Blk.new _ _ _ rfl)
 have kv:=F0.out.vb.cell 0 rfl
 have hkv:bv < W0.heap.size:=F0.out.vb.lt
 have hl:=F0.out.mb.look lawEnd Try.underlying169 (zeroBoolE _) hkey
 rw [show endSet seen (.agg #[.int .i64 u,.int .i64 s])=endSet seen (⟨u,s⟩:End).v from rfl,endSet_at] at hl
 by_cases hin:(⟨u,s⟩:End)∈seen
 ·rw [pv_true hin] at hl
  have HM:=Lib.hid hin
  clear F hg hin hkey
  go_enter Try.func114,Try.ntmps114
  go_upto_region 1 with (fail)
  rw [←hW]
  clear hW
  go_wp2
  go_end0
  exact ⟨rfl,_,by rw [flankF_met HM.out];exact F0.out,Keep.of_below HB0,Nx.refl _ _⟩
 rw [pv_false hin] at hl
 have HNE:=Lib.hid hin
 obtain ⟨w1,hst,hem,hg1⟩:=F0.out.mb.store lawEnd Try.underlying169 hkey (.bool true)
 rw [show upd (endSet seen) (.agg #[.int .i64 u,.int .i64 s]) (.bool true)=upd (endSet seen) (⟨u,s⟩:End).v (.bool true) from rfl,endSet_snoc] at hem
 obtain ⟨F1',K1'⟩:=F0.out.more hg1 hem
 have F1:=Lib.hid F1'
 have HK1:=Lib.hid ((Keep.of_below (S:=LSet bo bm (.slice Af fl.length cf)) HB0).trans K1' (fun _ _ h=>h))
 have HE1:=Lib.hid (HE0.out.keep K1' (HF.out.new (Nat.le_refl _)))
 have r0:=HE1.out.cell 0 rfl
 have r1:=HE1.out.cell 1 rfl
 have hsw:w.heap.size < w1.heap.size:=HE1.out.lt
 have k2:=F1.out.sb.cell 0 rfl
 have hk2:bs < w1.heap.size:=F1.out.sb.lt
 obtain ⟨bb,hbb⟩:∃bb,Hid (backOf ⟨u,s⟩=bb):=⟨_,Lib.hid rfl⟩
 obtain ⟨wy,hwy⟩:∃wy,Hid (1 - 2*s=wy):=⟨_,Lib.hid rfl⟩
 have HWY:Hid ((wy=1∧bb=-1)∨(wy=-1∧bb=1)):=Lib.hid (by
  rw [←hbb.out,←hwy.out]
  unfold backOf
  rcases (show s=0∨s=1 by omega) with rfl | rfl
  ·exact .inl ⟨rfl,rfl⟩
  ·exact .inr ⟨rfl,rfl⟩)
 clear F hg hin hkey hem hg1 F1' K1' HE0 F0
 go_enter Try.func114,Try.ntmps114
 go_upto_region 1 with (fail)
 rw [←hW]
 clear hW
 go_wp2
 clear hl hst kv hkv e0 e1 hsz0
 rw [hwy.out]
 go_loopw [10,31] (fun best i wr=>∃k:Nat,k≤ss.length∧best=.int .i64 (onum (lastTo n ss u bb k))∧i=.int .i64 k∧Below w1.heap.size w1 wr) (fun _ i _=>ss.length - (intOf i).toNat)
 case atStart=>exact ⟨0,Nat.zero_le _,rfl,rfl,Below.refl _ _⟩
 case round =>
 obtain ⟨k,hk,rfl,rfl,hb⟩:=hrel
 obtain ⟨wo,rfl⟩:∃wo:World,wo=wr:=⟨_,rfl⟩
 have z0:=cell_below hb r0
 have z1:=cell_below hb r1
 have z2:=cell_below hb k2
 have hso:w.heap.size < wo.heap.size:=by have:=hb.size;omega
 have hbo:bs < wo.heap.size:=by have:=hb.size;omega
 by_cases hlt:k < ss.length
 ·obtain ⟨ad,rfl,y0,y1,y2,y3,E,g0,g1,g2,g3⟩:=signalK_at (Kn.C_below hb F1.out.sig) k hlt
  have i0:(0:Int)≤(k:Int):=Int.natCast_nonneg _
  have i1:(k:Int) < (ss.length:Int):=by omega
  have HI:=Lib.hid (sig_in hr.out E.out)
  have hb1:=hb.alloc hb.size (Obj.cells #[.string y0,.int .i64 y1,.int .i64 y2,.int .i64 y3] 62)
  have hng:IntKind.i64.wrap (-wy)=bb:=by rcases HWY.out with ⟨h1,h2⟩ | ⟨h1,h2⟩ <;> (rw [wrap_small (by omega) (by omega)];omega)
  by_cases q1:y1=u
  rotate_left
  ·have d0:(y1 == (u:Int))=false:=int_eqf q1
   have HL:Hid (lastTo n ss u bb (k+1)=lastTo n ss u bb k):=Lib.hid (lastTo_not E.out (fun e=>q1 e.1))
   clear q1
   go_wp2
   go_quiet (fail)
   go_wp2
   go_roundw
   case rel=>exact ⟨k+1,by omega,by rw [HL.out],by go_num,below_drewN hb1 _⟩
   case measure=>simp [intOf];omega
  have d0:(y1 == (u:Int))=true:=int_eqt q1
  by_cases q3:y3=bb
  rotate_left
  ·have d1:(y3 == bb)=false:=int_eqf q3
   have HL:Hid (lastTo n ss u bb (k+1)=lastTo n ss u bb k):=Lib.hid (lastTo_not E.out (fun e=>q3 e.2))
   clear q1 q3
   go_wp2
   go_quiet (fail)
   go_wp2
   go_roundw
   case rel=>exact ⟨k+1,by omega,by rw [HL.out],by go_num,below_drewN hb1 _⟩
   case measure=>simp [intOf];omega
  have d1:(y3 == bb)=true:=int_eqt q3
  have HT:Hid (y1=u∧y3=bb):=Lib.hid ⟨q1,q3⟩
  clear q1 q3
  cases hp:lastTo n ss u bb k with
  | none =>
   have HL:Hid (lastTo n ss u bb (k+1)=some k):=Lib.hid (lastTo_one E.out HT.out hp)
   clear hp
   rw [onum_none]
   go_wp2
   go_quiet (fail)
   go_wp2
   go_roundw
   case rel=>exact ⟨k+1,by omega,by rw [HL.out];rfl,by go_num,below_drewN hb1 _⟩
   case measure=>simp [intOf];omega
  | some b =>
   obtain ⟨l1,l2,t,e1,e2,e3⟩:=lastTo_lt hp
   obtain ⟨ad',he',t0,t1,t2,t3,ET,x0,x1,x2,x3⟩:=signalK_at (Kn.C_below hb F1.out.sig) b l2
   obtain rfl:=Option.some.inj he'
   have HJ:=Lib.hid (sig_in hr.out ET.out)
   have b0:(0:Int)≤(b:Int):=Int.natCast_nonneg _
   have b1:(b:Int) < (ss.length:Int):=by omega
   have d5:decide ((b:Int) < 0)=false:=decide_eq_false (by omega)
   obtain ⟨dg,s3,dt,s4,HNew⟩:∃d:Int,IntKind.i64.wrap (y2 - t2)=d∧∃e:Int,IntKind.i64.wrap (d*wy)=e∧Hid (e < 0↔farOf n u t2 bb < farOf n u y2 bb):=by
    have h1:=HI.out
    have h3:=HJ.out
    simp only at h1 h3
    refine ⟨y2 - t2,wrap_small ?_ ?_,(y2 - t2)*wy,wrap_small ?_ ?_,Lib.hid ?_⟩
    all_goals (rcases HWY.out with ⟨hw,hw2⟩ | ⟨hw,hw2⟩ <;> (subst hw hw2;first | omega | (rw [far_fwd,far_fwd];omega) | (rw [far_back,far_back];omega)))
   have HPK:=Lib.hid hp
   have r4:(ad.add (b*4)).block < wo.heap.size:=World.block_lt_of_cell? wo ⟨(ad.add (b*4)).block,(ad.add (b*4)).off+2,none⟩ x2
   clear hp he' e1 e2 e3 x0 x1 x3
   rw [onum_some]
   by_cases q5:dt < 0
   ·have d6:decide (dt < 0)=true:=decide_eq_true q5
    have HL:Hid (lastTo n ss u bb (k+1)=some k):=Lib.hid (lastTo_new E.out HT.out HPK.out ET.out (HNew.out.1 q5))
    clear q5
    go_wp2
    go_quiet (fail)
    go_wp2
    go_roundw
    case rel=>exact ⟨k+1,by omega,by rw [HL.out];rfl,by go_num,below_drewN hb1 _⟩
    case measure=>simp [intOf];omega
   ·have d6:decide (dt < 0)=false:=decide_eq_false q5
    have HL:Hid (lastTo n ss u bb (k+1)=some b):=Lib.hid (lastTo_old E.out HPK.out ET.out (fun e=>q5 (HNew.out.2 e)))
    clear q5
    go_wp2
    go_quiet (fail)
    go_wp2
    go_roundw
    case rel=>exact ⟨k+1,by omega,by rw [HL.out];rfl,by go_num,below_drewN hb1 _⟩
    case measure=>simp [intOf];omega
 obtain rfl:k=ss.length:=by omega
 have FO:=Lib.hid (F1.out.below hb)
 have ko:=FO.out.ob.cell 0 rfl
 have kof:=FO.out.ob.frozen 0
 have hbo2:bo < wo.heap.size:=FO.out.ob.lt
 have kl0:=FO.out.lb.cell 0 rfl
 have hbl:bl < wo.heap.size:=FO.out.lb.lt
 have HKO:=Lib.hid (HK1.out.below hb)
 clear hb k2 r0 r1 HE1 F1 HK1
 cases hp:lastTo n ss u bb ss.length with
 | some b =>
  as_aux_lemma =>
  have b0:(0:Int)≤(b:Int):=Int.natCast_nonneg _
  have HL:Hid (flankF n ss lies a (m+1) (seen,fl) ⟨u,s⟩=(seen++[⟨u,s⟩],fl++[⟨a,2,b,0⟩])):=Lib.hid (flankF_sig HNE.out (by rw [hbb.out];exact hp))
  clear hp
  rw [onum_some]
  go_wp2_with (at_builtin;refine wpList_append_rw _ rfl (.tmp 69) (.tmp 74) 42 rfl 50 q0 _ 32 Try.underlying42 qi qz0 qz1 qz2 rfl (by decide) (.slice Af fl.length cf) fl [⟨a,2,b,0⟩] rfl (FO.out.fn.below (below_alloc _ _)) (fun _ h=>h.elim) (some ⟨wo.heap.size,0,none⟩) 1 1 rfl rfl (Kn.Src.one (flankK_mk _ _ ⟨a,2,b,0⟩) (new_cells _ _ _ rfl)) b63 bby ?_;intro v2 w2 HR2 hg2 hat2;obtain ⟨A9,c9,rfl,hc9⟩:=HR2.form1;have B2:=FO.out.oAt (below_alloc _ _) hg2;have r7:=B2.cell 0 rfl;have r8:=B2.frozen 0;have hhz:bo < w2.heap.size:=B2.lt)
  go_end0
  exact RetL.after (HKO.out) (Nx.refl _ _) (by rw [HL.out];exact FO.out.last (below_alloc _ _) hg2 HR2 hat2)
 | none =>
 rw [onum_none]
 obtain ⟨s',hs'⟩:∃s',Hid (1 - s=s'):=⟨_,Lib.hid rfl⟩
 have HOE:Hid (endP n.pieces.length ⟨u,s'⟩):=Lib.hid (by rw [←hs'.out];exact other_ok he.out)
 obtain ⟨j,k,x,hat,hjk,hx,hP,hjl,hkl⟩:=at_get HG.out HOE.out
 have HA:=Lib.hid hjk
 have HX:=Lib.hid hx
 have HAT:=Lib.hid hat
 have HJP:=Lib.hid hP
 have HLK:=Lib.hid (flankF_look (a:=a) (lies:=lies) (fl:=fl) (m:=m) HNE.out (by rw [hbb.out];exact hp) (by show atJ n ⟨u,1 - s⟩=(j,k);rw [hs'.out];exact hjk) hx)
 have m0:(0:Int)≤(j:Int):=Int.natCast_nonneg _
 have m1:(j:Int) < (n.joints.length:Int):=by omega
 obtain ⟨W2,hW2,HB2,FW,HKW,HEW,x0,x1,hxb⟩:∃W,W=wo.alloc (.cells #[.int .i64 u,.int .i64 (1 - s)] 102)∧Below wo.heap.size wo W∧Hid (LS W bn bs br bl bo bm bv bk n ss lies A0 A1 A2 A3 c0 c1 c2 c3 a lv v0 v1 v2 v4 v5 v6 v7 (.slice Af fl.length cf) (seen++[⟨u,s⟩]) fl)∧Hid (Keep (LSet bo bm (.slice Af fl.length cf)) w W)∧Hid (Blk W wo.heap.size 102 [.int .i64 u,.int .i64 s'])∧W.cell? ⟨wo.heap.size,0,none⟩=some (.int .i64 u)∧W.cell? ⟨wo.heap.size,1,none⟩=some (.int .i64 s')∧wo.heap.size < W.heap.size :=
  ⟨_,rfl,below_alloc _ _,Lib.hid (FO.out.below (below_alloc _ _)),Lib.hid (HKO.out.below (below_alloc _ _)),Lib.hid (by rw [←hs'.out];exact Blk.new _ _ _ rfl),by simp,by rw [←hs'.out];simp,by simp⟩
 have HEN:=Lib.hid (FO.out.new (Nat.le_refl wo.heap.size))
 have t0:=FW.out.nb.cell 0 rfl
 have t1:=FW.out.nb.cell 1 rfl
 have hbn:bn < W2.heap.size:=FW.out.nb.lt
 clear hp hjk hx hat hP ko kof hbo2 kl0 hbl
 go_upto_region 14 with (fail)
 rw [←hW2]
 clear hW2 z0 z1 z2 hso hbo FO HKO
 go_wp2_with fail
 refine (implAt n A0 A1 c0 c1 ⟨u,s'⟩ _ FW.out.net HG HOE).mono ?_
 rintro e w3 ⟨rfl,hb3⟩
 rw [HA.out]
 have F3:=Lib.hid (FW.out.below hb3)
 have HK3:=Lib.hid (HKW.out.below hb3)
 have HE3:=Lib.hid (HEW.out.below hb3 hxb)
 have t2:=cell_below hb3 t0
 have t3:=cell_below hb3 t1
 have hbn3:bn < w3.heap.size:=F3.out.nb.lt
 have xe0:=HE3.out.cell 0 rfl
 have xe1:=HE3.out.cell 1 rfl
 have hxe:wo.heap.size < w3.heap.size:=HE3.out.lt
 have ko:=F3.out.ob.cell 0 rfl
 have kof:=F3.out.ob.frozen 0
 have hbo2:bo < w3.heap.size:=F3.out.ob.lt
 have kl0:=F3.out.lb.cell 0 rfl
 have hbl:bl < w3.heap.size:=F3.out.lb.lt
 obtain ⟨a1,rfl,y,E1,A4,c4,g0,g1,g2,l2,C2⟩:=jointK_at F3.out.net.j j hjl
 have hy:=HAT.out.1.symm.trans E1.out
 injection hy with hy
 subst hy
 have hme:=C2.1
 have HLK2:=HLK.out
 have hxl:(x.ends.length:Int)=x.kind:=HJP.out.2.1
 have hxk:=HJP.out.1
 have HSL:Hid (fl.length≤50000+(seen++[(⟨u,s⟩:End)]).length):=Lib.hid (by rw [List.length_append];have:=hfl.out;omega)
 have HSM:Hid (2*n.pieces.length+1≤m+(seen++[(⟨u,s⟩:End)]).length):=Lib.hid (by rw [List.length_append,List.length_singleton];have:=hm.out;omega)
 have HSN:Hid ((seen++[(⟨u,s⟩:End)]).Nodup∧∀x∈seen++[(⟨u,s⟩:End)],endP n.pieces.length x):=Lib.hid ⟨nodup_snoc hsn.out.1 HNE.out,fun x hx=>by
  rcases List.mem_append.1 hx with hx | hx
  ·exact hsn.out.2 x hx
  ·rw [List.mem_singleton.1 hx]
   exact he.out⟩
 clear C2 t0 t1 x0 x1 hb3 hxb hbn
 by_cases q1:x.kind=1
 ·as_aux_lemma =>
  have d1:(x.kind == 1)=true:=int_eqt q1
  have HL:Hid (flankF n ss lies a (m+1) (seen,fl) ⟨u,s⟩=(seen++[⟨u,s⟩],fl++[⟨a,1,j,0⟩])):=Lib.hid (by rw [HLK2,if_pos q1])
  clear q1 HLK2 hxl hxk
  go_wp2_with (at_builtin;refine wpList_append_rw _ rfl (.tmp 98) (.tmp 103) 42 rfl 50 q0 _ 32 Try.underlying42 qi qz0 qz1 qz2 rfl (by decide) (.slice Af fl.length cf) fl [⟨a,1,j,0⟩] rfl (F3.out.fn.below (below_alloc _ _)) (fun _ h=>h.elim) (some ⟨w3.heap.size,0,none⟩) 1 1 rfl rfl (Kn.Src.one (flankK_mk _ _ ⟨a,1,j,0⟩) (new_cells _ _ _ rfl)) b63 bby ?_;intro v2 w2 HR2 hg2 hat2;obtain ⟨A9,c9,rfl,hc9⟩:=HR2.form1;have B2:=F3.out.oAt (below_alloc _ _) hg2;have r7:=B2.cell 0 rfl;have r8:=B2.frozen 0;have hhz:bo < w2.heap.size:=B2.lt)
  go_end0
  exact RetL.after (HK3.out) (Nx.refl _ _) (by rw [HL.out];exact F3.out.last (below_alloc _ _) hg2 HR2 hat2)
 have d1:(x.kind == 1)=false:=int_eqf q1
 rw [if_neg q1] at HLK2
 by_cases hsw3:x.kind=3∧¬k=0
 ·obtain ⟨q3,hk0⟩:=hsw3
  have d3:(x.kind == 3)=true:=int_eqt q3
  have d4:decide ((0:Int) < (k:Int))=true:=decide_eq_true (by omega)
  have d5:decide (0 < k)=true:=decide_eq_true (by omega)
  have hk3:k < 3:=by omega
  rw [if_pos q3,if_neg hk0] at HLK2
  have k3:=F3.out.rb.cell 3 rfl
  have hbr:br < w3.heap.size:=F3.out.rb.lt
  clear q1 q3 hxl hxk hk0
  by_cases hi:(⟨j,k⟩:Lie)∈lies
  ·have HP:Hid (pv ((⟨j,k⟩:Lie)∈lies)=true):=Lib.hid (pv_true hi)
   have HL:Hid (flankF n ss lies a (m+1) (seen,fl) ⟨u,s⟩=(seen++[⟨u,s⟩],fl++[⟨a,4,j,0⟩])):=Lib.hid (by rw [HLK2,if_pos hi])
   clear hi HLK2
   go_wp2_with fail
   refine (containsLie A3 c3 lies ⟨j,k⟩ _ F3.out.lie).mono ?_
   rintro e w4 ⟨rfl,hb4⟩
   rw [HP.out]
   have F4:=Lib.hid (F3.out.below hb4)
   have HK4:=Lib.hid (HK3.out.below hb4)
   have ko:=F4.out.ob.cell 0 rfl
   have kof:=F4.out.ob.frozen 0
   have hbo2:bo < w4.heap.size:=F4.out.ob.lt
   have kl0:=F4.out.lb.cell 0 rfl
   have hbl:bl < w4.heap.size:=F4.out.lb.lt
   clear hb4
   go_wp2_with (at_builtin;refine wpList_append_rw _ rfl (.tmp 113) (.tmp 118) 42 rfl 50 q0 _ 32 Try.underlying42 qi qz0 qz1 qz2 rfl (by decide) (.slice Af fl.length cf) fl [⟨a,4,j,0⟩] rfl (F4.out.fn.below (below_alloc _ _)) (fun _ h=>h.elim) (some ⟨w4.heap.size,0,none⟩) 1 1 rfl rfl (Kn.Src.one (flankK_mk _ _ ⟨a,4,j,0⟩) (new_cells _ _ _ rfl)) b63 bby ?_;intro v2 w2 HR2 hg2 hat2;obtain ⟨A9,c9,rfl,hc9⟩:=HR2.form1;have B2:=F4.out.oAt (below_alloc _ _) hg2;have r7:=B2.cell 0 rfl;have r8:=B2.frozen 0;have hhz:bo < w2.heap.size:=B2.lt)
   go_end0
   exact RetL.after (HK4.out) (Nx.refl _ _) (by rw [HL.out];exact F4.out.last (below_alloc _ _) hg2 HR2 hat2)
  ·have HP:Hid (pv ((⟨j,k⟩:Lie)∈lies)=false):=Lib.hid (pv_false hi)
   have HL:Hid (flankF n ss lies a (m+1) (seen,fl) ⟨u,s⟩=(seen++[⟨u,s⟩],fl++[⟨a,3,j,3 - k⟩])):=Lib.hid (by rw [HLK2,if_neg hi])
   clear hi HLK2
   go_wp2_with fail
   refine (containsLie A3 c3 lies ⟨j,k⟩ _ F3.out.lie).mono ?_
   rintro e w4 ⟨rfl,hb4⟩
   rw [HP.out]
   have F4:=Lib.hid (F3.out.below hb4)
   have HK4:=Lib.hid (HK3.out.below hb4)
   have ko:=F4.out.ob.cell 0 rfl
   have kof:=F4.out.ob.frozen 0
   have hbo2:bo < w4.heap.size:=F4.out.ob.lt
   have kl0:=F4.out.lb.cell 0 rfl
   have hbl:bl < w4.heap.size:=F4.out.lb.lt
   clear hb4
   go_wp2_with (at_builtin;refine wpList_append_rw _ rfl (.tmp 120) (.tmp 127) 42 rfl 50 q0 _ 32 Try.underlying42 qi qz0 qz1 qz2 rfl (by decide) (.slice Af fl.length cf) fl [⟨a,3,j,3 - k⟩] rfl (F4.out.fn.below (below_alloc _ _)) (fun _ h=>h.elim) (some ⟨w4.heap.size,0,none⟩) 1 1 rfl rfl (Kn.Src.one (flankK_mk _ _ ⟨a,3,j,3 - k⟩) (new_cells _ _ _ rfl)) b63 bby ?_;intro v2 w2 HR2 hg2 hat2;obtain ⟨A9,c9,rfl,hc9⟩:=HR2.form1;have B2:=F4.out.oAt (below_alloc _ _) hg2;have r7:=B2.cell 0 rfl;have r8:=B2.frozen 0;have hhz:bo < w2.heap.size:=B2.lt)
   go_end0
   exact RetL.after (HK4.out) (Nx.refl _ _) (by rw [HL.out];exact F4.out.last (below_alloc _ _) hg2 HR2 hat2)
 have hq3:x.kind=3→k=0:=fun h=>Classical.byContradiction fun hk=>hsw3 ⟨h,hk⟩
 have HL:Hid (flankF n ss lies a (m+1) (seen,fl) ⟨u,s⟩=onTo n ss lies a m (seen++[⟨u,s⟩],fl) (across x k) (across x k).length):=Lib.hid (by
  rw [HLK2,onTo_all hxk q1 hq3]
  by_cases h3:x.kind=3
  ·rw [if_pos h3,if_pos h3,if_pos (hq3 h3)]
  ·rw [if_neg h3,if_neg h3])
 have HXS:Hid (across (jt n (atJ n ⟨u,s'⟩).1) (atJ n ⟨u,s'⟩).2=across x k∧howOf (jt n (atJ n ⟨u,s'⟩).1) (atJ n ⟨u,s'⟩).2=howOf x k):=Lib.hid (by rw [HA.out];simp only;rw [HX.out];exact ⟨rfl,rfl⟩)
 by_cases q3:x.kind=3
 ·have d3:(x.kind == 3)=true:=int_eqt q3
  have d4:decide ((0:Int) < (k:Int))=false:=decide_eq_false (by have:=hq3 q3;omega)
  have d5:decide (0 < k)=false:=decide_eq_false (by have:=hq3 q3;omega)
  clear q1 q3 hsw3 hq3 HLK2 hxl hxk
  go_wp2_with fail
  refine (implOver n A0 (some a1) c0 c1 ⟨u,s'⟩ _ F3.out.net HG HOE).mono ?_
  rintro e w4 hov
  obtain ⟨Al,cl,Bl,dl,rfl,hcl,hAl,hBl,hb4⟩:=hov.to HXS.out.1 HXS.out.2
  have F4:=Lib.hid (F3.out.below hb4)
  have HK4:=Lib.hid (HK3.out.below hb4)
  have HAL:Hid (endK.C w4 (Out w4 (LSet bo bm (.slice Af fl.length cf))) Al (across x k)):=Lib.hid (Kn.C_out (fun b hb _=>F3.out.new hb) hAl)
  have hal:=across_len x k
  clear hov hAl hBl hb4 ko kof hbo2 kl0 hbl t2 t3 hbn3 xe0 xe1 hxe F3 HK3 HE3
  go_wp2
  go_loopw [137] (fun i wr=>∃(i':Nat) (vf':Value),i'≤(across x k).length∧i=.int .i64 i'∧Hid (LS wr bn bs br bl bo bm bv bk n ss lies A0 (some a1) A2 A3 c0 c1 c2 c3 a lv v0 v1 v2 v4 v5 v6 v7 vf' (onTo n ss lies a m (seen++[⟨u,s⟩],fl) (across x k) i').1 (onTo n ss lies a m (seen++[⟨u,s⟩],fl) (across x k) i').2)∧Hid (endK.C wr (Out wr (LSet bo bm vf')) Al (across x k))∧Hid (Keep (LSet bo bm (.slice Af fl.length cf)) w wr)∧Hid (Nx (.slice Af fl.length cf) vf' w.heap.size)) (fun i _=>(across x k).length - (intOf i).toNat)
  case atStart=>exact ⟨0,_,Nat.zero_le _,rfl,Lib.hid (by rw [onTo_zero];exact F4.out),HAL,HK4,Lib.hid (Nx.refl _ _)⟩
  case round =>
  clear F4 HK4 HAL
  obtain ⟨i',vf',hi',rfl,FL,CL,KL,NL⟩:=hrel
  by_cases hlt2:i' < (across x k).length
  ·obtain ⟨a6,rfl,y0,y1,E3,g0,g1⟩:=endK_at CL.out i' hlt2
   have i0:(0:Int)≤(i':Int):=Int.natCast_nonneg _
   have i1:(i':Int) < ((across x k).length:Int):=by omega
   have P3:Hid (endP n.pieces.length ⟨y0,y1⟩):=Lib.hid (across_ok HJP.out hkl (mem_of_get E3.out))
   have kp:=onTo_keeps (ss:=ss) (lies:=lies) (a:=a) (m:=m) (B:=50000) HG.out (fun e he=>across_ok HJP.out hkl he) (st:=(seen++[⟨u,s⟩],fl)) HSN.out.1 HSN.out.2 HSL.out i'
   have SN3:Hid ((onTo n ss lies a m (seen++[⟨u,s⟩],fl) (across x k) i').1.Nodup∧∀x'∈(onTo n ss lies a m (seen++[⟨u,s⟩],fl) (across x k) i').1,endP n.pieces.length x'):=Lib.hid ⟨kp.1,kp.2.1⟩
   have SM3:Hid (2*n.pieces.length+1≤m+(onTo n ss lies a m (seen++[⟨u,s⟩],fl) (across x k) i').1.length):=Lib.hid (by have:=HSM.out;have:=kp.2.2.1;simp only at this;omega)
   have SL3:Hid ((onTo n ss lies a m (seen++[⟨u,s⟩],fl) (across x k) i').2.length≤50000+(onTo n ss lies a m (seen++[⟨u,s⟩],fl) (across x k) i').1.length):=Lib.hid kp.2.2.2
   have kk:=FL.out.kb.cell 0 rfl
   have hkk:bk < wr.heap.size:=FL.out.kb.lt
   have FX:=Lib.hid (FL.out.below (below_alloc wr (.cells #[.int .i64 y0,.int .i64 y1] 102)))
   have KX:=Lib.hid (KL.out.below (below_alloc wr (.cells #[.int .i64 y0,.int .i64 y1] 102)))
   have CX:=Lib.hid (Kn.C_keep (Keep.of_below (S:=LSet bo bm vf') (below_alloc wr (.cells #[.int .i64 y0,.int .i64 y1] 102))) (fun _ _ h=>h) CL.out)
   have HON:=Lib.hid (onTo_succ (n:=n) (ss:=ss) (lies:=lies) (a:=a) (m:=m) (st:=(seen++[⟨u,s⟩],fl)) E3.out)
   clear kp
   go_wp2_with fail
   refine (IH.out _ _ _ ⟨y0,y1⟩ _ FX.out P3 SN3 SM3 SL3).mono ?_
   rintro e w5 hR
   obtain ⟨rfl,vf2,F5,K5,N5⟩:=hR
   have F5':=Lib.hid F5
   have K5':=Lib.hid K5
   have N5':=Lib.hid N5
   clear F5 K5 N5 kk hkk g0 g1
   go_wp2
   go_roundw
   case rel=>exact ⟨i'+1,vf2,by omega,by go_num,Lib.hid (by rw [HON.out];exact F5'.out),Lib.hid (Kn.C_keep K5'.out (LSet.next N5'.out) CX.out),Lib.hid (KX.out.trans K5'.out (LSet.next (NL.out))),Lib.hid (NL.out.trans N5'.out (by have:=KL.out.size;rw [size_alloc];omega))⟩
   case measure=>simp [intOf];omega
  have hie:(across x k).length≤i':=by omega
  have HLN:Hid (onTo n ss lies a m (seen++[⟨u,s⟩],fl) (across x k) i'=flankF n ss lies a (m+1) (seen,fl) ⟨u,s⟩):=Lib.hid (by rw [HL.out];congr 1;omega)
  go_wp2
  go_end0
  exact ⟨rfl,vf',by rw [←HLN.out];exact FL.out,KL.out,NL.out⟩
 ·have d3:(x.kind == 3)=false:=int_eqf q3
  clear q1 q3 hsw3 hq3 HLK2 hxl hxk
  go_wp2_with fail
  refine (implOver n A0 (some a1) c0 c1 ⟨u,s'⟩ _ F3.out.net HG HOE).mono ?_
  rintro e w4 hov
  obtain ⟨Al,cl,Bl,dl,rfl,hcl,hAl,hBl,hb4⟩:=hov.to HXS.out.1 HXS.out.2
  have F4:=Lib.hid (F3.out.below hb4)
  have HK4:=Lib.hid (HK3.out.below hb4)
  have HAL:Hid (endK.C w4 (Out w4 (LSet bo bm (.slice Af fl.length cf))) Al (across x k)):=Lib.hid (Kn.C_out (fun b hb _=>F3.out.new hb) hAl)
  have hal:=across_len x k
  clear hov hAl hBl hb4 ko kof hbo2 kl0 hbl t2 t3 hbn3 xe0 xe1 hxe F3 HK3 HE3
  go_wp2
  go_loopw [137] (fun i wr=>∃(i':Nat) (vf':Value),i'≤(across x k).length∧i=.int .i64 i'∧Hid (LS wr bn bs br bl bo bm bv bk n ss lies A0 (some a1) A2 A3 c0 c1 c2 c3 a lv v0 v1 v2 v4 v5 v6 v7 vf' (onTo n ss lies a m (seen++[⟨u,s⟩],fl) (across x k) i').1 (onTo n ss lies a m (seen++[⟨u,s⟩],fl) (across x k) i').2)∧Hid (endK.C wr (Out wr (LSet bo bm vf')) Al (across x k))∧Hid (Keep (LSet bo bm (.slice Af fl.length cf)) w wr)∧Hid (Nx (.slice Af fl.length cf) vf' w.heap.size)) (fun i _=>(across x k).length - (intOf i).toNat)
  case atStart=>exact ⟨0,_,Nat.zero_le _,rfl,Lib.hid (by rw [onTo_zero];exact F4.out),HAL,HK4,Lib.hid (Nx.refl _ _)⟩
  case round =>
  clear F4 HK4 HAL
  obtain ⟨i',vf',hi',rfl,FL,CL,KL,NL⟩:=hrel
  by_cases hlt2:i' < (across x k).length
  ·obtain ⟨a6,rfl,y0,y1,E3,g0,g1⟩:=endK_at CL.out i' hlt2
   have i0:(0:Int)≤(i':Int):=Int.natCast_nonneg _
   have i1:(i':Int) < ((across x k).length:Int):=by omega
   have P3:Hid (endP n.pieces.length ⟨y0,y1⟩):=Lib.hid (across_ok HJP.out hkl (mem_of_get E3.out))
   have kp:=onTo_keeps (ss:=ss) (lies:=lies) (a:=a) (m:=m) (B:=50000) HG.out (fun e he=>across_ok HJP.out hkl he) (st:=(seen++[⟨u,s⟩],fl)) HSN.out.1 HSN.out.2 HSL.out i'
   have SN3:Hid ((onTo n ss lies a m (seen++[⟨u,s⟩],fl) (across x k) i').1.Nodup∧∀x'∈(onTo n ss lies a m (seen++[⟨u,s⟩],fl) (across x k) i').1,endP n.pieces.length x'):=Lib.hid ⟨kp.1,kp.2.1⟩
   have SM3:Hid (2*n.pieces.length+1≤m+(onTo n ss lies a m (seen++[⟨u,s⟩],fl) (across x k) i').1.length):=Lib.hid (by have:=HSM.out;have:=kp.2.2.1;simp only at this;omega)
   have SL3:Hid ((onTo n ss lies a m (seen++[⟨u,s⟩],fl) (across x k) i').2.length≤50000+(onTo n ss lies a m (seen++[⟨u,s⟩],fl) (across x k) i').1.length):=Lib.hid kp.2.2.2
   have kk:=FL.out.kb.cell 0 rfl
   have hkk:bk < wr.heap.size:=FL.out.kb.lt
   have FX:=Lib.hid (FL.out.below (below_alloc wr (.cells #[.int .i64 y0,.int .i64 y1] 102)))
   have KX:=Lib.hid (KL.out.below (below_alloc wr (.cells #[.int .i64 y0,.int .i64 y1] 102)))
   have CX:=Lib.hid (Kn.C_keep (Keep.of_below (S:=LSet bo bm vf') (below_alloc wr (.cells #[.int .i64 y0,.int .i64 y1] 102))) (fun _ _ h=>h) CL.out)
   have HON:=Lib.hid (onTo_succ (n:=n) (ss:=ss) (lies:=lies) (a:=a) (m:=m) (st:=(seen++[⟨u,s⟩],fl)) E3.out)
   clear kp
   go_wp2_with fail
   refine (IH.out _ _ _ ⟨y0,y1⟩ _ FX.out P3 SN3 SM3 SL3).mono ?_
   rintro e w5 hR
   obtain ⟨rfl,vf2,F5,K5,N5⟩:=hR
   have F5':=Lib.hid F5
   have K5':=Lib.hid K5
   have N5':=Lib.hid N5
   clear F5 K5 N5 kk hkk g0 g1
   go_wp2
   go_roundw
   case rel=>exact ⟨i'+1,vf2,by omega,by go_num,Lib.hid (by rw [HON.out];exact F5'.out),Lib.hid (Kn.C_keep K5'.out (LSet.next N5'.out) CX.out),Lib.hid (KX.out.trans K5'.out (LSet.next (NL.out))),Lib.hid (NL.out.trans N5'.out (by have:=KL.out.size;rw [size_alloc];omega))⟩
   case measure=>simp [intOf];omega
  have hie:(across x k).length≤i':=by omega
  have HLN:Hid (onTo n ss lies a m (seen++[⟨u,s⟩],fl) (across x k) i'=flankF n ss lies a (m+1) (seen,fl) ⟨u,s⟩):=Lib.hid (by rw [HL.out];congr 1;omega)
  go_wp2
  go_end0
  exact ⟨rfl,vf',by rw [←HLN.out];exact FL.out,KL.out,NL.out⟩
end Go.Proofs.Ytjccgneimknbpaa.L
namespace Go.Proofs.Ytjccgneimknbpaa.L
open Go.RowKit
def RetCl {α:Type} (d:Kn α) (e:Nat) (xs:List α) (w:World) (en:Ending) (w':World):Prop :=
 ∃A c,en=.returned (.slice A xs.length c)∧xs.length≤c∧Hid (d.Rw e w' nobody (.slice A xs.length c) xs)∧Hid (∀b,(Value.slice A xs.length c).ownBlock=some b→w.heap.size≤b)∧Below w.heap.size w w'
set_option maxHeartbeats 1000000 in
theorem cloneStep {ok:Nat→Prop} (xs:List Step) (A:Option Addr) (c:Nat) (w:World) (h:stepK.C w ok A xs) (hn:xs.length≤200000) :
  Calls Try.prog 71 #[.slice A xs.length c] w (RetCl stepK 46 xs w):=by
 cases A with
 | none =>
  obtain rfl:xs=[]:=by
   cases xs with
   | nil=>rfl
   | cons a l =>
    obtain ⟨ad,e,_⟩:=h.2 (by simp)
    cases e
  have hk:=fun (w:World) (l c:Nat)=>Lib.run_eql_slice_nil (P:=Try.prog) w 38 46 none l c 0 0 Try.underlying38
  clear h hn
  go_enter Try.func71,Try.ntmps71
  go_wp2
  go_ret
  exact ⟨none,0,rfl,Nat.le_refl _,Lib.hid Kn.Rw.nil,Lib.hid (by simp [Value.ownBlock]),Below.refl _ _⟩
 | some ad =>
  obtain ⟨i0,hi,hz0,hz1,hz2⟩:=info_parts info46
  have m0:([]:List Step).length+xs.length≤maxLen:=by simp only [maxLen,List.length_nil];omega
  have k0:(([]:List Step).length+xs.length)*16≤140737488355328:=by simp only [List.length_nil];omega
  have hk:=fun (w:World) (l c:Nat)=>Lib.run_eql_slice_nil (P:=Try.prog) w 38 46 (some ad) l c 0 0 Try.underlying38
  have S0:Hid (Kn.Src stepK (w.alloc (.cells #[] 46)) nobody (some ad) xs):=Lib.hid (Kn.Src.flat stepK_flat (Kn.C_below (below_alloc w (.cells #[] 46)) h))
  have HE:Hid (stepK.Rw 46 (w.alloc (.cells #[] 46)) nobody (.slice (some ⟨w.heap.size,0,none⟩) 0 0) []):=Lib.hid (Rw_empty (Blk.new w 46 [] rfl))
  clear h
  go_enter Try.func71,Try.ntmps71
  go_wp2_with (at_builtin;refine wpList_append_rw _ rfl (.tmp 5) (.tmp 6) 38 rfl 46 i0 _ 16 Try.underlying38 hi hz0 hz1 hz2 rfl (by decide) (.slice (some ⟨w.heap.size,0,none⟩) 0 0) [] xs rfl HE.out (fun _ h=>h.elim) (some ad) xs.length c rfl rfl S0.out m0 k0 ?_;intro v' w2 HR2 hg2 hat2;rw [List.nil_append] at HR2;obtain ⟨A2,c2,rfl,hc2,_⟩:=HR2.form)
  obtain ⟨hb2,hk2,hs2⟩:=cp_step (Below.refl _ _) hg2
  have hfin:RetCl stepK 46 xs w (.returned (.slice A2 xs.length c2)) w2:=⟨A2,c2,rfl,hc2,Lib.hid HR2,Lib.hid (fun b hb=>by
   rcases hat2 with e | e
   ·rw [hb] at e
    have e:=Option.some.inj e
    simp at e
    omega
   ·rw [hb] at e
    have e:=Option.some.inj e
    simp at e
    omega),hb2⟩
  go_ret
  exact hfin
set_option maxHeartbeats 1000000 in
theorem cloneLie {ok:Nat→Prop} (xs:List Lie) (A:Option Addr) (c:Nat) (w:World) (h:lieK.C w ok A xs) (hn:xs.length≤200000) :
  Calls Try.prog 72 #[.slice A xs.length c] w (RetCl lieK 52 xs w):=by
 cases A with
 | none =>
  obtain rfl:xs=[]:=by
   cases xs with
   | nil=>rfl
   | cons a l =>
    obtain ⟨ad,e,_⟩:=h.2 (by simp)
    cases e
  have hk:=fun (w:World) (l c:Nat)=>Lib.run_eql_slice_nil (P:=Try.prog) w 39 52 none l c 0 0 Try.underlying39
  clear h hn
  go_enter Try.func72,Try.ntmps72
  go_wp2
  go_ret
  exact ⟨none,0,rfl,Nat.le_refl _,Lib.hid Kn.Rw.nil,Lib.hid (by simp [Value.ownBlock]),Below.refl _ _⟩
 | some ad =>
  obtain ⟨i0,hi,hz0,hz1,hz2⟩:=info_parts info52
  have m0:([]:List Lie).length+xs.length≤maxLen:=by simp only [maxLen,List.length_nil];omega
  have k0:(([]:List Lie).length+xs.length)*16≤140737488355328:=by simp only [List.length_nil];omega
  have hk:=fun (w:World) (l c:Nat)=>Lib.run_eql_slice_nil (P:=Try.prog) w 39 52 (some ad) l c 0 0 Try.underlying39
  have S0:Hid (Kn.Src lieK (w.alloc (.cells #[] 52)) nobody (some ad) xs):=Lib.hid (Kn.Src.flat lieK_flat (Kn.C_below (below_alloc w (.cells #[] 52)) h))
  have HE:Hid (lieK.Rw 52 (w.alloc (.cells #[] 52)) nobody (.slice (some ⟨w.heap.size,0,none⟩) 0 0) []):=Lib.hid (Rw_empty (Blk.new w 52 [] rfl))
  clear h
  go_enter Try.func72,Try.ntmps72
  go_wp2_with (at_builtin;refine wpList_append_rw _ rfl (.tmp 5) (.tmp 6) 39 rfl 52 i0 _ 16 Try.underlying39 hi hz0 hz1 hz2 rfl (by decide) (.slice (some ⟨w.heap.size,0,none⟩) 0 0) [] xs rfl HE.out (fun _ h=>h.elim) (some ad) xs.length c rfl rfl S0.out m0 k0 ?_;intro v' w2 HR2 hg2 hat2;rw [List.nil_append] at HR2;obtain ⟨A2,c2,rfl,hc2,_⟩:=HR2.form)
  obtain ⟨hb2,hk2,hs2⟩:=cp_step (Below.refl _ _) hg2
  have hfin:RetCl lieK 52 xs w (.returned (.slice A2 xs.length c2)) w2:=⟨A2,c2,rfl,hc2,Lib.hid HR2,Lib.hid (fun b hb=>by
   rcases hat2 with e | e
   ·rw [hb] at e
    have e:=Option.some.inj e
    simp at e
    omega
   ·rw [hb] at e
    have e:=Option.some.inj e
    simp at e
    omega),hb2⟩
  go_ret
  exact hfin
set_option maxHeartbeats 1000000 in
theorem cloneInt {ok:Nat→Prop} (xs:List Int) (A:Option Addr) (c:Nat) (w:World) (h:Kn.int.C w ok A xs) (hn:xs.length≤200000) :
  Calls Try.prog 73 #[.slice A xs.length c] w (RetCl Kn.int 3 xs w):=by
 cases A with
 | none =>
  obtain rfl:xs=[]:=by
   cases xs with
   | nil=>rfl
   | cons a l =>
    obtain ⟨ad,e,_⟩:=h.2 (by simp)
    cases e
  have hk:=fun (w:World) (l c:Nat)=>Lib.run_eql_slice_nil (P:=Try.prog) w 40 3 none l c 0 0 Try.underlying40
  clear h hn
  go_enter Try.func73,Try.ntmps73
  go_wp2
  go_ret
  exact ⟨none,0,rfl,Nat.le_refl _,Lib.hid Kn.Rw.nil,Lib.hid (by simp [Value.ownBlock]),Below.refl _ _⟩
 | some ad =>
  obtain ⟨i0,hi,hz0,hz1,hz2⟩:=info_parts info3
  have m0:([]:List Int).length+xs.length≤maxLen:=by simp only [maxLen,List.length_nil];omega
  have k0:(([]:List Int).length+xs.length)*8≤140737488355328:=by simp only [List.length_nil];omega
  have hk:=fun (w:World) (l c:Nat)=>Lib.run_eql_slice_nil (P:=Try.prog) w 40 3 (some ad) l c 0 0 Try.underlying40
  have S0:Hid (Kn.Src Kn.int (w.alloc (.cells #[] 3)) nobody (some ad) xs):=Lib.hid (Kn.Src.flat intK_flat2 (Kn.C_below (below_alloc w (.cells #[] 3)) h))
  have HE:Hid (Kn.int.Rw 3 (w.alloc (.cells #[] 3)) nobody (.slice (some ⟨w.heap.size,0,none⟩) 0 0) []):=Lib.hid (Rw_empty (Blk.new w 3 [] rfl))
  clear h
  go_enter Try.func73,Try.ntmps73
  go_wp2_with (at_builtin;refine wpList_append_rw _ rfl (.tmp 5) (.tmp 6) 40 rfl 3 i0 _ 8 Try.underlying40 hi hz0 hz1 hz2 rfl (by decide) (.slice (some ⟨w.heap.size,0,none⟩) 0 0) [] xs rfl HE.out (fun _ h=>h.elim) (some ad) xs.length c rfl rfl S0.out m0 k0 ?_;intro v' w2 HR2 hg2 hat2;rw [List.nil_append] at HR2;obtain ⟨A2,c2,rfl,hc2,_⟩:=HR2.form)
  obtain ⟨hb2,hk2,hs2⟩:=cp_step (Below.refl _ _) hg2
  have hfin:RetCl Kn.int 3 xs w (.returned (.slice A2 xs.length c2)) w2:=⟨A2,c2,rfl,hc2,Lib.hid HR2,Lib.hid (fun b hb=>by
   rcases hat2 with e | e
   ·rw [hb] at e
    have e:=Option.some.inj e
    simp at e
    omega
   ·rw [hb] at e
    have e:=Option.some.inj e
    simp at e
    omega),hb2⟩
  go_ret
  exact hfin
set_option maxHeartbeats 1000000 in
theorem clonePart {ok:Nat→Prop} (xs:List Part) (A:Option Addr) (c:Nat) (w:World) (h:partK.C w ok A xs) (hn:xs.length≤200000) :
  Calls Try.prog 74 #[.slice A xs.length c] w (RetCl partK 48 xs w):=by
 cases A with
 | none =>
  obtain rfl:xs=[]:=by
   cases xs with
   | nil=>rfl
   | cons a l =>
    obtain ⟨ad,e,_⟩:=h.2 (by simp)
    cases e
  have hk:=fun (w:World) (l c:Nat)=>Lib.run_eql_slice_nil (P:=Try.prog) w 41 48 none l c 0 0 Try.underlying41
  clear h hn
  go_enter Try.func74,Try.ntmps74
  go_wp2
  go_ret
  exact ⟨none,0,rfl,Nat.le_refl _,Lib.hid Kn.Rw.nil,Lib.hid (by simp [Value.ownBlock]),Below.refl _ _⟩
 | some ad =>
  obtain ⟨i0,hi,hz0,hz1,hz2⟩:=info_parts info48
  have m0:([]:List Part).length+xs.length≤maxLen:=by simp only [maxLen,List.length_nil];omega
  have k0:(([]:List Part).length+xs.length)*24≤140737488355328:=by simp only [List.length_nil];omega
  have hk:=fun (w:World) (l c:Nat)=>Lib.run_eql_slice_nil (P:=Try.prog) w 41 48 (some ad) l c 0 0 Try.underlying41
  have S0:Hid (Kn.Src partK (w.alloc (.cells #[] 48)) nobody (some ad) xs):=Lib.hid (Kn.Src.flat partK_flat (Kn.C_below (below_alloc w (.cells #[] 48)) h))
  have HE:Hid (partK.Rw 48 (w.alloc (.cells #[] 48)) nobody (.slice (some ⟨w.heap.size,0,none⟩) 0 0) []):=Lib.hid (Rw_empty (Blk.new w 48 [] rfl))
  clear h
  go_enter Try.func74,Try.ntmps74
  go_wp2_with (at_builtin;refine wpList_append_rw _ rfl (.tmp 5) (.tmp 6) 41 rfl 48 i0 _ 24 Try.underlying41 hi hz0 hz1 hz2 rfl (by decide) (.slice (some ⟨w.heap.size,0,none⟩) 0 0) [] xs rfl HE.out (fun _ h=>h.elim) (some ad) xs.length c rfl rfl S0.out m0 k0 ?_;intro v' w2 HR2 hg2 hat2;rw [List.nil_append] at HR2;obtain ⟨A2,c2,rfl,hc2,_⟩:=HR2.form)
  obtain ⟨hb2,hk2,hs2⟩:=cp_step (Below.refl _ _) hg2
  have hfin:RetCl partK 48 xs w (.returned (.slice A2 xs.length c2)) w2:=⟨A2,c2,rfl,hc2,Lib.hid HR2,Lib.hid (fun b hb=>by
   rcases hat2 with e | e
   ·rw [hb] at e
    have e:=Option.some.inj e
    simp at e
    omega
   ·rw [hb] at e
    have e:=Option.some.inj e
    simp at e
    omega),hb2⟩
  go_ret
  exact hfin
set_option maxHeartbeats 1000000 in
theorem cloneFlank {ok:Nat→Prop} (xs:List Flank) (A:Option Addr) (c:Nat) (w:World) (h:flankK.C w ok A xs) (hn:xs.length≤200000) :
  Calls Try.prog 75 #[.slice A xs.length c] w (RetCl flankK 50 xs w):=by
 cases A with
 | none =>
  obtain rfl:xs=[]:=by
   cases xs with
   | nil=>rfl
   | cons a l =>
    obtain ⟨ad,e,_⟩:=h.2 (by simp)
    cases e
  have hk:=fun (w:World) (l c:Nat)=>Lib.run_eql_slice_nil (P:=Try.prog) w 42 50 none l c 0 0 Try.underlying42
  clear h hn
  go_enter Try.func75,Try.ntmps75
  go_wp2
  go_ret
  exact ⟨none,0,rfl,Nat.le_refl _,Lib.hid Kn.Rw.nil,Lib.hid (by simp [Value.ownBlock]),Below.refl _ _⟩
 | some ad =>
  obtain ⟨i0,hi,hz0,hz1,hz2⟩:=info_parts info50
  have m0:([]:List Flank).length+xs.length≤maxLen:=by simp only [maxLen,List.length_nil];omega
  have k0:(([]:List Flank).length+xs.length)*32≤140737488355328:=by simp only [List.length_nil];omega
  have hk:=fun (w:World) (l c:Nat)=>Lib.run_eql_slice_nil (P:=Try.prog) w 42 50 (some ad) l c 0 0 Try.underlying42
  have S0:Hid (Kn.Src flankK (w.alloc (.cells #[] 50)) nobody (some ad) xs):=Lib.hid (Kn.Src.flat flankK_flat (Kn.C_below (below_alloc w (.cells #[] 50)) h))
  have HE:Hid (flankK.Rw 50 (w.alloc (.cells #[] 50)) nobody (.slice (some ⟨w.heap.size,0,none⟩) 0 0) []):=Lib.hid (Rw_empty (Blk.new w 50 [] rfl))
  clear h
  go_enter Try.func75,Try.ntmps75
  go_wp2_with (at_builtin;refine wpList_append_rw _ rfl (.tmp 5) (.tmp 6) 42 rfl 50 i0 _ 32 Try.underlying42 hi hz0 hz1 hz2 rfl (by decide) (.slice (some ⟨w.heap.size,0,none⟩) 0 0) [] xs rfl HE.out (fun _ h=>h.elim) (some ad) xs.length c rfl rfl S0.out m0 k0 ?_;intro v' w2 HR2 hg2 hat2;rw [List.nil_append] at HR2;obtain ⟨A2,c2,rfl,hc2,_⟩:=HR2.form)
  obtain ⟨hb2,hk2,hs2⟩:=cp_step (Below.refl _ _) hg2
  have hfin:RetCl flankK 50 xs w (.returned (.slice A2 xs.length c2)) w2:=⟨A2,c2,rfl,hc2,Lib.hid HR2,Lib.hid (fun b hb=>by
   rcases hat2 with e | e
   ·rw [hb] at e
    have e:=Option.some.inj e
    simp at e
    omega
   ·rw [hb] at e
    have e:=Option.some.inj e
    simp at e
    omega),hb2⟩
  go_ret
  exact hfin
end Go.Proofs.Ytjccgneimknbpaa.L
namespace Go.Proofs.Ytjccgneimknbpaa.L
open Go.RowKit
open Classical
theorem LS.new_ {w:World} {ok ok' ok'':Nat→Prop} {n:Net} {ss:List Signal} {lies:List Lie} {A0 A1 A2 A3:Option Addr} {c0 c1 c2 c3:Nat} (a lv:Int) (v0 v1 v2 v4 v5 v6 v7:Value) (h:NC 102 w ok n A0 A1) (hs:signalK.C w ok' A2 ss) (hl:lieK.C w ok'' A3 lies) :
  Below w.heap.size w (((((((((w).alloc (.cells #[.slice A0 n.pieces.length c0,.slice A1 n.joints.length c1] 26)).alloc (.cells #[.slice A2 ss.length c2] 27)).alloc (.cells #[v0,v1,v2,.slice A3 lies.length c3,v4,v5,v6,v7] 44)).alloc (.cells #[.int .i64 a,.int .i64 lv] 52)).alloc (.cells #[.slice none 0 0] 42)).alloc (.map #[] 0)).alloc (.cells #[.map (some (w.heap.size+1+1+1+1+1))] 169)).alloc (.cells #[lookV w.heap.size (w.heap.size+1) (w.heap.size+1+1) (w.heap.size+1+1+1) (w.heap.size+1+1+1+1) (w.heap.size+1+1+1+1+1+1) (w.heap.size+1+1+1+1+1+1+1)] 170)) ∧
  LS (((((((((w).alloc (.cells #[.slice A0 n.pieces.length c0,.slice A1 n.joints.length c1] 26)).alloc (.cells #[.slice A2 ss.length c2] 27)).alloc (.cells #[v0,v1,v2,.slice A3 lies.length c3,v4,v5,v6,v7] 44)).alloc (.cells #[.int .i64 a,.int .i64 lv] 52)).alloc (.cells #[.slice none 0 0] 42)).alloc (.map #[] 0)).alloc (.cells #[.map (some (w.heap.size+1+1+1+1+1))] 169)).alloc (.cells #[lookV w.heap.size (w.heap.size+1) (w.heap.size+1+1) (w.heap.size+1+1+1) (w.heap.size+1+1+1+1) (w.heap.size+1+1+1+1+1+1) (w.heap.size+1+1+1+1+1+1+1)] 170)) w.heap.size (w.heap.size+1) (w.heap.size+1+1) (w.heap.size+1+1+1) (w.heap.size+1+1+1+1) (w.heap.size+1+1+1+1+1) (w.heap.size+1+1+1+1+1+1) (w.heap.size+1+1+1+1+1+1+1) n ss lies A0 A1 A2 A3 c0 c1 c2 c3 a lv v0 v1 v2 v4 v5 v6 v7 (.slice none 0 0) [] []:=by
 have hb:Below w.heap.size w (((((((((w).alloc (.cells #[.slice A0 n.pieces.length c0,.slice A1 n.joints.length c1] 26)).alloc (.cells #[.slice A2 ss.length c2] 27)).alloc (.cells #[v0,v1,v2,.slice A3 lies.length c3,v4,v5,v6,v7] 44)).alloc (.cells #[.int .i64 a,.int .i64 lv] 52)).alloc (.cells #[.slice none 0 0] 42)).alloc (.map #[] 0)).alloc (.cells #[.map (some (w.heap.size+1+1+1+1+1))] 169)).alloc (.cells #[lookV w.heap.size (w.heap.size+1) (w.heap.size+1+1) (w.heap.size+1+1+1) (w.heap.size+1+1+1+1) (w.heap.size+1+1+1+1+1+1) (w.heap.size+1+1+1+1+1+1+1)] 170)):=by
  refine (((((((below_alloc w _).alloc ?_ _).alloc ?_ _).alloc ?_ _).alloc ?_ _).alloc ?_ _).alloc ?_ _).alloc ?_ _ <;> (simp only [size_alloc];omega)
 refine ⟨hb,?_⟩
 have e1:∀o:Obj,(w.alloc o).heap.size=w.heap.size+1:=fun o=>size_alloc w o
 refine ⟨?_,?_,?_,?_,?_,?_,?_,?_,⟨?_,?_⟩,?_,?_,Kn.Rw.nil⟩
 ·exact (((((((Blk.new w _ _ rfl).alloc _).alloc _).alloc _).alloc _).alloc _).alloc _).alloc _
 ·exact ((((((Blk.new _ _ _ (by simp only [size_alloc])).alloc _).alloc _).alloc _).alloc _).alloc _).alloc _
 ·exact (((((Blk.new _ _ _ (by simp only [size_alloc])).alloc _).alloc _).alloc _).alloc _).alloc _
 ·exact ((((Blk.new _ _ _ (by simp only [size_alloc])).alloc _).alloc _).alloc _).alloc _
 ·exact (((Blk.new _ _ _ (by simp only [size_alloc])).alloc _).alloc _).alloc _
 ·exact (Blk.new _ _ _ (by simp only [size_alloc])).alloc _
 ·exact Blk.new _ _ _ (by simp only [size_alloc])
 ·have:=EM.made ((((((w).alloc (.cells #[.slice A0 n.pieces.length c0,.slice A1 n.joints.length c1] 26)).alloc (.cells #[.slice A2 ss.length c2] 27)).alloc (.cells #[v0,v1,v2,.slice A3 lies.length c3,v4,v5,v6,v7] 44)).alloc (.cells #[.int .i64 a,.int .i64 lv] 52)).alloc (.cells #[.slice none 0 0] 42)) Try.prog 102
  rw [show ((((((w).alloc (.cells #[.slice A0 n.pieces.length c0,.slice A1 n.joints.length c1] 26)).alloc (.cells #[.slice A2 ss.length c2] 27)).alloc (.cells #[v0,v1,v2,.slice A3 lies.length c3,v4,v5,v6,v7] 44)).alloc (.cells #[.int .i64 a,.int .i64 lv] 52)).alloc (.cells #[.slice none 0 0] 42)).heap.size=w.heap.size+1+1+1+1+1 by simp only [size_alloc]] at this
  rw [show (([]:List End).length)=0 from rfl,endSet_nil]
  exact (this.below (below_alloc _ _)).below (below_alloc _ _)
 ·exact Kn.C_mono (fun b hb2=>⟨Nat.lt_of_lt_of_le hb2.2 hb.size,fun e=>by rcases e with e | e | e;(· omega);(· omega);(· simp [Value.ownBlock] at e)⟩) (Kn.C_below hb (Kn.C_bound h.p))
 ·exact Kn.C_mono (fun b hb2=>⟨Nat.lt_of_lt_of_le hb2.2 hb.size,fun e=>by rcases e with e | e | e;(· omega);(· omega);(· simp [Value.ownBlock] at e)⟩) (Kn.C_below hb (Kn.C_bound h.j))
 ·exact Kn.C_mono (fun b hb2=>⟨Nat.lt_of_lt_of_le hb2.2 hb.size,fun e=>by rcases e with e | e | e;(· omega);(· omega);(· simp [Value.ownBlock] at e)⟩) (Kn.C_below hb (Kn.C_bound hs))
 ·exact Kn.C_mono (fun b hb2=>⟨Nat.lt_of_lt_of_le hb2.2 hb.size,fun e=>by rcases e with e | e | e;(· omega);(· omega);(· simp [Value.ownBlock] at e)⟩) (Kn.C_below hb (Kn.C_bound hl))
set_option maxRecDepth 100000 in
set_option maxHeartbeats 8000000 in
theorem implFlanks {ok ok' ok'':Nat→Prop} {n:Net} {ss:List Signal} (hr:Hid (Right n ss)) (lies:List Lie) (j:Nat) (lv f0 f1:Int) (A0 A1 A2 A3 B2 B4 B5 B6 B7:Option Addr) (c0 c1 c2 c3 n2 d2 n4 d4 n5 d5 n6 d6 n7 d7:Nat) (w:World)
  (h:NC 102 w ok n A0 A1) (hs:signalK.C w ok' A2 ss) (hl:lieK.C w ok'' A3 lies) (hll:lies.length≤1000) (hjl:j < n.joints.length) (hjk:Hid ((jt n j).kind=3)) (hlv:lv=1∨lv=2) :
  Calls Try.prog 110 #[.agg #[.slice A0 n.pieces.length c0,.slice A1 n.joints.length c1],.slice A2 ss.length c2,.agg #[.int .i64 f0,.int .i64 f1,.slice B2 n2 d2,.slice A3 lies.length c3,.slice B4 n4 d4,.slice B5 n5 d5,.slice B6 n6 d6,.slice B7 n7 d7],.agg #[.int .i64 j,.int .i64 lv]] w (RetCl flankK 50 (flanksAt n ss lies ⟨j,lv⟩) w):=by
 have hmm:=@run_makeMap Try.prog
 have HG:Hid (Good n):=Lib.hid hr.out.g
 obtain ⟨hbW,HLS⟩:=LS.new_ (w:=w) (c0:=c0) (c1:=c1) (c2:=c2) (c3:=c3) j lv (.int .i64 f0) (.int .i64 f1) (.slice B2 n2 d2) (.slice B4 n4 d4) (.slice B5 n5 d5) (.slice B6 n6 d6) (.slice B7 n7 d7) h hs hl
 obtain ⟨W,hW⟩:∃W,((((((((w).alloc (.cells #[.slice A0 n.pieces.length c0,.slice A1 n.joints.length c1] 26)).alloc (.cells #[.slice A2 ss.length c2] 27)).alloc (.cells #[.int .i64 f0,.int .i64 f1,.slice B2 n2 d2,.slice A3 lies.length c3,.slice B4 n4 d4,.slice B5 n5 d5,.slice B6 n6 d6,.slice B7 n7 d7] 44)).alloc (.cells #[.int .i64 j,.int .i64 lv] 52)).alloc (.cells #[.slice none 0 0] 42)).alloc (.map #[] 0)).alloc (.cells #[.map (some (w.heap.size+1+1+1+1+1))] 169)).alloc (.cells #[lookV w.heap.size (w.heap.size+1) (w.heap.size+1+1) (w.heap.size+1+1+1) (w.heap.size+1+1+1+1) (w.heap.size+1+1+1+1+1+1) (w.heap.size+1+1+1+1+1+1+1)] 170)=W:=⟨_,rfl⟩
 rw [hW] at HLS hbW
 have HLS:=Lib.hid HLS
 clear h hs hl
 obtain ⟨a1,rfl,x,E1,A4,c4,r0,r1,r2,l2,C2⟩:=jointK_at HLS.out.net.j j hjl
 have hjx:jt n j=x:=by unfold jt;rw [List.getD_eq_getElem?_getD,E1.out];rfl
 have hP:=HG.out.joint x (mem_of_get E1.out)
 have hl3:x.ends.length=3:=by have h1:=hP.2.1;have h2:=hjk.out;rw [hjx] at h2;omega
 have HEN:Hid (endP n.pieces.length (en x (3 - lv).toNat)):=Lib.hid (en_ok hP (by omega))
 have HFA:Hid (flanksAt n ss lies ⟨j,lv⟩=(flankF n ss lies j (2*n.pieces.length+1) ([],[]) (en x (3 - lv).toNat)).2):=Lib.hid (by
  unfold flanksAt
  rw [show ((⟨j,lv⟩:Lie).joint).toNat=j from Int.toNat_natCast j,hjx])
 have HC2:=Lib.hid C2
 clear hjx hP C2 E1 l2
 have m0:(0:Int)≤(j:Int):=Int.natCast_nonneg _
 have m1:(j:Int) < (n.joints.length:Int):=by omega
 go_enter Try.func110,Try.ntmps110
 go_upto_region 5 with (fail)
 have HWW:=Lib.hid hW
 clear hW
 have t1:=HLS.out.nb.cell 1 rfl
 have u0:=HLS.out.lb.cell 0 rfl
 have u1:=HLS.out.lb.cell 1 rfl
 have v0:=HLS.out.kb.cell 0 rfl
 have q0:lv≤3:=by omega
 have q3:1≤lv:=by omega
 have q1:3 - lv < (x.ends.length:Int):=by omega
 have hs7:w.heap.size+1+1+1+1+1+1+1 < W.heap.size:=HLS.out.kb.lt
 obtain ⟨ad,had,y0,y1,E3,g0,g1⟩:=endK_at HC2.out (3 - lv).toNat (by omega)
 subst had
 have hEE:Hid (en x (3 - lv).toNat=⟨y0,y1⟩):=Lib.hid (Option.some.inj ((en_get (by omega)).symm.trans E3.out))
 have HL3:=Lib.hid hl3
 clear hl3
 have q2:IntKind.i64.wrap (3 - lv)=3 - lv:=wrap_small (by omega) (by omega)
 have hHeld:(fun w'=>w'.cell? ⟨w.heap.size,1,none⟩=some (.slice (some a1) n.joints.length c1)∧w'.cell? ⟨w.heap.size+1+1+1,0,none⟩=some (.int .i64 j)∧w'.cell? ⟨w.heap.size+1+1+1,1,none⟩=some (.int .i64 lv)∧w'.cell? ⟨w.heap.size+1+1+1+1+1+1+1,0,none⟩=some (lookV w.heap.size (w.heap.size+1) (w.heap.size+1+1) (w.heap.size+1+1+1) (w.heap.size+1+1+1+1) (w.heap.size+1+1+1+1+1+1) (w.heap.size+1+1+1+1+1+1+1))∧w'.cell? ⟨(a1.add (j*3)).block,(a1.add (j*3)).off+2,none⟩=some (.slice (some ad) x.ends.length c4)∧w'.cell? (ad.add ((3 - lv).toNat*2))=some (.int .i64 y0)∧w'.cell? ⟨(ad.add ((3 - lv).toNat*2)).block,(ad.add ((3 - lv).toNat*2)).off+1,none⟩=some (.int .i64 y1)) W.drew:=⟨t1,u0,u1,v0,r2,g0,g1⟩
 refine Rg.start 13 (fun w'=>w'.cell? ⟨w.heap.size,1,none⟩=some (.slice (some a1) n.joints.length c1)∧w'.cell? ⟨w.heap.size+1+1+1,0,none⟩=some (.int .i64 j)∧w'.cell? ⟨w.heap.size+1+1+1,1,none⟩=some (.int .i64 lv)∧w'.cell? ⟨w.heap.size+1+1+1+1+1+1+1,0,none⟩=some (lookV w.heap.size (w.heap.size+1) (w.heap.size+1+1) (w.heap.size+1+1+1) (w.heap.size+1+1+1+1) (w.heap.size+1+1+1+1+1+1) (w.heap.size+1+1+1+1+1+1+1))∧w'.cell? ⟨(a1.add (j*3)).block,(a1.add (j*3)).off+2,none⟩=some (.slice (some ad) x.ends.length c4)∧w'.cell? (ad.add ((3 - lv).toNat*2))=some (.int .i64 y0)∧w'.cell? ⟨(ad.add ((3 - lv).toNat*2)).block,(ad.add ((3 - lv).toNat*2)).off+1,none⟩=some (.int .i64 y1)) 14 rfl (by kernel_rfl) ?_
 refine Rg.held 0 (v:=?v1) rfl (by kernel_rfl) (fun _ _ _ h=>h) (by rfl) hHeld ?y1 ?h1
 case y1=>(intro wA hSw;(try dsimp only at hSw);go_simp;first | done | with_reducible rfl)
 simp only [Act.put,List.setIfInBounds_toArray,List.set_cons_zero,List.set_cons_succ]
 refine Rg.pure 1 (v:=?v2) rfl (by kernel_rfl) (fun _ _ _ h=>h) (by rfl) hHeld ?y2 ?h2
 case y2=>(intro wA;go_simp;first | done | with_reducible rfl)
 simp only [Act.put,List.setIfInBounds_toArray,List.set_cons_zero,List.set_cons_succ]
 refine Rg.held 2 (v:=?v3) rfl (by kernel_rfl) (fun _ _ _ h=>h) (by rfl) hHeld ?y3 ?h3
 case y3=>(intro wA hSw;(try dsimp only at hSw);go_simp;first | done | with_reducible rfl)
 simp only [Act.put,List.setIfInBounds_toArray,List.set_cons_zero,List.set_cons_succ]
 refine Rg.pure 3 (v:=?v4) rfl (by kernel_rfl) (fun _ _ _ h=>h) (by rfl) hHeld ?y4 ?h4
 case y4=>(intro wA;go_simp;first | done | with_reducible rfl)
 simp only [Act.put,List.setIfInBounds_toArray,List.set_cons_zero,List.set_cons_succ]
 refine Rg.held 4 (v:=?v5) rfl (by kernel_rfl) (fun _ _ _ h=>h) (by rfl) hHeld ?y5 ?h5
 case y5=>(intro wA hSw;(try dsimp only at hSw);go_simp;first | done | with_reducible rfl)
 simp only [Act.put,List.setIfInBounds_toArray,List.set_cons_zero,List.set_cons_succ]
 refine Rg.pure 5 (v:=?v6) rfl (by kernel_rfl) (fun _ _ _ h=>h) (by rfl) hHeld ?y6 ?h6
 case y6=>(intro wA;go_simp;first | done | with_reducible rfl)
 simp only [Act.put,List.setIfInBounds_toArray,List.set_cons_zero,List.set_cons_succ]
 refine Rg.pure 6 (v:=?v7) rfl (by kernel_rfl) (fun _ _ _ h=>h) (by rfl) hHeld ?y7 ?h7
 case y7=>(intro wA;go_simp;first | done | with_reducible rfl)
 simp only [Act.put,List.setIfInBounds_toArray,List.set_cons_zero,List.set_cons_succ]
 refine Rg.held 7 (v:=?v8) rfl (by kernel_rfl) (fun _ _ _ h=>h) (by rfl) hHeld ?y8 ?h8
 case y8=>(intro wA hSw;(try dsimp only at hSw);go_simp;first | done | with_reducible rfl)
 simp only [Act.put,List.setIfInBounds_toArray,List.set_cons_zero,List.set_cons_succ]
 refine Rg.pure 8 (v:=?v9) rfl (by kernel_rfl) (fun _ _ _ h=>h) (by rfl) hHeld ?y9 ?h9
 case y9=>(intro wA;go_simp;first | done | with_reducible rfl)
 simp only [Act.put,List.setIfInBounds_toArray,List.set_cons_zero,List.set_cons_succ]
 refine Rg.held 9 (v:=?v10) rfl (by kernel_rfl) (fun _ _ _ h=>h) (by rfl) hHeld ?y10 ?h10
 case y10=>(intro wA hSw;(try dsimp only at hSw);go_simp;first | done | with_reducible rfl)
 simp only [Act.put,List.setIfInBounds_toArray,List.set_cons_zero,List.set_cons_succ]
 refine Rg.pure 10 (v:=?v11) rfl (by kernel_rfl) (fun _ _ _ h=>h) (by rfl) hHeld ?y11 ?h11
 case y11=>(intro wA;go_simp;first | done | with_reducible rfl)
 simp only [Act.put,List.setIfInBounds_toArray,List.set_cons_zero,List.set_cons_succ]
 refine Rg.pure 11 (v:=?v12) rfl (by kernel_rfl) (fun _ _ _ h=>h) (by rfl) hHeld ?y12 ?h12
 case y12=>(intro wA;go_simp;first | done | with_reducible rfl)
 simp only [Act.put,List.setIfInBounds_toArray,List.set_cons_zero,List.set_cons_succ]
 refine Rg.held 12 (v:=?v13) rfl (by kernel_rfl) (fun _ _ _ h=>h) (by rfl) hHeld ?y13 ?h13
 case y13=>(intro wA hSw;(try dsimp only at hSw);go_simp;first | done | with_reducible rfl)
 simp only [Act.put,List.setIfInBounds_toArray,List.set_cons_zero,List.set_cons_succ]
 refine Rg.row [13] [_] rfl (by kernel_rfl) ?_
 have hbd:Below W.heap.size W W.drew:=(Below.refl _ _).drew
 have HLK:=implLook hr hll (2*n.pieces.length+1) (.slice none 0 0) [] [] ⟨y0,y1⟩ _ (HLS.out.below hbd) (Lib.hid (by rw [←hEE.out];exact HEN.out)) (Lib.hid ⟨List.nodup_nil,fun x hx=>by cases hx⟩) (Lib.hid (Nat.le_refl _)) (Lib.hid (Nat.zero_le _))
 rw [←hEE.out] at HLK
 clear hHeld t1 u0 u1 v0 g0 g1 q0 q1 q2 q3 r0 r1 r2
 rw [hEE.out] at HLK
 go_wp2_with fail
 refine HLK.mono ?_
 rintro e w9 ⟨rfl,vf,F9,K9,N9⟩
 obtain ⟨Af,cf,rfl,hcf,_⟩:=F9.fn.form
 have o0:=F9.ob.cell 0 rfl
 have hbf:Below w.heap.size w w9:=hbW.trans ((Keep.below (Keep.of_below (S:=LSet (w.heap.size+1+1+1+1) (w.heap.size+1+1+1+1+1) (.slice none 0 0)) hbd) (Below.refl _ _)).trans K9 (fun _ _ e=>e) |>.to_below (by omega) (fun k hk e=>by rcases e with e | e | e;(· omega);(· omega);(· simp [Value.ownBlock] at e)))
 have hfin:RetCl flankK 50 (flanksAt n ss lies ⟨j,lv⟩) w (.returned (.slice Af (flankF n ss lies j (2*n.pieces.length+1) ([],[]) ⟨y0,y1⟩).2.length cf)) w9:=by
  rw [HFA.out,hEE.out]
  exact ⟨Af,cf,rfl,hcf,Lib.hid F9.fn,Lib.hid (fun b hb=>by
   rcases N9 b hb with e | e
   ·simp [Value.ownBlock] at e
   ·have e2:W.heap.size≤b:=e
    omega),hbf⟩
 clear HLK K9 N9
 have HF9:=Lib.hid F9
 clear F9
 go_wp2
 go_ret
 exact hfin
end Go.Proofs.Ytjccgneimknbpaa.L
namespace Go.Proofs.Ytjccgneimknbpaa.L
open Go.RowKit
open Classical
theorem mul_bound {m:Nat} (h:m≤100):∀i,i≤201→i*(2*m)≤40200:=fun i hi=>by
 have h1:i*(2*m)≤201*200:=Nat.mul_le_mul hi (by omega)
 exact h1
abbrev walkB (n:Net) (A0 A1:Option Addr) (c0 c1:Nat) (sv:Value) (ov:Int) (vout:Value) (come:Int):List Value:=[.slice A0 n.pieces.length c0,.slice A1 n.joints.length c1,sv,.int .i64 ov,vout,.int .i64 come]
structure WI (w:World) (g:Nat) (n:Net) (ss:List Signal) (A0 A1 A2:Option Addr) (c0 c1 c2:Nat) (ov tr:Int) (vout:Value) (rs:List Route):Prop where
 f:Blk w g 121 (walkB n A0 A1 c0 c1 (.slice A2 ss.length c2) ov vout tr)
 out:rK.Rw 44 w (Out w (WSet g vout)) vout rs
 net:NC 102 w (Out w (WSet g vout)) n A0 A1
 sig:signalK.C w (Out w (WSet g vout)) A2 ss
section
variable {w w0 w1 w2 wa wr:World} {g:Nat} {n:Net} {ss:List Signal} {A0 A1 A2:Option Addr} {c0 c1 c2:Nat} {ov tr tr0:Int} {vout v':Value} {rs:List Route}
theorem WI.below (hb:Below w.heap.size w w1) (F:WI w g n ss A0 A1 A2 c0 c1 c2 ov tr vout rs):WI w1 g n ss A0 A1 A2 c0 c1 c2 ov tr vout rs :=
 ⟨F.f.below hb F.f.lt,(F.out.below hb).mono (Out.below hb),F.net.keep (Keep.of_below hb) (fun _ _ h=>h),Kn.C_keep (Keep.of_below hb) (fun _ _ h=>h) F.sig⟩
theorem WI.new (F:WI w g n ss A0 A1 A2 c0 c1 c2 ov tr vout rs) {b:Nat} (hb:w.heap.size≤b):¬WSet g vout b:=fun hm=>by
 have h1:=F.f.lt
 rcases hm with hm | hm
 ·omega
 ·have:=F.out.lt b hm
  omega
def RetWI (g:Nat) (n:Net) (ss:List Signal) (A0 A1 A2:Option Addr) (c0 c1 c2:Nat) (ov:Int) (vout:Value) (st:List Route × Int) (w:World) (en:Ending) (w':World):Prop :=
 en=.returned (.tuple #[])∧∃vout',WI w' g n ss A0 A1 A2 c0 c1 c2 ov st.2 vout' st.1∧Keep (WSet g vout) w w'∧Nx vout vout' w.heap.size
theorem RetWI.after {v1:Value} {st:List Route × Int} {en:Ending} {w':World} (hk:Keep (WSet g vout) w wa) (h1:Nx vout v1 w.heap.size) (hR:RetWI g n ss A0 A1 A2 c0 c1 c2 ov v1 st wa en w'):RetWI g n ss A0 A1 A2 c0 c1 c2 ov vout st w en w':=by
 obtain ⟨rfl,v2,F,K,N⟩:=hR
 exact ⟨rfl,v2,F,hk.trans K (WSet.next h1),h1.trans N hk.size⟩
theorem WI.push (F:WI w g n ss A0 A1 A2 c0 c1 c2 ov tr vout rs) (hk:Keep (fun b=>b=g) w wr) (hf:Blk wr g 121 (walkB n A0 A1 c0 c1 (.slice A2 ss.length c2) ov vout tr)) (hb:Below wr.heap.size wr wa) (hg:wa.grownBy w2 vout.ownBlock) {x:Route} (hR:rK.Rw 44 w2 (Out wr (WSet g vout)) v' (rs++[x])) (ha:v'.ownBlock=vout.ownBlock∨v'.ownBlock=some wa.heap.size) :
  RetWI g n ss A0 A1 A2 c0 c1 c2 ov vout (rs++[x],tr) w (.returned (.tuple #[])) (w2.setCell ⟨g,4,none⟩ v'):=by
 have hgl:=hf.lt
 have hrw:rK.Rw 44 wr (Out w (WSet g vout)) vout rs:=F.out.grownK hk (fun k hkk e=>by subst e;exact own_not F.out F.f (by decide) hkk) (fun b hb _ e=>hb.2 (.inl e))
 have hf2:Blk w2 g 121 (walkB n A0 A1 c0 c1 (.slice A2 ss.length c2) ov vout tr):=Blk.eq (hg.block g (Nat.lt_of_lt_of_le hgl hb.size) (fun e=>own_not hrw hf (by decide) e.symm)) (hf.below hb hgl)
 have hk2:Keep (WSet g vout) w w2:=((hk.mono (fun x _ e=>.inl e)).below hb).grown hg (fun k hkk _=>.inr hkk)
 have hk3:Keep (WSet g vout) w (w2.setCell ⟨g,4,none⟩ v'):=hk2.setCell (fun _=>.inl rfl) v'
 have hnx:Nx vout v' w.heap.size:=(Nx.of ha).mono (Nat.le_trans hk.size hb.size)
 have hnr:Nx vout v' wr.heap.size:=(Nx.of ha).mono hb.size
 have hs:=WSet.next (g:=g) hnx
 refine ⟨rfl,v',⟨hf2.set_ 4 v',?_,F.net.keep hk3 hs,Kn.C_keep hk3 hs F.sig⟩,hk3,hnx⟩
 refine (Kn.Rw.move (fun k hkk=>Below.heap_setCell _ _ _ _ (fun e=>own_not hR hf2 (by decide) (by rw [←show k=g from e];exact hkk))) (fun b hbb=>Below.heap_setCell _ _ _ _ (fun e=>hbb.2 (.inl e))) hR).mono (fun b hbb=>⟨?_,fun e=>hbb.2 (WSet.next hnr b hbb.1 e)⟩)
 have h1:=hb.size
 have h2:=hg.size
 have h3:=hbb.1
 simp
 omega
theorem WI.later (W:WI w0 g n ss A0 A1 A2 c0 c1 c2 ov tr0 vout rs) (hk:Keep (fun b=>b=g) w0 w) (hf:Blk w g 121 (walkB n A0 A1 c0 c1 (.slice A2 ss.length c2) ov vout tr)):WI w g n ss A0 A1 A2 c0 c1 c2 ov tr vout rs :=
 ⟨hf,(W.out.grownK hk (fun k hkk e=>by subst e;exact own_not W.out W.f (by decide) hkk) (fun b hb _ e=>hb.2 (.inl e))).mono (fun b hb=>⟨Nat.lt_of_lt_of_le hb.1 hk.size,hb.2⟩),
  W.net.keep (hk.mono (S:=WSet g vout) (fun x _ e=>.inl e)) (fun _ _ e=>e),Kn.C_keep (hk.mono (S:=WSet g vout) (fun x _ e=>.inl e)) (fun _ _ e=>e) W.sig⟩
end
set_option maxRecDepth 100000 in
set_option maxHeartbeats 8000000 in
theorem implFoundEnd {n:Net} {ss:List Signal} {A0 A1 A2 B2 B3 B4 B5:Option Addr} {c0 c1 c2 d2 d3 d4 d5:Nat} {ov tr:Int} {vout:Value} {rs:List Route} {g:Nat} {w:World} (r Q:Route) (hr:Hid (Right n ss)) (F:WI w g n ss A0 A1 A2 c0 c1 c2 ov tr vout rs) (hov0:Hid (r.over=[])) (HQ:Hid ({ r with til:=-1 }=Q))
  (h2:stepK.C w (Out w (WSet g vout)) B2 r.steps) (h3:lieK.C w (Out w (WSet g vout)) B3 r.lies) (h4:Kn.int.C w (Out w (WSet g vout)) B4 r.crosses) (h5:partK.C w (Out w (WSet g vout)) B5 r.parts)
  (hcap:Hid (r.steps.length≤d2∧r.lies.length≤d3∧r.crosses.length≤d4∧r.parts.length≤d5)) (hll:r.lies.length≤201) (hlp:Hid (∀l∈r.lies,lieP n l)) (hrs:rs.length≤300) :
  Calls Try.prog 98 #[.pointer (some ⟨g,0,none⟩),.agg #[.int .i64 r.frm,.int .i64 (-1),.slice B2 r.steps.length d2,.slice B3 r.lies.length d3,.slice B4 r.crosses.length d4,.slice B5 r.parts.length d5,.slice none 0 0,.slice none 0 0]] w (RetWI g n ss A0 A1 A2 c0 c1 c2 ov vout (rs++[fin n ss Q],tr) w):=by
 obtain ⟨iR,hiR,hzR,hyR,hxR⟩:=info_parts info44
 obtain ⟨iF,hiF,hzF,hyF,hxF⟩:=info_parts info50
 have HF:=Lib.hid F
 have HG:Hid (Good n):=Lib.hid hr.out.g
 have H2:=Lib.hid h2
 have H3:=Lib.hid h3
 have H4:=Lib.hid h4
 have H5:=Lib.hid h5
 have hnl:=h3.1
 have hgw:=F.f.lt
 clear F h2 h3 h4 h5
 have r63:rs.length+1≤maxLen:=by simp only [maxLen];omega
 have rby:(rs.length+1)*160≤140737488355328:=by omega
 have HML:Hid (∀i,i≤201→i*(2*n.pieces.length)≤40200):=Lib.hid (mul_bound HG.out.le)
 go_enter Try.func98,Try.ntmps98
 go_upto_region 4 with (fail)
 obtain ⟨Wa,hWa,HKa,HBh⟩:∃W,W=w.alloc (.cells #[.int .i64 r.frm,.int .i64 (-1),.slice B2 r.steps.length d2,.slice B3 r.lies.length d3,.slice B4 r.crosses.length d4,.slice B5 r.parts.length d5,.slice none 0 0,.slice none 0 0] 44)∧Hid (Below w.heap.size w W)∧Hid (Blk W w.heap.size 44 [.int .i64 r.frm,.int .i64 (-1),.slice B2 r.steps.length d2,.slice B3 r.lies.length d3,.slice B4 r.crosses.length d4,.slice B5 r.parts.length d5,.slice none 0 0,.slice none 0 0]):=⟨_,rfl,Lib.hid (below_alloc _ _),Lib.hid (Blk.new _ _ _ rfl)⟩
 rw [←hWa]
 clear hWa
 obtain ⟨hgl,hhl⟩:g < w.heap.size∧w.heap.size < Wa.heap.size:=⟨hgw,HBh.out.lt⟩
 have k3:=HBh.out.cell 3 rfl
 go_wp2
 go_loopw [38] (fun i wr=>∃(k:Nat) (vf:Value),k≤r.lies.length∧i=.int .i64 k∧Hid (Blk wr w.heap.size 44 [.int .i64 r.frm,.int .i64 (-1),.slice B2 r.steps.length d2,.slice B3 r.lies.length d3,.slice B4 r.crosses.length d4,.slice B5 r.parts.length d5,.slice none 0 0,vf])∧Hid (flankK.Rw 50 wr nobody vf (flanksTo n ss r.lies k))∧Hid (∀b,vf.ownBlock=some b→w.heap.size≤b)∧Hid (Below w.heap.size w wr)) (fun i _=>r.lies.length - (intOf i).toNat)
 case atStart=>exact ⟨0,.slice none 0 0,Nat.zero_le _,rfl,HBh,Lib.hid (by rw [flanksTo_zero];exact Kn.Rw.nil),Lib.hid (by simp [Value.ownBlock]),HKa⟩
 case round =>
 obtain ⟨k,vf,hk,rfl,HBr,HFL,HFO,HK⟩:=hrel
 obtain ⟨Af,cf,rfl,hcf,_⟩:=HFL.out.form
 have HBg:Hid (Blk wr g 121 (walkB n A0 A1 c0 c1 (.slice A2 ss.length c2) ov vout tr)):=Lib.hid (HF.out.f.below HK.out hgw)
 have hsr:w.heap.size < wr.heap.size:=HBr.out.lt
 have hgr:g < wr.heap.size:=HBg.out.lt
 by_cases hlk:k < r.lies.length
 ·obtain ⟨a5,rfl,y0,y1,E,g0,g1⟩:=lieK_at (Kn.C_below HK.out H3.out) k hlk
  have i0:(0:Int)≤(k:Int):=Int.natCast_nonneg _
  have i1:(k:Int) < (r.lies.length:Int):=by omega
  obtain ⟨j,hjy,hjl,hjk,hly⟩:=hlp.out _ (mem_of_get E.out)
  simp only at hjy hly
  subst hjy
  have HJK:=Lib.hid hjk
  clear hjk
  have HFS:Hid (flanksTo n ss r.lies (k+1)=flanksTo n ss r.lies k++flanksAt n ss r.lies ⟨j,y1⟩):=Lib.hid (flanksTo_succ E.out)
  have HFN:Hid ((flanksTo n ss r.lies (k+1)).length≤40200):=Lib.hid (by have h1:=flanksTo_len (ss:=ss) HG.out hlp.out (k+1);have h2:=HML.out (k+1) (by omega);omega)
  go_upto_region 7 with (fail)
  obtain ⟨W2,hW2,HB2,HL2,hb2⟩:∃W,W=wr.alloc (.cells #[.int .i64 j,.int .i64 y1] 52)∧Hid (Blk W w.heap.size 44 [.int .i64 r.frm,.int .i64 (-1),.slice B2 r.steps.length d2,.slice (some a5) r.lies.length d3,.slice B4 r.crosses.length d4,.slice B5 r.parts.length d5,.slice none 0 0,.slice Af (flanksTo n ss r.lies k).length cf])∧Hid (Blk W wr.heap.size 52 [.int .i64 j,.int .i64 y1])∧Below wr.heap.size wr W :=
   ⟨_,rfl,Lib.hid (HBr.out.below (below_alloc _ _) HBr.out.lt),Lib.hid (Blk.new _ _ _ rfl),below_alloc _ _⟩
  rw [←hW2]
  clear hW2 g0 g1
  have HBg2:Hid (Blk W2 g 121 (walkB n A0 A1 c0 c1 (.slice A2 ss.length c2) ov vout tr)):=Lib.hid (HBg.out.below hb2 hgr)
  have t0:=HBg2.out.cell 0 rfl
  have t1:=HBg2.out.cell 1 rfl
  have t2:=HBg2.out.cell 2 rfl
  have q0:=HB2.out.cell 0 rfl
  have q1:=HB2.out.cell 1 rfl
  have q2:=HB2.out.cell 2 rfl
  have q3:=HB2.out.cell 3 rfl
  have q4:=HB2.out.cell 4 rfl
  have q5:=HB2.out.cell 5 rfl
  have q6:=HB2.out.cell 6 rfl
  have q7:=HB2.out.cell 7 rfl
  have l0:=HL2.out.cell 0 rfl
  have l1:=HL2.out.cell 1 rfl
  have HFL2:=Lib.hid (HFL.out.below hb2)
  have hbw2:Below w.heap.size w W2:=HK.out.trans (hb2.mono HK.out.size)
  have hh2:w.heap.size < W2.heap.size:=HB2.out.lt
  refine Rg.start 13 (fun w'=>Below W2.heap.size W2 w'∧w'.cell? ⟨g,0,none⟩=some (.slice A0 n.pieces.length c0)∧w'.cell? ⟨g,1,none⟩=some (.slice A1 n.joints.length c1)∧w'.cell? ⟨g,2,none⟩=some (.slice A2 ss.length c2)∧w'.cell? ⟨w.heap.size,0,none⟩=some (.int .i64 r.frm)∧w'.cell? ⟨w.heap.size,1,none⟩=some (.int .i64 (-1))∧w'.cell? ⟨w.heap.size,2,none⟩=some (.slice B2 r.steps.length d2)∧w'.cell? ⟨w.heap.size,3,none⟩=some (.slice (some a5) r.lies.length d3)∧w'.cell? ⟨w.heap.size,4,none⟩=some (.slice B4 r.crosses.length d4)∧w'.cell? ⟨w.heap.size,5,none⟩=some (.slice B5 r.parts.length d5)∧w'.cell? ⟨w.heap.size,6,none⟩=some (.slice none 0 0)∧w'.cell? ⟨w.heap.size,7,none⟩=some (.slice Af (flanksTo n ss r.lies k).length cf)∧w'.cell? ⟨wr.heap.size,0,none⟩=some (.int .i64 j)∧w'.cell? ⟨wr.heap.size,1,none⟩=some (.int .i64 y1)) 16 rfl (by kernel_rfl) ?_
  have hHeld:(fun w'=>Below W2.heap.size W2 w'∧w'.cell? ⟨g,0,none⟩=some (.slice A0 n.pieces.length c0)∧w'.cell? ⟨g,1,none⟩=some (.slice A1 n.joints.length c1)∧w'.cell? ⟨g,2,none⟩=some (.slice A2 ss.length c2)∧w'.cell? ⟨w.heap.size,0,none⟩=some (.int .i64 r.frm)∧w'.cell? ⟨w.heap.size,1,none⟩=some (.int .i64 (-1))∧w'.cell? ⟨w.heap.size,2,none⟩=some (.slice B2 r.steps.length d2)∧w'.cell? ⟨w.heap.size,3,none⟩=some (.slice (some a5) r.lies.length d3)∧w'.cell? ⟨w.heap.size,4,none⟩=some (.slice B4 r.crosses.length d4)∧w'.cell? ⟨w.heap.size,5,none⟩=some (.slice B5 r.parts.length d5)∧w'.cell? ⟨w.heap.size,6,none⟩=some (.slice none 0 0)∧w'.cell? ⟨w.heap.size,7,none⟩=some (.slice Af (flanksTo n ss r.lies k).length cf)∧w'.cell? ⟨wr.heap.size,0,none⟩=some (.int .i64 j)∧w'.cell? ⟨wr.heap.size,1,none⟩=some (.int .i64 y1)) W2.drew:=⟨(Below.refl _ _).drew,t0,t1,t2,q0,q1,q2,q3,q4,q5,q6,q7,l0,l1⟩
  refine Rg.pure 0 (v:=?v1) rfl (by kernel_rfl) (fun _ _ _ h=>h) (by rfl) hHeld ?y1 ?h1
  case y1=>(intro wA;go_simp;first | done | with_reducible rfl)
  simp only [Act.put,List.setIfInBounds_toArray,List.set_cons_zero,List.set_cons_succ]
  refine Rg.held 1 (v:=?v2) rfl (by kernel_rfl) (fun _ _ _ h=>h) (by rfl) hHeld ?y2 ?h2
  case y2=>(intro wA hSw;(try dsimp only at hSw);go_simp;first | done | with_reducible rfl)
  simp only [Act.put,List.setIfInBounds_toArray,List.set_cons_zero,List.set_cons_succ]
  refine Rg.pure 2 (v:=?v3) rfl (by kernel_rfl) (fun _ _ _ h=>h) (by rfl) hHeld ?y3 ?h3
  case y3=>(intro wA;go_simp;first | done | with_reducible rfl)
  simp only [Act.put,List.setIfInBounds_toArray,List.set_cons_zero,List.set_cons_succ]
  refine Rg.pure 3 (v:=?v4) rfl (by kernel_rfl) (fun _ _ _ h=>h) (by rfl) hHeld ?y4 ?h4
  case y4=>(intro wA;go_simp;first | done | with_reducible rfl)
  simp only [Act.put,List.setIfInBounds_toArray,List.set_cons_zero,List.set_cons_succ]
  refine Rg.pure 4 (v:=?v5) rfl (by kernel_rfl) (fun _ _ _ h=>h) (by rfl) hHeld ?y5 ?h5
  case y5=>(intro wA;go_simp;first | done | with_reducible rfl)
  simp only [Act.put,List.setIfInBounds_toArray,List.set_cons_zero,List.set_cons_succ]
  refine Rg.held 5 (v:=?v6) rfl (by kernel_rfl) (fun _ _ _ h=>h) (by rfl) hHeld ?y6 ?h6
  case y6=>(intro wA hSw;(try dsimp only at hSw);go_simp;first | done | with_reducible rfl)
  simp only [Act.put,List.setIfInBounds_toArray,List.set_cons_zero,List.set_cons_succ]
  refine Rg.pure 6 (v:=?v7) rfl (by kernel_rfl) (fun _ _ _ h=>h) (by rfl) hHeld ?y7 ?h7
  case y7=>(intro wA;go_simp;first | done | with_reducible rfl)
  simp only [Act.put,List.setIfInBounds_toArray,List.set_cons_zero,List.set_cons_succ]
  refine Rg.pure 7 (v:=?v8) rfl (by kernel_rfl) (fun _ _ _ h=>h) (by rfl) hHeld ?y8 ?h8
  case y8=>(intro wA;go_simp;first | done | with_reducible rfl)
  simp only [Act.put,List.setIfInBounds_toArray,List.set_cons_zero,List.set_cons_succ]
  refine Rg.pure 8 (v:=?v9) rfl (by kernel_rfl) (fun _ _ _ h=>h) (by rfl) hHeld ?y9 ?h9
  case y9=>(intro wA;go_simp;first | done | with_reducible rfl)
  simp only [Act.put,List.setIfInBounds_toArray,List.set_cons_zero,List.set_cons_succ]
  refine Rg.held 9 (v:=?v10) rfl (by kernel_rfl) (fun _ _ _ h=>h) (by rfl) hHeld ?y10 ?h10
  case y10=>(intro wA hSw;(try dsimp only at hSw);go_simp;first | done | with_reducible rfl)
  simp only [Act.put,List.setIfInBounds_toArray,List.set_cons_zero,List.set_cons_succ]
  refine Rg.held 10 (v:=?v11) rfl (by kernel_rfl) (fun _ _ _ h=>h) (by rfl) hHeld ?y11 ?h11
  case y11=>(intro wA hSw;(try dsimp only at hSw);go_simp;first | done | with_reducible rfl)
  simp only [Act.put,List.setIfInBounds_toArray,List.set_cons_zero,List.set_cons_succ]
  refine Rg.held 11 (v:=?v12) rfl (by kernel_rfl) (fun _ _ _ h=>h) (by rfl) hHeld ?y12 ?h12
  case y12=>(intro wA hSw;(try dsimp only at hSw);go_simp;first | done | with_reducible rfl)
  simp only [Act.put,List.setIfInBounds_toArray,List.set_cons_zero,List.set_cons_succ]
  refine Rg.one 12 rfl (by kernel_rfl) (fun K hK=>?_)
  refine step_is_call 110 rfl rfl ?_
  go_simp
  go_at_call 110
  have hbd:Below W2.heap.size W2 W2.drew:=(Below.refl _ _).drew
  have hbwd:Below w.heap.size w W2.drew:=hbw2.trans (hbd.mono hbw2.size)
  (with_reducible refine (implFlanks hr r.lies j y1 r.frm (-1) A0 A1 A2 (some a5) B2 B4 B5 none Af c0 c1 c2 d3 r.steps.length d2 r.crosses.length d4 r.parts.length d5 0 0 (flanksTo n ss r.lies k).length cf _ (HF.out.below hbwd).net (HF.out.below hbwd).sig (Kn.C_below hbwd H3.out) (by omega) hjl HJK hly).mono ?_)
  rintro e wx ⟨Ag,cg,rfl,hcg,HRg,HOg,hbc⟩
  have hbx:Below W2.heap.size W2 wx:=hbd.trans (hbc.mono hbd.size)
  refine hK.out _ _ ⟨hbx,cell_below hbx t0,cell_below hbx t1,cell_below hbx t2,cell_below hbx q0,cell_below hbx q1,cell_below hbx q2,cell_below hbx q3,cell_below hbx q4,cell_below hbx q5,cell_below hbx q6,cell_below hbx q7,cell_below hbx l0,cell_below hbx l1⟩ ?_
  clear hK K hHeld
  try simp only [Act.put,List.setIfInBounds_toArray,List.set_cons_zero,List.set_cons_succ]
  have m63:(flanksTo n ss r.lies k).length+(flanksAt n ss r.lies ⟨j,y1⟩).length≤maxLen:=by have:=HFN.out;rw [HFS.out,List.length_append] at this;simp only [maxLen];omega
  have mby:((flanksTo n ss r.lies k).length+(flanksAt n ss r.lies ⟨j,y1⟩).length)*32≤140737488355328:=by have:=HFN.out;rw [HFS.out,List.length_append] at this;omega
  obtain ⟨G,HGG⟩:∃G,Hid (flanksAt n ss r.lies ⟨j,y1⟩=G):=⟨_,Lib.hid rfl⟩
  rw [HGG.out] at HRg HOg m63 mby hcg HFS
  rw [HGG.out]
  have hHx:w.heap.size < wx.heap.size:=by have:=hbx.size;omega
  have SRC:Hid (Kn.Src flankK wx nobody Ag G):=Lib.hid (Kn.Src.flat flankK_flat (Rw_slice HRg.out).2.2)
  refine Rg.row [13,14,15] [_,_,_] rfl (by kernel_rfl) ?_
  go_wp2_with (at_builtin;go_loud (refine wpList_append_rw _ rfl (.tmp 43) (.tmp 54) 42 rfl 50 iF _ 32 Try.underlying42 hiF hzF hyF hxF rfl (by decide) (.slice Af (flanksTo n ss r.lies k).length cf) (flanksTo n ss r.lies k) G rfl (HFL2.out.below hbx) (fun _ h=>h.elim) Ag G.length cg rfl rfl SRC.out m63 mby ?_;intro v' w2 HR2 hg2 hat2;obtain ⟨A8,c8,rfl,hc8,_⟩:=HR2.form;have BH:=Lib.hid (Blk.eq (hg2.block w.heap.size hHx (fun q=>own_not HFL2.out HB2.out (by decide) q.symm)) (HB2.out.below hbx HB2.out.lt));have u7:=BH.out.cell 7 rfl;have u8:=BH.out.frozen 7;have hhz2:w.heap.size < w2.heap.size:=BH.out.lt))
  rw [List.length_append] at HR2 hat2
  obtain ⟨W9,hW9,HB9,HR9,HO9,HK9⟩:∃W,W=w2.setCell ⟨w.heap.size,7,none⟩ (.slice A8 ((flanksTo n ss r.lies k).length+G.length) c8)∧Hid (Blk W w.heap.size 44 [.int .i64 r.frm,.int .i64 (-1),.slice B2 r.steps.length d2,.slice (some a5) r.lies.length d3,.slice B4 r.crosses.length d4,.slice B5 r.parts.length d5,.slice none 0 0,.slice A8 ((flanksTo n ss r.lies k).length+G.length) c8])∧Hid (flankK.Rw 50 W nobody (.slice A8 ((flanksTo n ss r.lies k).length+G.length) c8) (flanksTo n ss r.lies (k+1)))∧Hid (∀b,(Value.slice A8 ((flanksTo n ss r.lies k).length+G.length) c8).ownBlock=some b→w.heap.size≤b)∧Hid (Below w.heap.size w W):=by
   refine ⟨_,rfl,Lib.hid (BH.out.set_ 7 _),Lib.hid ?_,Lib.hid (own_next HFO.out hat2 (by omega)),Lib.hid ?_⟩
   ·rw [HFS.out]
    exact Kn.Rw.move (fun k hk=>Below.heap_setCell _ _ _ _ (fun e=>own_not HR2 BH.out (by decide) (by rw [←show k=w.heap.size from e];exact hk))) (fun _ h=>h.elim) HR2
   ·exact (below_push (hbw2.trans (hbx.mono hbw2.size)) hg2 HFO.out (by omega)).setCell (Nat.le_refl _) _
  rw [←hW9]
  clear hW9 BH u7 u8 hhz2 HR2 hg2 hat2 m63 mby SRC HRg HOg hbx hbc hbd hbwd t0 t1 t2 q0 q1 q2 q3 q4 q5 q6 q7 l0 l1
  go_roundw
  case rel=>exact ⟨k+1,(.slice A8 ((flanksTo n ss r.lies k).length+G.length) c8),by omega,by go_num,HB9,HR9,HO9,HK9⟩
  case measure=>simp [intOf];omega
 obtain rfl:k=r.lies.length:=by omega
 have HFN:Hid (flanksTo n ss r.lies r.lies.length=flanksOf n ss r.lies):=Lib.hid (flanksTo_all _ _ _)
 have k4:=HBg.out.cell 4 rfl
 have hvo:∃Ao co,vout=.slice Ao rs.length co∧rs.length≤co:=by obtain ⟨Ao,co,h1,h2,_⟩:=HF.out.out.form;exact ⟨Ao,co,h1,h2⟩
 obtain ⟨Ao,co,rfl,hco⟩:=hvo
 obtain ⟨hn2,hn3,hn4,hn5⟩:=hcap.out
 have y0:=HBr.out.cell 0 rfl
 have y1:=HBr.out.cell 1 rfl
 have y2:=HBr.out.cell 2 rfl
 have y3:=HBr.out.cell 3 rfl
 have y4:=HBr.out.cell 4 rfl
 have y5:=HBr.out.cell 5 rfl
 have y6:=HBr.out.cell 6 rfl
 have y7:=HBr.out.cell 7 rfl
 have HKK:Hid (Keep (fun b=>b=g) w wr):=Lib.hid (Keep.of_below HK.out)
 have HRw:Hid (rK.Rw 44 wr (Out wr (WSet g (.slice Ao rs.length co))) (.slice Ao rs.length co) rs):=Lib.hid ((HF.out.out.below HK.out).mono (Out.below HK.out))
 have HKR:Hid (rK.K wr (Out wr (WSet g (.slice Ao rs.length co))) (fin n ss Q) [.int .i64 r.frm,.int .i64 (-1),.slice B2 r.steps.length d2,.slice B3 r.lies.length d3,.slice B4 r.crosses.length d4,.slice B5 r.parts.length d5,.slice none 0 0,.slice Af (flanksTo n ss r.lies r.lies.length).length cf]):=Lib.hid (by
  rw [HFN.out]
  have hfC:=Rw_slice HFL.out
  rw [HFN.out] at hfC
  have hq:=HQ.out
  have h0:=Out.below (S:=WSet g (.slice Ao rs.length co)) HK.out
  have hx:rK.K wr (Out wr (WSet g (.slice Ao rs.length co))) (fin n ss Q) [.int .i64 r.frm,.int .i64 (-1),.slice B2 r.steps.length d2,.slice B3 r.lies.length d3,.slice B4 r.crosses.length d4,.slice B5 r.parts.length d5,.slice none r.over.length 0,.slice Af (flanksOf n ss r.lies).length cf]:=by
   rw [←hq]
   refine routeK_mk (x:=fin n ss { r with til:=-1 }) hn2 (Kn.C_mono h0 (Kn.C_below HK.out H2.out)) hn3 (Kn.C_mono h0 (Kn.C_below HK.out H3.out)) hn4 (Kn.C_mono h0 (Kn.C_below HK.out H4.out)) hn5 (Kn.C_mono h0 (Kn.C_below HK.out H5.out)) (show (fin n ss { r with til:=-1 }).over.length≤0 by show r.over.length≤0;rw [hov0.out];exact Nat.le_refl _) (by show partK.C _ _ none r.over;rw [hov0.out];exact Kn.C_nil) hfC.2.1 (Kn.C_mono (fun b hb=>?_) hfC.2.2)
   rcases hb with hb | hb
   ·exact hb.elim
   ·have h1:=HFL.out.lt b (by rw [HFN.out];exact hb)
    have h2:=HFO.out b (by rw [HFN.out];exact hb)
    exact ⟨h1,fun e=>HF.out.new h2 e⟩
  rw [show r.over.length=0 by rw [hov0.out];rfl] at hx
  exact hx)
 clear HFL
 go_wp2
 go_region_law (first | (go_loud (refine step_append_rw _ rfl (.tmp 62) (.tmp 64) 30 rfl 44 iR _ 160 Try.underlying30 hiR hzR hyR hxR rfl (by decide) (.slice Ao rs.length co) rs [fin n ss Q] rfl (HRw.out.below (by repeat' first | exact Below.refl _ _ | (refine Below.drew ?_) | (refine Below.alloc ?_ (Nat.le_refl _) _))) (fun b hb e=>hb.2 (.inr e)) (some ⟨wr.heap.size,0,none⟩) 1 1 rfl rfl (Kn.Src.one (Kn.K_below (by repeat' first | exact Below.refl _ _ | (refine Below.drew ?_) | (refine Below.alloc ?_ (Nat.le_refl _) _)) HKR.out) (new_cells _ _ _ rfl)) r63 rby ?_;intro v' w2 HR2 hg2 hat2;obtain ⟨A9,c9,rfl,hc9⟩:=HR2.form1;have BG:Hid (Blk w2 g 121 (walkB n A0 A1 c0 c1 (.slice A2 ss.length c2) ov (.slice Ao rs.length co) tr)):=Lib.hid (Blk.eq (hg2.block g (by have hzz:Below wr.heap.size wr (wr.drew.alloc (.cells #[] 0)):=(Below.refl _ _).drew.alloc (Nat.le_refl _) _;simp;omega) (fun e=>own_not HRw.out HBg.out (by decide) e.symm)) (HBg.out.below (by repeat' first | exact Below.refl _ _ | (refine Below.drew ?_) | (refine Below.alloc ?_ (Nat.le_refl _) _)) hgr));have r7:=BG.out.cell 4 rfl;have r8:=BG.out.frozen 4;have hgz:g < w2.heap.size:=BG.out.lt)))
 all_goals go_end0
 all_goals exact HF.out.push HKK.out HBg.out (by repeat' first | exact Below.refl _ _ | (refine Below.drew ?_) | (refine Below.alloc ?_ (Nat.le_refl _) _)) hg2 HR2 hat2
set_option maxRecDepth 100000 in
set_option maxHeartbeats 8000000 in
theorem implFoundSig {n:Net} {ss:List Signal} {A0 A1 A2 B2 B3 B4 B5:Option Addr} {c0 c1 c2 d2 d3 d4 d5:Nat} {ov tr:Int} {vout:Value} {rs:List Route} {g:Nat} {w:World} (r Q:Route) (b u:Nat) (z0:ByteArray) (z2 z3:Int) (O6:List Part) (hr:Hid (Right n ss)) (hov:Hid (0≤ov∧ov≤100000)) (F:WI w g n ss A0 A1 A2 c0 c1 c2 ov tr vout rs)
  (EB:Hid (ss[b]?=some ⟨z0,u,z2,z3⟩)) (HOO:Hid (beyond n (ov.toNat+1) u z3 (farOf n u z2 z3) ov=O6)) (HQ:Hid ({ r with til:=(b:Int),over:=O6 }=Q))
  (h2:stepK.C w (Out w (WSet g vout)) B2 r.steps) (h3:lieK.C w (Out w (WSet g vout)) B3 r.lies) (h4:Kn.int.C w (Out w (WSet g vout)) B4 r.crosses) (h5:partK.C w (Out w (WSet g vout)) B5 r.parts)
  (hcap:Hid (r.steps.length≤d2∧r.lies.length≤d3∧r.crosses.length≤d4∧r.parts.length≤d5)) (hll:r.lies.length≤201) (hlp:Hid (∀l∈r.lies,lieP n l)) (hrs:rs.length≤300) :
  Calls Try.prog 98 #[.pointer (some ⟨g,0,none⟩),.agg #[.int .i64 r.frm,.int .i64 (b:Int),.slice B2 r.steps.length d2,.slice B3 r.lies.length d3,.slice B4 r.crosses.length d4,.slice B5 r.parts.length d5,.slice none 0 0,.slice none 0 0]] w (RetWI g n ss A0 A1 A2 c0 c1 c2 ov vout (rs++[fin n ss Q],tr) w):=by
 obtain ⟨iR,hiR,hzR,hyR,hxR⟩:=info_parts info44
 obtain ⟨iF,hiF,hzF,hyF,hxF⟩:=info_parts info50
 have HF:=Lib.hid F
 have HG:Hid (Good n):=Lib.hid hr.out.g
 have H2:=Lib.hid h2
 have H3:=Lib.hid h3
 have H4:=Lib.hid h4
 have H5:=Lib.hid h5
 have hnl:=h3.1
 have hgw:=F.f.lt
 clear F h2 h3 h4 h5
 have r63:rs.length+1≤maxLen:=by simp only [maxLen];omega
 have rby:(rs.length+1)*160≤140737488355328:=by omega
 have HML:Hid (∀i,i≤201→i*(2*n.pieces.length)≤40200):=Lib.hid (mul_bound HG.out.le)
 have hbl:b < ss.length:=(List.getElem?_eq_some_iff.1 EB.out).1
 obtain ⟨az,rfl,y0,y1,y2,y3,EZ,k0,k1,k2,k3⟩:=signalK_at HF.out.sig b hbl
 have heq:=Option.some.inj (EB.out.symm.trans EZ.out)
 injection heq with e0 e1 e2 e3
 subst e0
 subst e1
 subst e2
 subst e3
 have HJ:=Lib.hid (sig_in hr.out EB.out)
 have hu:u < n.pieces.length:=by have:=HJ.out.1.1;simp only at this;omega
 have HWY:Hid (z3=1∨z3=-1):=Lib.hid HJ.out.1.2
 have HFAR:Hid (0≤farOf n u z2 z3∧farOf n u z2 z3 < pl n u):=Lib.hid (by have:=HJ.out;simp only at this;unfold farOf;split <;> omega)
 have HAT:Hid (z2=atOf n u z3 (farOf n u z2 z3)):=Lib.hid (by unfold atOf farOf;split <;> omega)
 have j0:(0:Int)≤(b:Int):=Int.natCast_nonneg _
 have j1:(b:Int) < (ss.length:Int):=by omega
 go_enter Try.func98,Try.ntmps98
 go_upto_region 2 with (fail)
 obtain ⟨W1,hW1,hb1,HBR⟩:∃W,W=w.alloc (.cells #[.int .i64 r.frm,.int .i64 (b:Int),.slice B2 r.steps.length d2,.slice B3 r.lies.length d3,.slice B4 r.crosses.length d4,.slice B5 r.parts.length d5,.slice none 0 0,.slice none 0 0] 44)∧Below w.heap.size w W∧Hid (Blk W w.heap.size 44 [.int .i64 r.frm,.int .i64 (b:Int),.slice B2 r.steps.length d2,.slice B3 r.lies.length d3,.slice B4 r.crosses.length d4,.slice B5 r.parts.length d5,.slice none 0 0,.slice none 0 0]):=⟨_,rfl,below_alloc _ _,Lib.hid (Blk.new _ _ _ rfl)⟩
 rw [←hW1]
 clear hW1
 have l0:=cell_below hb1 k0
 have l1:=cell_below hb1 k1
 have l2:=cell_below hb1 k2
 have l3:=cell_below hb1 k3
 have HBg1:Hid (Blk W1 g 121 (walkB n A0 A1 c0 c1 (.slice (some az) ss.length c2) ov vout tr)):=Lib.hid (HF.out.f.below hb1 hgw)
 have t2:=HBg1.out.cell 2 rfl
 have q1:=HBR.out.cell 1 rfl
 have hh1:w.heap.size < W1.heap.size:=HBR.out.lt
 clear k0 k1 k2 k3
 have HS2:Hid (∀w',Below W1.heap.size W1 w'→(fun w'=>w'.cell? ⟨g,2,none⟩=some (.slice (some az) ss.length c2)∧w'.cell? ⟨w.heap.size,1,none⟩=some (.int .i64 b)∧w'.cell? (az.add (b*4))=some (.string z0)∧w'.cell? ⟨(az.add (b*4)).block,(az.add (b*4)).off+1,none⟩=some (.int .i64 u)∧w'.cell? ⟨(az.add (b*4)).block,(az.add (b*4)).off+2,none⟩=some (.int .i64 z2)∧w'.cell? ⟨(az.add (b*4)).block,(az.add (b*4)).off+3,none⟩=some (.int .i64 z3)) w'):=Lib.hid (fun w' hb=>⟨cell_below hb t2,cell_below hb q1,cell_below hb l0,cell_below hb l1,cell_below hb l2,cell_below hb l3⟩)
 refine Rg.start 9 (fun w'=>w'.cell? ⟨g,2,none⟩=some (.slice (some az) ss.length c2)∧w'.cell? ⟨w.heap.size,1,none⟩=some (.int .i64 b)∧w'.cell? (az.add (b*4))=some (.string z0)∧w'.cell? ⟨(az.add (b*4)).block,(az.add (b*4)).off+1,none⟩=some (.int .i64 u)∧w'.cell? ⟨(az.add (b*4)).block,(az.add (b*4)).off+2,none⟩=some (.int .i64 z2)∧w'.cell? ⟨(az.add (b*4)).block,(az.add (b*4)).off+3,none⟩=some (.int .i64 z3)) 10 rfl (by kernel_rfl) ?_
 have hHeld:=HS2.out _ (Below.refl _ _).drew
 refine Rg.pure 0 (v:=?v13) rfl (by kernel_rfl) (fun _ _ _ h=>h) (by rfl) hHeld ?y13 ?h13
 case y13=>(intro wA;go_simp;first | done | with_reducible rfl)
 simp only [Act.put,List.setIfInBounds_toArray,List.set_cons_zero,List.set_cons_succ]
 refine Rg.pure 1 (v:=?v14) rfl (by kernel_rfl) (fun _ _ _ h=>h) (by rfl) hHeld ?y14 ?h14
 case y14=>(intro wA;go_simp;first | done | with_reducible rfl)
 simp only [Act.put,List.setIfInBounds_toArray,List.set_cons_zero,List.set_cons_succ]
 refine Rg.pure 2 (v:=?v15) rfl (by kernel_rfl) (fun _ _ _ h=>h) (by rfl) hHeld ?y15 ?h15
 case y15=>(intro wA;go_simp;first | done | with_reducible rfl)
 simp only [Act.put,List.setIfInBounds_toArray,List.set_cons_zero,List.set_cons_succ]
 refine Rg.held 3 (v:=?v16) rfl (by kernel_rfl) (fun _ _ _ h=>h) (by rfl) hHeld ?y16 ?h16
 case y16=>(intro wA hSw;(try dsimp only at hSw);go_simp;first | done | with_reducible rfl)
 simp only [Act.put,List.setIfInBounds_toArray,List.set_cons_zero,List.set_cons_succ]
 refine Rg.pure 4 (v:=?v17) rfl (by kernel_rfl) (fun _ _ _ h=>h) (by rfl) hHeld ?y17 ?h17
 case y17=>(intro wA;go_simp;first | done | with_reducible rfl)
 simp only [Act.put,List.setIfInBounds_toArray,List.set_cons_zero,List.set_cons_succ]
 refine Rg.held 5 (v:=?v18) rfl (by kernel_rfl) (fun _ _ _ h=>h) (by rfl) hHeld ?y18 ?h18
 case y18=>(intro wA hSw;(try dsimp only at hSw);go_simp;first | done | with_reducible rfl)
 simp only [Act.put,List.setIfInBounds_toArray,List.set_cons_zero,List.set_cons_succ]
 refine Rg.pure 6 (v:=?v19) rfl (by kernel_rfl) (fun _ _ _ h=>h) (by rfl) hHeld ?y19 ?h19
 case y19=>(intro wA;go_simp;first | done | with_reducible rfl)
 simp only [Act.put,List.setIfInBounds_toArray,List.set_cons_zero,List.set_cons_succ]
 refine Rg.held 7 (v:=?v20) rfl (by kernel_rfl) (fun _ _ _ h=>h) (by rfl) hHeld ?y20 ?h20
 case y20=>(intro wA hSw;(try dsimp only at hSw);go_simp;first | done | with_reducible rfl)
 simp only [Act.put,List.setIfInBounds_toArray,List.set_cons_zero,List.set_cons_succ]
 refine Rg.one 8 rfl (by kernel_rfl) (fun K hK=>?_)
 go_simp
 refine hK.out _ _ (HS2.out _ (((Below.refl _ _).drew).alloc (Nat.le_refl _) _)) ?_
 clear hK K hHeld
 try simp only [Act.put,List.setIfInBounds_toArray,List.set_cons_zero,List.set_cons_succ]
 refine Rg.row [9] [_] rfl (by kernel_rfl) ?_
 go_wp2
 obtain ⟨W2,hW2,hb2,HBG2,HBR2,HSB⟩:∃W,W=(W1.alloc (.cells #[.string z0,.int .i64 u,.int .i64 z2,.int .i64 z3] 62)).drew∧Below w.heap.size w W∧Hid (Blk W g 121 (walkB n A0 A1 c0 c1 (.slice (some az) ss.length c2) ov vout tr))∧Hid (Blk W w.heap.size 44 [.int .i64 r.frm,.int .i64 (b:Int),.slice B2 r.steps.length d2,.slice B3 r.lies.length d3,.slice B4 r.crosses.length d4,.slice B5 r.parts.length d5,.slice none 0 0,.slice none 0 0])∧Hid (Blk W W1.heap.size 62 [.string z0,.int .i64 u,.int .i64 z2,.int .i64 z3]) :=
  ⟨_,rfl,(hb1.alloc hb1.size _).drew,Lib.hid (HBg1.out.below (below_alloc _ _).drew HBg1.out.lt),Lib.hid (HBR.out.below (below_alloc _ _).drew HBR.out.lt),Lib.hid (Blk.new W1 _ _ rfl)⟩
 rw [←hW2]
 clear hW2 l0 l1 l2 l3 t2 q1 HBR HBg1 HS2
 have t0:=HBG2.out.cell 0 rfl
 have t1:=HBG2.out.cell 1 rfl
 have t3:=HBG2.out.cell 3 rfl
 have l1:=HSB.out.cell 1 rfl
 have l2:=HSB.out.cell 2 rfl
 have l3:=HSB.out.cell 3 rfl
 have HS3:Hid (∀w',Below W2.heap.size W2 w'→(fun w'=>w'.cell? ⟨g,0,none⟩=some (.slice A0 n.pieces.length c0)∧w'.cell? ⟨g,1,none⟩=some (.slice A1 n.joints.length c1)∧w'.cell? ⟨g,3,none⟩=some (.int .i64 ov)∧w'.cell? ⟨W1.heap.size,1,none⟩=some (.int .i64 u)∧w'.cell? ⟨W1.heap.size,2,none⟩=some (.int .i64 z2)∧w'.cell? ⟨W1.heap.size,3,none⟩=some (.int .i64 z3)) w'):=Lib.hid (fun w' hb=>⟨cell_below hb t0,cell_below hb t1,cell_below hb t3,cell_below hb l1,cell_below hb l2,cell_below hb l3⟩)
 refine Rg.start 16 (fun w'=>w'.cell? ⟨g,0,none⟩=some (.slice A0 n.pieces.length c0)∧w'.cell? ⟨g,1,none⟩=some (.slice A1 n.joints.length c1)∧w'.cell? ⟨g,3,none⟩=some (.int .i64 ov)∧w'.cell? ⟨W1.heap.size,1,none⟩=some (.int .i64 u)∧w'.cell? ⟨W1.heap.size,2,none⟩=some (.int .i64 z2)∧w'.cell? ⟨W1.heap.size,3,none⟩=some (.int .i64 z3)) 18 rfl (by kernel_rfl) ?_
 have hHeld:=HS3.out _ (Below.refl _ _).drew
 refine Rg.pure 0 (v:=?v21) rfl (by kernel_rfl) (fun _ _ _ h=>h) (by rfl) hHeld ?y21 ?h21
 case y21=>(intro wA;go_simp;first | done | with_reducible rfl)
 simp only [Act.put,List.setIfInBounds_toArray,List.set_cons_zero,List.set_cons_succ]
 refine Rg.pure 1 (v:=?v22) rfl (by kernel_rfl) (fun _ _ _ h=>h) (by rfl) hHeld ?y22 ?h22
 case y22=>(intro wA;go_simp;first | done | with_reducible rfl)
 simp only [Act.put,List.setIfInBounds_toArray,List.set_cons_zero,List.set_cons_succ]
 refine Rg.pure 2 (v:=?v23) rfl (by kernel_rfl) (fun _ _ _ h=>h) (by rfl) hHeld ?y23 ?h23
 case y23=>(intro wA;go_simp;first | done | with_reducible rfl)
 simp only [Act.put,List.setIfInBounds_toArray,List.set_cons_zero,List.set_cons_succ]
 refine Rg.held 3 (v:=?v24) rfl (by kernel_rfl) (fun _ _ _ h=>h) (by rfl) hHeld ?y24 ?h24
 case y24=>(intro wA hSw;(try dsimp only at hSw);go_simp;first | done | with_reducible rfl)
 simp only [Act.put,List.setIfInBounds_toArray,List.set_cons_zero,List.set_cons_succ]
 refine Rg.pure 4 (v:=?v25) rfl (by kernel_rfl) (fun _ _ _ h=>h) (by rfl) hHeld ?y25 ?h25
 case y25=>(intro wA;go_simp;first | done | with_reducible rfl)
 simp only [Act.put,List.setIfInBounds_toArray,List.set_cons_zero,List.set_cons_succ]
 refine Rg.held 5 (v:=?v26) rfl (by kernel_rfl) (fun _ _ _ h=>h) (by rfl) hHeld ?y26 ?h26
 case y26=>(intro wA hSw;(try dsimp only at hSw);go_simp;first | done | with_reducible rfl)
 simp only [Act.put,List.setIfInBounds_toArray,List.set_cons_zero,List.set_cons_succ]
 refine Rg.pure 6 (v:=?v27) rfl (by kernel_rfl) (fun _ _ _ h=>h) (by rfl) hHeld ?y27 ?h27
 case y27=>(intro wA;go_simp;first | done | with_reducible rfl)
 simp only [Act.put,List.setIfInBounds_toArray,List.set_cons_zero,List.set_cons_succ]
 refine Rg.held 7 (v:=?v28) rfl (by kernel_rfl) (fun _ _ _ h=>h) (by rfl) hHeld ?y28 ?h28
 case y28=>(intro wA hSw;(try dsimp only at hSw);go_simp;first | done | with_reducible rfl)
 simp only [Act.put,List.setIfInBounds_toArray,List.set_cons_zero,List.set_cons_succ]
 refine Rg.pure 8 (v:=?v29) rfl (by kernel_rfl) (fun _ _ _ h=>h) (by rfl) hHeld ?y29 ?h29
 case y29=>(intro wA;go_simp;first | done | with_reducible rfl)
 simp only [Act.put,List.setIfInBounds_toArray,List.set_cons_zero,List.set_cons_succ]
 refine Rg.held 9 (v:=?v30) rfl (by kernel_rfl) (fun _ _ _ h=>h) (by rfl) hHeld ?y30 ?h30
 case y30=>(intro wA hSw;(try dsimp only at hSw);go_simp;first | done | with_reducible rfl)
 simp only [Act.put,List.setIfInBounds_toArray,List.set_cons_zero,List.set_cons_succ]
 refine Rg.pure 10 (v:=?v31) rfl (by kernel_rfl) (fun _ _ _ h=>h) (by rfl) hHeld ?y31 ?h31
 case y31=>(intro wA;go_simp;first | done | with_reducible rfl)
 simp only [Act.put,List.setIfInBounds_toArray,List.set_cons_zero,List.set_cons_succ]
 refine Rg.pure 11 (v:=?v32) rfl (by kernel_rfl) (fun _ _ _ h=>h) (by rfl) hHeld ?y32 ?h32
 case y32=>(intro wA;go_simp;first | done | with_reducible rfl)
 simp only [Act.put,List.setIfInBounds_toArray,List.set_cons_zero,List.set_cons_succ]
 refine Rg.pure 12 (v:=?v33) rfl (by kernel_rfl) (fun _ _ _ h=>h) (by rfl) hHeld ?y33 ?h33
 case y33=>(intro wA;go_simp;first | done | with_reducible rfl)
 simp only [Act.put,List.setIfInBounds_toArray,List.set_cons_zero,List.set_cons_succ]
 refine Rg.pure 13 (v:=?v34) rfl (by kernel_rfl) (fun _ _ _ h=>h) (by rfl) hHeld ?y34 ?h34
 case y34=>(intro wA;go_simp;first | done | with_reducible rfl)
 simp only [Act.put,List.setIfInBounds_toArray,List.set_cons_zero,List.set_cons_succ]
 refine Rg.held 14 (v:=?v35) rfl (by kernel_rfl) (fun _ _ _ h=>h) (by rfl) hHeld ?y35 ?h35
 case y35=>(intro wA hSw;(try dsimp only at hSw);go_simp;first | done | with_reducible rfl)
 simp only [Act.put,List.setIfInBounds_toArray,List.set_cons_zero,List.set_cons_succ]
 refine Rg.one 15 rfl (by kernel_rfl) (fun K hK=>?_)
 refine step_is_call 109 rfl rfl ?_
 go_simp
 go_at_call 109
 have hbd:Below W2.heap.size W2 W2.drew:=(Below.refl _ _).drew
 (with_reducible refine (implBehind n A0 A1 c0 c1 u z3 (farOf n u z2 z3) z2 ov _ (HF.out.below (hb2.trans (hbd.mono hb2.size))).net HG hu HWY HFAR HAT hov.out.1 hov.out.2).mono ?_)
 rintro e wx ⟨v6,rfl,HR6,HO6,hbc⟩
 rw [HOO.out] at HR6
 obtain ⟨A6,c6,rfl,hc6,_⟩:=HR6.form
 have hbx:Below W2.heap.size W2 wx:=hbd.trans (hbc.mono hbd.size)
 refine hK.out _ _ (HS3.out _ hbx) ?_
 clear hK K hHeld HS3 t0 t1 t3 l1 l2 l3
 try simp only [Act.put,List.setIfInBounds_toArray,List.set_cons_zero,List.set_cons_succ]
 have HBX:Hid (Blk wx w.heap.size 44 [.int .i64 r.frm,.int .i64 (b:Int),.slice B2 r.steps.length d2,.slice B3 r.lies.length d3,.slice B4 r.crosses.length d4,.slice B5 r.parts.length d5,.slice none 0 0,.slice none 0 0]):=Lib.hid (HBR2.out.below hbx HBR2.out.lt)
 have u6:=HBX.out.cell 6 rfl
 have u7:=HBX.out.frozen 6
 have hhx:w.heap.size < wx.heap.size:=HBX.out.lt
 refine Rg.row [16,17] [_,_] rfl (by kernel_rfl) ?_
 go_upto_region 4 with (fail)
 have hbwx:Below w.heap.size w wx:=hb2.trans (hbx.mono hb2.size)
 have hs1:W1.heap.size < W2.heap.size:=HSB.out.lt
 obtain ⟨Wa,hWa,HKa,HBh,HP6⟩:∃W,W=wx.setCell ⟨w.heap.size,6,none⟩ (.slice A6 O6.length c6)∧Hid (Below w.heap.size w W)∧Hid (Blk W w.heap.size 44 [.int .i64 r.frm,.int .i64 (b:Int),.slice B2 r.steps.length d2,.slice B3 r.lies.length d3,.slice B4 r.crosses.length d4,.slice B5 r.parts.length d5,.slice A6 O6.length c6,.slice none 0 0])∧Hid (partK.Rw 48 W nobody (.slice A6 O6.length c6) O6) :=
  ⟨_,rfl,Lib.hid (hbwx.setCell (Nat.le_refl _) _),Lib.hid (HBX.out.set_ 6 _),Lib.hid (Kn.Rw.move (fun k hk=>Below.heap_setCell _ _ _ _ (fun e=>own_not HR6 HBX.out (by decide) (by rw [←show k=w.heap.size from e];exact hk))) (fun _ h=>h.elim) HR6)⟩
 rw [←hWa]
 have HO6:Hid (∀b,(Value.slice A6 O6.length c6).ownBlock=some b→w.heap.size≤b):=Lib.hid (fun b hb=>by have:=HO6 b hb;have h2:W2.drew.heap.size=W2.heap.size:=rfl;omega)
 clear hWa HBX u6 u7 hhx HR6 hbc hbx hbd HBG2 HBR2 HSB hs1 hbwx
 obtain ⟨hgl,hhl⟩:g < w.heap.size∧w.heap.size < Wa.heap.size:=⟨hgw,HBh.out.lt⟩
 have k3:=HBh.out.cell 3 rfl
 go_wp2
 go_loopw [38] (fun i wr=>∃(k:Nat) (vf:Value),k≤r.lies.length∧i=.int .i64 k∧Hid (Blk wr w.heap.size 44 [.int .i64 r.frm,.int .i64 (b:Int),.slice B2 r.steps.length d2,.slice B3 r.lies.length d3,.slice B4 r.crosses.length d4,.slice B5 r.parts.length d5,.slice A6 O6.length c6,vf])∧Hid (flankK.Rw 50 wr nobody vf (flanksTo n ss r.lies k))∧Hid (∀b,vf.ownBlock=some b→w.heap.size≤b)∧Hid (Below w.heap.size w wr)∧Hid (partK.Rw 48 wr nobody (.slice A6 O6.length c6) O6)) (fun i _=>r.lies.length - (intOf i).toNat)
 case atStart=>exact ⟨0,.slice none 0 0,Nat.zero_le _,rfl,HBh,Lib.hid (by rw [flanksTo_zero];exact Kn.Rw.nil),Lib.hid (by simp [Value.ownBlock]),HKa,HP6⟩
 case round =>
 obtain ⟨k,vf,hk,rfl,HBr,HFL,HFO,HK,HP⟩:=hrel
 obtain ⟨Af,cf,rfl,hcf,_⟩:=HFL.out.form
 have HBg:Hid (Blk wr g 121 (walkB n A0 A1 c0 c1 (.slice (some az) ss.length c2) ov vout tr)):=Lib.hid (HF.out.f.below HK.out hgw)
 have hsr:w.heap.size < wr.heap.size:=HBr.out.lt
 have hgr:g < wr.heap.size:=HBg.out.lt
 by_cases hlk:k < r.lies.length
 ·obtain ⟨a5,rfl,y0,y1,E,g0,g1⟩:=lieK_at (Kn.C_below HK.out H3.out) k hlk
  have i0:(0:Int)≤(k:Int):=Int.natCast_nonneg _
  have i1:(k:Int) < (r.lies.length:Int):=by omega
  obtain ⟨j,hjy,hjl,hjk,hly⟩:=hlp.out _ (mem_of_get E.out)
  simp only at hjy hly
  subst hjy
  have HJK:=Lib.hid hjk
  clear hjk
  have HFS:Hid (flanksTo n ss r.lies (k+1)=flanksTo n ss r.lies k++flanksAt n ss r.lies ⟨j,y1⟩):=Lib.hid (flanksTo_succ E.out)
  have HFN:Hid ((flanksTo n ss r.lies (k+1)).length≤40200):=Lib.hid (by have h1:=flanksTo_len (ss:=ss) HG.out hlp.out (k+1);have h2:=HML.out (k+1) (by omega);omega)
  go_upto_region 7 with (fail)
  obtain ⟨W2,hW2,HB2,HL2,hb2⟩:∃W,W=wr.alloc (.cells #[.int .i64 j,.int .i64 y1] 52)∧Hid (Blk W w.heap.size 44 [.int .i64 r.frm,.int .i64 (b:Int),.slice B2 r.steps.length d2,.slice (some a5) r.lies.length d3,.slice B4 r.crosses.length d4,.slice B5 r.parts.length d5,.slice A6 O6.length c6,.slice Af (flanksTo n ss r.lies k).length cf])∧Hid (Blk W wr.heap.size 52 [.int .i64 j,.int .i64 y1])∧Below wr.heap.size wr W :=
   ⟨_,rfl,Lib.hid (HBr.out.below (below_alloc _ _) HBr.out.lt),Lib.hid (Blk.new _ _ _ rfl),below_alloc _ _⟩
  rw [←hW2]
  clear hW2 g0 g1
  have HBg2:Hid (Blk W2 g 121 (walkB n A0 A1 c0 c1 (.slice (some az) ss.length c2) ov vout tr)):=Lib.hid (HBg.out.below hb2 hgr)
  have t0:=HBg2.out.cell 0 rfl
  have t1:=HBg2.out.cell 1 rfl
  have t2:=HBg2.out.cell 2 rfl
  have q0:=HB2.out.cell 0 rfl
  have q1:=HB2.out.cell 1 rfl
  have q2:=HB2.out.cell 2 rfl
  have q3:=HB2.out.cell 3 rfl
  have q4:=HB2.out.cell 4 rfl
  have q5:=HB2.out.cell 5 rfl
  have q6:=HB2.out.cell 6 rfl
  have q7:=HB2.out.cell 7 rfl
  have l0:=HL2.out.cell 0 rfl
  have l1:=HL2.out.cell 1 rfl
  have HFL2:=Lib.hid (HFL.out.below hb2)
  have hbw2:Below w.heap.size w W2:=HK.out.trans (hb2.mono HK.out.size)
  have hh2:w.heap.size < W2.heap.size:=HB2.out.lt
  refine Rg.start 13 (fun w'=>Below W2.heap.size W2 w'∧w'.cell? ⟨g,0,none⟩=some (.slice A0 n.pieces.length c0)∧w'.cell? ⟨g,1,none⟩=some (.slice A1 n.joints.length c1)∧w'.cell? ⟨g,2,none⟩=some (.slice (some az) ss.length c2)∧w'.cell? ⟨w.heap.size,0,none⟩=some (.int .i64 r.frm)∧w'.cell? ⟨w.heap.size,1,none⟩=some (.int .i64 (b:Int))∧w'.cell? ⟨w.heap.size,2,none⟩=some (.slice B2 r.steps.length d2)∧w'.cell? ⟨w.heap.size,3,none⟩=some (.slice (some a5) r.lies.length d3)∧w'.cell? ⟨w.heap.size,4,none⟩=some (.slice B4 r.crosses.length d4)∧w'.cell? ⟨w.heap.size,5,none⟩=some (.slice B5 r.parts.length d5)∧w'.cell? ⟨w.heap.size,6,none⟩=some (.slice A6 O6.length c6)∧w'.cell? ⟨w.heap.size,7,none⟩=some (.slice Af (flanksTo n ss r.lies k).length cf)∧w'.cell? ⟨wr.heap.size,0,none⟩=some (.int .i64 j)∧w'.cell? ⟨wr.heap.size,1,none⟩=some (.int .i64 y1)) 16 rfl (by kernel_rfl) ?_
  have hHeld:(fun w'=>Below W2.heap.size W2 w'∧w'.cell? ⟨g,0,none⟩=some (.slice A0 n.pieces.length c0)∧w'.cell? ⟨g,1,none⟩=some (.slice A1 n.joints.length c1)∧w'.cell? ⟨g,2,none⟩=some (.slice (some az) ss.length c2)∧w'.cell? ⟨w.heap.size,0,none⟩=some (.int .i64 r.frm)∧w'.cell? ⟨w.heap.size,1,none⟩=some (.int .i64 (b:Int))∧w'.cell? ⟨w.heap.size,2,none⟩=some (.slice B2 r.steps.length d2)∧w'.cell? ⟨w.heap.size,3,none⟩=some (.slice (some a5) r.lies.length d3)∧w'.cell? ⟨w.heap.size,4,none⟩=some (.slice B4 r.crosses.length d4)∧w'.cell? ⟨w.heap.size,5,none⟩=some (.slice B5 r.parts.length d5)∧w'.cell? ⟨w.heap.size,6,none⟩=some (.slice A6 O6.length c6)∧w'.cell? ⟨w.heap.size,7,none⟩=some (.slice Af (flanksTo n ss r.lies k).length cf)∧w'.cell? ⟨wr.heap.size,0,none⟩=some (.int .i64 j)∧w'.cell? ⟨wr.heap.size,1,none⟩=some (.int .i64 y1)) W2.drew:=⟨(Below.refl _ _).drew,t0,t1,t2,q0,q1,q2,q3,q4,q5,q6,q7,l0,l1⟩
  refine Rg.pure 0 (v:=?v36) rfl (by kernel_rfl) (fun _ _ _ h=>h) (by rfl) hHeld ?y36 ?h36
  case y36=>(intro wA;go_simp;first | done | with_reducible rfl)
  simp only [Act.put,List.setIfInBounds_toArray,List.set_cons_zero,List.set_cons_succ]
  refine Rg.held 1 (v:=?v37) rfl (by kernel_rfl) (fun _ _ _ h=>h) (by rfl) hHeld ?y37 ?h37
  case y37=>(intro wA hSw;(try dsimp only at hSw);go_simp;first | done | with_reducible rfl)
  simp only [Act.put,List.setIfInBounds_toArray,List.set_cons_zero,List.set_cons_succ]
  refine Rg.pure 2 (v:=?v38) rfl (by kernel_rfl) (fun _ _ _ h=>h) (by rfl) hHeld ?y38 ?h38
  case y38=>(intro wA;go_simp;first | done | with_reducible rfl)
  simp only [Act.put,List.setIfInBounds_toArray,List.set_cons_zero,List.set_cons_succ]
  refine Rg.pure 3 (v:=?v39) rfl (by kernel_rfl) (fun _ _ _ h=>h) (by rfl) hHeld ?y39 ?h39
  case y39=>(intro wA;go_simp;first | done | with_reducible rfl)
  simp only [Act.put,List.setIfInBounds_toArray,List.set_cons_zero,List.set_cons_succ]
  refine Rg.pure 4 (v:=?v40) rfl (by kernel_rfl) (fun _ _ _ h=>h) (by rfl) hHeld ?y40 ?h40
  case y40=>(intro wA;go_simp;first | done | with_reducible rfl)
  simp only [Act.put,List.setIfInBounds_toArray,List.set_cons_zero,List.set_cons_succ]
  refine Rg.held 5 (v:=?v41) rfl (by kernel_rfl) (fun _ _ _ h=>h) (by rfl) hHeld ?y41 ?h41
  case y41=>(intro wA hSw;(try dsimp only at hSw);go_simp;first | done | with_reducible rfl)
  simp only [Act.put,List.setIfInBounds_toArray,List.set_cons_zero,List.set_cons_succ]
  refine Rg.pure 6 (v:=?v42) rfl (by kernel_rfl) (fun _ _ _ h=>h) (by rfl) hHeld ?y42 ?h42
  case y42=>(intro wA;go_simp;first | done | with_reducible rfl)
  simp only [Act.put,List.setIfInBounds_toArray,List.set_cons_zero,List.set_cons_succ]
  refine Rg.pure 7 (v:=?v43) rfl (by kernel_rfl) (fun _ _ _ h=>h) (by rfl) hHeld ?y43 ?h43
  case y43=>(intro wA;go_simp;first | done | with_reducible rfl)
  simp only [Act.put,List.setIfInBounds_toArray,List.set_cons_zero,List.set_cons_succ]
  refine Rg.pure 8 (v:=?v44) rfl (by kernel_rfl) (fun _ _ _ h=>h) (by rfl) hHeld ?y44 ?h44
  case y44=>(intro wA;go_simp;first | done | with_reducible rfl)
  simp only [Act.put,List.setIfInBounds_toArray,List.set_cons_zero,List.set_cons_succ]
  refine Rg.held 9 (v:=?v45) rfl (by kernel_rfl) (fun _ _ _ h=>h) (by rfl) hHeld ?y45 ?h45
  case y45=>(intro wA hSw;(try dsimp only at hSw);go_simp;first | done | with_reducible rfl)
  simp only [Act.put,List.setIfInBounds_toArray,List.set_cons_zero,List.set_cons_succ]
  refine Rg.held 10 (v:=?v46) rfl (by kernel_rfl) (fun _ _ _ h=>h) (by rfl) hHeld ?y46 ?h46
  case y46=>(intro wA hSw;(try dsimp only at hSw);go_simp;first | done | with_reducible rfl)
  simp only [Act.put,List.setIfInBounds_toArray,List.set_cons_zero,List.set_cons_succ]
  refine Rg.held 11 (v:=?v47) rfl (by kernel_rfl) (fun _ _ _ h=>h) (by rfl) hHeld ?y47 ?h47
  case y47=>(intro wA hSw;(try dsimp only at hSw);go_simp;first | done | with_reducible rfl)
  simp only [Act.put,List.setIfInBounds_toArray,List.set_cons_zero,List.set_cons_succ]
  refine Rg.one 12 rfl (by kernel_rfl) (fun K hK=>?_)
  refine step_is_call 110 rfl rfl ?_
  go_simp
  go_at_call 110
  have hbd:Below W2.heap.size W2 W2.drew:=(Below.refl _ _).drew
  have hbwd:Below w.heap.size w W2.drew:=hbw2.trans (hbd.mono hbw2.size)
  (with_reducible refine (implFlanks hr r.lies j y1 r.frm (b:Int) A0 A1 (some az) (some a5) B2 B4 B5 A6 Af c0 c1 c2 d3 r.steps.length d2 r.crosses.length d4 r.parts.length d5 O6.length c6 (flanksTo n ss r.lies k).length cf _ (HF.out.below hbwd).net (HF.out.below hbwd).sig (Kn.C_below hbwd H3.out) (by omega) hjl HJK hly).mono ?_)
  rintro e wx ⟨Ag,cg,rfl,hcg,HRg,HOg,hbc⟩
  have hbx:Below W2.heap.size W2 wx:=hbd.trans (hbc.mono hbd.size)
  refine hK.out _ _ ⟨hbx,cell_below hbx t0,cell_below hbx t1,cell_below hbx t2,cell_below hbx q0,cell_below hbx q1,cell_below hbx q2,cell_below hbx q3,cell_below hbx q4,cell_below hbx q5,cell_below hbx q6,cell_below hbx q7,cell_below hbx l0,cell_below hbx l1⟩ ?_
  clear hK K hHeld
  try simp only [Act.put,List.setIfInBounds_toArray,List.set_cons_zero,List.set_cons_succ]
  have m63:(flanksTo n ss r.lies k).length+(flanksAt n ss r.lies ⟨j,y1⟩).length≤maxLen:=by have:=HFN.out;rw [HFS.out,List.length_append] at this;simp only [maxLen];omega
  have mby:((flanksTo n ss r.lies k).length+(flanksAt n ss r.lies ⟨j,y1⟩).length)*32≤140737488355328:=by have:=HFN.out;rw [HFS.out,List.length_append] at this;omega
  obtain ⟨G,HGG⟩:∃G,Hid (flanksAt n ss r.lies ⟨j,y1⟩=G):=⟨_,Lib.hid rfl⟩
  rw [HGG.out] at HRg HOg m63 mby hcg HFS
  rw [HGG.out]
  have hHx:w.heap.size < wx.heap.size:=by have:=hbx.size;omega
  have SRC:Hid (Kn.Src flankK wx nobody Ag G):=Lib.hid (Kn.Src.flat flankK_flat (Rw_slice HRg.out).2.2)
  refine Rg.row [13,14,15] [_,_,_] rfl (by kernel_rfl) ?_
  go_wp2_with (at_builtin;go_loud (refine wpList_append_rw _ rfl (.tmp 43) (.tmp 54) 42 rfl 50 iF _ 32 Try.underlying42 hiF hzF hyF hxF rfl (by decide) (.slice Af (flanksTo n ss r.lies k).length cf) (flanksTo n ss r.lies k) G rfl (HFL2.out.below hbx) (fun _ h=>h.elim) Ag G.length cg rfl rfl SRC.out m63 mby ?_;intro v' w2 HR2 hg2 hat2;obtain ⟨A8,c8,rfl,hc8,_⟩:=HR2.form;have BH:=Lib.hid (Blk.eq (hg2.block w.heap.size hHx (fun q=>own_not HFL2.out HB2.out (by decide) q.symm)) (HB2.out.below hbx HB2.out.lt));have u7:=BH.out.cell 7 rfl;have u8:=BH.out.frozen 7;have hhz2:w.heap.size < w2.heap.size:=BH.out.lt))
  rw [List.length_append] at HR2 hat2
  obtain ⟨W9,hW9,HB9,HR9,HO9,HK9⟩:∃W,W=w2.setCell ⟨w.heap.size,7,none⟩ (.slice A8 ((flanksTo n ss r.lies k).length+G.length) c8)∧Hid (Blk W w.heap.size 44 [.int .i64 r.frm,.int .i64 (b:Int),.slice B2 r.steps.length d2,.slice (some a5) r.lies.length d3,.slice B4 r.crosses.length d4,.slice B5 r.parts.length d5,.slice A6 O6.length c6,.slice A8 ((flanksTo n ss r.lies k).length+G.length) c8])∧Hid (flankK.Rw 50 W nobody (.slice A8 ((flanksTo n ss r.lies k).length+G.length) c8) (flanksTo n ss r.lies (k+1)))∧Hid (∀b,(Value.slice A8 ((flanksTo n ss r.lies k).length+G.length) c8).ownBlock=some b→w.heap.size≤b)∧Hid (Below w.heap.size w W):=by
   refine ⟨_,rfl,Lib.hid (BH.out.set_ 7 _),Lib.hid ?_,Lib.hid (own_next HFO.out hat2 (by omega)),Lib.hid ?_⟩
   ·rw [HFS.out]
    exact Kn.Rw.move (fun k hk=>Below.heap_setCell _ _ _ _ (fun e=>own_not HR2 BH.out (by decide) (by rw [←show k=w.heap.size from e];exact hk))) (fun _ h=>h.elim) HR2
   ·exact (below_push (hbw2.trans (hbx.mono hbw2.size)) hg2 HFO.out (by omega)).setCell (Nat.le_refl _) _
  have HPx:=HP.out.below (hb2.trans (hbx.mono hb2.size))
  have HPw:partK.Rw 48 w2 nobody (.slice A6 O6.length c6) O6:=Kn.Rw.move (fun k hk=>hg2.block k (HPx.lt k hk) (fun e=>own_apart HPx (HFL2.out.below hbx) (by decide) hk e.symm)) (fun _ h=>h.elim) HPx
  have HP9:Hid (partK.Rw 48 W9 nobody (.slice A6 O6.length c6) O6):=Lib.hid (by rw [hW9];exact Kn.Rw.move (fun k hk=>Below.heap_setCell _ _ _ _ (fun e=>own_not HPw BH.out (by decide) (by rw [←show k=w.heap.size from e];exact hk))) (fun _ h=>h.elim) HPw)
  clear HPx HPw
  rw [←hW9]
  clear hW9 BH u7 u8 hhz2 HR2 hg2 hat2 m63 mby SRC HRg HOg hbx hbc hbd hbwd t0 t1 t2 q0 q1 q2 q3 q4 q5 q6 q7 l0 l1
  go_roundw
  case rel=>exact ⟨k+1,(.slice A8 ((flanksTo n ss r.lies k).length+G.length) c8),by omega,by go_num,HB9,HR9,HO9,HK9,HP9⟩
  case measure=>simp [intOf];omega
 obtain rfl:k=r.lies.length:=by omega
 have HFN:Hid (flanksTo n ss r.lies r.lies.length=flanksOf n ss r.lies):=Lib.hid (flanksTo_all _ _ _)
 have k4:=HBg.out.cell 4 rfl
 have hvo:∃Ao co,vout=.slice Ao rs.length co∧rs.length≤co:=by obtain ⟨Ao,co,h1,h2,_⟩:=HF.out.out.form;exact ⟨Ao,co,h1,h2⟩
 obtain ⟨Ao,co,rfl,hco⟩:=hvo
 obtain ⟨hn2,hn3,hn4,hn5⟩:=hcap.out
 have y0:=HBr.out.cell 0 rfl
 have y1:=HBr.out.cell 1 rfl
 have y2:=HBr.out.cell 2 rfl
 have y3:=HBr.out.cell 3 rfl
 have y4:=HBr.out.cell 4 rfl
 have y5:=HBr.out.cell 5 rfl
 have y6:=HBr.out.cell 6 rfl
 have y7:=HBr.out.cell 7 rfl
 have HKK:Hid (Keep (fun b=>b=g) w wr):=Lib.hid (Keep.of_below HK.out)
 have HRw:Hid (rK.Rw 44 wr (Out wr (WSet g (.slice Ao rs.length co))) (.slice Ao rs.length co) rs):=Lib.hid ((HF.out.out.below HK.out).mono (Out.below HK.out))
 have HKR:Hid (rK.K wr (Out wr (WSet g (.slice Ao rs.length co))) (fin n ss Q) [.int .i64 r.frm,.int .i64 (b:Int),.slice B2 r.steps.length d2,.slice B3 r.lies.length d3,.slice B4 r.crosses.length d4,.slice B5 r.parts.length d5,.slice A6 O6.length c6,.slice Af (flanksTo n ss r.lies r.lies.length).length cf]):=Lib.hid (by
  rw [HFN.out]
  have hfC:=Rw_slice HFL.out
  rw [HFN.out] at hfC
  have hq:=HQ.out
  have h0:=Out.below (S:=WSet g (.slice Ao rs.length co)) HK.out
  have hx:rK.K wr (Out wr (WSet g (.slice Ao rs.length co))) (fin n ss Q) [.int .i64 r.frm,.int .i64 (b:Int),.slice B2 r.steps.length d2,.slice B3 r.lies.length d3,.slice B4 r.crosses.length d4,.slice B5 r.parts.length d5,.slice A6 O6.length c6,.slice Af (flanksOf n ss r.lies).length cf]:=by
   rw [←hq]
   refine routeK_mk (x:=fin n ss { r with til:=(b:Int),over:=O6 }) hn2 (Kn.C_mono h0 (Kn.C_below HK.out H2.out)) hn3 (Kn.C_mono h0 (Kn.C_below HK.out H3.out)) hn4 (Kn.C_mono h0 (Kn.C_below HK.out H4.out)) hn5 (Kn.C_mono h0 (Kn.C_below HK.out H5.out)) (Rw_slice HP.out).2.1 (Kn.C_mono (fun b hb=>by rcases hb with hb | hb;(· exact hb.elim);(· exact ⟨HP.out.lt b hb,fun e=>HF.out.new (HO6.out b hb) e⟩)) (Rw_slice HP.out).2.2) hfC.2.1 (Kn.C_mono (fun b hb=>?_) hfC.2.2)
   rcases hb with hb | hb
   ·exact hb.elim
   ·have h1:=HFL.out.lt b (by rw [HFN.out];exact hb)
    have h2:=HFO.out b (by rw [HFN.out];exact hb)
    exact ⟨h1,fun e=>HF.out.new h2 e⟩
  exact hx)
 clear HFL
 go_wp2
 go_region_law (first | (go_loud (refine step_append_rw _ rfl (.tmp 62) (.tmp 64) 30 rfl 44 iR _ 160 Try.underlying30 hiR hzR hyR hxR rfl (by decide) (.slice Ao rs.length co) rs [fin n ss Q] rfl (HRw.out.below (by repeat' first | exact Below.refl _ _ | (refine Below.drew ?_) | (refine Below.alloc ?_ (Nat.le_refl _) _))) (fun b hb e=>hb.2 (.inr e)) (some ⟨wr.heap.size,0,none⟩) 1 1 rfl rfl (Kn.Src.one (Kn.K_below (by repeat' first | exact Below.refl _ _ | (refine Below.drew ?_) | (refine Below.alloc ?_ (Nat.le_refl _) _)) HKR.out) (new_cells _ _ _ rfl)) r63 rby ?_;intro v' w2 HR2 hg2 hat2;obtain ⟨A9,c9,rfl,hc9⟩:=HR2.form1;have BG:Hid (Blk w2 g 121 (walkB n A0 A1 c0 c1 (.slice (some az) ss.length c2) ov (.slice Ao rs.length co) tr)):=Lib.hid (Blk.eq (hg2.block g (by have hzz:Below wr.heap.size wr (wr.drew.alloc (.cells #[] 0)):=(Below.refl _ _).drew.alloc (Nat.le_refl _) _;simp;omega) (fun e=>own_not HRw.out HBg.out (by decide) e.symm)) (HBg.out.below (by repeat' first | exact Below.refl _ _ | (refine Below.drew ?_) | (refine Below.alloc ?_ (Nat.le_refl _) _)) hgr));have r7:=BG.out.cell 4 rfl;have r8:=BG.out.frozen 4;have hgz:g < w2.heap.size:=BG.out.lt)))
 all_goals go_end0
 all_goals exact HF.out.push HKK.out HBg.out (by repeat' first | exact Below.refl _ _ | (refine Below.drew ?_) | (refine Below.alloc ?_ (Nat.le_refl _) _)) hg2 HR2 hat2
end Go.Proofs.Ytjccgneimknbpaa.L
namespace Go.Proofs.Ytjccgneimknbpaa.L
open Go.RowKit
open Classical
def IsFull (l:Nat) (t:Int) (b:Bool):Prop:=(300 < l∨20000 < t)↔b=true
theorem implFull {n:Net} {A0 A1 Ao:Option Addr} {c0 c1 co g l:Nat} {sv:Value} {ov t:Int} (b:Bool) (w:World) (F:Blk w g 121 (walkB n A0 A1 c0 c1 sv ov (.slice Ao l co) t)) (h:Hid (IsFull l t b)) :
  Calls Try.prog 70 #[.pointer (some ⟨g,0,none⟩)] w (RetB0 b w):=by
 have g4:=F.cell 4 rfl
 have g5:=F.cell 5 rfl
 have hgw:=F.lt
 have hl:=Int.natCast_nonneg l
 clear F
 by_cases l0:300 < l
 ·have HB:Hid (true=b):=Lib.hid (h.out.1 (.inl l0)).symm
  have d0:decide ((300:Int) < (l:Int))=true:=decide_eq_true (by omega)
  go_enter Try.func70,Try.ntmps70
  go_wp2
  go_ret
  exact ⟨by rw [←HB.out];rfl,rfl⟩
 ·have d0:decide ((300:Int) < (l:Int))=false:=decide_eq_false (by omega)
  by_cases l1:20000 < t
  ·have HB:Hid (true=b):=Lib.hid (h.out.1 (.inr l1)).symm
   have d1:decide ((20000:Int) < t)=true:=decide_eq_true (by omega)
   go_enter Try.func70,Try.ntmps70
   go_wp2
   go_ret
   exact ⟨by rw [←HB.out];rfl,rfl⟩
  ·have HB:Hid (false=b):=Lib.hid (by
    cases b with
    | false=>rfl
    | true =>
     rcases h.out.2 rfl with h1 | h1
     ·exact absurd h1 l0
     ·exact absurd h1 l1)
   have d1:decide ((20000:Int) < t)=false:=decide_eq_false (by omega)
   go_enter Try.func70,Try.ntmps70
   go_wp2
   go_ret
   exact ⟨by rw [←HB.out];rfl,rfl⟩
theorem implOn1 (x:Lie) (j:Int) (bj:Nat) (w:World) (F:Blk w bj 3 [.int .i64 j]) :
  Calls Try.prog 103 #[.agg #[.int .i64 x.joint,.int .i64 x.lie],.pointer (some ⟨bj,0,none⟩)] w (RetB (eqv x.joint j) w):=by
 have g0:=F.cell 0 rfl
 have hgw:=F.lt
 clear F
 by_cases e:x.joint=j
 ·have d0:(x.joint == j)=true:=int_eqt e
  have HB:Hid (eqv x.joint j=true):=Lib.hid (eqv_true e)
  clear e
  go_enter Try.func103,Try.ntmps103
  go_wp2
  go_ret
  exact ⟨by rw [HB.out];rfl,below_alloc _ _⟩
 ·have d0:(x.joint == j)=false:=int_eqf e
  have HB:Hid (eqv x.joint j=false):=Lib.hid (eqv_false e)
  clear e
  go_enter Try.func103,Try.ntmps103
  go_wp2
  go_ret
  exact ⟨by rw [HB.out];rfl,below_alloc _ _⟩
def RetIx (lies:List Lie) (j:Int) (w:World) (e:Ending) (w':World):Prop :=
 ∃o:Option Nat,e=.returned (.int .i64 (onum o))∧(o=none→∀(q:Nat) (y:Lie),lies[q]?=some y→¬y.joint=j)∧(∀i,o=some i→∃x,lies[i]?=some x∧x.joint=j∧∀(q:Nat) (y:Lie),q < i→lies[q]?=some y→¬y.joint=j)∧Below w.heap.size w w'
set_option maxHeartbeats 2000000 in
theorem implIndex {ok:Nat→Prop} (lies:List Lie) (A:Option Addr) (c:Nat) (j:Int) (bj:Nat) (w:World) (h:lieK.C w ok A lies) (F:Blk w bj 3 [.int .i64 j]) :
  Calls Try.prog 102 #[.slice A lies.length c,.func (.func 103) #[] #[.pointer (some ⟨bj,0,none⟩)]] w (RetIx lies j w):=by
 have hm:=h.1
 go_enter Try.func102,Try.ntmps102
 go_wp2
 go_loopw [8] (fun i0 wr=>∃k:Nat,k≤lies.length∧i0=.int .i64 k∧Hid (∀(q:Nat) (y:Lie),q < k→lies[q]?=some y→¬y.joint=j)∧Below w.heap.size w wr) (fun i0 _=>lies.length - (intOf i0).toNat)
 case atStart=>exact ⟨0,Nat.zero_le _,rfl,Lib.hid (fun q y hq=>by omega),Below.refl _ _⟩
 case round =>
  obtain ⟨k,hk,rfl,HN,hb⟩:=hrel
  by_cases hlt:k < lies.length
  ·obtain ⟨ad,rfl,y0,y1,E,g0,g1⟩:=lieK_at (Kn.C_below hb h) k hlt
   have i0:(0:Int)≤(k:Int):=Int.natCast_nonneg _
   have i1:(k:Int) < (lies.length:Int):=by omega
   have FR:=F.below hb F.lt
   by_cases e:y0=j
   ·have HB:Hid (eqv y0 j=true):=Lib.hid (eqv_true e)
    have hfin:∀w1,Below wr.heap.size wr w1→RetIx lies j w (.returned (.int .i64 k)) w1:=fun w1 hb1=>⟨some k,rfl,(fun h=>by cases h),(fun i hi=>by
     obtain rfl:=Option.some.inj hi
     exact ⟨_,E.out,e,HN.out⟩),hb.trans (hb1.mono hb.size)⟩
    have HFIN:=Lib.hid hfin
    clear hfin e
    go_wp2_with fail
    refine (implOn1 ⟨y0,y1⟩ j bj wr FR).mono ?_
    rintro e w1 ⟨he,hb1⟩
    have he:e=.returned (.bool true):=by rw [he];show Ending.returned (.bool (eqv y0 j))=_;rw [HB.out]
    subst he
    have hf:=HFIN.out w1 hb1
    go_wp2
    go_ret
    exact hf
   ·have HB:Hid (eqv y0 j=false):=Lib.hid (eqv_false e)
    have HN2:Hid (∀(q:Nat) (y:Lie),q < k+1→lies[q]?=some y→¬y.joint=j):=Lib.hid (fun q y hq hy=>by
     by_cases hqk:q < k
     ·exact HN.out q y hqk hy
     ·obtain rfl:q=k:=by omega
      obtain rfl:=Option.some.inj (hy.symm.trans E.out)
      exact e)
    clear e
    go_wp2_with fail
    refine (implOn1 ⟨y0,y1⟩ j bj wr FR).mono ?_
    rintro e w1 ⟨he,hb1⟩
    have he:e=.returned (.bool false):=by rw [he];show Ending.returned (.bool (eqv y0 j))=_;rw [HB.out]
    subst he
    have hbz:=hb.trans (hb1.mono hb.size)
    clear g0 g1
    go_wp2
    go_roundw
    case rel=>exact ⟨k+1,by omega,by go_num,HN2,hbz⟩
    case measure=>simp [intOf];omega
  ·have hf:RetIx lies j w (.returned (.int .i64 (-1))) wr:=⟨none,rfl,fun _ q y hy=>HN.out q y (by have:=(List.getElem?_eq_some_iff.1 hy).1;omega) hy,(fun i hi=>by cases hi),hb⟩
   go_wp2
   go_ret
   exact hf
def HS (g h:Nat) (vout:Value) (b:Nat):Prop:=WSet g vout b∨b=h
structure PJ (w0 w:World) (g h:Nat) (vout:Value) (r:Route) (tl:Int) (B2 B3 B4 B5:Option Addr) (d2 d3 d4 d5:Nat):Prop where
 K:Below w0.heap.size w0 w
 hh:w0.heap.size≤h
 B:Blk w h 44 [.int .i64 r.frm,.int .i64 tl,.slice B2 r.steps.length d2,.slice B3 r.lies.length d3,.slice B4 r.crosses.length d4,.slice B5 r.parts.length d5,.slice none 0 0,.slice none 0 0]
 s:stepK.C w (Out w (HS g h vout)) B2 r.steps
 l:lieK.C w (Out w (HS g h vout)) B3 r.lies
 c:Kn.int.C w (Out w (HS g h vout)) B4 r.crosses
 p:partK.C w (Out w (HS g h vout)) B5 r.parts
 cap:r.steps.length≤d2∧r.lies.length≤d3∧r.crosses.length≤d4∧r.parts.length≤d5
section
variable {w0 w w1 w2 wr:World} {g h:Nat} {n:Net} {ss:List Signal} {A0 A1 A2:Option Addr} {c0 c1 c2:Nat} {ov tr:Int} {vout vo:Value} {rs:List Route} {r:Route} {tl:Int} {B2 B3 B4 B5 A:Option Addr} {d2 d3 d4 d5 m c:Nat}
theorem PJ.below (hb:Below w.heap.size w w1) (L:PJ w0 w g h vout r tl B2 B3 B4 B5 d2 d3 d4 d5):PJ w0 w1 g h vout r tl B2 B3 B4 B5 d2 d3 d4 d5 :=
 ⟨L.K.trans (hb.mono L.K.size),L.hh,L.B.below hb L.B.lt,Kn.C_keep (Keep.of_below hb) (fun _ _ e=>e) L.s,Kn.C_keep (Keep.of_below hb) (fun _ _ e=>e) L.l,Kn.C_keep (Keep.of_below hb) (fun _ _ e=>e) L.c,Kn.C_keep (Keep.of_below hb) (fun _ _ e=>e) L.p,L.cap⟩
theorem HS.keep (i:Nat) (v:Value):Keep (HS g h vout) w (w.setCell ⟨h,i,none⟩ v):=(Keep.refl _ _).setCell (fun _=>.inr rfl) v
theorem HS.row {α:Type} {d:Kn α} {e t:Nat} {xs:List α} {cs:List Value} (W:WI w0 g n ss A0 A1 A2 c0 c1 c2 ov tr vout rs) (hR:d.Rw e w nobody (.slice A m c) xs) (ho:∀b,(Value.slice A m c).ownBlock=some b→w0.heap.size≤b) (hB:Blk w h t cs) (ht:t≠e) (i:Nat) (v:Value) :
  d.C (w.setCell ⟨h,i,none⟩ v) (Out (w.setCell ⟨h,i,none⟩ v) (HS g h vout)) A xs :=
 Kn.C_keep (HS.keep i v) (fun _ _ e=>e) (Kn.C_mono (fun b hb=>by
  rcases hb with hb | hb
  ·exact hb.elim
  ·refine ⟨hR.lt b hb,fun e=>?_⟩
   rcases e with e | e
   ·exact W.new (ho b hb) e
   ·exact own_not hR hB ht (by rw [←e];exact hb)) (Rw_slice hR).2.2)
theorem PJ.til (L:PJ w0 w g h vout r tl B2 B3 B4 B5 d2 d3 d4 d5) (t:Int):PJ w0 (w.setCell ⟨h,1,none⟩ (.int .i64 t)) g h vout r t B2 B3 B4 B5 d2 d3 d4 d5 :=
 ⟨L.K.setCell L.hh _,L.hh,L.B.set_ 1 _,Kn.C_keep (HS.keep 1 _) (fun _ _ e=>e) L.s,Kn.C_keep (HS.keep 1 _) (fun _ _ e=>e) L.l,Kn.C_keep (HS.keep 1 _) (fun _ _ e=>e) L.c,Kn.C_keep (HS.keep 1 _) (fun _ _ e=>e) L.p,L.cap⟩
theorem PJ.setS (W:WI w0 g n ss A0 A1 A2 c0 c1 c2 ov tr vout rs) (L:PJ w0 w g h vout r tl B2 B3 B4 B5 d2 d3 d4 d5) (hb:Below w.heap.size w w2) {xs:List Step} (hR:stepK.Rw 46 w2 nobody (.slice A m c) xs) (ho:∀b,(Value.slice A m c).ownBlock=some b→w0.heap.size≤b) :
  PJ w0 (w2.setCell ⟨h,2,none⟩ (.slice A m c)) g h vout { r with steps:=xs } tl A B3 B4 B5 c d3 d4 d5:=by
 obtain rfl:=(Rw_slice hR).1
 have L2:=L.below hb
 exact ⟨L2.K.setCell L.hh _,L.hh,L2.B.set_ 2 _,HS.row W hR ho L2.B (by decide) 2 _,Kn.C_keep (HS.keep 2 _) (fun _ _ e=>e) L2.l,Kn.C_keep (HS.keep 2 _) (fun _ _ e=>e) L2.c,Kn.C_keep (HS.keep 2 _) (fun _ _ e=>e) L2.p,(Rw_slice hR).2.1,L.cap.2⟩
theorem PJ.setL (W:WI w0 g n ss A0 A1 A2 c0 c1 c2 ov tr vout rs) (L:PJ w0 w g h vout r tl B2 B3 B4 B5 d2 d3 d4 d5) (hb:Below w.heap.size w w2) {xs:List Lie} (hR:lieK.Rw 52 w2 nobody (.slice A m c) xs) (ho:∀b,(Value.slice A m c).ownBlock=some b→w0.heap.size≤b) :
  PJ w0 (w2.setCell ⟨h,3,none⟩ (.slice A m c)) g h vout { r with lies:=xs } tl B2 A B4 B5 d2 c d4 d5:=by
 obtain rfl:=(Rw_slice hR).1
 have L2:=L.below hb
 exact ⟨L2.K.setCell L.hh _,L.hh,L2.B.set_ 3 _,Kn.C_keep (HS.keep 3 _) (fun _ _ e=>e) L2.s,HS.row W hR ho L2.B (by decide) 3 _,Kn.C_keep (HS.keep 3 _) (fun _ _ e=>e) L2.c,Kn.C_keep (HS.keep 3 _) (fun _ _ e=>e) L2.p,L.cap.1,(Rw_slice hR).2.1,L.cap.2.2⟩
theorem PJ.setC (W:WI w0 g n ss A0 A1 A2 c0 c1 c2 ov tr vout rs) (L:PJ w0 w g h vout r tl B2 B3 B4 B5 d2 d3 d4 d5) (hb:Below w.heap.size w w2) {xs:List Int} (hR:Kn.int.Rw 3 w2 nobody (.slice A m c) xs) (ho:∀b,(Value.slice A m c).ownBlock=some b→w0.heap.size≤b) :
  PJ w0 (w2.setCell ⟨h,4,none⟩ (.slice A m c)) g h vout { r with crosses:=xs } tl B2 B3 A B5 d2 d3 c d5:=by
 obtain rfl:=(Rw_slice hR).1
 have L2:=L.below hb
 exact ⟨L2.K.setCell L.hh _,L.hh,L2.B.set_ 4 _,Kn.C_keep (HS.keep 4 _) (fun _ _ e=>e) L2.s,Kn.C_keep (HS.keep 4 _) (fun _ _ e=>e) L2.l,HS.row W hR ho L2.B (by decide) 4 _,Kn.C_keep (HS.keep 4 _) (fun _ _ e=>e) L2.p,L.cap.1,L.cap.2.1,(Rw_slice hR).2.1,L.cap.2.2.2⟩
theorem PJ.setP (W:WI w0 g n ss A0 A1 A2 c0 c1 c2 ov tr vout rs) (L:PJ w0 w g h vout r tl B2 B3 B4 B5 d2 d3 d4 d5) (hb:Below w.heap.size w w2) {xs:List Part} (hR:partK.Rw 48 w2 nobody (.slice A m c) xs) (ho:∀b,(Value.slice A m c).ownBlock=some b→w0.heap.size≤b) :
  PJ w0 (w2.setCell ⟨h,5,none⟩ (.slice A m c)) g h vout { r with parts:=xs } tl B2 B3 B4 A d2 d3 d4 c:=by
 obtain rfl:=(Rw_slice hR).1
 have L2:=L.below hb
 exact ⟨L2.K.setCell L.hh _,L.hh,L2.B.set_ 5 _,Kn.C_keep (HS.keep 5 _) (fun _ _ e=>e) L2.s,Kn.C_keep (HS.keep 5 _) (fun _ _ e=>e) L2.l,Kn.C_keep (HS.keep 5 _) (fun _ _ e=>e) L2.c,HS.row W hR ho L2.B (by decide) 5 _,L.cap.1,L.cap.2.1,L.cap.2.2.1,(Rw_slice hR).2.1⟩
theorem PJ.lists (L:PJ w0 w g h vout r tl B2 B3 B4 B5 d2 d3 d4 d5):stepK.C w (Out w (WSet g vout)) B2 r.steps∧lieK.C w (Out w (WSet g vout)) B3 r.lies∧Kn.int.C w (Out w (WSet g vout)) B4 r.crosses∧partK.C w (Out w (WSet g vout)) B5 r.parts:=by
 have h:∀b,Out w (HS g h vout) b→Out w (WSet g vout) b:=fun b hb=>⟨hb.1,fun e=>hb.2 (.inl e)⟩
 exact ⟨Kn.C_mono h L.s,Kn.C_mono h L.l,Kn.C_mono h L.c,Kn.C_mono h L.p⟩
theorem PJ.new_ (W:WI w0 g n ss A0 A1 A2 c0 c1 c2 ov tr vout rs) (hb:Below w0.heap.size w0 w) (hh:w0.heap.size≤h) (hB:Blk w h 44 [.int .i64 r.frm,.int .i64 tl,.slice B2 r.steps.length d2,.slice B3 r.lies.length d3,.slice B4 r.crosses.length d4,.slice B5 r.parts.length d5,.slice none 0 0,.slice none 0 0])
  (hs:stepK.C w0 (Out w0 (WSet g vout)) B2 r.steps) (hl:lieK.C w0 (Out w0 (WSet g vout)) B3 r.lies) (hc:Kn.int.C w0 (Out w0 (WSet g vout)) B4 r.crosses) (hp:partK.C w0 (Out w0 (WSet g vout)) B5 r.parts) (hcap:r.steps.length≤d2∧r.lies.length≤d3∧r.crosses.length≤d4∧r.parts.length≤d5) :
  PJ w0 w g h vout r tl B2 B3 B4 B5 d2 d3 d4 d5:=by
 have hm:∀b,Out w0 (WSet g vout) b→Out w (HS g h vout) b:=fun b hbb=>⟨Nat.lt_of_lt_of_le hbb.1 hb.size,fun e=>e.elim hbb.2 (fun e=>by have:=hbb.1;omega)⟩
 exact ⟨hb,hh,hB,Kn.C_mono hm (Kn.C_below hb hs),Kn.C_mono hm (Kn.C_below hb hl),Kn.C_mono hm (Kn.C_below hb hc),Kn.C_mono hm (Kn.C_below hb hp),hcap⟩
theorem PJ.far (L:PJ w0 w g h vout r tl B2 B3 B4 B5 d2 d3 d4 d5) (hk:Keep (WSet g vout) w wr) (hn:Nx vout vo w.heap.size):stepK.C wr (Out wr (WSet g vo)) B2 r.steps∧lieK.C wr (Out wr (WSet g vo)) B3 r.lies∧Kn.int.C wr (Out wr (WSet g vo)) B4 r.crosses∧partK.C wr (Out wr (WSet g vo)) B5 r.parts:=by
 obtain ⟨a1,a2,a3,a4⟩:=L.lists
 exact ⟨Kn.C_keep hk (WSet.next hn) a1,Kn.C_keep hk (WSet.next hn) a2,Kn.C_keep hk (WSet.next hn) a3,Kn.C_keep hk (WSet.next hn) a4⟩
end
end Go.Proofs.Ytjccgneimknbpaa.L
