/- The law FnWhole, walked: it answers true. -/
import Derived.Test.YtjccgneimknbpaaXo
import Derived.WalkMore
set_option linter.unusedVariables false
set_option linter.unusedSimpArgs false
namespace Go.Proofs.Ytjccgneimknbpaa.L
open Go.RowKit
open Classical
def unov (r:Route):Route:={ r with over:=[] }
def unovS (st:St):St:=(st.1.map unov,st.2)
section
variable {n:Net} {ss:List Signal} {ov:Int}
theorem full_unov (st:St):full (unovS st)↔full st:=by unfold full unovS;rw [List.length_map]
theorem unov_sig (r:Route) (p way far:Int) (b:Nat):unov (fin n ss (sigR n ss ov r p way far b))=fin n ss (sigR n ss 0 r p way far b):=by
 unfold unov fin sigR
 have:beyond n ((0:Int).toNat+1) p way (sigFar n ss b p way) 0=[]:=by
  unfold beyond
  rw [if_pos (Int.le_refl 0)]
 rw [this]
theorem unov_end {q:Route} (h:q.over=[]):unov (fin n ss { q with til:=-1 })=fin n ss { q with til:=-1 }:=by
 unfold unov fin
 obtain ⟨a0,a1,a2,a3,a4,a5,a6,a7⟩:=q
 simp only at h ⊢
 rw [h]
theorem goOn_over {r q:Route} {x:Joint} {j k i:Nat} (h:goOn r x j k i=some q):q.over=r.over:=by
 unfold goOn at h
 split at h
 ·obtain ⟨l,_,rfl⟩:=Option.map_eq_some_iff.1 h
  rfl
 split at h
 ·obtain rfl:=Option.some.inj h
  rfl
 ·obtain rfl:=Option.some.inj h
  rfl
theorem kidsTo_unov {go go':St→Route→Int→Int→Int→St} (r:Route) (hr:r.over=[]) (x:Joint) (j k:Nat) (l:List End)
  (hgo:∀st q p way far,q.over=[]→go' (unovS st) q p way far=unovS (go st q p way far)) (st:St):∀i,kidsTo go' r x j k l (unovS st) i=unovS (kidsTo go r x j k l st i)
 | 0=>rfl
 | i+1=>by
  have ih:=kidsTo_unov r hr x j k l hgo st i
  unfold kidsTo
  split
  ·exact ih
  ·split
   ·exact ih
   ·rename_i q hq
    rw [ih]
    exact hgo _ _ _ _ _ (by rw [goOn_over hq,hr])
theorem walkF_unov:∀(m:Nat) (st:St) (r:Route) (p way far:Int),r.over=[]→walkF n ss 0 m (unovS st) r p way far=unovS (walkF n ss ov m st r p way far)
 | 0,st,r,p,way,far,h=>rfl
 | m+1,st,r,p,way,far,h=>by
  by_cases hf:full (st.1,st.2+1)
  ·rw [walkF_full hf,walkF_full (show full ((unovS st).1,(unovS st).2+1) from (full_unov (st.1,st.2+1)).2 hf)]
   rfl
  have hf':¬full ((unovS st).1,(unovS st).2+1):=fun e=>hf ((full_unov (st.1,st.2+1)).1 e)
  cases hb:firstS n ss p way far with
  | some b =>
   rw [walkF_sig hf hb,walkF_sig hf' hb]
   unfold unovS
   simp only [List.map_append,List.map_cons,List.map_nil,unov_sig]
  | none =>
   by_cases hr:(⟨p,way⟩:Step)∈r.steps
   ·rw [walkF_round hf hb hr,walkF_round hf' hb hr]
    rfl
   by_cases h1:(jt n (atJ n (headE p way)).1).kind=1
   ·rw [walkF_end (j:=(atJ n (headE p way)).1) (k:=(atJ n (headE p way)).2) hf hb hr rfl rfl h1,walkF_end (j:=(atJ n (headE p way)).1) (k:=(atJ n (headE p way)).2) hf' hb hr rfl rfl h1]
    unfold unovS
    simp only [List.map_append,List.map_cons,List.map_nil]
    rw [unov_end (q:=r.on n p way far (pl n p)) h]
   ·rw [walkF_on (j:=(atJ n (headE p way)).1) (k:=(atJ n (headE p way)).2) hf hb hr rfl rfl h1,walkF_on (j:=(atJ n (headE p way)).1) (k:=(atJ n (headE p way)).2) hf' hb hr rfl rfl h1]
    exact kidsTo_unov (r.on n p way far (pl n p)) h _ _ _ _ (fun st q p way far hq=>walkF_unov m st q p way far hq) (st.1,st.2+1) _
theorem allF_unov:∀k,allF n ss 0 k=unovS (allF n ss ov k)
 | 0=>rfl
 | k+1=>by
  rw [allF,allF]
  split
  ·exact allF_unov k
  ·rw [allF_unov k]
   exact walkF_unov _ _ _ _ _ _ rfl
theorem routesF_unov (h:0≤ov∧ov≤100000):routesF n ss 0=(routesF n ss ov).map unov:=by
 unfold routesF
 by_cases hs:signalsOk n ss=⟨0,0⟩
 ·have c0:¬(¬signalsOk n ss=⟨0,0⟩∨¬((0:Int)≤0∧(0:Int)≤100000)):=by
   rintro (e | e)
   ·exact e hs
   ·exact e ⟨Int.le_refl _,by omega⟩
  have c1:¬(¬signalsOk n ss=⟨0,0⟩∨¬(0≤ov∧ov≤100000)):=by
   rintro (e | e)
   ·exact e hs
   ·exact e h
  rw [if_neg c0,if_neg c1,allF_unov (ov:=ov)]
  by_cases hf:full (allF n ss ov ss.length)
  ·rw [if_pos hf,if_pos ((full_unov _).2 hf)]
   rfl
  ·rw [if_neg hf,if_neg (fun e=>hf ((full_unov _).1 e))]
   rfl
 ·rw [if_pos (.inl hs),if_pos (.inl hs)]
  rfl
theorem unov_in {r:Route} (hr:r∈routesF n ss ov):unov r∈routesF n ss 0:=by
 obtain ⟨_,h0,h1,_⟩:=routesF_rt hr
 rw [routesF_unov ⟨h0,h1⟩]
 exact List.mem_map_of_mem hr
end
end Go.Proofs.Ytjccgneimknbpaa.L
namespace Go.Proofs.Ytjccgneimknbpaa.L
open Classical
structure LOk (n:Net) (r:Route):Prop where
 one:(r.lies.map Lie.joint).Nodup
 sw:∀l∈r.lies,l.joint∈sws n
theorem sws_mem {n:Net} {j:Nat} (hj:j < n.joints.length) (hk:(jt n j).kind=3):(j:Int)∈sws n:=by
 unfold sws
 exact List.mem_map.2 ⟨j,List.mem_filter.2 ⟨List.mem_range.2 hj,by simpa using hk⟩,rfl⟩
theorem nodup_le {α:Type}:∀(l m:List α),l.Nodup→(∀x∈l,x∈m)→l.length≤m.length
 | [],_,_,_=>Nat.zero_le _
 | a::l,m,hn,hs=>by
  have h1:=nodup_le l (m.erase a) (List.nodup_cons.1 hn).2 (fun x hx=>by
   have hne:x≠a:=fun e=>(List.nodup_cons.1 hn).1 (e▸hx)
   exact (List.mem_erase_of_ne hne).2 (hs x (by simp [hx])))
  have ha:a∈m:=hs a (by simp)
  have h2:=List.length_erase_of_mem ha
  have h3:=List.length_pos_of_mem ha
  rw [List.length_cons]
  omega
theorem eqv_eq {α:Type} {x y:α} (h:eqv x y=true):x=y:=Classical.byContradiction fun e=>by rw [eqv_false e] at h;cases h
theorem LOk.len {n:Net} {r:Route} (h:LOk n r):r.lies.length≤(sws n).length:=by
 have h1:(r.lies.map Lie.joint).length≤(sws n).length:=by
  refine nodup_le _ _ h.one (fun x hx=>?_)
  obtain ⟨l,hl,rfl⟩:=List.mem_map.1 hx
  exact h.sw l hl
 rwa [List.length_map] at h1
theorem goOn_lies {n:Net} {r q:Route} {x:Joint} {j k i:Nat} (hr:LOk n r) (hj:j < n.joints.length) (hx:jt n j=x) (h:goOn r x j k i=some q) :
  LOk n q∧((q.lies=r.lies∧(x.kind=3→∃y∈r.lies,y.joint=j∧y.lie=lieAt k i))∨(x.kind=3∧(∀y∈r.lies,¬y.joint=(j:Int))∧q.lies=r.lies++[⟨j,lieAt k i⟩])):=by
 unfold goOn at h
 split at h
 ·rename_i hk
  obtain ⟨l,hl,rfl⟩:=Option.map_eq_some_iff.1 h
  unfold addLie at hl
  split at hl
  ·rename_i y hy
   split at hl
   ·rename_i hyl
    obtain rfl:=Option.some.inj hl
    have hm:=List.mem_of_find?_eq_some hy
    have he:=List.find?_some hy
    exact ⟨⟨hr.one,hr.sw⟩,.inl ⟨rfl,fun _=>⟨y,hm,eqv_eq he,hyl⟩⟩⟩
   ·cases hl
  ·rename_i hn
   obtain rfl:=Option.some.inj hl
   have hne:∀y∈r.lies,¬y.joint=(j:Int):=fun y hy e=>by
    have:=List.find?_eq_none.1 hn y hy
    exact this (by rw [e];exact eqv_self _)
   refine ⟨⟨?_,?_⟩,.inr ⟨hk,hne,rfl⟩⟩
   ·simp only [List.map_append,List.map_cons,List.map_nil]
    rw [List.nodup_append]
    refine ⟨hr.one,by simp,fun a ha b hb=>?_⟩
    rw [List.mem_singleton.1 hb]
    obtain ⟨y,hy,rfl⟩:=List.mem_map.1 ha
    exact hne y hy
   ·intro l hl
    rcases List.mem_append.1 hl with hl | hl
    ·exact hr.sw l hl
    ·rw [List.mem_singleton.1 hl]
     exact sws_mem hj (by rw [hx];exact hk)
 split at h
 ·rename_i hk3 hk4
  obtain rfl:=Option.some.inj h
  exact ⟨⟨hr.one,hr.sw⟩,.inl ⟨rfl,fun e=>absurd e hk3⟩⟩
 ·rename_i hk3 hk4
  obtain rfl:=Option.some.inj h
  exact ⟨⟨hr.one,hr.sw⟩,.inl ⟨rfl,fun e=>absurd e hk3⟩⟩
theorem free_le {n:Net} {r q:Route} {x:Joint} {j k i:Nat} (hr:LOk n r) (hj:j < n.joints.length) (hx:jt n j=x) (h:goOn r x j k i=some q):free n q≤free n r:=by
 obtain ⟨_,h1⟩:=goOn_lies hr hj hx h
 unfold free
 rcases h1 with ⟨e,_⟩ | ⟨_,_,e⟩
 ·rw [e]
  exact Nat.le_refl _
 ·rw [e,List.length_append,List.length_singleton]
  omega
theorem same_of_joint {r:Route} (h:(r.lies.map Lie.joint).Nodup) {y z:Lie} (hy:y∈r.lies) (hz:z∈r.lies) (he:y.joint=z.joint):y=z:=by
 generalize r.lies=l at h hy hz
 induction l with
 | nil=>cases hy
 | cons a l ih =>
  rw [List.map_cons,List.nodup_cons] at h
  rcases List.mem_cons.1 hy with h1 | h1 <;> rcases List.mem_cons.1 hz with h2 | h2
  ·rw [h1,h2]
  ·exact absurd (List.mem_map.2 ⟨z,h2,by rw [←he,h1]⟩) h.1
  ·exact absurd (List.mem_map.2 ⟨y,h1,by rw [he,h2]⟩) h.1
  ·exact ih h.2 h1 h2
theorem both_new {n:Net} {r q q':Route} {x:Joint} {j:Nat} (hr:LOk n r) (hj:j < n.joints.length) (hx:jt n j=x) (hk:x.kind=3) (h:goOn r x j 0 0=some q) (h':goOn r x j 0 1=some q'):free n q+1=free n r∧free n q'+1=free n r:=by
 obtain ⟨k1,h1⟩:=goOn_lies hr hj hx h
 obtain ⟨k2,h2⟩:=goOn_lies hr hj hx h'
 have c1:=k1.len
 have c2:=k2.len
 unfold free
 rcases h1 with ⟨_,g1⟩ | ⟨_,n1,e1⟩
 ·obtain ⟨y,hy,hyj,hyl⟩:=g1 hk
  rcases h2 with ⟨_,g2⟩ | ⟨_,n2,e2⟩
  ·obtain ⟨z,hz,hzj,hzl⟩:=g2 hk
   have:=same_of_joint hr.one hy hz (hyj.trans hzj.symm)
   rw [this,hzl] at hyl
   simp [lieAt] at hyl
  ·exact absurd hyj (n2 y hy)
 ·rcases h2 with ⟨_,g2⟩ | ⟨_,n2,e2⟩
  ·obtain ⟨z,hz,hzj,hzl⟩:=g2 hk
   exact absurd hzj (n1 z hz)
  ·rw [e1,List.length_append,List.length_singleton] at c1 ⊢
   rw [e2,List.length_append,List.length_singleton] at c2 ⊢
   omega
theorem pow_le2 {a b:Nat} (h:a≤b):2 ^ a≤2 ^ b:=Nat.pow_le_pow_right (by omega) h
theorem pow_one2 (a:Nat):1≤2 ^ a:=Nat.one_le_two_pow
section
variable {n:Net} {go:St→Route→Int→Int→Int→St} {r:Route} {x:Joint} {j k:Nat} {st:St}
theorem kids_one {l:List End} (hr:LOk n r) (hj:j < n.joints.length) (hx:jt n j=x) (hgo:∀st q e,e∈l→LOk n q→(go st q e.piece (wayOf e) 0).1.length≤st.1.length+2 ^ free n q) (st:St) (i:Nat) (hi:i≤1) :
  (kidsTo go r x j k l st i).1.length≤st.1.length+2 ^ free n r:=by
 have hp:=pow_one2 (free n r)
 match i,hi with
 | 0,_=>rw [kidsTo];omega
 | 1,_ =>
  rw [kidsTo]
  split
  ·rw [kidsTo];omega
  rename_i e he
  split
  ·rw [kidsTo];omega
  rename_i q hq
  rw [kidsTo]
  have h1:=hgo st q e (List.mem_of_getElem? he) (goOn_lies hr hj hx hq).1
  have h2:=pow_le2 (free_le hr hj hx hq)
  omega
theorem kids_free (hr:LOk n r) (hj:j < n.joints.length) (hx:jt n j=x) (hgo:∀st q e,e∈across x k→LOk n q→(go st q e.piece (wayOf e) 0).1.length≤st.1.length+2 ^ free n q) (st:St) :
  (kidsTo go r x j k (across x k) st (across x k).length).1.length≤st.1.length+2 ^ free n r:=by
 by_cases h2:(across x k).length≤1
 ·exact kids_one hr hj hx hgo st _ h2
 have hl:(across x k).length=2:=by have:=across_len x k;omega
 have hk:x.kind=3∧k=0:=by
  unfold across at h2
  split at h2
  ·simp at h2
  split at h2
  ·rename_i h3
   split at h2
   ·rename_i h0
    exact ⟨h3,h0⟩
   ·simp at h2
  split at h2 <;> simp at h2
 obtain ⟨hk3,rfl⟩:=hk
 have hp:=pow_one2 (free n r)
 rw [hl,kidsTo]
 split
 ·exact kids_one hr hj hx hgo st 1 (Nat.le_refl _)
 rename_i e1 he1
 split
 ·exact kids_one hr hj hx hgo st 1 (Nat.le_refl _)
 rename_i q1 hq1
 have g1:=hgo (kidsTo go r x j 0 (across x 0) st 1) q1 e1 (List.mem_of_getElem? he1) (goOn_lies hr hj hx hq1).1
 have f1:=pow_le2 (free_le hr hj hx hq1)
 cases he0:(across x 0)[0]? with
 | none =>
  have K:kidsTo go r x j 0 (across x 0) st 1=st:=by rw [kidsTo];simp only [he0];rfl
  rw [K] at g1 ⊢
  omega
 | some e0 =>
  cases hq0:goOn r x j 0 0 with
  | none =>
   have K:kidsTo go r x j 0 (across x 0) st 1=st:=by rw [kidsTo];simp only [he0,hq0];rfl
   rw [K] at g1 ⊢
   omega
  | some q0 =>
   have K:kidsTo go r x j 0 (across x 0) st 1=go st q0 e0.piece (wayOf e0) 0:=by rw [kidsTo];simp only [he0,hq0];rfl
   rw [K] at g1 ⊢
   have g0:=hgo st q0 e0 (List.mem_of_getElem? he0) (goOn_lies hr hj hx hq0).1
   obtain ⟨b0,b1⟩:=both_new hr hj hx hk3 hq0 hq1
   have:2 ^ free n r=2 ^ free n q0+2 ^ free n q1:=by
    rw [show free n q1=free n q0 by omega,←b0,Nat.pow_succ]
    omega
   omega
end
theorem walkF_free {n:Net} {ss:List Signal} {ov:Int} (hg:Good n):∀(m:Nat) (st:St) (r:Route) (p way far:Int),stepP n.pieces.length ⟨p,way⟩→LOk n r→(walkF n ss ov m st r p way far).1.length≤st.1.length+2 ^ free n r
 | 0,st,r,p,way,far,hs,hr=>by rw [walkF];exact Nat.le_add_right _ _
 | m+1,st,r,p,way,far,hs,hr=>by
  have hp:=pow_one2 (free n r)
  by_cases hf:full (st.1,st.2+1)
  ·rw [walkF_full hf]
   simp only
   omega
  cases hb:firstS n ss p way far with
  | some b =>
   rw [walkF_sig hf hb]
   simp only [List.length_append,List.length_singleton]
   omega
  | none =>
   by_cases hrn:(⟨p,way⟩:Step)∈r.steps
   ·rw [walkF_round hf hb hrn]
    simp only
    omega
   obtain ⟨j,k,x,hat,ha,hx,hP,hj,hk⟩:=at_get hg (head_ok hs)
   by_cases hk1:x.kind=1
   ·rw [walkF_end hf hb hrn ha hx hk1]
    simp only [List.length_append,List.length_singleton]
    omega
   ·rw [walkF_on hf hb hrn ha hx hk1]
    have hr':LOk n (r.on n p way far (pl n p)):=⟨hr.one,hr.sw⟩
    exact kids_free hr' hj hx (fun st' q e he hq=>walkF_free hg m st' q e.piece (wayOf e) 0 (step_of_end (across_ok hP hk he)) hq) (st.1,st.2+1)
theorem allF_free {n:Net} {ss:List Signal} {ov:Int} (hr:Right n ss):∀k,(allF n ss ov k).1.length≤k*2 ^ (sws n).length
 | 0=>by rw [allF];exact Nat.zero_le _
 | k+1=>by
  have ih:=allF_free (ov:=ov) hr k
  have e:(k+1)*2 ^ (sws n).length=k*2 ^ (sws n).length+2 ^ (sws n).length:=Nat.succ_mul _ _
  have hp:=pow_one2 (sws n).length
  rw [allF,e]
  split
  ·omega
  ·rename_i s hs
   obtain ⟨_,h1,h2,_⟩:=hr.sig s (List.mem_of_getElem? hs)
   have:=walkF_free (ss:=ss) (ov:=ov) hr.g (2*n.pieces.length+1) (allF n ss ov k) (startR k) s.piece s.way (farOf n s.piece s.at_ s.way) ⟨h1,h2⟩ ⟨List.nodup_nil,fun l hl=>by cases hl⟩
   have hf:free n (startR k)=(sws n).length:=rfl
   rw [hf] at this
   omega
section
variable {n:Net} {go:St→Route→Int→Int→Int→St} {r:Route} {x:Joint} {j k c:Nat}
theorem kids_oneT {l:List End} (hr:LOk n r) (hj:j < n.joints.length) (hx:jt n j=x) (hgo:∀st q e,e∈l→LOk n q→(go st q e.piece (wayOf e) 0).2≤st.2+c*2 ^ free n q) (st:St) (i:Nat) (hi:i≤1) :
  (kidsTo go r x j k l st i).2≤st.2+c*2 ^ free n r:=by
 match i,hi with
 | 0,_=>rw [kidsTo];exact Nat.le_add_right _ _
 | 1,_ =>
  rw [kidsTo]
  split
  ·rw [kidsTo];exact Nat.le_add_right _ _
  rename_i e he
  split
  ·rw [kidsTo];exact Nat.le_add_right _ _
  rename_i q hq
  rw [kidsTo]
  have h1:=hgo st q e (List.mem_of_getElem? he) (goOn_lies hr hj hx hq).1
  have h2:=Nat.mul_le_mul_left c (pow_le2 (free_le hr hj hx hq))
  exact Nat.le_trans h1 (Nat.add_le_add_left h2 _)
theorem kids_tries (hr:LOk n r) (hj:j < n.joints.length) (hx:jt n j=x) (hgo:∀st q e,e∈across x k→LOk n q→(go st q e.piece (wayOf e) 0).2≤st.2+c*2 ^ free n q) (st:St) :
  (kidsTo go r x j k (across x k) st (across x k).length).2≤st.2+c*2 ^ free n r:=by
 by_cases h2:(across x k).length≤1
 ·exact kids_oneT hr hj hx hgo st _ h2
 have hl:(across x k).length=2:=by have:=across_len x k;omega
 have hk:x.kind=3∧k=0:=by
  unfold across at h2
  split at h2
  ·simp at h2
  split at h2
  ·rename_i h3
   split at h2
   ·rename_i h0
    exact ⟨h3,h0⟩
   ·simp at h2
  split at h2 <;> simp at h2
 obtain ⟨hk3,rfl⟩:=hk
 rw [hl,kidsTo]
 split
 ·exact kids_oneT hr hj hx hgo st 1 (Nat.le_refl _)
 rename_i e1 he1
 split
 ·exact kids_oneT hr hj hx hgo st 1 (Nat.le_refl _)
 rename_i q1 hq1
 have g1:=hgo (kidsTo go r x j 0 (across x 0) st 1) q1 e1 (List.mem_of_getElem? he1) (goOn_lies hr hj hx hq1).1
 have f1:=Nat.mul_le_mul_left c (pow_le2 (free_le hr hj hx hq1))
 cases he0:(across x 0)[0]? with
 | none =>
  have K:kidsTo go r x j 0 (across x 0) st 1=st:=by rw [kidsTo];simp only [he0];rfl
  rw [K] at g1 ⊢
  exact Nat.le_trans g1 (Nat.add_le_add_left f1 _)
 | some e0 =>
  cases hq0:goOn r x j 0 0 with
  | none =>
   have K:kidsTo go r x j 0 (across x 0) st 1=st:=by rw [kidsTo];simp only [he0,hq0];rfl
   rw [K] at g1 ⊢
   exact Nat.le_trans g1 (Nat.add_le_add_left f1 _)
  | some q0 =>
   have K:kidsTo go r x j 0 (across x 0) st 1=go st q0 e0.piece (wayOf e0) 0:=by rw [kidsTo];simp only [he0,hq0];rfl
   rw [K] at g1 ⊢
   have g0:=hgo st q0 e0 (List.mem_of_getElem? he0) (goOn_lies hr hj hx hq0).1
   obtain ⟨b0,b1⟩:=both_new hr hj hx hk3 hq0 hq1
   have e:2 ^ free n r=2 ^ free n q0+2 ^ free n q1:=by
    rw [show free n q1=free n q0 by omega,←b0,Nat.pow_succ]
    omega
   have e':c*2 ^ free n r=c*2 ^ free n q0+c*2 ^ free n q1:=by rw [e,Nat.mul_add]
   rw [e']
   omega
end
theorem walkF_tries2 {n:Net} {ss:List Signal} {ov:Int} (hg:Good n):∀(m:Nat) (st:St) (r:Route) (p way far:Int),stepP n.pieces.length ⟨p,way⟩→LOk n r→(walkF n ss ov m st r p way far).2≤st.2+m*2 ^ free n r
 | 0,st,r,p,way,far,hs,hr=>by rw [walkF];exact Nat.le_add_right _ _
 | m+1,st,r,p,way,far,hs,hr=>by
  have hp:=pow_one2 (free n r)
  have e:(m+1)*2 ^ free n r=m*2 ^ free n r+2 ^ free n r:=Nat.succ_mul _ _
  have h0:st.2+1≤st.2+(m+1)*2 ^ free n r:=by
   rw [e]
   have:=Nat.zero_le (m*2 ^ free n r)
   omega
  by_cases hf:full (st.1,st.2+1)
  ·rw [walkF_full hf]
   exact h0
  cases hb:firstS n ss p way far with
  | some b =>
   rw [walkF_sig hf hb]
   exact h0
  | none =>
   by_cases hrn:(⟨p,way⟩:Step)∈r.steps
   ·rw [walkF_round hf hb hrn]
    exact h0
   obtain ⟨j,k,x,hat,ha,hx,hP,hj,hk⟩:=at_get hg (head_ok hs)
   by_cases hk1:x.kind=1
   ·rw [walkF_end hf hb hrn ha hx hk1]
    exact h0
   ·rw [walkF_on hf hb hrn ha hx hk1]
    have hr':LOk n (r.on n p way far (pl n p)):=⟨hr.one,hr.sw⟩
    have:=kids_tries (k:=k) (c:=m) hr' hj hx (fun st' q e he hq=>walkF_tries2 (ss:=ss) (ov:=ov) hg m st' q e.piece (wayOf e) 0 (step_of_end (across_ok hP hk he)) hq) (st.1,st.2+1)
    have hfr:free n (r.on n p way far (pl n p))=free n r:=rfl
    rw [hfr] at this
    refine Nat.le_trans this ?_
    rw [e]
    show st.2+1+m*2 ^ free n r≤_
    omega
theorem allF_tries2 {n:Net} {ss:List Signal} {ov:Int} (hr:Right n ss):∀k,(allF n ss ov k).2≤k*((2*n.pieces.length+1)*2 ^ (sws n).length)
 | 0=>by rw [allF];exact Nat.zero_le _
 | k+1=>by
  have ih:=allF_tries2 (ov:=ov) hr k
  have e:(k+1)*((2*n.pieces.length+1)*2 ^ (sws n).length)=k*((2*n.pieces.length+1)*2 ^ (sws n).length)+(2*n.pieces.length+1)*2 ^ (sws n).length:=Nat.succ_mul _ _
  rw [allF,e]
  split
  ·exact Nat.le_trans ih (Nat.le_add_right _ _)
  ·rename_i s hs
   obtain ⟨_,h1,h2,_⟩:=hr.sig s (List.mem_of_getElem? hs)
   have:=walkF_tries2 (ss:=ss) (ov:=ov) hr.g (2*n.pieces.length+1) (allF n ss ov k) (startR k) s.piece s.way (farOf n s.piece s.at_ s.way) ⟨h1,h2⟩ ⟨List.nodup_nil,fun l hl=>by cases hl⟩
   have hf:free n (startR k)=(sws n).length:=rfl
   rw [hf] at this
   exact Nat.le_trans this (Nat.add_le_add_right ih _)
end Go.Proofs.Ytjccgneimknbpaa.L
namespace Go.Proofs.Ytjccgneimknbpaa.L
open Classical
def othE (e:End):End:=⟨e.piece,1 - e.side⟩
def tailE (p way:Int):End:=if way=1 then ⟨p,0⟩ else ⟨p,1⟩
theorem othE_head {p way:Int} (hw:way=1∨way=-1):othE (headE p way)=tailE p way:=by
 unfold othE headE tailE
 rcases hw with rfl | rfl
 ·simp
 ·simp
theorem tailE_of (e:End) (h:e.side=0∨e.side=1):tailE e.piece (wayOf e)=e:=by
 unfold tailE wayOf
 obtain ⟨p,s⟩:=e
 rcases h with h | h
 ·simp only at h
  subst h
  simp
 ·simp only at h
  subst h
  simp
def laid (r:Route) (j:Nat) (l:Int):Prop:=∃y∈r.lies,y.joint=(j:Int)∧y.lie=l
def Ent (n:Net) (r:Route) (p way:Int):Prop:=(jt n (atJ n (tailE p way)).1).kind=3→1≤(atJ n (tailE p way)).2→laid r (atJ n (tailE p way)).1 ((atJ n (tailE p way)).2:Int)
structure Blocked (n:Net) (r:Route) (T:Nat):Prop where
 new:∀y∈r.lies,¬y.joint=(T:Int)
 sw:(jt n T).kind=3
 lt:T < n.joints.length
 src:(jt n (atJ n (othE (en (jt n T) 0))).1).kind=3∧1≤(atJ n (othE (en (jt n T) 0))).2∧∃l,laid r (atJ n (othE (en (jt n T) 0))).1 l∧¬l=((atJ n (othE (en (jt n T) 0))).2:Int)
theorem not_faced {n:Net} {r:Route} {T:Nat} {p way:Int} {x:Joint} (hr:LOk n r) (hb:Blocked n r T) (he:Ent n r p way) (hw:way=1∨way=-1) (hat:At n (headE p way) T 0 x):False:=by
 have hx:jt n T=x:=by
  unfold jt
  rw [List.getD_eq_getElem?_getD,hat.1]
  rfl
 have h0:en (jt n T) 0=headE p way:=by
  rw [hx]
  unfold en
  rw [List.getD_eq_getElem?_getD,hat.2]
  rfl
 obtain ⟨s1,s2,l,⟨y,hy,hyj,hyl⟩,hne⟩:=hb.src
 rw [h0,othE_head hw] at s1 s2 hyj hne
 obtain ⟨z,hz,hzj,hzl⟩:=he s1 s2
 have:=same_of_joint hr.one hy hz (hyj.trans hzj.symm)
 rw [this,hzl] at hyl
 exact hne hyl.symm
theorem laid_kid {r q:Route} {j:Nat} {l:Int} (h:laid r j l) (hq:∃t,q.lies=r.lies++t):laid q j l:=by
 obtain ⟨y,hy,h1,h2⟩:=h
 obtain ⟨t,ht⟩:=hq
 exact ⟨y,by rw [ht];exact List.mem_append_left _ hy,h1,h2⟩
theorem goOn_more {n:Net} {r q:Route} {x:Joint} {j k i:Nat} (hr:LOk n r) (hj:j < n.joints.length) (hx:jt n j=x) (h:goOn r x j k i=some q):∃t,q.lies=r.lies++t:=by
 rcases (goOn_lies hr hj hx h).2 with ⟨e,_⟩ | ⟨_,_,e⟩
 ·exact ⟨[],by rw [e,List.append_nil]⟩
 ·exact ⟨_,e⟩
theorem Blocked.kid {n:Net} {r q:Route} {T:Nat} (hb:Blocked n r T) (hq:∃t,q.lies=r.lies++t) (hn:∀y∈q.lies,¬y.joint=(T:Int)):Blocked n q T:=by
 obtain ⟨s1,s2,l,hl,hne⟩:=hb.src
 exact ⟨hn,hb.sw,hb.lt,s1,s2,l,laid_kid hl hq,hne⟩
theorem Blocked.free_pos {n:Net} {r:Route} {T:Nat} (hr:LOk n r) (hb:Blocked n r T):1≤free n r:=by
 have h1:((T:Int)::r.lies.map Lie.joint).length≤(sws n).length:=by
  refine nodup_le _ _ (List.nodup_cons.2 ⟨fun hm=>?_,hr.one⟩) (fun x hx=>?_)
  ·obtain ⟨y,hy,he⟩:=List.mem_map.1 hm
   exact hb.new y hy he
  ·rcases List.mem_cons.1 hx with rfl | hx
   ·exact sws_mem hb.lt hb.sw
   ·obtain ⟨y,hy,rfl⟩:=List.mem_map.1 hx
    exact hr.sw y hy
 rw [List.length_cons,List.length_map] at h1
 unfold free
 omega
theorem across_pos {x:Joint} {k i:Nat} {e:End} (h:(across x k)[i]?=some e):∃p,e=en x p∧p < 4∧(x.kind=3→(k=0∧p=i+1)∨(¬k=0∧p=0))∧(x.kind=2→p < 2)∧(x.kind=3→p < 3):=by
 unfold across at h
 split at h
 ·rename_i h2
  match i,h with
  | 0,h =>
   obtain rfl:en x (1 - k)=e:=by simpa using h
   exact ⟨1 - k,rfl,by omega,fun e=>by omega,fun _=>by omega,fun e=>by omega⟩
 split at h
 ·rename_i h2 h3
  split at h
  ·rename_i h0
   match i,h with
   | 0,h =>
    obtain rfl:en x 1=e:=by simpa using h
    exact ⟨1,rfl,by omega,fun _=>.inl ⟨h0,rfl⟩,fun e=>absurd e h2,fun _=>by omega⟩
   | 1,h =>
    obtain rfl:en x 2=e:=by simpa using h
    exact ⟨2,rfl,by omega,fun _=>.inl ⟨h0,rfl⟩,fun e=>absurd e h2,fun _=>by omega⟩
  ·rename_i h0
   match i,h with
   | 0,h =>
    obtain rfl:en x 0=e:=by simpa using h
    exact ⟨0,rfl,by omega,fun _=>.inr ⟨h0,rfl⟩,fun e=>absurd e h2,fun _=>by omega⟩
 split at h
 ·rename_i h2 h3 h4
  match i,h with
  | 0,h =>
   obtain rfl:en x (xr k)=e:=by simpa using h
   refine ⟨xr k,rfl,?_,fun e=>absurd e h3,fun e=>absurd e h2,fun e=>absurd e h3⟩
   unfold xr
   split
   ·omega
   split
   ·omega
   split <;> omega
 ·simp at h
theorem Ent.kid {n:Net} {r q:Route} {x:Joint} {j k i:Nat} {e:End} (hg:Good n) (hr:LOk n r) (hj:j < n.joints.length) (hx:jt n j=x) (hP:jointP n.pieces.length x) (hk:k < x.ends.length) (he:(across x k)[i]?=some e) (h:goOn r x j k i=some q):Ent n q e.piece (wayOf e):=by
 have heP:=across_ok hP hk (List.mem_of_getElem? he)
 obtain ⟨p,rfl,hp4,hp3,hp2,hp33⟩:=across_pos he
 unfold Ent
 rw [tailE_of _ (by have:=heP.2;omega)]
 by_cases hp:p < x.ends.length
 ·have hat:At n (en x p) j p x:=by
   refine ⟨?_,?_⟩
   ·unfold jt at hx
    rw [List.getD_eq_getElem?_getD,List.getElem?_eq_getElem hj] at hx
    rw [List.getElem?_eq_getElem hj]
    exact congrArg some hx
   ·unfold en
    rw [List.getD_eq_getElem?_getD,List.getElem?_eq_getElem hp]
    rfl
  obtain ⟨a1,a2⟩:=atJ_eq hg heP hat
  rw [a1]
  intro h3 h1
  simp only at h3 h1 ⊢
  rw [hx] at h3
  rcases hp3 h3 with ⟨rfl,rfl⟩ | ⟨_,rfl⟩
  ·rcases (goOn_lies hr hj hx h).2 with ⟨e1,g⟩ | ⟨_,_,e1⟩
   ·obtain ⟨y,hy,hyj,hyl⟩:=g h3
    exact ⟨y,by rw [e1];exact hy,hyj,by rw [hyl];simp [lieAt]⟩
   ·exact ⟨⟨j,lieAt 0 i⟩,by rw [e1];simp,rfl,by simp [lieAt]⟩
  ·omega
 ·exfalso
  have hl:=hP.2.1
  have hk12:=hP.1
  by_cases h3:x.kind=3
  ·have:=hp33 h3
   omega
  by_cases h2:x.kind=2
  ·have:=hp2 h2
   omega
  by_cases h4:x.kind=4
  ·omega
  ·have:across x k=[]:=by
    unfold across
    rw [if_neg h2,if_neg h3,if_neg h4]
   rw [this] at he
   simp at he
theorem kid_half {n:Net} {r q:Route} {x:Joint} {j k i T:Nat} (hr:LOk n r) (hj:j < n.joints.length) (hx:jt n j=x) (hb:Blocked n r T) (h:goOn r x j k i=some q) :
  (Blocked n q T∧free n q≤free n r)∨free n q+1=free n r:=by
 obtain ⟨k1,h1⟩:=goOn_lies hr hj hx h
 have hm:=goOn_more hr hj hx h
 rcases h1 with ⟨e,_⟩ | ⟨h3,hn,e⟩
 ·refine .inl ⟨hb.kid hm (by rw [e];exact hb.new),?_⟩
  unfold free
  rw [e]
  exact Nat.le_refl _
 ·refine .inr ?_
  have c:=k1.len
  unfold free
  rw [e,List.length_append,List.length_singleton] at c ⊢
  omega
theorem kids_B {go:St→Route→Int→Int→Int→St} {r:Route} {x:Joint} {j k B:Nat} (st:St)
  (h1:∀st i e q,(across x k)[i]?=some e→goOn r x j k i=some q→(go st q e.piece (wayOf e) 0).1.length≤st.1.length+B)
  (h2:∀st st' e0 e1 q0 q1,(across x k)[0]?=some e0→(across x k)[1]?=some e1→goOn r x j k 0=some q0→goOn r x j k 1=some q1→(go st' q1 e1.piece (wayOf e1) 0).1.length+(go st q0 e0.piece (wayOf e0) 0).1.length≤st'.1.length+st.1.length+B) :
  (kidsTo go r x j k (across x k) st (across x k).length).1.length≤st.1.length+B:=by
 have one:∀st:St,(kidsTo go r x j k (across x k) st 1).1.length≤st.1.length+B:=fun st=>by
  rw [kidsTo]
  split
  ·rw [kidsTo];exact Nat.le_add_right _ _
  rename_i e he
  split
  ·rw [kidsTo];exact Nat.le_add_right _ _
  rename_i q hq
  rw [kidsTo]
  exact h1 st 0 e q he hq
 have hl:=across_len x k
 rcases (show (across x k).length=0∨(across x k).length=1∨(across x k).length=2 by omega) with hl | hl | hl
 ·rw [hl,kidsTo];exact Nat.le_add_right _ _
 ·rw [hl];exact one st
 rw [hl,kidsTo]
 split
 ·exact one st
 rename_i e1 he1
 split
 ·exact one st
 rename_i q1 hq1
 cases he0:(across x k)[0]? with
 | none =>
  have K:kidsTo go r x j k (across x k) st 1=st:=by rw [kidsTo];simp only [he0];rfl
  rw [K]
  exact h1 st 1 e1 q1 he1 hq1
 | some e0 =>
  cases hq0:goOn r x j k 0 with
  | none =>
   have K:kidsTo go r x j k (across x k) st 1=st:=by rw [kidsTo];simp only [he0,hq0];rfl
   rw [K]
   exact h1 st 1 e1 q1 he1 hq1
  | some q0 =>
   have K:kidsTo go r x j k (across x k) st 1=go st q0 e0.piece (wayOf e0) 0:=by rw [kidsTo];simp only [he0,hq0];rfl
   rw [K]
   have:=h2 st (go st q0 e0.piece (wayOf e0) 0) e0 e1 q0 q1 he0 he1 hq0 hq1
   omega
theorem two_kids {x:Joint} {k:Nat} {e:End} (h:(across x k)[1]?=some e):x.kind=3∧k=0:=by
 unfold across at h
 split at h
 ·simp at h
 split at h
 ·rename_i h3
  split at h
  ·rename_i h0
   exact ⟨h3,h0⟩
  ·simp at h
 split at h <;> simp at h
theorem walkF_blocked {n:Net} {ss:List Signal} {ov:Int} (hg:Good n):∀(m:Nat) (st:St) (r:Route) (p way far:Int) (T:Nat),stepP n.pieces.length ⟨p,way⟩→LOk n r→Blocked n r T→Ent n r p way→(walkF n ss ov m st r p way far).1.length≤st.1.length+2 ^ (free n r - 1)
 | 0,st,r,p,way,far,T,hs,hr,hb,he=>by rw [walkF];exact Nat.le_add_right _ _
 | m+1,st,r,p,way,far,T,hs,hr,hb,he=>by
  have hp:=pow_one2 (free n r - 1)
  by_cases hf:full (st.1,st.2+1)
  ·rw [walkF_full hf]
   exact Nat.le_add_right _ _
  cases hbs:firstS n ss p way far with
  | some b =>
   rw [walkF_sig hf hbs]
   simp only [List.length_append,List.length_singleton]
   omega
  | none =>
   by_cases hrn:(⟨p,way⟩:Step)∈r.steps
   ·rw [walkF_round hf hbs hrn]
    exact Nat.le_add_right _ _
   obtain ⟨j,k,x,hat,ha,hx,hP,hj,hk⟩:=at_get hg (head_ok hs)
   by_cases hk1:x.kind=1
   ·rw [walkF_end hf hbs hrn ha hx hk1]
    simp only [List.length_append,List.length_singleton]
    omega
   ·rw [walkF_on hf hbs hrn ha hx hk1]
    have hr':LOk n (r.on n p way far (pl n p)):=⟨hr.one,hr.sw⟩
    have hb':Blocked n (r.on n p way far (pl n p)) T:=⟨hb.new,hb.sw,hb.lt,hb.src⟩
    have hfr:free n (r.on n p way far (pl n p))=free n r:=rfl
    have hpos:=hb.free_pos hr
    refine kids_B (st.1,st.2+1) (fun st' i e q hi hq=>?_) (fun st1 st2 e0 e1 q0 q1 h0 h1 hq0 hq1=>?_)
    ·have hes:=step_of_end (across_ok hP hk (List.mem_of_getElem? hi))
     have hql:=(goOn_lies hr' hj hx hq).1
     rcases kid_half hr' hj hx hb' hq with ⟨hB,hle⟩ | hle
     ·have:=walkF_blocked (ss:=ss) (ov:=ov) hg m st' q e.piece (wayOf e) 0 T hes hql hB (Ent.kid hg hr' hj hx hP hk hi hq)
      have h3:=pow_le2 (show free n q - 1≤free n r - 1 by omega)
      omega
     ·have:=walkF_free (ss:=ss) (ov:=ov) hg m st' q e.piece (wayOf e) 0 hes hql
      rw [show free n q=free n r - 1 by omega] at this
      exact this
    ·obtain ⟨hk3,rfl⟩:=two_kids h1
     have hjT:¬j=T:=fun e=>by
      subst e
      exact not_faced hr hb he hs.2 hat
     obtain ⟨b0,b1⟩:=both_new hr' hj hx hk3 hq0 hq1
     have hq0l:=goOn_lies hr' hj hx hq0
     have hq1l:=goOn_lies hr' hj hx hq1
     have nw:∀{q:Route} {l:Int},q.lies=(r.on n p way far (pl n p)).lies++[⟨j,l⟩]→∀y∈q.lies,¬y.joint=(T:Int):=fun {q l} e y hy=>by
      rw [e] at hy
      rcases List.mem_append.1 hy with hy | hy
      ·exact hb.new y hy
      ·rw [List.mem_singleton.1 hy]
       intro e'
       exact hjT (Int.ofNat.inj e')
     have hB:∀{q:Route} {i:Nat},goOn (r.on n p way far (pl n p)) x j 0 i=some q→free n q+1=free n (r.on n p way far (pl n p))→Blocked n q T:=fun {q i} hq hfq=>by
      rcases (goOn_lies hr' hj hx hq).2 with ⟨e,_⟩ | ⟨_,_,e⟩
      ·unfold free at hfq
       rw [e] at hfq
       omega
      ·exact hb'.kid (goOn_more hr' hj hx hq) (nw e)
     have hB0:=hB hq0 b0
     have hB1:=hB hq1 b1
     have g0:=walkF_blocked (ss:=ss) (ov:=ov) hg m st1 q0 e0.piece (wayOf e0) 0 T (step_of_end (across_ok hP hk (List.mem_of_getElem? h0))) hq0l.1 hB0 (Ent.kid hg hr' hj hx hP hk h0 hq0)
     have g1:=walkF_blocked (ss:=ss) (ov:=ov) hg m st2 q1 e1.piece (wayOf e1) 0 T (step_of_end (across_ok hP hk (List.mem_of_getElem? h1))) hq1l.1 hB1 (Ent.kid hg hr' hj hx hP hk h1 hq1)
     have c0:=hB0.free_pos hq0l.1
     rw [hfr] at b0 b1
     have e2:2 ^ (free n r - 1)=2 ^ (free n q0 - 1)+2 ^ (free n q1 - 1):=by
      rw [show free n r - 1=(free n q0 - 1)+1 by omega,show free n q1 - 1=free n q0 - 1 by omega,Nat.pow_succ]
      omega
     omega
end Go.Proofs.Ytjccgneimknbpaa.L
namespace Go.Proofs.Ytjccgneimknbpaa.L
open Classical
theorem goOn_steps {r q:Route} {x:Joint} {j k i:Nat} (h:goOn r x j k i=some q):q.steps=r.steps:=by
 unfold goOn at h
 split at h
 ·obtain ⟨l,_,rfl⟩:=Option.map_eq_some_iff.1 h
  rfl
 split at h
 ·obtain rfl:=Option.some.inj h
  rfl
 ·obtain rfl:=Option.some.inj h
  rfl
theorem othE_tail {p way:Int} (hw:way=1∨way=-1):othE (tailE p way)=headE p way:=by
 unfold othE headE tailE
 rcases hw with rfl | rfl
 ·simp
 ·simp
theorem othE_oth (e:End):othE (othE e)=e:=by
 obtain ⟨p,s⟩:=e
 unfold othE
 simp only [End.mk.injEq,true_and]
 omega
theorem headE_of (e:End) (h:e.side=0∨e.side=1):headE e.piece (wayOf e)=othE e:=by
 have hw:wayOf e=1∨wayOf e=-1:=by unfold wayOf;split <;> simp
 rw [←othE_tail hw,tailE_of e h]
theorem head_inj {p way p' way':Int} (hw:way=1∨way=-1) (hw':way'=1∨way'=-1) (h:headE p way=headE p' way'):p=p'∧way=way':=by
 unfold headE at h
 rcases hw with rfl | rfl <;> rcases hw' with rfl | rfl <;> simp at h <;> exact ⟨h,rfl⟩
theorem head_tail {p way:Int} (hw:way=1∨way=-1):¬headE p way=tailE p way:=by
 unfold headE tailE
 rcases hw with rfl | rfl <;> simp
structure Chain (n:Net) (r:Route) (p way:Int):Prop where
 tip:∀y∈r.lies,∃s∈r.steps,(s.way=1∨s.way=-1)∧headE s.piece s.way=en (jt n y.joint.toNat) 0
 on:∀y∈r.lies,en (jt n y.joint.toNat) y.lie.toNat=tailE p way∨∃z∈r.lies,othE (en (jt n y.joint.toNat) y.lie.toNat)=en (jt n z.joint.toNat) 0
 off:∀z∈r.lies,¬tailE p way=en (jt n z.joint.toNat) 0
def NewTip (n:Net) (r:Route) (p way:Int):Prop:=(jt n (atJ n (headE p way)).1).kind=3∧(atJ n (headE p way)).2=0∧∀y∈r.lies,¬y.joint=(((atJ n (headE p way)).1:Nat):Int)
theorem jt_get {n:Net} {j:Nat} (hj:j < n.joints.length):n.joints[j]?=some (jt n j):=by
 unfold jt
 rw [List.getD_eq_getElem?_getD,List.getElem?_eq_getElem hj]
 rfl
theorem sws_of {n:Net} {a:Int} (h:a∈sws n):∃j:Nat,a=j∧j < n.joints.length∧(jt n j).kind=3:=by
 unfold sws at h
 obtain ⟨j,hj,rfl⟩:=List.mem_map.1 h
 obtain ⟨h1,h2⟩:=List.mem_filter.1 hj
 exact ⟨j,rfl,List.mem_range.1 h1,by simpa using h2⟩
theorem at_tip {n:Net} {a:Int} (hg:Good n) (h:a∈sws n):At n (en (jt n a.toNat) 0) a.toNat 0 (jt n a.toNat):=by
 obtain ⟨j,rfl,hj,hk⟩:=sws_of h
 rw [show ((j:Int)).toNat=j from rfl]
 have hP:=hg.joint _ (List.mem_of_getElem? (jt_get hj))
 exact ⟨jt_get hj,en_get (by have:=hP.2.1;omega)⟩
theorem Chain.kid {n:Net} {r q:Route} {x:Joint} {p way far:Int} {j i:Nat} {e:End} (hg:Good n) (hr:LOk n r) (hw:way=1∨way=-1) (hc:Chain n r p way) (hj:j < n.joints.length) (hx:jt n j=x) (hP:jointP n.pieces.length x) (hk3:x.kind=3) (hat:At n (headE p way) j 0 x)
  (hi:i < 2) (he:e=en x (i+1)) (hq:q.lies=r.lies++[⟨j,i+1⟩]) (hs:q.steps=r.steps++[⟨p,way⟩]) (hLq:LOk n q):Chain n q e.piece (wayOf e):=by
 have hl:x.ends.length=3:=by have:=hP.2.1;omega
 have heg:x.ends[i+1]?=some e:=by rw [he];exact en_get (by omega)
 have heP:endP n.pieces.length e:=hP.2.2 _ (List.mem_of_getElem? heg)
 have hxg:n.joints[j]?=some x:=by rw [←hx];exact jt_get hj
 have hae:At n e j (i+1) x:=⟨hxg,heg⟩
 have hte:tailE e.piece (wayOf e)=e:=tailE_of _ (by have:=heP.2;omega)
 have h0:headE p way=en x 0:=by
  have:=hat.2
  rw [en_get (by omega)] at this
  exact (Option.some.inj this).symm
 refine ⟨fun y hy=>?_,fun y hy=>?_,fun z hz=>?_⟩
 ·rw [hq] at hy
  rw [hs]
  rcases List.mem_append.1 hy with hy | hy
  ·obtain ⟨s,h1,h2⟩:=hc.tip y hy
   exact ⟨s,List.mem_append_left _ h1,h2⟩
  ·rw [List.mem_singleton.1 hy]
   refine ⟨⟨p,way⟩,List.mem_append_right _ (by simp),hw,?_⟩
   show headE p way=en (jt n j) 0
   rw [hx]
   exact h0
 ·rw [hq] at hy ⊢
  rcases List.mem_append.1 hy with hy | hy
  ·right
   rcases hc.on y hy with h1 | ⟨z,hz,h1⟩
   ·refine ⟨⟨j,i+1⟩,List.mem_append_right _ (by simp),?_⟩
    rw [h1,othE_tail hw]
    show headE p way=en (jt n j) 0
    rw [hx]
    exact h0
   ·exact ⟨z,List.mem_append_left _ hz,h1⟩
  ·left
   rw [List.mem_singleton.1 hy,hte,he]
   show en (jt n j) ((i:Int)+1).toNat=en x (i+1)
   rw [hx]
   rfl
 ·rw [hte]
  intro h1
  have h2:=at_tip hg (hLq.sw z hz)
  rw [←h1] at h2
  have:=(at_one (hg.one e heP) hae h2).2.1
  omega
section
variable {n:Net} {ss:List Signal} {ov:Int}
theorem chain_old {r q:Route} {p way far:Int} {x:Joint} {j k i:Nat} (hg:Good n) (hs:stepP n.pieces.length ⟨p,way⟩) (hr:LOk n r) (hc:Chain n r p way) (hrn:¬(⟨p,way⟩:Step)∈r.steps) (hat:At n (headE p way) j k x) (hx:jt n j=x) (hP:jointP n.pieces.length x) (hj:j < n.joints.length) (hk:k < x.ends.length) (hk3:x.kind=3)
  (hq:goOn (r.on n p way far (pl n p)) x j k i=some q) (hold:q.lies=r.lies):False:=by
 have hr':LOk n (r.on n p way far (pl n p)):=⟨hr.one,hr.sw⟩
 have h0:headE p way=en x k:=by
  have:=hat.2
  rw [en_get hk] at this
  exact (Option.some.inj this).symm
 rcases (goOn_lies hr' hj hx hq).2 with ⟨_,g⟩ | ⟨_,_,e⟩
 ·obtain ⟨y,hy,hyj,hyl⟩:=g hk3
  have hy:y∈r.lies:=hy
  by_cases hk0:k=0
  ·subst hk0
   obtain ⟨s,h1,h2,h3⟩:=hc.tip y hy
   rw [hyj] at h3
   have h3:headE s.piece s.way=en (jt n j) 0:=h3
   rw [hx,←h0] at h3
   obtain ⟨e1,e2⟩:=head_inj h2 hs.2 h3
   obtain ⟨a,b⟩:=s
   simp only at e1 e2 h1
   subst e1 e2
   exact hrn h1
  ·have hl:y.lie.toNat=k:=by
    rw [hyl]
    unfold lieAt
    rw [if_neg hk0]
    rfl
   have hen:en (jt n y.joint.toNat) y.lie.toNat=headE p way:=by
    rw [hl,hyj,h0,←hx]
    rfl
   rcases hc.on y hy with h1 | ⟨z,hz,h1⟩
   ·rw [hen] at h1
    exact head_tail hs.2 h1
   ·rw [hen,othE_head hs.2] at h1
    exact hc.off z hz h1
 ·rw [hold] at e
  have:=congrArg List.length e
  rw [List.length_append,List.length_singleton] at this
  have h2:(r.on n p way far (pl n p)).lies.length=r.lies.length:=rfl
  omega
theorem lieAt_tip (i:Nat):lieAt 0 i=(i:Int)+1:=by
 unfold lieAt
 rw [if_pos rfl]
theorem across_tip {x:Joint} (hk:x.kind=3) {i:Nat} {e:End} (h:(across x 0)[i]?=some e):i < 2∧e=en x (i+1):=by
 unfold across at h
 rw [if_neg (by omega),if_pos hk,if_pos rfl] at h
 match i,h with
 | 0,h=>exact ⟨by omega,by simpa using h.symm⟩
 | 1,h=>exact ⟨by omega,by simpa using h.symm⟩
theorem walkF_nontip (hg:Good n) (h13:∀j,j < n.joints.length→(jt n j).kind=1∨(jt n j).kind=3) (m:Nat) (st:St) (r:Route) (p way far:Int) (hs:stepP n.pieces.length ⟨p,way⟩) (hr:LOk n r) (hc:Chain n r p way) (hn:¬NewTip n r p way) :
  (walkF n ss ov m st r p way far).1.length≤st.1.length+2 ^ (free n r - 1):=by
 have hp:=pow_one2 (free n r - 1)
 match m with
 | 0=>rw [walkF];exact Nat.le_add_right _ _
 | m+1 =>
  by_cases hf:full (st.1,st.2+1)
  ·rw [walkF_full hf]
   exact Nat.le_add_right _ _
  cases hbs:firstS n ss p way far with
  | some b =>
   rw [walkF_sig hf hbs]
   simp only [List.length_append,List.length_singleton]
   omega
  | none =>
   by_cases hrn:(⟨p,way⟩:Step)∈r.steps
   ·rw [walkF_round hf hbs hrn]
    exact Nat.le_add_right _ _
   obtain ⟨j,k,x,hat,ha,hx,hP,hj,hk⟩:=at_get hg (head_ok hs)
   by_cases hk1:x.kind=1
   ·rw [walkF_end hf hbs hrn ha hx hk1]
    simp only [List.length_append,List.length_singleton]
    omega
   rw [walkF_on hf hbs hrn ha hx hk1]
   have hk3:x.kind=3:=by rcases h13 j hj with h | h <;> rw [hx] at h <;> omega
   have hr':LOk n (r.on n p way far (pl n p)):=⟨hr.one,hr.sw⟩
   refine kids_B (st.1,st.2+1) (fun st' i e q hi hq=>?_) (fun st1 st2 e0 e1 q0 q1 h0 h1 hq0 hq1=>?_)
   ·have hes:=step_of_end (across_ok hP hk (List.mem_of_getElem? hi))
    have hql:=(goOn_lies hr' hj hx hq).1
    rcases (goOn_lies hr' hj hx hq).2 with ⟨e',_⟩ | ⟨_,_,e'⟩
    ·exact (chain_old hg hs hr hc hrn hat hx hP hj hk hk3 hq e').elim
    ·have:=walkF_free (ss:=ss) (ov:=ov) hg m st' q e.piece (wayOf e) 0 hes hql
     have hfq:free n q=free n r - 1:=by
      unfold free
      rw [e',List.length_append,List.length_singleton]
      show _ - (r.lies.length+1)=_
      omega
     rw [hfq] at this
     exact this
   ·obtain ⟨_,rfl⟩:=two_kids h1
    exfalso
    refine hn ?_
    unfold NewTip
    rw [ha]
    refine ⟨by rw [hx];exact hk3,rfl,?_⟩
    rcases (goOn_lies hr' hj hx hq0).2 with ⟨e',_⟩ | ⟨_,n0,_⟩
    ·exact (chain_old hg hs hr hc hrn hat hx hP hj hk hk3 hq0 e').elim
    ·exact n0
theorem blocked_of_tip {r q:Route} {x:Joint} {j i i':Nat} {e:End} (hg:Good n) (hj:j < n.joints.length) (hx:jt n j=x) (hP:jointP n.pieces.length x) (hk3:x.kind=3) (hi:i < 2) (hi':i' < 2) (hne:¬i=i') (he:e=en x (i+1))
  {q0:Route} (hq0:q0.lies=r.lies++[⟨j,i+1⟩]) (hq:q.lies=r.lies++[⟨j,i'+1⟩]) (hn:NewTip n q0 e.piece (wayOf e)):∃T,Blocked n q T:=by
 have hl:x.ends.length=3:=by have:=hP.2.1;omega
 have heg:x.ends[i+1]?=some e:=by rw [he];exact en_get (by omega)
 have heP:endP n.pieces.length e:=hP.2.2 _ (List.mem_of_getElem? heg)
 have hxg:n.joints[j]?=some x:=by rw [←hx];exact jt_get hj
 have hae:At n e j (i+1) x:=⟨hxg,heg⟩
 obtain ⟨hn1,hn2,hn3⟩:=hn
 have hes:endP n.pieces.length (headE e.piece (wayOf e)):=head_ok (step_of_end heP)
 obtain ⟨a,b,y,hay,haj,hjy,hPy,hja,hby⟩:=at_get hg hes
 rw [haj] at hn1 hn2 hn3
 simp only at hn1 hn2 hn3
 subst hn2
 have htip:en (jt n a) 0=headE e.piece (wayOf e):=by
  have:=hay.2
  rw [en_get hby] at this
  rw [hjy]
  exact Option.some.inj this
 have hoth:othE (en (jt n a) 0)=e:=by
  rw [htip,headE_of e (by have:=heP.2;omega),othE_oth]
 obtain ⟨c1,c2⟩:=atJ_eq hg heP hae
 refine ⟨a,⟨fun z hz=>?_,hn1,hja,?_⟩⟩
 ·rw [hq] at hz
  rcases List.mem_append.1 hz with hz | hz
  ·exact hn3 z (by rw [hq0];exact List.mem_append_left _ hz)
  ·rw [List.mem_singleton.1 hz]
   exact hn3 ⟨j,i+1⟩ (by rw [hq0];simp)
 ·rw [hoth,c1]
  simp only
  refine ⟨by rw [hx];exact hk3,by omega,(i':Int)+1,⟨⟨j,i'+1⟩,by rw [hq];simp,rfl,rfl⟩,by omega⟩
theorem walkF_chain (hg:Good n) (h13:∀j,j < n.joints.length→(jt n j).kind=1∨(jt n j).kind=3):∀(m:Nat) (st:St) (r:Route) (p way far:Int),stepP n.pieces.length ⟨p,way⟩→LOk n r→Chain n r p way →
  (walkF n ss ov m st r p way far).1.length≤st.1.length+(2 ^ (free n r - 1)+1)
 | 0,st,r,p,way,far,hs,hr,hc=>by rw [walkF];exact Nat.le_add_right _ _
 | m+1,st,r,p,way,far,hs,hr,hc=>by
  have hp:=pow_one2 (free n r - 1)
  by_cases hnt:NewTip n r p way
  rotate_left
  ·have:=walkF_nontip (ss:=ss) (ov:=ov) hg h13 (m+1) st r p way far hs hr hc hnt
   omega
  by_cases hf:full (st.1,st.2+1)
  ·rw [walkF_full hf]
   exact Nat.le_add_right _ _
  cases hbs:firstS n ss p way far with
  | some b =>
   rw [walkF_sig hf hbs]
   simp only [List.length_append,List.length_singleton]
   omega
  | none =>
   by_cases hrn:(⟨p,way⟩:Step)∈r.steps
   ·rw [walkF_round hf hbs hrn]
    exact Nat.le_add_right _ _
   obtain ⟨j,k,x,hat,ha,hx,hP,hj,hk⟩:=at_get hg (head_ok hs)
   obtain ⟨t1,t2,t3⟩:=hnt
   rw [ha] at t1 t2 t3
   simp only at t1 t2 t3
   subst t2
   rw [hx] at t1
   rw [walkF_on hf hbs hrn ha hx (by omega)]
   have hr':LOk n (r.on n p way far (pl n p)):=⟨hr.one,hr.sw⟩
   have hnew:∀{i:Nat} {q:Route},goOn (r.on n p way far (pl n p)) x j 0 i=some q→q.lies=r.lies++[⟨j,(i:Int)+1⟩]∧free n q=free n r - 1∧free n q+1=free n r∧LOk n q:=fun {i q} hq=>by
    obtain ⟨hL,h1⟩:=goOn_lies hr' hj hx hq
    rcases h1 with ⟨e',g⟩ | ⟨_,_,e'⟩
    ·exact (chain_old hg hs hr hc hrn hat hx hP hj hk t1 hq e').elim
    ·rw [lieAt_tip] at e'
     have e2:q.lies=r.lies++[⟨j,(i:Int)+1⟩]:=e'
     have hlen:=hL.len
     refine ⟨e2,?_,?_,hL⟩
     ·unfold free
      rw [e2,List.length_append,List.length_singleton]
      omega
     ·unfold free
      rw [e2,List.length_append,List.length_singleton] at hlen ⊢
      omega
   have kid:∀{i:Nat} {e:End} {q:Route},(across x 0)[i]?=some e→goOn (r.on n p way far (pl n p)) x j 0 i=some q→Chain n q e.piece (wayOf e):=fun {i e q} hi hq=>by
    obtain ⟨i2,he⟩:=across_tip t1 hi
    exact Chain.kid (far:=far) hg hr hs.2 hc hj hx hP t1 hat i2 he (hnew hq).1 (by rw [goOn_steps hq];rfl) (hnew hq).2.2.2
   refine kids_B (st.1,st.2+1) (fun st' i e q hi hq=>?_) (fun st1 st2 e0 e1 q0 q1 h0 h1 hq0 hq1=>?_)
   ·have:=walkF_chain hg h13 m st' q e.piece (wayOf e) 0 (step_of_end (across_ok hP hk (List.mem_of_getElem? hi))) (hnew hq).2.2.2 (kid hi hq)
    have h3:=pow_le2 (show free n q - 1≤free n r - 1 by have:=(hnew hq).2.1;omega)
    omega
   ·obtain ⟨n0,f0,g0,L0⟩:=hnew hq0
    obtain ⟨n1,f1,g1,L1⟩:=hnew hq1
    have s0:=step_of_end (across_ok hP hk (List.mem_of_getElem? h0))
    have s1:=step_of_end (across_ok hP hk (List.mem_of_getElem? h1))
    obtain ⟨i0,he0⟩:=across_tip t1 h0
    obtain ⟨i1,he1⟩:=across_tip t1 h1
    have C0:=kid h0 hq0
    have C1:=kid h1 hq1
    have E0:=Ent.kid hg hr' hj hx hP hk h0 hq0
    have E1:=Ent.kid hg hr' hj hx hP hk h1 hq1
    have W0:=walkF_chain hg h13 m st1 q0 e0.piece (wayOf e0) 0 s0 L0 C0
    have W1:=walkF_chain hg h13 m st2 q1 e1.piece (wayOf e1) 0 s1 L1 C1
    have B0:NewTip n q1 e1.piece (wayOf e1)→(walkF n ss ov m st1 q0 e0.piece (wayOf e0) 0).1.length≤st1.1.length+2 ^ (free n q0 - 1)∧1≤free n q0:=fun ht=>by
     obtain ⟨T,hT⟩:=blocked_of_tip (r:=r) hg hj hx hP t1 i1 i0 (by omega) he1 n1 n0 ht
     exact ⟨walkF_blocked hg m st1 q0 e0.piece (wayOf e0) 0 T s0 L0 hT E0,hT.free_pos L0⟩
    have B1:NewTip n q0 e0.piece (wayOf e0)→(walkF n ss ov m st2 q1 e1.piece (wayOf e1) 0).1.length≤st2.1.length+2 ^ (free n q1 - 1)∧1≤free n q1:=fun ht=>by
     obtain ⟨T,hT⟩:=blocked_of_tip (r:=r) hg hj hx hP t1 i0 i1 (by omega) he0 n0 n1 ht
     exact ⟨walkF_blocked hg m st2 q1 e1.piece (wayOf e1) 0 T s1 L1 hT E1,hT.free_pos L1⟩
    have e2:1≤free n q0→2 ^ (free n r - 1)=2 ^ (free n q0 - 1)+2 ^ (free n q1 - 1):=fun hz=>by
     rw [show free n r - 1=(free n q0 - 1)+1 by omega,show free n q1 - 1=free n q0 - 1 by omega,Nat.pow_succ]
     omega
    by_cases ht0:NewTip n q0 e0.piece (wayOf e0)
    ·obtain ⟨w1,z1⟩:=B1 ht0
     have:=e2 (by omega)
     omega
    ·have N0:=walkF_nontip (ss:=ss) (ov:=ov) hg h13 m st1 q0 e0.piece (wayOf e0) 0 s0 L0 C0 ht0
     by_cases ht1:NewTip n q1 e1.piece (wayOf e1)
     ·obtain ⟨w0,z0⟩:=B0 ht1
      have:=e2 z0
      omega
     ·have N1:=walkF_nontip (ss:=ss) (ov:=ov) hg h13 m st2 q1 e1.piece (wayOf e1) 0 s1 L1 C1 ht1
      by_cases hz:1≤free n q0
      ·have:=e2 hz
       omega
      ·have a0:free n q0=0:=by omega
       have a1:free n q1=0:=by omega
       rw [a0] at N0
       rw [a1] at N1
       have:(2:Nat) ^ (0 - 1)=1:=rfl
       omega
theorem allF_chain (hr:Right n ss) (h13:∀j,j < n.joints.length→(jt n j).kind=1∨(jt n j).kind=3):∀k,(allF n ss ov k).1.length≤k*(2 ^ ((sws n).length - 1)+1)
 | 0=>by rw [allF];exact Nat.zero_le _
 | k+1=>by
  have ih:=allF_chain hr h13 k
  have e:(k+1)*(2 ^ ((sws n).length - 1)+1)=k*(2 ^ ((sws n).length - 1)+1)+(2 ^ ((sws n).length - 1)+1):=Nat.succ_mul _ _
  rw [allF,e]
  split
  ·exact Nat.le_trans ih (Nat.le_add_right _ _)
  ·rename_i s hs
   obtain ⟨_,h1,h2,_⟩:=hr.sig s (List.mem_of_getElem? hs)
   have hL:LOk n (startR k):=⟨List.nodup_nil,fun l hl=>(by cases hl)⟩
   have hC:Chain n (startR k) s.piece s.way:=⟨fun y hy=>(by cases hy),fun y hy=>(by cases hy),fun y hy=>(by cases hy)⟩
   have:=walkF_chain (ss:=ss) (ov:=ov) hr.g h13 (2*n.pieces.length+1) (allF n ss ov k) (startR k) s.piece s.way (farOf n s.piece s.at_ s.way) ⟨h1,h2⟩ hL hC
   have hf:free n (startR k)=(sws n).length:=rfl
   rw [hf] at this
   exact Nat.le_trans this (Nat.add_le_add_right ih _)
end
end Go.Proofs.Ytjccgneimknbpaa.L
namespace Go.Proofs.Ytjccgneimknbpaa.L
open Classical
def Lf (ls:List Int) (j:Nat):Int:=ls.getD j 0
def okLie (ls:List Int) (l:Lie):Prop:=ls[l.joint.toNat]?=some l.lie
structure LiesOk (n:Net) (ls:List Int):Prop where
 len:ls.length=n.joints.length
 two:∀j,j < n.joints.length→(jt n j).kind=3→Lf ls j=1∨Lf ls j=2
noncomputable def nxE (n:Net) (ls:List Int) (p way:Int):Option End :=
 if (jt n (atJ n (headE p way)).1).kind=3∧0 < (atJ n (headE p way)).2∧¬Lf ls (atJ n (headE p way)).1=((atJ n (headE p way)).2:Int) then none
 else some ((across (jt n (atJ n (headE p way)).1) (atJ n (headE p way)).2).getD (if (jt n (atJ n (headE p way)).1).kind=3∧(atJ n (headE p way)).2=0 then (Lf ls (atJ n (headE p way)).1 - 1).toNat else 0) ⟨0,0⟩)
noncomputable def followF (n:Net) (ss:List Signal) (ls:List Int):Nat→Int→Int→Int→Option (List Step × Int)
 | 0,_,_,_=>none
 | m+1,p,way,far=>match firstS n ss p way far with
  | some b=>some ([⟨p,way⟩],(b:Int))
  | none =>
   if (jt n (atJ n (headE p way)).1).kind=1 then some ([⟨p,way⟩],-1)
   else (nxE n ls p way).bind (fun e=>(followF n ss ls m e.piece (wayOf e) 0).map (fun r=>(⟨p,way⟩::r.1,r.2)))
section
variable {n:Net} {ss:List Signal} {ov:Int} {ls:List Int}
theorem follow_mono:∀(m:Nat) (p way far:Int) (res:List Step × Int) (g:Nat),followF n ss ls m p way far=some res→followF n ss ls (m+g) p way far=some res
 | 0,p,way,far,res,g,h=>by rw [followF] at h;cases h
 | m+1,p,way,far,res,g,h=>by
  rw [show m+1+g=(m+g)+1 by omega]
  rw [followF] at h ⊢
  cases hb:firstS n ss p way far with
  | some b =>
   simp only [hb] at h ⊢
   exact h
  | none =>
   simp only [hb] at h ⊢
   by_cases h1:(jt n (atJ n (headE p way)).1).kind=1
   ·rw [if_pos h1] at h ⊢
    exact h
   ·rw [if_neg h1] at h ⊢
    obtain ⟨e,he,h2⟩:=Option.bind_eq_some_iff.1 h
    obtain ⟨r,hr,h3⟩:=Option.map_eq_some_iff.1 h2
    refine Option.bind_eq_some_iff.2 ⟨e,he,Option.map_eq_some_iff.2 ⟨r,follow_mono m _ _ _ r g hr,h3⟩⟩
noncomputable def nxS (n:Net) (ss:List Signal) (ls:List Int) (s:Step):Option Step :=
 match firstS n ss s.piece s.way 0 with
 | some _=>none
 | none=>if (jt n (atJ n (headE s.piece s.way)).1).kind=1 then none else (nxE n ls s.piece s.way).map (fun e=>⟨e.piece,wayOf e⟩)
theorem follow_nx {s t:Step} {m:Nat} (h:nxS n ss ls s=some t):followF n ss ls (m+1) s.piece s.way 0=(followF n ss ls m t.piece t.way 0).map (fun r=>(s::r.1,r.2)):=by
 unfold nxS at h
 rw [followF]
 cases hb:firstS n ss s.piece s.way 0 with
 | some b =>
  simp only [hb] at h
  cases h
 | none =>
  simp only [hb] at h ⊢
  split at h
  ·cases h
  ·rename_i h1
   rw [if_neg h1]
   obtain ⟨e,he,rfl⟩:=Option.map_eq_some_iff.1 h
   rw [he]
   rfl
def hdS (l:List Step) (c:Step):Step:=match l with
 | []=>c
 | a::_=>a
def Tr (n:Net) (ss:List Signal) (ls:List Int):List Step→Step→Prop
 | [],_=>True
 | a::l,c=>nxS n ss ls a=some (hdS l c)∧Tr n ss ls l c
theorem Tr.snoc:∀{l:List Step} {c d:Step},Tr n ss ls l c→nxS n ss ls c=some d→Tr n ss ls (l++[c]) d
 | [],c,d,_,h=>⟨h,trivial⟩
 | a::l,c,d,h,hd=>by
  refine ⟨?_,Tr.snoc h.2 hd⟩
  rw [h.1]
  cases l <;> rfl
theorem Tr.tail:∀{A B:List Step} {c:Step},Tr n ss ls (A++B) c→Tr n ss ls B c
 | [],_,_,h=>h
 | _::A,_,_,h=>Tr.tail (A:=A) h.2
theorem follow_tr:∀(l:List Step) (c:Step) (f:Nat),Tr n ss ls l c→followF n ss ls (f+l.length) (hdS l c).piece (hdS l c).way 0=(followF n ss ls f c.piece c.way 0).map (fun r=>(l++r.1,r.2))
 | [],c,f,_=>by
  simp only [hdS,List.length_nil,Nat.add_zero,List.nil_append]
  cases followF n ss ls f c.piece c.way 0 <;> rfl
 | a::l,c,f,h=>by
  have ih:=follow_tr l c f h.2
  rw [List.length_cons,show f+(l.length+1)=(f+l.length)+1 by omega]
  show followF n ss ls (f+l.length+1) a.piece a.way 0=_
  rw [follow_nx h.1,ih,Option.map_map]
  rfl
theorem follow_never {B:List Step} {c:Step} (h:Tr n ss ls (c::B) c) (f:Nat):followF n ss ls f c.piece c.way 0=none:=by
 cases hf:followF n ss ls f c.piece c.way 0 with
 | none=>rfl
 | some res =>
  exfalso
  have h1:=follow_tr (c::B) c f h
  have h2:followF n ss ls (f+(c::B).length) c.piece c.way 0=some res:=follow_mono f _ _ _ res _ hf
  have h3:(hdS (c::B) c)=c:=rfl
  rw [h3,h2,hf,Option.map_some] at h1
  have h4:=congrArg (fun r=>r.1.length) (Option.some.inj h1)
  simp only [List.length_append,List.length_cons] at h4
  omega
noncomputable def kidsL (go:Route→Int→Int→Int→List Route) (r:Route) (x:Joint) (j k:Nat) (l:List End):Nat→List Route
 | 0=>[]
 | i+1=>match l[i]? with
  | none=>kidsL go r x j k l i
  | some e=>match goOn r x j k i with
   | none=>kidsL go r x j k l i
   | some q=>kidsL go r x j k l i++go q e.piece (wayOf e) 0
noncomputable def addF (n:Net) (ss:List Signal) (ov:Int):Nat→Route→Int→Int→Int→List Route
 | 0,_,_,_,_=>[]
 | m+1,r,p,way,far =>
  match firstS n ss p way far with
  | some b=>[fin n ss (sigR n ss ov r p way far b)]
  | none =>
   if (⟨p,way⟩:Step)∈r.steps then [] else
   if (jt n (atJ n (headE p way)).1).kind=1 then [fin n ss { r.on n p way far (pl n p) with til:=-1 }]
   else kidsL (addF n ss ov m) (r.on n p way far (pl n p)) (jt n (atJ n (headE p way)).1) (atJ n (headE p way)).1 (atJ n (headE p way)).2
    (across (jt n (atJ n (headE p way)).1) (atJ n (headE p way)).2) (across (jt n (atJ n (headE p way)).1) (atJ n (headE p way)).2).length
section
variable {m:Nat} {r:Route} {p way far:Int}
theorem addF_sig {b:Nat} (hb:firstS n ss p way far=some b):addF n ss ov (m+1) r p way far=[fin n ss (sigR n ss ov r p way far b)]:=by
 rw [addF]
 simp only [hb]
theorem addF_round (hb:firstS n ss p way far=none) (hr:(⟨p,way⟩:Step)∈r.steps):addF n ss ov (m+1) r p way far=[]:=by
 rw [addF]
 simp only [hb]
 rw [if_pos hr]
theorem addF_end {j k:Nat} {x:Joint} (hb:firstS n ss p way far=none) (hr:¬(⟨p,way⟩:Step)∈r.steps) (ha:atJ n (headE p way)=(j,k)) (hx:jt n j=x) (h1:x.kind=1) :
  addF n ss ov (m+1) r p way far=[fin n ss { r.on n p way far (pl n p) with til:=-1 }]:=by
 rw [addF]
 simp only [hb]
 rw [if_neg hr,ha]
 simp only [hx]
 rw [if_pos h1]
theorem addF_on {j k:Nat} {x:Joint} (hb:firstS n ss p way far=none) (hr:¬(⟨p,way⟩:Step)∈r.steps) (ha:atJ n (headE p way)=(j,k)) (hx:jt n j=x) (h1:¬x.kind=1) :
  addF n ss ov (m+1) r p way far=kidsL (addF n ss ov m) (r.on n p way far (pl n p)) x j k (across x k) (across x k).length:=by
 rw [addF]
 simp only [hb]
 rw [if_neg hr,ha]
 simp only [hx]
 rw [if_neg h1]
end
theorem kidsL_all {go:Route→Int→Int→Int→List Route} {r:Route} {x:Joint} {j k:Nat} {l:List End} (P:Route→Prop) (h:∀i e q,l[i]?=some e→goOn r x j k i=some q→∀y∈go q e.piece (wayOf e) 0,P y):∀i,∀y∈kidsL go r x j k l i,P y
 | 0,y,hy=>by rw [kidsL] at hy;cases hy
 | i+1,y,hy=>by
  rw [kidsL] at hy
  split at hy
  ·exact kidsL_all P h i y hy
  rename_i e he
  split at hy
  ·exact kidsL_all P h i y hy
  rename_i q hq
  rcases List.mem_append.1 hy with hy | hy
  ·exact kidsL_all P h i y hy
  ·exact h i e q he hq y hy
theorem kidsL_congr {go go':Route→Int→Int→Int→List Route} {r:Route} {x:Joint} {j k:Nat} {l:List End} (h:∀i e q,l[i]?=some e→goOn r x j k i=some q→go q e.piece (wayOf e) 0=go' q e.piece (wayOf e) 0):∀i,kidsL go r x j k l i=kidsL go' r x j k l i
 | 0=>rfl
 | i+1=>by
  rw [kidsL,kidsL,kidsL_congr h i]
  cases he:l[i]? with
  | none=>rfl
  | some e =>
   cases hq:goOn r x j k i with
   | none=>rfl
   | some q =>
    simp only []
    rw [h i e q he hq]
def Gr (st st':St):Prop:=st.1.length≤st'.1.length∧st.2≤st'.2
theorem Gr.full {st st':St} (h:Gr st st') (hf:full st):full st':=by
 obtain ⟨h1,h2⟩:=h
 unfold L.full at hf ⊢
 omega
theorem walkF_gr:∀(m:Nat) (st:St) (r:Route) (p way far:Int),Gr st (walkF n ss ov m st r p way far)
 | 0,st,r,p,way,far=>⟨Nat.le_refl _,Nat.le_refl _⟩
 | m+1,st,r,p,way,far=>by
  by_cases hf:full (st.1,st.2+1)
  ·rw [walkF_full hf]
   exact ⟨Nat.le_refl _,Nat.le_succ _⟩
  cases hb:firstS n ss p way far with
  | some b =>
   rw [walkF_sig hf hb]
   refine ⟨?_,Nat.le_succ _⟩
   simp
  | none =>
   by_cases hr:(⟨p,way⟩:Step)∈r.steps
   ·rw [walkF_round hf hb hr]
    exact ⟨Nat.le_refl _,Nat.le_succ _⟩
   by_cases h1:(jt n (atJ n (headE p way)).1).kind=1
   ·rw [walkF_end (j:=(atJ n (headE p way)).1) (k:=(atJ n (headE p way)).2) hf hb hr rfl rfl h1]
    refine ⟨?_,Nat.le_succ _⟩
    simp
   ·rw [walkF_on (j:=(atJ n (headE p way)).1) (k:=(atJ n (headE p way)).2) hf hb hr rfl rfl h1]
    refine kidsTo_inv (st:=(st.1,st.2+1)) (fun s=>Gr st s) ⟨Nat.le_refl _,Nat.le_succ _⟩ (fun i e q st' _ _ hs=>?_) _
    have:=walkF_gr m st' q e.piece (wayOf e) 0
    exact ⟨Nat.le_trans hs.1 this.1,Nat.le_trans hs.2 this.2⟩
theorem kids_add {go:St→Route→Int→Int→Int→St} {gl:Route→Int→Int→Int→List Route} {r:Route} {x:Joint} {j k:Nat} {l:List End} {st:St}
  (hg:∀st q p way far,Gr st (go st q p way far)) (h:∀st q p way far,¬full (go st q p way far)→(go st q p way far).1=st.1++gl q p way far):∀i,¬full (kidsTo go r x j k l st i)→(kidsTo go r x j k l st i).1=st.1++kidsL gl r x j k l i
 | 0,_=>by rw [kidsTo,kidsL,List.append_nil]
 | i+1,hf=>by
  rw [kidsTo,kidsL]
  rw [kidsTo] at hf
  cases he:l[i]? with
  | none =>
   simp only [he] at hf ⊢
   exact kids_add hg h i hf
  | some e =>
   simp only [he] at hf ⊢
   cases hq:goOn r x j k i with
   | none =>
    simp only [hq] at hf ⊢
    exact kids_add hg h i hf
   | some q =>
    simp only [hq] at hf ⊢
    have h0:¬full (kidsTo go r x j k l st i):=fun e0=>hf ((hg _ _ _ _ _).full e0)
    rw [h _ _ _ _ _ hf,kids_add hg h i h0,List.append_assoc]
theorem walk_add:∀(m:Nat) (st:St) (r:Route) (p way far:Int),¬full (walkF n ss ov m st r p way far)→(walkF n ss ov m st r p way far).1=st.1++addF n ss ov m r p way far
 | 0,st,r,p,way,far,_=>by rw [walkF,addF,List.append_nil]
 | m+1,st,r,p,way,far,h=>by
  by_cases hf:full (st.1,st.2+1)
  ·rw [walkF_full hf] at h
   exact absurd hf h
  cases hb:firstS n ss p way far with
  | some b=>rw [walkF_sig hf hb,addF_sig hb]
  | none =>
   by_cases hr:(⟨p,way⟩:Step)∈r.steps
   ·rw [walkF_round hf hb hr,addF_round hb hr,List.append_nil]
   by_cases h1:(jt n (atJ n (headE p way)).1).kind=1
   ·rw [walkF_end (j:=(atJ n (headE p way)).1) (k:=(atJ n (headE p way)).2) hf hb hr rfl rfl h1,addF_end (j:=(atJ n (headE p way)).1) (k:=(atJ n (headE p way)).2) hb hr rfl rfl h1]
   ·rw [walkF_on (j:=(atJ n (headE p way)).1) (k:=(atJ n (headE p way)).2) hf hb hr rfl rfl h1] at h ⊢
    rw [addF_on (j:=(atJ n (headE p way)).1) (k:=(atJ n (headE p way)).2) hb hr rfl rfl h1]
    exact kids_add (fun st q p way far=>walkF_gr m st q p way far) (fun st q p way far h=>walk_add m st q p way far h) _ h
noncomputable def rouF (n:Net) (ss:List Signal) (ov:Int):Nat→List Route
 | 0=>[]
 | k+1=>match ss[k]? with
  | none=>rouF n ss ov k
  | some s=>rouF n ss ov k++addF n ss ov (2*n.pieces.length+1) (startR k) s.piece s.way (farOf n s.piece s.at_ s.way)
theorem all_list:∀k,¬full (allF n ss ov k)→(allF n ss ov k).1=rouF n ss ov k
 | 0,_=>rfl
 | k+1,h=>by
  rw [rouF]
  rw [allF] at h ⊢
  cases hs:ss[k]? with
  | none =>
   simp only [hs] at h ⊢
   exact all_list k h
  | some s =>
   simp only [hs] at h ⊢
   rw [walk_add _ _ _ _ _ _ h,all_list k (fun e=>h ((walkF_gr _ _ _ _ _ _).full e))]
theorem goOn_frm {r q:Route} {x:Joint} {j k i:Nat} (h:goOn r x j k i=some q):q.frm=r.frm:=by
 unfold goOn at h
 split at h
 ·obtain ⟨l,_,rfl⟩:=Option.map_eq_some_iff.1 h
  rfl
 split at h
 ·obtain rfl:=Option.some.inj h
  rfl
 ·obtain rfl:=Option.some.inj h
  rfl
theorem addLie_more {lies l:List Lie} {j:Nat} {v:Int} (h:addLie lies j v=some l):∃t,l=lies++t:=by
 unfold addLie at h
 split at h
 ·split at h
  ·obtain rfl:=Option.some.inj h
   exact ⟨[],(List.append_nil _).symm⟩
  ·cases h
 ·obtain rfl:=Option.some.inj h
  exact ⟨_,rfl⟩
theorem goOn_pre {r q:Route} {x:Joint} {j k i:Nat} (h:goOn r x j k i=some q):∃t,q.lies=r.lies++t:=by
 unfold goOn at h
 split at h
 ·obtain ⟨l,hl,rfl⟩:=Option.map_eq_some_iff.1 h
  exact addLie_more hl
 split at h
 ·obtain rfl:=Option.some.inj h
  exact ⟨[],(List.append_nil _).symm⟩
 ·obtain rfl:=Option.some.inj h
  exact ⟨[],(List.append_nil _).symm⟩
theorem addF_pre:∀(m:Nat) (r:Route) (p way far:Int),∀y∈addF n ss ov m r p way far,y.frm=r.frm∧∃t,y.lies=r.lies++t
 | 0,r,p,way,far,y,hy=>by rw [addF] at hy;cases hy
 | m+1,r,p,way,far,y,hy=>by
  cases hb:firstS n ss p way far with
  | some b =>
   rw [addF_sig hb,List.mem_singleton] at hy
   rw [hy]
   exact ⟨rfl,[],(List.append_nil _).symm⟩
  | none =>
   by_cases hr:(⟨p,way⟩:Step)∈r.steps
   ·rw [addF_round hb hr] at hy
    cases hy
   by_cases h1:(jt n (atJ n (headE p way)).1).kind=1
   ·rw [addF_end (j:=(atJ n (headE p way)).1) (k:=(atJ n (headE p way)).2) hb hr rfl rfl h1,List.mem_singleton] at hy
    rw [hy]
    exact ⟨rfl,[],(List.append_nil _).symm⟩
   ·rw [addF_on (j:=(atJ n (headE p way)).1) (k:=(atJ n (headE p way)).2) hb hr rfl rfl h1] at hy
    refine kidsL_all (fun y=>y.frm=r.frm∧∃t,y.lies=r.lies++t) (fun i e q he hq y hy=>?_) _ y hy
    obtain ⟨f1,t1,h1⟩:=addF_pre m q e.piece (wayOf e) 0 y hy
    obtain ⟨t0,h0⟩:=goOn_pre hq
    exact ⟨by rw [f1,goOn_frm hq];rfl,t0++t1,by rw [h1,h0,List.append_assoc];rfl⟩
def fit (ls:List Int) (r:Route):Prop:=∀l∈r.lies,okLie ls l
noncomputable def fits (ls:List Int) (l:List Route):List Route:=l.filter (fun r=>decide (fit ls r))
theorem fits_app (a b:List Route):fits ls (a++b)=fits ls a++fits ls b:=List.filter_append _ _
theorem fits_none {l:List Route} (h:∀y∈l,¬fit ls y):fits ls l=[]:=by
 unfold fits
 rw [List.filter_eq_nil_iff]
 intro y hy
 simpa using h y hy
theorem fits_one {y:Route} (h:fit ls y):fits ls [y]=[y]:=by
 unfold fits
 rw [List.filter_cons_of_pos (by simpa using h)]
 rfl
theorem unfit_add {m:Nat} {r:Route} {p way far:Int} (h:¬fit ls r):fits ls (addF n ss ov m r p way far)=[]:=by
 refine fits_none (fun y hy hf=>h ?_)
 obtain ⟨_,t,ht⟩:=addF_pre m r p way far y hy
 exact fun l hl=>hf l (by rw [ht];exact List.mem_append_left _ hl)
theorem okLie_at {j:Nat} {v:Int} (hl:LiesOk n ls) (hj:j < n.joints.length):okLie ls ⟨j,v⟩↔Lf ls j=v:=by
 unfold okLie Lf
 rw [List.getD_eq_getElem?_getD]
 have:j < ls.length:=by rw [hl.len];exact hj
 simp [List.getElem?_eq_getElem this]
theorem goOn_fit {r q:Route} {x:Joint} {j k i:Nat} (hl:LiesOk n ls) (hr:LOk n r) (hj:j < n.joints.length) (hx:jt n j=x) (hk:x.kind=3) (hf:fit ls r) (h:goOn r x j k i=some q):fit ls q↔Lf ls j=lieAt k i:=by
 rcases (goOn_lies hr hj hx h).2 with ⟨e,g⟩ | ⟨_,_,e⟩
 ·obtain ⟨y,hy,hyj,hyl⟩:=g hk
  refine ⟨fun _=>?_,fun _ l hl=>hf l (by rwa [e] at hl)⟩
  have h1:=hf y hy
  obtain ⟨a,b⟩:=y
  simp only at hyj hyl
  subst hyj
  rw [(okLie_at hl hj).1 h1,hyl]
 ·refine ⟨fun hq=>?_,fun hv l hl2=>?_⟩
  ·exact (okLie_at hl hj).1 (hq ⟨j,lieAt k i⟩ (by rw [e];simp))
  ·rw [e] at hl2
   rcases List.mem_append.1 hl2 with h1 | h1
   ·exact hf l h1
   ·rw [List.mem_singleton.1 h1]
    exact (okLie_at hl hj).2 hv
theorem goOn_no {r:Route} {x:Joint} {j k i:Nat} (hl:LiesOk n ls) (hj:j < n.joints.length) (hf:fit ls r) (h:goOn r x j k i=none):x.kind=3∧¬Lf ls j=lieAt k i:=by
 unfold goOn at h
 split at h
 ·rename_i hk
  refine ⟨hk,fun hv=>?_⟩
  have h1:addLie r.lies j (lieAt k i)=none:=by
   cases ha:addLie r.lies j (lieAt k i) with
   | none=>rfl
   | some l=>rw [ha] at h;cases h
  unfold addLie at h1
  split at h1
  ·rename_i y hy
   have hm:=List.mem_of_find?_eq_some hy
   have he0:=List.find?_some hy
   have he:=eqv_eq he0
   split at h1
   ·cases h1
   ·rename_i hne
    have h2:=hf y hm
    obtain ⟨a,b⟩:=y
    simp only at he hne
    subst he
    exact hne ((okLie_at hl hj).1 h2▸hv)
  ·cases h1
 split at h <;> cases h
theorem pick_none {fits:Signal→Prop} {ahead:Signal→Signal→Prop}:∀{k:Nat},pick ss fits ahead k=none→∀i s,i < k→ss[i]?=some s→¬fits s
 | 0,_,i,s,hi,_=>absurd hi (by omega)
 | k+1,h,i,s,hi,hs=>by
  rw [pick] at h
  cases hk:ss[k]? with
  | none =>
   simp only [hk] at h
   by_cases e:i=k
   ·subst e
    rw [hs] at hk
    cases hk
   ·exact pick_none h i s (by omega) hs
  | some t =>
   simp only [hk] at h
   split at h
   ·cases h
   ·rename_i hc
    by_cases e:i=k
    ·subst e
     obtain rfl:=Option.some.inj (hs.symm.trans hk)
     exact fun hf=>hc ⟨hf,fun b t hb=>by rw [h] at hb;cases hb⟩
    ·exact pick_none h i s (by omega) hs
def Path (n:Net) (ss:List Signal) (ls:List Int) (s0:Signal) (r:Route) (p way far:Int):Prop :=
 (r.steps=[]∧p=s0.piece∧way=s0.way∧far=farOf n p s0.at_ way)∨∃tail,r.steps=⟨s0.piece,s0.way⟩::tail∧far=0∧Tr n ss ls tail ⟨p,way⟩
theorem Path.kid {s0:Signal} {r q:Route} {p way far:Int} {e:End} (h:Path n ss ls s0 r p way far) (hb:firstS n ss p way far=none) (h1:¬(jt n (atJ n (headE p way)).1).kind=1) (he:nxE n ls p way=some e) (hq:q.steps=r.steps++[⟨p,way⟩]) :
  Path n ss ls s0 q e.piece (wayOf e) 0:=by
 rcases h with ⟨h0,rfl,rfl,_⟩ | ⟨tail,ht,rfl,hT⟩
 ·exact .inr ⟨[],by rw [hq,h0];rfl,rfl,trivial⟩
 ·refine .inr ⟨tail++[⟨p,way⟩],by rw [hq,ht];rfl,rfl,hT.snoc ?_⟩
  unfold nxS
  simp only [hb]
  rw [if_neg h1,he]
  rfl
theorem Path.round {s0:Signal} {r:Route} {p way far:Int} (h:Path n ss ls s0 r p way far) (hs0:∃i:Nat,ss[i]?=some s0) (hf0:0 < farOf n s0.piece s0.at_ s0.way) (hb:firstS n ss p way far=none) (hr:(⟨p,way⟩:Step)∈r.steps) (m:Nat):followF n ss ls m p way far=none:=by
 rcases h with ⟨h0,_⟩ | ⟨tail,ht,rfl,hT⟩
 ·rw [h0] at hr
  cases hr
 ·rw [ht] at hr
  rcases List.mem_cons.1 hr with e | hm
  ·exfalso
   injection e with e1 e2
   subst e1 e2
   obtain ⟨i,hi⟩:=hs0
   exact pick_none hb i s0 (List.getElem?_eq_some_iff.1 hi).1 hi ⟨rfl,rfl,hf0⟩
  ·obtain ⟨A,B,rfl⟩:=List.append_of_mem hm
   exact follow_never (c:=⟨p,way⟩) (hT.tail) m
def OneOf (n:Net) (ls:List Int) (r:Route) (fo:Option (List Step × Int)) (l:List Route):Prop :=
 (fo=none∧fits ls l=[])∨∃s tl q,fo=some (s,tl)∧fits ls l=[q]∧q.steps=r.steps++s∧q.til=tl
theorem OneOf.step {r q:Route} {fo:Option (List Step × Int)} {l:List Route} {s0:Step} (h:OneOf n ls q fo l) (hq:q.steps=r.steps++[s0]):OneOf n ls r (fo.map (fun r=>(s0::r.1,r.2))) l:=by
 rcases h with ⟨rfl,h⟩ | ⟨s,tl,y,rfl,h1,h2,h3⟩
 ·exact .inl ⟨rfl,h⟩
 ·exact .inr ⟨s0::s,tl,y,rfl,h1,by rw [h2,hq,List.append_assoc];rfl,h3⟩
theorem drive_one (hg:Good n) (hl:LiesOk n ls) {s0:Signal} (hs0:∃i:Nat,ss[i]?=some s0) (hf0:0 < farOf n s0.piece s0.at_ s0.way):∀(m:Nat) (r:Route) (p way far:Int),stepP n.pieces.length ⟨p,way⟩→LOk n r→fit ls r→Path n ss ls s0 r p way far →
  OneOf n ls r (followF n ss ls m p way far) (addF n ss ov m r p way far)
 | 0,r,p,way,far,hs,hr,hf,hp=>.inl ⟨by rw [followF],by rw [addF];rfl⟩
 | m+1,r,p,way,far,hs,hr,hf,hp=>by
  cases hb:firstS n ss p way far with
  | some b =>
   rw [addF_sig hb,followF]
   simp only [hb]
   exact .inr ⟨_,_,fin n ss (sigR n ss ov r p way far b),rfl,fits_one hf,rfl,rfl⟩
  | none =>
   by_cases hrn:(⟨p,way⟩:Step)∈r.steps
   ·rw [addF_round hb hrn]
    exact .inl ⟨hp.round hs0 hf0 hb hrn _,rfl⟩
   obtain ⟨j,k,x,hat,ha,hx,hP,hj,hk⟩:=at_get hg (head_ok hs)
   by_cases h1:x.kind=1
   ·rw [addF_end hb hrn ha hx h1,followF]
    simp only [hb]
    rw [ha]
    simp only [hx]
    rw [if_pos h1]
    exact .inr ⟨_,_,fin n ss { r.on n p way far (pl n p) with til:=-1 },rfl,fits_one hf,rfl,rfl⟩
   have hf2:followF n ss ls (m+1) p way far=(nxE n ls p way).bind (fun e=>(followF n ss ls m e.piece (wayOf e) 0).map (fun r=>(⟨p,way⟩::r.1,r.2))):=by
    rw [followF]
    simp only [hb]
    rw [if_neg (by rw [ha];simp only [hx];exact h1)]
   have hk1:¬(jt n (atJ n (headE p way)).1).kind=1:=by rw [ha];simp only [hx];exact h1
   have hr':LOk n (r.on n p way far (pl n p)):=⟨hr.one,hr.sw⟩
   have hfr:fit ls (r.on n p way far (pl n p)):=hf
   rw [hf2,addF_on hb hrn ha hx h1]
   -- a kid that is driven
   have kid:∀(i:Nat) (e:End) (q:Route),(across x k)[i]?=some e→goOn (r.on n p way far (pl n p)) x j k i=some q→fit ls q→nxE n ls p way=some e→OneOf n ls r ((nxE n ls p way).bind (fun e=>(followF n ss ls m e.piece (wayOf e) 0).map (fun r=>(⟨p,way⟩::r.1,r.2)))) (addF n ss ov m q e.piece (wayOf e) 0):=fun i e q hi hq hfq hn=>by
    have hes:=step_of_end (across_ok hP hk (List.mem_of_getElem? hi))
    have hqs:q.steps=r.steps++[⟨p,way⟩]:=by rw [goOn_steps hq];rfl
    have ih:=drive_one hg hl hs0 hf0 m q e.piece (wayOf e) 0 hes (goOn_lies hr' hj hx hq).1 hfq (hp.kid hb hk1 hn hqs)
    rw [hn]
    exact ih.step hqs
   by_cases hk3:x.kind=3
   rotate_left
   ·-- no switch: one way on
    have hl1:(across x k).length=1:=by
     unfold across
     by_cases k2:x.kind=2
     ·rw [if_pos k2]
      rfl
     ·rw [if_neg k2,if_neg hk3,if_pos (by have:=hP.1;omega)]
      rfl
    obtain ⟨e,he⟩:∃e,(across x k)[0]?=some e:=⟨_,List.getElem?_eq_getElem (by omega)⟩
    obtain ⟨q,hq⟩:∃q,goOn (r.on n p way far (pl n p)) x j k 0=some q:=by
     cases hq:goOn (r.on n p way far (pl n p)) x j k 0 with
     | none=>exact absurd (goOn_no hl hj hfr hq).1 hk3
     | some q=>exact ⟨q,rfl⟩
    have hn:nxE n ls p way=some e:=by
     unfold nxE
     rw [ha]
     simp only [hx]
     rw [if_neg (fun h=>hk3 h.1),if_neg (fun h=>hk3 h.1),List.getD_eq_getElem?_getD,he]
     rfl
    have hfq:fit ls q:=by
     rcases (goOn_lies hr' hj hx hq).2 with ⟨e',_⟩ | ⟨h3,_,_⟩
     ·exact fun l hl2=>hf l (by rw [e'] at hl2;exact hl2)
     ·exact absurd h3 hk3
    have K:=kid 0 e q he hq hfq hn
    rw [hl1,kidsL]
    simp only [he,hq]
    rw [kidsL,List.nil_append]
    exact K
   by_cases hk0:k=0
   ·-- a switch that is faced
    subst hk0
    have hac:across x 0=[en x 1,en x 2]:=by
     unfold across
     rw [if_neg (by omega),if_pos hk3,if_pos rfl]
    have g0:(across x 0)[0]?=some (en x 1):=by rw [hac];rfl
    have g1:(across x 0)[1]?=some (en x 2):=by rw [hac];rfl
    have hlen:(across x 0).length=2:=by rw [hac];rfl
    have htwo:=hl.two j hj (by rw [hx];exact hk3)
    have hn:nxE n ls p way=some ((across x 0).getD (Lf ls j - 1).toNat ⟨0,0⟩):=by
     unfold nxE
     rw [ha]
     simp only [hx]
     rw [if_neg (fun h=>absurd h.2.1 (by omega)),if_pos ⟨hk3,trivial⟩]
    have kids0:∀(go:Route→Int→Int→Int→List Route),kidsL go (r.on n p way far (pl n p)) x j 0 (across x 0) 2 =
      (match goOn (r.on n p way far (pl n p)) x j 0 0 with | none=>[] | some q=>go q (en x 1).piece (wayOf (en x 1)) 0)++(match goOn (r.on n p way far (pl n p)) x j 0 1 with | none=>[] | some q=>go q (en x 2).piece (wayOf (en x 2)) 0):=fun go=>by
     rw [kidsL,kidsL,kidsL]
     simp only [g0,g1]
     cases goOn (r.on n p way far (pl n p)) x j 0 0 <;> cases goOn (r.on n p way far (pl n p)) x j 0 1 <;> simp
    have un:∀(i:Nat) (e:End),¬Lf ls j=lieAt 0 i→fits ls (match goOn (r.on n p way far (pl n p)) x j 0 i with | none=>[] | some q=>addF n ss ov m q e.piece (wayOf e) 0)=[]:=fun i e hne=>by
     cases hq:goOn (r.on n p way far (pl n p)) x j 0 i with
     | none=>rfl
     | some q=>exact unfit_add (fun hfq=>hne ((goOn_fit hl hr' hj hx hk3 hfr hq).1 hfq))
    have yes:∀i:Nat,Lf ls j=lieAt 0 i→∃q,goOn (r.on n p way far (pl n p)) x j 0 i=some q∧fit ls q:=fun i hv=>by
     cases hq:goOn (r.on n p way far (pl n p)) x j 0 i with
     | none=>exact absurd hv (goOn_no hl hj hfr hq).2
     | some q=>exact ⟨q,rfl,(goOn_fit hl hr' hj hx hk3 hfr hq).2 hv⟩
    rw [hlen,kids0]
    have l0:lieAt 0 0=1:=rfl
    have l1:lieAt 0 1=2:=rfl
    rcases htwo with hv | hv
    ·obtain ⟨q,hq,hfq⟩:=yes 0 (by rw [hv,l0])
     have hn':nxE n ls p way=some (en x 1):=by rw [hn,hv,hac];rfl
     have K:=kid 0 _ q g0 hq hfq hn'
     have U:=un 1 (en x 2) (by rw [hv,l1];decide)
     rw [hq]
     rcases K with ⟨h2,h3⟩ | ⟨s,tl,y,h2,h3,h4⟩
     ·exact .inl ⟨h2,by rw [fits_app,U,List.append_nil];exact h3⟩
     ·exact .inr ⟨s,tl,y,h2,by rw [fits_app,U,List.append_nil];exact h3,h4⟩
    ·obtain ⟨q,hq,hfq⟩:=yes 1 (by rw [hv,l1])
     have hn':nxE n ls p way=some (en x 2):=by rw [hn,hv,hac];rfl
     have K:=kid 1 _ q g1 hq hfq hn'
     have U:=un 0 (en x 1) (by rw [hv,l0];decide)
     rw [hq]
     rcases K with ⟨h2,h3⟩ | ⟨s,tl,y,h2,h3,h4⟩
     ·exact .inl ⟨h2,by rw [fits_app,U,List.nil_append];exact h3⟩
     ·exact .inr ⟨s,tl,y,h2,by rw [fits_app,U,List.nil_append];exact h3,h4⟩
   ·-- a switch from behind
    have hac:across x k=[en x 0]:=by
     unfold across
     rw [if_neg (by omega),if_pos hk3,if_neg hk0]
    have g0:(across x k)[0]?=some (en x 0):=by rw [hac];rfl
    have hlen:(across x k).length=1:=by rw [hac];rfl
    have hla:lieAt k 0=k:=by unfold lieAt;rw [if_neg hk0]
    have kids0:∀(go:Route→Int→Int→Int→List Route),kidsL go (r.on n p way far (pl n p)) x j k (across x k) 1 =
      (match goOn (r.on n p way far (pl n p)) x j k 0 with | none=>[] | some q=>go q (en x 0).piece (wayOf (en x 0)) 0):=fun go=>by
     rw [kidsL,kidsL]
     simp only [g0]
     cases goOn (r.on n p way far (pl n p)) x j k 0 <;> simp
    rw [hlen,kids0]
    by_cases hv:Lf ls j=(k:Int)
    ·cases hq:goOn (r.on n p way far (pl n p)) x j k 0 with
     | none=>exact absurd (by rw [hla];exact hv) (goOn_no hl hj hfr hq).2
     | some q =>
      have hfq:=(goOn_fit hl hr' hj hx hk3 hfr hq).2 (by rw [hla];exact hv)
      have hn:nxE n ls p way=some (en x 0):=by
       unfold nxE
       rw [ha]
       simp only [hx]
       rw [if_neg (fun h=>h.2.2 hv),if_neg (fun h=>hk0 h.2),hac]
       rfl
      exact kid 0 _ q g0 hq hfq hn
    ·have hn:nxE n ls p way=none:=by
      unfold nxE
      rw [ha]
      simp only [hx]
      rw [if_pos ⟨hk3,by omega,hv⟩]
     rw [hn]
     refine .inl ⟨rfl,?_⟩
     cases hq:goOn (r.on n p way far (pl n p)) x j k 0 with
     | none=>rfl
     | some q=>exact unfit_add (fun hfq=>hv (by rw [(goOn_fit hl hr' hj hx hk3 hfr hq).1 hfq,hla]))
theorem addF_fuel (hg:Good n):∀(m:Nat) (r:Route) (p way far:Int),stepP n.pieces.length ⟨p,way⟩→RInv n ss r→r.steps.length+m=2*n.pieces.length+1→addF n ss ov m r p way far=addF n ss ov (m+1) r p way far
 | 0,r,p,way,far,hs,hr,hm=>by have:=hr.bound;omega
 | m+1,r,p,way,far,hs,hr,hm=>by
  cases hb:firstS n ss p way far with
  | some b=>rw [addF_sig hb,addF_sig hb]
  | none =>
   by_cases hrn:(⟨p,way⟩:Step)∈r.steps
   ·rw [addF_round hb hrn,addF_round hb hrn]
   obtain ⟨j,k,x,hat,ha,hx,hP,hj,hk⟩:=at_get hg (head_ok hs)
   by_cases h1:x.kind=1
   ·rw [addF_end hb hrn ha hx h1,addF_end hb hrn ha hx h1]
   ·rw [addF_on hb hrn ha hx h1,addF_on hb hrn ha hx h1]
    refine kidsL_congr (fun i e q hi hq=>?_) _
    have hes:=step_of_end (across_ok hP hk (List.mem_of_getElem? hi))
    obtain ⟨h2,h3⟩:=hr.kid hs hrn hx hj hP hk (List.getElem?_eq_some_iff.1 hi).1 hq
    exact addF_fuel hg m q e.piece (wayOf e) 0 hes h2 (by rw [h3,List.length_append,List.length_singleton];omega)
def fitAt (ls:List Int) (i:Nat) (r:Route):Prop:=r.frm=i∧fit ls r
theorem list_fit:∀(k i:Nat),i < k→∀s,ss[i]?=some s→(rouF n ss ov k).filter (fun r=>decide (fitAt ls i r))=fits ls (addF n ss ov (2*n.pieces.length+1) (startR i) s.piece s.way (farOf n s.piece s.at_ s.way))
 | 0,i,hi,s,hs=>absurd hi (by omega)
 | k+1,i,hi,s,hs=>by
  have frm:∀{k:Nat} {p way far:Int} {y:Route},y∈addF n ss ov (2*n.pieces.length+1) (startR k) p way far→y.frm=k:=fun {k p way far y} hy=>(addF_pre _ _ _ _ _ y hy).1
  have low:∀(m:Nat),m≤i→(rouF n ss ov m).filter (fun r=>decide (fitAt ls i r))=[]:=by
   intro m
   induction m with
   | zero=>exact fun _=>rfl
   | succ m ih =>
    intro hm
    rw [rouF]
    split
    ·exact ih (by omega)
    ·rw [List.filter_append,ih (by omega),List.nil_append,List.filter_eq_nil_iff]
     intro y hy
     have:=frm hy
     simp only [decide_eq_true_eq]
     rintro ⟨h1,_⟩
     rw [this] at h1
     have:m=i:=Int.ofNat.inj h1
     omega
  rw [rouF]
  by_cases e:i=k
  ·subst e
   simp only [hs]
   rw [List.filter_append,low i (Nat.le_refl _),List.nil_append]
   unfold fits
   refine List.filter_congr (fun y hy=>?_)
   have:=frm hy
   unfold fitAt
   simp [this]
  ·cases hk:ss[k]? with
   | none =>
    simp only []
    exact list_fit k i (by omega) s hs
   | some t =>
    simp only []
    rw [List.filter_append,list_fit k i (by omega) s hs]
    have:(addF n ss ov (2*n.pieces.length+1) (startR k) t.piece t.way (farOf n t.piece t.at_ t.way)).filter (fun r=>decide (fitAt ls i r))=[]:=by
     rw [List.filter_eq_nil_iff]
     intro y hy
     have:=frm hy
     simp only [decide_eq_true_eq]
     rintro ⟨h1,_⟩
     rw [this] at h1
     have:k=i:=Int.ofNat.inj h1
     omega
    rw [this,List.append_nil]
theorem drive_law (hr:Right n ss) (hl:LiesOk n ls) (hf:¬full (allF n ss ov ss.length)) {i:Nat} {s:Signal} (hs:ss[i]?=some s) :
  (followF n ss ls (2*n.pieces.length+2) s.piece s.way (farOf n s.piece s.at_ s.way)=none∧(allF n ss ov ss.length).1.filter (fun r=>decide (fitAt ls i r))=[]) ∨
  ∃st tl q,followF n ss ls (2*n.pieces.length+2) s.piece s.way (farOf n s.piece s.at_ s.way)=some (st,tl)∧(allF n ss ov ss.length).1.filter (fun r=>decide (fitAt ls i r))=[q]∧q.steps=st∧q.til=tl:=by
 have hi:=(List.getElem?_eq_some_iff.1 hs).1
 obtain ⟨hsp,h1,h2⟩:=sig_in hr hs
 have hw:=hsp.2
 simp only at hw
 have hf0:0 < farOf n s.piece s.at_ s.way:=by
  rcases hw with e | e
  ·rw [e,far_fwd];omega
  ·rw [e,far_back];omega
 rw [all_list _ hf,list_fit ss.length i hi s hs,addF_fuel hr.g _ _ _ _ _ hsp (RInv.start n ss i) (by simp [startR])]
 have hL:LOk n (startR i):=⟨List.nodup_nil,fun l hl=>by cases hl⟩
 rcases drive_one (ov:=ov) hr.g hl ⟨i,hs⟩ hf0 (2*n.pieces.length+1+1) (startR i) s.piece s.way _ hsp hL (fun l hl=>by cases hl) (.inl ⟨rfl,rfl,rfl,rfl⟩) with ⟨e1,e2⟩ | ⟨st,tl,q,e1,e2,e3,e4⟩
 ·exact .inl ⟨e1,e2⟩
 ·exact .inr ⟨st,tl,q,e1,e2,e3,e4⟩
end
end Go.Proofs.Ytjccgneimknbpaa.L
namespace Go.Proofs.Ytjccgneimknbpaa.L
open Go.RowKit
def FoI (n:Net) (ss:List Signal) (ls:List Int) (fo:Option (List Step × Int)) (st:List Step) (t:Nat) (p way far:Int):Prop:=fo=(followF n ss ls t p way far).map (fun r=>(st++r.1,r.2))
section
variable {n:Net} {ss:List Signal} {ls:List Int} {fo:Option (List Step × Int)} {st:List Step} {t:Nat} {p way far:Int}
theorem FoI.sig (h:FoI n ss ls fo st (t+1) p way far) {b:Nat} (hb:firstS n ss p way far=some b):fo=some (st++[⟨p,way⟩],(b:Int)):=by
 unfold FoI at h
 rw [h,followF]
 simp only [hb,Option.map_some]
theorem FoI.fin (h:FoI n ss ls fo st (t+1) p way far) (hb:firstS n ss p way far=none) (h1:(jt n (atJ n (headE p way)).1).kind=1):fo=some (st++[⟨p,way⟩],-1):=by
 unfold FoI at h
 rw [h,followF]
 simp only [hb]
 rw [if_pos h1]
 rfl
theorem FoI.no (h:FoI n ss ls fo st (t+1) p way far) (hb:firstS n ss p way far=none) (h1:¬(jt n (atJ n (headE p way)).1).kind=1) (he:nxE n ls p way=none):fo=none:=by
 unfold FoI at h
 rw [h,followF]
 simp only [hb]
 rw [if_neg h1,he]
 rfl
theorem FoI.on (h:FoI n ss ls fo st (t+1) p way far) (hb:firstS n ss p way far=none) (h1:¬(jt n (atJ n (headE p way)).1).kind=1) {e:End} (he:nxE n ls p way=some e):FoI n ss ls fo (st++[⟨p,way⟩]) t e.piece (wayOf e) 0:=by
 unfold FoI at h ⊢
 rw [h,followF]
 simp only [hb]
 rw [if_neg h1,he,Option.bind_some,Option.map_map]
 congr 1
 funext r
 simp
theorem FoI.stop (h:FoI n ss ls fo st 0 p way far):fo=none:=by
 unfold FoI at h
 rw [h,followF]
 rfl
theorem nxE_zero {j k:Nat} {x:Joint} (ha:atJ n (headE p way)=(j,k)) (hx:jt n j=x) (h:¬x.kind=3∨(0 < k∧Lf ls j=(k:Int))):nxE n ls p way=some ((across x k).getD 0 ⟨0,0⟩):=by
 unfold nxE
 rw [ha]
 simp only
 rw [hx]
 rcases h with h | ⟨h1,h2⟩
 ·rw [if_neg (fun e=>h e.1),if_neg (fun e=>h e.1)]
 ·rw [if_neg (fun e=>e.2.2 h2),if_neg (fun e=>by have:=e.2;omega)]
theorem nxE_not {j k:Nat} {x:Joint} (ha:atJ n (headE p way)=(j,k)) (hx:jt n j=x) (h:x.kind=3) (h0:0 < k) (h2:¬Lf ls j=(k:Int)):nxE n ls p way=none:=by
 unfold nxE
 rw [ha]
 simp only
 rw [hx,if_pos ⟨h,h0,h2⟩]
theorem nxE_tip {j:Nat} {x:Joint} (ha:atJ n (headE p way)=(j,0)) (hx:jt n j=x) (h:x.kind=3):nxE n ls p way=some ((across x 0).getD (Lf ls j - 1).toNat ⟨0,0⟩):=by
 unfold nxE
 rw [ha]
 simp only
 rw [hx,if_neg (fun e=>by have:=e.2.1;omega),if_pos ⟨h,trivial⟩]
end
theorem across_some {m:Nat} {x:Joint} (hx:jointP m x) (k:Nat) (h:¬x.kind=1):0 < (across x k).length∧(x.kind=3→k=0→(across x k).length=2):=by
 obtain ⟨⟨h1,h2⟩,_,_⟩:=hx
 unfold across
 by_cases a2:x.kind=2
 ·rw [if_pos a2]
  exact ⟨by simp,fun e=>by omega⟩
 rw [if_neg a2]
 by_cases a3:x.kind=3
 ·rw [if_pos a3]
  by_cases hk:k=0
  ·rw [if_pos hk]
   exact ⟨by simp,fun _ _=>rfl⟩
  ·rw [if_neg hk]
   exact ⟨by simp,fun _ e=>absurd e hk⟩
 rw [if_neg a3,if_pos (by omega)]
 exact ⟨by simp,fun e=>absurd e a3⟩
theorem add_z0 (a:Addr):a.add 0=a:=by unfold Addr.add;simp
theorem Lf_at {ls:List Int} {j:Nat} {v:Int} (h:ls[j]?=some v):Lf ls j=v:=by
 unfold Lf
 rw [List.getD_eq_getElem?_getD,h]
 rfl
theorem getD_at {α:Type} {l:List α} {i:Nat} {x d:α} (h:l[i]?=some x):l.getD i d=x:=by
 rw [List.getD_eq_getElem?_getD,h]
 rfl
def RetFo (n:Net) (fo:Option (List Step × Int)) (w:World) (e:Ending) (w':World):Prop :=
 ∃(st:List Step) (A:Option Addr) (c:Nat) (tl:Int) (b:Bool),e=.returned (.tuple #[.slice A st.length c,.int .i64 tl,.bool b])∧Hid (b=true→fo=some (st,tl))∧Hid (b=false→fo=none)∧st.length≤2*n.pieces.length+2∧Hid (stepK.C w' (fun _=>True) A st)∧Hid (Below w.heap.size w w')
set_option maxRecDepth 100000 in
set_option maxHeartbeats 8000000 in
theorem specFollowed {ok ok' ok2:Nat→Prop} (n:Net) (ss:List Signal) (ls:List Int) (A0 A1 A2 A4:Option Addr) (c0 c1 c2 c4 i:Nat) (s:Signal) (w:World) (h:NC 102 w ok n A0 A1) (hs:signalK.C w ok' A2 ss) (hl:Kn.int.C w ok2 A4 ls) (hr:Hid (Right n ss)) (HL:Hid (LiesOk n ls)) (hi:Hid (ss[i]?=some s)) (hn:n.pieces.length≤100) :
  Calls Try.prog 25 #[.agg #[.slice A0 n.pieces.length c0,.slice A1 n.joints.length c1],.slice A2 ss.length c2,.int .i64 i,.slice A4 ls.length c4] w (RetFo n (followF n ss ls (2*n.pieces.length+2) s.piece s.way (farOf n s.piece s.at_ s.way)) w):=by
 have hm2:=hs.1
 have hml:=hl.1
 have hjm:=h.j.1
 have hil:=(List.getElem?_eq_some_iff.1 hi.out).1
 obtain ⟨iS,hiS,hzS,hyS,hxS⟩:=info_parts info46
 have HG:Hid (Good n):=Lib.hid hr.out.g
 have HN0:=Lib.hid h
 have HS0:=Lib.hid hs
 have HI0:=Lib.hid hl
 obtain ⟨sa,rfl,z0,z1,z2,z3,Ez,k0,k1,k2,k3⟩:=signalK_at hs i hil
 obtain rfl:s=⟨z0,z1,z2,z3⟩:=Option.some.inj (hi.out.symm.trans Ez.out)
 obtain ⟨hsp,a1,a2,a3⟩:=sig_in hr.out hi.out
 have hway:=hsp.2
 have hp1:=hsp.1
 simp only at hway hp1 a1 a2 a3
 obtain ⟨u,rfl⟩:∃u:Nat,z1=u:=⟨z1.toNat,by omega⟩
 have hu:u < n.pieces.length:=by omega
 have hkb:=World.block_lt_of_cell? _ _ k0
 have i0:(0:Int)≤(i:Int):=Int.natCast_nonneg _
 have i1:(i:Int) < (ss.length:Int):=by omega
 have hfar:0≤farOf n u z2 z3∧farOf n u z2 z3≤10000000:=by
  rcases hway with e | e
  ·rw [e,far_fwd];omega
  ·rw [e,far_back];omega
 clear h hs hl hsp hp1 Ez hi
 obtain ⟨fo,hfo⟩:∃fo,Hid (followF n ss ls (2*n.pieces.length+2) u z3 (farOf n u z2 z3)=fo):=⟨_,Lib.hid rfl⟩
 have HFO:Hid (FoI n ss ls fo [] (2*n.pieces.length+2) u z3 (farOf n u z2 z3)):=Lib.hid (by
  unfold FoI
  rw [hfo.out]
  cases fo with
  | none=>rfl
  | some r=>simp)
 show Calls _ _ _ _ (RetFo n (followF n ss ls (2*n.pieces.length+2) u z3 (farOf n u z2 z3)) w)
 rw [hfo.out]
 obtain ⟨M,hM⟩:∃M:Nat,M=2*n.pieces.length+2:=⟨_,rfl⟩
 rw [←hM] at HFO
 clear hfo
 go_enter Try.func25,Try.ntmps25
 go_upto_region 2 with (fail)
 obtain ⟨W1,hW1,hWs,hb1,HBN,HBS⟩:∃W,W=(w.alloc (.cells #[.slice A0 n.pieces.length c0,.slice A1 n.joints.length c1] 26)).alloc (.cells #[.string z0,.int .i64 u,.int .i64 z2,.int .i64 z3] 62)∧Hid (W.heap.size=w.heap.size+2)∧Hid (Below w.heap.size w W)∧Hid (Blk W w.heap.size 26 [.slice A0 n.pieces.length c0,.slice A1 n.joints.length c1])∧Hid (Blk W (w.heap.size+1) 62 [.string z0,.int .i64 u,.int .i64 z2,.int .i64 z3]):=by
  refine ⟨_,rfl,Lib.hid (by rw [size_alloc,size_alloc]),Lib.hid ((below_alloc _ _).alloc (by rw [size_alloc];omega) _),Lib.hid ((Blk.new w 26 [.slice A0 n.pieces.length c0,.slice A1 n.joints.length c1] rfl).alloc _),Lib.hid (Blk.new _ 62 [.string z0,.int .i64 u,.int .i64 z2,.int .i64 z3] (by rw [size_alloc]))⟩
 rw [←hW1]
 clear hW1 k0 k1 k2 k3 hkb
 have HN1:=Lib.hid (HN0.out.below hb1.out)
 have HS1:=Lib.hid (Kn.C_below hb1.out HS0.out)
 have HI1:=Lib.hid (Kn.C_below hb1.out HI0.out)
 have n0:=HBN.out.cell 0 rfl
 have n1:=HBN.out.cell 1 rfl
 have b1:=HBS.out.cell 1 rfl
 have b2:=HBS.out.cell 2 rfl
 have b3:=HBS.out.cell 3 rfl
 have hz0:w.heap.size < W1.heap.size:=HBN.out.lt
 have hz1:w.heap.size+1 < W1.heap.size:=HBS.out.lt
 clear HN0 HS0 HI0
 go_wp2_with fail
 refine (specFar n _ A0 c0 u z2 z3 _ HN1.out.p HG hu (by omega)).mono ?_
 rintro e w2 ⟨rfl,hb2⟩
 have HN2:=Lib.hid (HN1.out.below hb2)
 have HS2:=Lib.hid (Kn.C_below hb2 HS1.out)
 have HI2:=Lib.hid (Kn.C_below hb2 HI1.out)
 have HB2:=Lib.hid (HBN.out.below hb2 HBN.out.lt)
 have HZ2:=Lib.hid (hb1.out.trans (hb2.mono hb1.out.size))
 clear HN1 HS1 HI1 HBN HBS hb1 hb2 n0 n1 b1 b2 b3 hz0 hz1
 go_wp2
 go_loopw [12,13,14,15,16] (fun pv yv fv ov kv wr=>∃(u:Nat) (way far:Int) (st:List Step) (A:Option Addr) (c k t:Nat),pv=.int .i64 u∧yv=.int .i64 way∧fv=.int .i64 far∧ov=.slice A st.length c∧kv=.int .i64 k∧Hid (st.length=k)∧k+t=M∧u < n.pieces.length∧(way=1∨way=-1)∧(0≤far∧far≤10000000)∧Hid (FoI n ss ls fo st t u way far)∧Hid (stepK.Rw 46 wr nobody (.slice A st.length c) st)∧Hid (∀b,(Value.slice A st.length c).ownBlock=some b→w2.heap.size≤b)∧Hid (Below w2.heap.size w2 wr)) (fun _ _ _ _ kv _=>M - (intOf kv).toNat)
 case atStart=>exact ⟨u,z3,_,[],none,0,0,M,rfl,rfl,rfl,rfl,rfl,Lib.hid rfl,by omega,hu,hway,hfar,HFO,Lib.hid Kn.Rw.nil,Lib.hid (by simp [Value.ownBlock]),Lib.hid (Below.refl _ _)⟩
 case round =>
 obtain ⟨wo,rfl⟩:∃W:World,W=wr:=⟨_,rfl⟩
 clear HFO hfar hway hu a1 a2 a3
 obtain ⟨u,way,far,st,A,c,k,t,rfl,rfl,rfl,rfl,rfl,HST,hkt,hu,hway,hfar,HF,HR,HO,HB⟩:=hrel
 have HN:=Lib.hid (HN2.out.below HB.out)
 have HS:=Lib.hid (Kn.C_below HB.out HS2.out)
 have HI:=Lib.hid (Kn.C_below HB.out HI2.out)
 have HBX:=Lib.hid (HB2.out.below HB.out HB2.out.lt)
 have n0:=HBX.out.cell 0 rfl
 have hz0:w.heap.size < wo.heap.size:=HBX.out.lt
 have hm1:IntKind.i64.wrap (2*(n.pieces.length:Int))=2*(n.pieces.length:Int):=wrap_small (by omega) (by omega)
 have hm2:IntKind.i64.wrap (2*(n.pieces.length:Int)+2)=2*(n.pieces.length:Int)+2:=wrap_small (by omega) (by omega)
 by_cases hlk:k < M
 rotate_left
 ·as_aux_lemma =>
  obtain rfl:t=0:=by omega
  have d0:decide ((k:Int) < 2*(n.pieces.length:Int)+2)=false:=decide_eq_false (by omega)
  have hsl:st.length≤2*n.pieces.length+2:=by have:=HST.out;omega
  have hfin:=Lib.hid (HZ2.out.trans (HB.out.mono HZ2.out.size))
  have HC:=Lib.hid (Kn.C_mono (fun _ _=>trivial) (Rw_slice HR.out).2.2)
  go_wp2
  exact bodyPost_ret (v:=.tuple #[.slice A st.length c,.int .i64 (-1),.bool false]) (by simp [results,Try.results25,go_sem]) rfl ⟨st,A,c,-1,false,rfl,Lib.hid (fun e=>by cases e),Lib.hid (fun _=>HF.out.stop),hsl,HC,hfin⟩
 obtain ⟨t,rfl⟩:∃t':Nat,t=t'+1:=⟨t - 1,by omega⟩
 have d0:decide ((k:Int) < 2*(n.pieces.length:Int)+2)=true:=decide_eq_true (by omega)
 have m63:st.length+1≤maxLen:=by have:=HST.out;simp only [maxLen];omega
 have mby:(st.length+1)*16≤140737488355328:=by have:=HST.out;omega
 obtain ⟨W3,hW3,hb3,SRC⟩:∃W,W=wo.alloc (.cells #[.int .i64 u,.int .i64 way] 46)∧Below wo.heap.size wo W∧Hid (Kn.Src stepK W nobody (some ⟨wo.heap.size,0,none⟩) [⟨u,way⟩]):=⟨_,rfl,below_alloc _ _,Lib.hid (Kn.Src.one (stepK_mk _ _ ⟨u,way⟩) (new_cells _ _ _ rfl))⟩
 go_upto_region 10 with (at_builtin;(try rw [←hW3]);refine wpList_append_rw _ rfl (.tmp 46) (.tmp 50) 38 rfl 46 iS _ 16 Try.underlying38 hiS hzS hyS hxS rfl (by decide) (.slice A st.length c) st [⟨u,way⟩] rfl (HR.out.below hb3) (fun _ h=>h.elim) (some ⟨wo.heap.size,0,none⟩) 1 1 rfl rfl SRC.out m63 mby ?_;intro v' w4 HR4 hg hat;obtain ⟨A9,c9,rfl,hc9⟩:=HR4.form1)
 have hwo:w2.heap.size≤wo.heap.size:=HB.out.size
 have HB4:Hid (Below w2.heap.size w2 w4):=Lib.hid (below_push (HB.out.trans (hb3.mono hwo)) hg HO.out (Nat.le_trans hwo hb3.size))
 have HO4:=Lib.hid (own_next HO.out hat (Nat.le_trans hwo hb3.size))
 have HLL:Hid (st.length+1=(st++[(⟨u,way⟩:Step)]).length):=Lib.hid (by rw [List.length_append,List.length_singleton])
 rw [HLL.out] at HO4 HR4 ⊢
 obtain ⟨st1,hst1⟩:∃st1,Hid (st++[(⟨u,way⟩:Step)]=st1):=⟨_,Lib.hid rfl⟩
 have HST1:Hid (st1.length=k+1):=Lib.hid (by rw [←hst1.out,←HLL.out,HST.out])
 rw [hst1.out] at HO4 HR4 ⊢
 have HR4:=Lib.hid HR4
 have HN4:=Lib.hid (HN2.out.below HB4.out)
 have HS4:=Lib.hid (Kn.C_below HB4.out HS2.out)
 have HI4:=Lib.hid (Kn.C_below HB4.out HI2.out)
 have HX4:=Lib.hid (HB2.out.below HB4.out HB2.out.lt)
 clear HN HS HI HBX n0 hz0 d0 m63 mby SRC hb3 hg hat HR HO HB HLL HST hm1 hm2 hwo
 have n0:=HX4.out.cell 0 rfl
 have n1:=HX4.out.cell 1 rfl
 have hz0:w.heap.size < w4.heap.size:=HX4.out.lt
 go_wp2_with fail
 refine (specSignal n ss _ A0 (some sa) c0 c2 u way far _ HN4.out.p HS4.out hr hu hway hfar.1 hfar.2).mono ?_
 rintro e w5 ⟨rfl,hb5⟩
 obtain ⟨fs,hfs⟩:∃o,Hid (firstS n ss u way far=o):=⟨_,Lib.hid rfl⟩
 have hfs':firstTo n ss u way far ss.length=fs:=hfs.out
 rw [hfs']
 clear hfs'
 have HB5:=Lib.hid (HB4.out.trans (hb5.mono HB4.out.size))
 have HR5:=Lib.hid (HR4.out.below hb5)
 have HN5:=Lib.hid (HN4.out.below hb5)
 have HI5:=Lib.hid (Kn.C_below hb5 HI4.out)
 have HX5:=Lib.hid (HX4.out.below hb5 HX4.out.lt)
 have hsl:st1.length≤2*n.pieces.length+2:=by have:=HST1.out;omega
 clear HB4 HR4 HN4 HI4 HX4 HS4 hb5 n0 n1 hz0
 cases fs with
 | some b =>
  as_aux_lemma =>
  have d1:decide ((0:Int)≤(b:Int))=true:=decide_eq_true (by omega)
  have hfin:=Lib.hid (HZ2.out.trans (HB5.out.mono HZ2.out.size))
  have HC:=Lib.hid (Kn.C_mono (fun _ _=>trivial) (Rw_slice HR5.out).2.2)
  have HFF:Hid (fo=some (st1,(b:Int))):=Lib.hid (by rw [←hst1.out];exact HF.out.sig hfs.out)
  simp only [onum]
  go_wp2
  exact bodyPost_ret (v:=.tuple #[.slice A9 st1.length c9,.int .i64 b,.bool true]) (by simp [results,Try.results25,go_sem]) rfl ⟨st1,A9,c9,b,true,rfl,Lib.hid (fun _=>HFF.out),Lib.hid (fun e=>by cases e),hsl,HC,hfin⟩
 | none =>
 simp only [onum]
 have d1:decide ((0:Int)≤(-1:Int))=false:=rfl
 have HEP:Hid (stepP n.pieces.length ⟨u,way⟩):=Lib.hid ⟨⟨by show (0:Int)≤u;omega,by show (u:Int)≤_;omega⟩,hway⟩
 obtain ⟨e0,HE⟩:∃e0,Hid (headE u way=e0):=⟨_,Lib.hid rfl⟩
 have HEO:Hid (endP n.pieces.length e0):=Lib.hid (by rw [←HE.out];exact head_ok HEP.out)
 obtain ⟨j,kj,x,hat,hjk,hx,hP,hjl,hkl⟩:=at_get HG.out HEO.out
 have HA:=Lib.hid hjk
 have HX:=Lib.hid hx
 have HAT:=Lib.hid hat
 have HAH:Hid (atJ n (headE u way)=(j,kj)):=Lib.hid (by rw [HE.out];exact hjk)
 have HJP:=Lib.hid hP
 have hkle:kj < 4:=by have:=hP.1.2;have:=hP.2.1;omega
 clear hjk hx hat hP
 have m0:(0:Int)≤(j:Int):=Int.natCast_nonneg _
 have m1:(j:Int) < (n.joints.length:Int):=by omega
 have n0:=HX5.out.cell 0 rfl
 have n1:=HX5.out.cell 1 rfl
 have hz0:w.heap.size < w5.heap.size:=HX5.out.lt
 go_wp2
 go_region_held3 (fun w'=>Below w5.heap.size w5 w'∧w'.cell? ⟨w.heap.size,0,none⟩=some (.slice A0 n.pieces.length c0)∧w'.cell? ⟨w.heap.size,1,none⟩=some (.slice A1 n.joints.length c1))
  (first | exact ⟨(Below.refl _ _).drew,n0,n1⟩ | exact ⟨hbS.trans (hbc.mono hbS.size),cell_below (hbS.trans (hbc.mono hbS.size)) n0,cell_below (hbS.trans (hbc.mono hbS.size)) n1⟩)
  (first | (go_at_call 51;obtain ⟨hbS,_⟩:=‹Below w5.heap.size w5 _∧_›;(with_reducible refine (specHead _ _ _).mono ?_);rintro e wy ⟨rfl,hbc⟩;rw [HE.out]) | (go_at_call 50;obtain ⟨hbS,_⟩:=‹Below w5.heap.size w5 _∧_›;(with_reducible refine (specAt n A0 A1 c0 c1 e0 _ (HN5.out.below hbS) HG HEO).mono ?_);rintro e wy ⟨rfl,hbc⟩;rw [HA.out]))
 obtain ⟨hb6,_⟩:=‹Below w5.heap.size w5 wy∧_›
 have HB6:=Lib.hid (HB5.out.trans (hb6.mono HB5.out.size))
 have HR6:=Lib.hid (HR5.out.below hb6)
 have HN6:=Lib.hid (HN5.out.below hb6)
 have HI6:=Lib.hid (Kn.C_below hb6 HI5.out)
 have HX6:=Lib.hid (HX5.out.below hb6 HX5.out.lt)
 clear HB5 HR5 HN5 HI5 HX5 hb6 n0 n1 hz0 d1
 obtain ⟨aj,hAj,x1,E1,A3,c3,r0,r1,r2,l2,C2⟩:=jointK_at HN6.out.j j hjl
 subst hAj
 have hy:=HAT.out.1.symm.trans E1.out
 injection hy with hy
 subst hy
 have HC2:=Lib.hid C2
 have hme:=C2.1
 have t1:=HX6.out.cell 1 rfl
 have hz0:w.heap.size < wy.heap.size:=HX6.out.lt
 clear C2
 go_upto_region 15 with (fail)
 obtain ⟨W7,hW7,hb7,HJ7⟩:∃W,W=wy.alloc (.cells #[.int .i64 x.kind,.string x.name,.slice A3 x.ends.length c3] 97)∧Below wy.heap.size wy W∧Hid (Blk W wy.heap.size 97 [.int .i64 x.kind,.string x.name,.slice A3 x.ends.length c3]):=⟨_,rfl,below_alloc _ _,Lib.hid (Blk.new _ _ _ rfl)⟩
 rw [←hW7]
 clear hW7 t1 r0 r1 r2 hz0
 have HB7:=Lib.hid (HB6.out.trans (hb7.mono HB6.out.size))
 have HR7:=Lib.hid (HR6.out.below hb7)
 have HI7:=Lib.hid (Kn.C_below hb7 HI6.out)
 have HC7:=Lib.hid (Kn.C_below hb7 HC2.out)
 clear HB6 HR6 HN6 HI6 HX6 HC2 hb7
 have q0:=HJ7.out.cell 0 rfl
 have hzx:wy.heap.size < W7.heap.size:=HJ7.out.lt
 by_cases hk1:x.kind=1
 ·as_aux_lemma =>
  have d1:(x.kind == 1)=true:=int_eqt hk1
  have hfin:=Lib.hid (HZ2.out.trans (HB7.out.mono HZ2.out.size))
  have HC:=Lib.hid (Kn.C_mono (fun _ _=>trivial) (Rw_slice HR7.out).2.2)
  have HFF:Hid (fo=some (st1,(-1:Int))):=Lib.hid (by rw [←hst1.out];exact HF.out.fin hfs.out (by rw [HAH.out];simp only;rw [HX.out];exact hk1))
  clear hk1
  go_wp2
  exact bodyPost_ret (v:=.tuple #[.slice A9 st1.length c9,.int .i64 (-1),.bool true]) (by simp [results,Try.results25,go_sem]) rfl ⟨st1,A9,c9,-1,true,rfl,Lib.hid (fun _=>HFF.out),Lib.hid (fun e=>by cases e),hsl,HC,hfin⟩
 have d1:(x.kind == 1)=false:=int_eqf hk1
 have HK1:Hid (¬(jt n (atJ n (headE u way)).1).kind=1):=Lib.hid (by rw [HAH.out];simp only;rw [HX.out];exact hk1)
 obtain ⟨hlp,hl2⟩:=across_some HJP.out kj hk1
 have hl2:=Lib.hid hl2
 obtain ⟨L,HLA⟩:∃L,Hid (across x kj=L):=⟨_,Lib.hid rfl⟩
 have HLE:Hid (∀e∈L,endP n.pieces.length e):=Lib.hid (fun e he=>across_ok HJP.out hkl (by rw [HLA.out];exact he))
 rw [HLA.out] at hlp hl2
 have q1:=HJ7.out.cell 1 rfl
 have q2:=HJ7.out.cell 2 rfl
 clear hk1
 go_wp2_with fail
 refine (specAcross x A3 c3 kj n.pieces.length W7 HC7.out HJP.out hkl).mono ?_
 rintro e w8 hRC
 rw [HLA.out] at hRC
 obtain ⟨AL,cL,rfl,hcL,CL,hb8⟩:=hRC
 have HB8:=Lib.hid (HB7.out.trans (hb8.mono HB7.out.size))
 have HR8:=Lib.hid (HR7.out.below hb8)
 have HI8:=Lib.hid (Kn.C_below hb8 HI7.out)
 have HJ8:=Lib.hid (HJ7.out.below hb8 HJ7.out.lt)
 have HCL:=Lib.hid (Kn.C_bound CL)
 have hLm:=CL.1
 clear HB7 HR7 HI7 HJ7 HC7 hb8 CL q0 q1 q2 hzx d1
 obtain ⟨al,hAL,y0,y1,EE,g0,g1⟩:=endK_at HCL.out 0 hlp
 subst hAL
 rw [Nat.zero_mul,add_z0] at g0 g1
 have i0:(0:Int) < (L.length:Int):=by omega
 have hgb:=World.block_lt_of_cell? _ _ g0
 go_upto_region 19 with (fail)
 obtain ⟨W9,hW9,hb9,HE9⟩:∃W,W=w8.alloc (.cells #[.int .i64 y0,.int .i64 y1] 102)∧Below w8.heap.size w8 W∧Hid (Blk W w8.heap.size 102 [.int .i64 y0,.int .i64 y1]):=⟨_,rfl,below_alloc _ _,Lib.hid (Blk.new _ _ _ rfl)⟩
 rw [←hW9]
 clear hW9 g0 g1 hgb
 have HB9:=Lib.hid (HB8.out.trans (hb9.mono HB8.out.size))
 have HR9:=Lib.hid (HR8.out.below hb9)
 have HI9:=Lib.hid (Kn.C_below hb9 HI8.out)
 have HJ9:=Lib.hid (HJ8.out.below hb9 HJ8.out.lt)
 have HC9:=Lib.hid (Kn.C_below hb9 HCL.out)
 have HZ8:=Lib.hid HB8.out.size
 have HRL:=Lib.hid HR8.out.lt
 clear HB8 HR8 HI8 HJ8 HCL hb9
 have q0:=HJ9.out.cell 0 rfl
 have hzx:wy.heap.size < W9.heap.size:=HJ9.out.lt
 have hze:w8.heap.size < W9.heap.size:=HE9.out.lt
 have HEP0:=Lib.hid (HLE.out _ (mem_of_get EE.out))
 go_upto_if 87 with (fail)
 go_cut [] (fun wc=>∃e1:End,Hid (nxE n ls u way=some e1)∧Hid (endP n.pieces.length e1)∧Hid (Blk wc w8.heap.size 102 [.int .i64 e1.piece,.int .i64 e1.side])∧Hid (Keep (fun b=>b=w8.heap.size) W9 wc))
 case first =>
  by_cases hk3:x.kind=3
  ·have d3:(x.kind == 3)=true:=int_eqt hk3
   obtain ⟨A5,hA5,v,EV,gv⟩:=int_at HI9.out j (by rw [HL.out.len];exact hjl)
   have HLV:=Lib.hid (Lf_at EV.out)
   subst hA5
   have l1:(j:Int) < (ls.length:Int):=by rw [HL.out.len];exact m1
   by_cases hkj:kj=0
   ·have d4:decide ((0:Int) < (kj:Int))=false:=decide_eq_false (by omega)
    have d4':decide (0 < kj)=false:=decide_eq_false (by omega)
    have d5:((kj:Int) == 0)=true:=by rw [hkj];rfl
    have d5':(kj == 0)=true:=by rw [hkj];rfl
    have h2:=HL.out.two j hjl (by rw [HX.out];exact hk3)
    rw [HLV.out] at h2
    obtain ⟨q,hq,hq2⟩:∃q:Nat,v - 1=(q:Int)∧q < L.length:=⟨(v - 1).toNat,by omega,by have:=hl2.out hk3 hkj;omega⟩
    have wv:IntKind.i64.wrap (v - 1)=(q:Int):=by rw [IntKind.wrap_i64];omega
    obtain ⟨al',hal,y0',y1',EE',g0,g1⟩:=endK_at HC9.out q hq2
    injection hal with hal
    subst hal
    have q0':(0:Int)≤(q:Int):=Int.natCast_nonneg _
    have q1':(q:Int) < (L.length:Int):=by omega
    have u0:=HE9.out.frozen 0
    have u1:=HE9.out.frozen 1
    have u2:=HE9.out.cell 0 rfl
    have u3:=HE9.out.cell 1 rfl
    have HNX:Hid (nxE n ls u way=some ⟨y0',y1'⟩):=Lib.hid (by
     have h1:=nxE_tip (ls:=ls) (by rw [HAH.out,hkj]) HX.out hk3
     rw [h1,HLV.out,show (v - 1).toNat=q by omega,←hkj,HLA.out,getD_at EE'.out])
    have HEP1:=Lib.hid (HLE.out _ (mem_of_get EE'.out))
    clear hk3 hkj h2
    go_wp2
    go_meet
    case rel=>exact ⟨⟨y0',y1'⟩,HNX,HEP1,Lib.hid ((HE9.out.set_ 0 _).set_ 1 _),Lib.hid (((Keep.refl (fun b=>b=w8.heap.size) W9).setCell (p:=⟨w8.heap.size,0,none⟩) (fun _=>rfl) _).setCell (p:=⟨w8.heap.size,1,none⟩) (fun _=>rfl) _)⟩
   ·have d4:decide ((0:Int) < (kj:Int))=true:=decide_eq_true (by omega)
    have d4':decide (0 < kj)=true:=decide_eq_true (by omega)
    have d5:((kj:Int) == 0)=false:=by simpa using hkj
    have d5':(kj == 0)=false:=by simpa using hkj
    by_cases hv:v=(kj:Int)
    ·have d6:(v != (kj:Int))=false:=int_nef hv
     have HNX:Hid (nxE n ls u way=some ⟨y0,y1⟩):=Lib.hid (by rw [nxE_zero HAH.out HX.out (.inr ⟨by omega,by rw [HLV.out,hv]⟩),HLA.out,getD_at EE.out])
     clear hk3 hkj hv
     go_wp2
     go_meet
     case rel=>exact ⟨⟨y0,y1⟩,HNX,HEP0,HE9,Lib.hid (Keep.refl _ _)⟩
    ·have d6:(v != (kj:Int))=true:=int_net hv
     have hfin:=Lib.hid (HZ2.out.trans (HB9.out.mono HZ2.out.size))
     have HC:=Lib.hid (Kn.C_mono (fun _ _=>trivial) (Rw_slice HR9.out).2.2)
     have HFF:Hid (fo=none):=Lib.hid (HF.out.no hfs.out HK1.out (nxE_not HAH.out HX.out hk3 (by omega) (by rw [HLV.out];exact hv)))
     clear hk3 hkj hv
     go_wp2
     exact bodyPost_ret (v:=.tuple #[.slice A9 st1.length c9,.int .i64 (-1),.bool false]) (by simp [results,Try.results25,go_sem]) rfl ⟨st1,A9,c9,-1,false,rfl,Lib.hid (fun e=>by cases e),Lib.hid (fun _=>HFF.out),hsl,HC,hfin⟩
  ·have d3:(x.kind == 3)=false:=int_eqf hk3
   have HNX:Hid (nxE n ls u way=some ⟨y0,y1⟩):=Lib.hid (by rw [nxE_zero HAH.out HX.out (.inl hk3),HLA.out,getD_at EE.out])
   clear hk3
   go_wp2
   go_meet
   case rel=>exact ⟨⟨y0,y1⟩,HNX,HEP0,HE9,Lib.hid (Keep.refl _ _)⟩
 obtain ⟨e1,HNX,HEP1,HEc,HKE⟩:=hcut
 have HON:=Lib.hid (HF.out.on hfs.out HK1.out HNX.out)
 rw [hst1.out] at HON
 have HBc:Hid (Below w2.heap.size w2 wc):=Lib.hid (((Keep.of_below (S:=fun b=>b=w8.heap.size) HB9.out).trans HKE.out (fun _ _ e=>e)).to_below (Nat.le_refl _) (fun k hk e=>by have:=HZ8.out;omega))
 have HRc:=Lib.hid (HR9.out.grownK HKE.out (fun b hb e=>by have:=HRL.out b hb;omega) (fun _ e=>e.elim))
 obtain ⟨p1,s1⟩:=e1
 obtain ⟨⟨e1,e2⟩,e3,e4⟩:=HEP1.out
 simp only at e1 e2 e3 e4
 obtain ⟨u',rfl⟩:∃u':Nat,p1=u':=⟨p1.toNat,by omega⟩
 have v0:=HEc.out.cell 0 rfl
 have v1:=HEc.out.cell 1 rfl
 have hze':w8.heap.size < wc.heap.size:=HEc.out.lt
 clear HB9 HR9 HI9 HJ9 HC9 HE9 q0 hzx hze HF HNX HKE
 by_cases hs1:s1=1
 ·as_aux_lemma =>
  have d7:(s1 == 1)=true:=int_eqt hs1
  have hw:wayOf ⟨(u':Int),s1⟩=-1:=by unfold wayOf;rw [if_pos hs1]
  rw [hw] at HON
  go_wp2
  go_roundw
  case rel=>exact ⟨u',-1,0,st1,A9,c9,k+1,t,rfl,rfl,rfl,rfl,by go_num,HST1,by omega,by omega,.inr rfl,by omega,HON,HRc,HO4,HBc⟩
  case measure=>simp [intOf];omega
 ·as_aux_lemma =>
  have d7:(s1 == 1)=false:=int_eqf hs1
  have hw:wayOf ⟨(u':Int),s1⟩=1:=by unfold wayOf;rw [if_neg hs1]
  rw [hw] at HON
  go_wp2
  go_roundw
  case rel=>exact ⟨u',1,0,st1,A9,c9,k+1,t,rfl,rfl,rfl,rfl,by go_num,HST1,by omega,by omega,.inl rfl,by omega,HON,HRc,HO4,HBc⟩
  case measure=>simp [intOf];omega
end Go.Proofs.Ytjccgneimknbpaa.L
namespace Go.Proofs.Ytjccgneimknbpaa.L
open Go.RowKit
theorem jt_of {n:Net} {j:Nat} {x:Joint} (h:n.joints[j]?=some x):jt n j=x:=by
 unfold jt
 rw [List.getD_eq_getElem?_getD,h]
 rfl
theorem Lf_old {ls:List Int} {v:Int} {j:Nat} (h:j < ls.length):Lf (ls++[v]) j=Lf ls j:=by
 unfold Lf
 rw [List.getD_eq_getElem?_getD,List.getD_eq_getElem?_getD,List.getElem?_append_left h]
theorem Lf_new {ls:List Int} {v:Int}:Lf (ls++[v]) ls.length=v:=by
 unfold Lf
 rw [List.getD_eq_getElem?_getD,List.getElem?_append_right (Nat.le_refl _)]
 simp
def RetLW (n:Net) (w:World) (e:Ending) (w':World):Prop :=
 ∃(ls:List Int) (A:Option Addr) (c:Nat),e=.returned (.slice A ls.length c)∧ls.length≤c∧Hid (LiesOk n ls)∧Hid (Kn.int.C w' (fun _=>True) A ls)∧Hid (Below w.heap.size w w')
set_option maxRecDepth 100000 in
set_option maxHeartbeats 4000000 in
theorem specLW {ok ok':Nat→Prop} (n:Net) (bs:List Int) (A0 A1 Ac:Option Addr) (c0 c1 cc:Nat) (w:World) (hn:NC 102 w ok' n A0 A1) (h:byteK.C w ok Ac bs) (hb:Hid (∀x∈bs,0≤x∧x≤255)) (hj:n.joints.length≤120):Calls Try.prog 24 #[.agg #[.slice A0 n.pieces.length c0,.slice A1 n.joints.length c1],.slice Ac bs.length cc] w (RetLW n w):=by
 have HBy:=Lib.hid (Kn.C_bound h)
 have HN0:=Lib.hid hn
 clear h hn
 obtain ⟨i0,hi,hz0,hz1,hz2⟩:=info_parts info3
 go_enter Try.func24,Try.ntmps24
 go_upto_region 2 with (fail)
 obtain ⟨W1,hW1,hWs,hb1,HN1,HC1⟩:∃W,W=(w.alloc (.cells #[.slice A0 n.pieces.length c0,.slice A1 n.joints.length c1] 26)).alloc (.cells #[.slice Ac bs.length cc,.int .i64 0,.int .u64 0] 75)∧W.heap.size=w.heap.size+2∧Hid (Below w.heap.size w W)∧Hid (Blk W w.heap.size 26 [.slice A0 n.pieces.length c0,.slice A1 n.joints.length c1])∧Hid (Cb W (w.heap.size+1) 0 w.heap.size):=by
  have hbb:Below w.heap.size w ((w.alloc (.cells #[.slice A0 n.pieces.length c0,.slice A1 n.joints.length c1] 26)).alloc (.cells #[.slice Ac bs.length cc,.int .i64 0,.int .u64 0] 75)):=(below_alloc _ _).alloc (by rw [size_alloc];omega) _
  refine ⟨_,rfl,by rw [size_alloc,size_alloc],Lib.hid hbb,Lib.hid ((Blk.new w 26 [.slice A0 n.pieces.length c0,.slice A1 n.joints.length c1] rfl).alloc _),Lib.hid ⟨Ac,cc,bs,0,0,?_,?_,hb.out,Nat.le_refl _⟩⟩
  ·exact Blk.new _ 75 [.slice Ac bs.length cc,.int .i64 ((0:Nat):Int),.int .u64 0] (by rw [size_alloc])
  ·exact Kn.C_mono (fun b hb'=>⟨by have:=hb'.2;omega,hb'.2⟩) (Kn.C_below hbb HBy.out)
 rw [←hW1]
 clear hW1
 have HJ1:Hid ((jointK 102).C W1 (fun b=>b < w.heap.size) A1 n.joints):=Lib.hid (Kn.C_mono (fun b hb=>hb.2) (Kn.C_below hb1.out (Kn.C_bound HN0.out.j)))
 have n0:=HN1.out.cell 0 rfl
 have n1:=HN1.out.cell 1 rfl
 have hWl:w.heap.size+1 < W1.heap.size:=by omega
 have hWz:w.heap.size < W1.heap.size:=by omega
 go_wp2
 clear n0 n1
 go_loopw [6,16] (fun v kv wr=>∃(k m c:Nat) (ls:List Int) (A:Option Addr),v=.slice A ls.length c∧kv=.int .i64 k∧k≤n.joints.length∧Hid (ls.length=k)∧m≤2*k∧Hid (∀j,j < k→(jt n j).kind=3→Lf ls j=1∨Lf ls j=2)∧Hid (Kn.int.Rw 3 wr nobody (.slice A ls.length c) ls)∧Hid (∀b,(Value.slice A ls.length c).ownBlock=some b→W1.heap.size≤b)∧Hid (Cb wr (w.heap.size+1) m w.heap.size)∧Hid (Keep (fun b=>b=w.heap.size+1) W1 wr)) (fun _ kv _=>n.joints.length - (intOf kv).toNat)
 case atStart=>exact ⟨0,0,0,[],none,rfl,rfl,Nat.zero_le _,Lib.hid rfl,by omega,Lib.hid (fun j hj=>by omega),Lib.hid Kn.Rw.nil,Lib.hid (by simp [Value.ownBlock]),HC1,Lib.hid (Keep.refl _ _)⟩
 case round =>
 clear HC1
 obtain ⟨wo,rfl⟩:∃W:World,W=wr:=⟨_,rfl⟩
 obtain ⟨k,m,c,ls,A,rfl,rfl,hk,HLS,hm,HL,HR,HO,HC,HK⟩:=hrel
 have HN:=Lib.hid (HN1.out.keep HK.out (by omega))
 by_cases hlk:k < n.joints.length
 rotate_left
 ·as_aux_lemma =>
  obtain rfl:k=n.joints.length:=by omega
  have d0:decide ((n.joints.length:Int) < (n.joints.length:Int))=false:=decide_eq_false (by omega)
  have hcl:=(Rw_slice HR.out).2.1
  have hfin:Hid (Below w.heap.size w wo):=Lib.hid (((Keep.of_below (S:=fun b=>b=w.heap.size+1) hb1.out).trans HK.out (fun _ _ e=>e)).to_below (Nat.le_refl _) (fun b hb e=>by omega))
  go_wp2
  go_ret
  exact ⟨ls,A,c,rfl,hcl,Lib.hid ⟨HLS.out,HL.out⟩,Lib.hid (Kn.C_mono (fun _ _=>trivial) (Rw_slice HR.out).2.2),hfin⟩
 have d0:decide ((k:Int) < (n.joints.length:Int))=true:=decide_eq_true (by omega)
 have k0:(0:Int)≤(k:Int):=Int.natCast_nonneg _
 have k1:(k:Int) < (n.joints.length:Int):=by omega
 have HJ:Hid ((jointK 102).C wo (fun b=>b < w.heap.size) A1 n.joints):=Lib.hid (Kn.C_move (fun b hb=>HK.out.block b (by omega) (by omega)) HJ1.out)
 obtain ⟨ja,rfl,y,EY,AE,cE,j0,j1,j2,_,_⟩:=jointK_at HJ.out k hlk
 have HJT:=Lib.hid (jt_of EY.out)
 obtain ⟨W3,hW3,hb3,HB3⟩:∃W,W=wo.alloc (.cells #[.int .i64 y.kind,.string y.name,.slice AE y.ends.length cE] 97)∧Hid (Below wo.heap.size wo W)∧Hid (Blk W wo.heap.size 97 [.int .i64 y.kind,.string y.name,.slice AE y.ends.length cE]):=⟨_,rfl,Lib.hid (below_alloc _ _),Lib.hid (Blk.new _ _ _ rfl)⟩
 go_upto_region 6 with (fail)
 rw [←hW3]
 clear hW3 j0 j1 j2
 have HC3:=Lib.hid (HC.out.below hb3.out)
 have HR3:=Lib.hid (HR.out.below hb3.out)
 have HK3:=Lib.hid (HK.out.below hb3.out)
 have hwz:W1.heap.size≤wo.heap.size:=HK.out.size
 have b0:=HB3.out.cell 0 rfl
 have hbz:wo.heap.size < W3.heap.size:=HB3.out.lt
 clear HC HR HK HJ HN
 go_upto_if 22 with (fail)
 go_cut [9] (fun xv wc=>∃v:Int,xv=.int .i64 v∧Hid (y.kind=3→v=1∨v=2)∧Hid (Cb wc (w.heap.size+1) (m+2) w.heap.size)∧Hid (Keep (fun b=>b=w.heap.size+1) W3 wc))
 case first =>
  by_cases h3:y.kind=3
  ·have d3:(y.kind == 3)=true:=by simp [h3]
   clear h3
   go_wp2_with fail
   refine (curPick 2 1 (w.heap.size+1) m w.heap.size _ HC3 (by omega) (by omega) (by omega) (by omega)).mono ?_
   rintro e wp ⟨v,rfl,HV,HCp,HKp⟩
   have va:=HV.out.1
   have vb:=HV.out.2
   have wv:IntKind.i64.wrap (1+v)=1+v:=by rw [IntKind.wrap_i64];omega
   go_wp2
   go_meet
   case rel=>exact ⟨1+v,rfl,Lib.hid (fun _=>by omega),HCp,HKp⟩
  ·have d3:(y.kind == 3)=false:=by simp [h3]
   have H3:=Lib.hid h3
   clear h3
   go_wp2
   go_meet
   case rel=>exact ⟨0,rfl,Lib.hid (fun e=>absurd e H3.out),Lib.hid (HC3.out.mono (by omega) (Nat.le_refl _)),Lib.hid (Keep.refl _ _)⟩
 obtain ⟨v,rfl,HVK,HCc,HKc⟩:=hcut
 have HRc:=Lib.hid (HR3.out.grownK HKc.out (fun b hb e=>by have:=HO.out b hb;omega) (fun _ e=>e.elim))
 have HKK:=Lib.hid (HK3.out.trans HKc.out (fun _ _ e=>e))
 clear HC3 HR3 HK3 HKc b0 HB3 hb3 hbz
 obtain ⟨wq,rfl⟩:∃wq:World,wq=wc:=⟨_,rfl⟩
 have hwq:W1.heap.size≤wq.heap.size:=HKK.out.size
 obtain ⟨W5,hW5,hb5,SRC⟩:∃W,W=wq.alloc (.cells #[.int .i64 v] 3)∧Below wq.heap.size wq W∧Hid (Kn.Src Kn.int W nobody (some ⟨wq.heap.size,0,none⟩) [v]):=⟨_,rfl,below_alloc _ _,Lib.hid (Kn.Src.one rfl (new_cells _ _ _ rfl))⟩
 have m63:ls.length+1≤maxLen:=by have:=HLS.out;simp only [maxLen];omega
 have mby:(ls.length+1)*8≤140737488355328:=by have:=HLS.out;omega
 go_upto_region 10 with (at_builtin;(try rw [←hW5]);refine wpList_append_rw _ rfl (.tmp 26) (.tmp 28) 40 rfl 3 i0 _ 8 Try.underlying40 hi hz0 hz1 hz2 rfl (by decide) (.slice A ls.length c) ls [v] rfl (HRc.out.below hb5) (fun _ h=>h.elim) (some ⟨wq.heap.size,0,none⟩) 1 1 rfl rfl SRC.out m63 mby ?_;intro v' w6 HR6 hg hat;obtain ⟨A9,c9,rfl,hc9⟩:=HR6.form1)
 have HK6:Hid (Keep (fun b=>b=w.heap.size+1) W1 w6):=Lib.hid ((HKK.out.below hb5).grown hg (fun b hb hlt=>by have:=HO.out b hb;omega))
 have HC6:=Lib.hid (HCc.out.keep ((Keep.of_below (S:=fun b=>(Value.slice A ls.length c).ownBlock=some b) hb5).grown hg (fun b hb _=>hb)) (fun e=>by have:=HO.out _ e;omega) (fun b hb _ e=>by have:=HO.out _ e;omega))
 have HO6:=Lib.hid (own_next HO.out hat (Nat.le_trans hwq hb5.size))
 have HL6:Hid (∀j,j < k+1→(jt n j).kind=3→Lf (ls++[v]) j=1∨Lf (ls++[v]) j=2):=Lib.hid (fun j hj hk3=>by
  by_cases hjk:j < k
  ·rw [Lf_old (by rw [HLS.out];exact hjk)]
   exact HL.out j hjk hk3
  ·obtain rfl:j=k:=by omega
   have hq:Lf (ls++[v]) j=v:=by
    rw [show Lf (ls++[v]) j=Lf (ls++[v]) ls.length by rw [HLS.out]]
    exact Lf_new
   rw [hq]
   rw [HJT.out] at hk3
   exact HVK.out hk3)
 have HR7:Hid (Kn.int.Rw 3 w6 nobody (.slice A9 (ls++[v]).length c9) (ls++[v])):=Lib.hid (by rw [List.length_append,List.length_singleton];exact HR6)
 have HS6:Hid ((ls++[v]).length=k+1):=Lib.hid (by rw [List.length_append,List.length_singleton,HLS.out])
 have hLL:ls.length+1=(ls++[v]).length:=by rw [List.length_append,List.length_singleton]
 rw [hLL] at HO6 ⊢
 clear HR6 hg hat hb5 SRC m63 mby HKK HRc HCc HO HL hLL
 go_wp2
 go_roundw
 case rel=>exact ⟨k+1,m+2,c9,ls++[v],A9,rfl,by go_num,by omega,HS6,by omega,HL6,HR7,HO6,HC6,HK6⟩
 case measure=>simp [intOf];omega
end Go.Proofs.Ytjccgneimknbpaa.L
namespace Go.Proofs.Ytjccgneimknbpaa.L
open Go.RowKit
open Classical
def bare (r:Route):Route:={ r with over:=[] }
def listedF (n:Net) (ss:List Signal) (gs:List Route):Prop:=signalsOk n ss=⟨0,0⟩∧gs.length≤300∧∀r∈gs,bare r∈routesF n ss 0
theorem bare_of {n:Net} {ss:List Signal} {r:Route} (h:r∈routesF n ss 0):bare r=r:=by
 obtain ⟨hr,_,_,hrt⟩:=routesF_rt h
 have:r.over=[]:=List.eq_nil_of_length_eq_zero (by have:=hrt.overN;omega)
 obtain ⟨a0,a1,a2,a3,a4,a5,a6,a7⟩:=r
 unfold bare
 simp only at this ⊢
 rw [this]
theorem inTo_here {α:Type} {xs:List α} {k:Nat} {x:α} (hx:xs[k]?=some x):inTo xs (k+1) x:=⟨k,Nat.lt_succ_self k,hx⟩
theorem inTo_up {α:Type} {xs:List α} {k:Nat} {x:α} (h:inTo xs k x):inTo xs (k+1) x:=by
 obtain ⟨i,hi,hx⟩:=h
 exact ⟨i,by omega,hx⟩
theorem inTo_mem {α:Type} {xs:List α} {k:Nat} {x:α} (h:inTo xs k x):x∈xs:=by
 obtain ⟨i,hi,hx⟩:=h
 exact List.mem_of_getElem? hx
theorem RC.bare {w:World} {ok:Nat→Prop} {x:Route} {A2 A3 A4 A5 A6 A7:Option Addr} (h:RC w ok x A2 A3 A4 A5 A6 A7):RC w ok (bare x) A2 A3 A4 A5 none A7:=⟨h.h2,h.h3,h.h4,h.h5,Kn.C_nil,h.h7⟩
set_option maxRecDepth 100000 in
set_option maxHeartbeats 8000000 in
theorem implListed {ok ok' ok2:Nat→Prop} (n:Net) (ss:List Signal) (gs:List Route) (A0 A1 A2 A3:Option Addr) (c0 c1 c2 c3:Nat) (w:World) (h:NC 102 w ok n A0 A1) (hs:signalK.C w ok' A2 ss) (hc:ss.length≤c2) (hg:rK.C w ok2 A3 gs) (hn:NetIn n) (hi:SigIn ss) {b:Bool} (hbb:Hid (pv (listedF n ss gs)=b)) :
  Calls Try.prog 53 #[.agg #[.slice A0 n.pieces.length c0,.slice A1 n.joints.length c1],.slice A2 ss.length c2,.slice A3 gs.length c3] w (RetB b w):=by
 have hgm:=hg.1
 have hb0:Below w.heap.size w (w.alloc (.cells #[.slice A0 n.pieces.length c0,.slice A1 n.joints.length c1] 26)):=below_alloc _ _
 by_cases hl:300 < gs.length
 ·obtain rfl:false=b:=by rw [←hbb.out];exact (pv_false (fun e=>by have:=e.2.1;omega)).symm
  clear hbb
  go_enter Try.func53,Try.ntmps53
  go_wp2
  go_ret
  exact ⟨rfl,hb0⟩
 have hl':gs.length≤300:=by omega
 by_cases hk:signalsOk n ss=⟨0,0⟩
 rotate_left
 ·have HB:Hid (askOk n ss 0=false):=Lib.hid (pv_false (fun e=>hk e.1))
  obtain rfl:false=b:=by rw [←hbb.out];exact (pv_false (fun e=>hk e.1)).symm
  clear hk hbb hl
  go_enter Try.func53,Try.ntmps53
  go_wp2_with fail
  refine (implRoutes0 n ss 0 A0 A1 A2 c0 c1 c2 _ (h.below hb0) (Kn.C_below hb0 hs) hc hn hi).mono ?_
  rw [HB.out]
  rintro e w1 ⟨A,c,rfl,hcl,HR,HO,hb1⟩
  go_wp2
  go_ret
  exact ⟨rfl,hb0.trans (hb1.mono (by simp))⟩
 have HB:Hid (askOk n ss 0=true):=Lib.hid (pv_true ⟨hk,by omega⟩)
 have hl2:gs.length≤300:=by omega
 have HS:Hid (signalsOk n ss=⟨0,0⟩):=Lib.hid hk
 have Hh:=Lib.hid (h:NC 102 w ok n A0 A1)
 have Hs:=Lib.hid hs
 have Hg:=Lib.hid hg
 have HN:=Lib.hid (h.below hb0)
 have HSS:=Lib.hid (Kn.C_below hb0 hs)
 obtain ⟨W0,hW0,hB0,f0,f1,hz0⟩:∃W,W=w.alloc (.cells #[.slice A0 n.pieces.length c0,.slice A1 n.joints.length c1] 26)∧Below w.heap.size w W∧Hid (W.cell? ⟨w.heap.size,0,none⟩=some (.slice A0 n.pieces.length c0))∧Hid (W.cell? ⟨w.heap.size,1,none⟩=some (.slice A1 n.joints.length c1))∧Hid (w.heap.size < W.heap.size):=⟨_,rfl,hb0,Lib.hid (by simp),Lib.hid (by simp),Lib.hid (by simp)⟩
 rw [←hW0] at HN HSS
 obtain ⟨rs,hrs⟩:∃rs,Hid (routesF n ss 0=rs):=⟨_,Lib.hid rfl⟩
 have hrl:rs.length≤300:=by rw [←hrs.out];exact routesF_len _ _ _
 have HBR:Hid (∀r∈rs,bare r=r):=Lib.hid (by rw [←hrs.out];exact fun r hr=>bare_of hr)
 clear h hs hg hk hl hb0
 go_enter Try.func53,Try.ntmps53
 go_wp2_with fail
 rw [←hW0]
 clear hW0
 refine (implRoutes0 n ss 0 A0 A1 A2 c0 c1 c2 _ HN.out HSS.out hc hn hi).mono ?_
 rw [HB.out,hrs.out]
 rintro e w2 ⟨N0,n0,rfl,hn0,HR,HO,hb2⟩
 have C0:Hid (rK.C w2 (fun _=>True) N0 rs):=Lib.hid (Kn.C_mono (fun _ _=>trivial) (Rw_slice HR.out).2.2)
 have BW:Hid (Below w.heap.size w w2):=Lib.hid (hB0.trans (hb2.mono hB0.size))
 clear hb2 HR HO HN HSS hB0
 have HG:=Lib.hid (Kn.C_below BW.out Hg.out)
 go_wp2
 go_loopw [27] (fun iv wr=>∃k:Nat,k≤gs.length∧iv=.int .i64 k∧Hid (∀i r,i < k→gs[i]?=some r→bare r∈rs)∧Hid (Below w2.heap.size w2 wr)) (fun iv _=>gs.length - (intOf iv).toNat)
 case atStart=>exact ⟨0,Nat.zero_le _,rfl,Lib.hid (fun i r hi=>absurd hi (by omega)),Lib.hid (Below.refl _ _)⟩
 case round =>
 obtain ⟨k,hk,rfl,HT,HBr⟩:=hrel
 obtain ⟨wo,rfl⟩:∃W,W=wr:=⟨_,rfl⟩
 by_cases hlt:k < gs.length
 rotate_left
 ·obtain rfl:k=gs.length:=by omega
  have HF:Hid (true=b):=Lib.hid (by
   rw [←hbb.out]
   refine (pv_true ⟨HS.out,hl2,fun r hr=>?_⟩).symm
   obtain ⟨i,hi⟩:=List.mem_iff_getElem?.1 hr
   rw [hrs.out]
   exact HT.out i r (List.getElem?_eq_some_iff.1 hi).1 hi)
  have hfin:=BW.out.trans (HBr.out.mono BW.out.size)
  go_wp2
  go_ret
  exact ⟨by rw [←HF.out];rfl,hfin⟩
 have i0:(0:Int)≤(k:Int):=Int.natCast_nonneg _
 have i1:(k:Int) < (gs.length:Int):=by omega
 obtain ⟨ra,rfl,r,Er,D2,D3,D4,D5,D6,D7,d2,d3,d4,d5,d6,d7,p0,p1,p2,p3,p4,p5,p6,p7,HRr⟩:=rC_at (Kn.C_below HBr.out HG.out) k hlt
 obtain ⟨W3,hW3,HQ,HB3⟩:∃W,W=wo.alloc (.cells #[.int .i64 r.frm,.int .i64 r.til,.slice D2 r.steps.length d2,.slice D3 r.lies.length d3,.slice D4 r.crosses.length d4,.slice D5 r.parts.length d5,.slice none 0 0,.slice D7 r.flanks.length d7] 44)∧Hid (Blk W wo.heap.size 44 [.int .i64 r.frm,.int .i64 r.til,.slice D2 r.steps.length d2,.slice D3 r.lies.length d3,.slice D4 r.crosses.length d4,.slice D5 r.parts.length d5,.slice none 0 0,.slice D7 r.flanks.length d7])∧Hid (Below w2.heap.size w2 W) :=
  ⟨_,rfl,Lib.hid (Blk.new _ _ _ rfl),Lib.hid (HBr.out.alloc HBr.out.size _)⟩
 have HRB:Hid (RC W3 ok2 r D2 D3 D4 D5 D6 D7):=Lib.hid (HRr.out.below (by rw [hW3];exact below_alloc _ _))
 go_wp2
 rw [←hW3]
 clear hW3
 obtain ⟨rb,hrb⟩:∃g,Hid (wo.heap.size=g):=⟨_,Lib.hid rfl⟩
 rw [hrb.out] at HQ
 rw [hrb.out]
 have HC0:=Lib.hid (Kn.C_below HB3.out C0.out)
 clear p0 p1 p2 p3 p4 p5 p6 p7 HRr
 go_loopw [34,11] (fun iv mv wr=>∃i:Nat,∃m:Bool,i≤rs.length∧iv=.int .i64 i∧mv=.bool m∧Hid (m=pv (inTo rs i (bare r)))∧Hid (Below W3.heap.size W3 wr)) (fun iv _ _=>rs.length - (intOf iv).toNat)
 case atStart=>exact ⟨0,false,Nat.zero_le _,rfl,rfl,Lib.hid (pv_false inTo_zero).symm,Lib.hid (Below.refl _ _)⟩
 case round =>
  obtain ⟨i,m,hi,rfl,rfl,HM,HBi⟩:=hrel
  have HQi:=Lib.hid (HQ.out.below HBi.out HQ.out.lt)
  have zr:rb < wr.heap.size:=HQi.out.lt
  by_cases hit:i < rs.length
  ·have j0:(0:Int)≤(i:Int):=Int.natCast_nonneg _
   have j1:(i:Int) < (rs.length:Int):=by omega
   obtain ⟨xa,rfl,x,Ex,E2,E3,E4,E5,E6,E7,e2,e3,e4,e5,e6,e7,q0,q1,q2,q3,q4,q5,q6,q7,HRx⟩:=rC_at (Kn.C_below HBi.out HC0.out) i hit
   have HRx2:=Lib.hid (HRB.out.below HBi.out)
   have s0:=HQi.out.cell 0 rfl
   have s1:=HQi.out.cell 1 rfl
   have s2:=HQi.out.cell 2 rfl
   have s3:=HQi.out.cell 3 rfl
   have s4:=HQi.out.cell 4 rfl
   have s5:=HQi.out.cell 5 rfl
   have s6:=HQi.out.cell 6 rfl
   have s7:=HQi.out.cell 7 rfl
   have HXB:Hid (bare x=x):=Lib.hid (HBR.out x (List.mem_of_getElem? Ex.out))
   by_cases hm:inTo rs i (bare r)
   ·obtain rfl:m=true:=by rw [HM.out];exact pv_true hm
    have HM2:Hid (true=pv (inTo rs (i+1) (bare r))):=Lib.hid (pv_true (inTo_up hm)).symm
    have HB5:Hid (Below W3.heap.size W3 (wr.alloc (.cells #[.int .i64 x.frm,.int .i64 x.til,.slice E2 x.steps.length e2,.slice E3 x.lies.length e3,.slice E4 x.crosses.length e4,.slice E5 x.parts.length e5,.slice none 0 0,.slice E7 x.flanks.length e7] 44))):=Lib.hid (HBi.out.alloc HBi.out.size _)
    clear hm
    go_wp2
    go_roundw
    case rel=>exact ⟨i+1,true,by omega,by go_num,rfl,HM2,HB5⟩
    case measure=>simp [intOf];omega
   obtain rfl:m=false:=by rw [HM.out];exact pv_false hm
   by_cases hf:x.frm=r.frm
   rotate_left
   ·have t0:(x.frm == r.frm)=false:=int_eqf hf
    have HM2:Hid (false=pv (inTo rs (i+1) (bare r))):=Lib.hid (pv_false (inTo_snoc hm Ex.out (fun e=>hf (by rw [e];rfl)))).symm
    have HB5:Hid (Below W3.heap.size W3 (wr.alloc (.cells #[.int .i64 x.frm,.int .i64 x.til,.slice E2 x.steps.length e2,.slice E3 x.lies.length e3,.slice E4 x.crosses.length e4,.slice E5 x.parts.length e5,.slice none 0 0,.slice E7 x.flanks.length e7] 44))):=Lib.hid (HBi.out.alloc HBi.out.size _)
    clear hm hf
    go_wp2
    go_roundw
    case rel=>exact ⟨i+1,false,by omega,by go_num,rfl,HM2,HB5⟩
    case measure=>simp [intOf];omega
   have t1:(x.frm == r.frm)=true:=by rw [hf];exact beq_self_eq_true _
   clear hf
   obtain ⟨W4,hW4,hb4,HX4,HR4⟩:∃W,W=wr.alloc (.cells #[.int .i64 x.frm,.int .i64 x.til,.slice E2 x.steps.length e2,.slice E3 x.lies.length e3,.slice E4 x.crosses.length e4,.slice E5 x.parts.length e5,.slice none 0 0,.slice E7 x.flanks.length e7] 44)∧Below wr.heap.size wr W∧Hid (RC W (fun _=>True) (bare x) E2 E3 E4 E5 none E7)∧Hid (RC W ok2 (bare r) D2 D3 D4 D5 none D7):=by
    have hb:Below wr.heap.size wr (wr.alloc (.cells #[.int .i64 x.frm,.int .i64 x.til,.slice E2 x.steps.length e2,.slice E3 x.lies.length e3,.slice E4 x.crosses.length e4,.slice E5 x.parts.length e5,.slice none 0 0,.slice E7 x.flanks.length e7] 44)):=below_alloc _ _
    exact ⟨_,rfl,hb,Lib.hid (HRx.out.below hb).bare,Lib.hid (HRx2.out.below hb).bare⟩
   go_wp2_with fail
   rw [←hW4]
   clear hW4 q0 q1 q2 q3 q4 q5 q6 q7 s0 s1 s2 s3 s4 s5 s6 s7
   refine (implParts (bare x) (bare r) E2 E3 E4 E5 none E7 e2 e3 e4 e5 0 e7 D2 D3 D4 D5 none D7 d2 d3 d4 d5 0 d7 _ HX4.out HR4.out).mono ?_
   rintro e w5 ⟨rfl,hb5⟩
   have HB5:Hid (Below W3.heap.size W3 w5):=Lib.hid (HBi.out.trans ((hb4.trans (hb5.mono hb4.size)).mono HBi.out.size))
   clear hb4 hb5
   rw [HXB.out]
   by_cases hx:x=bare r
   ·have t0:(partsF x (bare r) == 0)=true:=by rw [partsF_zero.2 hx];rfl
    have HM2:Hid (true=pv (inTo rs (i+1) (bare r))):=Lib.hid (pv_true (inTo_here (by rw [←hx];exact Ex.out))).symm
    clear hm hx
    go_wp2
    go_roundw
    case rel=>exact ⟨i+1,true,by omega,by go_num,rfl,HM2,HB5⟩
    case measure=>simp [intOf];omega
   ·have t0:(partsF x (bare r) == 0)=false:=int_eqf (fun e=>hx (partsF_zero.1 e))
    have HM2:Hid (false=pv (inTo rs (i+1) (bare r))):=Lib.hid (pv_false (inTo_snoc hm Ex.out hx)).symm
    clear hm hx
    go_wp2
    go_roundw
    case rel=>exact ⟨i+1,false,by omega,by go_num,rfl,HM2,HB5⟩
    case measure=>simp [intOf];omega
  ·obtain rfl:i=rs.length:=by omega
   have HB6:Hid (Below w2.heap.size w2 wr):=Lib.hid (HB3.out.trans (HBi.out.mono HB3.out.size))
   by_cases hm:bare r∈rs
   ·obtain rfl:m=true:=by
     rw [HM.out]
     obtain ⟨i,hi⟩:=List.mem_iff_getElem?.1 hm
     exact pv_true ⟨i,(List.getElem?_eq_some_iff.1 hi).1,hi⟩
    have HT2:Hid (∀i r,i < k+1→gs[i]?=some r→bare r∈rs):=Lib.hid (fun i y hi hy=>by
     by_cases e:i=k
     ·subst e
      obtain rfl:=Option.some.inj (Er.out.symm.trans hy)
      exact hm
     ·exact HT.out i y (by omega) hy)
    clear hm HM
    go_wp2
    go_roundw
    case rel=>exact ⟨k+1,by omega,by go_num,HT2,HB6⟩
    case measure=>simp [intOf];omega
   ·obtain rfl:m=false:=by
     rw [HM.out]
     exact pv_false (fun e=>hm (inTo_mem e))
    have HF:Hid (false=b):=Lib.hid (by
     rw [←hbb.out]
     refine (pv_false (fun e=>hm ?_)).symm
     rw [←hrs.out]
     exact e.2.2 r (List.mem_of_getElem? Er.out))
    have hfin:=BW.out.trans (HB6.out.mono BW.out.size)
    clear hm HM
    go_wp2
    go_ret
    exact ⟨by rw [←HF.out];rfl,hfin⟩
end Go.Proofs.Ytjccgneimknbpaa.L
namespace Go.Proofs.Ytjccgneimknbpaa.L
open Go.RowKit
open Classical
noncomputable def firstF {α:Type} (p:α→Prop):List α→Nat→Int
 | [],_=>-1
 | r::l,k=>if p r then (k:Int) else firstF p l (k+1)
theorem firstF_at {α:Type} {p:α→Prop}:∀{l:List α} {k s:Nat} {x:α},(∀i r,i < k→l[i]?=some r→¬p r)→l[k]?=some x→p x→firstF p l s=((s+k:Nat):Int)
 | [],_,_,_,_,h,_=>by simp at h
 | r::l,0,s,x,_,h,hp=>by
  obtain rfl:r=x:=by simpa using h
  rw [firstF,if_pos hp,Nat.add_zero]
 | r::l,k+1,s,x,hb,h,hp=>by
  have h0:=hb 0 r (by omega) rfl
  rw [firstF,if_neg h0,firstF_at (k:=k) (fun i y hi hy=>hb (i+1) y (by omega) (by simpa using hy)) (by simpa using h) hp]
  congr 1
  omega
theorem firstF_none {α:Type} {p:α→Prop}:∀{l:List α} {s:Nat},(∀i r,i < l.length→l[i]?=some r→¬p r)→firstF p l s=-1
 | [],_,_=>rfl
 | r::l,s,hb=>by
  have h0:=hb 0 r (by simp) rfl
  rw [firstF,if_neg h0]
  exact firstF_none (fun i y hi hy=>hb (i+1) y (by simp;omega) (by simpa using hy))
def okL (ls:List Int) (l:Lie):Prop:=ls[l.joint.toNat]?=some l.lie
def fitsF (ss:List Signal) (frm:ByteArray) (ls:List Int) (r:Route):Prop:=(∃s,ss[r.frm.toNat]?=some s∧s.name=frm)∧∀l∈r.lies,okL ls l
noncomputable def routeAtF (n:Net) (ss:List Signal) (gs:List Route) (frm:ByteArray) (ls:List Int):Int :=
 if listedF n ss gs∧ls.length=n.joints.length then firstF (fitsF ss frm ls) gs 0 else -1
theorem listed_in {n:Net} {ss:List Signal} {gs:List Route} {k:Nat} {r:Route} (h:listedF n ss gs) (hr:gs[k]?=some r):(∃i:Nat,r.frm=i∧i < ss.length)∧∀l∈r.lies,lieP n l:=by
 obtain ⟨_,_,_,hrt⟩:=routesF_rt (h.2.2 r (List.mem_of_getElem? hr))
 obtain ⟨i,s0,hi,hs,_⟩:=hrt.frm
 exact ⟨⟨i,hi,(List.getElem?_eq_some_iff.1 hs).1⟩,hrt.lies⟩
theorem str_bne {a b:ByteArray} (h:¬a=b):(a.toList != b.toList)=true:=by
 have:=str_ne h
 simp only [bne,this,Bool.not_false]
theorem str_bef {a b:ByteArray} (h:a=b):(a.toList != b.toList)=false:=by rw [h];simp
set_option maxRecDepth 100000 in
set_option maxHeartbeats 8000000 in
theorem implRouteAt {ok ok' ok2 ok3:Nat→Prop} (n:Net) (ss:List Signal) (gs:List Route) (frm:ByteArray) (ls:List Int) (A0 A1 A2 A3 A4:Option Addr) (c0 c1 c2 c3 c4:Nat) (w:World) (h:NC 102 w ok n A0 A1) (hs:signalK.C w ok' A2 ss) (hc:ss.length≤c2) (hg:rK.C w ok2 A3 gs) (hl:Kn.int.C w ok3 A4 ls) (hn:NetIn n) (hi:SigIn ss) :
  Calls Try.prog 27 #[.agg #[.slice A0 n.pieces.length c0,.slice A1 n.joints.length c1],.slice A2 ss.length c2,.slice A3 gs.length c3,.string frm,.slice A4 ls.length c4] w (RetI (routeAtF n ss gs frm ls) w):=by
 have hgm:=hg.1
 have hlm:=hl.1
 obtain ⟨W0,hW0,hB0,f0,f1,hz0⟩:∃W,W=w.alloc (.cells #[.slice A0 n.pieces.length c0,.slice A1 n.joints.length c1] 26)∧Below w.heap.size w W∧Hid (W.cell? ⟨w.heap.size,0,none⟩=some (.slice A0 n.pieces.length c0))∧Hid (W.cell? ⟨w.heap.size,1,none⟩=some (.slice A1 n.joints.length c1))∧Hid (w.heap.size < W.heap.size):=⟨_,rfl,below_alloc _ _,Lib.hid (by simp),Lib.hid (by simp),Lib.hid (by simp)⟩
 have HN:=Lib.hid (h.below hB0)
 have HSS:=Lib.hid (Kn.C_below hB0 hs)
 have HGG:=Lib.hid (Kn.C_below hB0 hg)
 have HLL:=Lib.hid (Kn.C_below hB0 hl)
 have hjl:=hn.joints
 have hsl:=hi.len
 clear h hs hg hl
 go_enter Try.func27,Try.ntmps27
 go_wp2
 go_step3
 go_wp2_with fail
 rw [←hW0]
 clear hW0
 refine (implListed n ss gs A0 A1 A2 A3 c0 c1 c2 c3 _ HN.out HSS.out hc HGG.out hn hi (Lib.hid rfl)).mono ?_
 rintro e w1 ⟨rfl,hb1⟩
 have BW:Hid (Below w.heap.size w w1):=Lib.hid (hB0.trans (hb1.mono hB0.size))
 have g1:=cell_below hb1 f1.out
 have gz:w.heap.size < w1.heap.size:=Nat.lt_of_lt_of_le hz0.out hb1.size
 have HSS:=Lib.hid (Kn.C_below hb1 HSS.out)
 have HGG:=Lib.hid (Kn.C_below hb1 HGG.out)
 have HLL:=Lib.hid (Kn.C_below hb1 HLL.out)
 clear hb1 hB0
 by_cases hli:listedF n ss gs
 rotate_left
 ·rw [pv_false hli]
  have HF:Hid (routeAtF n ss gs frm ls=-1):=Lib.hid (by unfold routeAtF;rw [if_neg (fun e=>hli e.1)])
  clear hli
  go_wp2
  try rw [Exit.noGoto_ret]
  go_ret
  exact ⟨by rw [HF.out];rfl,BW.out⟩
 rw [pv_true hli]
 by_cases hll:ls.length=n.joints.length
 rotate_left
 ·have HF:Hid (routeAtF n ss gs frm ls=-1):=Lib.hid (by unfold routeAtF;rw [if_neg (fun e=>hll e.2)])
  have g0:=len_ne hll
  clear hli hll
  go_wp2
  try rw [Exit.noGoto_ret]
  go_ret
  exact ⟨by rw [HF.out];rfl,BW.out⟩
 have HRA:Hid (routeAtF n ss gs frm ls=firstF (fitsF ss frm ls) gs 0):=Lib.hid (by unfold routeAtF;rw [if_pos ⟨hli,hll⟩])
 have HLI:=Lib.hid (fun k r (hr:gs[k]?=some r)=>listed_in hli hr)
 have g0:=len_eq hll
 have HLE:=Lib.hid hll
 have hg300:gs.length≤300:=hli.2.1
 clear hli hll
 go_wp2
 clear g0 g1 gz
 go_step3
 go_wp2
 go_loopg [30] gs.length (fun g iv wr=>∃k:Nat,k+g=gs.length∧iv=.int .i64 k∧Hid (∀i r,i < k→gs[i]?=some r→¬fitsF ss frm ls r)∧Hid (Below w1.heap.size w1 wr))
 case atStart=>exact ⟨0,by omega,rfl,Lib.hid (fun i r hi=>absurd hi (by omega)),Lib.hid (Below.refl _ _)⟩
 case round =>
 obtain ⟨k,hkg,rfl,HT,HBr⟩:=hrel
 have HKG:=Lib.hid hkg
 have hk:k≤gs.length:=by omega
 clear hkg
 obtain ⟨gO,rfl⟩:∃x,x=gk:=⟨_,rfl⟩
 by_cases hlt:k < gs.length
 rotate_left
 ·obtain rfl:k=gs.length:=by omega
  have HF:Hid (routeAtF n ss gs frm ls=-1):=Lib.hid (by rw [HRA.out];exact firstF_none HT.out)
  have hfin:=BW.out.trans (HBr.out.mono BW.out.size)
  go_wp2
  try rw [Exit.noGoto_ret]
  go_ret
  exact ⟨by rw [HF.out];rfl,hfin⟩
 have i0:(0:Int)≤(k:Int):=Int.natCast_nonneg _
 have i1:(k:Int) < (gs.length:Int):=by omega
 obtain ⟨ra,rfl,r,Er,D2,D3,D4,D5,D6,D7,d2,d3,d4,d5,d6,d7,p0,p1,p2,p3,p4,p5,p6,p7,HRr⟩:=rC_at (Kn.C_below HBr.out HGG.out) k hlt
 obtain ⟨u,hu,hul⟩:=(HLI.out k r Er.out).1
 obtain ⟨r0,r1,r2,r3,r4,r5,r6,r7⟩:=r
 simp only at hu
 subst hu
 obtain ⟨sa,rfl,z0,z1,z2,z3,Ez,k0,k1,k2,k3⟩:=signalK_at (Kn.C_below HBr.out HSS.out) u hul
 have u0:(0:Int)≤(u:Int):=Int.natCast_nonneg _
 have u1:(u:Int) < (ss.length:Int):=by omega
 have sk:=World.block_lt_of_cell? _ _ k0
 have HL3:=Lib.hid (HLI.out k _ Er.out).2
 obtain ⟨W3,hW3,HQ,HB3,kk,HB3w⟩:∃W,W=wr.alloc (.cells #[.int .i64 u,.int .i64 r1,.slice D2 r2.length d2,.slice D3 r3.length d3,.slice D4 r4.length d4,.slice D5 r5.length d5,.slice D6 r6.length d6,.slice D7 r7.length d7] 44)∧Hid (Blk W wr.heap.size 44 [.int .i64 u,.int .i64 r1,.slice D2 r2.length d2,.slice D3 r3.length d3,.slice D4 r4.length d4,.slice D5 r5.length d5,.slice D6 r6.length d6,.slice D7 r7.length d7])∧Hid (Below w1.heap.size w1 W)∧W.cell? (sa.add (u*4))=some (.string z0)∧Below wr.heap.size wr W:=⟨_,rfl,Lib.hid (Blk.new _ _ _ rfl),Lib.hid (HBr.out.alloc HBr.out.size _),cell_below (below_alloc _ _) k0,below_alloc _ _⟩
 by_cases hnm:z0=frm
 rotate_left
 ·have t0:(z0.toList == frm.toList)=false:=str_ne hnm
  have t1:(z0.toList != frm.toList)=true:=str_bne hnm
  have HT2:Hid (∀i r,i < k+1→gs[i]?=some r→¬fitsF ss frm ls r):=Lib.hid (fun i y hi hy=>by
   by_cases e:i=k
   ·subst e
    obtain rfl:=Option.some.inj (Er.out.symm.trans hy)
    rintro ⟨⟨s,hs,hsn⟩,_⟩
    simp only [Int.toNat_natCast] at hs
    obtain rfl:=Option.some.inj (Ez.out.symm.trans hs)
    exact hnm hsn
   ·exact HT.out i y (by omega) hy)
  clear hnm
  go_upto_if 42 with (fail)
  rw [←hW3]
  clear hW3
  go_wp2
  go_roundg (gO - 1)
  case rel=>exact ⟨k+1,by have:=HKG.out;omega,by go_num,HT2,HB3⟩
  case measure=>have:=HKG.out;omega
 have t0:(z0.toList == frm.toList)=true:=str_beq hnm
 have t1:(z0.toList != frm.toList)=false:=str_bef hnm
 have HNM:=Lib.hid hnm
 clear hnm
 go_upto_if 42 with (fail)
 rw [←hW3]
 clear hW3 p0 p1 p2 p3 p4 p5 p6 p7 k0 k1 k2 k3
 have b3:=HQ.out.cell 3 rfl
 have zb:wr.heap.size < W3.heap.size:=HQ.out.lt
 have HLA:=Lib.hid (HRr.out.below HB3w).h3
 have hr3:r3.length≤9223372036854775807:=HRr.out.h3.1
 go_wp2
 obtain ⟨wo,rfl⟩:∃W,W=wr:=⟨_,rfl⟩
 clear b3
 go_loopg [46] r3.length (fun g iv wr=>∃i:Nat,i+g=r3.length∧iv=.int .i64 i∧Hid (∀e l,e < i→r3[e]?=some l→okL ls l)∧Hid (Below W3.heap.size W3 wr))
 case atStart=>exact ⟨0,by omega,rfl,Lib.hid (fun e l he=>absurd he (by omega)),Lib.hid (Below.refl _ _)⟩
 case round =>
  obtain ⟨i,hig,rfl,HM,HBi⟩:=hrel
  have HIG:=Lib.hid hig
  have hi:i≤r3.length:=by omega
  clear hig
  by_cases hit:i < r3.length
  ·have j0:(0:Int)≤(i:Int):=Int.natCast_nonneg _
   have j1:(i:Int) < (r3.length:Int):=by omega
   obtain ⟨la,rfl,y0,y1,Ey,q0,q1⟩:=lieK_at (Kn.C_below HBi.out HLA.out) i hit
   obtain ⟨v,hv,hvl,_⟩:=HL3.out _ (List.mem_of_getElem? Ey.out)
   simp only at hv
   subst hv
   have v0:(0:Int)≤(v:Int):=Int.natCast_nonneg _
   have v1:(v:Int) < (ls.length:Int):=by have:=HLE.out;omega
   have HB4:Hid (Below w1.heap.size w1 wr):=Lib.hid (HB3.out.trans (HBi.out.mono HB3.out.size))
   obtain ⟨W5,hW5,HB5,c0',c1',zw⟩:∃W,W=wr.alloc (.cells #[.int .i64 v,.int .i64 y1] 52)∧Hid (Below wr.heap.size wr W)∧W.cell? ⟨wr.heap.size,0,none⟩=some (.int .i64 v)∧W.cell? ⟨wr.heap.size,1,none⟩=some (.int .i64 y1)∧wr.heap.size < W.heap.size:=⟨_,rfl,Lib.hid (below_alloc _ _),by simp,by simp,by simp⟩
   obtain ⟨ia,rfl,x,Ex,o0⟩:=int_at (Kn.C_below HB5.out (Kn.C_below HB4.out HLL.out)) v (by omega)
   have HB6:Hid (Below W3.heap.size W3 W5):=Lib.hid (HBi.out.trans (HB5.out.mono HBi.out.size))
   go_upto_region 10 with (fail)
   rw [←hW5]
   clear hW5 q0 q1
   by_cases hx:x=y1
   ·have t2:(x == y1)=true:=by rw [hx];exact beq_self_eq_true _
    have t3:(x != y1)=false:=neq_f hx
    have HM2:Hid (∀e l,e < i+1→r3[e]?=some l→okL ls l):=Lib.hid (fun e l he hl=>by
     by_cases hei:e=i
     ·subst hei
      obtain rfl:=Option.some.inj (Ey.out.symm.trans hl)
      show ls[(v:Int).toNat]?=some y1
      rw [Int.toNat_natCast,Ex.out,hx]
     ·exact HM.out e l (by omega) hl)
    clear HM hx
    go_quiet (fail)
    go_wp2
    go_roundg (gk - 1)
    case rel=>exact ⟨i+1,by have:=HIG.out;omega,by go_num,HM2,Lib.hid (below_drewN HB6.out _)⟩
    case measure=>have:=HIG.out;omega
   ·have t2:(x == y1)=false:=int_eqf hx
    have t3:(x != y1)=true:=neq_t hx
    have HT2:Hid (∀i r,i < k+1→gs[i]?=some r→¬fitsF ss frm ls r):=Lib.hid (fun a y ha hy=>by
     by_cases e:a=k
     ·subst e
      obtain rfl:=Option.some.inj (Er.out.symm.trans hy)
      rintro ⟨_,hq⟩
      have h2:=hq _ (List.mem_of_getElem? Ey.out)
      unfold okL at h2
      simp only [Int.toNat_natCast] at h2
      exact hx (Option.some.inj (Ex.out.symm.trans h2))
     ·exact HT.out a y (by omega) hy)
    have HB7:Hid (Below w1.heap.size w1 W5):=Lib.hid (HB4.out.trans (HB5.out.mono HB4.out.size))
    clear HM hx
    go_quiet (fail)
    go_wp2
    go_roundg (gO - 1)
    case rel=>exact ⟨k+1,by have:=HKG.out;omega,by go_num,HT2,Lib.hid (below_drewN HB7.out _)⟩
    case measure=>have:=HKG.out;omega
  ·obtain rfl:i=r3.length:=by omega
   have HB6:Hid (Below w1.heap.size w1 wr):=Lib.hid (HB3.out.trans (HBi.out.mono HB3.out.size))
   have HF:Hid (routeAtF n ss gs frm ls=(k:Int)):=Lib.hid (by
    rw [HRA.out,firstF_at HT.out Er.out ?_,Nat.zero_add]
    refine ⟨⟨_,by rw [Int.toNat_natCast];exact Ez.out,HNM.out⟩,fun l hl=>?_⟩
    obtain ⟨e,he⟩:=List.mem_iff_getElem?.1 hl
    exact HM.out e l (List.getElem?_eq_some_iff.1 he).1 he)
   have hfin:=BW.out.trans (HB6.out.mono BW.out.size)
   go_wp2
   go_ret
   exact ⟨by rw [HF.out];rfl,hfin⟩
end Go.Proofs.Ytjccgneimknbpaa.L
namespace Go.Proofs.Ytjccgneimknbpaa.L
open Go.RowKit
open Classical
theorem sws_tot (n:Net) (hj:∀x∈n.joints,(x.ends.length:Int)=x.kind):3*(sws n).length≤tot (fun x=>x.ends.length) n.joints∧(¬(∀x∈n.joints,x.kind=3)→(∀x∈n.joints,1≤x.kind)→3*(sws n).length+1≤tot (fun x=>x.ends.length) n.joints):=by
 have key:∀l:List Joint,(∀x∈l,(x.ends.length:Int)=x.kind)→3*(l.filter (fun x=>decide (x.kind=3))).length≤tot (fun x=>x.ends.length) l ∧
   (¬(∀x∈l,x.kind=3)→(∀x∈l,1≤x.kind)→3*(l.filter (fun x=>decide (x.kind=3))).length+1≤tot (fun x=>x.ends.length) l):=by
  intro l
  induction l with
  | nil=>exact fun _=>⟨Nat.le_refl _,fun h=>absurd (fun x hx=>by cases hx) h⟩
  | cons a l ih =>
   intro hl
   obtain ⟨h1,h2⟩:=ih (fun x hx=>hl x (by simp [hx]))
   have ha:=hl a (by simp)
   have ht:tot (fun x:Joint=>x.ends.length) (a::l)=a.ends.length+tot (fun x=>x.ends.length) l:=by simp [tot]
   rw [ht]
   by_cases hk:a.kind=3
   ·rw [List.filter_cons_of_pos (by simpa using hk),List.length_cons]
    refine ⟨by omega,fun hn h3=>?_⟩
    have:=h2 (fun h=>hn (fun x hx=>by
     rcases List.mem_cons.1 hx with rfl | hx
     ·exact hk
     ·exact h x hx)) (fun x hx=>h3 x (by simp [hx]))
    omega
   ·rw [List.filter_cons_of_neg (by simpa using hk)]
    refine ⟨by omega,fun hn h3=>?_⟩
    have:=h3 a (by simp)
    omega
 have hlen:(sws n).length=(n.joints.filter (fun x=>decide (x.kind=3))).length:=by
  unfold sws
  rw [List.length_map]
  have e:n.joints=(List.range n.joints.length).map (jt n):=by
   apply List.ext_getElem?
   intro i
   rw [List.getElem?_map]
   by_cases hi:i < n.joints.length
   ·rw [List.getElem?_range hi,jt_get hi]
    rfl
   ·rw [List.getElem?_eq_none (by omega),List.getElem?_eq_none (by simpa using hi)]
    rfl
  conv=>rhs;rw [e]
  rw [List.filter_map,List.length_map]
  rfl
 rw [hlen]
 exact key n.joints hj
theorem Dr.switches {n:Net} (h:Dr n):(sws n).length≤5∨((sws n).length≤6∧∀j,j < n.joints.length→(jt n j).kind=1∨(jt n j).kind=3):=by
 have ht:=h.d.t
 simp only [List.length_nil,Nat.add_zero] at ht
 have hj:∀x∈n.joints,(x.ends.length:Int)=x.kind:=fun x hx=>by
  obtain ⟨i,hi⟩:=List.mem_iff_getElem?.1 hx
  exact (h.d.j i x hi).2.1
 have h1:∀x∈n.joints,1≤x.kind:=fun x hx=>by
  obtain ⟨i,hi⟩:=List.mem_iff_getElem?.1 hx
  exact (h.d.j i x hi).1.1
 obtain ⟨a1,a2⟩:=sws_tot n hj
 have hle:=h.le
 have mem:∀j,j < n.joints.length→jt n j∈n.joints:=fun j hj=>List.mem_of_getElem? (jt_get hj)
 rcases h.few with hf | hf
 ·by_cases hall:∀x∈n.joints,x.kind=3
  ·exact .inr ⟨by omega,fun j hj=>.inr (hall _ (mem j hj))⟩
  ·have:=a2 hall h1
   exact .inl (by omega)
 ·exact .inr ⟨by omega,fun j hj=>hf _ (mem j hj)⟩
theorem routes_all {n:Net} {ss:List Signal} {ov:Int} (hn:Dr n) (h:Ss n ss):¬full (allF n ss ov ss.length):=by
 have hr:=right_of_ok (Ss.ok hn h)
 have hl:=h.len
 have hle:=hn.le
 have ht:=allF_tries2 (ov:=ov) hr ss.length
 have h64:(sws n).length≤6:=by rcases hn.switches with e | e <;> omega
 have p6:2 ^ (sws n).length≤64:=by
  have:=pow_le2 h64
  have e:(2:Nat) ^ 6=64:=rfl
  omega
 have t1:(2*n.pieces.length+1)*2 ^ (sws n).length≤21*64:=Nat.mul_le_mul (by omega) p6
 have t2:ss.length*((2*n.pieces.length+1)*2 ^ (sws n).length)≤8*(21*64):=Nat.mul_le_mul hl t1
 have tries:(allF n ss ov ss.length).2≤10752:=Nat.le_trans ht t2
 have len:(allF n ss ov ss.length).1.length≤264:=by
  rcases hn.switches with e | ⟨e,h13⟩
  ·have h1:=allF_free (ov:=ov) hr ss.length
   have p5:2 ^ (sws n).length≤32:=by
    have:=pow_le2 e
    have e2:(2:Nat) ^ 5=32:=rfl
    omega
   have h2:ss.length*2 ^ (sws n).length≤8*32:=Nat.mul_le_mul hl p5
   omega
  ·have h1:=allF_chain (ov:=ov) hr h13 ss.length
   have p5:2 ^ ((sws n).length - 1)≤32:=by
    have:=pow_le2 (show (sws n).length - 1≤5 by omega)
    have e2:(2:Nat) ^ 5=32:=rfl
    omega
   have h2:ss.length*(2 ^ ((sws n).length - 1)+1)≤8*33:=Nat.mul_le_mul hl (by omega)
   omega
 rintro (e | e)
 ·omega
 ·omega
end Go.Proofs.Ytjccgneimknbpaa.L
namespace Go.Proofs.Ytjccgneimknbpaa.L
open Go.RowKit
open Classical
theorem firstF_range {α:Type} {p:α→Prop}:∀{l:List α} {s:Nat},firstF p l s=-1∨∃k x,l[k]?=some x∧p x∧firstF p l s=((s+k:Nat):Int)
 | [],s=>.inl rfl
 | r::l,s=>by
  rw [firstF]
  by_cases h:p r
  ·rw [if_pos h]
   exact .inr ⟨0,r,rfl,h,by rw [Nat.add_zero]⟩
  ·rw [if_neg h]
   rcases firstF_range (p:=p) (l:=l) (s:=s+1) with e | ⟨k,x,e1,e2,e3⟩
   ·exact .inl e
   ·exact .inr ⟨k+1,x,by rw [List.getElem?_cons_succ];exact e1,e2,by rw [e3];congr 1;omega⟩
theorem firstF_snoc {α:Type} {p:α→Prop}:∀{l:List α} {s:Nat} {x:α},firstF p (l++[x]) s=if firstF p l s=-1 then (if p x then ((s+l.length:Nat):Int) else -1) else firstF p l s
 | [],s,x=>by
  rw [List.nil_append,firstF,firstF,firstF,if_pos rfl]
  simp
 | r::l,s,x=>by
  rw [List.cons_append,firstF,firstF]
  by_cases h:p r
  ·rw [if_pos h,if_pos h,if_neg (by omega)]
  ·rw [if_neg h,if_neg h,firstF_snoc (p:=p) (l:=l) (s:=s+1) (x:=x),List.length_cons,show s+1+l.length=s+(l.length+1) by omega]
theorem firstF_congr {α:Type} {p q:α→Prop}:∀{l:List α} {s:Nat},(∀x∈l,(p x↔q x))→firstF p l s=firstF q l s
 | [],s,_=>rfl
 | r::l,s,h=>by
  rw [firstF,firstF,firstF_congr (p:=p) (q:=q) (l:=l) (s:=s+1) (fun x hx=>h x (by simp [hx]))]
  have h0:=h r (by simp)
  by_cases hp:p r
  ·rw [if_pos hp,if_pos (h0.1 hp)]
  ·rw [if_neg hp,if_neg (fun e=>hp (h0.2 e))]
structure Met (P:Route→Prop) (gs:List Route) (x m:Nat) (wh:Int):Prop where
 m:((gs.take x).filter (fun r=>decide (P r))).length=m
 w:firstF P (gs.take x) 0=wh
section
variable {P:Route→Prop} {gs:List Route} {x m:Nat} {wh:Int} {r:Route}
theorem Met.start:Met P gs 0 0 (-1):=⟨by simp,by rw [List.take_zero];rfl⟩
theorem take_next {α:Type} {l:List α} {k:Nat} {y:α} (h:l[k]?=some y):l.take (k+1)=l.take k++[y]:=by
 rw [List.take_add_one,h]
 rfl
theorem Met.no (h:Met P gs x m wh) (hx:gs[x]?=some r) (hr:¬P r):Met P gs (x+1) m wh:=by
 refine ⟨?_,?_⟩
 ·rw [take_next hx,List.filter_append,List.filter_cons_of_neg (by simpa using hr),List.filter_nil,List.append_nil]
  exact h.m
 ·rw [take_next hx,firstF_snoc,h.w]
  by_cases e:wh=-1
  ·rw [if_pos e,if_neg hr,e]
  ·rw [if_neg e]
theorem Met.range (h:Met P gs x m wh):wh=-1∨(0≤wh∧wh < gs.length):=by
 rcases firstF_range (p:=P) (l:=gs.take x) (s:=0) with e | ⟨k,y,e1,e2,e3⟩
 ·exact .inl (h.w.symm.trans e)
 ·have:=(List.getElem?_eq_some_iff.1 e1).1
  rw [List.length_take] at this
  have h2:=h.w.symm.trans e3
  exact .inr (by omega)
theorem Met.yes0 (h:Met P gs x m wh) (hx:gs[x]?=some r) (hr:P r) (hw:wh < 0):Met P gs (x+1) (m+1) (x:Int):=by
 have hl:=(List.getElem?_eq_some_iff.1 hx).1
 have hw':wh=-1:=by have:=h.range;omega
 refine ⟨?_,?_⟩
 ·rw [take_next hx,List.filter_append,List.filter_cons_of_pos (by simpa using hr),List.filter_nil,List.length_append,h.m]
  rfl
 ·rw [take_next hx,firstF_snoc,h.w,if_pos hw',if_pos hr,List.length_take]
  omega
theorem Met.yes1 (h:Met P gs x m wh) (hx:gs[x]?=some r) (hr:P r) (hw:¬wh < 0):Met P gs (x+1) (m+1) wh:=by
 refine ⟨?_,?_⟩
 ·rw [take_next hx,List.filter_append,List.filter_cons_of_pos (by simpa using hr),List.filter_nil,List.length_append,h.m]
  rfl
 ·rw [take_next hx,firstF_snoc,h.w,if_neg (by omega)]
theorem Met.le (h:Met P gs x m wh):m≤x:=by
 have h1:=List.length_filter_le (fun r=>decide (P r)) (gs.take x)
 rw [h.m,List.length_take] at h1
 omega
end
section
variable {n:Net} {ss:List Signal} {ov:Int} {ls:List Int}
theorem names_one (h:Ss n ss) {i k:Nat} {s t:Signal} (hi:ss[i]?=some s) (hk:ss[k]?=some t) (he:s.name=t.name):i=k:=by
 have h1:=(List.getElem?_eq_some_iff.1 hi).1
 have h2:=(List.getElem?_eq_some_iff.1 hk).1
 have hl:=h.len
 have e:nameF i=nameF k:=by rw [←(h.name i s hi).1,←(h.name k t hk).1];exact he
 by_cases hik:i=k
 ·exact hik
 ·exact absurd e (nameF_ne (by omega))
theorem fits_at (h:Ss n ss) {i:Nat} {s:Signal} (hi:ss[i]?=some s) {r:Route} (hf:∃k:Nat,r.frm=k):fitsF ss s.name ls r↔fitAt ls i r:=by
 obtain ⟨k,hk⟩:=hf
 unfold fitsF fitAt fit
 rw [hk,Int.toNat_natCast]
 constructor
 ·rintro ⟨⟨t,h1,h2⟩,h3⟩
  refine ⟨?_,h3⟩
  rw [names_one h h1 hi h2]
 ·rintro ⟨h1,h2⟩
  have h1':k=i:=by omega
  subst h1'
  exact ⟨⟨s,hi,rfl⟩,h2⟩
theorem met_law (hd:Dr n) (hs:Ss n ss) (h0:0≤ov∧ov≤100000) (hl:LiesOk n ls) {i m:Nat} {s:Signal} {wh:Int} (hi:ss[i]?=some s) (h:Met (fitAt ls i) (routesF n ss ov) (routesF n ss ov).length m wh) :
  routeAtF n ss (routesF n ss ov) s.name ls=wh ∧
  ((followF n ss ls (2*n.pieces.length+2) s.piece s.way (farOf n s.piece s.at_ s.way)=none∧m=0) ∨
   ∃(st:List Step) (tl:Int) (k:Nat) (q:Route),followF n ss ls (2*n.pieces.length+2) s.piece s.way (farOf n s.piece s.at_ s.way)=some (st,tl)∧m=1∧wh=k∧(routesF n ss ov)[k]?=some q∧q.steps=st∧q.til=tl):=by
 have hok:=Ss.ok hd hs
 have hlist:listedF n ss (routesF n ss ov):=⟨hok,routesF_len n ss ov,fun r hr=>unov_in hr⟩
 have hr:=right_of_ok hok
 have hf:=routes_all (ov:=ov) hd hs
 have hall:routesF n ss ov=(allF n ss ov ss.length).1:=routesF_all hok h0 hf
 have hm:=h.m
 have hw:=h.w
 rw [List.take_length] at hm hw
 refine ⟨?_,?_⟩
 ·unfold routeAtF
  rw [if_pos ⟨hlist,hl.len⟩,←hw]
  refine firstF_congr (fun r hr=>fits_at hs hi ?_)
  obtain ⟨k,_,e,_⟩:=(routesF_rt hr).2.2.2.frm
  exact ⟨k,e⟩
 rcases drive_law (ov:=ov) hr hl hf hi with ⟨e1,e2⟩ | ⟨st,tl,q,e1,e2,e3,e4⟩
 ·refine .inl ⟨e1,?_⟩
  rw [←hall] at e2
  rw [e2] at hm
  exact hm.symm
 ·refine .inr ⟨st,tl,?_⟩
  rw [←hall] at e2
  rw [e2] at hm
  rcases firstF_range (p:=fitAt ls i) (l:=routesF n ss ov) (s:=0) with e | ⟨k,y,k1,k2,k3⟩
  ·exfalso
   have hq:q∈(routesF n ss ov).filter (fun r=>decide (fitAt ls i r)):=by rw [e2];simp
   have hq2:=List.mem_filter.1 hq
   obtain ⟨j,hj⟩:=List.mem_iff_getElem?.1 hq2.1
   have hjl:=(List.getElem?_eq_some_iff.1 hj).1
   have hne:∀{l:List Route} {t:Nat},q∈l→firstF (fitAt ls i) l t≠-1:=by
    intro l
    induction l with
    | nil=>intro t h;cases h
    | cons a l ih =>
     intro t h
     rw [firstF]
     by_cases ha:fitAt ls i a
     ·rw [if_pos ha]
      omega
     ·rw [if_neg ha]
      rcases List.mem_cons.1 h with rfl | h
      ·exact absurd (by simpa using hq2.2) ha
      ·exact ih h
   exact hne hq2.1 e
  ·have hy:y∈(routesF n ss ov).filter (fun r=>decide (fitAt ls i r)):=List.mem_filter.2 ⟨List.mem_of_getElem? k1,by simpa using k2⟩
   rw [e2,List.mem_singleton] at hy
   subst hy
   exact ⟨k,y,e1,hm.symm,by rw [←hw,k3,Nat.zero_add],k1,e3,e4⟩
end
end Go.Proofs.Ytjccgneimknbpaa.L
namespace Go.Proofs.Ytjccgneimknbpaa.L
open Go.RowKit
open Classical
def RetWb (w:World) (e:Ending) (w':World):Prop:=∃v:Nat,v≤255∧e=.returned (.int .i64 v)∧w=w'
theorem modAt {k:Int} {m:Nat} (hk:0≤k) (hm:0 < m):∃r:Nat,Hid (k.tmod (m:Int)=(r:Int))∧r < m:=by
 have h1:=Int.emod_nonneg k (show (m:Int)≠0 by omega)
 have h2:=Int.emod_lt_of_pos k (show (0:Int) < (m:Int) by omega)
 exact ⟨(k % (m:Int)).toNat,Lib.hid (by rw [Int.tmod_eq_emod_of_nonneg hk];omega),by omega⟩
set_option maxRecDepth 100000 in
set_option maxHeartbeats 4000000 in
theorem wByte {ok:Nat→Prop} (bs:List Int) (A:Option Addr) (c:Nat) (k:Int) (w:World) (hx:byteK.C w ok A bs) (hbs:Hid (∀x∈bs,0≤x∧x≤255)) (hl:bs.length≤1048576) (hk:0≤k∧k≤1048576):Calls Try.prog 17 #[.slice A bs.length c,.int .i64 k] w (RetWb w):=by
 by_cases h0:bs.length=0
 ·have d0:((bs.length:Int) == 0)=true:=int_eqt (by omega)
  clear h0
  go_enter Try.func17,Try.ntmps17
  go_wp2
  go_ret
  exact ⟨0,by omega,rfl,rfl⟩
 have d0:((bs.length:Int) == 0)=false:=int_eqf (by omega)
 obtain ⟨r,hr,hrl⟩:∃r:Nat,Hid (k.tmod (bs.length:Int)=(r:Int))∧r < bs.length :=
  modAt hk.1 (by omega)
 have e1:=hr.out
 have e2:k % (bs.length:Int)=(r:Int):=by rw [←e1,Int.tmod_eq_emod_of_nonneg hk.1]
 obtain ⟨ad,rfl,y,EY,c0⟩:=byte_at hx r hrl
 have hy:=hbs.out y (List.mem_of_getElem? EY.out)
 obtain ⟨v,rfl⟩:∃v:Nat,y=v:=⟨y.toNat,by omega⟩
 have r0:(0:Int)≤(r:Int):=Int.natCast_nonneg _
 have r1:(r:Int) < (bs.length:Int):=by omega
 have hx:=Lib.hid hx
 clear hr
 go_enter Try.func17,Try.ntmps17
 go_wp2
 go_ret
 exact ⟨v,by omega,by go_num,rfl⟩
end Go.Proofs.Ytjccgneimknbpaa.L
namespace Go.Proofs.Ytjccgneimknbpaa.L
open Go
section
variable {P:Program} {l:List Oper} {Q:Exit→Act→World→Prop} {S:World→Prop} {t:Nat}
theorem Rg.skip {fuel:Nat} {listed:Array Bool} {a:Act} {w:World} (i:Nat) {oi:Oper} (ho:(l.drop i).head?=some oi) (hB:rgT l listed t i=true)
  (hQ:∀c a w,Q (.panic c) (a.put oi.dst undef) w→Q (.panic c) a w) (hw:Region.wanted oi (yielded l.toArray a.tmps)=false) (hS:S w)
  (h:Rg P l.toArray Q S t fuel (listed.setIfInBounds i true) (a.put oi.dst undef) w):Rg P l.toArray Q S t (fuel+1) listed a w:=by
 have hi:=head_get ho
 simp only [rgT,Bool.and_eq_true,decide_eq_true_eq] at hB
 obtain ⟨⟨⟨⟨h1,h2⟩,h3⟩,h4⟩,h5⟩:=hB
 exact Rg.first (S':=fun _=>True) hi (Region.noSelect_spec h1) hQ h4 (fun _ _ _ _ _ _ _ _=>trivial) fuel listed a w (rgC_spec h5) (Region.free_spec hi h2) (by simpa using h3) (.inr ⟨hw,rfl⟩) trivial (.inl hS) h
theorem step_callG {ops:Array Oper} {o:Oper} {a:Act} {w:World} {K:Act→World→Prop} {E:Prop} (hw:Region.wanted o (yielded ops a.tmps)=true) (h:Oper.wp P o a w K Q):if Region.wanted o (yielded ops a.tmps)=true then Oper.wp P o a w K Q else E:=by
 rw [if_pos hw]
 exact h
end
end Go.Proofs.Ytjccgneimknbpaa.L
namespace Go.Proofs.Ytjccgneimknbpaa.L
open Go.RowKit
open Classical
theorem RetRR.Cdw {rs:List Route} {w w':World} {e:Ending} (h:RetRR rs w e w'):∃A c,e=.returned (.slice A rs.length c)∧rs.length≤c∧Hid (rK.C w' (fun _=>True) A rs)∧Below w.heap.size w w':=by
 obtain ⟨A,c,rfl,hl,hR,_,hb⟩:=h
 exact ⟨A,c,rfl,hl,Lib.hid (Kn.C_mono (fun _ _=>trivial) (Rw_slice hR.out).2.2),hb⟩
theorem bytes3 {w:World} {g t:Nat} {a b c:Int} (h:Blk w g t [.int .u8 a,.int .u8 b,.int .u8 c]):byteK.C w (fun _=>True) (some ⟨g,0,none⟩) [a,b,c]:=by
 refine ⟨by simp,fun _=>⟨⟨g,0,none⟩,rfl,trivial,h.lt,fun j x hj=>⟨[.int .u8 x],rfl,fun i u hu=>?_⟩⟩⟩
 have hi:i=0:=by
  have:=(List.getElem?_eq_some_iff.1 hu).1
  simp only [List.length_singleton] at this
  omega
 subst hi
 obtain rfl:Value.int .u8 x=u:=by simpa using hu
 have hs:byteK.sz=1:=rfl
 rw [hs,Nat.mul_one,Nat.add_zero,add_zero]
 refine h.cell j ?_
 match j,hj with
 | 0,hj =>
  obtain rfl:a=x:=by simpa using hj
  rfl
 | 1,hj =>
  obtain rfl:b=x:=by simpa using hj
  rfl
 | 2,hj =>
  obtain rfl:c=x:=by simpa using hj
  rfl
theorem specLW3 {ok:Nat→Prop} (n:Net) (g t:Nat) (a b c:Int) (A0 A1:Option Addr) (c0 c1:Nat) (w:World) (hn:NC 102 w ok n A0 A1) (h:Blk w g t [.int .u8 (IntKind.u8.wrap a),.int .u8 (IntKind.u8.wrap b),.int .u8 (IntKind.u8.wrap c)]) (hj:n.joints.length≤120) :
  Calls Try.prog 24 #[.agg #[.slice A0 n.pieces.length c0,.slice A1 n.joints.length c1],.slice (some ⟨g,0,none⟩) 3 3] w (RetLW n w) :=
 specLW n [IntKind.u8.wrap a,IntKind.u8.wrap b,IntKind.u8.wrap c] A0 A1 (some ⟨g,0,none⟩) c0 c1 3 w hn (bytes3 h) (Lib.hid (fun x hx=>by
  have hb:∀z:Int,0≤IntKind.u8.wrap z∧IntKind.u8.wrap z≤255:=fun z=>by rw [IntKind.wrap_u8];omega
  simp only [List.mem_cons,List.not_mem_nil,or_false] at hx
  rcases hx with rfl | rfl | rfl
  ·exact hb _
  ·exact hb _
  ·exact hb _)) hj
set_option maxRecDepth 100000 in
set_option maxHeartbeats 16000000 in
theorem lawWhole {ok ok':Nat→Prop} (bs bs2:List Int) (A A':Option Addr) (c c':Nat) (w:World) (hx:byteK.C w ok A bs) (hx':byteK.C w ok' A' bs2) (hbs:Hid (∀x∈bs,0≤x∧x≤255)) (hbs2:Hid (∀x∈bs2,0≤x∧x≤255)):Calls Try.prog 7 #[.slice A bs.length c,.slice A' bs2.length c'] w (RetB true w):=by
 have hm:=hx.1
 have hm2:=hx'.1
 have HX:=Lib.hid hx
 have HX':=Lib.hid hx'
 clear hx hx'
 by_cases hl:1048576 < bs.length
 ·have d0:decide ((1048576:Int) < (bs.length:Int))=true:=decide_eq_true (by omega)
  go_enter Try.func7,Try.ntmps7
  go_wp2
  go_ret
  exact ⟨rfl,Below.refl _ _⟩
 have d0:decide ((1048576:Int) < (bs.length:Int))=false:=decide_eq_false (by omega)
 by_cases hl2:1048576 < bs2.length
 ·have d0':decide ((1048576:Int) < (bs2.length:Int))=true:=decide_eq_true (by omega)
  go_enter Try.func7,Try.ntmps7
  go_wp2
  go_ret
  exact ⟨rfl,Below.refl _ _⟩
 have d0':decide ((1048576:Int) < (bs2.length:Int))=false:=decide_eq_false (by omega)
 have hl2':bs2.length≤1048576:=by omega
 go_enter Try.func7,Try.ntmps7
 go_wp2_with fail
 refine (drDrawn bs A c _ HX.out hbs).mono ?_
 rintro e w1 ⟨n,ss,ov,A0,A1,A2,c0,c1,c2,rfl,HD,HS,hc2,ov0,ov1,HN,HSg,HB1⟩
 clear d0 hl d0' hl2
 obtain ⟨W2,hW2,hb2,BN⟩:∃W,W=w1.alloc (.cells #[.slice A0 n.pieces.length c0,.slice A1 n.joints.length c1] 26)∧Hid (Below w1.heap.size w1 W)∧Hid (Blk W w1.heap.size 26 [.slice A0 n.pieces.length c0,.slice A1 n.joints.length c1]):=⟨_,rfl,Lib.hid (below_alloc _ _),Lib.hid (Blk.new _ _ _ rfl)⟩
 go_upto_region 4 with (fail)
 rw [←hW2]
 clear hW2
 have HN:=Lib.hid (HN.out.below hb2.out)
 have HSg:=Lib.hid (Kn.C_below hb2.out HSg.out)
 have HB2:=Lib.hid (HB1.out.trans (hb2.out.mono HB1.out.size))
 have s0:=BN.out.cell 0 rfl
 have s1:=BN.out.cell 1 rfl
 have hz:w1.heap.size < W2.heap.size:=BN.out.lt
 obtain ⟨gs,hgs⟩:∃l,Hid (routesF n ss ov=l):=⟨_,Lib.hid rfl⟩
 have hgl:gs.length≤300:=by rw [←hgs.out];exact routesF_len n ss ov
 have HRT:Hid (∀r∈gs,Right n ss∧Rt n ss ov r∧r.n≤1048576):=Lib.hid (fun r hr=>by
  rw [←hgs.out] at hr
  refine ⟨(routesF_rt hr).1,(routesF_rt hr).2.2.2,?_⟩
  have h2:=Rt.size (routesF_rt hr).1 (routesF_rt hr).2.2.2 (by omega)
  show r.steps.length+r.lies.length+r.crosses.length+r.parts.length+r.over.length+r.flanks.length≤1048576
  omega)
 have HGN:Hid (∀x∈gs,x.n≤1048576):=Lib.hid (fun r hr=>(HRT.out r hr).2.2)
 have HRI:Hid (Right n ss):=Lib.hid (right_of_ok (Ss.ok HD.out HS.out))
 go_wp2_with fail
 refine (implRoutes n ss ov A0 A1 A2 c0 c1 c2 _ HN.out HSg.out hc2 HD.out.sm.netIn HS.out.sigIn).mono ?_
 intro e w3 hr
 rw [hgs.out] at hr
 obtain ⟨G,cg,rfl,hcg,HG,hb3⟩:=RetS.opC hr
 have HB3:=Lib.hid (HB2.out.trans (hb3.mono HB2.out.size))
 have HN:=Lib.hid (HN.out.below hb3)
 have HSg:=Lib.hid (Kn.C_below hb3 HSg.out)
 have BN:=Lib.hid (BN.out.below hb3 BN.out.lt)
 clear hr hb3 hb2 HB1 HB2 s0 s1 hz
 have s0:=BN.out.cell 0 rfl
 have s1:=BN.out.cell 1 rfl
 have hz:w1.heap.size < w3.heap.size:=BN.out.lt
 go_wp2_with fail
 refine (specRoutes n ss ov A0 A1 A2 c0 c1 c2 _ HN.out HSg.out HD.out.sm.netIn HS.out.sigIn).mono ?_
 intro e w4 hr
 obtain ⟨P,cp,rfl,hcp,HC,hb4⟩:=RetRR.Cdw hr
 rw [hgs.out] at HC ⊢
 have HG:=Lib.hid (Kn.C_below hb4 HG.out)
 have HB4:=Lib.hid (HB3.out.trans (hb4.mono HB3.out.size))
 have HN:=Lib.hid (HN.out.below hb4)
 have HSg:=Lib.hid (Kn.C_below hb4 HSg.out)
 have BN:=Lib.hid (BN.out.below hb4 BN.out.lt)
 clear hr hb4 HB3 hcp s0 s1 hz
 go_wp2_with fail
 refine (wRoutes gs G P cg cp _ HG.out HC.out HGN).mono ?_
 rintro e w5 ⟨rfl,hb5⟩
 have HG:=Lib.hid (Kn.C_below hb5 HG.out)
 have HB5:=Lib.hid (HB4.out.trans (hb5.mono HB4.out.size))
 have HN:=Lib.hid (HN.out.below hb5)
 have HSg:=Lib.hid (Kn.C_below hb5 HSg.out)
 have BN:=Lib.hid (BN.out.below hb5 BN.out.lt)
 have HY:=Lib.hid (Kn.C_below HB5.out HX'.out)
 have hjl:n.joints.length≤120:=by have:=HD.out.jle;have:=HD.out.le;omega
 have hpl:n.pieces.length≤100:=by have:=HD.out.le;omega
 clear hb5 HB4 HC HX HX'
 --MARK a
 go_wp2
 go_loopw [9] (fun iv wr=>∃k:Nat,k≤3∧iv=.int .i64 k∧Hid (Below w5.heap.size w5 wr)) (fun iv _=>3 - (intOf iv).toNat)
 case atStart=>exact ⟨0,Nat.zero_le _,rfl,Lib.hid (Below.refl _ _)⟩
 case round =>
 obtain ⟨wo,rfl⟩:∃wo:World,wo=wr:=⟨_,rfl⟩
 obtain ⟨k,hk,rfl,HBo⟩:=hrel
 have HBZ:=Lib.hid (HB5.out.trans (HBo.out.mono HB5.out.size))
 by_cases hlk:k < 3
 rotate_left
 ·as_aux_lemma =>
  have d3:decide ((k:Int) < 3)=false:=decide_eq_false (by omega)
  have hfin:=HBZ.out
  go_wp2
  go_ret
  exact ⟨rfl,hfin⟩
 have d3:decide ((k:Int) < 3)=true:=decide_eq_true (by omega)
 have HYo:=Lib.hid (Kn.C_below HBo.out HY.out)
 have HNo:=Lib.hid (HN.out.below HBo.out)
 have BNo:=Lib.hid (BN.out.below HBo.out BN.out.lt)
 have s0:=BNo.out.cell 0 rfl
 have s1:=BNo.out.cell 1 rfl
 have hz:w1.heap.size < wo.heap.size:=BNo.out.lt
 have wk3:IntKind.i64.wrap ((k:Int)+3)=(k:Int)+3:=by rw [IntKind.wrap_i64];omega
 go_upto_region 10 with (fail)
 go_cut [10] (fun lv wc=>∃(ls:List Int) (A:Option Addr) (c:Nat),lv=.slice A ls.length c∧Hid (LiesOk n ls)∧Hid (Kn.int.C wc (fun _=>True) A ls)∧Hid (Below wo.heap.size wo wc))
 case first =>
  go_wp2
  go_region_with (first | (go_at_call 17;(first | (with_reducible refine (wByte bs2 A' c' (k:Int) _ (C_drewS HYo.out) hbs2 hl2' ⟨by omega,by omega⟩).mono ?_) | (with_reducible refine (wByte bs2 A' c' ((k:Int)+3) _ (C_drewS HYo.out) hbs2 hl2' ⟨by omega,by omega⟩).mono ?_));rintro e wz ⟨v,hv,rfl,rfl⟩) | (go_at_call 24;refine (specLW3 n wo.heap.size _ _ _ _ A0 A1 c0 c1 _ (HNo.out.below (below_alloc _ _).drew) (Blk_drew (Blk.new wo _ [_,_,_] rfl)) hjl).mono ?_;rintro e wz ⟨ls,Al,cl,rfl,hcl,HLO,HLC,HBL⟩))
  all_goals (go_wp2;go_meet;case rel=>exact ⟨ls,Al,cl,rfl,HLO,HLC,Lib.hid ((below_alloc wo _).drew.trans (HBL.out.mono (by simp)))⟩)
 obtain ⟨ls,Al,cl,rfl,HLO,HLC,HBL⟩:=hcut
 obtain ⟨wl,rfl⟩:∃wl:World,wl=wc:=⟨_,rfl⟩
 have HBW:=Lib.hid (HBo.out.trans (HBL.out.mono HBo.out.size))
 have HNl:=Lib.hid (HN.out.below HBW.out)
 have HSl:=Lib.hid (Kn.C_below HBW.out HSg.out)
 have HGl:=Lib.hid (Kn.C_below HBW.out HG.out)
 have BNl:=Lib.hid (BN.out.below HBW.out BN.out.lt)
 have hslen:=HSg.out.1
 clear s0 s1 hz wk3 HYo HNo BNo HBL HBZ HBo
 go_wp2
 go_loopw [67] (fun iv wr=>∃i:Nat,i≤ss.length∧iv=.int .i64 i∧Hid (Below wl.heap.size wl wr)) (fun iv _=>ss.length - (intOf iv).toNat)
 case atStart=>exact ⟨0,Nat.zero_le _,rfl,Lib.hid (Below.refl _ _)⟩
 case round =>
 obtain ⟨wi,rfl⟩:∃wi:World,wi=wr:=⟨_,rfl⟩
 obtain ⟨i,hi,rfl,HBi⟩:=hrel
 by_cases hli:i < ss.length
 rotate_left
 ·as_aux_lemma =>
  have d4:decide ((i:Int) < (ss.length:Int))=false:=decide_eq_false (by omega)
  have HBe:=Lib.hid (HBW.out.trans (HBi.out.mono HBW.out.size))
  go_wp2
  go_roundw
  case rel=>exact ⟨k+1,by omega,by go_num,HBe⟩
  case measure=>simp [intOf];omega
 have d4:decide ((i:Int) < (ss.length:Int))=true:=decide_eq_true (by omega)
 have i0:(0:Int)≤(i:Int):=Int.natCast_nonneg _
 have i1:(i:Int) < (ss.length:Int):=by omega
 obtain ⟨s,hs⟩:∃s,Hid (ss[i]?=some s):=⟨_,Lib.hid (List.getElem?_eq_getElem hli)⟩
 have HNi:=Lib.hid (HNl.out.below HBi.out)
 have HSi:=Lib.hid (Kn.C_below HBi.out HSl.out)
 have HLi:=Lib.hid (Kn.C_below HBi.out HLC.out)
 have BNi:=Lib.hid (BNl.out.below HBi.out BNl.out.lt)
 have s0:=BNi.out.cell 0 rfl
 have s1:=BNi.out.cell 1 rfl
 have hz:w1.heap.size < wi.heap.size:=BNi.out.lt
 go_wp2_with fail
 refine (specFollowed n ss ls A0 A1 A2 Al c0 c1 c2 cl i s _ HNi.out HSi.out HLi.out HRI HLO hs hpl).mono ?_
 rintro e w6 ⟨st,B,cb,tl,b,rfl,HFT,HFF,hst,HST,HB6⟩
 have HBi6:=Lib.hid (HBi.out.trans (HB6.out.mono HBi.out.size))
 have HG6:=Lib.hid (Kn.C_below HBi6.out HGl.out)
 have HL6:=Lib.hid (Kn.C_below HBi6.out HLC.out)
 clear s0 s1 hz HNi HSi HLi BNi HB6 HBi d4
 --MARK b
 go_wp2
 go_loopw [15,16,81] (fun mv wv xv wr=>∃(x m:Nat) (wh:Int),x≤gs.length∧mv=.int .i64 m∧wv=.int .i64 wh∧xv=.int .i64 x∧m≤x∧(-1≤wh∧wh < 300)∧Hid (Met (fitAt ls i) gs x m wh)∧Hid (Below w6.heap.size w6 wr)) (fun _ _ xv _=>gs.length - (intOf xv).toNat)
 case atStart=>exact ⟨0,0,-1,Nat.zero_le _,rfl,rfl,rfl,Nat.le_refl _,by omega,Lib.hid Met.start,Lib.hid (Below.refl _ _)⟩
 case round =>
 obtain ⟨wx,rfl⟩:∃wx:World,wx=wr:=⟨_,rfl⟩
 obtain ⟨x,m,wh,hx,rfl,rfl,rfl,hmx,hwh,HM,HBx⟩:=hrel
 by_cases hlx:x < gs.length
 ·have d5:decide ((x:Int) < (gs.length:Int))=true:=decide_eq_true (by omega)
  have x0:(0:Int)≤(x:Int):=Int.natCast_nonneg _
  have x1:(x:Int) < (gs.length:Int):=by omega
  obtain ⟨ga,rfl,y,Ey,D2,D3,D4,D5,D6,D7,e2,e3,e4,e5,e6,e7,p0,p1,p2,p3,p4,p5,p6,p7,HRy⟩:=rC_at (Kn.C_below HBx.out HG6.out) x hlx
  have hkb:=World.block_lt_of_cell? _ _ p0
  have hly:=HRy.out.h3.1
  go_upto_region 20 with (fail)
  obtain ⟨W7,hW7,hb7,BR⟩:∃W,W=wx.alloc (.cells #[.int .i64 y.frm,.int .i64 y.til,.slice D2 y.steps.length e2,.slice D3 y.lies.length e3,.slice D4 y.crosses.length e4,.slice D5 y.parts.length e5,.slice D6 y.over.length e6,.slice D7 y.flanks.length e7] 44)∧Below wx.heap.size wx W∧Hid (Blk W wx.heap.size 44 [.int .i64 y.frm,.int .i64 y.til,.slice D2 y.steps.length e2,.slice D3 y.lies.length e3,.slice D4 y.crosses.length e4,.slice D5 y.parts.length e5,.slice D6 y.over.length e6,.slice D7 y.flanks.length e7]):=⟨_,rfl,below_alloc _ _,Lib.hid (Blk.new _ _ _ rfl)⟩
  rw [←hW7]
  clear hW7 p0 p1 p2 p3 p4 p5 p6 p7 hkb
  have HB7:=Lib.hid (HBx.out.trans (hb7.mono HBx.out.size))
  have HL7:=Lib.hid (Kn.C_below HB7.out HL6.out)
  have HLy:=Lib.hid (Kn.C_below hb7 HRy.out.h3)
  have b0:=BR.out.cell 0 rfl
  have b3:=BR.out.cell 3 rfl
  have hzb:wx.heap.size < W7.heap.size:=BR.out.lt
  clear HRy hb7
  have HYR:=Lib.hid (HRT.out y (List.mem_of_getElem? Ey.out)).2.1
  go_wp2
  go_loopw [19,93] (fun fv ev wr=>∃(e:Nat) (fb:Bool),e≤y.lies.length∧fv=.bool fb∧ev=.int .i64 e∧Hid (fb=pv (y.frm=i∧∀l∈y.lies.take e,okLie ls l))∧Hid (Below W7.heap.size W7 wr)) (fun _ ev _=>y.lies.length - (intOf ev).toNat)
  case atStart =>
   refine ⟨0,(y.frm == (i:Int)),Nat.zero_le _,rfl,rfl,Lib.hid ?_,Lib.hid (Below.refl _ _)⟩
   by_cases hf:y.frm=(i:Int)
   ·rw [pv_true ⟨hf,by simp⟩]
    exact int_eqt hf
   ·rw [pv_false (fun h=>hf h.1)]
    exact int_eqf hf
  case round =>
  obtain ⟨we,rfl⟩:∃we:World,we=wr:=⟨_,rfl⟩
  obtain ⟨e,fb,he,rfl,rfl,HFB,HBe⟩:=hrel
  by_cases hle:e < y.lies.length
  ·as_aux_lemma =>
   have d6:decide ((e:Int) < (y.lies.length:Int))=true:=decide_eq_true (by omega)
   have e0:(0:Int)≤(e:Int):=Int.natCast_nonneg _
   have e1:(e:Int) < (y.lies.length:Int):=by omega
   obtain ⟨la,rfl,yj,yl,EL,g0,g1⟩:=lieK_at (Kn.C_below HBe.out HLy.out) e hle
   obtain ⟨j,hj,hjl2,_,_⟩:=HYR.out.lies _ (mem_of_get EL.out)
   simp only at hj
   subst hj
   have hjll:j < ls.length:=by rw [HLO.out.len];exact hjl2
   obtain ⟨va,rfl,v,EV,gv⟩:=int_at (Kn.C_below (HB7.out.trans (HBe.out.mono HB7.out.size)) HL6.out) j hjll
   have j0:(0:Int)≤(j:Int):=Int.natCast_nonneg _
   have j1:(j:Int) < (ls.length:Int):=by omega
   have hkl:=World.block_lt_of_cell? _ _ g0
   have hkv:=World.block_lt_of_cell? _ _ gv
   have HTK:=Lib.hid (take_next EL.out)
   have HOK:Hid (okLie ls ⟨(j:Int),yl⟩↔v=yl):=Lib.hid (by
    unfold okLie
    rw [Int.toNat_natCast,EV.out]
    exact ⟨fun h=>Option.some.inj h,fun h=>by rw [h]⟩)
   cases fb with
   | true =>
    have HH:Hid (y.frm=i∧∀l∈y.lies.take e,okLie ls l):=Lib.hid (by
     by_cases h:y.frm=i∧∀l∈y.lies.take e,okLie ls l
     ·exact h
     ·have:=HFB.out
      rw [pv_false h] at this
      cases this)
    have HN2:Hid ((v == yl)=pv (y.frm=i∧∀l∈y.lies.take (e+1),okLie ls l)):=Lib.hid (by
     rw [HTK.out]
     by_cases hv:v=yl
     ·have hall:∀l∈y.lies.take e++[(⟨(j:Int),yl⟩:Lie)],okLie ls l:=fun l hl=>by
       rcases List.mem_append.1 hl with hl | hl
       ·exact HH.out.2 l hl
       ·rw [List.mem_singleton.1 hl]
        exact HOK.out.2 hv
      rw [int_eqt hv,pv_true ⟨HH.out.1,hall⟩]
     ·rw [int_eqf hv,pv_false (fun h=>hv (HOK.out.1 (h.2 _ (List.mem_append_right _ (by simp)))))])
    clear HFB
    go_wp2
    go_quiet (fail)
    go_wp2
    go_roundw
    case rel=>exact ⟨e+1,(v == yl),by omega,rfl,by go_num,HN2,Lib.hid (by repeat' first | exact HBe.out | (refine below_drewN ?_ _) | (refine Below.drew ?_) | (refine Below.alloc ?_ ?_ _) | exact HBe.out.size)⟩
    case measure=>simp [intOf];omega
   | false =>
    have HN2:Hid (false=pv (y.frm=i∧∀l∈y.lies.take (e+1),okLie ls l)):=Lib.hid (by
     rw [HTK.out]
     have hno:¬(y.frm=i∧∀l∈y.lies.take e++[(⟨(j:Int),yl⟩:Lie)],okLie ls l):=fun h=>by
      have:=HFB.out
      rw [pv_true ⟨h.1,fun l hl=>h.2 l (List.mem_append_left _ hl)⟩] at this
      cases this
     rw [pv_false hno])
    clear HFB
    go_wp2
    go_quiet (fail)
    go_wp2
    go_roundw
    case rel=>exact ⟨e+1,false,by omega,rfl,by go_num,HN2,Lib.hid (by repeat' first | exact HBe.out | (refine below_drewN ?_ _) | (refine Below.drew ?_) | (refine Below.alloc ?_ ?_ _) | exact HBe.out.size)⟩
    case measure=>simp [intOf];omega
  obtain rfl:e=y.lies.length:=by omega
  have d6:decide ((y.lies.length:Int) < (y.lies.length:Int))=false:=decide_eq_false (by omega)
  have HFB2:Hid (fb=pv (fitAt ls i y)):=Lib.hid (by rw [HFB.out,List.take_length];rfl)
  have HB8:=Lib.hid (HB7.out.trans (HBe.out.mono HB7.out.size))
  clear HFB HB7 HBe b0 b3 hzb
  cases fb with
  | false =>
   as_aux_lemma =>
   have HM2:Hid (Met (fitAt ls i) gs (x+1) m wh):=Lib.hid (HM.out.no Ey.out (fun h=>by
    have:=HFB2.out
    rw [pv_true h] at this
    cases this))
   go_wp2
   go_roundw
   case rel=>exact ⟨x+1,m,wh,by omega,rfl,rfl,by go_num,by omega,hwh,HM2,HB8⟩
   case measure=>simp [intOf];omega
  | true =>
   have HFI:Hid (fitAt ls i y):=Lib.hid (by
    by_cases h:fitAt ls i y
    ·exact h
    ·have:=HFB2.out
     rw [pv_false h] at this
     cases this)
   by_cases hw0:wh < 0
   ·as_aux_lemma =>
    have d7:decide (wh < 0)=true:=decide_eq_true hw0
    have HM2:=Lib.hid (HM.out.yes0 Ey.out HFI.out hw0)
    go_wp2
    go_roundw
    case rel=>exact ⟨x+1,m+1,x,by omega,by go_num,rfl,by go_num,by omega,by omega,HM2,HB8⟩
    case measure=>simp [intOf];omega
   ·as_aux_lemma =>
    have d7:decide (wh < 0)=false:=decide_eq_false hw0
    have HM2:=Lib.hid (HM.out.yes1 Ey.out HFI.out hw0)
    go_wp2
    go_roundw
    case rel=>exact ⟨x+1,m+1,wh,by omega,by go_num,rfl,by go_num,by omega,hwh,HM2,HB8⟩
    case measure=>simp [intOf];omega
 obtain rfl:x=gs.length:=by omega
 have d5:decide ((gs.length:Int) < (gs.length:Int))=false:=decide_eq_false (by omega)
 have HML:=Lib.hid (met_law HD.out HS.out ⟨ov0,by omega⟩ HLO.out hs.out (by rw [hgs.out];exact HM.out))
 rw [hgs.out] at HML
 have HRA:=Lib.hid HML.out.1
 have HBX:=Lib.hid (HBi6.out.trans (HBx.out.mono HBi6.out.size))
 have HNx:=Lib.hid (HNl.out.below HBX.out)
 have HSx:=Lib.hid (Kn.C_below HBX.out HSl.out)
 have HGx:=Lib.hid (Kn.C_below HBX.out HGl.out)
 have HLx:=Lib.hid (Kn.C_below HBX.out HLC.out)
 have HTx:=Lib.hid (Kn.C_below HBx.out HST.out)
 have BNx:=Lib.hid (BNl.out.below HBX.out BNl.out.lt)
 obtain ⟨sa,rfl,z0,z1,z2,z3,Ez,k0,k1,k2,k3⟩:=signalK_at HSx.out i hli
 obtain rfl:s=⟨z0,z1,z2,z3⟩:=Option.some.inj (hs.out.symm.trans Ez.out)
 have hstl:=HTx.out.1
 have hlsl:=HLx.out.1
 have hgsl:=HGx.out.1
 simp only at HRA
 clear HBx HG6 HL6 HST HM HNl HSl HGl HLC BNl d5 k1 k2 k3
 cases b with
 | false =>
  as_aux_lemma =>
  obtain rfl:m=0:=by
   rcases HML.out.2 with ⟨_,e2⟩ | ⟨_,_,_,_,e1,_⟩
   ·exact e2
   ·have:=(HFF.out rfl).symm.trans e1
    cases this
  have s0:=BNx.out.cell 0 rfl
  have s1:=BNx.out.cell 1 rfl
  have hz:w1.heap.size < wx.heap.size:=BNx.out.lt
  have hkz:=World.block_lt_of_cell? _ _ k0
  have dw:(wh != wh)=false:=int_nef rfl
  go_wp2
  go_region_held3 (fun w'=>Below wx.heap.size wx w'∧w'.cell? ⟨w1.heap.size,0,none⟩=some (.slice A0 n.pieces.length c0)∧w'.cell? ⟨w1.heap.size,1,none⟩=some (.slice A1 n.joints.length c1)∧w'.cell? (sa.add (i*4))=some (.string z0))
   (first | exact ⟨(Below.refl _ _).drew,s0,s1,k0⟩ | exact ⟨hbS.trans (hbc.mono hbS.size),cell_below (hbS.trans (hbc.mono hbS.size)) s0,cell_below (hbS.trans (hbc.mono hbS.size)) s1,cell_below (hbS.trans (hbc.mono hbS.size)) k0⟩)
   (first | (go_at_call 27;obtain ⟨hbS,_⟩:=‹Below wx.heap.size wx _∧_›;(with_reducible refine (implRouteAt n ss gs z0 ls A0 A1 (some sa) G Al c0 c1 c2 cg cl _ (HNx.out.below hbS) (Kn.C_below hbS HSx.out) hc2 (Kn.C_below hbS HGx.out) (Kn.C_below hbS HLx.out) HD.out.sm.netIn HS.out.sigIn).mono ?_);rintro e wz ⟨rfl,hbc⟩;rw [HRA.out]))
  obtain ⟨hbF,_⟩:=‹Below wx.heap.size wx wz∧_›
  have HBn:=Lib.hid (HBX.out.trans (hbF.mono HBX.out.size))
  go_wp2
  go_roundw
  case rel=>exact ⟨i+1,by omega,by go_num,HBn⟩
  case measure=>simp [intOf];omega
 | true =>
  as_aux_lemma =>
  obtain ⟨kq,q,EQ,rfl,rfl,rfl,rfl⟩:∃(kq:Nat) (q:Route),Hid (gs[kq]?=some q)∧m=1∧wh=kq∧q.steps=st∧q.til=tl:=by
   have h1:=HFT.out rfl
   rcases HML.out.2 with ⟨e1,_⟩ | ⟨st',tl',k',q,e1,em,ew,e4,es,et⟩
   ·have:=h1.symm.trans e1
    cases this
   ·have h2:=h1.symm.trans e1
    injection h2 with h2
    injection h2 with h3 h4
    exact ⟨k',q,Lib.hid e4,em,ew,by rw [es,h3],by rw [et,h4]⟩
  have hkq:=(List.getElem?_eq_some_iff.1 EQ.out).1
  have kq0:(0:Int)≤(kq:Int):=Int.natCast_nonneg _
  have kq1:(kq:Int) < (gs.length:Int):=by omega
  obtain ⟨ga,rfl,y,Ey,D2,D3,D4,D5,D6,D7,e2,e3,e4,e5,e6,e7,p0,p1,p2,p3,p4,p5,p6,p7,HRy⟩:=rC_at HGx.out kq hkq
  obtain rfl:q=y:=Option.some.inj (EQ.out.symm.trans Ey.out)
  have d8:(q.til != q.til)=false:=int_nef rfl
  have dw:((kq:Int) != (kq:Int))=false:=int_nef rfl
  clear HML
  go_wp2_with fail
  refine (wSteps q.steps D2 B e2 cb _ HRy.out.h2 HTx.out).mono ?_
  rintro e w10 ⟨rfl,hb10⟩
  have HN10:=Lib.hid (HNx.out.below hb10)
  have HS10:=Lib.hid (Kn.C_below hb10 HSx.out)
  have HG10:=Lib.hid (Kn.C_below hb10 HGx.out)
  have HL10:=Lib.hid (Kn.C_below hb10 HLx.out)
  have BN10:=Lib.hid (BNx.out.below hb10 BNx.out.lt)
  have HB10:=Lib.hid (HBX.out.trans (hb10.mono HBX.out.size))
  have k0:=cell_below hb10 k0
  clear p0 p1 p2 p3 p4 p5 p6 p7 HRy hb10
  have s0:=BN10.out.cell 0 rfl
  have s1:=BN10.out.cell 1 rfl
  have hz:w1.heap.size < w10.heap.size:=BN10.out.lt
  have hkz:=World.block_lt_of_cell? _ _ k0
  go_wp2
  refine Rg.start 18 (fun w'=>w'.cell? ⟨w1.heap.size,0,none⟩=some (.slice A0 n.pieces.length c0)∧w'.cell? ⟨w1.heap.size,1,none⟩=some (.slice A1 n.joints.length c1)∧w'.cell? (sa.add (i*4))=some (.string z0)) 20 rfl (by kernel_rfl) ?_
  have hHeld:w10.drew.cell? ⟨w1.heap.size,0,none⟩=some (.slice A0 n.pieces.length c0)∧w10.drew.cell? ⟨w1.heap.size,1,none⟩=some (.slice A1 n.joints.length c1)∧w10.drew.cell? (sa.add (i*4))=some (.string z0):=⟨s0,s1,k0⟩
  refine Rg.pure 0 (v:=?v1) rfl (by kernel_rfl) (fun _ _ _ h=>h) (by rfl) hHeld ?y1 ?h1
  case y1=>(intro wA;go_simp;first | done | with_reducible rfl)
  simp only [Act.put,List.setIfInBounds_toArray,List.set_cons_zero,List.set_cons_succ]
  refine Rg.pure 1 (v:=?v2) rfl (by kernel_rfl) (fun _ _ _ h=>h) (by rfl) hHeld ?y2 ?h2
  case y2=>(intro wA;go_simp;first | done | with_reducible rfl)
  simp only [Act.put,List.setIfInBounds_toArray,List.set_cons_zero,List.set_cons_succ]
  refine Rg.pure 2 (v:=?v3) rfl (by kernel_rfl) (fun _ _ _ h=>h) (by rfl) hHeld ?y3 ?h3
  case y3=>(intro wA;go_simp;first | done | with_reducible rfl)
  simp only [Act.put,List.setIfInBounds_toArray,List.set_cons_zero,List.set_cons_succ]
  refine Rg.skip 3 rfl (by kernel_rfl) (fun _ _ _ h=>h) (by rfl) hHeld ?_
  simp only [Act.put,List.setIfInBounds_toArray,List.set_cons_zero,List.set_cons_succ]
  refine Rg.skip 4 rfl (by kernel_rfl) (fun _ _ _ h=>h) (by rfl) hHeld ?_
  simp only [Act.put,List.setIfInBounds_toArray,List.set_cons_zero,List.set_cons_succ]
  refine Rg.pure 5 (v:=?v6) rfl (by kernel_rfl) (fun _ _ _ h=>h) (by rfl) hHeld ?y6 ?h6
  case y6=>(intro wA;go_simp;first | done | with_reducible rfl)
  simp only [Act.put,List.setIfInBounds_toArray,List.set_cons_zero,List.set_cons_succ]
  refine Rg.pure 6 (v:=?v7) rfl (by kernel_rfl) (fun _ _ _ h=>h) (by rfl) hHeld ?y7 ?h7
  case y7=>(intro wA;go_simp;first | done | with_reducible rfl)
  simp only [Act.put,List.setIfInBounds_toArray,List.set_cons_zero,List.set_cons_succ]
  refine Rg.held 7 (v:=?v8) rfl (by kernel_rfl) (fun _ _ _ h=>h) (by rfl) hHeld ?y8 ?h8
  case y8=>(intro wA hSw;(try dsimp only at hSw);go_simp;first | done | with_reducible rfl)
  simp only [Act.put,List.setIfInBounds_toArray,List.set_cons_zero,List.set_cons_succ]
  refine Rg.pure 8 (v:=?v9) rfl (by kernel_rfl) (fun _ _ _ h=>h) (by rfl) hHeld ?y9 ?h9
  case y9=>(intro wA;go_simp;first | done | with_reducible rfl)
  simp only [Act.put,List.setIfInBounds_toArray,List.set_cons_zero,List.set_cons_succ]
  refine Rg.pure 9 (v:=?v10) rfl (by kernel_rfl) (fun _ _ _ h=>h) (by rfl) hHeld ?y10 ?h10
  case y10=>(intro wA;go_simp;first | done | with_reducible rfl)
  simp only [Act.put,List.setIfInBounds_toArray,List.set_cons_zero,List.set_cons_succ]
  refine Rg.pure 10 (v:=?v11) rfl (by kernel_rfl) (fun _ _ _ h=>h) (by rfl) hHeld ?y11 ?h11
  case y11=>(intro wA;go_simp;first | done | with_reducible rfl)
  simp only [Act.put,List.setIfInBounds_toArray,List.set_cons_zero,List.set_cons_succ]
  refine Rg.pure 11 (v:=?v12) rfl (by kernel_rfl) (fun _ _ _ h=>h) (by rfl) hHeld ?y12 ?h12
  case y12=>(intro wA;go_simp;first | done | with_reducible rfl)
  simp only [Act.put,List.setIfInBounds_toArray,List.set_cons_zero,List.set_cons_succ]
  refine Rg.pure 12 (v:=?v13) rfl (by kernel_rfl) (fun _ _ _ h=>h) (by rfl) hHeld ?y13 ?h13
  case y13=>(intro wA;go_simp;first | done | with_reducible rfl)
  simp only [Act.put,List.setIfInBounds_toArray,List.set_cons_zero,List.set_cons_succ]
  refine Rg.pure 13 (v:=?v14) rfl (by kernel_rfl) (fun _ _ _ h=>h) (by rfl) hHeld ?y14 ?h14
  case y14=>(intro wA;go_simp;first | done | with_reducible rfl)
  simp only [Act.put,List.setIfInBounds_toArray,List.set_cons_zero,List.set_cons_succ]
  refine Rg.held 14 (v:=?v15) rfl (by kernel_rfl) (fun _ _ _ h=>h) (by rfl) hHeld ?y15 ?h15
  case y15=>(intro wA hSw;(try dsimp only at hSw);go_simp;first | done | with_reducible rfl)
  simp only [Act.put,List.setIfInBounds_toArray,List.set_cons_zero,List.set_cons_succ]
  refine Rg.pure 15 (v:=?v16) rfl (by kernel_rfl) (fun _ _ _ h=>h) (by rfl) hHeld ?y16 ?h16
  case y16=>(intro wA;go_simp;first | done | with_reducible rfl)
  simp only [Act.put,List.setIfInBounds_toArray,List.set_cons_zero,List.set_cons_succ]
  refine Rg.pure 17 (v:=?v17) rfl (by kernel_rfl) (fun _ _ _ h=>h) (by rfl) hHeld ?y17 ?h17
  case y17=>(intro wA;go_simp;first | done | with_reducible rfl)
  simp only [Act.put,List.setIfInBounds_toArray,List.set_cons_zero,List.set_cons_succ]
  refine Rg.one 16 rfl (by kernel_rfl) (fun K hK=>?_)
  refine step_callG rfl ?_
  go_simp
  go_at_call 27
  (with_reducible refine (implRouteAt n ss gs z0 ls A0 A1 (some sa) (some ga) Al c0 c1 c2 cg cl _ (HN10.out.below (Below.refl _ _).drew) (C_drewS HS10.out) hc2 (C_drewS HG10.out) (C_drewS HL10.out) HD.out.sm.netIn HS.out.sigIn).mono ?_)
  rintro e wz ⟨rfl,hbc⟩
  rw [HRA.out]
  have hbF:=Below.trans (Below.refl w10.heap.size w10).drew hbc
  refine hK.out _ _ ⟨cell_below hbF s0,cell_below hbF s1,cell_below hbF k0⟩ ?_
  clear hK K
  try simp only [Act.put,List.setIfInBounds_toArray,List.set_cons_zero,List.set_cons_succ]
  refine Rg.row [18,19] [_,_] rfl (by kernel_rfl) ?_
  clear hHeld
  have HBn:=Lib.hid (HB10.out.trans (hbF.mono HB10.out.size))
  go_wp2
  go_roundw
  case rel=>exact ⟨i+1,by omega,by go_num,HBn⟩
  case measure=>simp [intOf];omega
end Go.Proofs.Ytjccgneimknbpaa.L
