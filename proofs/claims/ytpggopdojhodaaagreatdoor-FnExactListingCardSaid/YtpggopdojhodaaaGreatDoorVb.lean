/- The laws' copiers of routes: what they hand back is new memory that is the same value. -/
import Derived.Test.YtpggopdojhodaaaGreatDoorVa
import Derived.Deep.AppendLies
import Derived.RegionTactic
import Derived.Laws.BytesArg
import Derived.Lib.ItoaNum
import Derived.Maps.AppendAt
import Derived.OwnWalk
namespace Go.Proofs.YtpggopdojhodaaaGreatDoor.L
open Go.RowKit
open Classical
set_option linter.unusedVariables false
theorem tot_in {α : Type} {f : α → Nat} {xs : List α} {x : α} (h : x ∈ xs) : f x ≤ tot f xs := by
  induction xs with
  | nil => cases h
  | cons y ys ih =>
    have : tot f (y :: ys) = f y + tot f ys := by simp [tot]
    rcases List.mem_cons.1 h with rfl | h
    · omega
    · have := ih h
      omega
theorem tot_two {α : Type} {f : α → Nat} : ∀ {xs : List α} {i j : Nat} {x y : α}, xs[i]? = some x → xs[j]? = some y → i < j → f x + f y ≤ tot f xs
  | [], _, _, _, _, h, _, _ => by simp at h
  | a :: xs, 0, j, x, y, hi, hj, hne => by
    have ht : tot f (a :: xs) = f a + tot f xs := by simp [tot]
    simp only [List.getElem?_cons_zero, Option.some.injEq] at hi
    obtain ⟨j, rfl⟩ : ∃ m, j = m + 1 := ⟨j - 1, by omega⟩
    rw [List.getElem?_cons_succ] at hj
    have := tot_in (f := f) (mem_of_get hj)
    rw [ht, hi]
    omega
  | a :: xs, i + 1, j, x, y, hi, hj, hne => by
    have ht : tot f (a :: xs) = f a + tot f xs := by simp [tot]
    obtain ⟨j, rfl⟩ : ∃ m, j = m + 1 := ⟨j - 1, by omega⟩
    rw [List.getElem?_cons_succ] at hi hj
    have := tot_two (f := f) hi hj (by omega)
    omega
def At (n : Net) (e : End) (j k : Nat) (x : Joint) : Prop := n.joints[j]? = some x ∧ x.ends[k]? = some e
theorem tot_pos {α : Type} {f : α → Nat} : ∀ {xs : List α}, 0 < tot f xs → ∃ (i : Nat) (x : α), xs[i]? = some x ∧ 0 < f x
  | [], h => by simp [tot] at h
  | a :: xs, h => by
    have ht : tot f (a :: xs) = f a + tot f xs := by simp [tot]
    by_cases ha : 0 < f a
    · exact ⟨0, a, rfl, ha⟩
    · obtain ⟨i, x, h1, h2⟩ := tot_pos (f := f) (xs := xs) (by omega)
      exact ⟨i + 1, x, h1, h2⟩
theorem usesIn_pos {es : List End} {e : End} (h : 0 < usesIn es e) : ∃ k : Nat, es[k]? = some e := by
  obtain ⟨k, x, h1, h2⟩ := tot_pos h
  split at h2
  · rename_i he
    exact ⟨k, by rw [h1, of_eqv he]⟩
  · omega
theorem usesIn_one {es : List End} {e : End} {k : Nat} (h : es[k]? = some e) : 1 ≤ usesIn es e := by
  have := tot_in (f := fun x => if eqv x e = true then 1 else 0) (mem_of_get h)
  simp only [eqv_self, if_true] at this
  exact this
theorem usesIn_two {es : List End} {e : End} {k m : Nat} (h : es[k]? = some e) (h2 : es[m]? = some e) (hne : k < m) : 2 ≤ usesIn es e := by
  have := tot_two (f := fun x => if eqv x e = true then 1 else 0) h h2 hne
  simp only [eqv_self, if_true] at this
  exact this
theorem at_of_uses {n : Net} {e : End} (h : uses n.joints e = 1) : ∃ (j k : Nat) (x : Joint), At n e j k x := by
  obtain ⟨j, x, h1, h2⟩ := tot_pos (f := fun j : Joint => usesIn j.ends e) (xs := n.joints) (by show 0 < uses n.joints e; omega)
  obtain ⟨k, h3⟩ := usesIn_pos h2
  exact ⟨j, k, x, h1, h3⟩
theorem at_one {n : Net} {e : End} (h : uses n.joints e = 1) {j k j' k' : Nat} {x x' : Joint} (h1 : At n e j k x) (h2 : At n e j' k' x') : j' = j ∧ k' = k ∧ x' = x := by
  have hj : j' = j := by
    refine Classical.byContradiction fun hne => ?_
    have u1 := usesIn_one h1.2
    have u2 := usesIn_one h2.2
    rcases Nat.lt_or_gt_of_ne hne with hl | hl
    · have : usesIn x'.ends e + usesIn x.ends e ≤ uses n.joints e := tot_two (f := fun j : Joint => usesIn j.ends e) h2.1 h1.1 hl
      omega
    · have : usesIn x.ends e + usesIn x'.ends e ≤ uses n.joints e := tot_two (f := fun j : Joint => usesIn j.ends e) h1.1 h2.1 hl
      omega
  subst hj
  have hx : x' = x := Option.some.inj (h2.1.symm.trans h1.1)
  subst hx
  refine ⟨rfl, Classical.byContradiction fun hne => ?_, rfl⟩
  have hle : usesIn x'.ends e ≤ uses n.joints e := tot_in (f := fun j : Joint => usesIn j.ends e) (mem_of_get h1.1)
  rcases Nat.lt_or_gt_of_ne hne with hl | hl
  · have := usesIn_two h2.2 h1.2 hl
    omega
  · have := usesIn_two h1.2 h2.2 hl
    omega
structure Good (n : Net) : Prop where
  pos : 0 < n.pieces.length
  le : n.pieces.length ≤ 100
  jle : n.joints.length ≤ 120
  piece : ∀ p ∈ n.pieces, pieceP p
  joint : ∀ x ∈ n.joints, jointP n.pieces.length x
  one : ∀ e, endP n.pieces.length e → uses n.joints e = 1
theorem good_of_ok {n : Net} (h : netOk n = ⟨0, 0⟩) : Good n := by
  obtain ⟨h1, h2, h3, h4⟩ := pieces_of_ok h
  unfold netOk at h
  split at h
  · simp at h
  split at h
  · simp at h
  split at h
  · simp at h
  rename_i g3
  split at h
  · simp at h
  split at h
  · simp at h
  rename_i g5
  refine ⟨h1, h2, h3, h4, fun x hx => Classical.byContradiction fun hb => ?_, fun e he => Classical.byContradiction fun hb => ?_⟩
  · obtain ⟨i, hi⟩ := List.mem_iff_getElem?.1 hx
    exact g3 ⟨i, (List.getElem?_eq_some_iff.1 hi).1, x, hi, hb⟩
  · obtain ⟨p, s⟩ := e
    obtain ⟨⟨e1, e2⟩, e3, e4⟩ := he
    simp only at e1 e2 e3 e4
    obtain ⟨m, rfl⟩ : ∃ m : Nat, p = m := ⟨p.toNat, by omega⟩
    refine g5 ⟨m, by omega, ?_⟩
    rcases (show s = 0 ∨ s = 1 by omega) with rfl | rfl
    · exact .inl hb
    · exact .inr hb
noncomputable def atJ (n : Net) (e : End) : Nat × Nat := if h : ∃ jk : Nat × Nat, ∃ x, At n e jk.1 jk.2 x then h.choose else (0, 0)
def jt (n : Net) (j : Nat) : Joint := n.joints.getD j ⟨0, ⟨#[]⟩, []⟩
def en (x : Joint) (k : Nat) : End := x.ends.getD k ⟨0, 0⟩
theorem atJ_eq {n : Net} {e : End} {j k : Nat} {x : Joint} (hg : Good n) (he : endP n.pieces.length e) (h : At n e j k x) : atJ n e = (j, k) ∧ jt n j = x := by
  have hx : ∃ jk : Nat × Nat, ∃ x, At n e jk.1 jk.2 x := ⟨(j, k), x, h⟩
  refine ⟨?_, by unfold jt; rw [List.getD_eq_getElem?_getD, h.1]; rfl⟩
  unfold atJ
  rw [dif_pos hx]
  obtain ⟨x', h'⟩ := hx.choose_spec
  obtain ⟨h1, h2, _⟩ := at_one (hg.one e he) h h'
  exact Prod.ext h1 h2
theorem at_get {n : Net} {e : End} (hg : Good n) (he : endP n.pieces.length e) : ∃ j k x, At n e j k x ∧ atJ n e = (j, k) ∧ jt n j = x ∧ jointP n.pieces.length x ∧ j < n.joints.length ∧ k < x.ends.length := by
  obtain ⟨j, k, x, h⟩ := at_of_uses (hg.one e he)
  obtain ⟨h1, h2⟩ := atJ_eq hg he h
  exact ⟨j, k, x, h, h1, h2, hg.joint x (mem_of_get h.1), (List.getElem?_eq_some_iff.1 h.1).1, (List.getElem?_eq_some_iff.1 h.2).1⟩
theorem en_get {x : Joint} {k : Nat} (hk : k < x.ends.length) : x.ends[k]? = some (en x k) := by
  unfold en
  rw [List.getD_eq_getElem?_getD, List.getElem?_eq_getElem hk]
  rfl
theorem en_ok {m : Nat} {x : Joint} {k : Nat} (h : jointP m x) (hk : k < x.ends.length) : endP m (en x k) := h.2.2 _ (mem_of_get (en_get hk))
def xr (k : Nat) : Nat := if k = 0 then 1 else if k = 1 then 0 else if k = 2 then 3 else 2
def across (x : Joint) (k : Nat) : List End :=
  if x.kind = 2 then [en x (1 - k)] else if x.kind = 3 then (if k = 0 then [en x 1, en x 2] else [en x 0]) else if x.kind = 4 then [en x (xr k)] else []
def pl (n : Net) (p : Int) : Int := ((n.pieces[p.toNat]?).map Piece.len).getD 0
def headE (p way : Int) : End := if way = 1 then ⟨p, 1⟩ else ⟨p, 0⟩
def wayOf (e : End) : Int := if e.side = 1 then -1 else 1
def farOf (n : Net) (p a way : Int) : Int := if way = 1 then a else pl n p - a
noncomputable def pick (ss : List Signal) (fits : Signal → Prop) (ahead : Signal → Signal → Prop) : Nat → Option Nat
  | 0 => none
  | k + 1 => match ss[k]? with
    | none => pick ss fits ahead k
    | some s => if fits s ∧ (∀ b t, pick ss fits ahead k = some b → ss[b]? = some t → ahead s t) then some k else pick ss fits ahead k
def fitsW (n : Net) (p way far : Int) (s : Signal) : Prop := s.piece = p ∧ s.way = way ∧ far < farOf n p s.at_ way
def aheadW (n : Net) (p way : Int) (s t : Signal) : Prop := farOf n p s.at_ way < farOf n p t.at_ way
noncomputable def firstS (n : Net) (ss : List Signal) (p way far : Int) : Option Nat := pick ss (fitsW n p way far) (aheadW n p way) ss.length
def fitsB (p back : Int) (s : Signal) : Prop := s.piece = p ∧ s.way = back
def aheadB (n : Net) (p back : Int) (s t : Signal) : Prop := farOf n p t.at_ back < farOf n p s.at_ back
noncomputable def lastS (n : Net) (ss : List Signal) (p back : Int) : Option Nat := pick ss (fitsB p back) (aheadB n p back) ss.length
theorem pick_lt {ss : List Signal} {fits : Signal → Prop} {ahead : Signal → Signal → Prop} : ∀ {k b : Nat}, pick ss fits ahead k = some b → b < k ∧ b < ss.length ∧ ∃ s, ss[b]? = some s ∧ fits s
  | 0, b, h => by simp [pick] at h
  | k + 1, b, h => by
    unfold pick at h
    split at h
    · obtain ⟨h1, h2, h3⟩ := pick_lt h
      exact ⟨by omega, h2, h3⟩
    · rename_i s hs
      split at h
      · rename_i hc
        obtain rfl := Option.some.inj h
        exact ⟨by omega, (List.getElem?_eq_some_iff.1 hs).1, s, hs, hc.1⟩
      · obtain ⟨h1, h2, h3⟩ := pick_lt h
        exact ⟨by omega, h2, h3⟩
theorem pick_yes {ss : List Signal} {fits : Signal → Prop} {ahead : Signal → Signal → Prop} {k : Nat} {s : Signal} (hs : ss[k]? = some s) (hf : fits s) (ha : ∀ b t, pick ss fits ahead k = some b → ss[b]? = some t → ahead s t) : pick ss fits ahead (k + 1) = some k := by
  rw [pick]
  simp only [hs]
  rw [if_pos ⟨hf, ha⟩]
theorem pick_not {ss : List Signal} {fits : Signal → Prop} {ahead : Signal → Signal → Prop} {k : Nat} {s : Signal} (hs : ss[k]? = some s) (hf : ¬ fits s) : pick ss fits ahead (k + 1) = pick ss fits ahead k := by
  rw [pick]
  simp only [hs]
  rw [if_neg (fun h => hf h.1)]
theorem pick_old {ss : List Signal} {fits : Signal → Prop} {ahead : Signal → Signal → Prop} {k b : Nat} {s t : Signal} (hs : ss[k]? = some s) (hb : pick ss fits ahead k = some b) (ht : ss[b]? = some t) (ha : ¬ ahead s t) : pick ss fits ahead (k + 1) = some b := by
  rw [pick]
  simp only [hs]
  rw [if_neg (fun h => ha (h.2 b t hb ht)), hb]
def onum (o : Option Nat) : Int := match o with
  | none => -1
  | some b => b
def partN (n : Net) (p way a b : Int) : Part := if way = 1 then ⟨p, a, b⟩ else ⟨p, pl n p - b, pl n p - a⟩
noncomputable def beyond (n : Net) : Nat → Int → Int → Int → Int → List Part
  | 0, _, _, _, _ => []
  | m + 1, p, way, far, left =>
    if left ≤ 0 then [] else
    let til := if far + left ≤ pl n p then far + left else pl n p
    let jk := atJ n (headE p way)
    if left - (til - far) = 0 ∨ ¬ (jt n jk.1).kind = 2 then [partN n p way far til]
    else
      let e := en (jt n jk.1) (1 - jk.2)
      partN n p way far til :: beyond n m e.piece (wayOf e) 0 (left - (til - far))
noncomputable def flankF (n : Net) (ss : List Signal) (lies : List Lie) (a : Int) : Nat → List End × List Flank → End → List End × List Flank
  | 0, st, _ => st
  | m + 1, (seen, fl), e =>
    if e ∈ seen then (seen, fl) else
    match lastS n ss e.piece (if e.side = 0 then -1 else 1) with
    | some b => (seen ++ [e], fl ++ [⟨a, 2, b, 0⟩])
    | none =>
      let jk := atJ n ⟨e.piece, 1 - e.side⟩
      let x := jt n jk.1
      if x.kind = 1 then (seen ++ [e], fl ++ [⟨a, 1, jk.1, 0⟩])
      else if x.kind = 3 then
        if jk.2 = 0 then flankF n ss lies a m (flankF n ss lies a m (seen ++ [e], fl) (en x 1)) (en x 2)
        else if (⟨jk.1, jk.2⟩ : Lie) ∈ lies then (seen ++ [e], fl ++ [⟨a, 4, jk.1, 0⟩])
        else (seen ++ [e], fl ++ [⟨a, 3, jk.1, 3 - jk.2⟩])
      else flankF n ss lies a m (seen ++ [e], fl) ((across x jk.2).headD ⟨0, 0⟩)
noncomputable def flanksAt (n : Net) (ss : List Signal) (lies : List Lie) (l : Lie) : List Flank :=
  (flankF n ss lies l.joint (2 * n.pieces.length + 1) ([], []) (en (jt n l.joint.toNat) (3 - l.lie).toNat)).2
noncomputable def flanksOf (n : Net) (ss : List Signal) (lies : List Lie) : List Flank := (lies.map (flanksAt n ss lies)).flatten
noncomputable def addLie (lies : List Lie) (j : Nat) (l : Int) : Option (List Lie) :=
  match lies.find? (fun x => eqv x.joint (j : Int)) with
  | some x => if x.lie = l then some lies else none
  | none => some (lies ++ [⟨j, l⟩])
def lieAt (k i : Nat) : Int := if k = 0 then (i : Int) + 1 else k
noncomputable def goOn (r : Route) (x : Joint) (j k i : Nat) : Option Route :=
  if x.kind = 3 then (addLie r.lies j (lieAt k i)).map (fun l => { r with lies := l })
  else if x.kind = 4 then some { r with crosses := r.crosses ++ [(j : Int)] }
  else some r
noncomputable def fin (n : Net) (ss : List Signal) (r : Route) : Route := { r with flanks := flanksOf n ss r.lies }
abbrev St := List Route × Nat
def full (st : St) : Prop := 300 < st.1.length ∨ 20000 < st.2
noncomputable def kidsTo (go : St → Route → Int → Int → Int → St) (r : Route) (x : Joint) (j k : Nat) (l : List End) (st : St) : Nat → St
  | 0 => st
  | i + 1 => match l[i]? with
    | none => kidsTo go r x j k l st i
    | some e => match goOn r x j k i with
      | none => kidsTo go r x j k l st i
      | some q => go (kidsTo go r x j k l st i) q e.piece (wayOf e) 0
def Route.on (r : Route) (n : Net) (p way a b : Int) : Route := { r with steps := r.steps ++ [⟨p, way⟩], parts := r.parts ++ [partN n p way a b] }
def sigFar (n : Net) (ss : List Signal) (b : Nat) (p way : Int) : Int := farOf n p (((ss[b]?).map Signal.at_).getD 0) way
noncomputable def sigR (n : Net) (ss : List Signal) (ov : Int) (r : Route) (p way far : Int) (b : Nat) : Route :=
  { r.on n p way far (sigFar n ss b p way) with til := b, over := beyond n (ov.toNat + 1) p way (sigFar n ss b p way) ov }
noncomputable def walkF (n : Net) (ss : List Signal) (ov : Int) : Nat → St → Route → Int → Int → Int → St
  | 0, st, _, _, _, _ => st
  | m + 1, st, r, p, way, far =>
    if full (st.1, st.2 + 1) then (st.1, st.2 + 1) else
    match firstS n ss p way far with
    | some b => (st.1 ++ [fin n ss (sigR n ss ov r p way far b)], st.2 + 1)
    | none =>
      if (⟨p, way⟩ : Step) ∈ r.steps then (st.1, st.2 + 1) else
      if (jt n (atJ n (headE p way)).1).kind = 1 then (st.1 ++ [fin n ss { r.on n p way far (pl n p) with til := -1 }], st.2 + 1)
      else kidsTo (walkF n ss ov m) (r.on n p way far (pl n p)) (jt n (atJ n (headE p way)).1) (atJ n (headE p way)).1 (atJ n (headE p way)).2
        (across (jt n (atJ n (headE p way)).1) (atJ n (headE p way)).2) (st.1, st.2 + 1) (across (jt n (atJ n (headE p way)).1) (atJ n (headE p way)).2).length
section
variable {n : Net} {ss : List Signal} {ov : Int} {m : Nat} {st : St} {r : Route} {p way far : Int}
theorem walkF_full (h : full (st.1, st.2 + 1)) : walkF n ss ov (m + 1) st r p way far = (st.1, st.2 + 1) := by rw [walkF, if_pos h]
theorem walkF_sig {b : Nat} (h : ¬ full (st.1, st.2 + 1)) (hb : firstS n ss p way far = some b) : walkF n ss ov (m + 1) st r p way far = (st.1 ++ [fin n ss (sigR n ss ov r p way far b)], st.2 + 1) := by
  rw [walkF, if_neg h]
  simp only [hb]
theorem walkF_round (h : ¬ full (st.1, st.2 + 1)) (hb : firstS n ss p way far = none) (hr : (⟨p, way⟩ : Step) ∈ r.steps) : walkF n ss ov (m + 1) st r p way far = (st.1, st.2 + 1) := by
  rw [walkF, if_neg h]
  simp only [hb]
  rw [if_pos hr]
theorem walkF_end {j k : Nat} {x : Joint} (h : ¬ full (st.1, st.2 + 1)) (hb : firstS n ss p way far = none) (hr : ¬ (⟨p, way⟩ : Step) ∈ r.steps) (ha : atJ n (headE p way) = (j, k)) (hx : jt n j = x) (h1 : x.kind = 1) :
    walkF n ss ov (m + 1) st r p way far = (st.1 ++ [fin n ss { r.on n p way far (pl n p) with til := -1 }], st.2 + 1) := by
  rw [walkF, if_neg h]
  simp only [hb]
  rw [if_neg hr, ha]
  simp only [hx]
  rw [if_pos h1]
theorem walkF_on {j k : Nat} {x : Joint} (h : ¬ full (st.1, st.2 + 1)) (hb : firstS n ss p way far = none) (hr : ¬ (⟨p, way⟩ : Step) ∈ r.steps) (ha : atJ n (headE p way) = (j, k)) (hx : jt n j = x) (h1 : ¬ x.kind = 1) :
    walkF n ss ov (m + 1) st r p way far = kidsTo (walkF n ss ov m) (r.on n p way far (pl n p)) x j k (across x k) (st.1, st.2 + 1) (across x k).length := by
  rw [walkF, if_neg h]
  simp only [hb]
  rw [if_neg hr, ha]
  simp only [hx]
  rw [if_neg h1]
end
noncomputable def startR (i : Nat) : Route := ⟨i, 0, [], [], [], [], [], []⟩
noncomputable def allF (n : Net) (ss : List Signal) (ov : Int) : Nat → St
  | 0 => ([], 0)
  | k + 1 => match ss[k]? with
    | none => allF n ss ov k
    | some s => walkF n ss ov (2 * n.pieces.length + 1) (allF n ss ov k) (startR k) s.piece s.way (farOf n s.piece s.at_ s.way)
noncomputable def routesF (n : Net) (ss : List Signal) (ov : Int) : List Route :=
  if ¬ signalsOk n ss = ⟨0, 0⟩ ∨ ¬ (0 ≤ ov ∧ ov ≤ 100000) then []
  else if full (allF n ss ov ss.length) then [] else (allF n ss ov ss.length).1
end Go.Proofs.YtpggopdojhodaaaGreatDoor.L
namespace Go.Proofs.YtpggopdojhodaaaGreatDoor.L
open Go.RowKit
open Classical
set_option linter.unusedVariables false
theorem nodup_bound : ∀ (m : Nat) (l : List Nat), l.Nodup → (∀ x ∈ l, x < m) → l.length ≤ m
  | 0, l, _, h => by
    cases l with
    | nil => exact Nat.le_refl _
    | cons a l => exact absurd (h a (by simp)) (by omega)
  | m + 1, l, hn, h => by
    have h1 := nodup_bound m (l.erase m) (hn.erase m) (fun x hx => by
      have h2 := h x (List.mem_of_mem_erase hx)
      have h3 : x ≠ m := fun e => by
        subst e
        exact (hn.not_mem_erase hx).elim
      omega)
    rw [List.length_erase] at h1
    split at h1 <;> omega
theorem nodup_map {α : Type} {f : α → Nat} : ∀ {l : List α}, l.Nodup → (∀ x ∈ l, ∀ y ∈ l, f x = f y → x = y) → (l.map f).Nodup
  | [], _, _ => by simp
  | a :: l, hn, hf => by
    rw [List.nodup_cons] at hn
    rw [List.map_cons, List.nodup_cons]
    refine ⟨fun h => ?_, nodup_map hn.2 (fun x hx y hy => hf x (List.mem_cons_of_mem _ hx) y (List.mem_cons_of_mem _ hy))⟩
    obtain ⟨b, hb, he⟩ := List.mem_map.1 h
    have := hf b (List.mem_cons_of_mem _ hb) a (by simp) he
    subst this
    exact hn.1 hb
theorem nodup_snoc {α : Type} {l : List α} {x : α} (hn : l.Nodup) (hx : ¬ x ∈ l) : (l ++ [x]).Nodup := by
  rw [List.nodup_append]
  refine ⟨hn, by simp, fun a ha b hb e => ?_⟩
  rw [List.mem_singleton.1 hb] at e
  subst e
  exact hx ha
def stepP (m : Nat) (s : Step) : Prop := (0 ≤ s.piece ∧ s.piece ≤ (m : Int) - 1) ∧ (s.way = 1 ∨ s.way = -1)
theorem steps_bound {m : Nat} {l : List Step} (hn : l.Nodup) (h : ∀ s ∈ l, stepP m s) : l.length ≤ 2 * m := by
  have := nodup_bound (2 * m) (l.map (fun s => 2 * s.piece.toNat + (if s.way = 1 then 1 else 0))) (nodup_map hn (fun x hx y hy e => by
    obtain ⟨⟨a1, a2⟩, a3⟩ := h x hx
    obtain ⟨⟨b1, b2⟩, b3⟩ := h y hy
    obtain ⟨p, v⟩ := x
    obtain ⟨q, u⟩ := y
    simp only at a1 a2 a3 b1 b2 b3 e
    rcases a3 with rfl | rfl <;> rcases b3 with rfl | rfl <;> simp at e ⊢ <;> omega)) (fun x hx => by
    obtain ⟨s, hs, rfl⟩ := List.mem_map.1 hx
    obtain ⟨⟨a1, a2⟩, a3⟩ := h s hs
    split <;> omega)
  rwa [List.length_map] at this
theorem ends_bound {m : Nat} {l : List End} (hn : l.Nodup) (h : ∀ s ∈ l, endP m s) : l.length ≤ 2 * m := by
  have := nodup_bound (2 * m) (l.map (fun s => 2 * s.piece.toNat + s.side.toNat)) (nodup_map hn (fun x hx y hy e => by
    obtain ⟨⟨a1, a2⟩, a3⟩ := h x hx
    obtain ⟨⟨b1, b2⟩, b3⟩ := h y hy
    obtain ⟨p, v⟩ := x
    obtain ⟨q, u⟩ := y
    simp only at a1 a2 a3 b1 b2 b3 e
    have : p = q ∧ v = u := by omega
    rw [this.1, this.2])) (fun x hx => by
    obtain ⟨s, hs, rfl⟩ := List.mem_map.1 hx
    obtain ⟨⟨a1, a2⟩, a3⟩ := h s hs
    omega)
  rwa [List.length_map] at this
theorem head_ok {m : Nat} {p way : Int} (h : stepP m ⟨p, way⟩) : endP m (headE p way) := by
  obtain ⟨h1, h2⟩ := h
  unfold headE
  split
  · exact ⟨h1, by show (0 : Int) ≤ 1; omega, by show (1 : Int) ≤ 1; omega⟩
  · exact ⟨h1, by show (0 : Int) ≤ 0; omega, by show (0 : Int) ≤ 1; omega⟩
theorem step_of_end {m : Nat} {e : End} (h : endP m e) : stepP m ⟨e.piece, wayOf e⟩ := by
  refine ⟨h.1, ?_⟩
  unfold wayOf
  split
  · exact .inr rfl
  · exact .inl rfl
theorem other_ok {m : Nat} {e : End} (h : endP m e) : endP m ⟨e.piece, 1 - e.side⟩ := by
  obtain ⟨h1, h2, h3⟩ := h
  exact ⟨h1, by show (0 : Int) ≤ 1 - e.side; omega, by show 1 - e.side ≤ (1 : Int); omega⟩
theorem xr_lt {k : Nat} (h : k < 4) : xr k < 4 := by unfold xr; split <;> (try split) <;> (try split) <;> omega
theorem across_ok {m : Nat} {x : Joint} {k : Nat} (h : jointP m x) (hk : k < x.ends.length) {e : End} (he : e ∈ across x k) : endP m e := by
  obtain ⟨⟨h1, h2⟩, h3, h4⟩ := h
  have hj : jointP m x := ⟨⟨h1, h2⟩, h3, h4⟩
  unfold across at he
  split at he
  · rw [List.mem_singleton.1 he]
    exact en_ok hj (by omega)
  split at he
  · split at he
    · rcases List.mem_cons.1 he with rfl | he
      · exact en_ok hj (by omega)
      · rw [List.mem_singleton.1 he]
        exact en_ok hj (by omega)
    · rw [List.mem_singleton.1 he]
      exact en_ok hj (by omega)
  split at he
  · rw [List.mem_singleton.1 he]
    exact en_ok hj (by have := xr_lt (k := k) (by omega); omega)
  · cases he
theorem across_len (x : Joint) (k : Nat) : (across x k).length ≤ 2 := by
  unfold across
  split
  · simp
  split
  · split <;> simp
  split <;> simp
def lieP (n : Net) (l : Lie) : Prop := ∃ j : Nat, l.joint = j ∧ j < n.joints.length ∧ (jt n j).kind = 3 ∧ (l.lie = 1 ∨ l.lie = 2)
structure RInv (n : Net) (ss : List Signal) (r : Route) : Prop where
  nodup : r.steps.Nodup
  step : ∀ s ∈ r.steps, stepP n.pieces.length s
  parts : r.parts.length = r.steps.length
  liesN : r.lies.length ≤ r.steps.length
  lies : ∀ l ∈ r.lies, lieP n l
  crosses : r.crosses.length ≤ r.steps.length
  over : r.over = []
  flanks : r.flanks = []
theorem flankF_len {n : Net} {ss : List Signal} {lies : List Lie} {a : Int} : ∀ (m : Nat) (st : List End × List Flank) (e : End),
    (flankF n ss lies a m st e).2.length + st.1.length ≤ st.2.length + (flankF n ss lies a m st e).1.length
  | 0, st, e => by unfold flankF; omega
  | m + 1, (seen, fl), e => by
    unfold flankF
    split
    · simp only []; omega
    split
    · simp; omega
    simp only []
    split
    · simp; omega
    split
    · split
      · have h1 := flankF_len (n := n) (ss := ss) (lies := lies) (a := a) m (seen ++ [e], fl) (en (jt n (atJ n ⟨e.piece, 1 - e.side⟩).1) 1)
        have h2 := flankF_len (n := n) (ss := ss) (lies := lies) (a := a) m (flankF n ss lies a m (seen ++ [e], fl) (en (jt n (atJ n ⟨e.piece, 1 - e.side⟩).1) 1)) (en (jt n (atJ n ⟨e.piece, 1 - e.side⟩).1) 2)
        simp only [List.length_append, List.length_singleton] at h1 h2 ⊢
        omega
      · split <;> (simp; omega)
    · have h1 := flankF_len (n := n) (ss := ss) (lies := lies) (a := a) m (seen ++ [e], fl) ((across (jt n (atJ n ⟨e.piece, 1 - e.side⟩).1) (atJ n ⟨e.piece, 1 - e.side⟩).2).headD ⟨0, 0⟩)
      simp only [List.length_append, List.length_singleton] at h1 ⊢
      omega
theorem head_across {m : Nat} {x : Joint} {k : Nat} (h : jointP m x) (hk : k < x.ends.length) (h1 : ¬ x.kind = 1) : endP m ((across x k).headD ⟨0, 0⟩) := by
  refine across_ok h hk ?_
  obtain ⟨⟨g1, g2⟩, g3, g4⟩ := h
  unfold across
  split
  · simp
  split
  · split <;> simp
  split
  · simp
  · omega
theorem flankF_seen {n : Net} {ss : List Signal} {lies : List Lie} {a : Int} (hg : Good n) : ∀ (m : Nat) (st : List End × List Flank) (e : End), endP n.pieces.length e → st.1.Nodup → (∀ x ∈ st.1, endP n.pieces.length x) →
    (flankF n ss lies a m st e).1.Nodup ∧ (∀ x ∈ (flankF n ss lies a m st e).1, endP n.pieces.length x) ∧ st.1.length ≤ (flankF n ss lies a m st e).1.length
  | 0, st, e, he, hn, hs => by unfold flankF; exact ⟨hn, hs, Nat.le_refl _⟩
  | m + 1, (seen, fl), e, he, hn, hs => by
    unfold flankF
    split
    · exact ⟨hn, hs, Nat.le_refl _⟩
    rename_i hne
    have hn' : (seen ++ [e]).Nodup := nodup_snoc hn hne
    have hs' : ∀ x ∈ seen ++ [e], endP n.pieces.length x := fun x hx => by
      rcases List.mem_append.1 hx with hx | hx
      · exact hs x hx
      · rw [List.mem_singleton.1 hx]
        exact he
    have hl : seen.length ≤ (seen ++ [e]).length := by simp
    split
    · exact ⟨hn', hs', hl⟩
    obtain ⟨j, k, x, hat, h1, h2, h3, h4, h5⟩ := at_get hg (other_ok he)
    simp only [h1, h2]
    split
    · exact ⟨hn', hs', hl⟩
    rename_i hk1
    split
    · rename_i hk3
      have hlen : (x.ends.length : Int) = 3 := by rw [h3.2.1, hk3]
      split
      · obtain ⟨a1, a2, a3⟩ := flankF_seen (ss := ss) (lies := lies) (a := a) hg m (seen ++ [e], fl) (en x 1) (en_ok h3 (by omega)) hn' hs'
        obtain ⟨b1, b2, b3⟩ := flankF_seen (ss := ss) (lies := lies) (a := a) hg m _ (en x 2) (en_ok h3 (by omega)) a1 a2
        exact ⟨b1, b2, by simp only [List.length_append, List.length_singleton] at a3 b3 ⊢; omega⟩
      · split <;> exact ⟨hn', hs', hl⟩
    · obtain ⟨a1, a2, a3⟩ := flankF_seen (ss := ss) (lies := lies) (a := a) hg m (seen ++ [e], fl) ((across x k).headD ⟨0, 0⟩) (head_across h3 h5 hk1) hn' hs'
      exact ⟨a1, a2, by simp only [List.length_append, List.length_singleton] at a3 ⊢; omega⟩
section
variable {n : Net} {ss : List Signal} {ov : Int}
theorem kidsTo_inv {go : St → Route → Int → Int → Int → St} {r : Route} {x : Joint} {j k : Nat} {l : List End} {st : St} (P : St → Prop) (h0 : P st)
    (hs : ∀ i e q st', l[i]? = some e → goOn r x j k i = some q → P st' → P (go st' q e.piece (wayOf e) 0)) : ∀ i, P (kidsTo go r x j k l st i)
  | 0 => h0
  | i + 1 => by
    have ih := kidsTo_inv P h0 hs i
    unfold kidsTo
    split
    · exact ih
    rename_i e he
    split
    · exact ih
    · rename_i q hq
      exact hs i e q _ he hq ih
theorem walkF_len : ∀ (m : Nat) (st : St) (r : Route) (p way far : Int), st.1.length ≤ 301 → (walkF n ss ov m st r p way far).1.length ≤ 301
  | 0, st, r, p, way, far, h => h
  | m + 1, st, r, p, way, far, h => by
    by_cases hf : full (st.1, st.2 + 1)
    · rw [walkF_full hf]
      exact h
    have hl : st.1.length ≤ 300 := by
      unfold full at hf
      simp only [] at hf
      omega
    cases hb : firstS n ss p way far with
    | some b =>
      rw [walkF_sig hf hb]
      simp
      omega
    | none =>
      by_cases hr : (⟨p, way⟩ : Step) ∈ r.steps
      · rw [walkF_round hf hb hr]
        exact h
      obtain ⟨j, k, ha⟩ : ∃ j k, atJ n (headE p way) = (j, k) := ⟨_, _, rfl⟩
      by_cases h1 : (jt n j).kind = 1
      · rw [walkF_end hf hb hr ha rfl h1]
        simp
        omega
      · rw [walkF_on hf hb hr ha rfl h1]
        exact kidsTo_inv (st := (st.1, st.2 + 1)) (fun s => s.1.length ≤ 301) h (fun i e q st' _ _ hs => walkF_len m st' q _ _ _ hs) _
theorem walkF_tries : ∀ (m : Nat) (st : St) (r : Route) (p way far : Int), (walkF n ss ov m st r p way far).2 ≤ max (st.2 + 1) (20002 + m)
  | 0, st, r, p, way, far => by
    show st.2 ≤ _
    omega
  | m + 1, st, r, p, way, far => by
    by_cases hf : full (st.1, st.2 + 1)
    · rw [walkF_full hf]
      show st.2 + 1 ≤ _
      omega
    have hl : st.2 + 1 ≤ 20000 := by
      unfold full at hf
      simp only [] at hf
      omega
    cases hb : firstS n ss p way far with
    | some b =>
      rw [walkF_sig hf hb]
      show st.2 + 1 ≤ _
      omega
    | none =>
      by_cases hr : (⟨p, way⟩ : Step) ∈ r.steps
      · rw [walkF_round hf hb hr]
        show st.2 + 1 ≤ _
        omega
      obtain ⟨j, k, ha⟩ : ∃ j k, atJ n (headE p way) = (j, k) := ⟨_, _, rfl⟩
      by_cases h1 : (jt n j).kind = 1
      · rw [walkF_end hf hb hr ha rfl h1]
        show st.2 + 1 ≤ _
        omega
      · rw [walkF_on hf hb hr ha rfl h1]
        have hal := across_len (jt n j) k
        generalize across (jt n j) k = l at hal ⊢
        generalize r.on n p way far (pl n p) = r1
        have key : ∀ i, i ≤ 2 → (kidsTo (walkF n ss ov m) r1 (jt n j) j k l (st.1, st.2 + 1) i).2 ≤ (if i = 0 then st.2 + 1 else if i = 1 then max (st.2 + 2) (20002 + m) else max (st.2 + 3) (20002 + m + 1)) := by
          intro i
          induction i with
          | zero => exact fun _ => Nat.le_refl _
          | succ i ih =>
            intro hi
            have ih := ih (by omega)
            have hcase : i = 0 ∨ i = 1 := by omega
            have hno : (kidsTo (walkF n ss ov m) r1 (jt n j) j k l (st.1, st.2 + 1) i).2 ≤ (if i + 1 = 0 then st.2 + 1 else if i + 1 = 1 then max (st.2 + 2) (20002 + m) else max (st.2 + 3) (20002 + m + 1)) := by
              rcases hcase with rfl | rfl
              · simp at ih ⊢
                omega
              · simp at ih ⊢
                omega
            cases he : l[i]? with
            | none =>
              rw [kidsTo]
              simp only [he]
              exact hno
            | some e =>
            cases hq : goOn r1 (jt n j) j k i with
            | none =>
              rw [kidsTo]
              simp only [he, hq]
              exact hno
            | some q =>
              rw [kidsTo]
              simp only [he, hq]
              have hw := walkF_tries m (kidsTo (walkF n ss ov m) r1 (jt n j) j k l (st.1, st.2 + 1) i) q e.piece (wayOf e) 0
              rcases hcase with rfl | rfl
              · simp at ih hw ⊢
                omega
              · simp at ih hw ⊢
                omega
        have := key l.length hal
        rcases (show l.length = 0 ∨ l.length = 1 ∨ l.length = 2 by omega) with h0 | h0 | h0
        · rw [h0] at this ⊢
          simp at this
          omega
        · rw [h0] at this ⊢
          simp at this
          omega
        · rw [h0] at this ⊢
          simp at this
          omega
end
end Go.Proofs.YtpggopdojhodaaaGreatDoor.L
namespace Go.Proofs.YtpggopdojhodaaaGreatDoor.L
open Go.RowKit
open Classical
set_option linter.unusedVariables false
structure Right (n : Net) (ss : List Signal) : Prop where
  g : Good n
  len : ss.length ≤ 60
  sig : ∀ s ∈ ss, signalP n s
theorem right_of_ok {n : Net} {ss : List Signal} (h : signalsOk n ss = ⟨0, 0⟩) : Right n ss := by
  unfold signalsOk at h
  split at h
  · simp at h
  rename_i h1
  split at h
  · simp at h
  rename_i h2
  split at h
  · simp at h
  rename_i h3
  refine ⟨good_of_ok (Classical.byContradiction fun e => h1 e), by omega, fun s hs => Classical.byContradiction fun hb => ?_⟩
  obtain ⟨i, hi⟩ := List.mem_iff_getElem?.1 hs
  exact h3 ⟨i, (List.getElem?_eq_some_iff.1 hi).1, s, hi, hb⟩
theorem pl_at {n : Net} {u : Nat} {z : Piece} (h : n.pieces[u]? = some z) : pl n (u : Int) = z.len := by
  unfold pl
  rw [Int.toNat_natCast, h]
  rfl
theorem pl_in {n : Net} (hg : Good n) {p : Int} (h0 : 0 ≤ p) (h1 : p ≤ (n.pieces.length : Int) - 1) : 1 ≤ pl n p ∧ pl n p ≤ 10000000 := by
  obtain ⟨u, rfl⟩ : ∃ u : Nat, p = u := ⟨p.toNat, by omega⟩
  have hu : u < n.pieces.length := by omega
  have := hg.piece _ (List.getElem_mem hu)
  rw [pl_at (List.getElem?_eq_getElem hu)]
  exact ⟨this.2.1, this.2.2.1⟩
theorem sig_in {n : Net} {ss : List Signal} (hr : Right n ss) {b : Nat} {s : Signal} (h : ss[b]? = some s) : stepP n.pieces.length ⟨s.piece, s.way⟩ ∧ 1 ≤ s.at_ ∧ s.at_ ≤ pl n s.piece - 1 ∧ pl n s.piece ≤ 10000000 := by
  obtain ⟨_, h1, h2, p, h3, h4, h5⟩ := hr.sig _ (mem_of_get h)
  have hp := pl_in hr.g h1.1 h1.2
  have : pl n s.piece = p.len := by
    obtain ⟨u, hu⟩ : ∃ u : Nat, s.piece = u := ⟨s.piece.toNat, by omega⟩
    rw [hu] at h3 ⊢
    rw [Int.toNat_natCast] at h3
    exact pl_at h3
  exact ⟨⟨h1, h2⟩, h4, by omega, hp.2⟩
noncomputable def firstTo (n : Net) (ss : List Signal) (p way far : Int) (k : Nat) : Option Nat := pick ss (fitsW n p way far) (aheadW n p way) k
noncomputable def lastTo (n : Net) (ss : List Signal) (p back : Int) (k : Nat) : Option Nat := pick ss (fitsB p back) (aheadB n p back) k
theorem firstTo_lt {n : Net} {ss : List Signal} {p way far : Int} {k b : Nat} (h : firstTo n ss p way far k = some b) : b < k ∧ b < ss.length ∧ ∃ s, ss[b]? = some s ∧ s.piece = p ∧ s.way = way ∧ far < farOf n p s.at_ way := pick_lt h
theorem lastTo_lt {n : Net} {ss : List Signal} {p back : Int} {k b : Nat} (h : lastTo n ss p back k = some b) : b < k ∧ b < ss.length ∧ ∃ s, ss[b]? = some s ∧ s.piece = p ∧ s.way = back := pick_lt h
theorem firstTo_not {n : Net} {ss : List Signal} {p way far : Int} {k : Nat} {s : Signal} (hs : ss[k]? = some s) (h : ¬ (s.piece = p ∧ s.way = way ∧ far < farOf n p s.at_ way)) : firstTo n ss p way far (k + 1) = firstTo n ss p way far k := pick_not hs h
theorem lastTo_not {n : Net} {ss : List Signal} {p back : Int} {k : Nat} {s : Signal} (hs : ss[k]? = some s) (h : ¬ (s.piece = p ∧ s.way = back)) : lastTo n ss p back (k + 1) = lastTo n ss p back k := pick_not hs h
theorem firstTo_one {n : Net} {ss : List Signal} {p way far : Int} {k : Nat} {s : Signal} (hs : ss[k]? = some s) (h : s.piece = p ∧ s.way = way ∧ far < farOf n p s.at_ way) (h0 : firstTo n ss p way far k = none) : firstTo n ss p way far (k + 1) = some k :=
  pick_yes hs h (fun b t hb => by unfold firstTo at h0; rw [h0] at hb; cases hb)
theorem lastTo_one {n : Net} {ss : List Signal} {p back : Int} {k : Nat} {s : Signal} (hs : ss[k]? = some s) (h : s.piece = p ∧ s.way = back) (h0 : lastTo n ss p back k = none) : lastTo n ss p back (k + 1) = some k :=
  pick_yes hs h (fun b t hb => by unfold lastTo at h0; rw [h0] at hb; cases hb)
theorem firstTo_new {n : Net} {ss : List Signal} {p way far : Int} {k b : Nat} {s t : Signal} (hs : ss[k]? = some s) (h : s.piece = p ∧ s.way = way ∧ far < farOf n p s.at_ way) (h0 : firstTo n ss p way far k = some b) (ht : ss[b]? = some t) (hl : farOf n p s.at_ way < farOf n p t.at_ way) : firstTo n ss p way far (k + 1) = some k :=
  pick_yes hs h (fun b' t' hb ht' => by
    unfold firstTo at h0
    rw [h0] at hb
    obtain rfl := Option.some.inj hb
    rw [ht] at ht'
    obtain rfl := Option.some.inj ht'
    exact hl)
theorem lastTo_new {n : Net} {ss : List Signal} {p back : Int} {k b : Nat} {s t : Signal} (hs : ss[k]? = some s) (h : s.piece = p ∧ s.way = back) (h0 : lastTo n ss p back k = some b) (ht : ss[b]? = some t) (hl : farOf n p t.at_ back < farOf n p s.at_ back) : lastTo n ss p back (k + 1) = some k :=
  pick_yes hs h (fun b' t' hb ht' => by
    unfold lastTo at h0
    rw [h0] at hb
    obtain rfl := Option.some.inj hb
    rw [ht] at ht'
    obtain rfl := Option.some.inj ht'
    exact hl)
theorem firstTo_old {n : Net} {ss : List Signal} {p way far : Int} {k b : Nat} {s t : Signal} (hs : ss[k]? = some s) (h0 : firstTo n ss p way far k = some b) (ht : ss[b]? = some t) (hl : ¬ farOf n p s.at_ way < farOf n p t.at_ way) : firstTo n ss p way far (k + 1) = some b := pick_old hs h0 ht hl
theorem lastTo_old {n : Net} {ss : List Signal} {p back : Int} {k b : Nat} {s t : Signal} (hs : ss[k]? = some s) (h0 : lastTo n ss p back k = some b) (ht : ss[b]? = some t) (hl : ¬ farOf n p t.at_ back < farOf n p s.at_ back) : lastTo n ss p back (k + 1) = some b := pick_old hs h0 ht hl
theorem onum_some (b : Nat) : onum (some b) = (b : Int) := rfl
theorem onum_none : onum none = -1 := rfl
theorem far_fwd (n : Net) (p a : Int) : farOf n p a 1 = a := by unfold farOf; rw [if_pos rfl]
theorem far_back (n : Net) (p a : Int) : farOf n p a (-1) = pl n p - a := by unfold farOf; rw [if_neg (by decide)]
def tilOf (n : Net) (p far left : Int) : Int := if far + left ≤ pl n p then far + left else pl n p
section
variable {n : Net} {m : Nat} {p way far left : Int} {j k : Nat} {x : Joint}
theorem beyond_none (h : left ≤ 0) : beyond n m p way far left = [] := by
  cases m with
  | zero => rfl
  | succ m => rw [beyond, if_pos h]
theorem beyond_last (h : ¬ left ≤ 0) (ha : atJ n (headE p way) = (j, k)) (hx : jt n j = x) (hs : left - (tilOf n p far left - far) = 0 ∨ ¬ x.kind = 2) : beyond n (m + 1) p way far left = [partN n p way far (tilOf n p far left)] := by
  rw [beyond, if_neg h, ha]
  simp only [hx]
  exact if_pos hs
theorem beyond_plain (h : ¬ left ≤ 0) (ha : atJ n (headE p way) = (j, k)) (hx : jt n j = x) (hs : x.kind = 2) :
    beyond n (m + 1) p way far left = partN n p way far (tilOf n p far left) :: beyond n m (en x (1 - k)).piece (wayOf (en x (1 - k))) 0 (left - (tilOf n p far left - far)) := by
  rw [beyond, if_neg h, ha]
  simp only [hx]
  by_cases h0 : left - (tilOf n p far left - far) = 0
  · have h1 : beyond n m (en x (1 - k)).piece (wayOf (en x (1 - k))) 0 (left - (tilOf n p far left - far)) = [] := beyond_none (by omega)
    rw [h1]
    exact if_pos (.inl h0)
  · exact if_neg (fun e => e.elim h0 (fun e => e hs))
theorem til_bounds (h0 : 0 ≤ far) (h1 : far < pl n p) (h : ¬ left ≤ 0) : far < tilOf n p far left ∧ tilOf n p far left ≤ pl n p ∧ tilOf n p far left - far ≤ left := by
  unfold tilOf
  split <;> omega
end
theorem beyond_len {n : Net} : ∀ (m : Nat) (p way far left : Int), 0 ≤ left → stepP n.pieces.length ⟨p, way⟩ → Good n → 0 ≤ far → far < pl n p → ((beyond n m p way far left).length : Int) ≤ left
  | 0, p, way, far, left, h, hs, hg, h0, h1 => by rw [show beyond n 0 p way far left = [] from rfl]; simpa using h
  | m + 1, p, way, far, left, h, hs, hg, h0, h1 => by
    by_cases hl : left ≤ 0
    · rw [beyond_none hl]
      simpa using h
    obtain ⟨j, k, x, hat, h2, h3, h4, h5, h6⟩ := at_get hg (head_ok hs)
    have hb := til_bounds (left := left) h0 h1 hl
    by_cases h7 : x.kind = 2
    · rw [beyond_plain hl h2 h3 h7]
      have hl2 : x.ends.length = 2 := by have := h4.2.1; omega
      have he := en_ok (k := 1 - k) h4 (by omega)
      have hp := pl_in hg he.1.1 he.1.2
      have := beyond_len (n := n) m (en x (1 - k)).piece (wayOf (en x (1 - k))) 0 (left - (tilOf n p far left - far)) (by omega) (step_of_end he) hg (by omega) (by omega)
      rw [List.length_cons]
      omega
    · rw [beyond_last hl h2 h3 (.inr h7)]
      simp
      omega
section
variable {n : Net} {ss : List Signal} {lies : List Lie} {a : Int} {m : Nat} {seen : List End} {fl : List Flank} {e : End} {j k : Nat} {x : Joint}
def backOf (e : End) : Int := if e.side = 0 then -1 else 1
theorem flankF_met (h : e ∈ seen) : flankF n ss lies a m (seen, fl) e = (seen, fl) := by
  cases m with
  | zero => rfl
  | succ m => rw [flankF, if_pos h]
theorem flankF_sig {b : Nat} (h : ¬ e ∈ seen) (hb : lastTo n ss e.piece (backOf e) ss.length = some b) : flankF n ss lies a (m + 1) (seen, fl) e = (seen ++ [e], fl ++ [⟨a, 2, b, 0⟩]) := by
  rw [flankF, if_neg h]
  have : lastS n ss e.piece (if e.side = 0 then -1 else 1) = some b := hb
  simp only [this]
theorem flankF_look (h : ¬ e ∈ seen) (hb : lastTo n ss e.piece (backOf e) ss.length = none) (ha : atJ n ⟨e.piece, 1 - e.side⟩ = (j, k)) (hx : jt n j = x) :
    flankF n ss lies a (m + 1) (seen, fl) e = (if x.kind = 1 then (seen ++ [e], fl ++ [⟨a, 1, j, 0⟩])
      else if x.kind = 3 then
        if k = 0 then flankF n ss lies a m (flankF n ss lies a m (seen ++ [e], fl) (en x 1)) (en x 2)
        else if (⟨j, k⟩ : Lie) ∈ lies then (seen ++ [e], fl ++ [⟨a, 4, j, 0⟩])
        else (seen ++ [e], fl ++ [⟨a, 3, j, 3 - k⟩])
      else flankF n ss lies a m (seen ++ [e], fl) ((across x k).headD ⟨0, 0⟩)) := by
  rw [flankF, if_neg h]
  have : lastS n ss e.piece (if e.side = 0 then -1 else 1) = none := hb
  simp only [this, ha, hx]
theorem flankF_app : ∀ (m : Nat) (seen : List End) (fl : List Flank) (e : End), flankF n ss lies a m (seen, fl) e = ((flankF n ss lies a m (seen, []) e).1, fl ++ (flankF n ss lies a m (seen, []) e).2)
  | 0, seen, fl, e => by simp [flankF]
  | m + 1, seen, fl, e => by
    by_cases h : e ∈ seen
    · rw [flankF_met h, flankF_met h]
      simp
    cases hb : lastTo n ss e.piece (backOf e) ss.length with
    | some b =>
      rw [flankF_sig h hb, flankF_sig h hb]
      simp
    | none =>
      obtain ⟨j, k, ha⟩ : ∃ j k, atJ n ⟨e.piece, 1 - e.side⟩ = (j, k) := ⟨_, _, rfl⟩
      rw [flankF_look h hb ha rfl, flankF_look h hb ha rfl]
      split
      · simp
      split
      · split
        · have h1 := flankF_app m (seen ++ [e]) fl (en (jt n j) 1)
          rw [h1]
          have h2 := flankF_app m (flankF n ss lies a m (seen ++ [e], []) (en (jt n j) 1)).1 (fl ++ (flankF n ss lies a m (seen ++ [e], []) (en (jt n j) 1)).2) (en (jt n j) 2)
          have h3 := flankF_app m (flankF n ss lies a m (seen ++ [e], []) (en (jt n j) 1)).1 (flankF n ss lies a m (seen ++ [e], []) (en (jt n j) 1)).2 (en (jt n j) 2)
          rw [h2]
          have h4 : flankF n ss lies a m (flankF n ss lies a m (seen ++ [e], []) (en (jt n j) 1)) (en (jt n j) 2) = flankF n ss lies a m ((flankF n ss lies a m (seen ++ [e], []) (en (jt n j) 1)).1, (flankF n ss lies a m (seen ++ [e], []) (en (jt n j) 1)).2) (en (jt n j) 2) := rfl
          rw [h4, h3]
          simp
        · split <;> simp
      · exact flankF_app m _ _ _
end
noncomputable def flanksTo (n : Net) (ss : List Signal) (lies : List Lie) (i : Nat) : List Flank := ((lies.take i).map (flanksAt n ss lies)).flatten
theorem flanksTo_zero (n : Net) (ss : List Signal) (lies : List Lie) : flanksTo n ss lies 0 = [] := by simp [flanksTo]
theorem flanksTo_all (n : Net) (ss : List Signal) (lies : List Lie) : flanksTo n ss lies lies.length = flanksOf n ss lies := by simp [flanksTo, flanksOf]
theorem flanksTo_succ {n : Net} {ss : List Signal} {lies : List Lie} {i : Nat} {l : Lie} (h : lies[i]? = some l) : flanksTo n ss lies (i + 1) = flanksTo n ss lies i ++ flanksAt n ss lies l := by
  unfold flanksTo
  obtain ⟨hi, rfl⟩ := List.getElem?_eq_some_iff.1 h
  rw [List.take_succ_eq_append_getElem hi, List.map_append, List.flatten_append]
  simp only [List.map_cons, List.map_nil, List.flatten_cons, List.flatten_nil, List.append_nil]
theorem flanksAt_len {n : Net} {ss : List Signal} {lies : List Lie} {l : Lie} (hg : Good n) (hl : lieP n l) : (flanksAt n ss lies l).length ≤ 2 * n.pieces.length := by
  obtain ⟨j, h1, h2, h3, h4⟩ := hl
  have hj : jt n j = n.joints[j] := by unfold jt; rw [List.getD_eq_getElem?_getD, List.getElem?_eq_getElem h2]; rfl
  have hP := hg.joint _ (List.getElem_mem h2)
  rw [← hj] at hP
  have hlen : (jt n j).ends.length = 3 := by have := hP.2.1; omega
  unfold flanksAt
  have e1 : l.joint.toNat = j := by omega
  have he : endP n.pieces.length (en (jt n l.joint.toNat) (3 - l.lie).toNat) := by
    rw [e1]
    exact en_ok hP (by omega)
  have hs := flankF_seen (ss := ss) (lies := lies) (a := l.joint) hg (2 * n.pieces.length + 1) ([], []) _ he (by simp) (by simp)
  have hl := flankF_len (n := n) (ss := ss) (lies := lies) (a := l.joint) (2 * n.pieces.length + 1) ([], []) (en (jt n l.joint.toNat) (3 - l.lie).toNat)
  have hb := ends_bound hs.1 hs.2.1
  simp only [List.length_nil] at hl
  omega
theorem flanksTo_len {n : Net} {ss : List Signal} {lies : List Lie} (hg : Good n) (hl : ∀ l ∈ lies, lieP n l) : ∀ i, (flanksTo n ss lies i).length ≤ i * (2 * n.pieces.length)
  | 0 => by rw [flanksTo_zero]; simp
  | i + 1 => by
    have ih := flanksTo_len (n := n) (ss := ss) hg hl i
    rw [Nat.succ_mul]
    cases h : lies[i]? with
    | none =>
      have : lies.length ≤ i := by rw [List.getElem?_eq_none_iff] at h; exact h
      have h1 : flanksTo n ss lies (i + 1) = flanksTo n ss lies i := by
        have a1 : lies.take (i + 1) = lies := List.take_of_length_le (by omega)
        have a2 : lies.take i = lies := List.take_of_length_le this
        unfold flanksTo
        rw [a1, a2]
      rw [h1]
      omega
    | some l =>
      rw [flanksTo_succ h, List.length_append]
      have := flanksAt_len (ss := ss) (lies := lies) hg (hl l (mem_of_get h))
      omega
theorem find_hit {α : Type} {f : α → Bool} : ∀ {l : List α} {i : Nat} {x : α}, l[i]? = some x → f x = true → (∀ j y, j < i → l[j]? = some y → f y = false) → l.find? f = some x
  | [], _, _, h, _, _ => by simp at h
  | a :: l, 0, x, h, hf, _ => by
    simp at h
    subst h
    simp [hf]
  | a :: l, i + 1, x, h, hf, hn => by
    rw [List.getElem?_cons_succ] at h
    have ha := hn 0 a (by omega) rfl
    rw [List.find?_cons, ha]
    exact find_hit h hf (fun j y hj hy => hn (j + 1) y (by omega) (by rw [List.getElem?_cons_succ]; exact hy))
theorem addLie_hit {lies : List Lie} {i j : Nat} {l : Int} {x : Lie} (h : lies[i]? = some x) (hj : x.joint = j) (hn : ∀ q y, q < i → lies[q]? = some y → ¬ y.joint = j) : addLie lies j l = if x.lie = l then some lies else none := by
  unfold addLie
  rw [find_hit (f := fun x => eqv x.joint (j : Int)) h (eqv_true hj) (fun q y hq hy => eqv_false (hn q y hq hy))]
theorem addLie_miss {lies : List Lie} {j : Nat} {l : Int} (hn : ∀ (q : Nat) (y : Lie), lies[q]? = some y → ¬ y.joint = j) : addLie lies j l = some (lies ++ [⟨j, l⟩]) := by
  unfold addLie
  have : lies.find? (fun x => eqv x.joint (j : Int)) = none := by
    rw [List.find?_eq_none]
    intro x hx
    obtain ⟨q, hq⟩ := List.mem_iff_getElem?.1 hx
    rw [eqv_false (hn q x hq)]
    decide
  rw [this]
theorem addLie_ok {n : Net} {lies q : List Lie} {j : Nat} {l : Int} (h : addLie lies j l = some q) (hl : ∀ x ∈ lies, lieP n x) (hj : j < n.joints.length) (hk : (jt n j).kind = 3) (hw : l = 1 ∨ l = 2) : (∀ x ∈ q, lieP n x) ∧ q.length ≤ lies.length + 1 := by
  unfold addLie at h
  split at h
  · split at h
    · obtain rfl := Option.some.inj h
      exact ⟨hl, by omega⟩
    · cases h
  · obtain rfl := Option.some.inj h
    refine ⟨fun x hx => ?_, by simp⟩
    rcases List.mem_append.1 hx with hx | hx
    · exact hl x hx
    · rw [List.mem_singleton.1 hx]
      exact ⟨j, rfl, hj, hk, hw⟩
theorem lieAt_ok {x : Joint} {k i : Nat} {m : Nat} (h : jointP m x) (hk : x.kind = 3) (hl : k < x.ends.length) (hi : i < (across x k).length) : lieAt k i = 1 ∨ lieAt k i = 2 := by
  have h3 : x.ends.length = 3 := by have := h.2.1; omega
  unfold across at hi
  rw [if_neg (by omega), if_pos hk] at hi
  unfold lieAt
  split
  · rename_i h0
    rw [if_pos h0] at hi
    simp at hi
    omega
  · rename_i h0
    omega
theorem RInv.start (n : Net) (ss : List Signal) (i : Nat) : RInv n ss (startR i) := ⟨by simp [startR], by simp [startR], rfl, by simp [startR], by simp [startR], by simp [startR], rfl, rfl⟩
theorem RInv.bound {n : Net} {ss : List Signal} {r : Route} (h : RInv n ss r) : r.steps.length ≤ 2 * n.pieces.length := steps_bound h.nodup h.step
theorem RInv.kid {n : Net} {ss : List Signal} {r q : Route} {p way far b : Int} {x : Joint} {j k i : Nat} (h : RInv n ss r) (hs : stepP n.pieces.length ⟨p, way⟩) (hr : ¬ (⟨p, way⟩ : Step) ∈ r.steps)
    (hx : jt n j = x) (hj : j < n.joints.length) (hP : jointP n.pieces.length x) (hk : k < x.ends.length) (hi : i < (across x k).length) (hq : goOn (r.on n p way far b) x j k i = some q) : RInv n ss q ∧ q.steps = r.steps ++ [⟨p, way⟩] := by
  have hn := nodup_snoc h.nodup hr
  have hst : ∀ s ∈ r.steps ++ [(⟨p, way⟩ : Step)], stepP n.pieces.length s := fun s hm => by
    rcases List.mem_append.1 hm with hm | hm
    · exact h.step s hm
    · rw [List.mem_singleton.1 hm]
      exact hs
  unfold goOn at hq
  split at hq
  · rename_i h3
    rw [Option.map_eq_some_iff] at hq
    obtain ⟨l, hl, rfl⟩ := hq
    have h1 := addLie_ok (n := n) hl h.lies hj (by rw [hx]; exact h3) (lieAt_ok hP h3 hk hi)
    refine ⟨⟨hn, hst, ?_, ?_, h1.1, ?_, h.over, h.flanks⟩, rfl⟩
    · show (r.parts ++ [_]).length = (r.steps ++ [_]).length
      simp [h.parts]
    · show l.length ≤ (r.steps ++ [_]).length
      have := h1.2
      have := h.liesN
      have hl2 : (r.on n p way far b).lies.length = r.lies.length := rfl
      simp
      omega
    · show r.crosses.length ≤ (r.steps ++ [_]).length
      have := h.crosses
      simp
      omega
  split at hq
  · obtain rfl := Option.some.inj hq
    refine ⟨⟨hn, hst, ?_, ?_, h.lies, ?_, h.over, h.flanks⟩, rfl⟩
    · show (r.parts ++ [_]).length = (r.steps ++ [_]).length
      simp [h.parts]
    · show r.lies.length ≤ (r.steps ++ [_]).length
      have := h.liesN
      simp
      omega
    · show (r.crosses ++ [_]).length ≤ (r.steps ++ [_]).length
      have := h.crosses
      simp
      omega
  · obtain rfl := Option.some.inj hq
    refine ⟨⟨hn, hst, ?_, ?_, h.lies, ?_, h.over, h.flanks⟩, rfl⟩
    · show (r.parts ++ [_]).length = (r.steps ++ [_]).length
      simp [h.parts]
    · show r.lies.length ≤ (r.steps ++ [_]).length
      have := h.liesN
      simp
      omega
    · show r.crosses.length ≤ (r.steps ++ [_]).length
      have := h.crosses
      simp
      omega
section
variable {go : St → Route → Int → Int → Int → St} {r : Route} {x : Joint} {j k : Nat} {l : List End} {st : St}
theorem kidsTo_skip {i : Nat} {e : End} (he : l[i]? = some e) (hq : goOn r x j k i = none) : kidsTo go r x j k l st (i + 1) = kidsTo go r x j k l st i := by
  rw [kidsTo]
  simp only [he, hq]
theorem kidsTo_go {i : Nat} {e : End} {q : Route} (he : l[i]? = some e) (hq : goOn r x j k i = some q) : kidsTo go r x j k l st (i + 1) = go (kidsTo go r x j k l st i) q e.piece (wayOf e) 0 := by
  rw [kidsTo]
  simp only [he, hq]
end
theorem allF_succ {n : Net} {ss : List Signal} {ov : Int} {k : Nat} {s : Signal} (h : ss[k]? = some s) : allF n ss ov (k + 1) = walkF n ss ov (2 * n.pieces.length + 1) (allF n ss ov k) (startR k) s.piece s.way (farOf n s.piece s.at_ s.way) := by
  rw [allF]
  simp only [h]
theorem allF_bounds {n : Net} {ss : List Signal} {ov : Int} : ∀ k, (allF n ss ov k).1.length ≤ 301 ∧ (allF n ss ov k).2 ≤ 20003 + 2 * n.pieces.length + k
  | 0 => ⟨by simp [allF], by simp [allF]⟩
  | k + 1 => by
    obtain ⟨h1, h2⟩ := allF_bounds (n := n) (ss := ss) (ov := ov) k
    cases h : ss[k]? with
    | none =>
      rw [allF]
      simp only [h]
      exact ⟨h1, by omega⟩
    | some s =>
      rw [allF_succ h]
      have h3 := walkF_tries (n := n) (ss := ss) (ov := ov) (2 * n.pieces.length + 1) (allF n ss ov k) (startR k) s.piece s.way (farOf n s.piece s.at_ s.way)
      exact ⟨walkF_len _ _ _ _ _ _ h1, by omega⟩
end Go.Proofs.YtpggopdojhodaaaGreatDoor.L
namespace Go.Proofs.YtpggopdojhodaaaGreatDoor.L
open Go.RowKit
open Classical
set_option linter.unusedVariables false
theorem partN_in {n : Net} {p way a b : Int} (h0 : 0 ≤ a) (h1 : a ≤ b) (h2 : b ≤ pl n p) (hw : way = 1 ∨ way = -1) :
    (partN n p way a b).piece = p ∧ 0 ≤ (partN n p way a b).frm ∧ (partN n p way a b).frm ≤ (partN n p way a b).til ∧ (partN n p way a b).til ≤ pl n p ∧ (partN n p way a b).til - (partN n p way a b).frm = b - a := by
  unfold partN
  rcases hw with rfl | rfl
  · rw [if_pos rfl]
    exact ⟨rfl, h0, h1, h2, rfl⟩
  · rw [if_neg (by decide)]
    refine ⟨rfl, ?_, ?_, ?_, ?_⟩ <;> simp only <;> omega
structure Drv (n : Net) (ss : List Signal) (r : Route) (s0 : Signal) (p way far : Int) : Prop where
  len : r.parts.length = r.steps.length
  at0 : r.steps = [] → p = s0.piece ∧ way = s0.way ∧ far = farOf n p s0.at_ way
  far0 : ¬ r.steps = [] → far = 0
  part : ∀ (i : Nat) (x : Part) (s : Step), r.parts[i]? = some x → r.steps[i]? = some s → (s.way = 1 ∨ s.way = -1) ∧ x.piece = s.piece ∧ 0 ≤ x.frm ∧ x.frm ≤ x.til ∧ x.til ≤ pl n x.piece ∧ (0 < i → x.til - x.frm = pl n x.piece)
  first : ∀ (x : Part) (s : Step), r.parts[0]? = some x → r.steps[0]? = some s → s.piece = s0.piece ∧ s.way = s0.way ∧ (if s.way = -1 then x.til else x.frm) = s0.at_
  over : r.over = []
structure Rt (n : Net) (ss : List Signal) (ov : Int) (r : Route) : Prop where
  frm : ∃ (i : Nat) (s0 : Signal), r.frm = i ∧ ss[i]? = some s0 ∧ ∀ (x : Part) (s : Step), r.parts[0]? = some x → r.steps[0]? = some s → s.piece = s0.piece ∧ s.way = s0.way ∧ (if s.way = -1 then x.til else x.frm) = s0.at_
  len : r.parts.length = r.steps.length
  pos : 0 < r.steps.length
  part : ∀ (i : Nat) (x : Part) (s : Step), r.parts[i]? = some x → r.steps[i]? = some s → (s.way = 1 ∨ s.way = -1) ∧ x.piece = s.piece ∧ 0 ≤ x.frm ∧ x.frm ≤ x.til ∧ x.til ≤ pl n x.piece ∧ (0 < i → i + 1 < r.steps.length → x.til - x.frm = pl n x.piece)
  til : (r.til = -1 ∧ r.over = []) ∨ ∃ (b : Nat) (sb : Signal), r.til = b ∧ ss[b]? = some sb ∧ ∀ (x : Part) (s : Step), r.parts[r.steps.length - 1]? = some x → r.steps[r.steps.length - 1]? = some s → s.piece = sb.piece ∧ s.way = sb.way ∧ (if s.way = -1 then x.frm else x.til) = sb.at_
  over : (r.over.map (fun x => x.til - x.frm)).sum ≤ ov
  overN : (r.over.length : Int) ≤ ov
  stepP : ∀ s ∈ r.steps, stepP n.pieces.length s
  stepN : r.steps.length ≤ 2 * n.pieces.length + 1
  liesN : r.lies.length ≤ r.steps.length
  lies : ∀ l ∈ r.lies, lieP n l
  crosses : r.crosses.length ≤ r.steps.length
  flanks : r.flanks = flanksOf n ss r.lies
theorem getElem?_snoc {α : Type} {l : List α} {x y : α} {i : Nat} (h : (l ++ [x])[i]? = some y) : (i < l.length ∧ l[i]? = some y) ∨ (i = l.length ∧ y = x) := by
  by_cases hi : i < l.length
  · rw [List.getElem?_append_left hi] at h
    exact .inl ⟨hi, h⟩
  · rw [List.getElem?_append_right (by omega)] at h
    obtain ⟨h1, h2⟩ := List.getElem?_eq_some_iff.1 h
    simp only [List.length_singleton] at h1
    obtain rfl : i = l.length := by omega
    simp only [Nat.sub_self, List.getElem_cons_zero] at h2
    exact .inr ⟨rfl, h2.symm⟩
theorem nil_of_len {α : Type} {l : List α} (h : l.length = 0) : l = [] := List.eq_nil_of_length_eq_zero h
theorem beyond_sum {n : Net} : ∀ (m : Nat) (p way far left : Int), 0 ≤ left → stepP n.pieces.length ⟨p, way⟩ → Good n → 0 ≤ far → far < pl n p → ((beyond n m p way far left).map (fun x => x.til - x.frm)).sum ≤ left
  | 0, p, way, far, left, h, hs, hg, h0, h1 => by rw [show beyond n 0 p way far left = [] from rfl]; simpa using h
  | m + 1, p, way, far, left, h, hs, hg, h0, h1 => by
    by_cases hl : left ≤ 0
    · rw [beyond_none hl]
      simpa using h
    obtain ⟨j, k, x, hat, h2, h3, h4, h5, h6⟩ := at_get hg (head_ok hs)
    have hb := til_bounds (left := left) h0 h1 hl
    have hp := partN_in (a := far) (b := tilOf n p far left) h0 (by omega) hb.2.1 hs.2
    by_cases h7 : x.kind = 2
    · rw [beyond_plain hl h2 h3 h7]
      have hl2 : x.ends.length = 2 := by have := h4.2.1; omega
      have he := en_ok (k := 1 - k) h4 (by omega)
      have hq := pl_in hg he.1.1 he.1.2
      have := beyond_sum (n := n) m (en x (1 - k)).piece (wayOf (en x (1 - k))) 0 (left - (tilOf n p far left - far)) (by omega) (step_of_end he) hg (by omega) (by omega)
      rw [List.map_cons, List.sum_cons, hp.2.2.2.2]
      omega
    · rw [beyond_last hl h2 h3 (.inr h7)]
      simp only [List.map_cons, List.map_nil, List.sum_cons, List.sum_nil, hp.2.2.2.2]
      omega
section
variable {n : Net} {ss : List Signal} {ov : Int} {r : Route} {s0 : Signal} {p way far : Int}
theorem Drv.next (h : Drv n ss r s0 p way far) (hs : stepP n.pieces.length ⟨p, way⟩) (h0 : 0 ≤ far) {b : Int} (h1 : far ≤ b) (h2 : b ≤ pl n p) :
    (∀ (i : Nat) (x : Part) (s : Step), (r.on n p way far b).parts[i]? = some x → (r.on n p way far b).steps[i]? = some s → (s.way = 1 ∨ s.way = -1) ∧ x.piece = s.piece ∧ 0 ≤ x.frm ∧ x.frm ≤ x.til ∧ x.til ≤ pl n x.piece ∧ (0 < i → i < r.steps.length ∨ b = pl n p → x.til - x.frm = pl n x.piece)) ∧
    (∀ (x : Part) (s : Step), (r.on n p way far b).parts[0]? = some x → (r.on n p way far b).steps[0]? = some s → s.piece = s0.piece ∧ s.way = s0.way ∧ (if s.way = -1 then x.til else x.frm) = s0.at_) ∧ (r.on n p way far b).parts.length = (r.on n p way far b).steps.length := by
  have hp := partN_in (n := n) (p := p) (way := way) (a := far) (b := b) h0 h1 h2 hs.2
  refine ⟨fun i x s hx hst => ?_, fun x s hx hst => ?_, ?_⟩
  · rcases getElem?_snoc hx with ⟨i1, hx⟩ | ⟨i1, rfl⟩
    · rcases getElem?_snoc hst with ⟨i2, hst⟩ | ⟨i2, rfl⟩
      · have := h.part i x s hx hst
        exact ⟨this.1, this.2.1, this.2.2.1, this.2.2.2.1, this.2.2.2.2.1, fun hi _ => this.2.2.2.2.2 hi⟩
      · have := h.len
        omega
    · rcases getElem?_snoc hst with ⟨i2, hst⟩ | ⟨i2, rfl⟩
      · have := h.len
        omega
      · refine ⟨hs.2, hp.1, hp.2.1, hp.2.2.1, by rw [hp.1]; exact hp.2.2.2.1, fun hi ho => ?_⟩
        rw [hp.2.2.2.2, hp.1]
        have hf := h.far0 (fun e => by rw [e] at i2; simp at i2; omega)
        rcases ho with ho | ho <;> omega
  · rcases getElem?_snoc hx with ⟨i1, hx⟩ | ⟨i1, rfl⟩
    · rcases getElem?_snoc hst with ⟨i2, hst⟩ | ⟨i2, rfl⟩
      · exact h.first x s hx hst
      · have := h.len
        omega
    · rcases getElem?_snoc hst with ⟨i2, hst⟩ | ⟨i2, rfl⟩
      · have := h.len
        omega
      · obtain ⟨e1, e2, e3⟩ := h.at0 (nil_of_len i2.symm)
        refine ⟨e1, e2, ?_⟩
        show (if way = -1 then (partN n p way far b).til else (partN n p way far b).frm) = s0.at_
        rw [e3]
        rcases hs.2 with hw | hw
        · have hw : way = 1 := hw
          subst hw
          rw [far_fwd, if_neg (by decide)]
          rfl
        · have hw : way = -1 := hw
          subst hw
          rw [far_back, if_pos rfl]
          show pl n p - (pl n p - s0.at_) = s0.at_
          omega
  · show (r.parts ++ [_]).length = (r.steps ++ [_]).length
    rw [List.length_append, List.length_append, h.len]
    rfl
theorem Drv.kid (h : Drv n ss r s0 p way far) (hs : stepP n.pieces.length ⟨p, way⟩) (h0 : 0 ≤ far) (h1 : far ≤ pl n p) {x : Joint} {j k i : Nat} {q : Route} (hq : goOn (r.on n p way far (pl n p)) x j k i = some q) (p' way' : Int) : Drv n ss q s0 p' way' 0 ∧ q.frm = r.frm := by
  obtain ⟨a1, a2, a3⟩ := h.next hs h0 h1 (Int.le_refl _)
  have key : ∀ q : Route, q.steps = (r.on n p way far (pl n p)).steps → q.parts = (r.on n p way far (pl n p)).parts → q.over = r.over → Drv n ss q s0 p' way' 0 := fun q e1 e2 e3 =>
    ⟨by rw [e1, e2]; exact a3, fun e => by rw [e1] at e; exact absurd e (by simp [Route.on]), fun _ => rfl, fun i x s hx hst => by
      rw [e2] at hx
      rw [e1] at hst
      have := a1 i x s hx hst
      exact ⟨this.1, this.2.1, this.2.2.1, this.2.2.2.1, this.2.2.2.2.1, fun hi => this.2.2.2.2.2 hi (.inr rfl)⟩, fun x s hx hst => by
      rw [e2] at hx
      rw [e1] at hst
      exact a2 x s hx hst, by rw [e3]; exact h.over⟩
  unfold goOn at hq
  split at hq
  · rw [Option.map_eq_some_iff] at hq
    obtain ⟨l, hl, rfl⟩ := hq
    exact ⟨key _ rfl rfl rfl, rfl⟩
  split at hq
  · obtain rfl := Option.some.inj hq
    exact ⟨key _ rfl rfl rfl, rfl⟩
  · obtain rfl := Option.some.inj hq
    exact ⟨key _ rfl rfl rfl, rfl⟩
theorem last_on {n : Net} {r : Route} {p way far b : Int} (hl : r.parts.length = r.steps.length) {x : Part} {s : Step} (hx : (r.on n p way far b).parts[(r.on n p way far b).steps.length - 1]? = some x) (hst : (r.on n p way far b).steps[(r.on n p way far b).steps.length - 1]? = some s) : x = partN n p way far b ∧ s = ⟨p, way⟩ := by
  have hn : (r.on n p way far b).steps.length - 1 = r.steps.length := by show (r.steps ++ [_]).length - 1 = _; simp
  rw [hn] at hx hst
  constructor
  · rcases getElem?_snoc hx with ⟨i1, hx⟩ | ⟨i1, rfl⟩
    · omega
    · rfl
  · rcases getElem?_snoc hst with ⟨i1, hx⟩ | ⟨i1, rfl⟩
    · omega
    · rfl
theorem walkF_rt (hr : Right n ss) (hov : 0 ≤ ov) : ∀ (m : Nat) (st : St) (r : Route) (p way far : Int), stepP n.pieces.length ⟨p, way⟩ → 0 ≤ far → far < pl n p → RInv n ss r → Drv n ss r s0 p way far → (∃ i : Nat, r.frm = i ∧ ss[i]? = some s0) → (∀ q ∈ st.1, Rt n ss ov q) → ∀ q ∈ (walkF n ss ov m st r p way far).1, Rt n ss ov q
  | 0, st, r, p, way, far, hs, h0, h1, hi, hd, hf, hq => hq
  | m + 1, st, r, p, way, far, hs, h0, h1, hi, hd, hf, hq => by
    by_cases hfu : full (st.1, st.2 + 1)
    · rw [walkF_full hfu]
      exact hq
    cases hb : firstS n ss p way far with
    | some b =>
      rw [walkF_sig hfu hb]
      intro q hm
      rcases List.mem_append.1 hm with hm | hm
      · exact hq q hm
      rw [List.mem_singleton.1 hm]
      obtain ⟨_, hbl, sb, hsb, e1, e2, e3⟩ := firstTo_lt (k := ss.length) hb
      have hin := sig_in hr hsb
      have hsf : sigFar n ss b p way = farOf n p sb.at_ way := by unfold sigFar; rw [hsb]; rfl
      have hfb : farOf n p sb.at_ way < pl n p ∧ 0 ≤ farOf n p sb.at_ way := by
        rw [← e1]
        rcases hs.2 with hw | hw
        · have hw : way = 1 := hw
          rw [hw, far_fwd]
          omega
        · have hw : way = -1 := hw
          rw [hw, far_back]
          omega
      obtain ⟨a1, a2, a3⟩ := hd.next hs h0 (b := sigFar n ss b p way) (by omega) (by omega)
      obtain ⟨i, f1, f2⟩ := hf
      have hbo := hi.bound
      have hsl : (r.on n p way far (sigFar n ss b p way)).steps.length = r.steps.length + 1 := by show (r.steps ++ [_]).length = _; simp
      refine ⟨⟨i, s0, f1, f2, a2⟩, a3, by show 0 < (r.on n p way far (sigFar n ss b p way)).steps.length; omega, fun i x s hx hst => ?_, .inr ⟨b, sb, rfl, hsb, fun x s hx hst => ?_⟩, ?_, ?_, ?_, ?_, ?_, hi.lies, ?_, rfl⟩
      · have := a1 i x s hx hst
        exact ⟨this.1, this.2.1, this.2.2.1, this.2.2.2.1, this.2.2.2.2.1, fun hi hl => this.2.2.2.2.2 hi (.inl (by have hl : i + 1 < (r.on n p way far (sigFar n ss b p way)).steps.length := hl; omega))⟩
      · obtain ⟨rfl, rfl⟩ := last_on hd.len hx hst
        refine ⟨e1.symm, e2.symm, ?_⟩
        rw [hsf]
        rcases hs.2 with hw | hw
        · have hw : way = 1 := hw
          subst hw
          rw [far_fwd]
          rfl
        · have hw : way = -1 := hw
          subst hw
          rw [far_back]
          show pl n p - (pl n p - sb.at_) = sb.at_
          omega
      · exact beyond_sum _ _ _ _ _ hov hs hr.g (by omega) (by omega)
      · exact beyond_len _ _ _ _ _ hov hs hr.g (by omega) (by omega)
      · intro s hs'
        rcases List.mem_append.1 hs' with hs' | hs'
        · exact hi.step s hs'
        · rw [List.mem_singleton.1 hs']
          exact hs
      · show (r.on n p way far (sigFar n ss b p way)).steps.length ≤ _
        omega
      · show r.lies.length ≤ (r.on n p way far (sigFar n ss b p way)).steps.length
        have := hi.liesN
        omega
      · show r.crosses.length ≤ (r.on n p way far (sigFar n ss b p way)).steps.length
        have := hi.crosses
        omega
    | none =>
      by_cases hrn : (⟨p, way⟩ : Step) ∈ r.steps
      · rw [walkF_round hfu hb hrn]
        exact hq
      obtain ⟨j, k, x, hat, ha, hx, hP, hj, hk⟩ := at_get hr.g (head_ok hs)
      by_cases hk1 : x.kind = 1
      · rw [walkF_end hfu hb hrn ha hx hk1]
        intro q hm
        rcases List.mem_append.1 hm with hm | hm
        · exact hq q hm
        rw [List.mem_singleton.1 hm]
        obtain ⟨a1, a2, a3⟩ := hd.next hs h0 (b := pl n p) (by omega) (Int.le_refl _)
        obtain ⟨i, f1, f2⟩ := hf
        have hbo := hi.bound
        have hsl : (r.on n p way far (pl n p)).steps.length = r.steps.length + 1 := by show (r.steps ++ [_]).length = _; simp
        have hro : r.over = [] := hd.over
        refine ⟨⟨i, s0, f1, f2, a2⟩, a3, by show 0 < (r.on n p way far (pl n p)).steps.length; omega, fun i x s hx hst => ?_, .inl ⟨rfl, hro⟩, ?_, ?_, ?_, ?_, ?_, hi.lies, ?_, rfl⟩
        · have := a1 i x s hx hst
          exact ⟨this.1, this.2.1, this.2.2.1, this.2.2.2.1, this.2.2.2.2.1, fun hi hl => this.2.2.2.2.2 hi (.inr rfl)⟩
        · show (r.over.map (fun x => x.til - x.frm)).sum ≤ ov
          rw [hro]
          simpa using hov
        · show (r.over.length : Int) ≤ ov
          rw [hro]
          simpa using hov
        · intro s hs'
          rcases List.mem_append.1 hs' with hs' | hs'
          · exact hi.step s hs'
          · rw [List.mem_singleton.1 hs']
            exact hs
        · show (r.on n p way far (pl n p)).steps.length ≤ _
          omega
        · show r.lies.length ≤ (r.on n p way far (pl n p)).steps.length
          have := hi.liesN
          omega
        · show r.crosses.length ≤ (r.on n p way far (pl n p)).steps.length
          have := hi.crosses
          omega
      · rw [walkF_on hfu hb hrn ha hx hk1]
        refine kidsTo_inv (st := (st.1, st.2 + 1)) (fun s => ∀ q ∈ s.1, Rt n ss ov q) hq (fun i e q st' he hgo hst => ?_) _
        have hil := (List.getElem?_eq_some_iff.1 he).1
        have heP := across_ok hP hk (mem_of_get he)
        have hpe := pl_in hr.g heP.1.1 heP.1.2
        obtain ⟨b1, b2⟩ := hd.kid hs h0 (by omega) hgo e.piece (wayOf e)
        exact walkF_rt hr hov m st' q e.piece (wayOf e) 0 (step_of_end heP) (by omega) (by omega) (hi.kid hs hrn hx hj hP hk hil hgo).1 b1 (by rw [b2]; exact hf) hst
end
theorem allF_rt {n : Net} {ss : List Signal} {ov : Int} (hr : Right n ss) (hov : 0 ≤ ov) : ∀ k, ∀ q ∈ (allF n ss ov k).1, Rt n ss ov q
  | 0 => by simp [allF]
  | k + 1 => by
    have ih := allF_rt hr hov k
    cases h : ss[k]? with
    | none =>
      rw [allF]
      simp only [h]
      exact ih
    | some s =>
      rw [allF_succ h]
      obtain ⟨h1, h2, h3, h4⟩ := sig_in hr h
      have hfar : 0 ≤ farOf n s.piece s.at_ s.way ∧ farOf n s.piece s.at_ s.way < pl n s.piece := by
        rcases h1.2 with hw | hw
        · have hw : s.way = 1 := hw
          rw [hw, far_fwd]
          omega
        · have hw : s.way = -1 := hw
          rw [hw, far_back]
          omega
      exact walkF_rt (s0 := s) hr hov _ _ _ _ _ _ h1 hfar.1 hfar.2 (RInv.start n ss k) ⟨rfl, fun _ => ⟨rfl, rfl, rfl⟩, fun e => absurd rfl e, fun i x s hx => by simp [startR] at hx, fun x s hx => by simp [startR] at hx, rfl⟩ ⟨k, rfl, h⟩ ih
theorem routesF_rt {n : Net} {ss : List Signal} {ov : Int} {r : Route} (h : r ∈ routesF n ss ov) : Right n ss ∧ 0 ≤ ov ∧ ov ≤ 100000 ∧ Rt n ss ov r := by
  unfold routesF at h
  split at h
  · cases h
  rename_i hg
  have h1 : signalsOk n ss = ⟨0, 0⟩ := Classical.byContradiction fun e => hg (.inl e)
  have h2 : 0 ≤ ov ∧ ov ≤ 100000 := Classical.byContradiction fun e => hg (.inr e)
  split at h
  · cases h
  exact ⟨right_of_ok h1, h2.1, h2.2, allF_rt (right_of_ok h1) h2.1 _ r h⟩
theorem routesF_len (n : Net) (ss : List Signal) (ov : Int) : (routesF n ss ov).length ≤ 300 := by
  unfold routesF
  split
  · simp
  split
  · simp
  · rename_i h
    unfold full at h
    omega
theorem Rt.size {n : Net} {ss : List Signal} {ov : Int} {r : Route} (hr : Right n ss) (h : Rt n ss ov r) (ho : ov ≤ 100000) : r.steps.length ≤ 201 ∧ r.lies.length ≤ 201 ∧ r.crosses.length ≤ 201 ∧ r.parts.length ≤ 201 ∧ r.over.length ≤ 100000 ∧ r.flanks.length ≤ 40200 := by
  have h1 := h.stepN
  have h2 := h.liesN
  have h3 := h.crosses
  have h4 := h.len
  have h5 := h.overN
  have h6 := hr.g.le
  have h7 := flanksTo_len (ss := ss) hr.g h.lies r.lies.length
  rw [flanksTo_all, ← h.flanks] at h7
  have h8 : r.lies.length * (2 * n.pieces.length) ≤ 201 * 200 := Nat.mul_le_mul (by omega) (by omega)
  refine ⟨by omega, by omega, by omega, by omega, by omega, by omega⟩
end Go.Proofs.YtpggopdojhodaaaGreatDoor.L
namespace Go.Proofs.YtpggopdojhodaaaGreatDoor.L
open Go.RowKit
set_option linter.unusedVariables false
structure Keep (S : Nat → Prop) (w w' : World) : Prop where
  os : w'.os = w.os
  tape : w'.tape = w.tape
  output : w'.output = w.output
  size : w.heap.size ≤ w'.heap.size
  block : ∀ k, k < w.heap.size → ¬ S k → w'.heap[k]? = w.heap[k]?
namespace Keep
variable {S S' : Nat → Prop} {a b c w w1 w2 : World}
theorem refl (S : Nat → Prop) (w : World) : Keep S w w := ⟨rfl, rfl, rfl, Nat.le_refl _, fun _ _ _ => rfl⟩
theorem trans (h : Keep S a b) (k : Keep S' b c) (hs : ∀ x, x < a.heap.size → S' x → S x) : Keep S a c :=
  ⟨k.os.trans h.os, k.tape.trans h.tape, k.output.trans h.output, Nat.le_trans h.size k.size, fun i hi hn => (k.block i (Nat.lt_of_lt_of_le hi h.size) (fun e => hn (hs i hi e))).trans (h.block i hi hn)⟩
theorem mono (h : Keep S' a b) (hs : ∀ x, x < a.heap.size → S' x → S x) : Keep S a b :=
  ⟨h.os, h.tape, h.output, h.size, fun i hi hn => h.block i hi (fun e => hn (hs i hi e))⟩
theorem of_below (h : Below w.heap.size w w1) : Keep S w w1 := ⟨h.os, h.tape, h.output, h.size, fun k hk _ => h.block k hk⟩
theorem below (h : Keep S a b) (k : Below b.heap.size b c) : Keep S a c := h.trans (of_below (S := fun _ => False) k) (fun _ _ e => e.elim)
theorem to_below {B : Nat} (h : Keep S a b) (hB : B ≤ a.heap.size) (hs : ∀ k, k < B → ¬ S k) : Below B a b :=
  ⟨h.os, h.tape, h.output, h.size, fun k hk => h.block k (Nat.lt_of_lt_of_le hk hB) (hs k hk)⟩
theorem alloc (h : Keep S w w1) (o : Obj) : Keep S w (w1.alloc o) := h.below (below_alloc _ _)
theorem drew (h : Keep S w w1) : Keep S w w1.drew := ⟨h.os, h.tape, h.output, h.size, h.block⟩
theorem drewN (h : Keep S w w1) (n : Nat) : Keep S w (w1.drewN n) := ⟨h.os, h.tape, h.output, h.size, h.block⟩
theorem setCell (h : Keep S w w1) {p : Addr} (hp : p.block < w.heap.size → S p.block) (u : Value) : Keep S w (w1.setCell p u) := by
  refine h.trans (b := w1) (S' := fun k => k = p.block) ⟨rfl, rfl, rfl, ?_, fun k hk hn => Below.heap_setCell w1 p u k hn⟩ (fun x hx e => by subst e; exact hp hx)
  simp
theorem grown (h : Keep S w w1) {row : Option Nat} (hg : w1.grownBy w2 row) (hr : ∀ k, row = some k → k < w.heap.size → S k) : Keep S w w2 :=
  h.trans (S' := fun k => row = some k) ⟨hg.os, hg.tape, hg.output, hg.size, fun k hk hn => hg.block k hk (fun e => hn e.symm)⟩ (fun x hx e => hr x e hx)
theorem cell (h : Keep S w w1) {p : Addr} (hp : p.block < w.heap.size) (hn : ¬ S p.block) : w1.cell? p = w.cell? p := World.cell?_of_block (h.block _ hp hn)
theorem frozen (h : Keep S w w1) {p : Addr} (hp : p.block < w.heap.size) (hn : ¬ S p.block) : w1.frozen? p = w.frozen? p := World.frozen?_of_block (h.block _ hp hn)
end Keep
def Out (w : World) (S : Nat → Prop) (b : Nat) : Prop := b < w.heap.size ∧ ¬ S b
theorem Out.keep {w w1 : World} {S S' : Nat → Prop} {b : Nat} (h : Keep S w w1) (hs : ∀ x, x < w.heap.size → S' x → S x) (hb : Out w S b) : Out w1 S' b :=
  ⟨Nat.lt_of_lt_of_le hb.1 h.size, fun e => hb.2 (hs b hb.1 e)⟩
namespace Kn
variable {α : Type} {d : Kn α} {w w1 : World} {S S' : Nat → Prop}
theorem C_keep {A : Option Addr} {xs : List α} (hk : Keep S w w1) (hs : ∀ x, x < w.heap.size → S' x → S x) (h : d.C w (Out w S) A xs) : d.C w1 (Out w1 S') A xs :=
  C_mono (fun b hb => Out.keep hk hs hb) (C_move (fun b hb => hk.block b hb.1 hb.2) h)
theorem C_out {ok : Nat → Prop} {A : Option Addr} {xs : List α} (hn : ∀ b, ok b → b < w.heap.size → ¬ S b) (h : d.C w ok A xs) : d.C w (Out w S) A xs :=
  C_mono (fun b hb => ⟨hb.2, hn b hb.1 hb.2⟩) (C_bound h)
def Rw {α : Type} (d : Kn α) (e : Nat) (w : World) (ok : Nat → Prop) (v : Value) (xs : List α) : Prop :=
  ∃ inner, w.ownsRow 0 e d.sz v xs.length inner ∧ ∀ j x, xs[j]? = some x → d.K w ok x ((inner.drop (j * d.sz)).take d.sz)
variable {e : Nat} {ok ok' : Nat → Prop} {v : Value} {xs : List α}
theorem Rw.nil : d.Rw e w ok (.slice none 0 0) [] := ⟨[], World.ownsRow_nil w 0 e d.sz, by simp⟩
theorem Rw.lt (h : d.Rw e w ok v xs) : ∀ k, v.ownBlock = some k → k < w.heap.size := by
  obtain ⟨inner, ho, _⟩ := h
  exact fun k hk => (ho.lt k hk).2
theorem Rw.mono (hm : ∀ b, ok b → ok' b) (h : d.Rw e w ok v xs) : d.Rw e w ok' v xs := by
  obtain ⟨inner, ho, hi⟩ := h
  exact ⟨inner, ho, fun j x hj => d.K_mono hm (hi j x hj)⟩
theorem Rw.move (hv : ∀ k, v.ownBlock = some k → w1.heap[k]? = w.heap[k]?) (hm : ∀ b, ok b → w1.heap[b]? = w.heap[b]?) (h : d.Rw e w ok v xs) : d.Rw e w1 ok v xs := by
  obtain ⟨inner, ho, hi⟩ := h
  exact ⟨inner, own_move ho hv, fun j x hj => d.K_move hm (hi j x hj)⟩
theorem Rw.form (h : d.Rw e w ok v xs) : ∃ A c, v = .slice A xs.length c ∧ xs.length ≤ c ∧ xs.length ≤ 9223372036854775807 := by
  obtain ⟨inner, ho, _⟩ := h
  rcases ho.2 with ⟨rfl, h0⟩ | ⟨g, cap, cur, rfl, _, hh, hc, hm, _⟩
  · exact ⟨none, 0, by rw [h0], by omega, by omega⟩
  · simp only [maxLen] at hm
    exact ⟨_, cap, rfl, hc, by omega⟩
theorem Rw.C (h : d.Rw e w ok v xs) : ∃ A c, v = .slice A xs.length c ∧ xs.length ≤ c ∧ d.C w (fun b => ok b ∨ v.ownBlock = some b) A xs := by
  obtain ⟨A, c, rfl, hc, hm⟩ := h.form
  obtain ⟨inner, ho, hi⟩ := h
  refine ⟨A, c, rfl, hc, by simpa using hm, fun h0 => ?_⟩
  rcases ho.2 with ⟨he, h1⟩ | ⟨g, cap, cur, he, _, hh, _, _, _⟩
  · omega
  · injection he with he _ _
    subst he
    refine ⟨⟨g, 0, none⟩, rfl, .inr rfl, lt_of_get hh, fun j x hj => ?_⟩
    refine ⟨_, d.K_mono (fun b hb => .inl hb) (hi j x hj), fun i u hu => ?_⟩
    rw [List.getElem?_take] at hu
    split at hu
    · rw [List.getElem?_drop] at hu
      exact ho.cells (g := g) rfl _ u hu
    · cases hu
theorem Rw.snoc {v' : Value} {x : α} {cs : List Value} {inner : List Value} (ho' : w1.ownsRow 0 e d.sz v' (xs.length + 1) (inner ++ cs)) (hl : inner.length = xs.length * d.sz)
    (hi : ∀ j x, xs[j]? = some x → d.K w1 ok x ((inner.drop (j * d.sz)).take d.sz)) (hx : d.K w1 ok x cs) : d.Rw e w1 ok v' (xs ++ [x]) := by
  refine ⟨inner ++ cs, by rw [List.length_append]; exact ho', fun j y hj => ?_⟩
  by_cases hjl : j < xs.length
  · rw [List.getElem?_append_left hjl] at hj
    have hle : j * d.sz + d.sz ≤ xs.length * d.sz := by rw [← Nat.succ_mul]; exact Nat.mul_le_mul_right _ hjl
    rw [List.drop_append_of_le_length (by omega), List.take_append_of_le_length (by rw [List.length_drop]; omega)]
    exact hi j y hj
  · have hjl' := (List.getElem?_eq_some_iff.1 hj).1
    rw [List.length_append, List.length_singleton] at hjl'
    obtain rfl : j = xs.length := by omega
    rw [List.getElem?_append_right (Nat.le_refl _), Nat.sub_self] at hj
    obtain rfl := Option.some.inj hj
    rw [← hl, List.drop_left, List.take_of_length_le (by rw [d.K_len hx]; exact Nat.le_refl _)]
    exact hx
end Kn
end Go.Proofs.YtpggopdojhodaaaGreatDoor.L
namespace Go.Proofs.YtpggopdojhodaaaGreatDoor.L
open Go.RowKit
set_option linter.unusedVariables false
set_option linter.unusedSimpArgs false
def RetStr (s : ByteArray) (w : World) (e : Ending) (w' : World) : Prop := e = .returned (.string s) ∧ Below w.heap.size w w'
def decT (u : Nat) : ByteArray := ⟨(Lib.decDigits u).toArray⟩
theorem decT_cons {u m : Nat} {l : List UInt8} (hm : 0 < m) (h : Lib.decDigits u = Lib.decDigits m ++ l) :
    (m / 10 = 0 → Lib.decDigits u = UInt8.ofNat (48 + m % 10) :: l) ∧ (0 < m / 10 → Lib.decDigits u = Lib.decDigits (m / 10) ++ (UInt8.ofNat (48 + m % 10) :: l)) := by
  have e : Lib.decDigits m = if h : m < 10 then [UInt8.ofNat (48 + m)] else Lib.decDigits (m / 10) ++ [UInt8.ofNat (48 + m % 10)] := by rw [Lib.decDigits]
  rw [e] at h
  by_cases h10 : m < 10
  · rw [dif_pos h10] at h
    have h1 : m / 10 = 0 := by omega
    have h2 : m % 10 = m := by omega
    exact ⟨fun _ => by rw [h, h2]; rfl, fun e => by omega⟩
  · rw [dif_neg h10] at h
    exact ⟨fun e => by omega, fun _ => by rw [h, List.append_assoc]; rfl⟩
set_option maxRecDepth 100000 in
set_option maxHeartbeats 4000000 in
theorem l4decimal (u : Nat) (w : World) (h : u ≤ 1125899906842624) : Calls Tryz.prog 20 #[.int .i64 u] w (RetStr (decT u) w) := by
  by_cases h0 : u = 0
  · subst h0
    have HZ : Hid (decT 0 = ⟨#[48]⟩) := Lib.hid (by unfold decT; rw [Lib.decDigits, dif_pos (by omega)]; rfl)
    go_enter Tryz.func20, Tryz.ntmps20
    go_wp2
    go_ret
    exact ⟨by rw [HZ.out]; rfl, Below.refl _ _⟩
  have d0 : (((u : Nat) : Int) == 0) = false := by simp [h0]
  have d1 : decide (((u : Nat) : Int) < 0) = false := decide_eq_false (by omega)
  have hu : 0 < u := by omega
  clear h0
  go_enter Tryz.func20, Tryz.ntmps20
  go_wp2
  go_loopw [0, 4] (fun kv ov wr => ∃ (m : Nat) (s : ByteArray), m ≤ u ∧ kv = .int .i64 m ∧ ov = .string s ∧ s.size + m ≤ 1125899906842630 ∧ Hid ((m = 0 → Lib.decDigits u = s.data.toList) ∧ (0 < m → Lib.decDigits u = Lib.decDigits m ++ s.data.toList)) ∧ Below w.heap.size w wr) (fun kv _ _ => (intOf kv).toNat)
  case atStart => exact ⟨u, _, Nat.le_refl _, rfl, rfl, by show 0 + u ≤ _; omega, Lib.hid ⟨fun e => by omega, fun _ => by simp⟩, Below.refl _ _⟩
  case round =>
    obtain ⟨m, s, hmu, rfl, rfl, hs, HI, hb⟩ := hrel
    by_cases hlt : 0 < m
    · have d2 : decide ((0 : Int) < (m : Int)) = true := decide_eq_true (by omega)
      have hsz : s.size ≤ 1125899906842630 := by omega
      have hs1 : (strOfNums [48 + ((m : Int) % 10)]).size + s.size ≤ 9223372036854775807 := by rw [strOfNums_size]; simp only [List.length_singleton]; omega
      have hcv := run_convert_bytes_arg (P := Tryz.prog) (wr.alloc (.cells #[.int .u8 (48 + (m : Int) % 10)] 5)) 59 5 Tryz.underlying59 Tryz.underlying5 wr.heap.size 0 1 1 [48 + (m : Int) % 10] rfl (fun i hi => by
        obtain rfl : i = 0 := by omega
        simp) 9 Tryz.underlying9
      have HZ : Hid ((strOfNums [48 + (m : Int) % 10] ++ s).size + m / 10 ≤ 1125899906842630) := Lib.hid (by
        have : (strOfNums [48 + (m : Int) % 10] ++ s).size = 1 + s.size := by rw [ByteArray.size_append, strOfNums_size]; rfl
        rw [this]
        omega)
      have HD : Hid ((strOfNums [48 + (m : Int) % 10] ++ s).data.toList = UInt8.ofNat (48 + m % 10) :: s.data.toList) := Lib.hid (by
        rw [ByteArray.data_append, Array.toList_append, strOfNums_data]
        have : (48 + (m : Int) % 10).toNat = 48 + m % 10 := by omega
        simp [this])
      have HN : Hid ((m / 10 = 0 → Lib.decDigits u = (strOfNums [48 + (m : Int) % 10] ++ s).data.toList) ∧ (0 < m / 10 → Lib.decDigits u = Lib.decDigits (m / 10) ++ (strOfNums [48 + (m : Int) % 10] ++ s).data.toList)) := Lib.hid (by
        rw [HD.out]
        exact decT_cons hlt (HI.out.2 hlt))
      clear HI
      go_wp2
      go_roundw
      case rel => exact ⟨m / 10, _, by omega, by go_num, rfl, HZ.out, HN, hb.alloc hb.size _⟩
      case measure => simp [intOf]; omega
    · obtain rfl : m = 0 := by omega
      have HF : Hid (decT u = s) := Lib.hid (by
        unfold decT
        rw [HI.out.1 rfl])
      go_wp2
      go_ret
      exact ⟨by rw [HF.out]; rfl, hb⟩
end Go.Proofs.YtpggopdojhodaaaGreatDoor.L
namespace Go.Proofs.YtpggopdojhodaaaGreatDoor.L
open Go.RowKit
open Classical
set_option linter.unusedVariables false
set_option linter.unusedSimpArgs false
def flankP (n : Net) (ss : List Signal) (f : Flank) : Prop := f.kind = 1 ∨ (f.kind = 2 ∧ ∃ b : Nat, f.of_ = b ∧ b < ss.length) ∨ (f.kind = 3 ∧ (∃ j : Nat, f.of_ = j ∧ j < n.joints.length ∧ (jt n j).kind = 3) ∧ (f.lie = 1 ∨ f.lie = 2)) ∨ f.kind = 4
section
variable {n : Net} {ss : List Signal} {lies : List Lie} {a : Int}
theorem flankF_ok (hg : Good n) : ∀ (m : Nat) (seen : List End) (fl : List Flank) (e : End), endP n.pieces.length e → (∀ f ∈ fl, flankP n ss f) → ∀ f ∈ (flankF n ss lies a m (seen, fl) e).2, flankP n ss f
  | 0, seen, fl, e, he, hf => hf
  | m + 1, seen, fl, e, he, hf => by
    have hone : ∀ g, flankP n ss g → ∀ f ∈ fl ++ [g], flankP n ss f := fun g hg f h => by
      rcases List.mem_append.1 h with h | h
      · exact hf f h
      · rw [List.mem_singleton.1 h]
        exact hg
    by_cases h : e ∈ seen
    · rw [flankF_met h]
      exact hf
    cases hb : lastTo n ss e.piece (backOf e) ss.length with
    | some b =>
      rw [flankF_sig h hb]
      exact hone _ (.inr (.inl ⟨rfl, b, rfl, (lastTo_lt hb).2.1⟩))
    | none =>
      obtain ⟨j, k, x, hat, h1, h2, h3, h4, h5⟩ := at_get hg (other_ok he)
      rw [flankF_look h hb h1 h2]
      by_cases k1 : x.kind = 1
      · rw [if_pos k1]
        exact hone _ (.inl rfl)
      rw [if_neg k1]
      by_cases k3 : x.kind = 3
      · rw [if_pos k3]
        have hlen : x.ends.length = 3 := by have := h3.2.1; omega
        by_cases k0 : k = 0
        · rw [if_pos k0]
          have A := flankF_ok hg m (seen ++ [e]) fl (en x 1) (en_ok h3 (by omega)) hf
          generalize flankF n ss lies a m (seen ++ [e], fl) (en x 1) = st at A ⊢
          obtain ⟨s1, f1⟩ := st
          exact flankF_ok hg m s1 f1 (en x 2) (en_ok h3 (by omega)) A
        · rw [if_neg k0]
          split
          · exact hone _ (.inr (.inr (.inr rfl)))
          · exact hone _ (.inr (.inr (.inl ⟨rfl, ⟨j, rfl, h4, by rw [h2]; exact k3⟩, by show (3 : Int) - k = 1 ∨ (3 : Int) - k = 2; omega⟩)))
      · rw [if_neg k3]
        exact flankF_ok hg m (seen ++ [e]) fl ((across x k).headD ⟨0, 0⟩) (head_across h3 h5 k1) hf
theorem flanksOf_ok (hg : Good n) (hl : ∀ l ∈ lies, lieP n l) : ∀ f ∈ flanksOf n ss lies, flankP n ss f := by
  intro f hf
  unfold flanksOf at hf
  obtain ⟨fs, hfs, hf⟩ := List.mem_flatten.1 hf
  obtain ⟨l, hlm, rfl⟩ := List.mem_map.1 hfs
  obtain ⟨j, hj, hjl, hk, hw⟩ := hl l hlm
  have hjp : jointP n.pieces.length (jt n j) := hg.joint _ (by
    unfold jt
    rw [List.getD_eq_getElem?_getD, List.getElem?_eq_getElem hjl]
    exact List.getElem_mem hjl)
  unfold flanksAt at hf
  refine flankF_ok hg _ [] [] _ ?_ (by simp) f hf
  rw [hj, Int.toNat_natCast]
  exact en_ok hjp (by have := hjp.2.1; omega)
end
def pName (n : Net) (p : Int) : ByteArray := ((n.pieces[p.toNat]?).map Piece.name).getD ByteArray.empty
def jName (n : Net) (p : Int) : ByteArray := ((n.joints[p.toNat]?).map Joint.name).getD ByteArray.empty
def sName (ss : List Signal) (p : Int) : ByteArray := ((ss[p.toNat]?).map Signal.name).getD ByteArray.empty
theorem pName_at {n : Net} {k : Nat} {x : Piece} (h : n.pieces[k]? = some x) : pName n k = x.name := by unfold pName; rw [Int.toNat_natCast, h]; rfl
theorem jName_at {n : Net} {k : Nat} {x : Joint} (h : n.joints[k]? = some x) : jName n k = x.name := by unfold jName; rw [Int.toNat_natCast, h]; rfl
theorem sName_at {ss : List Signal} {k : Nat} {x : Signal} (h : ss[k]? = some x) : sName ss k = x.name := by unfold sName; rw [Int.toNat_natCast, h]; rfl
structure Short (n : Net) (ss : List Signal) : Prop where
  p : ∀ k, (pName n k).size ≤ 20
  j : ∀ k, (jName n k).size ≤ 20
  s : ∀ k, (sName ss k).size ≤ 20
theorem short_of_ok {n : Net} {ss : List Signal} (h : signalsOk n ss = ⟨0, 0⟩) : Short n ss := by
  have hr := right_of_ok h
  have hn : netOk n = ⟨0, 0⟩ := by
    refine Classical.byContradiction fun hc => ?_
    unfold signalsOk at h
    rw [if_pos hc] at h
    simp at h
  refine ⟨fun k => ?_, fun k => ?_, fun k => ?_⟩
  · unfold pName
    cases hx : n.pieces[k.toNat]? with
    | none => exact Nat.zero_le _
    | some x => exact (hr.g.piece x (List.mem_of_getElem? hx)).1.2.1
  · unfold jName
    cases hx : n.joints[k.toNat]? with
    | none => exact Nat.zero_le _
    | some x =>
      show x.name.size ≤ 20
      unfold netOk at hn
      split at hn
      · simp at hn
      split at hn
      · simp at hn
      split at hn
      · simp at hn
      split at hn
      · simp at hn
      rename_i g4
      refine Classical.byContradiction fun hc => g4 ⟨k.toNat, (List.getElem?_eq_some_iff.1 hx).1, x, hx, ?_⟩
      by_cases hk : x.kind < 3
      · refine .inl ⟨hk, fun e => hc ?_⟩
        rw [e]
        exact Nat.zero_le _
      · exact .inr ⟨by omega, .inl (fun e => hc e.2.1)⟩
  · unfold sName
    cases hx : ss[k.toNat]? with
    | none => exact Nat.zero_le _
    | some x => exact (hr.sig x (List.mem_of_getElem? hx)).1.2.1
def catT {α : Type} (f : α → ByteArray) : List α → ByteArray
  | [] => ByteArray.empty
  | x :: l => f x ++ catT f l
theorem ba_nil (s : ByteArray) : s ++ ByteArray.empty = s := by
  apply ByteArray.ext
  rw [ByteArray.data_append]
  simp
theorem nil_ba (s : ByteArray) : ByteArray.empty ++ s = s := by
  apply ByteArray.ext
  rw [ByteArray.data_append]
  simp
theorem catT_snoc {α : Type} (f : α → ByteArray) : ∀ (l : List α) (k : Nat) (x : α), l[k]? = some x → catT f (l.take (k + 1)) = catT f (l.take k) ++ f x
  | [], _, _, h => by simp at h
  | y :: l, 0, x, h => by
    obtain rfl : y = x := by simpa using h
    rw [List.take_succ_cons, List.take_zero, List.take_zero]
    simp only [catT, nil_ba, ba_nil]
  | y :: l, k + 1, x, h => by
    rw [List.take_succ_cons, List.take_succ_cons, catT, catT, catT_snoc f l k x (by simpa using h), ByteArray.append_assoc]
theorem catT_size {α : Type} {f : α → ByteArray} {m : Nat} : ∀ {l : List α}, (∀ x ∈ l, (f x).size ≤ m) → (catT f l).size ≤ l.length * m
  | [], _ => by simp [catT]
  | x :: l, h => by
    have h1 := catT_size (f := f) (m := m) (l := l) (fun y hy => h y (by simp [hy]))
    have h2 := h x (by simp)
    rw [catT, ByteArray.size_append, List.length_cons, Nat.succ_mul]
    omega
def lieSign (l : Int) : ByteArray := if l = 1 then ⟨#[60]⟩ else ⟨#[62]⟩
def lieT (n : Net) (l : Lie) : ByteArray := ⟨#[32]⟩ ++ jName n l.joint ++ lieSign l.lie
def stepT (n : Net) (s : Step) : ByteArray := ⟨#[32]⟩ ++ pName n s.piece ++ (if s.way = -1 then ⟨#[45]⟩ else ⟨#[43]⟩)
def flankT (n : Net) (ss : List Signal) (f : Flank) : ByteArray :=
  if f.kind = 1 then ⟨#[32, 98, 117, 102, 102, 101, 114]⟩ else if f.kind = 2 then ⟨#[32]⟩ ++ sName ss f.of_ else if f.kind = 3 then lieT n ⟨f.of_, f.lie⟩ else ⟨#[32, 111, 112, 101, 110]⟩
def tilT (ss : List Signal) (r : Route) : ByteArray := if r.til < 0 then ⟨#[98, 117, 102, 102, 101, 114]⟩ else sName ss r.til
def headT (ss : List Signal) (r : Route) : ByteArray := sName ss r.frm ++ ⟨#[32, 45, 62, 32]⟩ ++ tilT ss r ++ ⟨#[32, 58]⟩
def liesT (n : Net) (r : Route) : ByteArray := (if 0 < r.lies.length then ⟨#[32, 108, 105, 101, 115]⟩ else ByteArray.empty) ++ catT (lieT n) r.lies
def flanksT (n : Net) (ss : List Signal) (r : Route) : ByteArray := (if 0 < r.flanks.length then ⟨#[32, 102, 108, 97, 110, 107, 115]⟩ else ByteArray.empty) ++ catT (flankT n ss) r.flanks
def lineT (n : Net) (ss : List Signal) (r : Route) : ByteArray := headT ss r ++ catT (stepT n) r.steps ++ liesT n r ++ flanksT n ss r ++ ⟨#[10]⟩
def listT (n : Net) (ss : List Signal) : List Route → Nat → ByteArray
  | [], _ => ByteArray.empty
  | r :: l, k => decT k ++ ⟨#[32]⟩ ++ lineT n ss r ++ listT n ss l (k + 1)
theorem listT_snoc (n : Net) (ss : List Signal) : ∀ (l : List Route) (k s : Nat) (x : Route), l[k]? = some x → listT n ss (l.take (k + 1)) s = listT n ss (l.take k) s ++ (decT (s + k) ++ ⟨#[32]⟩ ++ lineT n ss x)
  | [], _, _, _, h => by simp at h
  | y :: l, 0, s, x, h => by
    obtain rfl : y = x := by simpa using h
    rw [List.take_succ_cons, List.take_zero, List.take_zero]
    simp only [listT, nil_ba, ba_nil, Nat.add_zero]
  | y :: l, k + 1, s, x, h => by
    rw [List.take_succ_cons, List.take_succ_cons, listT, listT, listT_snoc n ss l k (s + 1) x (by simpa using h), ← ByteArray.append_assoc, show s + 1 + k = s + (k + 1) by omega]
structure Named (n : Net) (ss : List Signal) (r : Route) : Prop where
  frm : ∃ i : Nat, r.frm = i ∧ i < ss.length
  til : r.til = -1 ∨ ∃ i : Nat, r.til = i ∧ i < ss.length
  steps : ∀ s ∈ r.steps, stepP n.pieces.length s
  lies : ∀ l ∈ r.lies, lieP n l
  flanks : ∀ f ∈ r.flanks, flankP n ss f
  len : r.steps.length ≤ 201 ∧ r.lies.length ≤ 201 ∧ r.flanks.length ≤ 40200
theorem named_of {n : Net} {ss : List Signal} {ov : Int} {r : Route} (h : { r with over := [] } ∈ routesF n ss ov) : Named n ss r := by
  obtain ⟨hr, _, h1, hrt⟩ := routesF_rt h
  obtain ⟨i, s0, hi, hs, _⟩ := hrt.frm
  have hz := Rt.size hr hrt h1
  refine ⟨⟨i, hi, (List.getElem?_eq_some_iff.1 hs).1⟩, ?_, hrt.stepP, hrt.lies, ?_, hz.1, hz.2.1, hz.2.2.2.2.2⟩
  · rcases hrt.til with h | ⟨b, sb, hb, hsb, _⟩
    · exact .inl h.1
    · exact .inr ⟨b, hb, (List.getElem?_eq_some_iff.1 hsb).1⟩
  · have := hrt.flanks
    simp only at this
    rw [this]
    exact flanksOf_ok hr.g hrt.lies
section
variable {n : Net} {ss : List Signal}
theorem lieT_size (h : Short n ss) (l : Lie) : (lieT n l).size ≤ 30 := by
  have h1 := h.j l.joint
  have h2 : (lieSign l.lie).size = 1 := by unfold lieSign; split <;> rfl
  unfold lieT
  rw [ByteArray.size_append, ByteArray.size_append, h2]
  show 1 + _ + 1 ≤ 30
  omega
theorem stepT_size (h : Short n ss) (s : Step) : (stepT n s).size ≤ 30 := by
  have h1 := h.p s.piece
  have h2 : ((if s.way = -1 then ⟨#[45]⟩ else ⟨#[43]⟩ : ByteArray)).size = 1 := by split <;> rfl
  unfold stepT
  rw [ByteArray.size_append, ByteArray.size_append, h2]
  show 1 + _ + 1 ≤ 30
  omega
theorem flankT_size (h : Short n ss) (f : Flank) : (flankT n ss f).size ≤ 30 := by
  have h1 := h.s f.of_
  unfold flankT
  split
  · show 7 ≤ 30; omega
  split
  · rw [ByteArray.size_append]
    show 1 + _ ≤ 30
    omega
  split
  · exact lieT_size h _
  · show 5 ≤ 30; omega
theorem headT_size (h : Short n ss) (r : Route) : (headT ss r).size ≤ 60 := by
  have h1 := h.s r.frm
  have h2 : (tilT ss r).size ≤ 20 := by
    unfold tilT
    split
    · show 6 ≤ 20; omega
    · exact h.s _
  unfold headT
  rw [ByteArray.size_append, ByteArray.size_append, ByteArray.size_append]
  show _ + 4 + _ + 2 ≤ 60
  omega
theorem liesT_size (h : Short n ss) {r : Route} (hr : Named n ss r) : (liesT n r).size ≤ 7000 := by
  have h1 := catT_size (f := lieT n) (m := 30) (l := r.lies) (fun x _ => lieT_size h x)
  have h2 := hr.len.2.1
  have h3 : ((if 0 < r.lies.length then ⟨#[32, 108, 105, 101, 115]⟩ else ByteArray.empty : ByteArray)).size ≤ 5 := by split <;> decide
  unfold liesT
  rw [ByteArray.size_append]
  omega
theorem flanksT_size (h : Short n ss) {r : Route} (hr : Named n ss r) : (flanksT n ss r).size ≤ 1300000 := by
  have h1 := catT_size (f := flankT n ss) (m := 30) (l := r.flanks) (fun x _ => flankT_size h x)
  have h2 := hr.len.2.2
  have h3 : ((if 0 < r.flanks.length then ⟨#[32, 102, 108, 97, 110, 107, 115]⟩ else ByteArray.empty : ByteArray)).size ≤ 7 := by split <;> decide
  unfold flanksT
  rw [ByteArray.size_append]
  omega
theorem stepsT_size (h : Short n ss) {r : Route} (hr : Named n ss r) : (catT (stepT n) r.steps).size ≤ 7000 := by
  have h1 := catT_size (f := stepT n) (m := 30) (l := r.steps) (fun x _ => stepT_size h x)
  have h2 := hr.len.1
  omega
theorem lineT_size (h : Short n ss) {r : Route} (hr : Named n ss r) : (lineT n ss r).size ≤ 1400000 := by
  have h1 := headT_size h r
  have h2 := liesT_size h hr
  have h3 := flanksT_size h hr
  have h4 := stepsT_size h hr
  unfold lineT
  rw [ByteArray.size_append, ByteArray.size_append, ByteArray.size_append, ByteArray.size_append]
  show _ + _ + _ + _ + 1 ≤ _
  omega
end
end Go.Proofs.YtpggopdojhodaaaGreatDoor.L
namespace Go.Proofs.YtpggopdojhodaaaGreatDoor.L
open Go.RowKit
set_option linter.unusedVariables false
set_option linter.unusedSimpArgs false
set_option maxHeartbeats 1000000 in
theorem eqStep (x y : Step) (w : World) : Calls Tryz.prog 87 #[x.v, y.v] w (RetB (eqv x y) w) := by
  obtain ⟨a0, a1⟩ := x
  obtain ⟨b0, b1⟩ := y
  by_cases h0 : a0 = b0
  rotate_left
  · rw [eqv_false (by intro h; injection h; exact h0 ‹_›)]
    have g0 := int_ne h0
    clear h0
    go_enter Tryz.func87, Tryz.ntmps87
    go_wp2
    go_ret
    exact ⟨rfl, (below_alloc _ _).alloc (by simp) _⟩
  subst h0
  by_cases h1 : a1 = b1
  rotate_left
  · rw [eqv_false (by intro h; injection h; exact h1 ‹_›)]
    have g1 := int_ne h1
    clear h1
    go_enter Tryz.func87, Tryz.ntmps87
    go_wp2
    go_ret
    exact ⟨rfl, (below_alloc _ _).alloc (by simp) _⟩
  subst h1
  rw [eqv_self]
  go_enter Tryz.func87, Tryz.ntmps87
  go_wp2
  go_ret
  exact ⟨rfl, (below_alloc _ _).alloc (by simp) _⟩
set_option maxHeartbeats 1000000 in
theorem eqLie (x y : Lie) (w : World) : Calls Tryz.prog 88 #[x.v, y.v] w (RetB (eqv x y) w) := by
  obtain ⟨a0, a1⟩ := x
  obtain ⟨b0, b1⟩ := y
  by_cases h0 : a0 = b0
  rotate_left
  · rw [eqv_false (by intro h; injection h; exact h0 ‹_›)]
    have g0 := int_ne h0
    clear h0
    go_enter Tryz.func88, Tryz.ntmps88
    go_wp2
    go_ret
    exact ⟨rfl, (below_alloc _ _).alloc (by simp) _⟩
  subst h0
  by_cases h1 : a1 = b1
  rotate_left
  · rw [eqv_false (by intro h; injection h; exact h1 ‹_›)]
    have g1 := int_ne h1
    clear h1
    go_enter Tryz.func88, Tryz.ntmps88
    go_wp2
    go_ret
    exact ⟨rfl, (below_alloc _ _).alloc (by simp) _⟩
  subst h1
  rw [eqv_self]
  go_enter Tryz.func88, Tryz.ntmps88
  go_wp2
  go_ret
  exact ⟨rfl, (below_alloc _ _).alloc (by simp) _⟩
set_option maxHeartbeats 1000000 in
theorem eqPart (x y : Part) (w : World) : Calls Tryz.prog 89 #[x.v, y.v] w (RetB (eqv x y) w) := by
  obtain ⟨a0, a1, a2⟩ := x
  obtain ⟨b0, b1, b2⟩ := y
  by_cases h0 : a0 = b0
  rotate_left
  · rw [eqv_false (by intro h; injection h; exact h0 ‹_›)]
    have g0 := int_ne h0
    clear h0
    go_enter Tryz.func89, Tryz.ntmps89
    go_wp2
    go_ret
    exact ⟨rfl, (below_alloc _ _).alloc (by simp) _⟩
  subst h0
  by_cases h1 : a1 = b1
  rotate_left
  · rw [eqv_false (by intro h; injection h; exact h1 ‹_›)]
    have g1 := int_ne h1
    clear h1
    go_enter Tryz.func89, Tryz.ntmps89
    go_wp2
    go_ret
    exact ⟨rfl, (below_alloc _ _).alloc (by simp) _⟩
  subst h1
  by_cases h2 : a2 = b2
  rotate_left
  · rw [eqv_false (by intro h; injection h; exact h2 ‹_›)]
    have g2 := int_ne h2
    clear h2
    go_enter Tryz.func89, Tryz.ntmps89
    go_wp2
    go_ret
    exact ⟨rfl, (below_alloc _ _).alloc (by simp) _⟩
  subst h2
  rw [eqv_self]
  go_enter Tryz.func89, Tryz.ntmps89
  go_wp2
  go_ret
  exact ⟨rfl, (below_alloc _ _).alloc (by simp) _⟩
set_option maxHeartbeats 1000000 in
theorem eqFlank (x y : Flank) (w : World) : Calls Tryz.prog 90 #[x.v, y.v] w (RetB (eqv x y) w) := by
  obtain ⟨a0, a1, a2, a3⟩ := x
  obtain ⟨b0, b1, b2, b3⟩ := y
  by_cases h0 : a0 = b0
  rotate_left
  · rw [eqv_false (by intro h; injection h; exact h0 ‹_›)]
    have g0 := int_ne h0
    clear h0
    go_enter Tryz.func90, Tryz.ntmps90
    go_wp2
    go_ret
    exact ⟨rfl, (below_alloc _ _).alloc (by simp) _⟩
  subst h0
  by_cases h1 : a1 = b1
  rotate_left
  · rw [eqv_false (by intro h; injection h; exact h1 ‹_›)]
    have g1 := int_ne h1
    clear h1
    go_enter Tryz.func90, Tryz.ntmps90
    go_wp2
    go_ret
    exact ⟨rfl, (below_alloc _ _).alloc (by simp) _⟩
  subst h1
  by_cases h2 : a2 = b2
  rotate_left
  · rw [eqv_false (by intro h; injection h; exact h2 ‹_›)]
    have g2 := int_ne h2
    clear h2
    go_enter Tryz.func90, Tryz.ntmps90
    go_wp2
    go_ret
    exact ⟨rfl, (below_alloc _ _).alloc (by simp) _⟩
  subst h2
  by_cases h3 : a3 = b3
  rotate_left
  · rw [eqv_false (by intro h; injection h; exact h3 ‹_›)]
    have g3 := int_ne h3
    clear h3
    go_enter Tryz.func90, Tryz.ntmps90
    go_wp2
    go_ret
    exact ⟨rfl, (below_alloc _ _).alloc (by simp) _⟩
  subst h3
  rw [eqv_self]
  go_enter Tryz.func90, Tryz.ntmps90
  go_wp2
  go_ret
  exact ⟨rfl, (below_alloc _ _).alloc (by simp) _⟩
set_option maxRecDepth 100000 in
set_option maxHeartbeats 2000000 in
theorem eqStepS {ok ok' : Nat → Prop} (A0 A1 : Option Addr) (c0 c1 : Nat) (xs ys : List Step) (w : World) (hx : stepK.C w ok A0 xs) (hy : stepK.C w ok' A1 ys) :
    Calls Tryz.prog 59 #[.slice A0 xs.length c0, .slice A1 ys.length c1] w (RetB (eqv xs ys) w) := by
  have hmx := hx.1
  have hmy := hy.1
  by_cases hl : xs.length = ys.length
  rotate_left
  · rw [eqv_false (fun h => hl (congrArg List.length h))]
    have hlb := len_ne hl
    clear hl
    go_enter Tryz.func59, Tryz.ntmps59
    go_wp2
    go_ret
    exact ⟨rfl, Below.refl _ _⟩
  have hlb := len_eq hl
  have HL := Lib.hid hl
  clear hl
  go_enter Tryz.func59, Tryz.ntmps59
  go_wp2
  go_loopw [5] (fun i wr => ∃ k : Nat, k ≤ xs.length ∧ i = .int .i64 k ∧ Hid (xs.take k = ys.take k) ∧ Below w.heap.size w wr) (fun i _ => xs.length - (intOf i).toNat)
  case atStart => exact ⟨0, Nat.zero_le _, rfl, Lib.hid rfl, Below.refl _ _⟩
  case round =>
    obtain ⟨k, hk, rfl, HT, hb⟩ := hrel
    by_cases hlt : k < xs.length
    · have i0 : (0 : Int) ≤ (k : Int) := Int.natCast_nonneg _
      have i1 : (k : Int) < (xs.length : Int) := by omega
      have i2 : (k : Int) < (ys.length : Int) := by have := HL.out; omega
      obtain ⟨a0, rfl, p0, p1, E0, gp0, gp1⟩ := stepK_at (Kn.C_below hb hx) k hlt
      obtain ⟨a1, rfl, q0, q1, E1, gq0, gq1⟩ := stepK_at (Kn.C_below hb hy) k (HL.out ▸ hlt)
      by_cases he : (⟨p0, p1⟩ : Step) = (⟨q0, q1⟩ : Step)
      · have HE : Hid (eqv (⟨p0, p1⟩ : Step) (⟨q0, q1⟩ : Step) = true) := Lib.hid (eqv_true he)
        have HN : Hid (xs.take (k + 1) = ys.take (k + 1)) := Lib.hid (take_eq_snoc HT.out (by rw [← he]; exact E0.out) E1.out)
        clear he
        go_wp2
        go_region_held3 (fun w' => w'.cell? (a0.add (k * 2)) = some (.int .i64 p0) ∧ w'.cell? ⟨(a0.add (k * 2)).block, (a0.add (k * 2)).off + 1, none⟩ = some (.int .i64 p1) ∧ w'.cell? (a1.add (k * 2)) = some (.int .i64 q0) ∧ w'.cell? ⟨(a1.add (k * 2)).block, (a1.add (k * 2)).off + 1, none⟩ = some (.int .i64 q1)) (first | exact ⟨cell_below hb1 gp0, cell_below hb1 gp1, cell_below hb1 gq0, cell_below hb1 gq1⟩ | go_keep)
          (first | (go_at_call 87; refine (eqStep (⟨p0, p1⟩ : Step) (⟨q0, q1⟩ : Step) _).mono ?_; rintro e w1 ⟨rfl, hb1⟩; rw [HE.out]))
        go_wp2
        go_roundw
        case rel => exact ⟨k + 1, by omega, by go_num, HN, hb.drew.trans (hb1.mono hb.size)⟩
        case measure => simp [intOf]; omega
      · have HE : Hid (eqv (⟨p0, p1⟩ : Step) (⟨q0, q1⟩ : Step) = false) := Lib.hid (eqv_false he)
        have HN : Hid (eqv xs ys = false) := Lib.hid (eqv_false (take_ne E0.out E1.out he))
        clear he
        go_wp2
        go_region_held3 (fun w' => w'.cell? (a0.add (k * 2)) = some (.int .i64 p0) ∧ w'.cell? ⟨(a0.add (k * 2)).block, (a0.add (k * 2)).off + 1, none⟩ = some (.int .i64 p1) ∧ w'.cell? (a1.add (k * 2)) = some (.int .i64 q0) ∧ w'.cell? ⟨(a1.add (k * 2)).block, (a1.add (k * 2)).off + 1, none⟩ = some (.int .i64 q1)) (first | exact ⟨cell_below hb1 gp0, cell_below hb1 gp1, cell_below hb1 gq0, cell_below hb1 gq1⟩ | go_keep)
          (first | (go_at_call 87; refine (eqStep (⟨p0, p1⟩ : Step) (⟨q0, q1⟩ : Step) _).mono ?_; rintro e w1 ⟨rfl, hb1⟩; rw [HE.out]))
        go_wp2
        go_ret
        exact ⟨by rw [HN.out]; rfl, hb.drew.trans (hb1.mono hb.size)⟩
    · obtain rfl : k = xs.length := by omega
      have HN : Hid (eqv xs ys = true) := Lib.hid (eqv_true (by have := HT.out; rw [List.take_length, HL.out, List.take_length] at this; exact this))
      go_wp2
      go_ret
      exact ⟨by rw [HN.out]; rfl, hb⟩
set_option maxRecDepth 100000 in
set_option maxHeartbeats 2000000 in
theorem eqLieS {ok ok' : Nat → Prop} (A0 A1 : Option Addr) (c0 c1 : Nat) (xs ys : List Lie) (w : World) (hx : lieK.C w ok A0 xs) (hy : lieK.C w ok' A1 ys) :
    Calls Tryz.prog 60 #[.slice A0 xs.length c0, .slice A1 ys.length c1] w (RetB (eqv xs ys) w) := by
  have hmx := hx.1
  have hmy := hy.1
  by_cases hl : xs.length = ys.length
  rotate_left
  · rw [eqv_false (fun h => hl (congrArg List.length h))]
    have hlb := len_ne hl
    clear hl
    go_enter Tryz.func60, Tryz.ntmps60
    go_wp2
    go_ret
    exact ⟨rfl, Below.refl _ _⟩
  have hlb := len_eq hl
  have HL := Lib.hid hl
  clear hl
  go_enter Tryz.func60, Tryz.ntmps60
  go_wp2
  go_loopw [5] (fun i wr => ∃ k : Nat, k ≤ xs.length ∧ i = .int .i64 k ∧ Hid (xs.take k = ys.take k) ∧ Below w.heap.size w wr) (fun i _ => xs.length - (intOf i).toNat)
  case atStart => exact ⟨0, Nat.zero_le _, rfl, Lib.hid rfl, Below.refl _ _⟩
  case round =>
    obtain ⟨k, hk, rfl, HT, hb⟩ := hrel
    by_cases hlt : k < xs.length
    · have i0 : (0 : Int) ≤ (k : Int) := Int.natCast_nonneg _
      have i1 : (k : Int) < (xs.length : Int) := by omega
      have i2 : (k : Int) < (ys.length : Int) := by have := HL.out; omega
      obtain ⟨a0, rfl, p0, p1, E0, gp0, gp1⟩ := lieK_at (Kn.C_below hb hx) k hlt
      obtain ⟨a1, rfl, q0, q1, E1, gq0, gq1⟩ := lieK_at (Kn.C_below hb hy) k (HL.out ▸ hlt)
      by_cases he : (⟨p0, p1⟩ : Lie) = (⟨q0, q1⟩ : Lie)
      · have HE : Hid (eqv (⟨p0, p1⟩ : Lie) (⟨q0, q1⟩ : Lie) = true) := Lib.hid (eqv_true he)
        have HN : Hid (xs.take (k + 1) = ys.take (k + 1)) := Lib.hid (take_eq_snoc HT.out (by rw [← he]; exact E0.out) E1.out)
        clear he
        go_wp2
        go_region_held3 (fun w' => w'.cell? (a0.add (k * 2)) = some (.int .i64 p0) ∧ w'.cell? ⟨(a0.add (k * 2)).block, (a0.add (k * 2)).off + 1, none⟩ = some (.int .i64 p1) ∧ w'.cell? (a1.add (k * 2)) = some (.int .i64 q0) ∧ w'.cell? ⟨(a1.add (k * 2)).block, (a1.add (k * 2)).off + 1, none⟩ = some (.int .i64 q1)) (first | exact ⟨cell_below hb1 gp0, cell_below hb1 gp1, cell_below hb1 gq0, cell_below hb1 gq1⟩ | go_keep)
          (first | (go_at_call 88; refine (eqLie (⟨p0, p1⟩ : Lie) (⟨q0, q1⟩ : Lie) _).mono ?_; rintro e w1 ⟨rfl, hb1⟩; rw [HE.out]))
        go_wp2
        go_roundw
        case rel => exact ⟨k + 1, by omega, by go_num, HN, hb.drew.trans (hb1.mono hb.size)⟩
        case measure => simp [intOf]; omega
      · have HE : Hid (eqv (⟨p0, p1⟩ : Lie) (⟨q0, q1⟩ : Lie) = false) := Lib.hid (eqv_false he)
        have HN : Hid (eqv xs ys = false) := Lib.hid (eqv_false (take_ne E0.out E1.out he))
        clear he
        go_wp2
        go_region_held3 (fun w' => w'.cell? (a0.add (k * 2)) = some (.int .i64 p0) ∧ w'.cell? ⟨(a0.add (k * 2)).block, (a0.add (k * 2)).off + 1, none⟩ = some (.int .i64 p1) ∧ w'.cell? (a1.add (k * 2)) = some (.int .i64 q0) ∧ w'.cell? ⟨(a1.add (k * 2)).block, (a1.add (k * 2)).off + 1, none⟩ = some (.int .i64 q1)) (first | exact ⟨cell_below hb1 gp0, cell_below hb1 gp1, cell_below hb1 gq0, cell_below hb1 gq1⟩ | go_keep)
          (first | (go_at_call 88; refine (eqLie (⟨p0, p1⟩ : Lie) (⟨q0, q1⟩ : Lie) _).mono ?_; rintro e w1 ⟨rfl, hb1⟩; rw [HE.out]))
        go_wp2
        go_ret
        exact ⟨by rw [HN.out]; rfl, hb.drew.trans (hb1.mono hb.size)⟩
    · obtain rfl : k = xs.length := by omega
      have HN : Hid (eqv xs ys = true) := Lib.hid (eqv_true (by have := HT.out; rw [List.take_length, HL.out, List.take_length] at this; exact this))
      go_wp2
      go_ret
      exact ⟨by rw [HN.out]; rfl, hb⟩
set_option maxRecDepth 100000 in
set_option maxHeartbeats 2000000 in
theorem eqPartS {ok ok' : Nat → Prop} (A0 A1 : Option Addr) (c0 c1 : Nat) (xs ys : List Part) (w : World) (hx : partK.C w ok A0 xs) (hy : partK.C w ok' A1 ys) :
    Calls Tryz.prog 62 #[.slice A0 xs.length c0, .slice A1 ys.length c1] w (RetB (eqv xs ys) w) := by
  have hmx := hx.1
  have hmy := hy.1
  by_cases hl : xs.length = ys.length
  rotate_left
  · rw [eqv_false (fun h => hl (congrArg List.length h))]
    have hlb := len_ne hl
    clear hl
    go_enter Tryz.func62, Tryz.ntmps62
    go_wp2
    go_ret
    exact ⟨rfl, Below.refl _ _⟩
  have hlb := len_eq hl
  have HL := Lib.hid hl
  clear hl
  go_enter Tryz.func62, Tryz.ntmps62
  go_wp2
  go_loopw [5] (fun i wr => ∃ k : Nat, k ≤ xs.length ∧ i = .int .i64 k ∧ Hid (xs.take k = ys.take k) ∧ Below w.heap.size w wr) (fun i _ => xs.length - (intOf i).toNat)
  case atStart => exact ⟨0, Nat.zero_le _, rfl, Lib.hid rfl, Below.refl _ _⟩
  case round =>
    obtain ⟨k, hk, rfl, HT, hb⟩ := hrel
    by_cases hlt : k < xs.length
    · have i0 : (0 : Int) ≤ (k : Int) := Int.natCast_nonneg _
      have i1 : (k : Int) < (xs.length : Int) := by omega
      have i2 : (k : Int) < (ys.length : Int) := by have := HL.out; omega
      obtain ⟨a0, rfl, p0, p1, p2, E0, gp0, gp1, gp2⟩ := partK_at (Kn.C_below hb hx) k hlt
      obtain ⟨a1, rfl, q0, q1, q2, E1, gq0, gq1, gq2⟩ := partK_at (Kn.C_below hb hy) k (HL.out ▸ hlt)
      by_cases he : (⟨p0, p1, p2⟩ : Part) = (⟨q0, q1, q2⟩ : Part)
      · have HE : Hid (eqv (⟨p0, p1, p2⟩ : Part) (⟨q0, q1, q2⟩ : Part) = true) := Lib.hid (eqv_true he)
        have HN : Hid (xs.take (k + 1) = ys.take (k + 1)) := Lib.hid (take_eq_snoc HT.out (by rw [← he]; exact E0.out) E1.out)
        clear he
        go_wp2
        go_region_held3 (fun w' => w'.cell? (a0.add (k * 3)) = some (.int .i64 p0) ∧ w'.cell? ⟨(a0.add (k * 3)).block, (a0.add (k * 3)).off + 1, none⟩ = some (.int .i64 p1) ∧ w'.cell? ⟨(a0.add (k * 3)).block, (a0.add (k * 3)).off + 2, none⟩ = some (.int .i64 p2) ∧ w'.cell? (a1.add (k * 3)) = some (.int .i64 q0) ∧ w'.cell? ⟨(a1.add (k * 3)).block, (a1.add (k * 3)).off + 1, none⟩ = some (.int .i64 q1) ∧ w'.cell? ⟨(a1.add (k * 3)).block, (a1.add (k * 3)).off + 2, none⟩ = some (.int .i64 q2)) (first | exact ⟨cell_below hb1 gp0, cell_below hb1 gp1, cell_below hb1 gp2, cell_below hb1 gq0, cell_below hb1 gq1, cell_below hb1 gq2⟩ | go_keep)
          (first | (go_at_call 89; refine (eqPart (⟨p0, p1, p2⟩ : Part) (⟨q0, q1, q2⟩ : Part) _).mono ?_; rintro e w1 ⟨rfl, hb1⟩; rw [HE.out]))
        go_wp2
        go_roundw
        case rel => exact ⟨k + 1, by omega, by go_num, HN, hb.drew.trans (hb1.mono hb.size)⟩
        case measure => simp [intOf]; omega
      · have HE : Hid (eqv (⟨p0, p1, p2⟩ : Part) (⟨q0, q1, q2⟩ : Part) = false) := Lib.hid (eqv_false he)
        have HN : Hid (eqv xs ys = false) := Lib.hid (eqv_false (take_ne E0.out E1.out he))
        clear he
        go_wp2
        go_region_held3 (fun w' => w'.cell? (a0.add (k * 3)) = some (.int .i64 p0) ∧ w'.cell? ⟨(a0.add (k * 3)).block, (a0.add (k * 3)).off + 1, none⟩ = some (.int .i64 p1) ∧ w'.cell? ⟨(a0.add (k * 3)).block, (a0.add (k * 3)).off + 2, none⟩ = some (.int .i64 p2) ∧ w'.cell? (a1.add (k * 3)) = some (.int .i64 q0) ∧ w'.cell? ⟨(a1.add (k * 3)).block, (a1.add (k * 3)).off + 1, none⟩ = some (.int .i64 q1) ∧ w'.cell? ⟨(a1.add (k * 3)).block, (a1.add (k * 3)).off + 2, none⟩ = some (.int .i64 q2)) (first | exact ⟨cell_below hb1 gp0, cell_below hb1 gp1, cell_below hb1 gp2, cell_below hb1 gq0, cell_below hb1 gq1, cell_below hb1 gq2⟩ | go_keep)
          (first | (go_at_call 89; refine (eqPart (⟨p0, p1, p2⟩ : Part) (⟨q0, q1, q2⟩ : Part) _).mono ?_; rintro e w1 ⟨rfl, hb1⟩; rw [HE.out]))
        go_wp2
        go_ret
        exact ⟨by rw [HN.out]; rfl, hb.drew.trans (hb1.mono hb.size)⟩
    · obtain rfl : k = xs.length := by omega
      have HN : Hid (eqv xs ys = true) := Lib.hid (eqv_true (by have := HT.out; rw [List.take_length, HL.out, List.take_length] at this; exact this))
      go_wp2
      go_ret
      exact ⟨by rw [HN.out]; rfl, hb⟩
set_option maxRecDepth 100000 in
set_option maxHeartbeats 2000000 in
theorem eqFlankS {ok ok' : Nat → Prop} (A0 A1 : Option Addr) (c0 c1 : Nat) (xs ys : List Flank) (w : World) (hx : flankK.C w ok A0 xs) (hy : flankK.C w ok' A1 ys) :
    Calls Tryz.prog 63 #[.slice A0 xs.length c0, .slice A1 ys.length c1] w (RetB (eqv xs ys) w) := by
  have hmx := hx.1
  have hmy := hy.1
  by_cases hl : xs.length = ys.length
  rotate_left
  · rw [eqv_false (fun h => hl (congrArg List.length h))]
    have hlb := len_ne hl
    clear hl
    go_enter Tryz.func63, Tryz.ntmps63
    go_wp2
    go_ret
    exact ⟨rfl, Below.refl _ _⟩
  have hlb := len_eq hl
  have HL := Lib.hid hl
  clear hl
  go_enter Tryz.func63, Tryz.ntmps63
  go_wp2
  go_loopw [5] (fun i wr => ∃ k : Nat, k ≤ xs.length ∧ i = .int .i64 k ∧ Hid (xs.take k = ys.take k) ∧ Below w.heap.size w wr) (fun i _ => xs.length - (intOf i).toNat)
  case atStart => exact ⟨0, Nat.zero_le _, rfl, Lib.hid rfl, Below.refl _ _⟩
  case round =>
    obtain ⟨k, hk, rfl, HT, hb⟩ := hrel
    by_cases hlt : k < xs.length
    · have i0 : (0 : Int) ≤ (k : Int) := Int.natCast_nonneg _
      have i1 : (k : Int) < (xs.length : Int) := by omega
      have i2 : (k : Int) < (ys.length : Int) := by have := HL.out; omega
      obtain ⟨a0, rfl, p0, p1, p2, p3, E0, gp0, gp1, gp2, gp3⟩ := flankK_at (Kn.C_below hb hx) k hlt
      obtain ⟨a1, rfl, q0, q1, q2, q3, E1, gq0, gq1, gq2, gq3⟩ := flankK_at (Kn.C_below hb hy) k (HL.out ▸ hlt)
      by_cases he : (⟨p0, p1, p2, p3⟩ : Flank) = (⟨q0, q1, q2, q3⟩ : Flank)
      · have HE : Hid (eqv (⟨p0, p1, p2, p3⟩ : Flank) (⟨q0, q1, q2, q3⟩ : Flank) = true) := Lib.hid (eqv_true he)
        have HN : Hid (xs.take (k + 1) = ys.take (k + 1)) := Lib.hid (take_eq_snoc HT.out (by rw [← he]; exact E0.out) E1.out)
        clear he
        go_wp2
        go_region_held3 (fun w' => w'.cell? (a0.add (k * 4)) = some (.int .i64 p0) ∧ w'.cell? ⟨(a0.add (k * 4)).block, (a0.add (k * 4)).off + 1, none⟩ = some (.int .i64 p1) ∧ w'.cell? ⟨(a0.add (k * 4)).block, (a0.add (k * 4)).off + 2, none⟩ = some (.int .i64 p2) ∧ w'.cell? ⟨(a0.add (k * 4)).block, (a0.add (k * 4)).off + 3, none⟩ = some (.int .i64 p3) ∧ w'.cell? (a1.add (k * 4)) = some (.int .i64 q0) ∧ w'.cell? ⟨(a1.add (k * 4)).block, (a1.add (k * 4)).off + 1, none⟩ = some (.int .i64 q1) ∧ w'.cell? ⟨(a1.add (k * 4)).block, (a1.add (k * 4)).off + 2, none⟩ = some (.int .i64 q2) ∧ w'.cell? ⟨(a1.add (k * 4)).block, (a1.add (k * 4)).off + 3, none⟩ = some (.int .i64 q3)) (first | exact ⟨cell_below hb1 gp0, cell_below hb1 gp1, cell_below hb1 gp2, cell_below hb1 gp3, cell_below hb1 gq0, cell_below hb1 gq1, cell_below hb1 gq2, cell_below hb1 gq3⟩ | go_keep)
          (first | (go_at_call 90; refine (eqFlank (⟨p0, p1, p2, p3⟩ : Flank) (⟨q0, q1, q2, q3⟩ : Flank) _).mono ?_; rintro e w1 ⟨rfl, hb1⟩; rw [HE.out]))
        go_wp2
        go_roundw
        case rel => exact ⟨k + 1, by omega, by go_num, HN, hb.drew.trans (hb1.mono hb.size)⟩
        case measure => simp [intOf]; omega
      · have HE : Hid (eqv (⟨p0, p1, p2, p3⟩ : Flank) (⟨q0, q1, q2, q3⟩ : Flank) = false) := Lib.hid (eqv_false he)
        have HN : Hid (eqv xs ys = false) := Lib.hid (eqv_false (take_ne E0.out E1.out he))
        clear he
        go_wp2
        go_region_held3 (fun w' => w'.cell? (a0.add (k * 4)) = some (.int .i64 p0) ∧ w'.cell? ⟨(a0.add (k * 4)).block, (a0.add (k * 4)).off + 1, none⟩ = some (.int .i64 p1) ∧ w'.cell? ⟨(a0.add (k * 4)).block, (a0.add (k * 4)).off + 2, none⟩ = some (.int .i64 p2) ∧ w'.cell? ⟨(a0.add (k * 4)).block, (a0.add (k * 4)).off + 3, none⟩ = some (.int .i64 p3) ∧ w'.cell? (a1.add (k * 4)) = some (.int .i64 q0) ∧ w'.cell? ⟨(a1.add (k * 4)).block, (a1.add (k * 4)).off + 1, none⟩ = some (.int .i64 q1) ∧ w'.cell? ⟨(a1.add (k * 4)).block, (a1.add (k * 4)).off + 2, none⟩ = some (.int .i64 q2) ∧ w'.cell? ⟨(a1.add (k * 4)).block, (a1.add (k * 4)).off + 3, none⟩ = some (.int .i64 q3)) (first | exact ⟨cell_below hb1 gp0, cell_below hb1 gp1, cell_below hb1 gp2, cell_below hb1 gp3, cell_below hb1 gq0, cell_below hb1 gq1, cell_below hb1 gq2, cell_below hb1 gq3⟩ | go_keep)
          (first | (go_at_call 90; refine (eqFlank (⟨p0, p1, p2, p3⟩ : Flank) (⟨q0, q1, q2, q3⟩ : Flank) _).mono ?_; rintro e w1 ⟨rfl, hb1⟩; rw [HE.out]))
        go_wp2
        go_ret
        exact ⟨by rw [HN.out]; rfl, hb.drew.trans (hb1.mono hb.size)⟩
    · obtain rfl : k = xs.length := by omega
      have HN : Hid (eqv xs ys = true) := Lib.hid (eqv_true (by have := HT.out; rw [List.take_length, HL.out, List.take_length] at this; exact this))
      go_wp2
      go_ret
      exact ⟨by rw [HN.out]; rfl, hb⟩
set_option maxRecDepth 100000 in
set_option maxHeartbeats 2000000 in
theorem eqIntS {ok ok' : Nat → Prop} (A0 A1 : Option Addr) (c0 c1 : Nat) (xs ys : List Int) (w : World) (hx : Kn.int.C w ok A0 xs) (hy : Kn.int.C w ok' A1 ys) :
    Calls Tryz.prog 61 #[.slice A0 xs.length c0, .slice A1 ys.length c1] w (RetB (eqv xs ys) w) := by
  have hmx := hx.1
  have hmy := hy.1
  by_cases hl : xs.length = ys.length
  rotate_left
  · rw [eqv_false (fun h => hl (congrArg List.length h))]
    have hlb := len_ne hl
    clear hl
    go_enter Tryz.func61, Tryz.ntmps61
    go_wp2
    go_ret
    exact ⟨rfl, Below.refl _ _⟩
  have hlb := len_eq hl
  have HL := Lib.hid hl
  clear hl
  go_enter Tryz.func61, Tryz.ntmps61
  go_wp2
  go_loopw [5] (fun i wr => ∃ k : Nat, k ≤ xs.length ∧ i = .int .i64 k ∧ Hid (xs.take k = ys.take k) ∧ Below w.heap.size w wr) (fun i _ => xs.length - (intOf i).toNat)
  case atStart => exact ⟨0, Nat.zero_le _, rfl, Lib.hid rfl, Below.refl _ _⟩
  case round =>
    obtain ⟨k, hk, rfl, HT, hb⟩ := hrel
    by_cases hlt : k < xs.length
    · have i0 : (0 : Int) ≤ (k : Int) := Int.natCast_nonneg _
      have i1 : (k : Int) < (xs.length : Int) := by omega
      have i2 : (k : Int) < (ys.length : Int) := by have := HL.out; omega
      obtain ⟨a0, rfl, p0, E0, gp0⟩ := int_at (Kn.C_below hb hx) k hlt
      obtain ⟨a1, rfl, q0, E1, gq0⟩ := int_at (Kn.C_below hb hy) k (HL.out ▸ hlt)
      by_cases he : p0 = q0
      · have d0 : (p0 != q0) = false := by simpa using he
        have HE : Hid (eqv p0 q0 = true) := Lib.hid (eqv_true he)
        have HN : Hid (xs.take (k + 1) = ys.take (k + 1)) := Lib.hid (take_eq_snoc HT.out (by rw [← he]; exact E0.out) E1.out)
        clear he
        go_wp2
        go_quiet (fail)
        go_wp2
        go_roundw
        case rel => exact ⟨k + 1, by omega, by go_num, HN, below_drewN hb _⟩
        case measure => simp [intOf]; omega
      · have d0 : (p0 != q0) = true := int_ne he
        have HE : Hid (eqv p0 q0 = false) := Lib.hid (eqv_false he)
        have HN : Hid (eqv xs ys = false) := Lib.hid (eqv_false (take_ne E0.out E1.out he))
        clear he
        go_wp2
        go_quiet (fail)
        go_wp2
        go_ret
        exact ⟨by rw [HN.out]; rfl, below_drewN hb _⟩
    · obtain rfl : k = xs.length := by omega
      have HN : Hid (eqv xs ys = true) := Lib.hid (eqv_true (by have := HT.out; rw [List.take_length, HL.out, List.take_length] at this; exact this))
      go_wp2
      go_ret
      exact ⟨by rw [HN.out]; rfl, hb⟩
set_option maxRecDepth 100000 in
set_option maxHeartbeats 2000000 in
theorem eqRoute {ok ok' : Nat → Prop} (x0 x1 : Route) (A02 A03 A04 A05 A06 A07 A12 A13 A14 A15 A16 A17 : Option Addr) (c02 c03 c04 c05 c06 c07 c12 c13 c14 c15 c16 c17 : Nat) (w : World) (h02 : stepK.C w ok A02 x0.steps) (h03 : lieK.C w ok A03 x0.lies) (h04 : Kn.int.C w ok A04 x0.crosses) (h05 : partK.C w ok A05 x0.parts) (h06 : partK.C w ok A06 x0.over) (h07 : flankK.C w ok A07 x0.flanks) (h12 : stepK.C w ok' A12 x1.steps) (h13 : lieK.C w ok' A13 x1.lies) (h14 : Kn.int.C w ok' A14 x1.crosses) (h15 : partK.C w ok' A15 x1.parts) (h16 : partK.C w ok' A16 x1.over) (h17 : flankK.C w ok' A17 x1.flanks) :
    Calls Tryz.prog 34 #[.agg #[.int .i64 x0.frm, .int .i64 x0.til, .slice A02 x0.steps.length c02, .slice A03 x0.lies.length c03, .slice A04 x0.crosses.length c04, .slice A05 x0.parts.length c05, .slice A06 x0.over.length c06, .slice A07 x0.flanks.length c07], .agg #[.int .i64 x1.frm, .int .i64 x1.til, .slice A12 x1.steps.length c12, .slice A13 x1.lies.length c13, .slice A14 x1.crosses.length c14, .slice A15 x1.parts.length c15, .slice A16 x1.over.length c16, .slice A17 x1.flanks.length c17]] w (RetB (eqv x0 x1) w) := by
  obtain ⟨a0, a1, a2, a3, a4, a5, a6, a7⟩ := x0
  obtain ⟨b0, b1, b2, b3, b4, b5, b6, b7⟩ := x1
  simp only at h02 h03 h04 h05 h06 h07 h12 h13 h14 h15 h16 h17
  by_cases h0 : a0 = b0
  rotate_left
  · rw [eqv_false (by intro h; injection h; exact h0 ‹_›)]
    have g0 := int_ne h0
    clear h0
    go_enter Tryz.func34, Tryz.ntmps34
    go_wp2
    go_ret
    exact ⟨rfl, ((below_alloc w _).alloc (by simp) _)⟩
  subst h0
  by_cases h1 : a1 = b1
  rotate_left
  · rw [eqv_false (by intro h; injection h; exact h1 ‹_›)]
    have g1 := int_ne h1
    clear h1
    go_enter Tryz.func34, Tryz.ntmps34
    go_wp2
    go_ret
    exact ⟨rfl, ((below_alloc w _).alloc (by simp) _)⟩
  subst h1
  by_cases h2 : a2 = b2
  rotate_left
  · rw [eqv_false (by intro h; injection h; exact h2 ‹_›)]
    have E : Hid (eqv a2 b2 = false) := Lib.hid (eqv_false h2)
    clear h2
    go_enter Tryz.func34, Tryz.ntmps34
    go_wp2_with fail
    refine (eqStepS _ _ _ _ _ _ _ (Kn.C_below ((below_alloc w _).alloc (by simp) _) h02) (Kn.C_below ((below_alloc w _).alloc (by simp) _) h12)).mono ?_
    rintro e w2 ⟨rfl, hb2⟩
    obtain ⟨hc2, hf2⟩ := bcell hb2
    rw [E.out]
    have B2 := ((below_alloc w _).alloc (by simp) _).trans (hb2.mono (by simp; omega))
    have z2 : w.heap.size < w2.heap.size := by have := hb2.size; simp at this; omega
    have y2 : w.heap.size + 1 < w2.heap.size := by have := hb2.size; simp at this; omega
    go_wp2
    go_ret
    exact ⟨rfl, B2⟩
  subst h2
  by_cases h3 : a3 = b3
  rotate_left
  · rw [eqv_false (by intro h; injection h; exact h3 ‹_›)]
    have E : Hid (eqv a3 b3 = false) := Lib.hid (eqv_false h3)
    clear h3
    go_enter Tryz.func34, Tryz.ntmps34
    go_wp2_with fail
    refine (eqStepS _ _ _ _ _ _ _ (Kn.C_below ((below_alloc w _).alloc (by simp) _) h02) (Kn.C_below ((below_alloc w _).alloc (by simp) _) h12)).mono ?_
    rintro e w2 ⟨rfl, hb2⟩
    obtain ⟨hc2, hf2⟩ := bcell hb2
    rw [eqv_self]
    have B2 := ((below_alloc w _).alloc (by simp) _).trans (hb2.mono (by simp; omega))
    have z2 : w.heap.size < w2.heap.size := by have := hb2.size; simp at this; omega
    have y2 : w.heap.size + 1 < w2.heap.size := by have := hb2.size; simp at this; omega
    go_wp2_with fail
    refine (eqLieS _ _ _ _ _ _ _ (Kn.C_below B2 h03) (Kn.C_below B2 h13)).mono ?_
    rintro e w3 ⟨rfl, hb3⟩
    obtain ⟨hc3, hf3⟩ := bcell hb3
    rw [E.out]
    have B3 := B2.trans (hb3.mono B2.size)
    have z3 : w.heap.size < w3.heap.size := by have := hb3.size; omega
    have y3 : w.heap.size + 1 < w3.heap.size := by have := hb3.size; omega
    go_wp2
    go_ret
    exact ⟨rfl, B3⟩
  subst h3
  by_cases h4 : a4 = b4
  rotate_left
  · rw [eqv_false (by intro h; injection h; exact h4 ‹_›)]
    have E : Hid (eqv a4 b4 = false) := Lib.hid (eqv_false h4)
    clear h4
    go_enter Tryz.func34, Tryz.ntmps34
    go_wp2_with fail
    refine (eqStepS _ _ _ _ _ _ _ (Kn.C_below ((below_alloc w _).alloc (by simp) _) h02) (Kn.C_below ((below_alloc w _).alloc (by simp) _) h12)).mono ?_
    rintro e w2 ⟨rfl, hb2⟩
    obtain ⟨hc2, hf2⟩ := bcell hb2
    rw [eqv_self]
    have B2 := ((below_alloc w _).alloc (by simp) _).trans (hb2.mono (by simp; omega))
    have z2 : w.heap.size < w2.heap.size := by have := hb2.size; simp at this; omega
    have y2 : w.heap.size + 1 < w2.heap.size := by have := hb2.size; simp at this; omega
    go_wp2_with fail
    refine (eqLieS _ _ _ _ _ _ _ (Kn.C_below B2 h03) (Kn.C_below B2 h13)).mono ?_
    rintro e w3 ⟨rfl, hb3⟩
    obtain ⟨hc3, hf3⟩ := bcell hb3
    rw [eqv_self]
    have B3 := B2.trans (hb3.mono B2.size)
    have z3 : w.heap.size < w3.heap.size := by have := hb3.size; omega
    have y3 : w.heap.size + 1 < w3.heap.size := by have := hb3.size; omega
    go_wp2_with fail
    refine (eqIntS _ _ _ _ _ _ _ (Kn.C_below B3 h04) (Kn.C_below B3 h14)).mono ?_
    rintro e w4 ⟨rfl, hb4⟩
    obtain ⟨hc4, hf4⟩ := bcell hb4
    rw [E.out]
    have B4 := B3.trans (hb4.mono B3.size)
    have z4 : w.heap.size < w4.heap.size := by have := hb4.size; omega
    have y4 : w.heap.size + 1 < w4.heap.size := by have := hb4.size; omega
    go_wp2
    go_ret
    exact ⟨rfl, B4⟩
  subst h4
  by_cases h5 : a5 = b5
  rotate_left
  · rw [eqv_false (by intro h; injection h; exact h5 ‹_›)]
    have E : Hid (eqv a5 b5 = false) := Lib.hid (eqv_false h5)
    clear h5
    go_enter Tryz.func34, Tryz.ntmps34
    go_wp2_with fail
    refine (eqStepS _ _ _ _ _ _ _ (Kn.C_below ((below_alloc w _).alloc (by simp) _) h02) (Kn.C_below ((below_alloc w _).alloc (by simp) _) h12)).mono ?_
    rintro e w2 ⟨rfl, hb2⟩
    obtain ⟨hc2, hf2⟩ := bcell hb2
    rw [eqv_self]
    have B2 := ((below_alloc w _).alloc (by simp) _).trans (hb2.mono (by simp; omega))
    have z2 : w.heap.size < w2.heap.size := by have := hb2.size; simp at this; omega
    have y2 : w.heap.size + 1 < w2.heap.size := by have := hb2.size; simp at this; omega
    go_wp2_with fail
    refine (eqLieS _ _ _ _ _ _ _ (Kn.C_below B2 h03) (Kn.C_below B2 h13)).mono ?_
    rintro e w3 ⟨rfl, hb3⟩
    obtain ⟨hc3, hf3⟩ := bcell hb3
    rw [eqv_self]
    have B3 := B2.trans (hb3.mono B2.size)
    have z3 : w.heap.size < w3.heap.size := by have := hb3.size; omega
    have y3 : w.heap.size + 1 < w3.heap.size := by have := hb3.size; omega
    go_wp2_with fail
    refine (eqIntS _ _ _ _ _ _ _ (Kn.C_below B3 h04) (Kn.C_below B3 h14)).mono ?_
    rintro e w4 ⟨rfl, hb4⟩
    obtain ⟨hc4, hf4⟩ := bcell hb4
    rw [eqv_self]
    have B4 := B3.trans (hb4.mono B3.size)
    have z4 : w.heap.size < w4.heap.size := by have := hb4.size; omega
    have y4 : w.heap.size + 1 < w4.heap.size := by have := hb4.size; omega
    go_wp2_with fail
    refine (eqPartS _ _ _ _ _ _ _ (Kn.C_below B4 h05) (Kn.C_below B4 h15)).mono ?_
    rintro e w5 ⟨rfl, hb5⟩
    obtain ⟨hc5, hf5⟩ := bcell hb5
    rw [E.out]
    have B5 := B4.trans (hb5.mono B4.size)
    have z5 : w.heap.size < w5.heap.size := by have := hb5.size; omega
    have y5 : w.heap.size + 1 < w5.heap.size := by have := hb5.size; omega
    go_wp2
    go_ret
    exact ⟨rfl, B5⟩
  subst h5
  by_cases h6 : a6 = b6
  rotate_left
  · rw [eqv_false (by intro h; injection h; exact h6 ‹_›)]
    have E : Hid (eqv a6 b6 = false) := Lib.hid (eqv_false h6)
    clear h6
    go_enter Tryz.func34, Tryz.ntmps34
    go_wp2_with fail
    refine (eqStepS _ _ _ _ _ _ _ (Kn.C_below ((below_alloc w _).alloc (by simp) _) h02) (Kn.C_below ((below_alloc w _).alloc (by simp) _) h12)).mono ?_
    rintro e w2 ⟨rfl, hb2⟩
    obtain ⟨hc2, hf2⟩ := bcell hb2
    rw [eqv_self]
    have B2 := ((below_alloc w _).alloc (by simp) _).trans (hb2.mono (by simp; omega))
    have z2 : w.heap.size < w2.heap.size := by have := hb2.size; simp at this; omega
    have y2 : w.heap.size + 1 < w2.heap.size := by have := hb2.size; simp at this; omega
    go_wp2_with fail
    refine (eqLieS _ _ _ _ _ _ _ (Kn.C_below B2 h03) (Kn.C_below B2 h13)).mono ?_
    rintro e w3 ⟨rfl, hb3⟩
    obtain ⟨hc3, hf3⟩ := bcell hb3
    rw [eqv_self]
    have B3 := B2.trans (hb3.mono B2.size)
    have z3 : w.heap.size < w3.heap.size := by have := hb3.size; omega
    have y3 : w.heap.size + 1 < w3.heap.size := by have := hb3.size; omega
    go_wp2_with fail
    refine (eqIntS _ _ _ _ _ _ _ (Kn.C_below B3 h04) (Kn.C_below B3 h14)).mono ?_
    rintro e w4 ⟨rfl, hb4⟩
    obtain ⟨hc4, hf4⟩ := bcell hb4
    rw [eqv_self]
    have B4 := B3.trans (hb4.mono B3.size)
    have z4 : w.heap.size < w4.heap.size := by have := hb4.size; omega
    have y4 : w.heap.size + 1 < w4.heap.size := by have := hb4.size; omega
    go_wp2_with fail
    refine (eqPartS _ _ _ _ _ _ _ (Kn.C_below B4 h05) (Kn.C_below B4 h15)).mono ?_
    rintro e w5 ⟨rfl, hb5⟩
    obtain ⟨hc5, hf5⟩ := bcell hb5
    rw [eqv_self]
    have B5 := B4.trans (hb5.mono B4.size)
    have z5 : w.heap.size < w5.heap.size := by have := hb5.size; omega
    have y5 : w.heap.size + 1 < w5.heap.size := by have := hb5.size; omega
    go_wp2_with fail
    refine (eqPartS _ _ _ _ _ _ _ (Kn.C_below B5 h06) (Kn.C_below B5 h16)).mono ?_
    rintro e w6 ⟨rfl, hb6⟩
    obtain ⟨hc6, hf6⟩ := bcell hb6
    rw [E.out]
    have B6 := B5.trans (hb6.mono B5.size)
    have z6 : w.heap.size < w6.heap.size := by have := hb6.size; omega
    have y6 : w.heap.size + 1 < w6.heap.size := by have := hb6.size; omega
    go_wp2
    go_ret
    exact ⟨rfl, B6⟩
  subst h6
  by_cases h7 : a7 = b7
  rotate_left
  · rw [eqv_false (by intro h; injection h; exact h7 ‹_›)]
    have E : Hid (eqv a7 b7 = false) := Lib.hid (eqv_false h7)
    clear h7
    go_enter Tryz.func34, Tryz.ntmps34
    go_wp2_with fail
    refine (eqStepS _ _ _ _ _ _ _ (Kn.C_below ((below_alloc w _).alloc (by simp) _) h02) (Kn.C_below ((below_alloc w _).alloc (by simp) _) h12)).mono ?_
    rintro e w2 ⟨rfl, hb2⟩
    obtain ⟨hc2, hf2⟩ := bcell hb2
    rw [eqv_self]
    have B2 := ((below_alloc w _).alloc (by simp) _).trans (hb2.mono (by simp; omega))
    have z2 : w.heap.size < w2.heap.size := by have := hb2.size; simp at this; omega
    have y2 : w.heap.size + 1 < w2.heap.size := by have := hb2.size; simp at this; omega
    go_wp2_with fail
    refine (eqLieS _ _ _ _ _ _ _ (Kn.C_below B2 h03) (Kn.C_below B2 h13)).mono ?_
    rintro e w3 ⟨rfl, hb3⟩
    obtain ⟨hc3, hf3⟩ := bcell hb3
    rw [eqv_self]
    have B3 := B2.trans (hb3.mono B2.size)
    have z3 : w.heap.size < w3.heap.size := by have := hb3.size; omega
    have y3 : w.heap.size + 1 < w3.heap.size := by have := hb3.size; omega
    go_wp2_with fail
    refine (eqIntS _ _ _ _ _ _ _ (Kn.C_below B3 h04) (Kn.C_below B3 h14)).mono ?_
    rintro e w4 ⟨rfl, hb4⟩
    obtain ⟨hc4, hf4⟩ := bcell hb4
    rw [eqv_self]
    have B4 := B3.trans (hb4.mono B3.size)
    have z4 : w.heap.size < w4.heap.size := by have := hb4.size; omega
    have y4 : w.heap.size + 1 < w4.heap.size := by have := hb4.size; omega
    go_wp2_with fail
    refine (eqPartS _ _ _ _ _ _ _ (Kn.C_below B4 h05) (Kn.C_below B4 h15)).mono ?_
    rintro e w5 ⟨rfl, hb5⟩
    obtain ⟨hc5, hf5⟩ := bcell hb5
    rw [eqv_self]
    have B5 := B4.trans (hb5.mono B4.size)
    have z5 : w.heap.size < w5.heap.size := by have := hb5.size; omega
    have y5 : w.heap.size + 1 < w5.heap.size := by have := hb5.size; omega
    go_wp2_with fail
    refine (eqPartS _ _ _ _ _ _ _ (Kn.C_below B5 h06) (Kn.C_below B5 h16)).mono ?_
    rintro e w6 ⟨rfl, hb6⟩
    obtain ⟨hc6, hf6⟩ := bcell hb6
    rw [eqv_self]
    have B6 := B5.trans (hb6.mono B5.size)
    have z6 : w.heap.size < w6.heap.size := by have := hb6.size; omega
    have y6 : w.heap.size + 1 < w6.heap.size := by have := hb6.size; omega
    go_wp2_with fail
    refine (eqFlankS _ _ _ _ _ _ _ (Kn.C_below B6 h07) (Kn.C_below B6 h17)).mono ?_
    rintro e w7 ⟨rfl, hb7⟩
    obtain ⟨hc7, hf7⟩ := bcell hb7
    rw [E.out]
    have B7 := B6.trans (hb7.mono B6.size)
    have z7 : w.heap.size < w7.heap.size := by have := hb7.size; omega
    have y7 : w.heap.size + 1 < w7.heap.size := by have := hb7.size; omega
    go_wp2
    go_ret
    exact ⟨rfl, B7⟩
  subst h7
  rw [eqv_self]
  go_enter Tryz.func34, Tryz.ntmps34
  go_wp2_with fail
  refine (eqStepS _ _ _ _ _ _ _ (Kn.C_below ((below_alloc w _).alloc (by simp) _) h02) (Kn.C_below ((below_alloc w _).alloc (by simp) _) h12)).mono ?_
  rintro e w2 ⟨rfl, hb2⟩
  obtain ⟨hc2, hf2⟩ := bcell hb2
  rw [eqv_self]
  have B2 := ((below_alloc w _).alloc (by simp) _).trans (hb2.mono (by simp; omega))
  have z2 : w.heap.size < w2.heap.size := by have := hb2.size; simp at this; omega
  have y2 : w.heap.size + 1 < w2.heap.size := by have := hb2.size; simp at this; omega
  go_wp2_with fail
  refine (eqLieS _ _ _ _ _ _ _ (Kn.C_below B2 h03) (Kn.C_below B2 h13)).mono ?_
  rintro e w3 ⟨rfl, hb3⟩
  obtain ⟨hc3, hf3⟩ := bcell hb3
  rw [eqv_self]
  have B3 := B2.trans (hb3.mono B2.size)
  have z3 : w.heap.size < w3.heap.size := by have := hb3.size; omega
  have y3 : w.heap.size + 1 < w3.heap.size := by have := hb3.size; omega
  go_wp2_with fail
  refine (eqIntS _ _ _ _ _ _ _ (Kn.C_below B3 h04) (Kn.C_below B3 h14)).mono ?_
  rintro e w4 ⟨rfl, hb4⟩
  obtain ⟨hc4, hf4⟩ := bcell hb4
  rw [eqv_self]
  have B4 := B3.trans (hb4.mono B3.size)
  have z4 : w.heap.size < w4.heap.size := by have := hb4.size; omega
  have y4 : w.heap.size + 1 < w4.heap.size := by have := hb4.size; omega
  go_wp2_with fail
  refine (eqPartS _ _ _ _ _ _ _ (Kn.C_below B4 h05) (Kn.C_below B4 h15)).mono ?_
  rintro e w5 ⟨rfl, hb5⟩
  obtain ⟨hc5, hf5⟩ := bcell hb5
  rw [eqv_self]
  have B5 := B4.trans (hb5.mono B4.size)
  have z5 : w.heap.size < w5.heap.size := by have := hb5.size; omega
  have y5 : w.heap.size + 1 < w5.heap.size := by have := hb5.size; omega
  go_wp2_with fail
  refine (eqPartS _ _ _ _ _ _ _ (Kn.C_below B5 h06) (Kn.C_below B5 h16)).mono ?_
  rintro e w6 ⟨rfl, hb6⟩
  obtain ⟨hc6, hf6⟩ := bcell hb6
  rw [eqv_self]
  have B6 := B5.trans (hb6.mono B5.size)
  have z6 : w.heap.size < w6.heap.size := by have := hb6.size; omega
  have y6 : w.heap.size + 1 < w6.heap.size := by have := hb6.size; omega
  go_wp2_with fail
  refine (eqFlankS _ _ _ _ _ _ _ (Kn.C_below B6 h07) (Kn.C_below B6 h17)).mono ?_
  rintro e w7 ⟨rfl, hb7⟩
  obtain ⟨hc7, hf7⟩ := bcell hb7
  rw [eqv_self]
  have B7 := B6.trans (hb7.mono B6.size)
  have z7 : w.heap.size < w7.heap.size := by have := hb7.size; omega
  have y7 : w.heap.size + 1 < w7.heap.size := by have := hb7.size; omega
  go_wp2
  go_ret
  exact ⟨rfl, B7⟩
end Go.Proofs.YtpggopdojhodaaaGreatDoor.L
namespace Go.Proofs.YtpggopdojhodaaaGreatDoor.L
open Go.RowKit
set_option linter.unusedVariables false
namespace Kn
variable {α : Type} {d : Kn α} {w w1 : World} {ok : Nat → Prop}
def Src (d : Kn α) (w : World) (ok : Nat → Prop) (A : Option Addr) (ys : List α) : Prop :=
  0 < ys.length → ∃ ad, A = some ad ∧ ∀ j x, ys[j]? = some x → ∃ c, d.K w ok x c ∧ ∀ i u, c[i]? = some u → w.cell? (ad.add (j * d.sz + i)) = some u
theorem Src.flat {ok' : Nat → Prop} {A : Option Addr} {ys : List α} (hd : ∀ w ok ok' x cs, d.K w ok x cs → d.K w ok' x cs) (h : d.C w ok' A ys) : Src d w ok A ys := fun h0 => by
  obtain ⟨ad, e, ho, hl, hx⟩ := h.2 h0
  refine ⟨ad, e, fun j x hj => ?_⟩
  obtain ⟨c, hk, hc⟩ := hx j x hj
  exact ⟨c, hd _ _ _ _ _ hk, hc⟩
theorem Src.one {ad : Addr} {x : α} {cs : List Value} (hk : d.K w ok x cs) (hc : ∀ i u, cs[i]? = some u → w.cell? (ad.add i) = some u) : Src d w ok (some ad) [x] := fun _ =>
  ⟨ad, rfl, fun j y hj => by
    obtain ⟨h1, h2⟩ := List.getElem?_eq_some_iff.1 hj
    simp only [List.length_singleton] at h1
    obtain rfl : j = 0 := by omega
    simp only [List.getElem_cons_zero] at h2
    subst h2
    exact ⟨cs, hk, fun i u hu => by rw [Nat.zero_mul, Nat.zero_add]; exact hc i u hu⟩⟩
theorem Src.cells {A : Option Addr} {ys : List α} (h : Src d w ok A ys) : ∃ news : List Value, news.length = ys.length * d.sz ∧ (∀ j y, ys[j]? = some y → d.K w ok y ((news.drop (j * d.sz)).take d.sz)) ∧
    (∀ u ∈ news, u.oneCell' = true) ∧ (0 < ys.length → ∃ ad, A = some ad ∧ ∀ j u, news[j]? = some u → w.cell? (ad.add j) = some u) := by
  rcases Nat.eq_zero_or_pos ys.length with h0 | h0
  · obtain rfl : ys = [] := List.eq_nil_of_length_eq_zero h0
    exact ⟨[], by simp, by simp, by simp, by simp⟩
  obtain ⟨ad, e, hx⟩ := h h0
  have key : ∀ k, k ≤ ys.length → ∃ news : List Value, news.length = k * d.sz ∧ (∀ j y, j < k → ys[j]? = some y → d.K w ok y ((news.drop (j * d.sz)).take d.sz)) ∧ (∀ u ∈ news, u.oneCell' = true) ∧ ∀ j u, news[j]? = some u → w.cell? (ad.add j) = some u := by
    intro k
    induction k with
    | zero => exact fun _ => ⟨[], by simp, fun j y hj => absurd hj (by omega), by simp, by simp⟩
    | succ k ih =>
      intro hk
      obtain ⟨news, h1, h2, h3, h4⟩ := ih (by omega)
      obtain ⟨c, hkk, hc⟩ := hx k _ (List.getElem?_eq_getElem (by omega))
      have hcl := d.K_len hkk
      refine ⟨news ++ c, by rw [List.length_append, h1, hcl, Nat.succ_mul], fun j y hj hy => ?_, fun u hu => ?_, fun j u hu => ?_⟩
      · by_cases hjk : j < k
        · have hle : j * d.sz + d.sz ≤ k * d.sz := by rw [← Nat.succ_mul]; exact Nat.mul_le_mul_right _ hjk
          rw [List.drop_append_of_le_length (by omega), List.take_append_of_le_length (by rw [List.length_drop]; omega)]
          exact h2 j y hjk hy
        · obtain rfl : j = k := by omega
          rw [List.getElem?_eq_getElem (by omega)] at hy
          obtain rfl := Option.some.inj hy
          rw [← h1, List.drop_left, List.take_of_length_le (by omega)]
          exact hkk
      · rcases List.mem_append.1 hu with hu | hu
        · exact h3 u hu
        · exact d.K_one hkk u hu
      · by_cases hjn : j < news.length
        · rw [List.getElem?_append_left hjn] at hu
          exact h4 j u hu
        · rw [List.getElem?_append_right (by omega)] at hu
          have := hc _ u hu
          rwa [← h1, show news.length + (j - news.length) = j by omega] at this
  obtain ⟨news, h1, h2, h3, h4⟩ := key _ (Nat.le_refl _)
  exact ⟨news, h1, fun j y hj => h2 j y (List.getElem?_eq_some_iff.1 hj).1 hj, h3, fun _ => ⟨ad, e, h4⟩⟩
theorem Rw.app {e : Nat} {v' : Value} {xs ys : List α} {inner news : List Value} (ho' : w1.ownsRow 0 e d.sz v' (xs.length + ys.length) (inner ++ news)) (hl : inner.length = xs.length * d.sz) (hn : news.length = ys.length * d.sz)
    (hi : ∀ j x, xs[j]? = some x → d.K w1 ok x ((inner.drop (j * d.sz)).take d.sz)) (hx : ∀ j y, ys[j]? = some y → d.K w1 ok y ((news.drop (j * d.sz)).take d.sz)) : d.Rw e w1 ok v' (xs ++ ys) := by
  refine ⟨inner ++ news, by rw [List.length_append]; exact ho', fun j y hj => ?_⟩
  by_cases hjl : j < xs.length
  · rw [List.getElem?_append_left hjl] at hj
    have hle : j * d.sz + d.sz ≤ xs.length * d.sz := by rw [← Nat.succ_mul]; exact Nat.mul_le_mul_right _ hjl
    rw [List.drop_append_of_le_length (by omega), List.take_append_of_le_length (by rw [List.length_drop]; omega)]
    exact hi j y hj
  · rw [List.getElem?_append_right (by omega)] at hj
    have := hx _ y hj
    rw [Nat.sub_mul] at this
    have hge : inner.length ≤ j * d.sz := by rw [hl]; exact Nat.mul_le_mul_right _ (by omega)
    rw [List.drop_append, List.drop_eq_nil_of_le hge, List.nil_append, hl]
    exact this
theorem Rw.below {e : Nat} {v : Value} {xs : List α} (hb : Below w.heap.size w w1) (h : d.Rw e w ok v xs) : d.Rw e w1 ok v xs := by
  obtain ⟨inner, ho, hi⟩ := h
  exact ⟨inner, own_move ho (fun k hk => hb.block k (ho.lt k hk).2), fun j x hj => K_below hb (hi j x hj)⟩
theorem Rw.grownK {e : Nat} {v : Value} {xs : List α} {S : Nat → Prop} (hk : Keep S w w1) (hv : ∀ k, v.ownBlock = some k → ¬ S k) (ho : ∀ b, ok b → b < w.heap.size → ¬ S b) (h : d.Rw e w ok v xs) : d.Rw e w1 ok v xs := by
  obtain ⟨inner, hw, hi⟩ := h
  exact ⟨inner, own_move hw (fun k hkk => hk.block k (hw.lt k hkk).2 (hv k hkk)), fun j x hj => d.K_mono (fun b hb => hb.1) (d.K_move (fun b hb => hk.block b hb.2 (ho b hb.1 hb.2)) (d.K_bound (hi j x hj)))⟩
theorem Rw.form1 {e : Nat} {v : Value} {xs : List α} {x : α} (h : d.Rw e w ok v (xs ++ [x])) : ∃ A c, v = .slice A (xs.length + 1) c ∧ xs.length + 1 ≤ c := by
  obtain ⟨A, c, rfl, hc, _⟩ := h.form
  rw [List.length_append, List.length_singleton] at hc ⊢
  exact ⟨A, c, rfl, hc⟩
theorem Rw.own {e : Nat} {v : Value} {xs : List α} (hd : ∀ w ok x cs, d.K w ok x cs → d.O w x cs []) (h : d.Rw e w ok v xs) : (Kn.slice e d).O w xs [v] v.ownBlock.toList := by
  obtain ⟨inner, ho, hi⟩ := h
  refine ⟨v, xs.map (fun x => (x, [])), rfl, by rw [List.map_map]; exact (List.map_id xs).symm, ⟨inner, by rw [List.length_map]; exact ho, fun j p hj => ?_, ?_⟩, ?_⟩
  · rw [List.getElem?_map, Option.map_eq_some_iff] at hj
    obtain ⟨x, hx, rfl⟩ := hj
    exact hd _ _ _ _ (hi j x hx)
  · unfold foot
    rw [show (List.map Prod.snd (xs.map (fun x => (x, ([] : List Nat))))).flatten = [] from by simp]
    rw [List.append_nil]
    cases v.ownBlock <;> simp
  · unfold foot
    rw [show (List.map Prod.snd (xs.map (fun x => (x, ([] : List Nat))))).flatten = [] from by simp]
    rw [List.append_nil]
end Kn
def RetW {α : Type} (e : Nat) (d : Kn α) (ok : Nat → Prop) (xs : List α) (w : World) (en : Ending) (w' : World) : Prop :=
  ∃ v, en = .returned v ∧ d.Rw e w' ok v xs ∧ (∀ b, v.ownBlock = some b → w.heap.size ≤ b) ∧ Below w.heap.size w w'
def nobody : Nat → Prop := fun _ => False
section
variable {α : Type} {d : Kn α} {P : Program} (w : World) {ok : Nat → Prop}
theorem run_append_nil_src (base : Nat) (t ty e : TypeId) (i : TypeInfo) (size : Nat) (ht : P.underlying t = some (.slice e)) (hi : P.info? e = some i)
    (v : Value) (n : Nat) (xs : List Value) (hown : w.ownsRow base e size v n xs) (c : Nat) : (Builtin.append_ #[t, t] ty #[v, .slice none 0 c]).run P w = .ok v w := by
  rcases hown.2 with ⟨rfl, rfl⟩ | ⟨g, cap, cur, rfl, _, _, hnc, _⟩
  · simp [Builtin.append_, run_underlying ht, sizeOf, typeInfo, hi, Builtin.lenOf, Builtin.firstCells]
  · simp [Builtin.append_, run_underlying ht, sizeOf, typeInfo, hi, Builtin.lenOf, Builtin.firstCells, hnc, storeCells]
theorem run_append_rw (t ty e : TypeId) (i : TypeInfo) (z : Value) (bytes : Nat) (ht : P.underlying t = some (.slice e)) (hi : P.info? e = some i) (hz : i.zero = some z)
    (hsize : i.size = d.sz) (hby : i.bytes = bytes) (hzs : z.cells.size = d.sz) (hsz : 0 < d.sz)
    (v : Value) (xs ys : List α) (hown : d.Rw e w ok v xs) (hok : ∀ b, ok b → ¬ v.ownBlock = some b) (A : Option Addr) (m c : Nat) (hm : m = ys.length) (hr : Kn.Src d w ok A ys)
    (h63 : xs.length + m ≤ maxLen) (hbytes : (xs.length + m) * bytes ≤ 140737488355328) :
    ∃ v' w', (Builtin.append_ #[t, t] ty #[v, .slice A m c]).run P w = .ok v' w' ∧ d.Rw e w' ok v' (xs ++ ys) ∧ w.grownBy w' v.ownBlock ∧ (v'.ownBlock = v.ownBlock ∨ v'.ownBlock = some w.heap.size) := by
  subst hm
  obtain ⟨news, n1, n2, n3, n4⟩ := hr.cells
  obtain ⟨inner, ho, hinner⟩ := hown
  have keep : ∀ {w1 : World}, w.grownBy w1 v.ownBlock → ∀ {x : α} {cs : List Value}, d.K w ok x cs → d.K w1 ok x cs := fun hg x cs hk =>
    d.K_mono (fun b hb => hb.1) (d.K_move (fun b hb => hg.block b hb.2 (fun e => hok b hb.1 e.symm)) (d.K_bound hk))
  rcases A with _ | ad
  · have h0 : ys.length = 0 := by
      rcases Nat.eq_zero_or_pos ys.length with h0 | h0
      · exact h0
      · obtain ⟨ad, h, _⟩ := n4 h0
        cases h
    obtain rfl : ys = [] := List.eq_nil_of_length_eq_zero h0
    exact ⟨v, w, run_append_nil_src w 0 t ty e i d.sz ht hi v xs.length inner ho c, by rw [List.append_nil]; exact ⟨inner, ho, hinner⟩, World.grownBy.refl w _, .inl rfl⟩
  · have hcells : ∀ j u, news[j]? = some u → w.cell? (ad.add j) = some u := by
      intro j u hu
      rcases Nat.eq_zero_or_pos ys.length with h0 | h0
      · have hn : news = [] := List.eq_nil_of_length_eq_zero (by rw [n1, h0, Nat.zero_mul])
        subst hn
        simp at hu
      · obtain ⟨ad', h, hc⟩ := n4 h0
        injection h with h
        subst h
        exact hc j u hu
    obtain ⟨v', w', hrun, h2, h3, _, h5⟩ := run_append_own_at (P := P) w 0 t ty e i z d.sz bytes ht hi hz hsize hby hzs hsz v xs.length inner ho ad ys.length c news n1 hcells n3 h63 hbytes (Nat.zero_le _)
    exact ⟨v', w', hrun, Kn.Rw.app h2 ho.1 n1 (fun j x hj => keep h3 (hinner j x hj)) (fun j y hj => keep h3 (n2 j y hj)), h3, h5⟩
theorem wp_append_rw {o : Oper} {a : Act} {K : Act → World → Prop} {Q : Exit → Act → World → Prop} (s x : Operand) (t : TypeId)
    (ho : o.op = .call { callee := .builtin .append, args := #[s, x], argTypes := #[t, t] })
    (e : TypeId) (i : TypeInfo) (z : Value) (bytes : Nat) (ht : P.underlying t = some (.slice e)) (hi : P.info? e = some i) (hz : i.zero = some z)
    (hsize : i.size = d.sz) (hby : i.bytes = bytes) (hzs : z.cells.size = d.sz) (hsz : 0 < d.sz)
    (v : Value) (xs ys : List α) (hs : a.eval s = v) (hown : d.Rw e w ok v xs) (hok : ∀ b, ok b → ¬ v.ownBlock = some b) (A : Option Addr) (m c : Nat) (hx : a.eval x = .slice A m c) (hm : m = ys.length) (hr : Kn.Src d w ok A ys)
    (h63 : xs.length + m ≤ maxLen) (hbytes : (xs.length + m) * bytes ≤ 140737488355328)
    (h : ∀ v' w', d.Rw e w' ok v' (xs ++ ys) → w.grownBy w' v.ownBlock → (v'.ownBlock = v.ownBlock ∨ v'.ownBlock = some w.heap.size) → K (a.put o.dst v') w') : o.wp P a w K Q := by
  obtain ⟨v', w', hrun, h2, h3, h4⟩ := run_append_rw (P := P) w t o.type e i z bytes ht hi hz hsize hby hzs hsz v xs ys hown hok A m c hm hr h63 hbytes
  unfold Oper.wp execOp
  simp only [ho, resolve, invoke, builtin, Sem.run_bind, Sem.run_pure, Result.andThen_ok, List.map_toArray, List.map_cons, List.map_nil, hs, hx, hrun]
  exact h v' w' h2 h3 h4
theorem wpList_append_rw {ops : Array Oper} {rest : List Oper} {o : Oper} {a : Act} {Q : Exit → Act → World → Prop} (hgd : o.guard = none) (s x : Operand) (t : TypeId)
    (ho : o.op = .call { callee := .builtin .append, args := #[s, x], argTypes := #[t, t] })
    (e : TypeId) (i : TypeInfo) (z : Value) (bytes : Nat) (ht : P.underlying t = some (.slice e)) (hi : P.info? e = some i) (hz : i.zero = some z)
    (hsize : i.size = d.sz) (hby : i.bytes = bytes) (hzs : z.cells.size = d.sz) (hsz : 0 < d.sz)
    (v : Value) (xs ys : List α) (hs : a.eval s = v) (hown : d.Rw e w ok v xs) (hok : ∀ b, ok b → ¬ v.ownBlock = some b) (A : Option Addr) (m c : Nat) (hx : a.eval x = .slice A m c) (hm : m = ys.length) (hr : Kn.Src d w ok A ys)
    (h63 : xs.length + m ≤ maxLen) (hbytes : (xs.length + m) * bytes ≤ 140737488355328)
    (h : ∀ v' w', d.Rw e w' ok v' (xs ++ ys) → w.grownBy w' v.ownBlock → (v'.ownBlock = v.ownBlock ∨ v'.ownBlock = some w.heap.size) → wpList P ops Q rest (a.put o.dst v') w') : wpList P ops Q (o :: rest) a w :=
  wpList_plain hgd fun _ hK => wp_append_rw w s x t ho e i z bytes ht hi hz hsize hby hzs hsz v xs ys hs hown hok A m c hx hm hr h63 hbytes fun v' w' h2 h3 h4 => hK _ _ (h v' w' h2 h3 h4)
theorem step_append_rw {ops : Array Oper} {o : Oper} {a : Act} {K : Act → World → Prop} {Q : Exit → Act → World → Prop} {E : Prop} (hgd : o.guard = none) (s x : Operand) (t : TypeId)
    (ho : o.op = .call { callee := .builtin .append, args := #[s, x], argTypes := #[t, t] })
    (e : TypeId) (i : TypeInfo) (z : Value) (bytes : Nat) (ht : P.underlying t = some (.slice e)) (hi : P.info? e = some i) (hz : i.zero = some z)
    (hsize : i.size = d.sz) (hby : i.bytes = bytes) (hzs : z.cells.size = d.sz) (hsz : 0 < d.sz)
    (v : Value) (xs ys : List α) (hs : a.eval s = v) (hown : d.Rw e w ok v xs) (hok : ∀ b, ok b → ¬ v.ownBlock = some b) (A : Option Addr) (m c : Nat) (hx : a.eval x = .slice A m c) (hm : m = ys.length) (hr : Kn.Src d w ok A ys)
    (h63 : xs.length + m ≤ maxLen) (hbytes : (xs.length + m) * bytes ≤ 140737488355328)
    (h : ∀ v' w', d.Rw e w' ok v' (xs ++ ys) → w.grownBy w' v.ownBlock → (v'.ownBlock = v.ownBlock ∨ v'.ownBlock = some w.heap.size) → K (a.put o.dst v') w') :
    if Region.wanted o (yielded ops a.tmps) = true then Oper.wp P o a w K Q else E := by
  have hw : Region.wanted o (yielded ops a.tmps) = true := by simp [Region.wanted, hgd]
  rw [if_pos hw]
  exact wp_append_rw w s x t ho e i z bytes ht hi hz hsize hby hzs hsz v xs ys hs hown hok A m c hx hm hr h63 hbytes h
end
end Go.Proofs.YtpggopdojhodaaaGreatDoor.L
namespace Go.Proofs.YtpggopdojhodaaaGreatDoor.L
open Go.RowKit
set_option linter.unusedVariables false
set_option linter.unusedSimpArgs false
def Blk (w : World) (g : Nat) (t : TypeId) (cs : List Value) : Prop := w.heap[g]? = some (.cells cs.toArray t (0, 0))
namespace Blk
variable {w w1 : World} {g : Nat} {t : TypeId} {cs : List Value}
theorem lt (h : Blk w g t cs) : g < w.heap.size := lt_of_get h
theorem cell (h : Blk w g t cs) (i : Nat) {u : Value} (hu : cs[i]? = some u) : w.cell? ⟨g, i, none⟩ = some u := by
  rw [cell_of_row w g i _ t (0, 0) h]
  simpa using hu
theorem frozen (h : Blk w g t cs) (i : Nat) : w.frozen? ⟨g, i, none⟩ = false := by
  unfold Blk at h
  simp [World.frozen?, h]
theorem new (w : World) (t : TypeId) (cs : List Value) {g : Nat} (hg : g = w.heap.size) : Blk (w.alloc (.cells cs.toArray t)) g t cs := by subst hg; exact heap_alloc_new w _
theorem alloc (h : Blk w g t cs) (o : Obj) : Blk (w.alloc o) g t cs := (Below.heap_alloc w o g h.lt).trans h
theorem set_ (h : Blk w g t cs) (i : Nat) (u : Value) : Blk (w.setCell ⟨g, i, none⟩ u) g t (cs.set i u) := by
  unfold Blk at h ⊢
  simp [World.setCell, Array.getElem?_modify, h]
theorem far (h : Blk w g t cs) {p : Addr} (hp : g ≠ p.block) (u : Value) : Blk (w.setCell p u) g t cs := (Below.heap_setCell w p u g hp).trans h
theorem below {B : Nat} (h : Blk w g t cs) (hb : Below B w w1) (hg : g < B) : Blk w1 g t cs := (hb.block g hg).trans h
theorem keep {S : Nat → Prop} (h : Blk w g t cs) (hb : Keep S w w1) (hg : ¬ S g) : Blk w1 g t cs := (hb.block g h.lt hg).trans h
end Blk
theorem toStep (x : Step) (w : World) : Calls Tryz.prog 72 #[x.v] w (RetV x.v w) := by
  obtain ⟨a0, a1⟩ := x
  go_enter Tryz.func72, Tryz.ntmps72
  go_wp2
  exact bodyPost_ret (v := .agg #[.int .i64 a0, .int .i64 a1]) (by simp [results, Tryz.results72, go_sem]) rfl ⟨rfl, ((below_alloc _ _).alloc (by simp) _).alloc (by simp; omega) _⟩
theorem info85 : (Tryz.prog.info? 85).map (fun i => (i.zero, i.size, i.bytes)) = some (some (.agg #[.int .i64 0, .int .i64 0]), 2, 16) := by kernel_rfl
set_option maxRecDepth 100000 in
set_option maxHeartbeats 1000000 in
theorem toStepS {ok : Nat → Prop} (A : Option Addr) (c : Nat) (xs : List Step) (w : World) (hx : stepK.C w ok A xs) (hn : xs.length ≤ 1048576) :
    Calls Tryz.prog 48 #[.slice A xs.length c] w (RetS 85 stepK xs w) := by
  obtain ⟨i0, hi, hz0, hz1, hz2⟩ := info_parts info85
  go_enter Tryz.func48, Tryz.ntmps48
  go_wp2_with (at_make; refine wpList_make_full _ rfl _ _ 60 rfl 0 85 i0 _ 2 Tryz.underlying60 hi hz0 hz1 .i64 .i64 _ _ xs.length rfl rfl rfl rfl (by rw [hz2]; omega) (by unfold maxLen; omega) (Nat.zero_le _) ?_; intro w0 hown hg0)
  go_loopw [4] (fun i wr => ∃ k : Nat, k ≤ xs.length ∧ i = .int .i64 k ∧ Filled 85 2 Step.cs xs w.heap.size k wr ∧ Below w.heap.size w wr) (fun i _ => xs.length - (intOf i).toNat)
  case atStart => exact ⟨0, Nat.zero_le _, rfl, Filled.start hown, ⟨hg0.os, hg0.tape, hg0.output, hg0.size, fun b hb => hg0.block b hb (by simp)⟩⟩
  case round =>
    obtain ⟨k, hk, rfl, HF, hb⟩ := hrel
    by_cases hlt : k < xs.length
    · obtain ⟨a0, rfl, y0, y1, E, g0, g1⟩ := stepK_at (Kn.C_below hb hx) k hlt
      have i0 : (0 : Int) ≤ (k : Int) := Int.natCast_nonneg _
      have i1 : (k : Int) < (xs.length : Int) := by omega
      have hgl := HF.lt
      go_wp2_with fail
      refine (toStep ⟨y0, y1⟩ _).mono ?_
      rintro e w1 ⟨rfl, hb1⟩
      obtain ⟨inner, ho, hf⟩ := HF.below hb1
      have HF := Lib.hid hf
      clear hf
      go_wp2_with (refine wpList_store_own rfl _ _ _ rfl [.int .i64 y0, .int .i64 y1] ho rfl rfl ?_ (size_of_info info85) rfl ?_; (simp; omega); intro w2 ho2 hg2)
      go_roundw
      case rel => exact ⟨k + 1, by omega, by go_num, Filled.snoc HF.out E.out rfl ho.1 ho2, below_grown (hb.trans (hb1.mono hb.size)) hg2 (Nat.le_refl _) (Nat.le_trans hb.size hb1.size)⟩
      case measure => simp [intOf]; omega
    · obtain rfl : k = xs.length := by omega
      go_wp2
      go_ret
      exact ⟨_, _, _, rfl, HF.done (fun w x => stepK_own w x), fun b hb => by rw [List.mem_singleton.1 hb]; exact Nat.le_refl _, hb⟩
theorem toLie (x : Lie) (w : World) : Calls Tryz.prog 73 #[x.v] w (RetV x.v w) := by
  obtain ⟨a0, a1⟩ := x
  go_enter Tryz.func73, Tryz.ntmps73
  go_wp2
  exact bodyPost_ret (v := .agg #[.int .i64 a0, .int .i64 a1]) (by simp [results, Tryz.results73, go_sem]) rfl ⟨rfl, ((below_alloc _ _).alloc (by simp) _).alloc (by simp; omega) _⟩
theorem info89 : (Tryz.prog.info? 89).map (fun i => (i.zero, i.size, i.bytes)) = some (some (.agg #[.int .i64 0, .int .i64 0]), 2, 16) := by kernel_rfl
set_option maxRecDepth 100000 in
set_option maxHeartbeats 1000000 in
theorem toLieS {ok : Nat → Prop} (A : Option Addr) (c : Nat) (xs : List Lie) (w : World) (hx : lieK.C w ok A xs) (hn : xs.length ≤ 1048576) :
    Calls Tryz.prog 49 #[.slice A xs.length c] w (RetS 89 lieK xs w) := by
  obtain ⟨i0, hi, hz0, hz1, hz2⟩ := info_parts info89
  go_enter Tryz.func49, Tryz.ntmps49
  go_wp2_with (at_make; refine wpList_make_full _ rfl _ _ 61 rfl 0 89 i0 _ 2 Tryz.underlying61 hi hz0 hz1 .i64 .i64 _ _ xs.length rfl rfl rfl rfl (by rw [hz2]; omega) (by unfold maxLen; omega) (Nat.zero_le _) ?_; intro w0 hown hg0)
  go_loopw [4] (fun i wr => ∃ k : Nat, k ≤ xs.length ∧ i = .int .i64 k ∧ Filled 89 2 Lie.cs xs w.heap.size k wr ∧ Below w.heap.size w wr) (fun i _ => xs.length - (intOf i).toNat)
  case atStart => exact ⟨0, Nat.zero_le _, rfl, Filled.start hown, ⟨hg0.os, hg0.tape, hg0.output, hg0.size, fun b hb => hg0.block b hb (by simp)⟩⟩
  case round =>
    obtain ⟨k, hk, rfl, HF, hb⟩ := hrel
    by_cases hlt : k < xs.length
    · obtain ⟨a0, rfl, y0, y1, E, g0, g1⟩ := lieK_at (Kn.C_below hb hx) k hlt
      have i0 : (0 : Int) ≤ (k : Int) := Int.natCast_nonneg _
      have i1 : (k : Int) < (xs.length : Int) := by omega
      have hgl := HF.lt
      go_wp2_with fail
      refine (toLie ⟨y0, y1⟩ _).mono ?_
      rintro e w1 ⟨rfl, hb1⟩
      obtain ⟨inner, ho, hf⟩ := HF.below hb1
      have HF := Lib.hid hf
      clear hf
      go_wp2_with (refine wpList_store_own rfl _ _ _ rfl [.int .i64 y0, .int .i64 y1] ho rfl rfl ?_ (size_of_info info89) rfl ?_; (simp; omega); intro w2 ho2 hg2)
      go_roundw
      case rel => exact ⟨k + 1, by omega, by go_num, Filled.snoc HF.out E.out rfl ho.1 ho2, below_grown (hb.trans (hb1.mono hb.size)) hg2 (Nat.le_refl _) (Nat.le_trans hb.size hb1.size)⟩
      case measure => simp [intOf]; omega
    · obtain rfl : k = xs.length := by omega
      go_wp2
      go_ret
      exact ⟨_, _, _, rfl, HF.done (fun w x => lieK_own w x), fun b hb => by rw [List.mem_singleton.1 hb]; exact Nat.le_refl _, hb⟩
theorem toPart (x : Part) (w : World) : Calls Tryz.prog 74 #[x.v] w (RetV x.v w) := by
  obtain ⟨a0, a1, a2⟩ := x
  go_enter Tryz.func74, Tryz.ntmps74
  go_wp2
  exact bodyPost_ret (v := .agg #[.int .i64 a0, .int .i64 a1, .int .i64 a2]) (by simp [results, Tryz.results74, go_sem]) rfl ⟨rfl, ((below_alloc _ _).alloc (by simp) _).alloc (by simp; omega) _⟩
theorem info146 : (Tryz.prog.info? 146).map (fun i => (i.zero, i.size, i.bytes)) = some (some (.agg #[.int .i64 0, .int .i64 0, .int .i64 0]), 3, 24) := by kernel_rfl
set_option maxRecDepth 100000 in
set_option maxHeartbeats 1000000 in
theorem toPartS {ok : Nat → Prop} (A : Option Addr) (c : Nat) (xs : List Part) (w : World) (hx : partK.C w ok A xs) (hn : xs.length ≤ 1048576) :
    Calls Tryz.prog 51 #[.slice A xs.length c] w (RetS 146 partK xs w) := by
  obtain ⟨i0, hi, hz0, hz1, hz2⟩ := info_parts info146
  go_enter Tryz.func51, Tryz.ntmps51
  go_wp2_with (at_make; refine wpList_make_full _ rfl _ _ 62 rfl 0 146 i0 _ 3 Tryz.underlying62 hi hz0 hz1 .i64 .i64 _ _ xs.length rfl rfl rfl rfl (by rw [hz2]; omega) (by unfold maxLen; omega) (Nat.zero_le _) ?_; intro w0 hown hg0)
  go_loopw [4] (fun i wr => ∃ k : Nat, k ≤ xs.length ∧ i = .int .i64 k ∧ Filled 146 3 Part.cs xs w.heap.size k wr ∧ Below w.heap.size w wr) (fun i _ => xs.length - (intOf i).toNat)
  case atStart => exact ⟨0, Nat.zero_le _, rfl, Filled.start hown, ⟨hg0.os, hg0.tape, hg0.output, hg0.size, fun b hb => hg0.block b hb (by simp)⟩⟩
  case round =>
    obtain ⟨k, hk, rfl, HF, hb⟩ := hrel
    by_cases hlt : k < xs.length
    · obtain ⟨a0, rfl, y0, y1, y2, E, g0, g1, g2⟩ := partK_at (Kn.C_below hb hx) k hlt
      have i0 : (0 : Int) ≤ (k : Int) := Int.natCast_nonneg _
      have i1 : (k : Int) < (xs.length : Int) := by omega
      have hgl := HF.lt
      go_wp2_with fail
      refine (toPart ⟨y0, y1, y2⟩ _).mono ?_
      rintro e w1 ⟨rfl, hb1⟩
      obtain ⟨inner, ho, hf⟩ := HF.below hb1
      have HF := Lib.hid hf
      clear hf
      go_wp2_with (refine wpList_store_own rfl _ _ _ rfl [.int .i64 y0, .int .i64 y1, .int .i64 y2] ho rfl rfl ?_ (size_of_info info146) rfl ?_; (simp; omega); intro w2 ho2 hg2)
      go_roundw
      case rel => exact ⟨k + 1, by omega, by go_num, Filled.snoc HF.out E.out rfl ho.1 ho2, below_grown (hb.trans (hb1.mono hb.size)) hg2 (Nat.le_refl _) (Nat.le_trans hb.size hb1.size)⟩
      case measure => simp [intOf]; omega
    · obtain rfl : k = xs.length := by omega
      go_wp2
      go_ret
      exact ⟨_, _, _, rfl, HF.done (fun w x => partK_own w x), fun b hb => by rw [List.mem_singleton.1 hb]; exact Nat.le_refl _, hb⟩
theorem toFlank (x : Flank) (w : World) : Calls Tryz.prog 75 #[x.v] w (RetV x.v w) := by
  obtain ⟨a0, a1, a2, a3⟩ := x
  go_enter Tryz.func75, Tryz.ntmps75
  go_wp2
  exact bodyPost_ret (v := .agg #[.int .i64 a0, .int .i64 a1, .int .i64 a2, .int .i64 a3]) (by simp [results, Tryz.results75, go_sem]) rfl ⟨rfl, ((below_alloc _ _).alloc (by simp) _).alloc (by simp; omega) _⟩
theorem info91 : (Tryz.prog.info? 91).map (fun i => (i.zero, i.size, i.bytes)) = some (some (.agg #[.int .i64 0, .int .i64 0, .int .i64 0, .int .i64 0]), 4, 32) := by kernel_rfl
set_option maxRecDepth 100000 in
set_option maxHeartbeats 1000000 in
theorem toFlankS {ok : Nat → Prop} (A : Option Addr) (c : Nat) (xs : List Flank) (w : World) (hx : flankK.C w ok A xs) (hn : xs.length ≤ 1048576) :
    Calls Tryz.prog 52 #[.slice A xs.length c] w (RetS 91 flankK xs w) := by
  obtain ⟨i0, hi, hz0, hz1, hz2⟩ := info_parts info91
  go_enter Tryz.func52, Tryz.ntmps52
  go_wp2_with (at_make; refine wpList_make_full _ rfl _ _ 63 rfl 0 91 i0 _ 4 Tryz.underlying63 hi hz0 hz1 .i64 .i64 _ _ xs.length rfl rfl rfl rfl (by rw [hz2]; omega) (by unfold maxLen; omega) (Nat.zero_le _) ?_; intro w0 hown hg0)
  go_loopw [4] (fun i wr => ∃ k : Nat, k ≤ xs.length ∧ i = .int .i64 k ∧ Filled 91 4 Flank.cs xs w.heap.size k wr ∧ Below w.heap.size w wr) (fun i _ => xs.length - (intOf i).toNat)
  case atStart => exact ⟨0, Nat.zero_le _, rfl, Filled.start hown, ⟨hg0.os, hg0.tape, hg0.output, hg0.size, fun b hb => hg0.block b hb (by simp)⟩⟩
  case round =>
    obtain ⟨k, hk, rfl, HF, hb⟩ := hrel
    by_cases hlt : k < xs.length
    · obtain ⟨a0, rfl, y0, y1, y2, y3, E, g0, g1, g2, g3⟩ := flankK_at (Kn.C_below hb hx) k hlt
      have i0 : (0 : Int) ≤ (k : Int) := Int.natCast_nonneg _
      have i1 : (k : Int) < (xs.length : Int) := by omega
      have hgl := HF.lt
      go_wp2_with fail
      refine (toFlank ⟨y0, y1, y2, y3⟩ _).mono ?_
      rintro e w1 ⟨rfl, hb1⟩
      obtain ⟨inner, ho, hf⟩ := HF.below hb1
      have HF := Lib.hid hf
      clear hf
      go_wp2_with (refine wpList_store_own rfl _ _ _ rfl [.int .i64 y0, .int .i64 y1, .int .i64 y2, .int .i64 y3] ho rfl rfl ?_ (size_of_info info91) rfl ?_; (simp; omega); intro w2 ho2 hg2)
      go_roundw
      case rel => exact ⟨k + 1, by omega, by go_num, Filled.snoc HF.out E.out rfl ho.1 ho2, below_grown (hb.trans (hb1.mono hb.size)) hg2 (Nat.le_refl _) (Nat.le_trans hb.size hb1.size)⟩
      case measure => simp [intOf]; omega
    · obtain rfl : k = xs.length := by omega
      go_wp2
      go_ret
      exact ⟨_, _, _, rfl, HF.done (fun w x => flankK_own w x), fun b hb => by rw [List.mem_singleton.1 hb]; exact Nat.le_refl _, hb⟩
theorem info3 : (Tryz.prog.info? 3).map (fun i => (i.zero, i.size, i.bytes)) = some (some (.int .i64 0), 1, 8) := by kernel_rfl
theorem intK_own (w : World) (x : Int) : Kn.int.O w x [.int .i64 x] [] := ⟨rfl, rfl⟩
set_option maxRecDepth 100000 in
set_option maxHeartbeats 1000000 in
theorem toIntS {ok : Nat → Prop} (A : Option Addr) (c : Nat) (xs : List Int) (w : World) (hx : Kn.int.C w ok A xs) (hn : xs.length ≤ 1048576) :
    Calls Tryz.prog 50 #[.slice A xs.length c] w (RetS 3 Kn.int xs w) := by
  obtain ⟨i0, hi, hz0, hz1, hz2⟩ := info_parts info3
  go_enter Tryz.func50, Tryz.ntmps50
  go_wp2_with (at_make; refine wpList_make_full _ rfl _ _ 53 rfl 0 3 i0 _ 1 Tryz.underlying53 hi hz0 hz1 .i64 .i64 _ _ xs.length rfl rfl rfl rfl (by rw [hz2]; omega) (by unfold maxLen; omega) (Nat.zero_le _) ?_; intro w0 hown hg0)
  go_loopw [4] (fun i wr => ∃ k : Nat, k ≤ xs.length ∧ i = .int .i64 k ∧ Filled 3 1 (fun x : Int => [.int .i64 x]) xs w.heap.size k wr ∧ Below w.heap.size w wr) (fun i _ => xs.length - (intOf i).toNat)
  case atStart => exact ⟨0, Nat.zero_le _, rfl, Filled.start hown, ⟨hg0.os, hg0.tape, hg0.output, hg0.size, fun b hb => hg0.block b hb (by simp)⟩⟩
  case round =>
    obtain ⟨k, hk, rfl, HF, hb⟩ := hrel
    by_cases hlt : k < xs.length
    · obtain ⟨a0, rfl, y0, E, g0⟩ := int_at (Kn.C_below hb hx) k hlt
      have i0 : (0 : Int) ≤ (k : Int) := Int.natCast_nonneg _
      have i1 : (k : Int) < (xs.length : Int) := by omega
      have hgl := HF.lt
      obtain ⟨inner, ho, hf⟩ := HF
      have HF := Lib.hid hf
      clear hf
      have hil : k < inner.length := by rw [ho.1]; omega
      have hcell : wr.cell? ⟨w.heap.size, k, none⟩ = some inner[k] := by rw [ho.cellAt _ (by omega)]; exact List.getElem?_eq_getElem hil
      have hfr : wr.frozen? ⟨w.heap.size, k, none⟩ = false := ho.frozenAt _
      obtain ⟨ho2, hg2⟩ := ho.stored k (.int .i64 y0)
      have HO2 : Hid ((wr.setCell ⟨w.heap.size, k, none⟩ (.int .i64 y0)).ownsRow 0 3 1 (.slice (some ⟨w.heap.size, 0, none⟩) xs.length xs.length) xs.length (setAll inner (k * 1) [.int .i64 y0])) := Lib.hid (by rw [Nat.mul_one]; exact ho2)
      have HL := Lib.hid ho.1
      clear ho ho2
      go_wp2
      go_roundw
      case rel => exact ⟨k + 1, by omega, by go_num, Filled.snoc HF.out E.out rfl HL.out HO2.out, below_grown hb hg2 (Nat.le_refl _) hb.size⟩
      case measure => simp [intOf]; omega
    · obtain rfl : k = xs.length := by omega
      go_wp2
      go_ret
      exact ⟨_, _, _, rfl, HF.done (fun w x => intK_own w x), fun b hb => by rw [List.mem_singleton.1 hb]; exact Nat.le_refl _, hb⟩
abbrev rK : Kn Route := routeK 85 89 3 146 91
theorem nodup_range {F G : List Nat} {B : Nat} (hF : F.Nodup) (hG : G.Nodup) (h1 : ∀ b, b ∈ F → b < B) (h2 : ∀ b, b ∈ G → B ≤ b) : (F ++ G).Nodup := List.nodup_append.2 ⟨hF, hG, fun a ha b hb => by have := h1 a ha; have := h2 b hb; omega⟩
theorem routeK_own {w : World} {x : Route} {v2 v3 v4 v5 v6 v7 : Value} {F2 F3 F4 F5 F6 F7 : List Nat} (h2 : (Kn.slice 85 stepK).O w x.steps [v2] F2) (h3 : (Kn.slice 89 lieK).O w x.lies [v3] F3) (h4 : (Kn.slice 3 Kn.int).O w x.crosses [v4] F4) (h5 : (Kn.slice 146 partK).O w x.parts [v5] F5) (h6 : (Kn.slice 146 partK).O w x.over [v6] F6) (h7 : (Kn.slice 91 flankK).O w x.flanks [v7] F7) (n2 : (F2 ++ (F3 ++ (F4 ++ (F5 ++ (F6 ++ F7))))).Nodup) :
    rK.O w x [.int .i64 x.frm, .int .i64 x.til, v2, v3, v4, v5, v6, v7] (F2 ++ (F3 ++ (F4 ++ (F5 ++ (F6 ++ F7))))) := by
  have n3 := (List.nodup_append.1 n2).2.1
  have n4 := (List.nodup_append.1 n3).2.1
  have n5 := (List.nodup_append.1 n4).2.1
  have n6 := (List.nodup_append.1 n5).2.1
  exact ⟨_, _, [], _, rfl, rfl, ⟨rfl, rfl⟩, ⟨_, _, [], _, rfl, rfl, ⟨rfl, rfl⟩, ⟨_, _, F2, (F3 ++ (F4 ++ (F5 ++ (F6 ++ F7)))), rfl, rfl, h2, ⟨_, _, F3, (F4 ++ (F5 ++ (F6 ++ F7))), rfl, rfl, h3, ⟨_, _, F4, (F5 ++ (F6 ++ F7)), rfl, rfl, h4, ⟨_, _, F5, (F6 ++ F7), rfl, rfl, h5, ⟨_, _, F6, F7, rfl, rfl, h6, h7, n6⟩, n5⟩, n4⟩, n3⟩, n2⟩, n2⟩, n2⟩
def RetRoute (x : Route) (w : World) (e : Ending) (w' : World) : Prop :=
  ∃ A2 c2 A3 c3 A4 c4 A5 c5 A6 c6 A7 c7 F, e = .returned (.agg #[.int .i64 x.frm, .int .i64 x.til, .slice A2 x.steps.length c2, .slice A3 x.lies.length c3, .slice A4 x.crosses.length c4, .slice A5 x.parts.length c5, .slice A6 x.over.length c6, .slice A7 x.flanks.length c7]) ∧ rK.O w' x [.int .i64 x.frm, .int .i64 x.til, .slice A2 x.steps.length c2, .slice A3 x.lies.length c3, .slice A4 x.crosses.length c4, .slice A5 x.parts.length c5, .slice A6 x.over.length c6, .slice A7 x.flanks.length c7] F ∧ (∀ b, b ∈ F → w.heap.size ≤ b) ∧ Below w.heap.size w w'
set_option maxRecDepth 100000 in
set_option maxHeartbeats 4000000 in
theorem toRoute {ok : Nat → Prop} (x : Route) (A2 A3 A4 A5 A6 A7 : Option Addr) (c2 c3 c4 c5 c6 c7 : Nat) (w : World) (h2 : stepK.C w ok A2 x.steps) (h3 : lieK.C w ok A3 x.lies) (h4 : Kn.int.C w ok A4 x.crosses) (h5 : partK.C w ok A5 x.parts) (h6 : partK.C w ok A6 x.over) (h7 : flankK.C w ok A7 x.flanks) (hn : x.n ≤ 1048576) :
    Calls Tryz.prog 25 #[.agg #[.int .i64 x.frm, .int .i64 x.til, .slice A2 x.steps.length c2, .slice A3 x.lies.length c3, .slice A4 x.crosses.length c4, .slice A5 x.parts.length c5, .slice A6 x.over.length c6, .slice A7 x.flanks.length c7]] w (RetRoute x w) := by
  unfold Route.n at hn
  go_enter Tryz.func25, Tryz.ntmps25
  go_wp2_with fail
  obtain ⟨W1, hW, B1, hz1, G1, Z1, O1⟩ : ∃ W, W = ((w.alloc (.cells #[.int .i64 x.frm, .int .i64 x.til, .slice A2 x.steps.length c2, .slice A3 x.lies.length c3, .slice A4 x.crosses.length c4, .slice A5 x.parts.length c5, .slice A6 x.over.length c6, .slice A7 x.flanks.length c7] 57)).alloc (.cells #[.int .i64 0, .int .i64 0, .slice none 0 0, .slice none 0 0, .slice none 0 0, .slice none 0 0, .slice none 0 0, .slice none 0 0] 65)).alloc (.cells #[.int .i64 x.frm, .int .i64 x.til, .slice none 0 0, .slice none 0 0, .slice none 0 0, .slice none 0 0, .slice none 0 0, .slice none 0 0] 65) ∧ Below w.heap.size w W ∧ w.heap.size + 2 < W.heap.size ∧ Hid (Blk W w.heap.size 57 [.int .i64 x.frm, .int .i64 x.til, .slice A2 x.steps.length c2, .slice A3 x.lies.length c3, .slice A4 x.crosses.length c4, .slice A5 x.parts.length c5, .slice A6 x.over.length c6, .slice A7 x.flanks.length c7]) ∧ Hid (Blk W (w.heap.size + 1) 65 [.int .i64 0, .int .i64 0, .slice none 0 0, .slice none 0 0, .slice none 0 0, .slice none 0 0, .slice none 0 0, .slice none 0 0]) ∧ Hid (Blk W (w.heap.size + 2) 65 [.int .i64 x.frm, .int .i64 x.til, .slice none 0 0, .slice none 0 0, .slice none 0 0, .slice none 0 0, .slice none 0 0, .slice none 0 0]) :=
    ⟨_, rfl, ((below_alloc _ _).alloc (by simp) _).alloc (by simp; omega) _, by simp, Lib.hid (((Blk.new w _ _ rfl).alloc _).alloc _), Lib.hid ((Blk.new _ _ _ (by simp)).alloc _), Lib.hid (Blk.new _ _ _ (by simp))⟩
  rw [← hW]
  clear hW
  refine (toStepS _ _ _ _ (Kn.C_below B1 h2) (by omega)).mono ?_
  rintro e w2 ⟨D2, d2, F2, rfl, o2, f2, hb⟩
  have T2 : Hid (∀ b, b ∈ F2 → b < w2.heap.size) := Lib.hid ((Kn.slice 85 stepK).O_lt o2)
  have o2 := Lib.hid o2
  have f2 := Lib.hid f2
  have G := Lib.hid (G1.out.below hb (by omega))
  have Z := Lib.hid (Z1.out.below hb (by omega))
  have O := Lib.hid (O1.out.below hb (by omega))
  have hs2 := hb.size
  have y0 : w.heap.size < w2.heap.size := by omega
  have y1 : w.heap.size + 1 < w2.heap.size := by omega
  have y2 : w.heap.size + 2 < w2.heap.size := by omega
  have k1 := G.out.cell 3 rfl
  have k3 := O.out.cell 2 rfl
  have z3 := O.out.frozen 2
  have Bn := B1.trans (hb.mono B1.size)
  go_wp2_with fail
  obtain ⟨W2, hW, B2, hz2, hy2, G2, Z2, O2, m2⟩ : ∃ W, W = w2.setCell ⟨w.heap.size + 2, 2, none⟩ (.slice D2 x.steps.length d2) ∧ Below w.heap.size w W ∧ w.heap.size + 2 < W.heap.size ∧ W.heap.size = w2.heap.size ∧ Hid (Blk W w.heap.size 57 [.int .i64 x.frm, .int .i64 x.til, .slice A2 x.steps.length c2, .slice A3 x.lies.length c3, .slice A4 x.crosses.length c4, .slice A5 x.parts.length c5, .slice A6 x.over.length c6, .slice A7 x.flanks.length c7]) ∧ Hid (Blk W (w.heap.size + 1) 65 [.int .i64 0, .int .i64 0, .slice none 0 0, .slice none 0 0, .slice none 0 0, .slice none 0 0, .slice none 0 0, .slice none 0 0]) ∧ Hid (Blk W (w.heap.size + 2) 65 [.int .i64 x.frm, .int .i64 x.til, .slice D2 x.steps.length d2, .slice none 0 0, .slice none 0 0, .slice none 0 0, .slice none 0 0, .slice none 0 0]) ∧ Hid ((Kn.slice 85 stepK).O W x.steps [.slice D2 x.steps.length d2] F2) :=
    ⟨_, rfl, Bn.setCell (by simp) _, by simp; omega, by simp, Lib.hid (G.out.far (by simp) _), Lib.hid (Z.out.far (by simp) _), Lib.hid (O.out.set_ 2 _), Lib.hid (O_set o2.out (fun b hb => by have := f2.out b hb; show b ≠ w.heap.size + 2; omega) _)⟩
  rw [← hW]
  clear hW G Z O k1 k3 z3 hb y0 y1 y2 Bn G1 Z1 O1 o2
  refine (toLieS _ _ _ _ (Kn.C_below B2 h3) (by omega)).mono ?_
  rintro e w3 ⟨D3, d3, F3, rfl, o3, f3, hb⟩
  have T3 : Hid (∀ b, b ∈ F3 → b < w3.heap.size) := Lib.hid ((Kn.slice 89 lieK).O_lt o3)
  have o3 := Lib.hid o3
  have f3 := Lib.hid f3
  have G := Lib.hid (G2.out.below hb (by omega))
  have Z := Lib.hid (Z2.out.below hb (by omega))
  have O := Lib.hid (O2.out.below hb (by omega))
  have hs3 := hb.size
  have y0 : w.heap.size < w3.heap.size := by omega
  have y1 : w.heap.size + 1 < w3.heap.size := by omega
  have y2 : w.heap.size + 2 < w3.heap.size := by omega
  have k1 := G.out.cell 4 rfl
  have k3 := O.out.cell 3 rfl
  have z3 := O.out.frozen 3
  have Bn := B2.trans (hb.mono B2.size)
  go_wp2_with fail
  obtain ⟨W3, hW, B3, hz3, hy3, G3, Z3, O3, m2, m3⟩ : ∃ W, W = w3.setCell ⟨w.heap.size + 2, 3, none⟩ (.slice D3 x.lies.length d3) ∧ Below w.heap.size w W ∧ w.heap.size + 2 < W.heap.size ∧ W.heap.size = w3.heap.size ∧ Hid (Blk W w.heap.size 57 [.int .i64 x.frm, .int .i64 x.til, .slice A2 x.steps.length c2, .slice A3 x.lies.length c3, .slice A4 x.crosses.length c4, .slice A5 x.parts.length c5, .slice A6 x.over.length c6, .slice A7 x.flanks.length c7]) ∧ Hid (Blk W (w.heap.size + 1) 65 [.int .i64 0, .int .i64 0, .slice none 0 0, .slice none 0 0, .slice none 0 0, .slice none 0 0, .slice none 0 0, .slice none 0 0]) ∧ Hid (Blk W (w.heap.size + 2) 65 [.int .i64 x.frm, .int .i64 x.til, .slice D2 x.steps.length d2, .slice D3 x.lies.length d3, .slice none 0 0, .slice none 0 0, .slice none 0 0, .slice none 0 0]) ∧ Hid ((Kn.slice 85 stepK).O W x.steps [.slice D2 x.steps.length d2] F2) ∧ Hid ((Kn.slice 89 lieK).O W x.lies [.slice D3 x.lies.length d3] F3) :=
    ⟨_, rfl, Bn.setCell (by simp) _, by simp; omega, by simp, Lib.hid (G.out.far (by simp) _), Lib.hid (Z.out.far (by simp) _), Lib.hid (O.out.set_ 3 _), Lib.hid (O_set ((Kn.slice 85 stepK).O_move (fun b hbb => hb.block b (by have := (Kn.slice 85 stepK).O_lt m2.out b hbb; omega)) m2.out) (fun b hb => by have := f2.out b hb; show b ≠ w.heap.size + 2; omega) _), Lib.hid (O_set o3.out (fun b hb => by have := f3.out b hb; show b ≠ w.heap.size + 2; omega) _)⟩
  rw [← hW]
  clear hW G Z O k1 k3 z3 hb y0 y1 y2 Bn G2 Z2 O2 o3
  clear B2
  refine (toIntS _ _ _ _ (Kn.C_below B3 h4) (by omega)).mono ?_
  rintro e w4 ⟨D4, d4, F4, rfl, o4, f4, hb⟩
  have T4 : Hid (∀ b, b ∈ F4 → b < w4.heap.size) := Lib.hid ((Kn.slice 3 Kn.int).O_lt o4)
  have o4 := Lib.hid o4
  have f4 := Lib.hid f4
  have G := Lib.hid (G3.out.below hb (by omega))
  have Z := Lib.hid (Z3.out.below hb (by omega))
  have O := Lib.hid (O3.out.below hb (by omega))
  have hs4 := hb.size
  have y0 : w.heap.size < w4.heap.size := by omega
  have y1 : w.heap.size + 1 < w4.heap.size := by omega
  have y2 : w.heap.size + 2 < w4.heap.size := by omega
  have k1 := G.out.cell 5 rfl
  have k3 := O.out.cell 4 rfl
  have z3 := O.out.frozen 4
  have Bn := B3.trans (hb.mono B3.size)
  go_wp2_with fail
  obtain ⟨W4, hW, B4, hz4, hy4, G4, Z4, O4, m2, m3, m4⟩ : ∃ W, W = w4.setCell ⟨w.heap.size + 2, 4, none⟩ (.slice D4 x.crosses.length d4) ∧ Below w.heap.size w W ∧ w.heap.size + 2 < W.heap.size ∧ W.heap.size = w4.heap.size ∧ Hid (Blk W w.heap.size 57 [.int .i64 x.frm, .int .i64 x.til, .slice A2 x.steps.length c2, .slice A3 x.lies.length c3, .slice A4 x.crosses.length c4, .slice A5 x.parts.length c5, .slice A6 x.over.length c6, .slice A7 x.flanks.length c7]) ∧ Hid (Blk W (w.heap.size + 1) 65 [.int .i64 0, .int .i64 0, .slice none 0 0, .slice none 0 0, .slice none 0 0, .slice none 0 0, .slice none 0 0, .slice none 0 0]) ∧ Hid (Blk W (w.heap.size + 2) 65 [.int .i64 x.frm, .int .i64 x.til, .slice D2 x.steps.length d2, .slice D3 x.lies.length d3, .slice D4 x.crosses.length d4, .slice none 0 0, .slice none 0 0, .slice none 0 0]) ∧ Hid ((Kn.slice 85 stepK).O W x.steps [.slice D2 x.steps.length d2] F2) ∧ Hid ((Kn.slice 89 lieK).O W x.lies [.slice D3 x.lies.length d3] F3) ∧ Hid ((Kn.slice 3 Kn.int).O W x.crosses [.slice D4 x.crosses.length d4] F4) :=
    ⟨_, rfl, Bn.setCell (by simp) _, by simp; omega, by simp, Lib.hid (G.out.far (by simp) _), Lib.hid (Z.out.far (by simp) _), Lib.hid (O.out.set_ 4 _), Lib.hid (O_set ((Kn.slice 85 stepK).O_move (fun b hbb => hb.block b (by have := (Kn.slice 85 stepK).O_lt m2.out b hbb; omega)) m2.out) (fun b hb => by have := f2.out b hb; show b ≠ w.heap.size + 2; omega) _), Lib.hid (O_set ((Kn.slice 89 lieK).O_move (fun b hbb => hb.block b (by have := (Kn.slice 89 lieK).O_lt m3.out b hbb; omega)) m3.out) (fun b hb => by have := f3.out b hb; show b ≠ w.heap.size + 2; omega) _), Lib.hid (O_set o4.out (fun b hb => by have := f4.out b hb; show b ≠ w.heap.size + 2; omega) _)⟩
  rw [← hW]
  clear hW G Z O k1 k3 z3 hb y0 y1 y2 Bn G3 Z3 O3 o4
  clear B3
  refine (toPartS _ _ _ _ (Kn.C_below B4 h5) (by omega)).mono ?_
  rintro e w5 ⟨D5, d5, F5, rfl, o5, f5, hb⟩
  have T5 : Hid (∀ b, b ∈ F5 → b < w5.heap.size) := Lib.hid ((Kn.slice 146 partK).O_lt o5)
  have o5 := Lib.hid o5
  have f5 := Lib.hid f5
  have G := Lib.hid (G4.out.below hb (by omega))
  have Z := Lib.hid (Z4.out.below hb (by omega))
  have O := Lib.hid (O4.out.below hb (by omega))
  have hs5 := hb.size
  have y0 : w.heap.size < w5.heap.size := by omega
  have y1 : w.heap.size + 1 < w5.heap.size := by omega
  have y2 : w.heap.size + 2 < w5.heap.size := by omega
  have k1 := G.out.cell 6 rfl
  have k3 := O.out.cell 5 rfl
  have z3 := O.out.frozen 5
  have Bn := B4.trans (hb.mono B4.size)
  go_wp2_with fail
  obtain ⟨W5, hW, B5, hz5, hy5, G5, Z5, O5, m2, m3, m4, m5⟩ : ∃ W, W = w5.setCell ⟨w.heap.size + 2, 5, none⟩ (.slice D5 x.parts.length d5) ∧ Below w.heap.size w W ∧ w.heap.size + 2 < W.heap.size ∧ W.heap.size = w5.heap.size ∧ Hid (Blk W w.heap.size 57 [.int .i64 x.frm, .int .i64 x.til, .slice A2 x.steps.length c2, .slice A3 x.lies.length c3, .slice A4 x.crosses.length c4, .slice A5 x.parts.length c5, .slice A6 x.over.length c6, .slice A7 x.flanks.length c7]) ∧ Hid (Blk W (w.heap.size + 1) 65 [.int .i64 0, .int .i64 0, .slice none 0 0, .slice none 0 0, .slice none 0 0, .slice none 0 0, .slice none 0 0, .slice none 0 0]) ∧ Hid (Blk W (w.heap.size + 2) 65 [.int .i64 x.frm, .int .i64 x.til, .slice D2 x.steps.length d2, .slice D3 x.lies.length d3, .slice D4 x.crosses.length d4, .slice D5 x.parts.length d5, .slice none 0 0, .slice none 0 0]) ∧ Hid ((Kn.slice 85 stepK).O W x.steps [.slice D2 x.steps.length d2] F2) ∧ Hid ((Kn.slice 89 lieK).O W x.lies [.slice D3 x.lies.length d3] F3) ∧ Hid ((Kn.slice 3 Kn.int).O W x.crosses [.slice D4 x.crosses.length d4] F4) ∧ Hid ((Kn.slice 146 partK).O W x.parts [.slice D5 x.parts.length d5] F5) :=
    ⟨_, rfl, Bn.setCell (by simp) _, by simp; omega, by simp, Lib.hid (G.out.far (by simp) _), Lib.hid (Z.out.far (by simp) _), Lib.hid (O.out.set_ 5 _), Lib.hid (O_set ((Kn.slice 85 stepK).O_move (fun b hbb => hb.block b (by have := (Kn.slice 85 stepK).O_lt m2.out b hbb; omega)) m2.out) (fun b hb => by have := f2.out b hb; show b ≠ w.heap.size + 2; omega) _), Lib.hid (O_set ((Kn.slice 89 lieK).O_move (fun b hbb => hb.block b (by have := (Kn.slice 89 lieK).O_lt m3.out b hbb; omega)) m3.out) (fun b hb => by have := f3.out b hb; show b ≠ w.heap.size + 2; omega) _), Lib.hid (O_set ((Kn.slice 3 Kn.int).O_move (fun b hbb => hb.block b (by have := (Kn.slice 3 Kn.int).O_lt m4.out b hbb; omega)) m4.out) (fun b hb => by have := f4.out b hb; show b ≠ w.heap.size + 2; omega) _), Lib.hid (O_set o5.out (fun b hb => by have := f5.out b hb; show b ≠ w.heap.size + 2; omega) _)⟩
  rw [← hW]
  clear hW G Z O k1 k3 z3 hb y0 y1 y2 Bn G4 Z4 O4 o5
  clear B4
  refine (toPartS _ _ _ _ (Kn.C_below B5 h6) (by omega)).mono ?_
  rintro e w6 ⟨D6, d6, F6, rfl, o6, f6, hb⟩
  have T6 : Hid (∀ b, b ∈ F6 → b < w6.heap.size) := Lib.hid ((Kn.slice 146 partK).O_lt o6)
  have o6 := Lib.hid o6
  have f6 := Lib.hid f6
  have G := Lib.hid (G5.out.below hb (by omega))
  have Z := Lib.hid (Z5.out.below hb (by omega))
  have O := Lib.hid (O5.out.below hb (by omega))
  have hs6 := hb.size
  have y0 : w.heap.size < w6.heap.size := by omega
  have y1 : w.heap.size + 1 < w6.heap.size := by omega
  have y2 : w.heap.size + 2 < w6.heap.size := by omega
  have k1 := G.out.cell 7 rfl
  have k3 := O.out.cell 6 rfl
  have z3 := O.out.frozen 6
  have Bn := B5.trans (hb.mono B5.size)
  go_wp2_with fail
  obtain ⟨W6, hW, B6, hz6, hy6, G6, Z6, O6, m2, m3, m4, m5, m6⟩ : ∃ W, W = w6.setCell ⟨w.heap.size + 2, 6, none⟩ (.slice D6 x.over.length d6) ∧ Below w.heap.size w W ∧ w.heap.size + 2 < W.heap.size ∧ W.heap.size = w6.heap.size ∧ Hid (Blk W w.heap.size 57 [.int .i64 x.frm, .int .i64 x.til, .slice A2 x.steps.length c2, .slice A3 x.lies.length c3, .slice A4 x.crosses.length c4, .slice A5 x.parts.length c5, .slice A6 x.over.length c6, .slice A7 x.flanks.length c7]) ∧ Hid (Blk W (w.heap.size + 1) 65 [.int .i64 0, .int .i64 0, .slice none 0 0, .slice none 0 0, .slice none 0 0, .slice none 0 0, .slice none 0 0, .slice none 0 0]) ∧ Hid (Blk W (w.heap.size + 2) 65 [.int .i64 x.frm, .int .i64 x.til, .slice D2 x.steps.length d2, .slice D3 x.lies.length d3, .slice D4 x.crosses.length d4, .slice D5 x.parts.length d5, .slice D6 x.over.length d6, .slice none 0 0]) ∧ Hid ((Kn.slice 85 stepK).O W x.steps [.slice D2 x.steps.length d2] F2) ∧ Hid ((Kn.slice 89 lieK).O W x.lies [.slice D3 x.lies.length d3] F3) ∧ Hid ((Kn.slice 3 Kn.int).O W x.crosses [.slice D4 x.crosses.length d4] F4) ∧ Hid ((Kn.slice 146 partK).O W x.parts [.slice D5 x.parts.length d5] F5) ∧ Hid ((Kn.slice 146 partK).O W x.over [.slice D6 x.over.length d6] F6) :=
    ⟨_, rfl, Bn.setCell (by simp) _, by simp; omega, by simp, Lib.hid (G.out.far (by simp) _), Lib.hid (Z.out.far (by simp) _), Lib.hid (O.out.set_ 6 _), Lib.hid (O_set ((Kn.slice 85 stepK).O_move (fun b hbb => hb.block b (by have := (Kn.slice 85 stepK).O_lt m2.out b hbb; omega)) m2.out) (fun b hb => by have := f2.out b hb; show b ≠ w.heap.size + 2; omega) _), Lib.hid (O_set ((Kn.slice 89 lieK).O_move (fun b hbb => hb.block b (by have := (Kn.slice 89 lieK).O_lt m3.out b hbb; omega)) m3.out) (fun b hb => by have := f3.out b hb; show b ≠ w.heap.size + 2; omega) _), Lib.hid (O_set ((Kn.slice 3 Kn.int).O_move (fun b hbb => hb.block b (by have := (Kn.slice 3 Kn.int).O_lt m4.out b hbb; omega)) m4.out) (fun b hb => by have := f4.out b hb; show b ≠ w.heap.size + 2; omega) _), Lib.hid (O_set ((Kn.slice 146 partK).O_move (fun b hbb => hb.block b (by have := (Kn.slice 146 partK).O_lt m5.out b hbb; omega)) m5.out) (fun b hb => by have := f5.out b hb; show b ≠ w.heap.size + 2; omega) _), Lib.hid (O_set o6.out (fun b hb => by have := f6.out b hb; show b ≠ w.heap.size + 2; omega) _)⟩
  rw [← hW]
  clear hW G Z O k1 k3 z3 hb y0 y1 y2 Bn G5 Z5 O5 o6
  clear B5
  refine (toFlankS _ _ _ _ (Kn.C_below B6 h7) (by omega)).mono ?_
  rintro e w7 ⟨D7, d7, F7, rfl, o7, f7, hb⟩
  have T7 : Hid (∀ b, b ∈ F7 → b < w7.heap.size) := Lib.hid ((Kn.slice 91 flankK).O_lt o7)
  have o7 := Lib.hid o7
  have f7 := Lib.hid f7
  have G := Lib.hid (G6.out.below hb (by omega))
  have Z := Lib.hid (Z6.out.below hb (by omega))
  have O := Lib.hid (O6.out.below hb (by omega))
  have hs7 := hb.size
  have y0 : w.heap.size < w7.heap.size := by omega
  have y1 : w.heap.size + 1 < w7.heap.size := by omega
  have y2 : w.heap.size + 2 < w7.heap.size := by omega
  have k10 := O.out.cell 0 rfl
  have r0 := Z.out.cell 0 rfl
  have s0 := Z.out.frozen 0
  have k11 := O.out.cell 1 rfl
  have r1 := Z.out.cell 1 rfl
  have s1 := Z.out.frozen 1
  have k12 := O.out.cell 2 rfl
  have r2 := Z.out.cell 2 rfl
  have s2 := Z.out.frozen 2
  have k13 := O.out.cell 3 rfl
  have r3 := Z.out.cell 3 rfl
  have s3 := Z.out.frozen 3
  have k14 := O.out.cell 4 rfl
  have r4 := Z.out.cell 4 rfl
  have s4 := Z.out.frozen 4
  have k15 := O.out.cell 5 rfl
  have r5 := Z.out.cell 5 rfl
  have s5 := Z.out.frozen 5
  have k16 := O.out.cell 6 rfl
  have r6 := Z.out.cell 6 rfl
  have s6 := Z.out.frozen 6
  have k17 := O.out.cell 7 rfl
  have r7 := Z.out.cell 7 rfl
  have s7 := Z.out.frozen 7
  have z3 := O.out.frozen 7
  have Bn := B6.trans (hb.mono B6.size)
  go_wp2
  have hm : (Kn.slice 85 stepK).O w7 x.steps [.slice D2 x.steps.length d2] F2 ∧ (Kn.slice 89 lieK).O w7 x.lies [.slice D3 x.lies.length d3] F3 ∧ (Kn.slice 3 Kn.int).O w7 x.crosses [.slice D4 x.crosses.length d4] F4 ∧ (Kn.slice 146 partK).O w7 x.parts [.slice D5 x.parts.length d5] F5 ∧ (Kn.slice 146 partK).O w7 x.over [.slice D6 x.over.length d6] F6 ∧ (Kn.slice 91 flankK).O w7 x.flanks [.slice D7 x.flanks.length d7] F7 := ⟨(Kn.slice 85 stepK).O_move (fun b hbb => hb.block b (by have := (Kn.slice 85 stepK).O_lt m2.out b hbb; omega)) m2.out, (Kn.slice 89 lieK).O_move (fun b hbb => hb.block b (by have := (Kn.slice 89 lieK).O_lt m3.out b hbb; omega)) m3.out, (Kn.slice 3 Kn.int).O_move (fun b hbb => hb.block b (by have := (Kn.slice 3 Kn.int).O_lt m4.out b hbb; omega)) m4.out, (Kn.slice 146 partK).O_move (fun b hbb => hb.block b (by have := (Kn.slice 146 partK).O_lt m5.out b hbb; omega)) m5.out, (Kn.slice 146 partK).O_move (fun b hbb => hb.block b (by have := (Kn.slice 146 partK).O_lt m6.out b hbb; omega)) m6.out, o7.out⟩
  obtain ⟨m2, m3, m4, m5, m6, m7⟩ := hm
  have l2 : ∀ b, b ∈ F2 → w.heap.size + 3 ≤ b := fun b hb => by have := f2.out b hb; omega
  have l3 : ∀ b, b ∈ F3 → w.heap.size + 3 ≤ b := fun b hb => by have := f3.out b hb; omega
  have l4 : ∀ b, b ∈ F4 → w.heap.size + 3 ≤ b := fun b hb => by have := f4.out b hb; omega
  have l5 : ∀ b, b ∈ F5 → w.heap.size + 3 ≤ b := fun b hb => by have := f5.out b hb; omega
  have l6 : ∀ b, b ∈ F6 → w.heap.size + 3 ≤ b := fun b hb => by have := f6.out b hb; omega
  have l7 : ∀ b, b ∈ F7 → w.heap.size + 3 ≤ b := fun b hb => by have := f7.out b hb; omega
  have n7 := (Kn.slice 91 flankK).O_nodup m7
  have n6 : (F6 ++ F7).Nodup := nodup_range (B := w6.heap.size) ((Kn.slice 146 partK).O_nodup m6) n7 (fun b hb => by have := T6.out b hb; omega) (fun b hb => by
    have := f7.out b hb; omega)
  have n5 : (F5 ++ (F6 ++ F7)).Nodup := nodup_range (B := w5.heap.size) ((Kn.slice 146 partK).O_nodup m5) n6 (fun b hb => by have := T5.out b hb; omega) (fun b hb => by
    simp only [List.mem_append] at hb
    rcases hb with hb | hb
    · have := f6.out b hb; omega
    · have := f7.out b hb; omega)
  have n4 : (F4 ++ (F5 ++ (F6 ++ F7))).Nodup := nodup_range (B := w4.heap.size) ((Kn.slice 3 Kn.int).O_nodup m4) n5 (fun b hb => by have := T4.out b hb; omega) (fun b hb => by
    simp only [List.mem_append] at hb
    rcases hb with hb | hb | hb
    · have := f5.out b hb; omega
    · have := f6.out b hb; omega
    · have := f7.out b hb; omega)
  have n3 : (F3 ++ (F4 ++ (F5 ++ (F6 ++ F7)))).Nodup := nodup_range (B := w3.heap.size) ((Kn.slice 89 lieK).O_nodup m3) n4 (fun b hb => by have := T3.out b hb; omega) (fun b hb => by
    simp only [List.mem_append] at hb
    rcases hb with hb | hb | hb | hb
    · have := f4.out b hb; omega
    · have := f5.out b hb; omega
    · have := f6.out b hb; omega
    · have := f7.out b hb; omega)
  have n2 : (F2 ++ (F3 ++ (F4 ++ (F5 ++ (F6 ++ F7))))).Nodup := nodup_range (B := w2.heap.size) ((Kn.slice 85 stepK).O_nodup m2) n3 (fun b hb => by have := T2.out b hb; omega) (fun b hb => by
    simp only [List.mem_append] at hb
    rcases hb with hb | hb | hb | hb | hb
    · have := f3.out b hb; omega
    · have := f4.out b hb; omega
    · have := f5.out b hb; omega
    · have := f6.out b hb; omega
    · have := f7.out b hb; omega)
  refine bodyPost_ret (v := .agg #[.int .i64 x.frm, .int .i64 x.til, .slice D2 x.steps.length d2, .slice D3 x.lies.length d3, .slice D4 x.crosses.length d4, .slice D5 x.parts.length d5, .slice D6 x.over.length d6, .slice D7 x.flanks.length d7]) (by simp [results, Tryz.results25, go_sem, y0, y1, y2, k10, k11, k12, k13, k14, k15, k16, k17, r0, r1, r2, r3, r4, r5, r6, r7]) rfl ⟨_, _, _, _, _, _, _, _, _, _, _, _, (F2 ++ (F3 ++ (F4 ++ (F5 ++ (F6 ++ F7))))), rfl, ?_, ?_, ?_⟩
  · refine routeK_own ?_ ?_ ?_ ?_ ?_ ?_ n2
    · refine (Kn.slice 85 stepK).O_move (w := w7) (fun b hb => ?_) m2
      have hl := l2 b hb
      refine (Below.heap_setCell _ _ _ _ (by simp; omega)).trans ?_
      refine (Below.heap_setCell _ _ _ _ (by simp; omega)).trans ?_
      refine (Below.heap_setCell _ _ _ _ (by simp; omega)).trans ?_
      refine (Below.heap_setCell _ _ _ _ (by simp; omega)).trans ?_
      refine (Below.heap_setCell _ _ _ _ (by simp; omega)).trans ?_
      refine (Below.heap_setCell _ _ _ _ (by simp; omega)).trans ?_
      refine (Below.heap_setCell _ _ _ _ (by simp; omega)).trans ?_
      refine (Below.heap_setCell _ _ _ _ (by simp; omega)).trans ?_
      refine (Below.heap_setCell _ _ _ _ (by simp; omega)).trans ?_
      rfl
    · refine (Kn.slice 89 lieK).O_move (w := w7) (fun b hb => ?_) m3
      have hl := l3 b hb
      refine (Below.heap_setCell _ _ _ _ (by simp; omega)).trans ?_
      refine (Below.heap_setCell _ _ _ _ (by simp; omega)).trans ?_
      refine (Below.heap_setCell _ _ _ _ (by simp; omega)).trans ?_
      refine (Below.heap_setCell _ _ _ _ (by simp; omega)).trans ?_
      refine (Below.heap_setCell _ _ _ _ (by simp; omega)).trans ?_
      refine (Below.heap_setCell _ _ _ _ (by simp; omega)).trans ?_
      refine (Below.heap_setCell _ _ _ _ (by simp; omega)).trans ?_
      refine (Below.heap_setCell _ _ _ _ (by simp; omega)).trans ?_
      refine (Below.heap_setCell _ _ _ _ (by simp; omega)).trans ?_
      rfl
    · refine (Kn.slice 3 Kn.int).O_move (w := w7) (fun b hb => ?_) m4
      have hl := l4 b hb
      refine (Below.heap_setCell _ _ _ _ (by simp; omega)).trans ?_
      refine (Below.heap_setCell _ _ _ _ (by simp; omega)).trans ?_
      refine (Below.heap_setCell _ _ _ _ (by simp; omega)).trans ?_
      refine (Below.heap_setCell _ _ _ _ (by simp; omega)).trans ?_
      refine (Below.heap_setCell _ _ _ _ (by simp; omega)).trans ?_
      refine (Below.heap_setCell _ _ _ _ (by simp; omega)).trans ?_
      refine (Below.heap_setCell _ _ _ _ (by simp; omega)).trans ?_
      refine (Below.heap_setCell _ _ _ _ (by simp; omega)).trans ?_
      refine (Below.heap_setCell _ _ _ _ (by simp; omega)).trans ?_
      rfl
    · refine (Kn.slice 146 partK).O_move (w := w7) (fun b hb => ?_) m5
      have hl := l5 b hb
      refine (Below.heap_setCell _ _ _ _ (by simp; omega)).trans ?_
      refine (Below.heap_setCell _ _ _ _ (by simp; omega)).trans ?_
      refine (Below.heap_setCell _ _ _ _ (by simp; omega)).trans ?_
      refine (Below.heap_setCell _ _ _ _ (by simp; omega)).trans ?_
      refine (Below.heap_setCell _ _ _ _ (by simp; omega)).trans ?_
      refine (Below.heap_setCell _ _ _ _ (by simp; omega)).trans ?_
      refine (Below.heap_setCell _ _ _ _ (by simp; omega)).trans ?_
      refine (Below.heap_setCell _ _ _ _ (by simp; omega)).trans ?_
      refine (Below.heap_setCell _ _ _ _ (by simp; omega)).trans ?_
      rfl
    · refine (Kn.slice 146 partK).O_move (w := w7) (fun b hb => ?_) m6
      have hl := l6 b hb
      refine (Below.heap_setCell _ _ _ _ (by simp; omega)).trans ?_
      refine (Below.heap_setCell _ _ _ _ (by simp; omega)).trans ?_
      refine (Below.heap_setCell _ _ _ _ (by simp; omega)).trans ?_
      refine (Below.heap_setCell _ _ _ _ (by simp; omega)).trans ?_
      refine (Below.heap_setCell _ _ _ _ (by simp; omega)).trans ?_
      refine (Below.heap_setCell _ _ _ _ (by simp; omega)).trans ?_
      refine (Below.heap_setCell _ _ _ _ (by simp; omega)).trans ?_
      refine (Below.heap_setCell _ _ _ _ (by simp; omega)).trans ?_
      refine (Below.heap_setCell _ _ _ _ (by simp; omega)).trans ?_
      rfl
    · refine (Kn.slice 91 flankK).O_move (w := w7) (fun b hb => ?_) m7
      have hl := l7 b hb
      refine (Below.heap_setCell _ _ _ _ (by simp; omega)).trans ?_
      refine (Below.heap_setCell _ _ _ _ (by simp; omega)).trans ?_
      refine (Below.heap_setCell _ _ _ _ (by simp; omega)).trans ?_
      refine (Below.heap_setCell _ _ _ _ (by simp; omega)).trans ?_
      refine (Below.heap_setCell _ _ _ _ (by simp; omega)).trans ?_
      refine (Below.heap_setCell _ _ _ _ (by simp; omega)).trans ?_
      refine (Below.heap_setCell _ _ _ _ (by simp; omega)).trans ?_
      refine (Below.heap_setCell _ _ _ _ (by simp; omega)).trans ?_
      refine (Below.heap_setCell _ _ _ _ (by simp; omega)).trans ?_
      rfl
  · intro b hb
    simp only [List.mem_append] at hb
    rcases hb with hb | hb | hb | hb | hb | hb
    · have := l2 b hb; omega
    · have := l3 b hb; omega
    · have := l4 b hb; omega
    · have := l5 b hb; omega
    · have := l6 b hb; omega
    · have := l7 b hb; omega
  · refine Below.setCell ?_ (by simp; try omega) _
    refine Below.setCell ?_ (by simp; try omega) _
    refine Below.setCell ?_ (by simp; try omega) _
    refine Below.setCell ?_ (by simp; try omega) _
    refine Below.setCell ?_ (by simp; try omega) _
    refine Below.setCell ?_ (by simp; try omega) _
    refine Below.setCell ?_ (by simp; try omega) _
    refine Below.setCell ?_ (by simp; try omega) _
    refine Below.setCell ?_ (by simp; try omega) _
    exact Bn
theorem info65 : (Tryz.prog.info? 65).map (fun i => (i.zero, i.size, i.bytes)) = some (some (.agg #[.int .i64 0, .int .i64 0, .slice none 0 0, .slice none 0 0, .slice none 0 0, .slice none 0 0, .slice none 0 0, .slice none 0 0]), 8, 160) := by kernel_rfl
abbrev rL : Kn Route := routeK 142 144 3 148 150
set_option maxRecDepth 100000 in
set_option maxHeartbeats 1000000 in
theorem toRouteS {ok : Nat → Prop} (A : Option Addr) (c : Nat) (xs : List Route) (w : World) (hx : rL.C w ok A xs) (hn : xs.length ≤ 1048576) (hs : Hid (∀ x ∈ xs, x.n ≤ 1048576)) :
    Calls Tryz.prog 10 #[.slice A xs.length c] w (RetS 65 rK xs w) := by
  obtain ⟨i0, hi, hz0, hz1, hz2⟩ := info_parts info65
  go_enter Tryz.func10, Tryz.ntmps10
  go_wp2_with (at_make; refine wpList_make_full _ rfl _ _ 39 rfl 0 65 i0 _ 8 Tryz.underlying39 hi hz0 hz1 .i64 .i64 _ _ xs.length rfl rfl rfl rfl (by rw [hz2]; omega) (by unfold maxLen; omega) (Nat.zero_le _) ?_; intro w0 hown hg0)
  go_loopw [4] (fun i wr => ∃ k : Nat, k ≤ xs.length ∧ i = .int .i64 k ∧ FilledO rK 65 xs w.heap.size k wr ∧ Below w.heap.size w wr) (fun i _ => xs.length - (intOf i).toNat)
  case atStart => exact ⟨0, Nat.zero_le _, rfl, FilledO.start hown, ⟨hg0.os, hg0.tape, hg0.output, hg0.size, fun b hb => hg0.block b hb (by simp)⟩⟩
  case round =>
    obtain ⟨k, hk, rfl, HF, hb⟩ := hrel
    by_cases hlt : k < xs.length
    · obtain ⟨a0, rfl, x, E, A2, c2, A3, c3, A4, c4, A5, c5, A6, c6, A7, c7, g0, g1, g2, g3, g4, g5, g6, g7, l2, q2, l3, q3, l4, q4, l5, q5, l6, q6, l7, q7⟩ := routeK_at (Kn.C_below hb hx) k hlt
      have hsx := hs.out _ (mem_of_get E.out)
      have i0 : (0 : Int) ≤ (k : Int) := Int.natCast_nonneg _
      have i1 : (k : Int) < (xs.length : Int) := by omega
      have hgl := HF.lt
      go_wp2_with fail
      refine (toRoute x A2 A3 A4 A5 A6 A7 c2 c3 c4 c5 c6 c7 _ q2 q3 q4 q5 q6 q7 hsx).mono ?_
      rintro e w1 ⟨D2, d2, D3, d3, D4, d4, D5, d5, D6, d6, D7, d7, F, rfl, hO, hF, hb1⟩
      obtain ⟨inner, ho, hst⟩ := HF.row hb1
      replace ho : w1.ownsRow 0 65 8 (.slice (some ⟨w.heap.size, 0, none⟩) xs.length xs.length) xs.length inner := ho
      have HO := Lib.hid hO
      have HF := Lib.hid hF
      have HS := Lib.hid hst
      clear hO hF hst
      go_wp2_with (refine wpList_store_own rfl _ _ _ rfl [.int .i64 x.frm, .int .i64 x.til, .slice D2 x.steps.length d2, .slice D3 x.lies.length d3, .slice D4 x.crosses.length d4, .slice D5 x.parts.length d5, .slice D6 x.over.length d6, .slice D7 x.flanks.length d7] ho rfl rfl ?_ (size_of_info info65) rfl ?_; (simp; omega); intro w2 ho2 hg2)
      go_roundw
      case rel => exact ⟨k + 1, by omega, by go_num, HS.out _ _ F _ E.out rfl HO.out HF.out hg2 ho2, below_grown (hb.trans (hb1.mono hb.size)) hg2 (Nat.le_refl _) (Nat.le_trans hb.size hb1.size)⟩
      case measure => simp [intOf]; omega
    · obtain rfl : k = xs.length := by omega
      go_wp2
      go_ret
      obtain ⟨F, h1, h2⟩ := HF.done
      exact ⟨_, _, F, rfl, h1, h2, hb⟩
end Go.Proofs.YtpggopdojhodaaaGreatDoor.L
