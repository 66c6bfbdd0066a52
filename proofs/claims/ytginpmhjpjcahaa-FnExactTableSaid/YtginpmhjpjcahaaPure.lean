/- Routes as plain functions: what is at an end, which signal comes first, what is behind it, flanks, and all ways from a signal. No program is named. -/
import Derived.Test.YtginpmhjpjcahaaSig
namespace Go.Proofs.Ytginpmhjpjcahaa.L
open Go.RowKit
open Classical
set_option linter.unusedVariables false
/-! ### ends in joints -/
theorem tot_in {α : Type} {f : α → Nat} {xs : List α} {x : α} (h : x ∈ xs) : f x ≤ tot f xs := by
  induction xs with
  | nil => cases h
  | cons y ys ih =>
    have : tot f (y :: ys) = f y + tot f ys := by simp [tot]
    rcases List.mem_cons.1 h with rfl | h
    · omega
    · have := ih h
      omega
theorem tot_two {α : Type} {f : α → Nat} : ∀ {xs : List α} {i j : Nat} {x y : α}, xs[i]? = some x → xs[j]? = some y → i < j → f x + f y ≤ tot f xs
  | [], _, _, _, _, h, _, _ => by simp at h
  | a :: xs, 0, j, x, y, hi, hj, hne => by
    have ht : tot f (a :: xs) = f a + tot f xs := by simp [tot]
    simp only [List.getElem?_cons_zero, Option.some.injEq] at hi
    obtain ⟨j, rfl⟩ : ∃ m, j = m + 1 := ⟨j - 1, by omega⟩
    rw [List.getElem?_cons_succ] at hj
    have := tot_in (f := f) (mem_of_get hj)
    rw [ht, hi]
    omega
  | a :: xs, i + 1, j, x, y, hi, hj, hne => by
    have ht : tot f (a :: xs) = f a + tot f xs := by simp [tot]
    obtain ⟨j, rfl⟩ : ∃ m, j = m + 1 := ⟨j - 1, by omega⟩
    rw [List.getElem?_cons_succ] at hi hj
    have := tot_two (f := f) hi hj (by omega)
    omega
/-- An end stands in the j-th joint, as its k-th. -/
def At (n : Net) (e : End) (j k : Nat) (x : Joint) : Prop := n.joints[j]? = some x ∧ x.ends[k]? = some e
theorem tot_pos {α : Type} {f : α → Nat} : ∀ {xs : List α}, 0 < tot f xs → ∃ (i : Nat) (x : α), xs[i]? = some x ∧ 0 < f x
  | [], h => by simp [tot] at h
  | a :: xs, h => by
    have ht : tot f (a :: xs) = f a + tot f xs := by simp [tot]
    by_cases ha : 0 < f a
    · exact ⟨0, a, rfl, ha⟩
    · obtain ⟨i, x, h1, h2⟩ := tot_pos (f := f) (xs := xs) (by omega)
      exact ⟨i + 1, x, h1, h2⟩
theorem usesIn_pos {es : List End} {e : End} (h : 0 < usesIn es e) : ∃ k : Nat, es[k]? = some e := by
  obtain ⟨k, x, h1, h2⟩ := tot_pos h
  split at h2
  · rename_i he
    exact ⟨k, by rw [h1, of_eqv he]⟩
  · omega
theorem usesIn_one {es : List End} {e : End} {k : Nat} (h : es[k]? = some e) : 1 ≤ usesIn es e := by
  have := tot_in (f := fun x => if eqv x e = true then 1 else 0) (mem_of_get h)
  simp only [eqv_self, if_true] at this
  exact this
theorem usesIn_two {es : List End} {e : End} {k m : Nat} (h : es[k]? = some e) (h2 : es[m]? = some e) (hne : k < m) : 2 ≤ usesIn es e := by
  have := tot_two (f := fun x => if eqv x e = true then 1 else 0) h h2 hne
  simp only [eqv_self, if_true] at this
  exact this
theorem at_of_uses {n : Net} {e : End} (h : uses n.joints e = 1) : ∃ (j k : Nat) (x : Joint), At n e j k x := by
  obtain ⟨j, x, h1, h2⟩ := tot_pos (f := fun j : Joint => usesIn j.ends e) (xs := n.joints) (by show 0 < uses n.joints e; omega)
  obtain ⟨k, h3⟩ := usesIn_pos h2
  exact ⟨j, k, x, h1, h3⟩
theorem at_one {n : Net} {e : End} (h : uses n.joints e = 1) {j k j' k' : Nat} {x x' : Joint} (h1 : At n e j k x) (h2 : At n e j' k' x') : j' = j ∧ k' = k ∧ x' = x := by
  have hj : j' = j := by
    refine Classical.byContradiction fun hne => ?_
    have u1 := usesIn_one h1.2
    have u2 := usesIn_one h2.2
    rcases Nat.lt_or_gt_of_ne hne with hl | hl
    · have : usesIn x'.ends e + usesIn x.ends e ≤ uses n.joints e := tot_two (f := fun j : Joint => usesIn j.ends e) h2.1 h1.1 hl
      omega
    · have : usesIn x.ends e + usesIn x'.ends e ≤ uses n.joints e := tot_two (f := fun j : Joint => usesIn j.ends e) h1.1 h2.1 hl
      omega
  subst hj
  have hx : x' = x := Option.some.inj (h2.1.symm.trans h1.1)
  subst hx
  refine ⟨rfl, Classical.byContradiction fun hne => ?_, rfl⟩
  have hle : usesIn x'.ends e ≤ uses n.joints e := tot_in (f := fun j : Joint => usesIn j.ends e) (mem_of_get h1.1)
  rcases Nat.lt_or_gt_of_ne hne with hl | hl
  · have := usesIn_two h2.2 h1.2 hl
    omega
  · have := usesIn_two h1.2 h2.2 hl
    omega
/-- A right net, as both need it. -/
structure Good (n : Net) : Prop where
  pos : 0 < n.pieces.length
  le : n.pieces.length ≤ 100
  jle : n.joints.length ≤ 120
  piece : ∀ p ∈ n.pieces, pieceP p
  joint : ∀ x ∈ n.joints, jointP n.pieces.length x
  one : ∀ e, endP n.pieces.length e → uses n.joints e = 1
theorem good_of_ok {n : Net} (h : netOk n = ⟨0, 0⟩) : Good n := by
  obtain ⟨h1, h2, h3, h4⟩ := pieces_of_ok h
  unfold netOk at h
  split at h
  · simp at h
  split at h
  · simp at h
  split at h
  · simp at h
  rename_i g3
  split at h
  · simp at h
  split at h
  · simp at h
  rename_i g5
  refine ⟨h1, h2, h3, h4, fun x hx => Classical.byContradiction fun hb => ?_, fun e he => Classical.byContradiction fun hb => ?_⟩
  · obtain ⟨i, hi⟩ := List.mem_iff_getElem?.1 hx
    exact g3 ⟨i, (List.getElem?_eq_some_iff.1 hi).1, x, hi, hb⟩
  · obtain ⟨p, s⟩ := e
    obtain ⟨⟨e1, e2⟩, e3, e4⟩ := he
    simp only at e1 e2 e3 e4
    obtain ⟨m, rfl⟩ : ∃ m : Nat, p = m := ⟨p.toNat, by omega⟩
    refine g5 ⟨m, by omega, ?_⟩
    rcases (show s = 0 ∨ s = 1 by omega) with rfl | rfl
    · exact .inl hb
    · exact .inr hb
/-- The joint of an end, and its place there. -/
noncomputable def atJ (n : Net) (e : End) : Nat × Nat := if h : ∃ jk : Nat × Nat, ∃ x, At n e jk.1 jk.2 x then h.choose else (0, 0)
def jt (n : Net) (j : Nat) : Joint := n.joints.getD j ⟨0, ⟨#[]⟩, []⟩
def en (x : Joint) (k : Nat) : End := x.ends.getD k ⟨0, 0⟩
theorem atJ_eq {n : Net} {e : End} {j k : Nat} {x : Joint} (hg : Good n) (he : endP n.pieces.length e) (h : At n e j k x) : atJ n e = (j, k) ∧ jt n j = x := by
  have hx : ∃ jk : Nat × Nat, ∃ x, At n e jk.1 jk.2 x := ⟨(j, k), x, h⟩
  refine ⟨?_, by unfold jt; rw [List.getD_eq_getElem?_getD, h.1]; rfl⟩
  unfold atJ
  rw [dif_pos hx]
  obtain ⟨x', h'⟩ := hx.choose_spec
  obtain ⟨h1, h2, _⟩ := at_one (hg.one e he) h h'
  exact Prod.ext h1 h2
theorem at_get {n : Net} {e : End} (hg : Good n) (he : endP n.pieces.length e) : ∃ j k x, At n e j k x ∧ atJ n e = (j, k) ∧ jt n j = x ∧ jointP n.pieces.length x ∧ j < n.joints.length ∧ k < x.ends.length := by
  obtain ⟨j, k, x, h⟩ := at_of_uses (hg.one e he)
  obtain ⟨h1, h2⟩ := atJ_eq hg he h
  exact ⟨j, k, x, h, h1, h2, hg.joint x (mem_of_get h.1), (List.getElem?_eq_some_iff.1 h.1).1, (List.getElem?_eq_some_iff.1 h.2).1⟩
theorem en_get {x : Joint} {k : Nat} (hk : k < x.ends.length) : x.ends[k]? = some (en x k) := by
  unfold en
  rw [List.getD_eq_getElem?_getD, List.getElem?_eq_getElem hk]
  rfl
theorem en_ok {m : Nat} {x : Joint} {k : Nat} (h : jointP m x) (hk : k < x.ends.length) : endP m (en x k) := h.2.2 _ (mem_of_get (en_get hk))
/-- The place over against k in a crossing. -/
def xr (k : Nat) : Nat := if k = 0 then 1 else if k = 1 then 0 else if k = 2 then 3 else 2
/-- The ends to which one can come. -/
def across (x : Joint) (k : Nat) : List End :=
  if x.kind = 2 then [en x (1 - k)] else if x.kind = 3 then (if k = 0 then [en x 1, en x 2] else [en x 0]) else if x.kind = 4 then [en x (xr k)] else []
/-! ### signals -/
def pl (n : Net) (p : Int) : Int := ((n.pieces[p.toNat]?).map Piece.len).getD 0
def headE (p way : Int) : End := if way = 1 then ⟨p, 1⟩ else ⟨p, 0⟩
def wayOf (e : End) : Int := if e.side = 1 then -1 else 1
def farOf (n : Net) (p a way : Int) : Int := if way = 1 then a else pl n p - a
/-- Chosen so far among the first k: the first one that no other is ahead of. -/
noncomputable def pick (ss : List Signal) (fits : Signal → Prop) (ahead : Signal → Signal → Prop) : Nat → Option Nat
  | 0 => none
  | k + 1 => match ss[k]? with
    | none => pick ss fits ahead k
    | some s => if fits s ∧ (∀ b t, pick ss fits ahead k = some b → ss[b]? = some t → ahead s t) then some k else pick ss fits ahead k
def fitsW (n : Net) (p way far : Int) (s : Signal) : Prop := s.piece = p ∧ s.way = way ∧ far < farOf n p s.at_ way
def aheadW (n : Net) (p way : Int) (s t : Signal) : Prop := farOf n p s.at_ way < farOf n p t.at_ way
noncomputable def firstS (n : Net) (ss : List Signal) (p way far : Int) : Option Nat := pick ss (fitsW n p way far) (aheadW n p way) ss.length
def fitsB (p back : Int) (s : Signal) : Prop := s.piece = p ∧ s.way = back
def aheadB (n : Net) (p back : Int) (s t : Signal) : Prop := farOf n p t.at_ back < farOf n p s.at_ back
noncomputable def lastS (n : Net) (ss : List Signal) (p back : Int) : Option Nat := pick ss (fitsB p back) (aheadB n p back) ss.length
theorem pick_lt {ss : List Signal} {fits : Signal → Prop} {ahead : Signal → Signal → Prop} : ∀ {k b : Nat}, pick ss fits ahead k = some b → b < k ∧ b < ss.length ∧ ∃ s, ss[b]? = some s ∧ fits s
  | 0, b, h => by simp [pick] at h
  | k + 1, b, h => by
    unfold pick at h
    split at h
    · obtain ⟨h1, h2, h3⟩ := pick_lt h
      exact ⟨by omega, h2, h3⟩
    · rename_i s hs
      split at h
      · rename_i hc
        obtain rfl := Option.some.inj h
        exact ⟨by omega, (List.getElem?_eq_some_iff.1 hs).1, s, hs, hc.1⟩
      · obtain ⟨h1, h2, h3⟩ := pick_lt h
        exact ⟨by omega, h2, h3⟩
theorem pick_yes {ss : List Signal} {fits : Signal → Prop} {ahead : Signal → Signal → Prop} {k : Nat} {s : Signal} (hs : ss[k]? = some s) (hf : fits s) (ha : ∀ b t, pick ss fits ahead k = some b → ss[b]? = some t → ahead s t) : pick ss fits ahead (k + 1) = some k := by
  rw [pick]
  simp only [hs]
  rw [if_pos ⟨hf, ha⟩]
theorem pick_not {ss : List Signal} {fits : Signal → Prop} {ahead : Signal → Signal → Prop} {k : Nat} {s : Signal} (hs : ss[k]? = some s) (hf : ¬ fits s) : pick ss fits ahead (k + 1) = pick ss fits ahead k := by
  rw [pick]
  simp only [hs]
  rw [if_neg (fun h => hf h.1)]
theorem pick_old {ss : List Signal} {fits : Signal → Prop} {ahead : Signal → Signal → Prop} {k b : Nat} {s t : Signal} (hs : ss[k]? = some s) (hb : pick ss fits ahead k = some b) (ht : ss[b]? = some t) (ha : ¬ ahead s t) : pick ss fits ahead (k + 1) = some b := by
  rw [pick]
  simp only [hs]
  rw [if_neg (fun h => ha (h.2 b t hb ht)), hb]
/-- As the programs say it: -1 for none. -/
def onum (o : Option Nat) : Int := match o with
  | none => -1
  | some b => b
/-! ### parts -/
def partN (n : Net) (p way a b : Int) : Part := if way = 1 then ⟨p, a, b⟩ else ⟨p, pl n p - b, pl n p - a⟩
noncomputable def beyond (n : Net) : Nat → Int → Int → Int → Int → List Part
  | 0, _, _, _, _ => []
  | m + 1, p, way, far, left =>
    if left ≤ 0 then [] else
    let til := if far + left ≤ pl n p then far + left else pl n p
    let jk := atJ n (headE p way)
    if left - (til - far) = 0 ∨ ¬ (jt n jk.1).kind = 2 then [partN n p way far til]
    else
      let e := en (jt n jk.1) (1 - jk.2)
      partN n p way far til :: beyond n m e.piece (wayOf e) 0 (left - (til - far))
/-! ### flanks -/
noncomputable def flankF (n : Net) (ss : List Signal) (lies : List Lie) (a : Int) : Nat → List End × List Flank → End → List End × List Flank
  | 0, st, _ => st
  | m + 1, (seen, fl), e =>
    if e ∈ seen then (seen, fl) else
    match lastS n ss e.piece (if e.side = 0 then -1 else 1) with
    | some b => (seen ++ [e], fl ++ [⟨a, 2, b, 0⟩])
    | none =>
      let jk := atJ n ⟨e.piece, 1 - e.side⟩
      let x := jt n jk.1
      if x.kind = 1 then (seen ++ [e], fl ++ [⟨a, 1, jk.1, 0⟩])
      else if x.kind = 3 then
        if jk.2 = 0 then flankF n ss lies a m (flankF n ss lies a m (seen ++ [e], fl) (en x 1)) (en x 2)
        else if (⟨jk.1, jk.2⟩ : Lie) ∈ lies then (seen ++ [e], fl ++ [⟨a, 4, jk.1, 0⟩])
        else (seen ++ [e], fl ++ [⟨a, 3, jk.1, 3 - jk.2⟩])
      else flankF n ss lies a m (seen ++ [e], fl) ((across x jk.2).headD ⟨0, 0⟩)
/-- The flanks at one switch of a route. -/
noncomputable def flanksAt (n : Net) (ss : List Signal) (lies : List Lie) (l : Lie) : List Flank :=
  (flankF n ss lies l.joint (2 * n.pieces.length + 1) ([], []) (en (jt n l.joint.toNat) (3 - l.lie).toNat)).2
noncomputable def flanksOf (n : Net) (ss : List Signal) (lies : List Lie) : List Flank := (lies.map (flanksAt n ss lies)).flatten
/-! ### ways -/
/-- A switch is wanted so; none where it is wanted otherwise. -/
noncomputable def addLie (lies : List Lie) (j : Nat) (l : Int) : Option (List Lie) :=
  match lies.find? (fun x => eqv x.joint (j : Int)) with
  | some x => if x.lie = l then some lies else none
  | none => some (lies ++ [⟨j, l⟩])
def lieAt (k i : Nat) : Int := if k = 0 then (i : Int) + 1 else k
noncomputable def goOn (r : Route) (x : Joint) (j k i : Nat) : Option Route :=
  if x.kind = 3 then (addLie r.lies j (lieAt k i)).map (fun l => { r with lies := l })
  else if x.kind = 4 then some { r with crosses := r.crosses ++ [(j : Int)] }
  else some r
noncomputable def fin (n : Net) (ss : List Signal) (r : Route) : Route := { r with flanks := flanksOf n ss r.lies }
/-- What is known of a search: the routes found, and how many tries. -/
abbrev St := List Route × Nat
def full (st : St) : Prop := 300 < st.1.length ∨ 20000 < st.2
/-- The ends ahead, one after the other: the first i of them. -/
noncomputable def kidsTo (go : St → Route → Int → Int → Int → St) (r : Route) (x : Joint) (j k : Nat) (l : List End) (st : St) : Nat → St
  | 0 => st
  | i + 1 => match l[i]? with
    | none => kidsTo go r x j k l st i
    | some e => match goOn r x j k i with
      | none => kidsTo go r x j k l st i
      | some q => go (kidsTo go r x j k l st i) q e.piece (wayOf e) 0
def Route.on (r : Route) (n : Net) (p way a b : Int) : Route := { r with steps := r.steps ++ [⟨p, way⟩], parts := r.parts ++ [partN n p way a b] }
/-- Where a signal stands, by the way one looks. -/
def sigFar (n : Net) (ss : List Signal) (b : Nat) (p way : Int) : Int := farOf n p (((ss[b]?).map Signal.at_).getD 0) way
noncomputable def sigR (n : Net) (ss : List Signal) (ov : Int) (r : Route) (p way far : Int) (b : Nat) : Route :=
  { r.on n p way far (sigFar n ss b p way) with til := b, over := beyond n (ov.toNat + 1) p way (sigFar n ss b p way) ov }
noncomputable def walkF (n : Net) (ss : List Signal) (ov : Int) : Nat → St → Route → Int → Int → Int → St
  | 0, st, _, _, _, _ => st
  | m + 1, st, r, p, way, far =>
    if full (st.1, st.2 + 1) then (st.1, st.2 + 1) else
    match firstS n ss p way far with
    | some b => (st.1 ++ [fin n ss (sigR n ss ov r p way far b)], st.2 + 1)
    | none =>
      if (⟨p, way⟩ : Step) ∈ r.steps then (st.1, st.2 + 1) else
      if (jt n (atJ n (headE p way)).1).kind = 1 then (st.1 ++ [fin n ss { r.on n p way far (pl n p) with til := -1 }], st.2 + 1)
      else kidsTo (walkF n ss ov m) (r.on n p way far (pl n p)) (jt n (atJ n (headE p way)).1) (atJ n (headE p way)).1 (atJ n (headE p way)).2
        (across (jt n (atJ n (headE p way)).1) (atJ n (headE p way)).2) (st.1, st.2 + 1) (across (jt n (atJ n (headE p way)).1) (atJ n (headE p way)).2).length
section
variable {n : Net} {ss : List Signal} {ov : Int} {m : Nat} {st : St} {r : Route} {p way far : Int}
theorem walkF_full (h : full (st.1, st.2 + 1)) : walkF n ss ov (m + 1) st r p way far = (st.1, st.2 + 1) := by rw [walkF, if_pos h]
theorem walkF_sig {b : Nat} (h : ¬ full (st.1, st.2 + 1)) (hb : firstS n ss p way far = some b) : walkF n ss ov (m + 1) st r p way far = (st.1 ++ [fin n ss (sigR n ss ov r p way far b)], st.2 + 1) := by
  rw [walkF, if_neg h]
  simp only [hb]
theorem walkF_round (h : ¬ full (st.1, st.2 + 1)) (hb : firstS n ss p way far = none) (hr : (⟨p, way⟩ : Step) ∈ r.steps) : walkF n ss ov (m + 1) st r p way far = (st.1, st.2 + 1) := by
  rw [walkF, if_neg h]
  simp only [hb]
  rw [if_pos hr]
theorem walkF_end {j k : Nat} {x : Joint} (h : ¬ full (st.1, st.2 + 1)) (hb : firstS n ss p way far = none) (hr : ¬ (⟨p, way⟩ : Step) ∈ r.steps) (ha : atJ n (headE p way) = (j, k)) (hx : jt n j = x) (h1 : x.kind = 1) :
    walkF n ss ov (m + 1) st r p way far = (st.1 ++ [fin n ss { r.on n p way far (pl n p) with til := -1 }], st.2 + 1) := by
  rw [walkF, if_neg h]
  simp only [hb]
  rw [if_neg hr, ha]
  simp only [hx]
  rw [if_pos h1]
theorem walkF_on {j k : Nat} {x : Joint} (h : ¬ full (st.1, st.2 + 1)) (hb : firstS n ss p way far = none) (hr : ¬ (⟨p, way⟩ : Step) ∈ r.steps) (ha : atJ n (headE p way) = (j, k)) (hx : jt n j = x) (h1 : ¬ x.kind = 1) :
    walkF n ss ov (m + 1) st r p way far = kidsTo (walkF n ss ov m) (r.on n p way far (pl n p)) x j k (across x k) (st.1, st.2 + 1) (across x k).length := by
  rw [walkF, if_neg h]
  simp only [hb]
  rw [if_neg hr, ha]
  simp only [hx]
  rw [if_neg h1]
end
noncomputable def startR (i : Nat) : Route := ⟨i, 0, [], [], [], [], [], []⟩
noncomputable def allF (n : Net) (ss : List Signal) (ov : Int) : Nat → St
  | 0 => ([], 0)
  | k + 1 => match ss[k]? with
    | none => allF n ss ov k
    | some s => walkF n ss ov (2 * n.pieces.length + 1) (allF n ss ov k) (startR k) s.piece s.way (farOf n s.piece s.at_ s.way)
noncomputable def routesF (n : Net) (ss : List Signal) (ov : Int) : List Route :=
  if ¬ signalsOk n ss = ⟨0, 0⟩ ∨ ¬ (0 ≤ ov ∧ ov ≤ 100000) then []
  else if full (allF n ss ov ss.length) then [] else (allF n ss ov ss.length).1
end Go.Proofs.Ytginpmhjpjcahaa.L
