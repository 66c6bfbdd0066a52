/- A map that the call made, told key by key: what a look-up, a store, and the two halves of 'm[k]++' do. Lemmas alone; no program is named. -/
import Derived.Test.YtginpmhjpjcahaaLib
import Derived.WideKeyEntry
import Derived.Maps.Own
namespace Go.Proofs.Ytginpmhjpjcahaa.L
open Go.RowKit Go.MapKept Go.ChangeMaps Go.WideElems
open Go.WideMaps (KeyLaw)
set_option linter.unusedVariables false
/-- Block b is a map whose entries are what f says, no more than n of them. -/
def EM (P : Program) (k : TypeId) (w : World) (b n : Nat) (f : Value → Option Value) : Prop :=
  ∃ es clock, w.heap[b]? = some (.map es clock) ∧ Stamped es clock ∧ (∀ x ∈ es.toList, ∃ l, keyOf P k x.key = some l) ∧ (∀ x ∈ es.toList, f x.key = some x.val) ∧ (∀ key v, f key = some v → ∃ x ∈ es.toList, x.key = key) ∧ es.size ≤ n
noncomputable def upd (f : Value → Option Value) (key val : Value) : Value → Option Value := fun x => @ite _ (x = key) (Classical.propDecidable _) (some val) (f x)
theorem upd_same (f : Value → Option Value) (key val : Value) : upd f key val key = some val := by unfold upd; rw [if_pos rfl]
theorem upd_other (f : Value → Option Value) {key val x : Value} (h : ¬ x = key) : upd f key val x = f x := by unfold upd; rw [if_neg h]
section
variable {P : Program} {t k e : TypeId} {w : World} {b n : Nat} {f : Value → Option Value}
theorem EM.made (w : World) (P : Program) (k : TypeId) : EM P k (w.alloc (.map #[] 0)) w.heap.size 0 (fun _ => none) :=
  ⟨#[], 0, heap_alloc_new w _, stamped_empty 0, by simp, by simp, fun _ _ h => (by cases h), Nat.le_refl _⟩
theorem EM.lt (h : EM P k w b n f) : b < w.heap.size := by
  obtain ⟨es, clock, hb, _⟩ := h
  exact lt_of_get hb
theorem EM.move {w1 : World} (h : EM P k w b n f) (hm : w1.heap[b]? = w.heap[b]?) : EM P k w1 b n f := by
  obtain ⟨es, clock, hb, r⟩ := h
  exact ⟨es, clock, hm.trans hb, r⟩
theorem EM.below {w1 : World} (h : EM P k w b n f) (hb : Below w.heap.size w w1) : EM P k w1 b n f := h.move (hb.block b h.lt)
theorem EM.more (h : EM P k w b n f) : EM P k w b (n + 1) f := by
  obtain ⟨es, clock, hb, h1, h2, h3, h4, h5⟩ := h
  exact ⟨es, clock, hb, h1, h2, h3, h4, by omega⟩
theorem idx_of_two {l : List MapEntry} (h : (l.map (·.key)).Nodup) {i j : Nat} {x y : MapEntry} (hi : l[i]? = some x) (hj : l[j]? = some y) (he : x.key = y.key) : i = j := by
  induction l generalizing i j with
  | nil => simp at hi
  | cons a r ih =>
    rw [List.map_cons, List.nodup_cons] at h
    cases i with
    | zero =>
      cases j with
      | zero => rfl
      | succ j =>
        simp at hi hj
        subst hi
        exact absurd (List.mem_map.2 ⟨y, List.mem_of_getElem? hj, he.symm⟩) h.1
    | succ i =>
      cases j with
      | zero =>
        simp at hi hj
        subst hj
        exact absurd (List.mem_map.2 ⟨x, List.mem_of_getElem? hi, he⟩) h.1
      | succ j =>
        simp at hi hj
        rw [ih h.2 hi hj]
/-- 'm[k]'. -/
theorem EM.look (h : EM P k w b n f) (K : KeyLaw P k) (ht : P.underlying t = some (.map k e)) {z : Value} (hz : (zeroValue e).run P w = .ok z w) {key : Value} {kl : Lit} (hkey : keyOf P k key = some kl) :
    (Instr.lookup t (.map (some b)) key false).run P w = .ok ((f key).getD z) w := by
  obtain ⟨es, clock, hb, hst, hks, h1, h2, hs⟩ := h
  rcases K.find w hkey es.toList hks with ⟨r1, r2⟩ | ⟨j, e0, r1, r2, r3⟩
  · have hf : f key = none := by
      cases hfk : f key with
      | none => rfl
      | some v =>
        obtain ⟨x, hx, hxk⟩ := h2 key v hfk
        exact absurd hxk (r2 x hx)
    simp [Instr.lookup, run_underlying ht, MapKept.run_getObj_map hb, K.check w _ hkey, r1, hz, Result.andThen, hf]
  · have hf : f key = some e0.val := by rw [← r3]; exact h1 e0 (List.mem_of_getElem? r2)
    simp [Instr.lookup, run_underlying ht, MapKept.run_getObj_map hb, K.check w _ hkey, r1, Result.andThen, hf]
theorem grown_setBlock {es : Array MapEntry} {clock : Nat} (hb : w.heap[b]? = some (.map es clock)) (o' : Obj) : w.grownBy (setBlock w b o') (some b) := ⟨rfl, rfl, rfl, by simp [setBlock], fun i _ hi => heap_setBlock_other hb _ (fun e => hi (by rw [e]))⟩
section
variable {es : Array MapEntry} {clock : Nat}
/-- What the entries say. -/
def Tells (P : Program) (k : TypeId) (es : Array MapEntry) (clock : Nat) (f : Value → Option Value) : Prop :=
  Stamped es clock ∧ (∀ x ∈ es.toList, ∃ l, keyOf P k x.key = some l) ∧ (∀ x ∈ es.toList, f x.key = some x.val) ∧ (∀ key v, f key = some v → ∃ x ∈ es.toList, x.key = key)
theorem tells_push (h : Tells P k es clock f) {key val : Value} {l : Lit} (hkey : keyOf P k key = some l) (hne : ∀ x ∈ es.toList, x.key ≠ key) : Tells P k (es.push ⟨key, val, clock⟩) (clock + 1) (upd f key val) := by
  obtain ⟨hst, hks, h1, h2⟩ := h
  refine ⟨stamped_push hst hne, ?_, ?_, ?_⟩
  · intro x hx
    rw [Array.toList_push, List.mem_append, List.mem_singleton] at hx
    rcases hx with hx | rfl
    · exact hks x hx
    · exact ⟨l, hkey⟩
  · intro x hx
    rw [Array.toList_push, List.mem_append, List.mem_singleton] at hx
    rcases hx with hx | rfl
    · rw [upd_other f (hne x hx)]
      exact h1 x hx
    · exact upd_same f key val
  · intro key' v hv
    rw [Array.toList_push]
    by_cases hkk : key' = key
    · exact ⟨_, List.mem_append_right _ (List.mem_singleton.2 rfl), hkk.symm⟩
    · rw [upd_other f hkk] at hv
      obtain ⟨x, hx, hxk⟩ := h2 key' v hv
      exact ⟨x, List.mem_append_left _ hx, hxk⟩
theorem tells_set (h : Tells P k es clock f) {key val : Value} {j : Nat} {e0 : MapEntry} (hj : es.toList[j]? = some e0) (hk : e0.key = key) : Tells P k (es.modify j fun x => { x with key := key, val := val }) clock (upd f key val) := by
  obtain ⟨hst, hks, h1, h2⟩ := h
  have hnd := hst.2.2
  have hl : (es.modify j fun x => { x with key := key, val := val }).toList = es.toList.modify j (fun x => { x with key := key, val := val }) := by rw [Array.toList_modify]
  have hmem : ∀ x, x ∈ es.toList.modify j (fun x => { x with key := key, val := val }) → (x = ⟨key, val, e0.born⟩) ∨ (x ∈ es.toList ∧ ¬ x.key = key) := by
    intro x hx
    obtain ⟨i, hi⟩ := List.mem_iff_getElem?.1 hx
    rw [List.getElem?_modify] at hi
    by_cases hij : j = i
    · subst hij
      rw [hj] at hi
      simp only [if_true, Option.map_eq_map, Option.map_some, Option.some.injEq] at hi
      exact .inl hi.symm
    · simp only [if_neg hij] at hi
      replace hi : es.toList[i]? = some x := by simpa using hi
      refine .inr ⟨List.mem_of_getElem? hi, fun he => hij ?_⟩
      exact (idx_of_two hnd hi hj (he.trans hk.symm)).symm
  refine ⟨stamped_modify hst j _ (fun _ _ => rfl) (fun x hx hxj => ?_), ?_, ?_, ?_⟩
  · have : x = e0 := by
      have h3 : es.toList[j]? = some x := by simpa using hxj
      exact Option.some.inj (h3.symm.trans hj)
    rw [this, hk]
  · rw [hl]
    intro x hx
    rcases hmem x hx with rfl | ⟨hx, _⟩
    · obtain ⟨l, hl⟩ := hks e0 (List.mem_of_getElem? hj)
      exact ⟨l, by rw [hk] at hl; exact hl⟩
    · exact hks x hx
  · rw [hl]
    intro x hx
    rcases hmem x hx with rfl | ⟨hx, hne⟩
    · exact upd_same f key val
    · rw [upd_other f hne]
      exact h1 x hx
  · rw [hl]
    intro key' v hv
    by_cases hkk : key' = key
    · refine ⟨⟨key, val, e0.born⟩, List.mem_of_getElem? (i := j) ?_, hkk.symm⟩
      rw [List.getElem?_modify, hj]
      simp
    · rw [upd_other f hkk] at hv
      obtain ⟨x, hx, hxk⟩ := h2 key' v hv
      obtain ⟨i, hi⟩ := List.mem_iff_getElem?.1 hx
      have hij : ¬ j = i := fun he => by
        subst he
        rw [hj] at hi
        obtain rfl := Option.some.inj hi
        exact hkk (hxk.symm.trans hk)
      exact ⟨x, List.mem_of_getElem? (i := i) (by rw [List.getElem?_modify]; simp only [if_neg hij]; simpa using hi), hxk⟩
end
theorem EM.tells {es : Array MapEntry} {clock : Nat} (hb : w.heap[b]? = some (.map es clock)) (h : Tells P k es clock f) (hs : es.size ≤ n) : EM P k w b n f := ⟨es, clock, hb, h.1, h.2.1, h.2.2.1, h.2.2.2, hs⟩
/-- 'm[k] = v'. -/
theorem EM.store (h : EM P k w b n f) (K : KeyLaw P k) (ht : P.underlying t = some (.map k e)) {key : Value} {kl : Lit} (hkey : keyOf P k key = some kl) (val : Value) :
    ∃ w1, (Instr.mapUpdate t (.map (some b)) key val).run P w = .ok () w1 ∧ EM P k w1 b (n + 1) (upd f key val) ∧ w.grownBy w1 (some b) := by
  obtain ⟨es, clock, hb, hst, hks, h1, h2, hs⟩ := h
  rcases K.find w hkey es.toList hks with ⟨r1, r2⟩ | ⟨j, e0, r1, r2, r3⟩
  · refine ⟨setBlock w b (.map (es.push ⟨key, val, clock⟩) (clock + 1)), ?_, EM.tells (heap_setBlock_same hb _) (tells_push ⟨hst, hks, h1, h2⟩ hkey r2) (by simp; omega), grown_setBlock hb _⟩
    simp [Instr.mapUpdate, run_underlying ht, MapKept.run_getObj_map hb, K.check w false hkey, r1, MapKept.run_setObj_map _ hb, Result.andThen, setBlock]
  · have hj : es[j]? = some e0 := by simpa using r2
    refine ⟨setBlock w b (.map (es.modify j fun x => { x with key := key, val := val }) clock), ?_, EM.tells (heap_setBlock_same hb _) (tells_set ⟨hst, hks, h1, h2⟩ r2 r3) (by simp; omega), grown_setBlock hb _⟩
    simp [Instr.mapUpdate, run_underlying ht, MapKept.run_getObj_map hb, K.check w false hkey, r1, hj, r3, K.stays w hkey, MapKept.run_setObj_map _ hb, Result.andThen, setBlock]
theorem findIdx_last {es : Array MapEntry} {clock : Nat} (hst : Stamped es clock) (key z : Value) : (es.push ⟨key, z, clock⟩).findIdx? (fun e => ((e.born : Nat) : Int) == ((clock : Nat) : Int)) = some es.size := by
  rw [findIdx_arr]
  exact findIdx_born (l := (es.push ⟨key, z, clock⟩).toList) (j := es.size) (e0 := ⟨key, z, clock⟩) (by
    simp only [Array.toList_push, List.map_append, List.map_cons, List.map_nil]
    refine List.nodup_append.2 ⟨hst.2.1, by simp, fun a ha c hc e1 => ?_⟩
    simp only [List.mem_singleton] at hc
    obtain ⟨x, hx, rfl⟩ := List.mem_map.1 ha
    have := hst.1 x hx
    omega) (by simp)
/-- 'm[k] op= v': the entry first (one with the zero value where there is none), then the store into it. -/
theorem EM.entry (h : EM P k w b n f) (K : KeyLaw P k) (ht : P.underlying t = some (.map k e)) {z : Value} (hz : ∀ u : World, (zeroValue e).run P u = .ok z u) {key : Value} {kl : Lit} (hkey : keyOf P k key = some kl) (val : Value) :
    ∃ w1 st, (Instr.mapEntry t (.map (some b)) key).run P w = .ok (.tuple #[(f key).getD z, goInt st]) w1 ∧ w.grownBy w1 (some b) ∧ w1.heap.size = w.heap.size ∧
      (Instr.lookup t (.map (some b)) key false).run P w1 = .ok ((f key).getD z) w1 ∧
      ∃ w2, (Instr.entryStore t (.map (some b)) (goInt st) val).run P w1 = .ok () w2 ∧ EM P k w2 b (n + 1) (upd f key val) ∧ w.grownBy w2 (some b) := by
  obtain ⟨es, clock, hb, hst, hks, h1, h2, hs⟩ := h
  rcases K.find w hkey es.toList hks with ⟨r1, r2⟩ | ⟨j, e0, r1, r2, r3⟩
  · have hf : f key = none := by
      cases hfk : f key with
      | none => rfl
      | some v =>
        obtain ⟨x, hx, hxk⟩ := h2 key v hfk
        exact absurd hxk (r2 x hx)
    have T1 := tells_push ⟨hst, hks, h1, h2⟩ hkey r2 (val := z)
    have hb1 := heap_setBlock_same hb (.map (es.push ⟨key, z, clock⟩) (clock + 1))
    have E1 : EM P k (setBlock w b (.map (es.push ⟨key, z, clock⟩) (clock + 1))) b (n + 1) (upd f key z) := EM.tells hb1 T1 (by simp; omega)
    have hidx := findIdx_last hst key z
    have hat : (es.push ⟨key, z, clock⟩).toList[es.size]? = some ⟨key, z, clock⟩ := by simp
    have T2 := tells_push ⟨hst, hks, h1, h2⟩ hkey r2 (val := val)
    have hmod : (es.push ⟨key, z, clock⟩).modify es.size (fun e => { e with val := val }) = es.push ⟨key, val, clock⟩ := by
      apply Array.ext'
      rw [Array.toList_modify, Array.toList_push, Array.toList_push, ← Array.length_toList, modify_last]
    refine ⟨setBlock w b (.map (es.push ⟨key, z, clock⟩) (clock + 1)), clock, ?_, grown_setBlock hb _, by simp [setBlock], ?_, setBlock (setBlock w b (.map (es.push ⟨key, z, clock⟩) (clock + 1))) b (.map (es.push ⟨key, val, clock⟩) (clock + 1)), ?_, EM.tells (heap_setBlock_same hb1 _) T2 (by simp; omega), World.grownBy.trans (grown_setBlock hb _) (grown_setBlock hb1 _)⟩
    · simp [Instr.mapEntry, run_underlying ht, MapKept.run_getObj_map hb, K.check w false hkey, r1, hz, hf, MapKept.run_setObj_map _ hb, Result.andThen, setBlock]
    · have := E1.look K ht (hz _) hkey
      rw [upd_same] at this
      rw [hf]
      exact this
    · generalize setBlock w b _ = W1 at hb1 ⊢
      simp [Instr.entryStore, MapKept.run_getObj_map hb1, asInt, asIntOf, goInt, hidx, hmod, MapKept.run_setObj_map _ hb1, Result.andThen, setBlock]
  · have hj : es[j]? = some e0 := by simpa using r2
    have hf : f key = some e0.val := by rw [← r3]; exact h1 e0 (List.mem_of_getElem? r2)
    have hsame : es.modify j (fun e => { e with key := key }) = es := by
      apply Array.ext'
      rw [Array.toList_modify, modify_eq_set _ _ _ _ r2]
      have : ({ e0 with key := key } : MapEntry) = e0 := by rw [← r3]
      rw [this]
      exact set_self _ _ _ r2
    have hidx : es.findIdx? (fun e => ((e.born : Nat) : Int) == ((e0.born : Nat) : Int)) = some j := by
      rw [findIdx_arr]
      exact findIdx_born hst.2.1 r2
    have hmod : es.modify j (fun e => { e with val := val }) = es.modify j (fun e' => { e' with key := key, val := val }) := by
      apply Array.ext'
      rw [Array.toList_modify, Array.toList_modify, modify_eq_set _ _ _ _ r2, modify_eq_set _ _ _ _ r2, ← r3]
    have T2 := tells_set ⟨hst, hks, h1, h2⟩ r2 r3 (val := val)
    have hb1 := heap_setBlock_same hb (.map es clock)
    refine ⟨setBlock w b (.map es clock), e0.born, ?_, grown_setBlock hb _, by simp [setBlock], ?_, setBlock (setBlock w b (.map es clock)) b (.map (es.modify j fun x => { x with key := key, val := val }) clock), ?_, EM.tells (heap_setBlock_same hb1 _) T2 (by simp; omega), World.grownBy.trans (grown_setBlock hb _) (grown_setBlock hb1 _)⟩
    · simp [Instr.mapEntry, run_underlying ht, MapKept.run_getObj_map hb, K.check w false hkey, r1, hj, r3, hf, K.stays w hkey, hsame, MapKept.run_setObj_map _ hb, Result.andThen, setBlock]
    · exact EM.look (n := n) (EM.tells hb1 ⟨hst, hks, h1, h2⟩ hs) K ht (hz _) hkey
    · generalize setBlock w b _ = W1 at hb1 ⊢
      simp [Instr.entryStore, MapKept.run_getObj_map hb1, asInt, asIntOf, goInt, hidx, hmod, MapKept.run_setObj_map _ hb1, Result.andThen, setBlock]
end
end Go.Proofs.Ytginpmhjpjcahaa.L
