/- The frame of every row here: a law that answers true and leaves the memory below it as it was. And opening: arguments that read as data read as values of a kind. -/
import Derived.Test.YtginpmhjpjcahaaTypes
import Derived.ProofKit
import Derived.OpenShut
import Derived.ChangeOld
import Derived.SizedLaws
import Derived.Carry
namespace Go.Proofs.Ytginpmhjpjcahaa.L
open Go.ChangeShapes Go.WideShapes Go.ChangeAt Go.RowKit
set_option linter.unusedVariables false

theorem trodAll_below {H : Type} {enc : TypeId × Value → H} {P : Program} (hl : laidOutB P = true) {W W' : World} (hb : Below W.heap.size W W') :
    ∀ (ts : List TypeId) (vs : List Value) (ds : List (DataW H)) (ps : List MemPlace), (∀ t ∈ ts, P.readableRec t = true ∧ t < P.types.size) →
      DataW.TrodAll enc P W 0 (fun _ => true) true ts vs ds ps → (∀ x ∈ ps, x.block < W.heap.size) → DataW.TrodAll enc P W' 0 (fun b => decide (b < W.heap.size)) true ts vs ds ps
  | [], [], [], ps, _, h, _ => h
  | t :: ts, v :: vs, d :: ds, ps, hp, h, hlt => by
    obtain ⟨p, q, h1, h2, rfl⟩ := h
    refine ⟨p, q, Below.trod hl (hp t (by simp)).1 (hp t (by simp)).2 h1 hb (fun x hx => hlt x (List.mem_append_left _ hx)), ?_, rfl⟩
    exact trodAll_below hl hb ts vs ds q (fun t ht => hp t (by simp [ht])) h2 (fun x hx => hlt x (List.mem_append_right _ hx))
  | [], _ :: _, _, _, _, h, _ => h.elim
  | [], [], _ :: _, _, _, h, _ => h.elim
  | _ :: _, [], _, _, _, h, _ => h.elim
  | _ :: _, _ :: _, [], _, _, h, _ => h.elim
theorem trodAll_len {H : Type} {enc : TypeId × Value → H} {P : Program} {W : World} {b : Nat} {sp : Nat → Bool} {hd : Bool} :
    ∀ (ts : List TypeId) (vs : List Value) (ds : List (DataW H)) (ps : List MemPlace), DataW.TrodAll enc P W b sp hd ts vs ds ps → ds.length = ts.length
  | [], [], [], _, _ => rfl
  | t :: ts, v :: vs, d :: ds, ps, h => by
    obtain ⟨p, q, h1, h2, rfl⟩ := h
    simp [trodAll_len ts vs ds q h2]
  | [], _ :: _, _, _, h => h.elim
  | [], [], _ :: _, _, h => h.elim
  | _ :: _, [], _, _, h => h.elim
  | _ :: _, _ :: _, [], _, h => h.elim

theorem law_lift {H : Type} {enc : TypeId × Value → H} {C : Checked} {os : Os} {f : FuncId} {fn : Func} {s : ChangeSpec} {tb : TypeId}
    (own : ownKnob C.prog.godebug = none) (started : os.Started) (noInit : C.prog.inits.idxOf? f = none) (hfn : C.prog.funcs[f]? = some fn) (hl : laidOutB C.prog = true)
    (hs : s.vars = []) (hr : fn.resultTypes.toList = [tb]) (hb : C.prog.underlying tb = some .bool) (hp : ∀ t ∈ fn.params.toList, C.prog.readableRec t = true ∧ t < C.prog.types.size)
    (hfc : ∀ ds : List (DataW H), ds.length = fn.params.toList.length → s.fn H ds = { results := [.lit (.bool true)], args := ds })
    (witness : ∃ (w : World) (tape : Tape) (i : Input), w.os = os ∧ (w.forCall tape i).Shaped C.prog ∧ i.vars = [] ∧ Input.okWide C.prog (w.forCall tape i) .any w.heap.size f i ∧
      s.pre6 enc C.prog fn [] false (w.forCall tape i).memory i.args ∧ Assume.holds {} C.prog (lone (Frame.enter C.prog f i.args .normal) [] (w.forCall tape i)))
    (walk : ∀ (W : World) (base : Nat) (args : Array Value) (ds : List (DataW H)) (p : List MemPlace), (∀ (j : Nat) t v, fn.params.toList[j]? = some t → args[j]? = some v → Value.okWide C.prog W .any base t v) →
      DataW.TrodAll enc C.prog W 0 (fun _ => true) true fn.params.toList args.toList ds p → Calls C.prog f args W fun e W' => e = .returned (.bool true) ∧ Below W.heap.size W W') :
    ReturnsInHanded {} C os f .any (s.pre6 enc C.prog fn [] false) (s.post enc C.prog fn false true false false) := by
  refine returnsInHanded_of_change_sized own started noInit hfn witness ?_
  intro W base args ds gs before hval hW _ _ _
  have hW' := hW
  obtain ⟨p, q, hA, hV, rfl, _, _⟩ := hW
  rw [hs] at hV
  obtain ⟨rfl, rfl⟩ := trodVars_none hV
  have hlt : ∀ x ∈ p, x.block < W.heap.size := fun x hx => hW'.lt x (List.mem_append_left _ hx)
  refine (walk W base args ds p (fun j t v h1 h2 => hval j t v (by rw [← Array.getElem?_toList]; exact h1) h2) hA).mono fun e W' ⟨he, hw⟩ => ?_
  subst he
  have hlen := trodAll_len _ _ _ _ hA
  have hsz : fn.resultTypes.size = 1 := by rw [← Array.length_toList, hr]; rfl
  refine ⟨_, rfl, ds, [], _, [], p, [], hW', ?_, ?_, ?_, hw.frame _, fun h => by cases h⟩
  · rw [List.append_nil, hfc ds hlen, hr, hsz]
    exact trodAll_mk1 (shut_bool hb _)
  · rw [List.append_nil, hfc ds hlen]
    exact trodAll_below hl hw _ _ _ _ hp hA hlt
  · rw [List.append_nil, hfc ds hlen, hs]
    rfl

/-! ### opening -/
theorem add_add (a : Addr) (m k : Nat) : (a.add m).add k = a.add (m + k) := by
  unfold Addr.add
  by_cases hm : m = 0
  · subst hm
    simp
  · by_cases hk : k = 0
    · subst hk
      simp [hm]
    · simp [hm, hk, Nat.add_assoc]
/-- A type whose cells, where they read as data, read as a value of this kind. -/
def Opens {α : Type} (P : Program) (t : TypeId) (d : Kn α) (fit : α → Prop) : Prop :=
  P.cellsOf t = d.sz ∧ ∀ (H : Type) (enc : TypeId × Value → H) (w : World) (sp : Nat → Bool) (hd : Bool) (m : Nat) (cs : List Value) (x : DataW H × List MemPlace),
    DataW.trod enc P w 0 sp hd m t cs = some x → ∃ y, d.K w (fun _ => True) y cs ∧ fit y
theorem opens_int {P : Program} {t : TypeId} (ht : P.underlying t = some (.int .i64)) (hc : P.cellsOf t = 1) : Opens P t Kn.int (fun n => (Lit.int .i64 n).wf = true) :=
  ⟨hc, fun H enc w sp hd m cs x h => by
    obtain ⟨n, rfl, _, hn⟩ := DataW.trod_int ht h
    exact ⟨n, rfl, hn⟩⟩
theorem opens_str {P : Program} {t : TypeId} (ht : P.underlying t = some .string) (hc : P.cellsOf t = 1) : Opens P t Kn.str (fun s => s.size ≤ 9223372036854775807) :=
  ⟨hc, fun H enc w sp hd m cs x h => by
    obtain ⟨n, rfl, _, hn⟩ := DataW.trod_string ht h
    simp only [maxLen] at hn
    exact ⟨n, rfl, by omega⟩⟩
theorem opens_slice {P : Program} {t e : TypeId} {α : Type} {d : Kn α} {fit : α → Prop} {E : Nat} (ht : P.underlying t = some (.slice e)) (hc : P.cellsOf t = 1) (he : Opens P e d fit) (hz : 0 < d.sz) :
    Opens P t (Kn.slice E d) (fun xs => ∀ x ∈ xs, fit x) :=
  ⟨hc, fun H enc w sp hd m cs x h => by
    rcases DataW.trod_slice ht h with ⟨rfl, _⟩ | ⟨a, len, cap, elems, rest, n, rfl, rfl, _, hb, hl, hm, hel, hi, _⟩
    · exact ⟨[], ⟨none, 0, rfl, by simp, Kn.C_nil⟩, by simp⟩
    · have key : ∀ k, k ≤ len → ∃ xs : List α, xs.length = k ∧ (∀ x ∈ xs, fit x) ∧ ∀ j x, xs[j]? = some x → ∃ c, d.K w (fun _ => True) x c ∧ ∀ i u, c[i]? = some u → w.cell? (a.add (j * d.sz + i)) = some u := by
        intro k
        induction k with
        | zero => exact fun _ => ⟨[], rfl, by simp, by simp⟩
        | succ k ih =>
          intro hk
          obtain ⟨xs, h1, h2, h3⟩ := ih (by omega)
          have h4 := hi k (by omega)
          rw [List.getElem?_eq_getElem (by omega), Option.bind_eq_some_iff] at h4
          obtain ⟨c, h5, h6⟩ := h4
          obtain ⟨y, h7, h8⟩ := he.2 H enc w sp hd n c _ h6
          obtain ⟨_, h9, h10⟩ := World.cells?_some h5
          rw [he.1] at h9 h10
          refine ⟨xs ++ [y], by simp [h1], ?_, ?_⟩
          · intro x hx
            rcases List.mem_append.1 hx with hx | hx
            · exact h2 x hx
            · rw [List.mem_singleton.1 hx]
              exact h8
          · intro j x hj
            by_cases hjk : j < xs.length
            · rw [List.getElem?_append_left hjk] at hj
              exact h3 j x hj
            · have hjl := (List.getElem?_eq_some_iff.1 hj).1
              rw [List.length_append, List.length_singleton] at hjl
              obtain rfl : j = k := by omega
              rw [List.getElem?_append_right (by omega), h1, Nat.sub_self] at hj
              obtain rfl := Option.some.inj hj
              refine ⟨c, h7, fun i u hu => ?_⟩
              have hil := (List.getElem?_eq_some_iff.1 hu).1
              rw [← add_add, h10 i (by omega)]
              exact hu
      obtain ⟨xs, h1, h2, h3⟩ := key len (Nat.le_refl _)
      simp only [maxLen] at hm
      refine ⟨xs, ⟨some a, cap, by rw [h1], by omega, by omega, fun h0 => ⟨a, rfl, trivial, ?_, h3⟩⟩, h2⟩
      have h4 := hi 0 (by omega)
      rw [List.getElem?_eq_getElem (by omega), Option.bind_eq_some_iff] at h4
      obtain ⟨c, h5, _⟩ := h4
      have := World.cells?_block h5 (by rw [he.1]; exact hz)
      simpa [add_block] using this⟩
/-- The fields from the i-th on, which lie from cell o on. -/
def OpensAt {α : Type} (P : Program) (fs : Array Field) (o : Nat) (d : Kn α) (fit : α → Prop) : Prop :=
  ∀ (H : Type) (enc : TypeId × Value → H) (w : World) (sp : Nat → Bool) (hd : Bool) (m : Nat) (cs : List Value), cs.length = o + d.sz →
    (∀ (i : Nat) (f : Field), fs[i]? = some f → ∃ x, DataW.trod enc P w 0 sp hd m f.type ((cs.drop f.offset).take (P.cellsOf f.type)) = some x) → ∃ y, d.K w (fun _ => True) y (cs.drop o) ∧ fit y
theorem opens_last {P : Program} {fs : Array Field} {α : Type} {d : Kn α} {fit : α → Prop} {f : Field} {o : Nat} (i : Nat) (hf : fs[i]? = some f) (ho : f.offset = o) (h : Opens P f.type d fit) : OpensAt P fs o d fit := by
  subst ho
  intro H enc w sp hd m cs hl hx
  obtain ⟨x, h1⟩ := hx i f hf
  rw [h.1, List.take_of_length_le (by rw [List.length_drop]; omega)] at h1
  exact h.2 H enc w sp hd m _ x h1
theorem opens_pair {P : Program} {fs : Array Field} {α β : Type} {d : Kn α} {fit : α → Prop} {d' : Kn β} {fit' : β → Prop} {f : Field} {o : Nat} (i : Nat) (hf : fs[i]? = some f) (ho : f.offset = o) (h : Opens P f.type d fit)
    (h' : OpensAt P fs (o + d.sz) d' fit') : OpensAt P fs o (Kn.pair d d') (fun x => fit x.1 ∧ fit' x.2) := by
  subst ho
  intro H enc w sp hd m cs hl hx
  have hl' : cs.length = f.offset + (d.sz + d'.sz) := hl
  obtain ⟨y', h3, h4⟩ := h' H enc w sp hd m cs (by omega) hx
  obtain ⟨x, h1⟩ := hx i f hf
  rw [h.1] at h1
  obtain ⟨y, h5, h6⟩ := h.2 H enc w sp hd m _ x h1
  refine ⟨(y, y'), ⟨_, _, ?_, h5, h3⟩, h6, h4⟩
  rw [← List.drop_drop, List.take_append_drop]
theorem opens_struct {P : Program} {t : TypeId} {fs : Array Field} {α β : Type} {d : Kn α} {fit : α → Prop} {fit' : β → Prop} (f : β → α) (g : α → β) (hg : ∀ x, f (g x) = x) (hfit : ∀ x, fit x → fit' (g x))
    (ht : P.underlying t = some (.struct fs)) (hc : P.cellsOf t = d.sz) (h : OpensAt P fs 0 d fit) : Opens P t (Kn.iso d f) fit' :=
  ⟨hc, fun H enc w sp hd m cs x hx => by
    obtain ⟨xs, n, rfl, _, h2, h3, h4⟩ := DataW.trod_struct ht hx
    obtain ⟨y, h5, h6⟩ := h H enc w sp hd n cs (by omega) (fun i f hf => by
      have hi : i < fs.size := (Array.getElem?_eq_some_iff.1 hf).1
      exact ⟨_, (h4 i f hf).trans (List.getElem?_eq_getElem (by omega))⟩)
    refine ⟨g y, ?_, hfit _ h6⟩
    show d.K w (fun _ => True) (f (g y)) cs
    rw [hg]
    exact h5⟩
end Go.Proofs.Ytginpmhjpjcahaa.L
