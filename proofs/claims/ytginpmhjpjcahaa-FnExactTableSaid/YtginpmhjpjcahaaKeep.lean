/- Memory of which some blocks alone are written (Keep), and rows of one's own whose elements read through blocks that are not written (Rw). Lemmas alone; no program is named. -/
import Derived.Test.YtginpmhjpjcahaaTypes
import Derived.Deep.AppendLies
import Derived.RegionTactic
namespace Go.Proofs.Ytginpmhjpjcahaa.L
open Go.RowKit
set_option linter.unusedVariables false
/-- What was there is as it was but for the blocks S. -/
structure Keep (S : Nat → Prop) (w w' : World) : Prop where
  os : w'.os = w.os
  tape : w'.tape = w.tape
  output : w'.output = w.output
  size : w.heap.size ≤ w'.heap.size
  block : ∀ k, k < w.heap.size → ¬ S k → w'.heap[k]? = w.heap[k]?
namespace Keep
variable {S S' : Nat → Prop} {a b c w w1 w2 : World}
theorem refl (S : Nat → Prop) (w : World) : Keep S w w := ⟨rfl, rfl, rfl, Nat.le_refl _, fun _ _ _ => rfl⟩
theorem trans (h : Keep S a b) (k : Keep S' b c) (hs : ∀ x, x < a.heap.size → S' x → S x) : Keep S a c :=
  ⟨k.os.trans h.os, k.tape.trans h.tape, k.output.trans h.output, Nat.le_trans h.size k.size, fun i hi hn => (k.block i (Nat.lt_of_lt_of_le hi h.size) (fun e => hn (hs i hi e))).trans (h.block i hi hn)⟩
theorem mono (h : Keep S' a b) (hs : ∀ x, x < a.heap.size → S' x → S x) : Keep S a b :=
  ⟨h.os, h.tape, h.output, h.size, fun i hi hn => h.block i hi (fun e => hn (hs i hi e))⟩
theorem of_below (h : Below w.heap.size w w1) : Keep S w w1 := ⟨h.os, h.tape, h.output, h.size, fun k hk _ => h.block k hk⟩
theorem below (h : Keep S a b) (k : Below b.heap.size b c) : Keep S a c := h.trans (of_below (S := fun _ => False) k) (fun _ _ e => e.elim)
theorem to_below {B : Nat} (h : Keep S a b) (hB : B ≤ a.heap.size) (hs : ∀ k, k < B → ¬ S k) : Below B a b :=
  ⟨h.os, h.tape, h.output, h.size, fun k hk => h.block k (Nat.lt_of_lt_of_le hk hB) (hs k hk)⟩
theorem alloc (h : Keep S w w1) (o : Obj) : Keep S w (w1.alloc o) := h.below (below_alloc _ _)
theorem drew (h : Keep S w w1) : Keep S w w1.drew := ⟨h.os, h.tape, h.output, h.size, h.block⟩
theorem drewN (h : Keep S w w1) (n : Nat) : Keep S w (w1.drewN n) := ⟨h.os, h.tape, h.output, h.size, h.block⟩
theorem setCell (h : Keep S w w1) {p : Addr} (hp : p.block < w.heap.size → S p.block) (u : Value) : Keep S w (w1.setCell p u) := by
  refine h.trans (b := w1) (S' := fun k => k = p.block) ⟨rfl, rfl, rfl, ?_, fun k hk hn => Below.heap_setCell w1 p u k hn⟩ (fun x hx e => by subst e; exact hp hx)
  simp
theorem grown (h : Keep S w w1) {row : Option Nat} (hg : w1.grownBy w2 row) (hr : ∀ k, row = some k → k < w.heap.size → S k) : Keep S w w2 :=
  h.trans (S' := fun k => row = some k) ⟨hg.os, hg.tape, hg.output, hg.size, fun k hk hn => hg.block k hk (fun e => hn e.symm)⟩ (fun x hx e => hr x e hx)
theorem cell (h : Keep S w w1) {p : Addr} (hp : p.block < w.heap.size) (hn : ¬ S p.block) : w1.cell? p = w.cell? p := World.cell?_of_block (h.block _ hp hn)
theorem frozen (h : Keep S w w1) {p : Addr} (hp : p.block < w.heap.size) (hn : ¬ S p.block) : w1.frozen? p = w.frozen? p := World.frozen?_of_block (h.block _ hp hn)
end Keep
/-- Blocks that are there and not among those that are written. -/
def Out (w : World) (S : Nat → Prop) (b : Nat) : Prop := b < w.heap.size ∧ ¬ S b
theorem Out.keep {w w1 : World} {S S' : Nat → Prop} {b : Nat} (h : Keep S w w1) (hs : ∀ x, x < w.heap.size → S' x → S x) (hb : Out w S b) : Out w1 S' b :=
  ⟨Nat.lt_of_lt_of_le hb.1 h.size, fun e => hb.2 (hs b hb.1 e)⟩
namespace Kn
variable {α : Type} {d : Kn α} {w w1 : World} {S S' : Nat → Prop}
theorem K_keep {x : α} {cs : List Value} (hk : Keep S w w1) (hs : ∀ x, x < w.heap.size → S' x → S x) (h : d.K w (Out w S) x cs) : d.K w1 (Out w1 S') x cs :=
  d.K_mono (fun b hb => Out.keep hk hs hb) (d.K_move (fun b hb => hk.block b hb.1 hb.2) h)
theorem C_keep {A : Option Addr} {xs : List α} (hk : Keep S w w1) (hs : ∀ x, x < w.heap.size → S' x → S x) (h : d.C w (Out w S) A xs) : d.C w1 (Out w1 S') A xs :=
  C_mono (fun b hb => Out.keep hk hs hb) (C_move (fun b hb => hk.block b hb.1 hb.2) h)
theorem C_out {ok : Nat → Prop} {A : Option Addr} {xs : List α} (hn : ∀ b, ok b → b < w.heap.size → ¬ S b) (h : d.C w ok A xs) : d.C w (Out w S) A xs :=
  C_mono (fun b hb => ⟨hb.2, hn b hb.1 hb.2⟩) (C_bound h)
theorem K_out {ok : Nat → Prop} {x : α} {cs : List Value} (hn : ∀ b, ok b → b < w.heap.size → ¬ S b) (h : d.K w ok x cs) : d.K w (Out w S) x cs :=
  d.K_mono (fun b hb => ⟨hb.2, hn b hb.1 hb.2⟩) (d.K_bound h)
/-- A row of one's own; its elements read through ok blocks. -/
def Rw {α : Type} (d : Kn α) (e : Nat) (w : World) (ok : Nat → Prop) (v : Value) (xs : List α) : Prop :=
  ∃ inner, w.ownsRow 0 e d.sz v xs.length inner ∧ ∀ j x, xs[j]? = some x → d.K w ok x ((inner.drop (j * d.sz)).take d.sz)
variable {e : Nat} {ok ok' : Nat → Prop} {v : Value} {xs : List α}
theorem Rw.nil : d.Rw e w ok (.slice none 0 0) [] := ⟨[], World.ownsRow_nil w 0 e d.sz, by simp⟩
theorem Rw.lt (h : d.Rw e w ok v xs) : ∀ k, v.ownBlock = some k → k < w.heap.size := by
  obtain ⟨inner, ho, _⟩ := h
  exact fun k hk => (ho.lt k hk).2
theorem Rw.mono (hm : ∀ b, ok b → ok' b) (h : d.Rw e w ok v xs) : d.Rw e w ok' v xs := by
  obtain ⟨inner, ho, hi⟩ := h
  exact ⟨inner, ho, fun j x hj => d.K_mono hm (hi j x hj)⟩
theorem Rw.move (hv : ∀ k, v.ownBlock = some k → w1.heap[k]? = w.heap[k]?) (hm : ∀ b, ok b → w1.heap[b]? = w.heap[b]?) (h : d.Rw e w ok v xs) : d.Rw e w1 ok v xs := by
  obtain ⟨inner, ho, hi⟩ := h
  exact ⟨inner, own_move ho hv, fun j x hj => d.K_move hm (hi j x hj)⟩
theorem Rw.form (h : d.Rw e w ok v xs) : ∃ A c, v = .slice A xs.length c ∧ xs.length ≤ c ∧ xs.length ≤ 9223372036854775807 := by
  obtain ⟨inner, ho, _⟩ := h
  rcases ho.2 with ⟨rfl, h0⟩ | ⟨g, cap, cur, rfl, _, hh, hc, hm, _⟩
  · exact ⟨none, 0, by rw [h0], by omega, by omega⟩
  · simp only [maxLen] at hm
    exact ⟨_, cap, rfl, hc, by omega⟩
theorem Rw.C (h : d.Rw e w ok v xs) : ∃ A c, v = .slice A xs.length c ∧ xs.length ≤ c ∧ d.C w (fun b => ok b ∨ v.ownBlock = some b) A xs := by
  obtain ⟨A, c, rfl, hc, hm⟩ := h.form
  obtain ⟨inner, ho, hi⟩ := h
  refine ⟨A, c, rfl, hc, by simpa using hm, fun h0 => ?_⟩
  rcases ho.2 with ⟨he, h1⟩ | ⟨g, cap, cur, he, _, hh, _, _, _⟩
  · omega
  · injection he with he _ _
    subst he
    refine ⟨⟨g, 0, none⟩, rfl, .inr rfl, lt_of_get hh, fun j x hj => ?_⟩
    refine ⟨_, d.K_mono (fun b hb => .inl hb) (hi j x hj), fun i u hu => ?_⟩
    rw [List.getElem?_take] at hu
    split at hu
    · rw [List.getElem?_drop] at hu
      exact ho.cells (g := g) rfl _ u hu
    · cases hu
/-- One element more, behind an append. -/
theorem Rw.snoc {v' : Value} {x : α} {cs : List Value} {inner : List Value} (ho' : w1.ownsRow 0 e d.sz v' (xs.length + 1) (inner ++ cs)) (hl : inner.length = xs.length * d.sz)
    (hi : ∀ j x, xs[j]? = some x → d.K w1 ok x ((inner.drop (j * d.sz)).take d.sz)) (hx : d.K w1 ok x cs) : d.Rw e w1 ok v' (xs ++ [x]) := by
  refine ⟨inner ++ cs, by rw [List.length_append]; exact ho', fun j y hj => ?_⟩
  by_cases hjl : j < xs.length
  · rw [List.getElem?_append_left hjl] at hj
    have hle : j * d.sz + d.sz ≤ xs.length * d.sz := by rw [← Nat.succ_mul]; exact Nat.mul_le_mul_right _ hjl
    rw [List.drop_append_of_le_length (by omega), List.take_append_of_le_length (by rw [List.length_drop]; omega)]
    exact hi j y hj
  · have hjl' := (List.getElem?_eq_some_iff.1 hj).1
    rw [List.length_append, List.length_singleton] at hjl'
    obtain rfl : j = xs.length := by omega
    rw [List.getElem?_append_right (Nat.le_refl _), Nat.sub_self] at hj
    obtain rfl := Option.some.inj hj
    rw [← hl, List.drop_left, List.take_of_length_le (by rw [d.K_len hx]; exact Nat.le_refl _)]
    exact hx
end Kn
end Go.Proofs.Ytginpmhjpjcahaa.L
