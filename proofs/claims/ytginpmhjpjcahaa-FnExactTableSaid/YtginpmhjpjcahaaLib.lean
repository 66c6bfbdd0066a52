/- Values in memory: what it means that cells read as a Lean value through some blocks (K), or are the value and own their blocks, each once (O). Lemmas alone; no program is named. -/
import Derived.WalkKit
import Derived.Below
import Derived.Lib.Hide
import Derived.Deep.Draws
import Derived.Deep.QuietTactic
import Derived.Deep.RegionHeld3
import Derived.Deep.LoopGhost
import Derived.Deep.DeepCutAuto
import Derived.BigQuiet
import Derived.KernelRfl
import Derived.RowKit
import Derived.OwnWalk
import Derived.Maps.AppendAt
import Derived.Laws.OwnMore
import Derived.Laws.MakeOwn
import Derived.Laws.Rows
import Derived.Deep.MidRow
namespace Go.Proofs.Ytginpmhjpjcahaa.L
open Go.RowKit
set_option linter.unusedVariables false

theorem lt_of_get {w : World} {b : Nat} {o : Obj} (h : w.heap[b]? = some o) : b < w.heap.size := (Array.getElem?_eq_some_iff.1 h).1
theorem lt_of_same {w w1 : World} {b : Nat} (h : w1.heap[b]? = w.heap[b]?) (hb : b < w.heap.size) : b < w1.heap.size := by
  rw [Array.getElem?_eq_getElem hb] at h
  exact lt_of_get h
theorem cell_same {w w1 : World} {a : Addr} (h : w1.heap[a.block]? = w.heap[a.block]?) {v : Value} (hc : w.cell? a = some v) : w1.cell? a = some v := (World.cell?_of_block h).trans hc
theorem cell_below {w w1 : World} (h : Below w.heap.size w w1) {a : Addr} {v : Value} (hc : w.cell? a = some v) : w1.cell? a = some v := (h.cell (World.block_lt_of_cell? w a hc)).trans hc
theorem bcell {W w1 : World} (hb : Below W.heap.size W w1) : (∀ b o, b < W.heap.size → w1.cell? ⟨b, o, none⟩ = W.cell? ⟨b, o, none⟩) ∧ (∀ b o, b < W.heap.size → w1.frozen? ⟨b, o, none⟩ = W.frozen? ⟨b, o, none⟩) :=
  ⟨fun b o h => hb.cell (p := ⟨b, o, none⟩) h, fun b o h => hb.frozen (p := ⟨b, o, none⟩) h⟩
theorem below_alloc (w : World) (o : Obj) : Below w.heap.size w (w.alloc o) := (Below.refl _ _).alloc (Nat.le_refl _) _
theorem below_drewN {B : Nat} {w W : World} (h : Below B w W) (n : Nat) : Below B w (W.drewN n) := ⟨h.os, h.tape, h.output, h.size, h.block⟩
theorem add_block (a : Addr) (n : Nat) : (a.add n).block = a.block := by unfold Addr.add; split <;> rfl
theorem add_zero (g j : Nat) : (⟨g, 0, none⟩ : Addr).add j = ⟨g, j, none⟩ := by unfold Addr.add; split <;> simp_all
theorem add_field (ad : Addr) (m j : Nat) (hj : 0 < j) : ad.add (m + j) = ⟨(ad.add m).block, (ad.add m).off + j, none⟩ := by
  unfold Addr.add
  by_cases hm : m = 0
  · subst hm
    simp [Nat.ne_of_gt hj]
  · simp [hm, Nat.add_assoc]

/-- Cells that read as a value, through blocks that are ok (K); cells that are a value whose blocks are F, each once, each a row of its own (O). -/
structure Kn (α : Type) where
  sz : Nat
  K : World → (Nat → Prop) → α → List Value → Prop
  O : World → α → List Value → List Nat → Prop
  K_len : ∀ {w ok x cs}, K w ok x cs → cs.length = sz
  K_one : ∀ {w ok x cs}, K w ok x cs → ∀ u ∈ cs, u.oneCell' = true
  K_mono : ∀ {w ok ok' x cs}, (∀ b, ok b → ok' b) → K w ok x cs → K w ok' x cs
  K_bound : ∀ {w : World} {ok x cs}, K w ok x cs → K w (fun b => ok b ∧ b < w.heap.size) x cs
  K_move : ∀ {w w1 : World} {ok x cs}, (∀ b, ok b → w1.heap[b]? = w.heap[b]?) → K w ok x cs → K w1 ok x cs
  K_of : ∀ {w x cs F}, O w x cs F → K w (fun b => b ∈ F) x cs
  O_move : ∀ {w w1 : World} {x cs F}, (∀ b, b ∈ F → w1.heap[b]? = w.heap[b]?) → O w x cs F → O w1 x cs F
  O_lt : ∀ {w : World} {x cs F}, O w x cs F → ∀ b, b ∈ F → b < w.heap.size
  O_nodup : ∀ {w x cs F}, O w x cs F → F.Nodup

namespace Kn
/-- The elements from an address on. -/
def C {α : Type} (d : Kn α) (w : World) (ok : Nat → Prop) (A : Option Addr) (xs : List α) : Prop :=
  xs.length ≤ 9223372036854775807 ∧ (0 < xs.length → ∃ ad, A = some ad ∧ ok ad.block ∧ ad.block < w.heap.size ∧ ∀ j x, xs[j]? = some x → ∃ c, d.K w ok x c ∧ ∀ i u, c[i]? = some u → w.cell? (ad.add (j * d.sz + i)) = some u)
/-- The elements' own blocks. -/
def Items {α : Type} (d : Kn α) (w : World) (ps : List (α × List Nat)) (inner : List Value) : Prop :=
  ∀ j p, ps[j]? = some p → d.O w p.1 ((inner.drop (j * d.sz)).take d.sz) p.2
def foot {α : Type} (v : Value) (ps : List (α × List Nat)) : List Nat := v.ownBlock.toList ++ (ps.map Prod.snd).flatten
/-- A row of one's own. -/
def R {α : Type} (d : Kn α) (e : Nat) (w : World) (v : Value) (ps : List (α × List Nat)) : Prop :=
  ∃ inner, w.ownsRow 0 e d.sz v ps.length inner ∧ Items d w ps inner ∧ (foot v ps).Nodup

section
variable {α : Type} {d : Kn α} {w w1 : World} {ok ok' : Nat → Prop} {A : Option Addr} {xs : List α}
theorem C_mono (h : ∀ b, ok b → ok' b) (hc : d.C w ok A xs) : d.C w ok' A xs :=
  ⟨hc.1, fun h0 => by
    obtain ⟨ad, e, ho, hl, hx⟩ := hc.2 h0
    refine ⟨ad, e, h _ ho, hl, fun j x hj => ?_⟩
    obtain ⟨c, hk, hcell⟩ := hx j x hj
    exact ⟨c, d.K_mono h hk, hcell⟩⟩
theorem C_bound (hc : d.C w ok A xs) : d.C w (fun b => ok b ∧ b < w.heap.size) A xs :=
  ⟨hc.1, fun h0 => by
    obtain ⟨ad, e, ho, hl, hx⟩ := hc.2 h0
    refine ⟨ad, e, ⟨ho, hl⟩, hl, fun j x hj => ?_⟩
    obtain ⟨c, hk, hcell⟩ := hx j x hj
    exact ⟨c, d.K_bound hk, hcell⟩⟩
theorem C_move (h : ∀ b, ok b → w1.heap[b]? = w.heap[b]?) (hc : d.C w ok A xs) : d.C w1 ok A xs :=
  ⟨hc.1, fun h0 => by
    obtain ⟨ad, e, ho, hl, hx⟩ := hc.2 h0
    refine ⟨ad, e, ho, lt_of_same (h _ ho) hl, fun j x hj => ?_⟩
    obtain ⟨c, hk, hcell⟩ := hx j x hj
    exact ⟨c, d.K_move h hk, fun i u hu => cell_same (by rw [add_block]; exact h _ ho) (hcell i u hu)⟩⟩
theorem C_below (hb : Below w.heap.size w w1) (hc : d.C w ok A xs) : d.C w1 ok A xs :=
  C_mono (fun _ h => h.1) (C_move (fun b h => hb.block b h.2) (C_bound hc))
theorem K_below {x : α} {cs : List Value} (hb : Below w.heap.size w w1) (hc : d.K w ok x cs) : d.K w1 ok x cs :=
  d.K_mono (fun _ h => h.1) (d.K_move (fun b h => hb.block b h.2) (d.K_bound hc))
theorem C_at (hc : d.C w ok A xs) (k : Nat) (hk : k < xs.length) : ∃ ad x c, A = some ad ∧ ok ad.block ∧ xs[k]? = some x ∧ d.K w ok x c ∧ ∀ i u, c[i]? = some u → w.cell? (ad.add (k * d.sz + i)) = some u := by
  obtain ⟨ad, e, ho, hl, hx⟩ := hc.2 (by omega)
  obtain ⟨c, hkk, hcell⟩ := hx k _ (List.getElem?_eq_getElem hk)
  exact ⟨ad, _, c, e, ho, List.getElem?_eq_getElem hk, hkk, hcell⟩
theorem C_nil : d.C w ok A [] := ⟨by simp, fun h => absurd h (by simp)⟩
end

theorem drop_take_len {inner : List Value} {n sz j : Nat} (h : inner.length = n * sz) (hj : j < n) : ((inner.drop (j * sz)).take sz).length = sz := by
  have : j * sz + sz ≤ n * sz := by rw [← Nat.succ_mul]; exact Nat.mul_le_mul_right _ hj
  rw [List.length_take, List.length_drop]
  omega
theorem mem_foot_item {α : Type} {v : Value} {ps : List (α × List Nat)} {j : Nat} {p : α × List Nat} (h : ps[j]? = some p) {b : Nat} (hb : b ∈ p.2) : b ∈ foot v ps := by
  refine List.mem_append_right _ (List.mem_flatten.2 ⟨p.2, ?_, hb⟩)
  exact List.mem_map.2 ⟨p, List.mem_of_getElem? h, rfl⟩
theorem mem_foot_own {α : Type} {v : Value} {ps : List (α × List Nat)} {b : Nat} (h : v.ownBlock = some b) : b ∈ foot v ps := by
  refine List.mem_append_left _ ?_
  rw [h]
  exact List.mem_singleton.2 rfl

section
variable {α : Type} {d : Kn α} {e : Nat} {w w1 : World} {v : Value} {ps : List (α × List Nat)}
theorem own_move {base size n : Nat} {xs : List Value} (h : w.ownsRow base e size v n xs) (hm : ∀ k, v.ownBlock = some k → w1.heap[k]? = w.heap[k]?) : w1.ownsRow base e size v n xs := by
  obtain ⟨h1, h2⟩ := h
  refine ⟨h1, ?_⟩
  rcases h2 with h2 | ⟨g, cap, cur, rfl, hg, hh, r⟩
  · exact .inl h2
  · exact .inr ⟨g, cap, cur, rfl, hg, (hm g (by simp [Value.ownBlock])).trans hh, r⟩
theorem R_move (hm : ∀ b, b ∈ foot v ps → w1.heap[b]? = w.heap[b]?) (h : d.R e w v ps) : d.R e w1 v ps := by
  obtain ⟨inner, ho, hi, hn⟩ := h
  exact ⟨inner, own_move ho (fun k hk => hm k (mem_foot_own hk)), fun j p hj => d.O_move (fun b hb => hm b (mem_foot_item hj hb)) (hi j p hj), hn⟩
theorem R_lt (h : d.R e w v ps) : ∀ b, b ∈ foot v ps → b < w.heap.size := by
  obtain ⟨inner, ho, hi, hn⟩ := h
  intro b hb
  rcases List.mem_append.1 hb with hb | hb
  · rw [Option.mem_toList] at hb
    exact (ho.lt b hb).2
  · obtain ⟨l, hl, hb⟩ := List.mem_flatten.1 hb
    obtain ⟨p, hp, rfl⟩ := List.mem_map.1 hl
    obtain ⟨j, hj⟩ := List.mem_iff_getElem?.1 hp
    exact d.O_lt (hi j p hj) b hb
theorem R_len (h : d.R e w v ps) : ∃ A c, v = .slice A ps.length c ∧ ps.length ≤ c ∧ ps.length ≤ 9223372036854775807 := by
  obtain ⟨inner, ho, hi, hn⟩ := h
  rcases ho.2 with ⟨rfl, h0⟩ | ⟨g, cap, cur, rfl, _, hh, hc, hm, _⟩
  · exact ⟨none, 0, by rw [h0], by omega, by omega⟩
  · simp only [maxLen] at hm
    exact ⟨_, cap, rfl, hc, by omega⟩
theorem R_C (h : d.R e w v ps) : ∃ A c, v = .slice A ps.length c ∧ ps.length ≤ c ∧ d.C w (fun b => b ∈ foot v ps) A (ps.map Prod.fst) := by
  obtain ⟨A, c, rfl, hc, hm⟩ := R_len h
  obtain ⟨inner, ho, hi, hn⟩ := h
  refine ⟨A, c, rfl, hc, by simpa using hm, fun h0 => ?_⟩
  rcases ho.2 with ⟨he, h1⟩ | ⟨g, cap, cur, he, _, hh, _, _, _⟩
  · simp at h0
    omega
  · injection he with he _ _
    subst he
    refine ⟨⟨g, 0, none⟩, rfl, mem_foot_own rfl, lt_of_get hh, fun j x hj => ?_⟩
    rw [List.getElem?_map, Option.map_eq_some_iff] at hj
    obtain ⟨p, hp, rfl⟩ := hj
    refine ⟨_, d.K_mono (fun b hb => mem_foot_item hp hb) (d.K_of (hi j p hp)), fun i u hu => ?_⟩
    rw [List.getElem?_take] at hu
    split at hu
    · rw [List.getElem?_drop] at hu
      exact ho.cells (g := g) rfl _ u hu
    · cases hu
end

/-! ### the kinds -/
def scalar {α : Type} (enc : α → Value) (h1 : ∀ x, (enc x).oneCell' = true) : Kn α where
  sz := 1
  K := fun _ _ x cs => cs = [enc x]
  O := fun _ x cs F => cs = [enc x] ∧ F = []
  K_len := fun h => by rw [h]; rfl
  K_one := fun h u hu => by
    rw [h] at hu
    rw [List.mem_singleton.1 hu]
    exact h1 _
  K_mono := fun _ h => h
  K_bound := fun h => h
  K_move := fun _ h => h
  K_of := fun h => h.1
  O_move := fun _ h => h
  O_lt := fun h b hb => by rw [h.2] at hb; cases hb
  O_nodup := fun h => by rw [h.2]; exact List.nodup_nil
def int : Kn Int := scalar (Value.int .i64) (fun _ => rfl)
def str : Kn ByteArray := scalar Value.string (fun _ => rfl)
def pair {α β : Type} (a : Kn α) (b : Kn β) : Kn (α × β) where
  sz := a.sz + b.sz
  K := fun w ok x cs => ∃ c0 c1, cs = c0 ++ c1 ∧ a.K w ok x.1 c0 ∧ b.K w ok x.2 c1
  O := fun w x cs F => ∃ c0 c1 F0 F1, cs = c0 ++ c1 ∧ F = F0 ++ F1 ∧ a.O w x.1 c0 F0 ∧ b.O w x.2 c1 F1 ∧ F.Nodup
  K_len := by
    rintro w ok x cs ⟨c0, c1, rfl, h0, h1⟩
    rw [List.length_append, a.K_len h0, b.K_len h1]
  K_one := by
    rintro w ok x cs ⟨c0, c1, rfl, h0, h1⟩ u hu
    rcases List.mem_append.1 hu with hu | hu
    · exact a.K_one h0 u hu
    · exact b.K_one h1 u hu
  K_mono := by
    rintro w ok ok' x cs hm ⟨c0, c1, rfl, h0, h1⟩
    exact ⟨c0, c1, rfl, a.K_mono hm h0, b.K_mono hm h1⟩
  K_bound := by
    rintro w ok x cs ⟨c0, c1, rfl, h0, h1⟩
    exact ⟨c0, c1, rfl, a.K_bound h0, b.K_bound h1⟩
  K_move := by
    rintro w w1 ok x cs hm ⟨c0, c1, rfl, h0, h1⟩
    exact ⟨c0, c1, rfl, a.K_move hm h0, b.K_move hm h1⟩
  K_of := by
    rintro w x cs F ⟨c0, c1, F0, F1, rfl, rfl, h0, h1, _⟩
    exact ⟨c0, c1, rfl, a.K_mono (fun _ h => List.mem_append_left _ h) (a.K_of h0), b.K_mono (fun _ h => List.mem_append_right _ h) (b.K_of h1)⟩
  O_move := by
    rintro w w1 x cs F hm ⟨c0, c1, F0, F1, rfl, rfl, h0, h1, hn⟩
    exact ⟨c0, c1, F0, F1, rfl, rfl, a.O_move (fun k hk => hm k (List.mem_append_left _ hk)) h0, b.O_move (fun k hk => hm k (List.mem_append_right _ hk)) h1, hn⟩
  O_lt := by
    rintro w x cs F ⟨c0, c1, F0, F1, rfl, rfl, h0, h1, hn⟩ k hk
    rcases List.mem_append.1 hk with hk | hk
    · exact a.O_lt h0 k hk
    · exact b.O_lt h1 k hk
  O_nodup := by
    rintro w x cs F ⟨c0, c1, F0, F1, rfl, rfl, h0, h1, hn⟩
    exact hn
def iso {α β : Type} (d : Kn α) (f : β → α) : Kn β where
  sz := d.sz
  K := fun w ok x cs => d.K w ok (f x) cs
  O := fun w x cs F => d.O w (f x) cs F
  K_len := d.K_len
  K_one := d.K_one
  K_mono := d.K_mono
  K_bound := d.K_bound
  K_move := d.K_move
  K_of := d.K_of
  O_move := d.O_move
  O_lt := d.O_lt
  O_nodup := d.O_nodup
def slice {α : Type} (e : Nat) (d : Kn α) : Kn (List α) where
  sz := 1
  K := fun w ok xs cs => ∃ A c, cs = [.slice A xs.length c] ∧ xs.length ≤ c ∧ d.C w ok A xs
  O := fun w xs cs F => ∃ v ps, cs = [v] ∧ xs = ps.map Prod.fst ∧ d.R e w v ps ∧ F = foot v ps
  K_len := by
    rintro w ok x cs ⟨A, c, rfl, _⟩
    rfl
  K_one := by
    rintro w ok x cs ⟨A, c, rfl, _⟩ u hu
    rw [List.mem_singleton.1 hu]
    rfl
  K_mono := by
    rintro w ok ok' x cs hm ⟨A, c, rfl, hl, hc⟩
    exact ⟨A, c, rfl, hl, C_mono hm hc⟩
  K_bound := by
    rintro w ok x cs ⟨A, c, rfl, hl, hc⟩
    exact ⟨A, c, rfl, hl, C_bound hc⟩
  K_move := by
    rintro w w1 ok x cs hm ⟨A, c, rfl, hl, hc⟩
    exact ⟨A, c, rfl, hl, C_move hm hc⟩
  K_of := by
    rintro w x cs F ⟨v, ps, rfl, rfl, h, rfl⟩
    obtain ⟨A, c, he, hl, hc⟩ := R_C h
    refine ⟨A, c, ?_, ?_, hc⟩
    · rw [he, List.length_map]
    · rw [List.length_map]
      exact hl
  O_move := by
    rintro w w1 x cs F hm ⟨v, ps, rfl, rfl, h, rfl⟩
    exact ⟨v, ps, rfl, rfl, R_move hm h, rfl⟩
  O_lt := by
    rintro w x cs F ⟨v, ps, rfl, rfl, h, rfl⟩
    exact R_lt h
  O_nodup := by
    rintro w x cs F ⟨v, ps, rfl, rfl, ⟨_, _, _, hn⟩, rfl⟩
    exact hn
end Kn
/-! ### a row of one's own that is written -/
def setAll (xs : List Value) : Nat → List Value → List Value
  | _, [] => xs
  | o, c :: cs => setAll (xs.set o c) (o + 1) cs
theorem setAll_length : ∀ (cs xs : List Value) (o : Nat), (setAll xs o cs).length = xs.length
  | [], _, _ => rfl
  | c :: cs, xs, o => by rw [setAll, setAll_length cs, List.length_set]
theorem setAll_out : ∀ (cs xs : List Value) (o i : Nat), i < o ∨ o + cs.length ≤ i → (setAll xs o cs)[i]? = xs[i]?
  | [], _, _, _, _ => rfl
  | c :: cs, xs, o, i, h => by
    rw [List.length_cons] at h
    rw [setAll, setAll_out cs _ _ _ (by omega), List.getElem?_set_ne (by omega)]
theorem setAll_in : ∀ (cs xs : List Value) (o i : Nat), i < cs.length → o + cs.length ≤ xs.length → (setAll xs o cs)[o + i]? = cs[i]?
  | [], _, _, _, h, _ => absurd h (by simp)
  | c :: cs, xs, o, i, h, hl => by
    rw [List.length_cons] at h hl
    rw [setAll]
    cases i with
    | zero =>
      rw [setAll_out cs _ _ _ (by omega), Nat.add_zero, List.getElem?_set_self (by omega)]
      rfl
    | succ i =>
      have := setAll_in cs (xs.set o c) (o + 1) i (by omega) (by rw [List.length_set]; omega)
      rw [show o + (i + 1) = o + 1 + i by omega, this]
      rfl
theorem setAll_chunk {cs xs : List Value} {sz k : Nat} (hc : cs.length = sz) (hk : k * sz + sz ≤ xs.length) : ((setAll xs (k * sz) cs).drop (k * sz)).take sz = cs := by
  apply List.ext_getElem?
  intro i
  rw [List.getElem?_take]
  split
  · rw [List.getElem?_drop, setAll_in cs xs (k * sz) i (by omega) (by omega)]
  · rw [List.getElem?_eq_none (by omega)]
theorem setAll_other {cs xs : List Value} {sz k j : Nat} (hc : cs.length = sz) (hj : j ≠ k) : ((setAll xs (k * sz) cs).drop (j * sz)).take sz = (xs.drop (j * sz)).take sz := by
  apply List.ext_getElem?
  intro i
  rw [List.getElem?_take, List.getElem?_take]
  split
  · rw [List.getElem?_drop, List.getElem?_drop, setAll_out]
    rcases Nat.lt_or_gt_of_ne hj with h | h
    · have : j * sz + sz ≤ k * sz := by rw [← Nat.succ_mul]; exact Nat.mul_le_mul_right _ h
      omega
    · have : k * sz + sz ≤ j * sz := by rw [← Nat.succ_mul]; exact Nat.mul_le_mul_right _ h
      omega
  · rfl
theorem own_setCells {e sz n cap g : Nat} : ∀ (cs inner : List Value) (o : Nat) (w : World), w.ownsRow 0 e sz (.slice (some ⟨g, 0, none⟩) n cap) n inner →
    (w.setCells g o cs).ownsRow 0 e sz (.slice (some ⟨g, 0, none⟩) n cap) n (setAll inner o cs) ∧ w.grownBy (w.setCells g o cs) (some g)
  | [], _, _, w, h => ⟨h, World.grownBy.refl _ _⟩
  | c :: cs, inner, o, w, h => by
    obtain ⟨h1, g1⟩ := h.stored o c
    obtain ⟨h2, g2⟩ := own_setCells cs (inner.set o c) (o + 1) _ h1
    exact ⟨h2, World.grownBy.trans g1 g2⟩
theorem size_of_info {P : Program} {e : TypeId} {z : Option Value} {s b : Nat} (h : (P.info? e).map (fun i => (i.zero, i.size, i.bytes)) = some (z, s, b)) : (P.info? e).map (·.size) = some s := by
  cases hq : P.info? e with
  | none => simp [hq] at h
  | some i => simp [hq] at h ⊢; exact h.2.1
section
variable {P : Program} {ops : Array Oper} {rest : List Oper} {o : Oper} {a : Act} {Q : Exit → Act → World → Prop}
/-- out[k] = T{..}: cells of a row of one's own are written. -/
theorem wpList_store_own {w : World} (hgd : o.guard = none) (ty : TypeId) (x y : Operand) (ho : o.op = .store ty x y) {e sz n cap g off : Nat} {inner : List Value} (cs : List Value)
    (hown : w.ownsRow 0 e sz (.slice (some ⟨g, 0, none⟩) n cap) n inner) (hx : a.eval x = .pointer (some ⟨g, off, none⟩)) (hy : a.eval y = .agg cs.toArray)
    (hoff : off + cs.length ≤ n * sz) (hi : (P.info? ty).map (·.size) = some cs.length) (h1 : cs.all (·.oneCell') = true)
    (h : ∀ w1, w1.ownsRow 0 e sz (.slice (some ⟨g, 0, none⟩) n cap) n (setAll inner off cs) → w.grownBy w1 (some g) → wpList P ops Q rest (a.put o.dst undef) w1) :
    wpList P ops Q (o :: rest) a w := by
  refine wpList_store_mid hgd ty x y ho g off cs.toArray hx hy (fun j hj => ⟨?_, hown.frozenAt _⟩) (by simpa using hi) (all_oneCell_toArray (List.all_eq_true.1 h1)) ?_
  · have hj' : j < cs.length := by simpa using hj
    rw [hown.cellAt _ (by omega), List.getElem?_eq_getElem (by rw [hown.1]; omega)]
    rfl
  · obtain ⟨h2, g2⟩ := own_setCells cs inner off w hown
    exact h _ h2 g2
end
theorem O_set {α : Type} {d : Kn α} {w : World} {x : α} {cs : List Value} {F : List Nat} (h : d.O w x cs F) {p : Addr} (hp : ∀ b, b ∈ F → b ≠ p.block) (u : Value) : d.O (w.setCell p u) x cs F :=
  d.O_move (fun b hb => Below.heap_setCell w p u b (hp b hb)) h
theorem below_grown {B : Nat} {w w1 w2 : World} (hb : Below B w w1) {g : Nat} (hg : w1.grownBy w2 (some g)) (hB : B ≤ g) (hs : B ≤ w1.heap.size) : Below B w w2 :=
  hb.grown hg hs (fun k hk => by injection hk with hk; omega)
end Go.Proofs.Ytginpmhjpjcahaa.L
