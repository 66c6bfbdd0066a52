/- What SignalsOk says; the reference's SignalsOk answers so. -/
import Derived.WalkKit
import Derived.Below
import Derived.Lib.Hide
import Derived.Deep.Draws
import Derived.Deep.QuietTactic
import Derived.Deep.RegionHeld3
import Derived.Deep.LoopGhost
import Derived.Deep.DeepCutAuto
import Derived.BigQuiet
import Derived.KernelRfl
import Derived.RowKit
import Derived.OwnWalk
import Derived.Maps.AppendAt
import Derived.Laws.OwnMore
import Derived.Laws.MakeOwn
import Derived.Laws.Rows
import Derived.Deep.MidRow
import Derived.ProofKit
import Derived.OpenShut
import Derived.ChangeOld
import Derived.SizedLaws
import Derived.Carry
import Derived.Test.YtpggopdojhodaaaGreatDoorProg
import Derived.Test.YtpggopdojhodaaaGreatDoorRows
namespace Go.Proofs.YtpggopdojhodaaaGreatDoor.L
open Go.RowKit
set_option linter.unusedVariables false
theorem lt_of_get {w : World} {b : Nat} {o : Obj} (h : w.heap[b]? = some o) : b < w.heap.size := (Array.getElem?_eq_some_iff.1 h).1
theorem lt_of_same {w w1 : World} {b : Nat} (h : w1.heap[b]? = w.heap[b]?) (hb : b < w.heap.size) : b < w1.heap.size := by
  rw [Array.getElem?_eq_getElem hb] at h
  exact lt_of_get h
theorem cell_same {w w1 : World} {a : Addr} (h : w1.heap[a.block]? = w.heap[a.block]?) {v : Value} (hc : w.cell? a = some v) : w1.cell? a = some v := (World.cell?_of_block h).trans hc
theorem cell_below {w w1 : World} (h : Below w.heap.size w w1) {a : Addr} {v : Value} (hc : w.cell? a = some v) : w1.cell? a = some v := (h.cell (World.block_lt_of_cell? w a hc)).trans hc
theorem bcell {W w1 : World} (hb : Below W.heap.size W w1) : (∀ b o, b < W.heap.size → w1.cell? ⟨b, o, none⟩ = W.cell? ⟨b, o, none⟩) ∧ (∀ b o, b < W.heap.size → w1.frozen? ⟨b, o, none⟩ = W.frozen? ⟨b, o, none⟩) :=
  ⟨fun b o h => hb.cell (p := ⟨b, o, none⟩) h, fun b o h => hb.frozen (p := ⟨b, o, none⟩) h⟩
theorem below_alloc (w : World) (o : Obj) : Below w.heap.size w (w.alloc o) := (Below.refl _ _).alloc (Nat.le_refl _) _
theorem below_drewN {B : Nat} {w W : World} (h : Below B w W) (n : Nat) : Below B w (W.drewN n) := ⟨h.os, h.tape, h.output, h.size, h.block⟩
theorem add_block (a : Addr) (n : Nat) : (a.add n).block = a.block := by unfold Addr.add; split <;> rfl
theorem add_zero (g j : Nat) : (⟨g, 0, none⟩ : Addr).add j = ⟨g, j, none⟩ := by unfold Addr.add; split <;> simp_all
theorem add_field (ad : Addr) (m j : Nat) (hj : 0 < j) : ad.add (m + j) = ⟨(ad.add m).block, (ad.add m).off + j, none⟩ := by
  unfold Addr.add
  by_cases hm : m = 0
  · subst hm
    simp [Nat.ne_of_gt hj]
  · simp [hm, Nat.add_assoc]
structure Kn (α : Type) where
  sz : Nat
  K : World → (Nat → Prop) → α → List Value → Prop
  O : World → α → List Value → List Nat → Prop
  K_len : ∀ {w ok x cs}, K w ok x cs → cs.length = sz
  K_one : ∀ {w ok x cs}, K w ok x cs → ∀ u ∈ cs, u.oneCell' = true
  K_mono : ∀ {w ok ok' x cs}, (∀ b, ok b → ok' b) → K w ok x cs → K w ok' x cs
  K_bound : ∀ {w : World} {ok x cs}, K w ok x cs → K w (fun b => ok b ∧ b < w.heap.size) x cs
  K_move : ∀ {w w1 : World} {ok x cs}, (∀ b, ok b → w1.heap[b]? = w.heap[b]?) → K w ok x cs → K w1 ok x cs
  K_of : ∀ {w x cs F}, O w x cs F → K w (fun b => b ∈ F) x cs
  O_move : ∀ {w w1 : World} {x cs F}, (∀ b, b ∈ F → w1.heap[b]? = w.heap[b]?) → O w x cs F → O w1 x cs F
  O_lt : ∀ {w : World} {x cs F}, O w x cs F → ∀ b, b ∈ F → b < w.heap.size
  O_nodup : ∀ {w x cs F}, O w x cs F → F.Nodup
namespace Kn
def C {α : Type} (d : Kn α) (w : World) (ok : Nat → Prop) (A : Option Addr) (xs : List α) : Prop :=
  xs.length ≤ 9223372036854775807 ∧ (0 < xs.length → ∃ ad, A = some ad ∧ ok ad.block ∧ ad.block < w.heap.size ∧ ∀ j x, xs[j]? = some x → ∃ c, d.K w ok x c ∧ ∀ i u, c[i]? = some u → w.cell? (ad.add (j * d.sz + i)) = some u)
def Items {α : Type} (d : Kn α) (w : World) (ps : List (α × List Nat)) (inner : List Value) : Prop :=
  ∀ j p, ps[j]? = some p → d.O w p.1 ((inner.drop (j * d.sz)).take d.sz) p.2
def foot {α : Type} (v : Value) (ps : List (α × List Nat)) : List Nat := v.ownBlock.toList ++ (ps.map Prod.snd).flatten
def R {α : Type} (d : Kn α) (e : Nat) (w : World) (v : Value) (ps : List (α × List Nat)) : Prop :=
  ∃ inner, w.ownsRow 0 e d.sz v ps.length inner ∧ Items d w ps inner ∧ (foot v ps).Nodup
section
variable {α : Type} {d : Kn α} {w w1 : World} {ok ok' : Nat → Prop} {A : Option Addr} {xs : List α}
theorem C_mono (h : ∀ b, ok b → ok' b) (hc : d.C w ok A xs) : d.C w ok' A xs :=
  ⟨hc.1, fun h0 => by
    obtain ⟨ad, e, ho, hl, hx⟩ := hc.2 h0
    refine ⟨ad, e, h _ ho, hl, fun j x hj => ?_⟩
    obtain ⟨c, hk, hcell⟩ := hx j x hj
    exact ⟨c, d.K_mono h hk, hcell⟩⟩
theorem C_bound (hc : d.C w ok A xs) : d.C w (fun b => ok b ∧ b < w.heap.size) A xs :=
  ⟨hc.1, fun h0 => by
    obtain ⟨ad, e, ho, hl, hx⟩ := hc.2 h0
    refine ⟨ad, e, ⟨ho, hl⟩, hl, fun j x hj => ?_⟩
    obtain ⟨c, hk, hcell⟩ := hx j x hj
    exact ⟨c, d.K_bound hk, hcell⟩⟩
theorem C_move (h : ∀ b, ok b → w1.heap[b]? = w.heap[b]?) (hc : d.C w ok A xs) : d.C w1 ok A xs :=
  ⟨hc.1, fun h0 => by
    obtain ⟨ad, e, ho, hl, hx⟩ := hc.2 h0
    refine ⟨ad, e, ho, lt_of_same (h _ ho) hl, fun j x hj => ?_⟩
    obtain ⟨c, hk, hcell⟩ := hx j x hj
    exact ⟨c, d.K_move h hk, fun i u hu => cell_same (by rw [add_block]; exact h _ ho) (hcell i u hu)⟩⟩
theorem C_below (hb : Below w.heap.size w w1) (hc : d.C w ok A xs) : d.C w1 ok A xs :=
  C_mono (fun _ h => h.1) (C_move (fun b h => hb.block b h.2) (C_bound hc))
theorem K_below {x : α} {cs : List Value} (hb : Below w.heap.size w w1) (hc : d.K w ok x cs) : d.K w1 ok x cs :=
  d.K_mono (fun _ h => h.1) (d.K_move (fun b h => hb.block b h.2) (d.K_bound hc))
theorem C_at (hc : d.C w ok A xs) (k : Nat) (hk : k < xs.length) : ∃ ad x c, A = some ad ∧ ok ad.block ∧ xs[k]? = some x ∧ d.K w ok x c ∧ ∀ i u, c[i]? = some u → w.cell? (ad.add (k * d.sz + i)) = some u := by
  obtain ⟨ad, e, ho, hl, hx⟩ := hc.2 (by omega)
  obtain ⟨c, hkk, hcell⟩ := hx k _ (List.getElem?_eq_getElem hk)
  exact ⟨ad, _, c, e, ho, List.getElem?_eq_getElem hk, hkk, hcell⟩
theorem C_nil : d.C w ok A [] := ⟨by simp, fun h => absurd h (by simp)⟩
end
theorem mem_foot_item {α : Type} {v : Value} {ps : List (α × List Nat)} {j : Nat} {p : α × List Nat} (h : ps[j]? = some p) {b : Nat} (hb : b ∈ p.2) : b ∈ foot v ps := by
  refine List.mem_append_right _ (List.mem_flatten.2 ⟨p.2, ?_, hb⟩)
  exact List.mem_map.2 ⟨p, List.mem_of_getElem? h, rfl⟩
theorem mem_foot_own {α : Type} {v : Value} {ps : List (α × List Nat)} {b : Nat} (h : v.ownBlock = some b) : b ∈ foot v ps := by
  refine List.mem_append_left _ ?_
  rw [h]
  exact List.mem_singleton.2 rfl
section
variable {α : Type} {d : Kn α} {e : Nat} {w w1 : World} {v : Value} {ps : List (α × List Nat)}
theorem own_move {base size n : Nat} {xs : List Value} (h : w.ownsRow base e size v n xs) (hm : ∀ k, v.ownBlock = some k → w1.heap[k]? = w.heap[k]?) : w1.ownsRow base e size v n xs := by
  obtain ⟨h1, h2⟩ := h
  refine ⟨h1, ?_⟩
  rcases h2 with h2 | ⟨g, cap, cur, rfl, hg, hh, r⟩
  · exact .inl h2
  · exact .inr ⟨g, cap, cur, rfl, hg, (hm g (by simp [Value.ownBlock])).trans hh, r⟩
theorem R_move (hm : ∀ b, b ∈ foot v ps → w1.heap[b]? = w.heap[b]?) (h : d.R e w v ps) : d.R e w1 v ps := by
  obtain ⟨inner, ho, hi, hn⟩ := h
  exact ⟨inner, own_move ho (fun k hk => hm k (mem_foot_own hk)), fun j p hj => d.O_move (fun b hb => hm b (mem_foot_item hj hb)) (hi j p hj), hn⟩
theorem R_lt (h : d.R e w v ps) : ∀ b, b ∈ foot v ps → b < w.heap.size := by
  obtain ⟨inner, ho, hi, hn⟩ := h
  intro b hb
  rcases List.mem_append.1 hb with hb | hb
  · rw [Option.mem_toList] at hb
    exact (ho.lt b hb).2
  · obtain ⟨l, hl, hb⟩ := List.mem_flatten.1 hb
    obtain ⟨p, hp, rfl⟩ := List.mem_map.1 hl
    obtain ⟨j, hj⟩ := List.mem_iff_getElem?.1 hp
    exact d.O_lt (hi j p hj) b hb
theorem R_len (h : d.R e w v ps) : ∃ A c, v = .slice A ps.length c ∧ ps.length ≤ c ∧ ps.length ≤ 9223372036854775807 := by
  obtain ⟨inner, ho, hi, hn⟩ := h
  rcases ho.2 with ⟨rfl, h0⟩ | ⟨g, cap, cur, rfl, _, hh, hc, hm, _⟩
  · exact ⟨none, 0, by rw [h0], by omega, by omega⟩
  · simp only [maxLen] at hm
    exact ⟨_, cap, rfl, hc, by omega⟩
theorem R_C (h : d.R e w v ps) : ∃ A c, v = .slice A ps.length c ∧ ps.length ≤ c ∧ d.C w (fun b => b ∈ foot v ps) A (ps.map Prod.fst) := by
  obtain ⟨A, c, rfl, hc, hm⟩ := R_len h
  obtain ⟨inner, ho, hi, hn⟩ := h
  refine ⟨A, c, rfl, hc, by simpa using hm, fun h0 => ?_⟩
  rcases ho.2 with ⟨he, h1⟩ | ⟨g, cap, cur, he, _, hh, _, _, _⟩
  · simp at h0
    omega
  · injection he with he _ _
    subst he
    refine ⟨⟨g, 0, none⟩, rfl, mem_foot_own rfl, lt_of_get hh, fun j x hj => ?_⟩
    rw [List.getElem?_map, Option.map_eq_some_iff] at hj
    obtain ⟨p, hp, rfl⟩ := hj
    refine ⟨_, d.K_mono (fun b hb => mem_foot_item hp hb) (d.K_of (hi j p hp)), fun i u hu => ?_⟩
    rw [List.getElem?_take] at hu
    split at hu
    · rw [List.getElem?_drop] at hu
      exact ho.cells (g := g) rfl _ u hu
    · cases hu
end
def scalar {α : Type} (enc : α → Value) (h1 : ∀ x, (enc x).oneCell' = true) : Kn α where
  sz := 1
  K := fun _ _ x cs => cs = [enc x]
  O := fun _ x cs F => cs = [enc x] ∧ F = []
  K_len := fun h => by rw [h]; rfl
  K_one := fun h u hu => by
    rw [h] at hu
    rw [List.mem_singleton.1 hu]
    exact h1 _
  K_mono := fun _ h => h
  K_bound := fun h => h
  K_move := fun _ h => h
  K_of := fun h => h.1
  O_move := fun _ h => h
  O_lt := fun h b hb => by rw [h.2] at hb; cases hb
  O_nodup := fun h => by rw [h.2]; exact List.nodup_nil
def int : Kn Int := scalar (Value.int .i64) (fun _ => rfl)
def str : Kn ByteArray := scalar Value.string (fun _ => rfl)
def pair {α β : Type} (a : Kn α) (b : Kn β) : Kn (α × β) where
  sz := a.sz + b.sz
  K := fun w ok x cs => ∃ c0 c1, cs = c0 ++ c1 ∧ a.K w ok x.1 c0 ∧ b.K w ok x.2 c1
  O := fun w x cs F => ∃ c0 c1 F0 F1, cs = c0 ++ c1 ∧ F = F0 ++ F1 ∧ a.O w x.1 c0 F0 ∧ b.O w x.2 c1 F1 ∧ F.Nodup
  K_len := by
    rintro w ok x cs ⟨c0, c1, rfl, h0, h1⟩
    rw [List.length_append, a.K_len h0, b.K_len h1]
  K_one := by
    rintro w ok x cs ⟨c0, c1, rfl, h0, h1⟩ u hu
    rcases List.mem_append.1 hu with hu | hu
    · exact a.K_one h0 u hu
    · exact b.K_one h1 u hu
  K_mono := by
    rintro w ok ok' x cs hm ⟨c0, c1, rfl, h0, h1⟩
    exact ⟨c0, c1, rfl, a.K_mono hm h0, b.K_mono hm h1⟩
  K_bound := by
    rintro w ok x cs ⟨c0, c1, rfl, h0, h1⟩
    exact ⟨c0, c1, rfl, a.K_bound h0, b.K_bound h1⟩
  K_move := by
    rintro w w1 ok x cs hm ⟨c0, c1, rfl, h0, h1⟩
    exact ⟨c0, c1, rfl, a.K_move hm h0, b.K_move hm h1⟩
  K_of := by
    rintro w x cs F ⟨c0, c1, F0, F1, rfl, rfl, h0, h1, _⟩
    exact ⟨c0, c1, rfl, a.K_mono (fun _ h => List.mem_append_left _ h) (a.K_of h0), b.K_mono (fun _ h => List.mem_append_right _ h) (b.K_of h1)⟩
  O_move := by
    rintro w w1 x cs F hm ⟨c0, c1, F0, F1, rfl, rfl, h0, h1, hn⟩
    exact ⟨c0, c1, F0, F1, rfl, rfl, a.O_move (fun k hk => hm k (List.mem_append_left _ hk)) h0, b.O_move (fun k hk => hm k (List.mem_append_right _ hk)) h1, hn⟩
  O_lt := by
    rintro w x cs F ⟨c0, c1, F0, F1, rfl, rfl, h0, h1, hn⟩ k hk
    rcases List.mem_append.1 hk with hk | hk
    · exact a.O_lt h0 k hk
    · exact b.O_lt h1 k hk
  O_nodup := by
    rintro w x cs F ⟨c0, c1, F0, F1, rfl, rfl, h0, h1, hn⟩
    exact hn
def iso {α β : Type} (d : Kn α) (f : β → α) : Kn β where
  sz := d.sz
  K := fun w ok x cs => d.K w ok (f x) cs
  O := fun w x cs F => d.O w (f x) cs F
  K_len := d.K_len
  K_one := d.K_one
  K_mono := d.K_mono
  K_bound := d.K_bound
  K_move := d.K_move
  K_of := d.K_of
  O_move := d.O_move
  O_lt := d.O_lt
  O_nodup := d.O_nodup
def slice {α : Type} (e : Nat) (d : Kn α) : Kn (List α) where
  sz := 1
  K := fun w ok xs cs => ∃ A c, cs = [.slice A xs.length c] ∧ xs.length ≤ c ∧ d.C w ok A xs
  O := fun w xs cs F => ∃ v ps, cs = [v] ∧ xs = ps.map Prod.fst ∧ d.R e w v ps ∧ F = foot v ps
  K_len := by
    rintro w ok x cs ⟨A, c, rfl, _⟩
    rfl
  K_one := by
    rintro w ok x cs ⟨A, c, rfl, _⟩ u hu
    rw [List.mem_singleton.1 hu]
    rfl
  K_mono := by
    rintro w ok ok' x cs hm ⟨A, c, rfl, hl, hc⟩
    exact ⟨A, c, rfl, hl, C_mono hm hc⟩
  K_bound := by
    rintro w ok x cs ⟨A, c, rfl, hl, hc⟩
    exact ⟨A, c, rfl, hl, C_bound hc⟩
  K_move := by
    rintro w w1 ok x cs hm ⟨A, c, rfl, hl, hc⟩
    exact ⟨A, c, rfl, hl, C_move hm hc⟩
  K_of := by
    rintro w x cs F ⟨v, ps, rfl, rfl, h, rfl⟩
    obtain ⟨A, c, he, hl, hc⟩ := R_C h
    refine ⟨A, c, ?_, ?_, hc⟩
    · rw [he, List.length_map]
    · rw [List.length_map]
      exact hl
  O_move := by
    rintro w w1 x cs F hm ⟨v, ps, rfl, rfl, h, rfl⟩
    exact ⟨v, ps, rfl, rfl, R_move hm h, rfl⟩
  O_lt := by
    rintro w x cs F ⟨v, ps, rfl, rfl, h, rfl⟩
    exact R_lt h
  O_nodup := by
    rintro w x cs F ⟨v, ps, rfl, rfl, ⟨_, _, _, hn⟩, rfl⟩
    exact hn
end Kn
def setAll (xs : List Value) : Nat → List Value → List Value
  | _, [] => xs
  | o, c :: cs => setAll (xs.set o c) (o + 1) cs
theorem setAll_out : ∀ (cs xs : List Value) (o i : Nat), i < o ∨ o + cs.length ≤ i → (setAll xs o cs)[i]? = xs[i]?
  | [], _, _, _, _ => rfl
  | c :: cs, xs, o, i, h => by
    rw [List.length_cons] at h
    rw [setAll, setAll_out cs _ _ _ (by omega), List.getElem?_set_ne (by omega)]
theorem setAll_in : ∀ (cs xs : List Value) (o i : Nat), i < cs.length → o + cs.length ≤ xs.length → (setAll xs o cs)[o + i]? = cs[i]?
  | [], _, _, _, h, _ => absurd h (by simp)
  | c :: cs, xs, o, i, h, hl => by
    rw [List.length_cons] at h hl
    rw [setAll]
    cases i with
    | zero =>
      rw [setAll_out cs _ _ _ (by omega), Nat.add_zero, List.getElem?_set_self (by omega)]
      rfl
    | succ i =>
      have := setAll_in cs (xs.set o c) (o + 1) i (by omega) (by rw [List.length_set]; omega)
      rw [show o + (i + 1) = o + 1 + i by omega, this]
      rfl
theorem setAll_chunk {cs xs : List Value} {sz k : Nat} (hc : cs.length = sz) (hk : k * sz + sz ≤ xs.length) : ((setAll xs (k * sz) cs).drop (k * sz)).take sz = cs := by
  apply List.ext_getElem?
  intro i
  rw [List.getElem?_take]
  split
  · rw [List.getElem?_drop, setAll_in cs xs (k * sz) i (by omega) (by omega)]
  · rw [List.getElem?_eq_none (by omega)]
theorem setAll_other {cs xs : List Value} {sz k j : Nat} (hc : cs.length = sz) (hj : j ≠ k) : ((setAll xs (k * sz) cs).drop (j * sz)).take sz = (xs.drop (j * sz)).take sz := by
  apply List.ext_getElem?
  intro i
  rw [List.getElem?_take, List.getElem?_take]
  split
  · rw [List.getElem?_drop, List.getElem?_drop, setAll_out]
    rcases Nat.lt_or_gt_of_ne hj with h | h
    · have : j * sz + sz ≤ k * sz := by rw [← Nat.succ_mul]; exact Nat.mul_le_mul_right _ h
      omega
    · have : k * sz + sz ≤ j * sz := by rw [← Nat.succ_mul]; exact Nat.mul_le_mul_right _ h
      omega
  · rfl
theorem own_setCells {e sz n cap g : Nat} : ∀ (cs inner : List Value) (o : Nat) (w : World), w.ownsRow 0 e sz (.slice (some ⟨g, 0, none⟩) n cap) n inner →
    (w.setCells g o cs).ownsRow 0 e sz (.slice (some ⟨g, 0, none⟩) n cap) n (setAll inner o cs) ∧ w.grownBy (w.setCells g o cs) (some g)
  | [], _, _, w, h => ⟨h, World.grownBy.refl _ _⟩
  | c :: cs, inner, o, w, h => by
    obtain ⟨h1, g1⟩ := h.stored o c
    obtain ⟨h2, g2⟩ := own_setCells cs (inner.set o c) (o + 1) _ h1
    exact ⟨h2, World.grownBy.trans g1 g2⟩
theorem size_of_info {P : Program} {e : TypeId} {z : Option Value} {s b : Nat} (h : (P.info? e).map (fun i => (i.zero, i.size, i.bytes)) = some (z, s, b)) : (P.info? e).map (·.size) = some s := by
  cases hq : P.info? e with
  | none => simp [hq] at h
  | some i => simp [hq] at h ⊢; exact h.2.1
section
variable {P : Program} {ops : Array Oper} {rest : List Oper} {o : Oper} {a : Act} {Q : Exit → Act → World → Prop}
theorem wpList_store_own {w : World} (hgd : o.guard = none) (ty : TypeId) (x y : Operand) (ho : o.op = .store ty x y) {e sz n cap g off : Nat} {inner : List Value} (cs : List Value)
    (hown : w.ownsRow 0 e sz (.slice (some ⟨g, 0, none⟩) n cap) n inner) (hx : a.eval x = .pointer (some ⟨g, off, none⟩)) (hy : a.eval y = .agg cs.toArray)
    (hoff : off + cs.length ≤ n * sz) (hi : (P.info? ty).map (·.size) = some cs.length) (h1 : cs.all (·.oneCell') = true)
    (h : ∀ w1, w1.ownsRow 0 e sz (.slice (some ⟨g, 0, none⟩) n cap) n (setAll inner off cs) → w.grownBy w1 (some g) → wpList P ops Q rest (a.put o.dst undef) w1) :
    wpList P ops Q (o :: rest) a w := by
  refine wpList_store_mid hgd ty x y ho g off cs.toArray hx hy (fun j hj => ⟨?_, hown.frozenAt _⟩) (by simpa using hi) (all_oneCell_toArray (List.all_eq_true.1 h1)) ?_
  · have hj' : j < cs.length := by simpa using hj
    rw [hown.cellAt _ (by omega), List.getElem?_eq_getElem (by rw [hown.1]; omega)]
    rfl
  · obtain ⟨h2, g2⟩ := own_setCells cs inner off w hown
    exact h _ h2 g2
end
theorem O_set {α : Type} {d : Kn α} {w : World} {x : α} {cs : List Value} {F : List Nat} (h : d.O w x cs F) {p : Addr} (hp : ∀ b, b ∈ F → b ≠ p.block) (u : Value) : d.O (w.setCell p u) x cs F :=
  d.O_move (fun b hb => Below.heap_setCell w p u b (hp b hb)) h
theorem below_grown {B : Nat} {w w1 w2 : World} (hb : Below B w w1) {g : Nat} (hg : w1.grownBy w2 (some g)) (hB : B ≤ g) (hs : B ≤ w1.heap.size) : Below B w w2 :=
  hb.grown hg hs (fun k hk => by injection hk with hk; omega)
end Go.Proofs.YtpggopdojhodaaaGreatDoor.L
namespace Go.Proofs.YtpggopdojhodaaaGreatDoor.L
open Go.RowKit
set_option linter.unusedVariables false
noncomputable def eqv {α : Type} (x y : α) : Bool := @decide (x = y) (Classical.propDecidable _)
theorem eqv_true {α : Type} {x y : α} (h : x = y) : eqv x y = true := by unfold eqv; exact @decide_eq_true _ (Classical.propDecidable _) h
theorem eqv_false {α : Type} {x y : α} (h : ¬ x = y) : eqv x y = false := by unfold eqv; exact @decide_eq_false _ (Classical.propDecidable _) h
theorem eqv_self {α : Type} (x : α) : eqv x x = true := eqv_true rfl
theorem of_eqv {α : Type} {x y : α} (h : eqv x y = true) : x = y := by unfold eqv at h; exact @of_decide_eq_true _ (Classical.propDecidable _) h
structure Piece where
  name : ByteArray
  len : Int
  speed : Int
  brake : Int
def pieceK : Kn Piece := Kn.iso (Kn.pair Kn.str (Kn.pair Kn.int (Kn.pair Kn.int Kn.int))) (fun x => (x.name, x.len, x.speed, x.brake))
abbrev Piece.cs (x : Piece) : List Value := [.string x.name, .int .i64 x.len, .int .i64 x.speed, .int .i64 x.brake]
abbrev Piece.v (x : Piece) : Value := .agg #[.string x.name, .int .i64 x.len, .int .i64 x.speed, .int .i64 x.brake]
theorem pieceK_open {w : World} {ok : Nat → Prop} {x : Piece} {cs : List Value} (h : pieceK.K w ok x cs) : cs = x.cs := by
  obtain ⟨_, _, rfl, rfl, ⟨_, _, rfl, rfl, ⟨_, _, rfl, rfl, rfl⟩⟩⟩ := h
  rfl
theorem pieceK_own (w : World) (x : Piece) : pieceK.O w x x.cs [] := ⟨_, _, [], [], rfl, rfl, ⟨rfl, rfl⟩, ⟨_, _, [], [], rfl, rfl, ⟨rfl, rfl⟩, ⟨_, _, [], [], rfl, rfl, ⟨rfl, rfl⟩, ⟨rfl, rfl⟩, List.nodup_nil⟩, List.nodup_nil⟩, List.nodup_nil⟩
theorem pieceK_at {w : World} {ok : Nat → Prop} {A : Option Addr} {xs : List Piece} (h : pieceK.C w ok A xs) (k : Nat) (hk : k < xs.length) : ∃ ad, A = some ad ∧ ∃ y0 y1 y2 y3, Hid (xs[k]? = some ⟨y0, y1, y2, y3⟩) ∧ w.cell? (ad.add (k * 4)) = some (.string y0) ∧ w.cell? ⟨(ad.add (k * 4)).block, (ad.add (k * 4)).off + 1, none⟩ = some (.int .i64 y1) ∧ w.cell? ⟨(ad.add (k * 4)).block, (ad.add (k * 4)).off + 2, none⟩ = some (.int .i64 y2) ∧ w.cell? ⟨(ad.add (k * 4)).block, (ad.add (k * 4)).off + 3, none⟩ = some (.int .i64 y3) := by
  obtain ⟨ad, x, c, e, _, hx, hkk, hc⟩ := Kn.C_at h k hk
  obtain rfl := pieceK_open hkk
  refine ⟨ad, e, _, _, _, _, Lib.hid hx, hc 0 _ rfl, by rw [← add_field _ _ 1 (by omega)]; exact hc 1 _ rfl, by rw [← add_field _ _ 2 (by omega)]; exact hc 2 _ rfl, by rw [← add_field _ _ 3 (by omega)]; exact hc 3 _ rfl⟩
structure End where
  piece : Int
  side : Int
def endK : Kn End := Kn.iso (Kn.pair Kn.int Kn.int) (fun x => (x.piece, x.side))
abbrev End.cs (x : End) : List Value := [.int .i64 x.piece, .int .i64 x.side]
abbrev End.v (x : End) : Value := .agg #[.int .i64 x.piece, .int .i64 x.side]
theorem endK_open {w : World} {ok : Nat → Prop} {x : End} {cs : List Value} (h : endK.K w ok x cs) : cs = x.cs := by
  obtain ⟨_, _, rfl, rfl, rfl⟩ := h
  rfl
theorem endK_mk (w : World) (ok : Nat → Prop) (x : End) : endK.K w ok x x.cs := ⟨_, _, rfl, rfl, rfl⟩
theorem endK_own (w : World) (x : End) : endK.O w x x.cs [] := ⟨_, _, [], [], rfl, rfl, ⟨rfl, rfl⟩, ⟨rfl, rfl⟩, List.nodup_nil⟩
theorem endK_at {w : World} {ok : Nat → Prop} {A : Option Addr} {xs : List End} (h : endK.C w ok A xs) (k : Nat) (hk : k < xs.length) : ∃ ad, A = some ad ∧ ∃ y0 y1, Hid (xs[k]? = some ⟨y0, y1⟩) ∧ w.cell? (ad.add (k * 2)) = some (.int .i64 y0) ∧ w.cell? ⟨(ad.add (k * 2)).block, (ad.add (k * 2)).off + 1, none⟩ = some (.int .i64 y1) := by
  obtain ⟨ad, x, c, e, _, hx, hkk, hc⟩ := Kn.C_at h k hk
  obtain rfl := endK_open hkk
  refine ⟨ad, e, _, _, Lib.hid hx, hc 0 _ rfl, by rw [← add_field _ _ 1 (by omega)]; exact hc 1 _ rfl⟩
structure Signal where
  name : ByteArray
  piece : Int
  at_ : Int
  way : Int
def signalK : Kn Signal := Kn.iso (Kn.pair Kn.str (Kn.pair Kn.int (Kn.pair Kn.int Kn.int))) (fun x => (x.name, x.piece, x.at_, x.way))
abbrev Signal.cs (x : Signal) : List Value := [.string x.name, .int .i64 x.piece, .int .i64 x.at_, .int .i64 x.way]
abbrev Signal.v (x : Signal) : Value := .agg #[.string x.name, .int .i64 x.piece, .int .i64 x.at_, .int .i64 x.way]
theorem signalK_open {w : World} {ok : Nat → Prop} {x : Signal} {cs : List Value} (h : signalK.K w ok x cs) : cs = x.cs := by
  obtain ⟨_, _, rfl, rfl, ⟨_, _, rfl, rfl, ⟨_, _, rfl, rfl, rfl⟩⟩⟩ := h
  rfl
theorem signalK_own (w : World) (x : Signal) : signalK.O w x x.cs [] := ⟨_, _, [], [], rfl, rfl, ⟨rfl, rfl⟩, ⟨_, _, [], [], rfl, rfl, ⟨rfl, rfl⟩, ⟨_, _, [], [], rfl, rfl, ⟨rfl, rfl⟩, ⟨rfl, rfl⟩, List.nodup_nil⟩, List.nodup_nil⟩, List.nodup_nil⟩
theorem signalK_at {w : World} {ok : Nat → Prop} {A : Option Addr} {xs : List Signal} (h : signalK.C w ok A xs) (k : Nat) (hk : k < xs.length) : ∃ ad, A = some ad ∧ ∃ y0 y1 y2 y3, Hid (xs[k]? = some ⟨y0, y1, y2, y3⟩) ∧ w.cell? (ad.add (k * 4)) = some (.string y0) ∧ w.cell? ⟨(ad.add (k * 4)).block, (ad.add (k * 4)).off + 1, none⟩ = some (.int .i64 y1) ∧ w.cell? ⟨(ad.add (k * 4)).block, (ad.add (k * 4)).off + 2, none⟩ = some (.int .i64 y2) ∧ w.cell? ⟨(ad.add (k * 4)).block, (ad.add (k * 4)).off + 3, none⟩ = some (.int .i64 y3) := by
  obtain ⟨ad, x, c, e, _, hx, hkk, hc⟩ := Kn.C_at h k hk
  obtain rfl := signalK_open hkk
  refine ⟨ad, e, _, _, _, _, Lib.hid hx, hc 0 _ rfl, by rw [← add_field _ _ 1 (by omega)]; exact hc 1 _ rfl, by rw [← add_field _ _ 2 (by omega)]; exact hc 2 _ rfl, by rw [← add_field _ _ 3 (by omega)]; exact hc 3 _ rfl⟩
structure Step where
  piece : Int
  way : Int
def stepK : Kn Step := Kn.iso (Kn.pair Kn.int Kn.int) (fun x => (x.piece, x.way))
abbrev Step.cs (x : Step) : List Value := [.int .i64 x.piece, .int .i64 x.way]
abbrev Step.v (x : Step) : Value := .agg #[.int .i64 x.piece, .int .i64 x.way]
theorem stepK_open {w : World} {ok : Nat → Prop} {x : Step} {cs : List Value} (h : stepK.K w ok x cs) : cs = x.cs := by
  obtain ⟨_, _, rfl, rfl, rfl⟩ := h
  rfl
theorem stepK_mk (w : World) (ok : Nat → Prop) (x : Step) : stepK.K w ok x x.cs := ⟨_, _, rfl, rfl, rfl⟩
theorem stepK_own (w : World) (x : Step) : stepK.O w x x.cs [] := ⟨_, _, [], [], rfl, rfl, ⟨rfl, rfl⟩, ⟨rfl, rfl⟩, List.nodup_nil⟩
theorem stepK_at {w : World} {ok : Nat → Prop} {A : Option Addr} {xs : List Step} (h : stepK.C w ok A xs) (k : Nat) (hk : k < xs.length) : ∃ ad, A = some ad ∧ ∃ y0 y1, Hid (xs[k]? = some ⟨y0, y1⟩) ∧ w.cell? (ad.add (k * 2)) = some (.int .i64 y0) ∧ w.cell? ⟨(ad.add (k * 2)).block, (ad.add (k * 2)).off + 1, none⟩ = some (.int .i64 y1) := by
  obtain ⟨ad, x, c, e, _, hx, hkk, hc⟩ := Kn.C_at h k hk
  obtain rfl := stepK_open hkk
  refine ⟨ad, e, _, _, Lib.hid hx, hc 0 _ rfl, by rw [← add_field _ _ 1 (by omega)]; exact hc 1 _ rfl⟩
structure Lie where
  joint : Int
  lie : Int
def lieK : Kn Lie := Kn.iso (Kn.pair Kn.int Kn.int) (fun x => (x.joint, x.lie))
abbrev Lie.cs (x : Lie) : List Value := [.int .i64 x.joint, .int .i64 x.lie]
abbrev Lie.v (x : Lie) : Value := .agg #[.int .i64 x.joint, .int .i64 x.lie]
theorem lieK_open {w : World} {ok : Nat → Prop} {x : Lie} {cs : List Value} (h : lieK.K w ok x cs) : cs = x.cs := by
  obtain ⟨_, _, rfl, rfl, rfl⟩ := h
  rfl
theorem lieK_mk (w : World) (ok : Nat → Prop) (x : Lie) : lieK.K w ok x x.cs := ⟨_, _, rfl, rfl, rfl⟩
theorem lieK_own (w : World) (x : Lie) : lieK.O w x x.cs [] := ⟨_, _, [], [], rfl, rfl, ⟨rfl, rfl⟩, ⟨rfl, rfl⟩, List.nodup_nil⟩
theorem lieK_at {w : World} {ok : Nat → Prop} {A : Option Addr} {xs : List Lie} (h : lieK.C w ok A xs) (k : Nat) (hk : k < xs.length) : ∃ ad, A = some ad ∧ ∃ y0 y1, Hid (xs[k]? = some ⟨y0, y1⟩) ∧ w.cell? (ad.add (k * 2)) = some (.int .i64 y0) ∧ w.cell? ⟨(ad.add (k * 2)).block, (ad.add (k * 2)).off + 1, none⟩ = some (.int .i64 y1) := by
  obtain ⟨ad, x, c, e, _, hx, hkk, hc⟩ := Kn.C_at h k hk
  obtain rfl := lieK_open hkk
  refine ⟨ad, e, _, _, Lib.hid hx, hc 0 _ rfl, by rw [← add_field _ _ 1 (by omega)]; exact hc 1 _ rfl⟩
structure Part where
  piece : Int
  frm : Int
  til : Int
def partK : Kn Part := Kn.iso (Kn.pair Kn.int (Kn.pair Kn.int Kn.int)) (fun x => (x.piece, x.frm, x.til))
abbrev Part.cs (x : Part) : List Value := [.int .i64 x.piece, .int .i64 x.frm, .int .i64 x.til]
abbrev Part.v (x : Part) : Value := .agg #[.int .i64 x.piece, .int .i64 x.frm, .int .i64 x.til]
theorem partK_open {w : World} {ok : Nat → Prop} {x : Part} {cs : List Value} (h : partK.K w ok x cs) : cs = x.cs := by
  obtain ⟨_, _, rfl, rfl, ⟨_, _, rfl, rfl, rfl⟩⟩ := h
  rfl
theorem partK_mk (w : World) (ok : Nat → Prop) (x : Part) : partK.K w ok x x.cs := ⟨_, _, rfl, rfl, ⟨_, _, rfl, rfl, rfl⟩⟩
theorem partK_own (w : World) (x : Part) : partK.O w x x.cs [] := ⟨_, _, [], [], rfl, rfl, ⟨rfl, rfl⟩, ⟨_, _, [], [], rfl, rfl, ⟨rfl, rfl⟩, ⟨rfl, rfl⟩, List.nodup_nil⟩, List.nodup_nil⟩
theorem partK_at {w : World} {ok : Nat → Prop} {A : Option Addr} {xs : List Part} (h : partK.C w ok A xs) (k : Nat) (hk : k < xs.length) : ∃ ad, A = some ad ∧ ∃ y0 y1 y2, Hid (xs[k]? = some ⟨y0, y1, y2⟩) ∧ w.cell? (ad.add (k * 3)) = some (.int .i64 y0) ∧ w.cell? ⟨(ad.add (k * 3)).block, (ad.add (k * 3)).off + 1, none⟩ = some (.int .i64 y1) ∧ w.cell? ⟨(ad.add (k * 3)).block, (ad.add (k * 3)).off + 2, none⟩ = some (.int .i64 y2) := by
  obtain ⟨ad, x, c, e, _, hx, hkk, hc⟩ := Kn.C_at h k hk
  obtain rfl := partK_open hkk
  refine ⟨ad, e, _, _, _, Lib.hid hx, hc 0 _ rfl, by rw [← add_field _ _ 1 (by omega)]; exact hc 1 _ rfl, by rw [← add_field _ _ 2 (by omega)]; exact hc 2 _ rfl⟩
structure Flank where
  at_ : Int
  kind : Int
  of_ : Int
  lie : Int
def flankK : Kn Flank := Kn.iso (Kn.pair Kn.int (Kn.pair Kn.int (Kn.pair Kn.int Kn.int))) (fun x => (x.at_, x.kind, x.of_, x.lie))
abbrev Flank.cs (x : Flank) : List Value := [.int .i64 x.at_, .int .i64 x.kind, .int .i64 x.of_, .int .i64 x.lie]
abbrev Flank.v (x : Flank) : Value := .agg #[.int .i64 x.at_, .int .i64 x.kind, .int .i64 x.of_, .int .i64 x.lie]
theorem flankK_open {w : World} {ok : Nat → Prop} {x : Flank} {cs : List Value} (h : flankK.K w ok x cs) : cs = x.cs := by
  obtain ⟨_, _, rfl, rfl, ⟨_, _, rfl, rfl, ⟨_, _, rfl, rfl, rfl⟩⟩⟩ := h
  rfl
theorem flankK_mk (w : World) (ok : Nat → Prop) (x : Flank) : flankK.K w ok x x.cs := ⟨_, _, rfl, rfl, ⟨_, _, rfl, rfl, ⟨_, _, rfl, rfl, rfl⟩⟩⟩
theorem flankK_own (w : World) (x : Flank) : flankK.O w x x.cs [] := ⟨_, _, [], [], rfl, rfl, ⟨rfl, rfl⟩, ⟨_, _, [], [], rfl, rfl, ⟨rfl, rfl⟩, ⟨_, _, [], [], rfl, rfl, ⟨rfl, rfl⟩, ⟨rfl, rfl⟩, List.nodup_nil⟩, List.nodup_nil⟩, List.nodup_nil⟩
theorem flankK_at {w : World} {ok : Nat → Prop} {A : Option Addr} {xs : List Flank} (h : flankK.C w ok A xs) (k : Nat) (hk : k < xs.length) : ∃ ad, A = some ad ∧ ∃ y0 y1 y2 y3, Hid (xs[k]? = some ⟨y0, y1, y2, y3⟩) ∧ w.cell? (ad.add (k * 4)) = some (.int .i64 y0) ∧ w.cell? ⟨(ad.add (k * 4)).block, (ad.add (k * 4)).off + 1, none⟩ = some (.int .i64 y1) ∧ w.cell? ⟨(ad.add (k * 4)).block, (ad.add (k * 4)).off + 2, none⟩ = some (.int .i64 y2) ∧ w.cell? ⟨(ad.add (k * 4)).block, (ad.add (k * 4)).off + 3, none⟩ = some (.int .i64 y3) := by
  obtain ⟨ad, x, c, e, _, hx, hkk, hc⟩ := Kn.C_at h k hk
  obtain rfl := flankK_open hkk
  refine ⟨ad, e, _, _, _, _, Lib.hid hx, hc 0 _ rfl, by rw [← add_field _ _ 1 (by omega)]; exact hc 1 _ rfl, by rw [← add_field _ _ 2 (by omega)]; exact hc 2 _ rfl, by rw [← add_field _ _ 3 (by omega)]; exact hc 3 _ rfl⟩
structure Fault where
  code : Int
  at_ : Int
abbrev Fault.cs (x : Fault) : List Value := [.int .i64 x.code, .int .i64 x.at_]
abbrev Fault.v (x : Fault) : Value := .agg #[.int .i64 x.code, .int .i64 x.at_]
theorem int_at {w : World} {ok : Nat → Prop} {A : Option Addr} {xs : List Int} (h : Kn.int.C w ok A xs) (k : Nat) (hk : k < xs.length) : ∃ ad, A = some ad ∧ ∃ y, Hid (xs[k]? = some y) ∧ w.cell? (ad.add k) = some (.int .i64 y) := by
  obtain ⟨ad, x, c, e, _, hx, rfl, hc⟩ := Kn.C_at h k hk
  exact ⟨ad, e, _, Lib.hid hx, by have := hc 0 _ rfl; rwa [show k * Kn.int.sz + 0 = k from by show k * 1 + 0 = k; omega] at this⟩
structure Joint where
  kind : Int
  name : ByteArray
  ends : List End
def jointK (eE : Nat) : Kn Joint := Kn.iso (Kn.pair Kn.int (Kn.pair Kn.str (Kn.slice eE endK))) (fun x => (x.kind, x.name, x.ends))
theorem jointK_open {eE : Nat} {w : World} {ok : Nat → Prop} {x : Joint} {cs : List Value} (h : (jointK eE).K w ok x cs) : ∃ A0 c0, cs = [.int .i64 x.kind, .string x.name, .slice A0 x.ends.length c0] ∧ x.ends.length ≤ c0 ∧ endK.C w ok A0 x.ends := by
  obtain ⟨_, _, rfl, rfl, ⟨_, _, rfl, rfl, ⟨A0, c0, rfl, l0, h0⟩⟩⟩ := h
  exact ⟨A0, c0, rfl, l0, h0⟩
theorem jointK_at {eE : Nat} {w : World} {ok : Nat → Prop} {A : Option Addr} {xs : List Joint} (h : (jointK eE).C w ok A xs) (k : Nat) (hk : k < xs.length) : ∃ ad, A = some ad ∧ ∃ x, Hid (xs[k]? = some x) ∧ ∃ A0 c0, w.cell? (ad.add (k * 3)) = some (.int .i64 x.kind) ∧ w.cell? ⟨(ad.add (k * 3)).block, (ad.add (k * 3)).off + 1, none⟩ = some (.string x.name) ∧ w.cell? ⟨(ad.add (k * 3)).block, (ad.add (k * 3)).off + 2, none⟩ = some (.slice A0 x.ends.length c0) ∧ x.ends.length ≤ c0 ∧ endK.C w ok A0 x.ends := by
  obtain ⟨ad, x, c, e, _, hx, hkk, hc⟩ := Kn.C_at h k hk
  obtain ⟨A0, c0, rfl, l0, h0⟩ := jointK_open hkk
  exact ⟨ad, e, x, Lib.hid hx, A0, c0, hc 0 _ rfl, by rw [← add_field _ _ 1 (by omega)]; exact hc 1 _ rfl, by rw [← add_field _ _ 2 (by omega)]; exact hc 2 _ rfl, l0, h0⟩
structure Net where
  pieces : List Piece
  joints : List Joint
def netK (eP eJ eE : Nat) : Kn Net := Kn.iso (Kn.pair (Kn.slice eP pieceK) (Kn.slice eJ (jointK eE))) (fun x => (x.pieces, x.joints))
theorem netK_open {eP eJ eE : Nat} {w : World} {ok : Nat → Prop} {x : Net} {cs : List Value} (h : (netK eP eJ eE).K w ok x cs) : ∃ A0 c0 A1 c1, cs = [.slice A0 x.pieces.length c0, .slice A1 x.joints.length c1] ∧ x.pieces.length ≤ c0 ∧ pieceK.C w ok A0 x.pieces ∧ x.joints.length ≤ c1 ∧ (jointK eE).C w ok A1 x.joints := by
  obtain ⟨_, _, rfl, ⟨A0, c0, rfl, l0, h0⟩, ⟨A1, c1, rfl, l1, h1⟩⟩ := h
  exact ⟨A0, c0, A1, c1, rfl, l0, h0, l1, h1⟩
structure Route where
  frm : Int
  til : Int
  steps : List Step
  lies : List Lie
  crosses : List Int
  parts : List Part
  over : List Part
  flanks : List Flank
def routeK (eS eL eI eP eF : Nat) : Kn Route := Kn.iso (Kn.pair Kn.int (Kn.pair Kn.int (Kn.pair (Kn.slice eS stepK) (Kn.pair (Kn.slice eL lieK) (Kn.pair (Kn.slice eI Kn.int) (Kn.pair (Kn.slice eP partK) (Kn.pair (Kn.slice eP partK) (Kn.slice eF flankK)))))))) (fun x => (x.frm, x.til, x.steps, x.lies, x.crosses, x.parts, x.over, x.flanks))
theorem routeK_open {eS eL eI eP eF : Nat} {w : World} {ok : Nat → Prop} {x : Route} {cs : List Value} (h : (routeK eS eL eI eP eF).K w ok x cs) : ∃ A0 c0 A1 c1 A2 c2 A3 c3 A4 c4 A5 c5, cs = [.int .i64 x.frm, .int .i64 x.til, .slice A0 x.steps.length c0, .slice A1 x.lies.length c1, .slice A2 x.crosses.length c2, .slice A3 x.parts.length c3, .slice A4 x.over.length c4, .slice A5 x.flanks.length c5] ∧ x.steps.length ≤ c0 ∧ stepK.C w ok A0 x.steps ∧ x.lies.length ≤ c1 ∧ lieK.C w ok A1 x.lies ∧ x.crosses.length ≤ c2 ∧ Kn.int.C w ok A2 x.crosses ∧ x.parts.length ≤ c3 ∧ partK.C w ok A3 x.parts ∧ x.over.length ≤ c4 ∧ partK.C w ok A4 x.over ∧ x.flanks.length ≤ c5 ∧ flankK.C w ok A5 x.flanks := by
  obtain ⟨_, _, rfl, rfl, ⟨_, _, rfl, rfl, ⟨_, _, rfl, ⟨A0, c0, rfl, l0, h0⟩, ⟨_, _, rfl, ⟨A1, c1, rfl, l1, h1⟩, ⟨_, _, rfl, ⟨A2, c2, rfl, l2, h2⟩, ⟨_, _, rfl, ⟨A3, c3, rfl, l3, h3⟩, ⟨_, _, rfl, ⟨A4, c4, rfl, l4, h4⟩, ⟨A5, c5, rfl, l5, h5⟩⟩⟩⟩⟩⟩⟩⟩ := h
  exact ⟨A0, c0, A1, c1, A2, c2, A3, c3, A4, c4, A5, c5, rfl, l0, h0, l1, h1, l2, h2, l3, h3, l4, h4, l5, h5⟩
theorem routeK_mk {eS eL eI eP eF : Nat} {w : World} {ok : Nat → Prop} {x : Route} {A0 : Option Addr} {c0 : Nat} {A1 : Option Addr} {c1 : Nat} {A2 : Option Addr} {c2 : Nat} {A3 : Option Addr} {c3 : Nat} {A4 : Option Addr} {c4 : Nat} {A5 : Option Addr} {c5 : Nat} (l0 : x.steps.length ≤ c0) (h0 : stepK.C w ok A0 x.steps) (l1 : x.lies.length ≤ c1) (h1 : lieK.C w ok A1 x.lies) (l2 : x.crosses.length ≤ c2) (h2 : Kn.int.C w ok A2 x.crosses) (l3 : x.parts.length ≤ c3) (h3 : partK.C w ok A3 x.parts) (l4 : x.over.length ≤ c4) (h4 : partK.C w ok A4 x.over) (l5 : x.flanks.length ≤ c5) (h5 : flankK.C w ok A5 x.flanks) : (routeK eS eL eI eP eF).K w ok x [.int .i64 x.frm, .int .i64 x.til, .slice A0 x.steps.length c0, .slice A1 x.lies.length c1, .slice A2 x.crosses.length c2, .slice A3 x.parts.length c3, .slice A4 x.over.length c4, .slice A5 x.flanks.length c5] := ⟨_, _, rfl, rfl, ⟨_, _, rfl, rfl, ⟨_, _, rfl, ⟨A0, c0, rfl, l0, h0⟩, ⟨_, _, rfl, ⟨A1, c1, rfl, l1, h1⟩, ⟨_, _, rfl, ⟨A2, c2, rfl, l2, h2⟩, ⟨_, _, rfl, ⟨A3, c3, rfl, l3, h3⟩, ⟨_, _, rfl, ⟨A4, c4, rfl, l4, h4⟩, ⟨A5, c5, rfl, l5, h5⟩⟩⟩⟩⟩⟩⟩⟩
theorem routeK_at {eS eL eI eP eF : Nat} {w : World} {ok : Nat → Prop} {A : Option Addr} {xs : List Route} (h : (routeK eS eL eI eP eF).C w ok A xs) (k : Nat) (hk : k < xs.length) : ∃ ad, A = some ad ∧ ∃ x, Hid (xs[k]? = some x) ∧ ∃ A0 c0 A1 c1 A2 c2 A3 c3 A4 c4 A5 c5, w.cell? (ad.add (k * 8)) = some (.int .i64 x.frm) ∧ w.cell? ⟨(ad.add (k * 8)).block, (ad.add (k * 8)).off + 1, none⟩ = some (.int .i64 x.til) ∧ w.cell? ⟨(ad.add (k * 8)).block, (ad.add (k * 8)).off + 2, none⟩ = some (.slice A0 x.steps.length c0) ∧ w.cell? ⟨(ad.add (k * 8)).block, (ad.add (k * 8)).off + 3, none⟩ = some (.slice A1 x.lies.length c1) ∧ w.cell? ⟨(ad.add (k * 8)).block, (ad.add (k * 8)).off + 4, none⟩ = some (.slice A2 x.crosses.length c2) ∧ w.cell? ⟨(ad.add (k * 8)).block, (ad.add (k * 8)).off + 5, none⟩ = some (.slice A3 x.parts.length c3) ∧ w.cell? ⟨(ad.add (k * 8)).block, (ad.add (k * 8)).off + 6, none⟩ = some (.slice A4 x.over.length c4) ∧ w.cell? ⟨(ad.add (k * 8)).block, (ad.add (k * 8)).off + 7, none⟩ = some (.slice A5 x.flanks.length c5) ∧ x.steps.length ≤ c0 ∧ stepK.C w ok A0 x.steps ∧ x.lies.length ≤ c1 ∧ lieK.C w ok A1 x.lies ∧ x.crosses.length ≤ c2 ∧ Kn.int.C w ok A2 x.crosses ∧ x.parts.length ≤ c3 ∧ partK.C w ok A3 x.parts ∧ x.over.length ≤ c4 ∧ partK.C w ok A4 x.over ∧ x.flanks.length ≤ c5 ∧ flankK.C w ok A5 x.flanks := by
  obtain ⟨ad, x, c, e, _, hx, hkk, hc⟩ := Kn.C_at h k hk
  obtain ⟨A0, c0, A1, c1, A2, c2, A3, c3, A4, c4, A5, c5, rfl, l0, h0, l1, h1, l2, h2, l3, h3, l4, h4, l5, h5⟩ := routeK_open hkk
  exact ⟨ad, e, x, Lib.hid hx, A0, c0, A1, c1, A2, c2, A3, c3, A4, c4, A5, c5, hc 0 _ rfl, by rw [← add_field _ _ 1 (by omega)]; exact hc 1 _ rfl, by rw [← add_field _ _ 2 (by omega)]; exact hc 2 _ rfl, by rw [← add_field _ _ 3 (by omega)]; exact hc 3 _ rfl, by rw [← add_field _ _ 4 (by omega)]; exact hc 4 _ rfl, by rw [← add_field _ _ 5 (by omega)]; exact hc 5 _ rfl, by rw [← add_field _ _ 6 (by omega)]; exact hc 6 _ rfl, by rw [← add_field _ _ 7 (by omega)]; exact hc 7 _ rfl, l0, h0, l1, h1, l2, h2, l3, h3, l4, h4, l5, h5⟩
end Go.Proofs.YtpggopdojhodaaaGreatDoor.L
namespace Go.Proofs.YtpggopdojhodaaaGreatDoor.L
open Go.ChangeShapes Go.WideShapes Go.ChangeAt Go.RowKit
set_option linter.unusedVariables false
theorem trodAll_below {H : Type} {enc : TypeId × Value → H} {P : Program} (hl : laidOutB P = true) {W W' : World} (hb : Below W.heap.size W W') :
    ∀ (ts : List TypeId) (vs : List Value) (ds : List (DataW H)) (ps : List MemPlace), (∀ t ∈ ts, P.readableRec t = true ∧ t < P.types.size) →
      DataW.TrodAll enc P W 0 (fun _ => true) true ts vs ds ps → (∀ x ∈ ps, x.block < W.heap.size) → DataW.TrodAll enc P W' 0 (fun b => decide (b < W.heap.size)) true ts vs ds ps
  | [], [], [], ps, _, h, _ => h
  | t :: ts, v :: vs, d :: ds, ps, hp, h, hlt => by
    obtain ⟨p, q, h1, h2, rfl⟩ := h
    refine ⟨p, q, Below.trod hl (hp t (by simp)).1 (hp t (by simp)).2 h1 hb (fun x hx => hlt x (List.mem_append_left _ hx)), ?_, rfl⟩
    exact trodAll_below hl hb ts vs ds q (fun t ht => hp t (by simp [ht])) h2 (fun x hx => hlt x (List.mem_append_right _ hx))
  | [], _ :: _, _, _, _, h, _ => h.elim
  | [], [], _ :: _, _, _, h, _ => h.elim
  | _ :: _, [], _, _, _, h, _ => h.elim
  | _ :: _, _ :: _, [], _, _, h, _ => h.elim
theorem trodAll_len {H : Type} {enc : TypeId × Value → H} {P : Program} {W : World} {b : Nat} {sp : Nat → Bool} {hd : Bool} :
    ∀ (ts : List TypeId) (vs : List Value) (ds : List (DataW H)) (ps : List MemPlace), DataW.TrodAll enc P W b sp hd ts vs ds ps → ds.length = ts.length
  | [], [], [], _, _ => rfl
  | t :: ts, v :: vs, d :: ds, ps, h => by
    obtain ⟨p, q, h1, h2, rfl⟩ := h
    simp [trodAll_len ts vs ds q h2]
  | [], _ :: _, _, _, h => h.elim
  | [], [], _ :: _, _, h => h.elim
  | _ :: _, [], _, _, h => h.elim
  | _ :: _, _ :: _, [], _, h => h.elim
theorem add_add (a : Addr) (m k : Nat) : (a.add m).add k = a.add (m + k) := by
  unfold Addr.add
  by_cases hm : m = 0
  · subst hm
    simp
  · by_cases hk : k = 0
    · subst hk
      simp [hm]
    · simp [hm, hk, Nat.add_assoc]
def Opens {α : Type} (P : Program) (t : TypeId) (d : Kn α) (fit : α → Prop) : Prop :=
  P.cellsOf t = d.sz ∧ ∀ (H : Type) (enc : TypeId × Value → H) (w : World) (sp : Nat → Bool) (hd : Bool) (m : Nat) (cs : List Value) (x : DataW H × List MemPlace),
    DataW.trod enc P w 0 sp hd m t cs = some x → ∃ y, d.K w (fun _ => True) y cs ∧ fit y
theorem opens_int {P : Program} {t : TypeId} (ht : P.underlying t = some (.int .i64)) (hc : P.cellsOf t = 1) : Opens P t Kn.int (fun n => (Lit.int .i64 n).wf = true) :=
  ⟨hc, fun H enc w sp hd m cs x h => by
    obtain ⟨n, rfl, _, hn⟩ := DataW.trod_int ht h
    exact ⟨n, rfl, hn⟩⟩
theorem opens_str {P : Program} {t : TypeId} (ht : P.underlying t = some .string) (hc : P.cellsOf t = 1) : Opens P t Kn.str (fun s => s.size ≤ 9223372036854775807) :=
  ⟨hc, fun H enc w sp hd m cs x h => by
    obtain ⟨n, rfl, _, hn⟩ := DataW.trod_string ht h
    simp only [maxLen] at hn
    exact ⟨n, rfl, by omega⟩⟩
theorem opens_slice {P : Program} {t e : TypeId} {α : Type} {d : Kn α} {fit : α → Prop} {E : Nat} (ht : P.underlying t = some (.slice e)) (hc : P.cellsOf t = 1) (he : Opens P e d fit) (hz : 0 < d.sz) :
    Opens P t (Kn.slice E d) (fun xs => ∀ x ∈ xs, fit x) :=
  ⟨hc, fun H enc w sp hd m cs x h => by
    rcases DataW.trod_slice ht h with ⟨rfl, _⟩ | ⟨a, len, cap, elems, rest, n, rfl, rfl, _, hb, hl, hm, hel, hi, _⟩
    · exact ⟨[], ⟨none, 0, rfl, by simp, Kn.C_nil⟩, by simp⟩
    · have key : ∀ k, k ≤ len → ∃ xs : List α, xs.length = k ∧ (∀ x ∈ xs, fit x) ∧ ∀ j x, xs[j]? = some x → ∃ c, d.K w (fun _ => True) x c ∧ ∀ i u, c[i]? = some u → w.cell? (a.add (j * d.sz + i)) = some u := by
        intro k
        induction k with
        | zero => exact fun _ => ⟨[], rfl, by simp, by simp⟩
        | succ k ih =>
          intro hk
          obtain ⟨xs, h1, h2, h3⟩ := ih (by omega)
          have h4 := hi k (by omega)
          rw [List.getElem?_eq_getElem (by omega), Option.bind_eq_some_iff] at h4
          obtain ⟨c, h5, h6⟩ := h4
          obtain ⟨y, h7, h8⟩ := he.2 H enc w sp hd n c _ h6
          obtain ⟨_, h9, h10⟩ := World.cells?_some h5
          rw [he.1] at h9 h10
          refine ⟨xs ++ [y], by simp [h1], ?_, ?_⟩
          · intro x hx
            rcases List.mem_append.1 hx with hx | hx
            · exact h2 x hx
            · rw [List.mem_singleton.1 hx]
              exact h8
          · intro j x hj
            by_cases hjk : j < xs.length
            · rw [List.getElem?_append_left hjk] at hj
              exact h3 j x hj
            · have hjl := (List.getElem?_eq_some_iff.1 hj).1
              rw [List.length_append, List.length_singleton] at hjl
              obtain rfl : j = k := by omega
              rw [List.getElem?_append_right (by omega), h1, Nat.sub_self] at hj
              obtain rfl := Option.some.inj hj
              refine ⟨c, h7, fun i u hu => ?_⟩
              have hil := (List.getElem?_eq_some_iff.1 hu).1
              rw [← add_add, h10 i (by omega)]
              exact hu
      obtain ⟨xs, h1, h2, h3⟩ := key len (Nat.le_refl _)
      simp only [maxLen] at hm
      refine ⟨xs, ⟨some a, cap, by rw [h1], by omega, by omega, fun h0 => ⟨a, rfl, trivial, ?_, h3⟩⟩, h2⟩
      have h4 := hi 0 (by omega)
      rw [List.getElem?_eq_getElem (by omega), Option.bind_eq_some_iff] at h4
      obtain ⟨c, h5, _⟩ := h4
      have := World.cells?_block h5 (by rw [he.1]; exact hz)
      simpa [add_block] using this⟩
def OpensAt {α : Type} (P : Program) (fs : Array Field) (o : Nat) (d : Kn α) (fit : α → Prop) : Prop :=
  ∀ (H : Type) (enc : TypeId × Value → H) (w : World) (sp : Nat → Bool) (hd : Bool) (m : Nat) (cs : List Value), cs.length = o + d.sz →
    (∀ (i : Nat) (f : Field), fs[i]? = some f → ∃ x, DataW.trod enc P w 0 sp hd m f.type ((cs.drop f.offset).take (P.cellsOf f.type)) = some x) → ∃ y, d.K w (fun _ => True) y (cs.drop o) ∧ fit y
theorem opens_last {P : Program} {fs : Array Field} {α : Type} {d : Kn α} {fit : α → Prop} {f : Field} {o : Nat} (i : Nat) (hf : fs[i]? = some f) (ho : f.offset = o) (h : Opens P f.type d fit) : OpensAt P fs o d fit := by
  subst ho
  intro H enc w sp hd m cs hl hx
  obtain ⟨x, h1⟩ := hx i f hf
  rw [h.1, List.take_of_length_le (by rw [List.length_drop]; omega)] at h1
  exact h.2 H enc w sp hd m _ x h1
theorem opens_pair {P : Program} {fs : Array Field} {α β : Type} {d : Kn α} {fit : α → Prop} {d' : Kn β} {fit' : β → Prop} {f : Field} {o : Nat} (i : Nat) (hf : fs[i]? = some f) (ho : f.offset = o) (h : Opens P f.type d fit)
    (h' : OpensAt P fs (o + d.sz) d' fit') : OpensAt P fs o (Kn.pair d d') (fun x => fit x.1 ∧ fit' x.2) := by
  subst ho
  intro H enc w sp hd m cs hl hx
  have hl' : cs.length = f.offset + (d.sz + d'.sz) := hl
  obtain ⟨y', h3, h4⟩ := h' H enc w sp hd m cs (by omega) hx
  obtain ⟨x, h1⟩ := hx i f hf
  rw [h.1] at h1
  obtain ⟨y, h5, h6⟩ := h.2 H enc w sp hd m _ x h1
  refine ⟨(y, y'), ⟨_, _, ?_, h5, h3⟩, h6, h4⟩
  rw [← List.drop_drop, List.take_append_drop]
theorem opens_struct {P : Program} {t : TypeId} {fs : Array Field} {α β : Type} {d : Kn α} {fit : α → Prop} {fit' : β → Prop} (f : β → α) (g : α → β) (hg : ∀ x, f (g x) = x) (hfit : ∀ x, fit x → fit' (g x))
    (ht : P.underlying t = some (.struct fs)) (hc : P.cellsOf t = d.sz) (h : OpensAt P fs 0 d fit) : Opens P t (Kn.iso d f) fit' :=
  ⟨hc, fun H enc w sp hd m cs x hx => by
    obtain ⟨xs, n, rfl, _, h2, h3, h4⟩ := DataW.trod_struct ht hx
    obtain ⟨y, h5, h6⟩ := h H enc w sp hd n cs (by omega) (fun i f hf => by
      have hi : i < fs.size := (Array.getElem?_eq_some_iff.1 hf).1
      exact ⟨_, (h4 i f hf).trans (List.getElem?_eq_getElem (by omega))⟩)
    refine ⟨g y, ?_, hfit _ h6⟩
    show d.K w (fun _ => True) (f (g y)) cs
    rw [hg]
    exact h5⟩
end Go.Proofs.YtpggopdojhodaaaGreatDoor.L
namespace Go.Proofs.YtpggopdojhodaaaGreatDoor.L
open Go.RowKit
set_option linter.unusedVariables false
set_option linter.unusedSimpArgs false
def cut (x : Int) : Int := if x < 0 then -1 else x
theorem cut_neg {x : Int} (h : x < 0) : cut x = -1 := if_pos h
theorem cut_pos {x : Int} (h : 0 ≤ x) : cut x = x := if_neg (by omega)
theorem ret_int {a b : Int} (h : a = b) : Ending.returned (.int .i64 a) = .returned (.int .i64 b) := by rw [h]
def RetI (r : Int) (w : World) (e : Ending) (w' : World) : Prop := e = .returned (.int .i64 r) ∧ Below w.heap.size w w'
def tot {α : Type} (f : α → Nat) (xs : List α) : Nat := (xs.map f).sum
theorem tot_nil {α : Type} (f : α → Nat) : tot f [] = 0 := rfl
theorem tot_snoc {α : Type} (f : α → Nat) (xs : List α) (k : Nat) (x : α) (h : xs[k]? = some x) : tot f (xs.take (k + 1)) = tot f (xs.take k) + f x := by
  rw [List.take_add_one, h]
  simp [tot]
theorem tot_le {α : Type} (f : α → Nat) (xs : List α) (k : Nat) : tot f (xs.take k) ≤ tot f xs := by
  have h : xs = xs.take k ++ xs.drop k := (List.take_append_drop k xs).symm
  have h2 : tot f xs = tot f (xs.take k) + tot f (xs.drop k) := by
    conv => lhs; rw [h]
    simp only [tot, List.map_append, List.sum_append]
  omega
theorem mem_of_get {α : Type} {xs : List α} {k : Nat} {x : α} (h : xs[k]? = some x) : x ∈ xs := List.mem_of_getElem? h
abbrev maxN : Nat := 9223372036854775807
def Piece.n (x : Piece) : Nat := x.name.size
def Signal.n (x : Signal) : Nat := x.name.size
def Joint.n (x : Joint) : Nat := x.name.size + x.ends.length
def lenS {α : Type} (f : α → Nat) (xs : List α) : Nat := xs.length + tot f xs
def Net.n (x : Net) : Nat := lenS Piece.n x.pieces + lenS Joint.n x.joints
def Route.n (x : Route) : Nat := x.steps.length + x.lies.length + x.crosses.length + x.parts.length + x.over.length + x.flanks.length
def Piece.fit (x : Piece) : Prop := x.name.size ≤ maxN
def Signal.fit (x : Signal) : Prop := x.name.size ≤ maxN
def Joint.fit (x : Joint) : Prop := x.name.size ≤ maxN
theorem szEndS (A : Option Addr) (n c : Nat) (left : Int) (w : World) (h0 : 0 ≤ left) (h1 : left ≤ 1048576) (hm : n ≤ 9223372036854775807) :
    Calls Tryz.prog 64 #[.slice A n c, .int .i64 left] w (RetI (cut (left - n)) w) := by
  by_cases h : left - (n : Int) < 0
  · rw [cut_neg h]
    go_enter Tryz.func64, Tryz.ntmps64
    go_wp2
    go_ret
    exact ⟨rfl, Below.refl _ _⟩
  · rw [cut_pos (by omega)]
    go_enter Tryz.func64, Tryz.ntmps64
    go_wp2
    go_ret
    exact ⟨rfl, Below.refl _ _⟩
theorem szStepS (A : Option Addr) (n c : Nat) (left : Int) (w : World) (h0 : 0 ≤ left) (h1 : left ≤ 1048576) (hm : n ≤ 9223372036854775807) :
    Calls Tryz.prog 37 #[.slice A n c, .int .i64 left] w (RetI (cut (left - n)) w) := by
  by_cases h : left - (n : Int) < 0
  · rw [cut_neg h]
    go_enter Tryz.func37, Tryz.ntmps37
    go_wp2
    go_ret
    exact ⟨rfl, Below.refl _ _⟩
  · rw [cut_pos (by omega)]
    go_enter Tryz.func37, Tryz.ntmps37
    go_wp2
    go_ret
    exact ⟨rfl, Below.refl _ _⟩
theorem szLieS (A : Option Addr) (n c : Nat) (left : Int) (w : World) (h0 : 0 ≤ left) (h1 : left ≤ 1048576) (hm : n ≤ 9223372036854775807) :
    Calls Tryz.prog 38 #[.slice A n c, .int .i64 left] w (RetI (cut (left - n)) w) := by
  by_cases h : left - (n : Int) < 0
  · rw [cut_neg h]
    go_enter Tryz.func38, Tryz.ntmps38
    go_wp2
    go_ret
    exact ⟨rfl, Below.refl _ _⟩
  · rw [cut_pos (by omega)]
    go_enter Tryz.func38, Tryz.ntmps38
    go_wp2
    go_ret
    exact ⟨rfl, Below.refl _ _⟩
theorem szIntS (A : Option Addr) (n c : Nat) (left : Int) (w : World) (h0 : 0 ≤ left) (h1 : left ≤ 1048576) (hm : n ≤ 9223372036854775807) :
    Calls Tryz.prog 39 #[.slice A n c, .int .i64 left] w (RetI (cut (left - n)) w) := by
  by_cases h : left - (n : Int) < 0
  · rw [cut_neg h]
    go_enter Tryz.func39, Tryz.ntmps39
    go_wp2
    go_ret
    exact ⟨rfl, Below.refl _ _⟩
  · rw [cut_pos (by omega)]
    go_enter Tryz.func39, Tryz.ntmps39
    go_wp2
    go_ret
    exact ⟨rfl, Below.refl _ _⟩
theorem szPartS (A : Option Addr) (n c : Nat) (left : Int) (w : World) (h0 : 0 ≤ left) (h1 : left ≤ 1048576) (hm : n ≤ 9223372036854775807) :
    Calls Tryz.prog 40 #[.slice A n c, .int .i64 left] w (RetI (cut (left - n)) w) := by
  by_cases h : left - (n : Int) < 0
  · rw [cut_neg h]
    go_enter Tryz.func40, Tryz.ntmps40
    go_wp2
    go_ret
    exact ⟨rfl, Below.refl _ _⟩
  · rw [cut_pos (by omega)]
    go_enter Tryz.func40, Tryz.ntmps40
    go_wp2
    go_ret
    exact ⟨rfl, Below.refl _ _⟩
theorem szFlankS (A : Option Addr) (n c : Nat) (left : Int) (w : World) (h0 : 0 ≤ left) (h1 : left ≤ 1048576) (hm : n ≤ 9223372036854775807) :
    Calls Tryz.prog 41 #[.slice A n c, .int .i64 left] w (RetI (cut (left - n)) w) := by
  by_cases h : left - (n : Int) < 0
  · rw [cut_neg h]
    go_enter Tryz.func41, Tryz.ntmps41
    go_wp2
    go_ret
    exact ⟨rfl, Below.refl _ _⟩
  · rw [cut_pos (by omega)]
    go_enter Tryz.func41, Tryz.ntmps41
    go_wp2
    go_ret
    exact ⟨rfl, Below.refl _ _⟩
theorem szPiece (x : Piece) (left : Int) (w : World) (h0 : 0 ≤ left) (h1 : left ≤ 1048576) (hm : x.name.size ≤ 9223372036854775807) :
    Calls Tryz.prog 35 #[x.v, .int .i64 left] w (RetI (cut (left - x.n)) w) := by
  unfold Piece.n
  by_cases h : left - (x.name.size : Int) < 0
  · rw [cut_neg h]
    go_enter Tryz.func35, Tryz.ntmps35
    go_wp2
    go_ret
    exact ⟨rfl, (Below.refl _ _).alloc (Nat.le_refl _) _⟩
  · rw [cut_pos (by omega)]
    go_enter Tryz.func35, Tryz.ntmps35
    go_wp2
    go_ret
    exact ⟨rfl, (Below.refl _ _).alloc (Nat.le_refl _) _⟩
theorem szSignal (x : Signal) (left : Int) (w : World) (h0 : 0 ≤ left) (h1 : left ≤ 1048576) (hm : x.name.size ≤ 9223372036854775807) :
    Calls Tryz.prog 17 #[x.v, .int .i64 left] w (RetI (cut (left - x.n)) w) := by
  unfold Signal.n
  by_cases h : left - (x.name.size : Int) < 0
  · rw [cut_neg h]
    go_enter Tryz.func17, Tryz.ntmps17
    go_wp2
    go_ret
    exact ⟨rfl, (Below.refl _ _).alloc (Nat.le_refl _) _⟩
  · rw [cut_pos (by omega)]
    go_enter Tryz.func17, Tryz.ntmps17
    go_wp2
    go_ret
    exact ⟨rfl, (Below.refl _ _).alloc (Nat.le_refl _) _⟩
set_option maxRecDepth 100000 in
set_option maxHeartbeats 1000000 in
theorem szJoint (x : Joint) (A : Option Addr) (c : Nat) (hx : Hid x.fit) (hl : x.ends.length ≤ 9223372036854775807) (left : Int) (w : World) (h0 : 0 ≤ left) (h1 : left ≤ 1048576) :
    Calls Tryz.prog 36 #[.agg #[.int .i64 x.kind, .string x.name, .slice A x.ends.length c], .int .i64 left] w (RetI (cut (left - (x.n : Nat))) w) := by
  unfold Joint.n
  have hf : x.name.size ≤ 9223372036854775807 := hx.out
  by_cases h2 : left - (x.name.size : Int) < 0
  · rw [cut_neg (by omega)]
    go_enter Tryz.func36, Tryz.ntmps36
    go_wp2
    go_ret
    exact ⟨by first | rfl | exact ret_int (by simp; omega), ((Below.refl _ _).alloc (Nat.le_refl _) _)⟩
  by_cases h3 : left - (x.name.size : Int) - (x.ends.length : Int) < 0
  · rw [cut_neg (by omega)]
    have e1 : Hid (cut (left - (x.name.size : Int) - (x.ends.length : Int)) = -1) := Lib.hid (cut_neg h3)
    go_enter Tryz.func36, Tryz.ntmps36
    go_wp2_with fail
    refine (szEndS _ _ _ _ _ (by omega) (by omega) (by omega)).mono ?_
    rintro e w1 ⟨rfl, hb1⟩
    obtain ⟨hc1, hf1⟩ := bcell hb1
    rw [e1.out]
    go_wp2
    go_ret
    exact ⟨by first | rfl | exact ret_int (by simp; omega), (((Below.refl _ _).alloc (Nat.le_refl _) _).trans (hb1.mono (by first | exact ((Below.refl _ _).alloc (Nat.le_refl _) _).size | (simp; done) | (have := ((Below.refl _ _).alloc (Nat.le_refl _) _).size; simp at this ⊢; omega))))⟩
  have e1 : Hid (cut (left - (x.name.size : Int) - (x.ends.length : Int)) = left - (x.name.size : Int) - x.ends.length) := Lib.hid (cut_pos (by omega))
  rw [cut_pos (by omega)]
  go_enter Tryz.func36, Tryz.ntmps36
  go_wp2_with fail
  refine (szEndS _ _ _ _ _ (by omega) (by omega) (by omega)).mono ?_
  rintro e w1 ⟨rfl, hb1⟩
  obtain ⟨hc1, hf1⟩ := bcell hb1
  rw [e1.out]
  go_wp2
  go_ret
  exact ⟨by first | rfl | exact ret_int (by simp; omega), (((Below.refl _ _).alloc (Nat.le_refl _) _).trans (hb1.mono (by first | exact ((Below.refl _ _).alloc (Nat.le_refl _) _).size | (simp; done) | (have := ((Below.refl _ _).alloc (Nat.le_refl _) _).size; simp at this ⊢; omega))))⟩
set_option maxRecDepth 100000 in
set_option maxHeartbeats 1000000 in
theorem szPieceS {ok : Nat → Prop} (A : Option Addr) (c : Nat) (xs : List Piece) (left : Int) (w : World) (hx : pieceK.C w ok A xs) (hf : Hid (∀ x ∈ xs, x.fit)) (h0 : 0 ≤ left) (h1 : left ≤ 1048576) :
    Calls Tryz.prog 15 #[.slice A xs.length c, .int .i64 left] w (RetI (cut (left - (lenS Piece.n xs : Nat))) w) := by
  have hm := hx.1
  unfold lenS
  by_cases h : left - (xs.length : Int) < 0
  · rw [cut_neg (by omega)]
    go_enter Tryz.func15, Tryz.ntmps15
    go_wp2
    go_ret
    exact ⟨rfl, Below.refl _ _⟩
  · have hd : decide (left - (xs.length : Int) < 0) = false := by simpa using h
    go_enter Tryz.func15, Tryz.ntmps15
    go_wp2
    go_loopw [1, 5] (fun l i wr => ∃ (k : Nat) (y : Int), k ≤ xs.length ∧ i = .int .i64 k ∧ l = .int .i64 y ∧ 0 ≤ y ∧ y ≤ left ∧ Hid (y = left - (xs.length + tot Piece.n (xs.take k) : Nat)) ∧ Below w.heap.size w wr) (fun _ i _ => xs.length - (intOf i).toNat)
    case atStart => exact ⟨0, left - xs.length, Nat.zero_le _, rfl, rfl, by omega, by omega, Lib.hid (by rw [List.take_zero, tot_nil]; omega), Below.refl _ _⟩
    case round =>
      obtain ⟨k, y, hk, rfl, rfl, hy0, hy1, HY, hb⟩ := hrel
      by_cases hlt : k < xs.length
      · obtain ⟨a0, rfl, y0, y1, y2, y3, E, g0, g1, g2, g3⟩ := pieceK_at (Kn.C_below hb hx) k hlt
        have hsz : y0.size ≤ 9223372036854775807 := hf.out _ (mem_of_get E.out)
        have i0 : (0 : Int) ≤ (k : Int) := Int.natCast_nonneg _
        have i1 : (k : Int) < (xs.length : Int) := by omega
        have hc : Hid (tot Piece.n (xs.take (k + 1)) = tot Piece.n (xs.take k) + (⟨y0, y1, y2, y3⟩ : Piece).n) := Lib.hid (tot_snoc _ _ _ _ E.out)
        by_cases hr : y - ((⟨y0, y1, y2, y3⟩ : Piece).n : Int) < 0
        · have hcut : Hid (cut (y - ((⟨y0, y1, y2, y3⟩ : Piece).n : Int)) = -1) := Lib.hid (cut_neg hr)
          go_wp2_with (go_at_call 35; refine (szPiece ⟨y0, y1, y2, y3⟩ _ _ (by omega) (by omega) hsz).mono ?_; rintro e w1 ⟨rfl, hb1⟩; rw [hcut.out])
          go_ret
          refine ⟨ret_int ?_, hb.trans (hb1.mono hb.size)⟩
          have h3 := HY.out
          have h4 := tot_le Piece.n xs (k + 1)
          rw [hc.out] at h4
          rw [cut_neg (by omega)]
        · have hcut : Hid (cut (y - ((⟨y0, y1, y2, y3⟩ : Piece).n : Int)) = y - ((⟨y0, y1, y2, y3⟩ : Piece).n : Int)) := Lib.hid (cut_pos (by omega))
          go_wp2_with (go_at_call 35; refine (szPiece ⟨y0, y1, y2, y3⟩ _ _ (by omega) (by omega) hsz).mono ?_; rintro e w1 ⟨rfl, hb1⟩; rw [hcut.out])
          go_roundw
          case rel => exact ⟨k + 1, y - (⟨y0, y1, y2, y3⟩ : Piece).n, by omega, by go_num, rfl, by omega, by omega, Lib.hid (by rw [hc.out]; have := HY.out; omega), hb.trans (hb1.mono hb.size)⟩
          case measure => simp [intOf]; omega
      · obtain rfl : k = xs.length := by omega
        go_wp2
        go_ret
        refine ⟨ret_int ?_, hb⟩
        have h3 := HY.out
        rw [List.take_length] at h3
        rw [cut_pos (by omega)]
        omega
set_option maxRecDepth 100000 in
set_option maxHeartbeats 1000000 in
theorem szSignalS {ok : Nat → Prop} (A : Option Addr) (c : Nat) (xs : List Signal) (left : Int) (w : World) (hx : signalK.C w ok A xs) (hf : Hid (∀ x ∈ xs, x.fit)) (h0 : 0 ≤ left) (h1 : left ≤ 1048576) :
    Calls Tryz.prog 5 #[.slice A xs.length c, .int .i64 left] w (RetI (cut (left - (lenS Signal.n xs : Nat))) w) := by
  have hm := hx.1
  unfold lenS
  by_cases h : left - (xs.length : Int) < 0
  · rw [cut_neg (by omega)]
    go_enter Tryz.func5, Tryz.ntmps5
    go_wp2
    go_ret
    exact ⟨rfl, Below.refl _ _⟩
  · have hd : decide (left - (xs.length : Int) < 0) = false := by simpa using h
    go_enter Tryz.func5, Tryz.ntmps5
    go_wp2
    go_loopw [1, 5] (fun l i wr => ∃ (k : Nat) (y : Int), k ≤ xs.length ∧ i = .int .i64 k ∧ l = .int .i64 y ∧ 0 ≤ y ∧ y ≤ left ∧ Hid (y = left - (xs.length + tot Signal.n (xs.take k) : Nat)) ∧ Below w.heap.size w wr) (fun _ i _ => xs.length - (intOf i).toNat)
    case atStart => exact ⟨0, left - xs.length, Nat.zero_le _, rfl, rfl, by omega, by omega, Lib.hid (by rw [List.take_zero, tot_nil]; omega), Below.refl _ _⟩
    case round =>
      obtain ⟨k, y, hk, rfl, rfl, hy0, hy1, HY, hb⟩ := hrel
      by_cases hlt : k < xs.length
      · obtain ⟨a0, rfl, y0, y1, y2, y3, E, g0, g1, g2, g3⟩ := signalK_at (Kn.C_below hb hx) k hlt
        have hsz : y0.size ≤ 9223372036854775807 := hf.out _ (mem_of_get E.out)
        have i0 : (0 : Int) ≤ (k : Int) := Int.natCast_nonneg _
        have i1 : (k : Int) < (xs.length : Int) := by omega
        have hc : Hid (tot Signal.n (xs.take (k + 1)) = tot Signal.n (xs.take k) + (⟨y0, y1, y2, y3⟩ : Signal).n) := Lib.hid (tot_snoc _ _ _ _ E.out)
        by_cases hr : y - ((⟨y0, y1, y2, y3⟩ : Signal).n : Int) < 0
        · have hcut : Hid (cut (y - ((⟨y0, y1, y2, y3⟩ : Signal).n : Int)) = -1) := Lib.hid (cut_neg hr)
          go_wp2_with (go_at_call 17; refine (szSignal ⟨y0, y1, y2, y3⟩ _ _ (by omega) (by omega) hsz).mono ?_; rintro e w1 ⟨rfl, hb1⟩; rw [hcut.out])
          go_ret
          refine ⟨ret_int ?_, hb.trans (hb1.mono hb.size)⟩
          have h3 := HY.out
          have h4 := tot_le Signal.n xs (k + 1)
          rw [hc.out] at h4
          rw [cut_neg (by omega)]
        · have hcut : Hid (cut (y - ((⟨y0, y1, y2, y3⟩ : Signal).n : Int)) = y - ((⟨y0, y1, y2, y3⟩ : Signal).n : Int)) := Lib.hid (cut_pos (by omega))
          go_wp2_with (go_at_call 17; refine (szSignal ⟨y0, y1, y2, y3⟩ _ _ (by omega) (by omega) hsz).mono ?_; rintro e w1 ⟨rfl, hb1⟩; rw [hcut.out])
          go_roundw
          case rel => exact ⟨k + 1, y - (⟨y0, y1, y2, y3⟩ : Signal).n, by omega, by go_num, rfl, by omega, by omega, Lib.hid (by rw [hc.out]; have := HY.out; omega), hb.trans (hb1.mono hb.size)⟩
          case measure => simp [intOf]; omega
      · obtain rfl : k = xs.length := by omega
        go_wp2
        go_ret
        refine ⟨ret_int ?_, hb⟩
        have h3 := HY.out
        rw [List.take_length] at h3
        rw [cut_pos (by omega)]
        omega
set_option maxRecDepth 100000 in
set_option maxHeartbeats 1000000 in
theorem szJointS {ok : Nat → Prop} (A : Option Addr) (c : Nat) (xs : List Joint) (left : Int) (w : World) (hx : (jointK 183).C w ok A xs) (hf : Hid (∀ x ∈ xs, x.fit)) (h0 : 0 ≤ left) (h1 : left ≤ 1048576) :
    Calls Tryz.prog 16 #[.slice A xs.length c, .int .i64 left] w (RetI (cut (left - (lenS Joint.n xs : Nat))) w) := by
  have hm := hx.1
  unfold lenS
  by_cases h : left - (xs.length : Int) < 0
  · rw [cut_neg (by omega)]
    go_enter Tryz.func16, Tryz.ntmps16
    go_wp2
    go_ret
    exact ⟨rfl, Below.refl _ _⟩
  · have hd : decide (left - (xs.length : Int) < 0) = false := by simpa using h
    go_enter Tryz.func16, Tryz.ntmps16
    go_wp2
    go_loopw [1, 5] (fun l i wr => ∃ (k : Nat) (y : Int), k ≤ xs.length ∧ i = .int .i64 k ∧ l = .int .i64 y ∧ 0 ≤ y ∧ y ≤ left ∧ Hid (y = left - (xs.length + tot Joint.n (xs.take k) : Nat)) ∧ Below w.heap.size w wr) (fun _ i _ => xs.length - (intOf i).toNat)
    case atStart => exact ⟨0, left - xs.length, Nat.zero_le _, rfl, rfl, by omega, by omega, Lib.hid (by rw [List.take_zero, tot_nil]; omega), Below.refl _ _⟩
    case round =>
      obtain ⟨k, y, hk, rfl, rfl, hy0, hy1, HY, hb⟩ := hrel
      by_cases hlt : k < xs.length
      · obtain ⟨a0, rfl, x, E, A0, c0, g0, g1, g2, l0, q0⟩ := jointK_at (Kn.C_below hb hx) k hlt
        have hsz : Hid x.fit := Lib.hid (hf.out _ (mem_of_get E.out))
        have q1 := q0.1
        have i0 : (0 : Int) ≤ (k : Int) := Int.natCast_nonneg _
        have i1 : (k : Int) < (xs.length : Int) := by omega
        have hc : Hid (tot Joint.n (xs.take (k + 1)) = tot Joint.n (xs.take k) + x.n) := Lib.hid (tot_snoc _ _ _ _ E.out)
        by_cases hr : y - (x.n : Int) < 0
        · have hcut : Hid (cut (y - (x.n : Int)) = -1) := Lib.hid (cut_neg hr)
          go_wp2_with (go_at_call 36; refine (szJoint x A0 c0 hsz (by omega) _ _ (by omega) (by omega)).mono ?_; rintro e w1 ⟨rfl, hb1⟩; rw [hcut.out])
          go_ret
          refine ⟨ret_int ?_, hb.trans (hb1.mono hb.size)⟩
          have h3 := HY.out
          have h4 := tot_le Joint.n xs (k + 1)
          rw [hc.out] at h4
          rw [cut_neg (by omega)]
        · have hcut : Hid (cut (y - (x.n : Int)) = y - (x.n : Int)) := Lib.hid (cut_pos (by omega))
          go_wp2_with (go_at_call 36; refine (szJoint x A0 c0 hsz (by omega) _ _ (by omega) (by omega)).mono ?_; rintro e w1 ⟨rfl, hb1⟩; rw [hcut.out])
          go_roundw
          case rel => exact ⟨k + 1, y - x.n, by omega, by go_num, rfl, by omega, by omega, Lib.hid (by rw [hc.out]; have := HY.out; omega), hb.trans (hb1.mono hb.size)⟩
          case measure => simp [intOf]; omega
      · obtain rfl : k = xs.length := by omega
        go_wp2
        go_ret
        refine ⟨ret_int ?_, hb⟩
        have h3 := HY.out
        rw [List.take_length] at h3
        rw [cut_pos (by omega)]
        omega
def Net.fit (x : Net) : Prop := (∀ p ∈ x.pieces, p.fit) ∧ ∀ j ∈ x.joints, j.fit
set_option maxRecDepth 100000 in
set_option maxHeartbeats 1000000 in
theorem szNet {ok : Nat → Prop} (w : World) (x : Net) (A0 A1 : Option Addr) (c0 c1 : Nat) (hx : Hid x.fit) (q0 : pieceK.C w ok A0 x.pieces) (q1 : (jointK 183).C w ok A1 x.joints) (left : Int) (h0 : 0 ≤ left) (h1 : left ≤ 1048576) :
    Calls Tryz.prog 4 #[.agg #[.slice A0 x.pieces.length c0, .slice A1 x.joints.length c1], .int .i64 left] w (RetI (cut (left - (x.n : Nat))) w) := by
  unfold Net.n
  by_cases h2 : left - (lenS Piece.n x.pieces : Int) < 0
  · rw [cut_neg (by omega)]
    have e0 : Hid (cut (left - (lenS Piece.n x.pieces : Int)) = -1) := Lib.hid (cut_neg h2)
    go_enter Tryz.func4, Tryz.ntmps4
    go_wp2_with fail
    refine (szPieceS _ _ _ _ _ (Kn.C_below (below_alloc _ _) q0) (Lib.hid hx.out.1) (by omega) (by omega)).mono ?_
    rintro e w0 ⟨rfl, hb0⟩
    obtain ⟨hc0, hf0⟩ := bcell hb0
    rw [e0.out]
    go_wp2
    go_ret
    exact ⟨by first | rfl | exact ret_int (by simp; omega), (((Below.refl _ _).alloc (Nat.le_refl _) _).trans (hb0.mono (by first | exact ((Below.refl _ _).alloc (Nat.le_refl _) _).size | (simp; done) | (have := ((Below.refl _ _).alloc (Nat.le_refl _) _).size; simp at this ⊢; omega))))⟩
  have e0 : Hid (cut (left - (lenS Piece.n x.pieces : Int)) = left - lenS Piece.n x.pieces) := Lib.hid (cut_pos (by omega))
  by_cases h3 : left - (lenS Piece.n x.pieces : Int) - (lenS Joint.n x.joints : Int) < 0
  · rw [cut_neg (by omega)]
    have e1 : Hid (cut (left - (lenS Piece.n x.pieces : Int) - (lenS Joint.n x.joints : Int)) = -1) := Lib.hid (cut_neg h3)
    go_enter Tryz.func4, Tryz.ntmps4
    go_wp2_with fail
    refine (szPieceS _ _ _ _ _ (Kn.C_below (below_alloc _ _) q0) (Lib.hid hx.out.1) (by omega) (by omega)).mono ?_
    rintro e w0 ⟨rfl, hb0⟩
    obtain ⟨hc0, hf0⟩ := bcell hb0
    rw [e0.out]
    go_wp2_with fail
    refine (szJointS _ _ _ _ _ (Kn.C_below (((Below.refl _ _).alloc (Nat.le_refl _) _).trans (hb0.mono (by simp))) q1) (Lib.hid hx.out.2) (by omega) (by omega)).mono ?_
    rintro e w1 ⟨rfl, hb1⟩
    obtain ⟨hc1, hf1⟩ := bcell hb1
    rw [e1.out]
    go_wp2
    go_ret
    exact ⟨by first | rfl | exact ret_int (by simp; omega), ((((Below.refl _ _).alloc (Nat.le_refl _) _).trans (hb0.mono (by first | exact ((Below.refl _ _).alloc (Nat.le_refl _) _).size | (simp; done) | (have := ((Below.refl _ _).alloc (Nat.le_refl _) _).size; simp at this ⊢; omega)))).trans (hb1.mono (by first | exact (((Below.refl _ _).alloc (Nat.le_refl _) _).trans (hb0.mono (by first | exact ((Below.refl _ _).alloc (Nat.le_refl _) _).size | (simp; done) | (have := ((Below.refl _ _).alloc (Nat.le_refl _) _).size; simp at this ⊢; omega)))).size | (simp; done) | (have := (((Below.refl _ _).alloc (Nat.le_refl _) _).trans (hb0.mono (by first | exact ((Below.refl _ _).alloc (Nat.le_refl _) _).size | (simp; done) | (have := ((Below.refl _ _).alloc (Nat.le_refl _) _).size; simp at this ⊢; omega)))).size; simp at this ⊢; omega))))⟩
  have e1 : Hid (cut (left - (lenS Piece.n x.pieces : Int) - (lenS Joint.n x.joints : Int)) = left - (lenS Piece.n x.pieces : Int) - lenS Joint.n x.joints) := Lib.hid (cut_pos (by omega))
  rw [cut_pos (by omega)]
  go_enter Tryz.func4, Tryz.ntmps4
  go_wp2_with fail
  refine (szPieceS _ _ _ _ _ (Kn.C_below (below_alloc _ _) q0) (Lib.hid hx.out.1) (by omega) (by omega)).mono ?_
  rintro e w0 ⟨rfl, hb0⟩
  obtain ⟨hc0, hf0⟩ := bcell hb0
  rw [e0.out]
  go_wp2_with fail
  refine (szJointS _ _ _ _ _ (Kn.C_below (((Below.refl _ _).alloc (Nat.le_refl _) _).trans (hb0.mono (by simp))) q1) (Lib.hid hx.out.2) (by omega) (by omega)).mono ?_
  rintro e w1 ⟨rfl, hb1⟩
  obtain ⟨hc1, hf1⟩ := bcell hb1
  rw [e1.out]
  go_wp2
  go_ret
  exact ⟨by first | rfl | exact ret_int (by simp; omega), ((((Below.refl _ _).alloc (Nat.le_refl _) _).trans (hb0.mono (by first | exact ((Below.refl _ _).alloc (Nat.le_refl _) _).size | (simp; done) | (have := ((Below.refl _ _).alloc (Nat.le_refl _) _).size; simp at this ⊢; omega)))).trans (hb1.mono (by first | exact (((Below.refl _ _).alloc (Nat.le_refl _) _).trans (hb0.mono (by first | exact ((Below.refl _ _).alloc (Nat.le_refl _) _).size | (simp; done) | (have := ((Below.refl _ _).alloc (Nat.le_refl _) _).size; simp at this ⊢; omega)))).size | (simp; done) | (have := (((Below.refl _ _).alloc (Nat.le_refl _) _).trans (hb0.mono (by first | exact ((Below.refl _ _).alloc (Nat.le_refl _) _).size | (simp; done) | (have := ((Below.refl _ _).alloc (Nat.le_refl _) _).size; simp at this ⊢; omega)))).size; simp at this ⊢; omega))))⟩
end Go.Proofs.YtpggopdojhodaaaGreatDoor.L
namespace Go.Proofs.YtpggopdojhodaaaGreatDoor.L
open Go.ChangeShapes Go.WideShapes Go.ChangeAt Go.RowKit
theorem opens_i : Opens Tryz.prog 3 Kn.int (fun n => (Lit.int .i64 n).wf = true) := opens_int Tryz.underlying3 (by kernel_rfl)
theorem opens_s : Opens Tryz.prog 9 Kn.str (fun s => s.size ≤ 9223372036854775807) := opens_str Tryz.underlying9 (by kernel_rfl)
set_option maxRecDepth 100000 in
theorem opens_piece : Opens Tryz.prog 98 pieceK Piece.fit := by
  unfold pieceK
  exact opens_struct _ (fun p => (⟨p.1, p.2.1, p.2.2.1, p.2.2.2⟩ : Piece)) (fun _ => rfl) (fun _ h => h.1) Tryz.underlying98 (by kernel_rfl)
    (opens_pair 0 rfl rfl opens_s (opens_pair 1 rfl rfl opens_i (opens_pair 2 rfl rfl opens_i (opens_last 3 rfl rfl opens_i))))
set_option maxRecDepth 100000 in
theorem opens_end : Opens Tryz.prog 183 endK (fun _ => True) := by
  unfold endK
  exact opens_struct _ (fun p => (⟨p.1, p.2⟩ : End)) (fun _ => rfl) (fun _ _ => trivial) Tryz.underlying183 (by kernel_rfl)
    (opens_pair 0 rfl rfl opens_i (opens_last 1 rfl rfl opens_i))
set_option maxRecDepth 100000 in
theorem opens_joint : Opens Tryz.prog 102 (jointK 183) Joint.fit := by
  unfold jointK
  exact opens_struct _ (fun p => (⟨p.1, p.2.1, p.2.2⟩ : Joint)) (fun _ => rfl) (fun _ h => h.2.1) Tryz.underlying102 (by kernel_rfl)
    (opens_pair 0 rfl rfl opens_i (opens_pair 1 rfl rfl opens_s (opens_last 2 rfl rfl (opens_slice Tryz.underlying100 (by kernel_rfl) opens_end (by decide)))))
set_option maxRecDepth 100000 in
theorem opens_net : Opens Tryz.prog 25 (netK 98 102 183) Net.fit := by
  unfold netK
  exact opens_struct _ (fun p => (⟨p.1, p.2⟩ : Net)) (fun _ => rfl) (fun _ h => ⟨h.1, h.2⟩) Tryz.underlying25 (by kernel_rfl)
    (opens_pair 0 rfl rfl (opens_slice Tryz.underlying22 (by kernel_rfl) opens_piece (by decide)) (opens_last 1 rfl rfl (opens_slice Tryz.underlying23 (by kernel_rfl) opens_joint (by decide))))
set_option maxRecDepth 100000 in
theorem opens_signal : Opens Tryz.prog 49 signalK Signal.fit := by
  unfold signalK
  exact opens_struct _ (fun p => (⟨p.1, p.2.1, p.2.2.1, p.2.2.2⟩ : Signal)) (fun _ => rfl) (fun _ h => h.1) Tryz.underlying49 (by kernel_rfl)
    (opens_pair 0 rfl rfl opens_s (opens_pair 1 rfl rfl opens_i (opens_pair 2 rfl rfl opens_i (opens_last 3 rfl rfl opens_i))))
set_option maxRecDepth 100000 in
theorem opens_step : Opens Tryz.prog 142 stepK (fun _ => True) := by
  unfold stepK
  exact opens_struct _ (fun p => (⟨p.1, p.2⟩ : Step)) (fun _ => rfl) (fun _ _ => trivial) Tryz.underlying142 (by kernel_rfl)
    (opens_pair 0 rfl rfl opens_i (opens_last 1 rfl rfl opens_i))
set_option maxRecDepth 100000 in
theorem opens_lie : Opens Tryz.prog 144 lieK (fun _ => True) := by
  unfold lieK
  exact opens_struct _ (fun p => (⟨p.1, p.2⟩ : Lie)) (fun _ => rfl) (fun _ _ => trivial) Tryz.underlying144 (by kernel_rfl)
    (opens_pair 0 rfl rfl opens_i (opens_last 1 rfl rfl opens_i))
set_option maxRecDepth 100000 in
theorem opens_part : Opens Tryz.prog 148 partK (fun _ => True) := by
  unfold partK
  exact opens_struct _ (fun p => (⟨p.1, p.2.1, p.2.2⟩ : Part)) (fun _ => rfl) (fun _ _ => trivial) Tryz.underlying148 (by kernel_rfl)
    (opens_pair 0 rfl rfl opens_i (opens_pair 1 rfl rfl opens_i (opens_last 2 rfl rfl opens_i)))
set_option maxRecDepth 100000 in
theorem opens_flank : Opens Tryz.prog 150 flankK (fun _ => True) := by
  unfold flankK
  exact opens_struct _ (fun p => (⟨p.1, p.2.1, p.2.2.1, p.2.2.2⟩ : Flank)) (fun _ => rfl) (fun _ _ => trivial) Tryz.underlying150 (by kernel_rfl)
    (opens_pair 0 rfl rfl opens_i (opens_pair 1 rfl rfl opens_i (opens_pair 2 rfl rfl opens_i (opens_last 3 rfl rfl opens_i))))
abbrev rLaw : Kn Route := routeK 142 144 3 148 150
set_option maxRecDepth 100000 in
theorem opens_route : Opens Tryz.prog 57 rLaw (fun _ => True) := by
  unfold rLaw routeK
  exact opens_struct _ (fun p => (⟨p.1, p.2.1, p.2.2.1, p.2.2.2.1, p.2.2.2.2.1, p.2.2.2.2.2.1, p.2.2.2.2.2.2.1, p.2.2.2.2.2.2.2⟩ : Route)) (fun _ => rfl) (fun _ _ => trivial) Tryz.underlying57 (by kernel_rfl)
    (opens_pair 0 rfl rfl opens_i (opens_pair 1 rfl rfl opens_i (opens_pair 2 rfl rfl (opens_slice Tryz.underlying51 (by kernel_rfl) opens_step (by decide)) (opens_pair 3 rfl rfl (opens_slice Tryz.underlying52 (by kernel_rfl) opens_lie (by decide)) (opens_pair 4 rfl rfl (opens_slice Tryz.underlying53 (by kernel_rfl) opens_i (by decide)) (opens_pair 5 rfl rfl (opens_slice Tryz.underlying54 (by kernel_rfl) opens_part (by decide)) (opens_pair 6 rfl rfl (opens_slice Tryz.underlying54 (by kernel_rfl) opens_part (by decide)) (opens_last 7 rfl rfl (opens_slice Tryz.underlying55 (by kernel_rfl) opens_flank (by decide))))))))))
theorem own : ownKnob Tryz.prog.godebug = none := by kernel_rfl
theorem laidOut : laidOutB Tryz.prog = true := by kernel_rfl
end Go.Proofs.YtpggopdojhodaaaGreatDoor.L
namespace Go.Proofs.YtpggopdojhodaaaGreatDoor.L
open Go.RowKit
set_option linter.unusedVariables false
set_option linter.unusedSimpArgs false
theorem str_ne {a b : ByteArray} (h : ¬ a = b) : (a.toList == b.toList) = false := by
  rw [Go.ByteArray.toList_eq, Go.ByteArray.toList_eq]
  refine beq_eq_false_iff_ne.2 (fun e => h ?_)
  exact WideShapes.bytes_inj e
theorem int_ne {a b : Int} (h : ¬ a = b) : (a != b) = true := by simpa using h
theorem len_ne {a b : Nat} (h : ¬ a = b) : ((a : Int) != (b : Int)) = true := by
  rw [bne_iff_ne]
  omega
theorem len_eq {a b : Nat} (h : a = b) : ((a : Int) != (b : Int)) = false := by
  rw [h]
  simp
def RetB (r : Bool) (w : World) (e : Ending) (w' : World) : Prop := e = .returned (.bool r) ∧ Below w.heap.size w w'
theorem take_eq_snoc {α : Type} {xs ys : List α} {k : Nat} {x : α} (h : xs.take k = ys.take k) (h1 : xs[k]? = some x) (h2 : ys[k]? = some x) : xs.take (k + 1) = ys.take (k + 1) := by
  rw [List.take_add_one, List.take_add_one, h, h1, h2]
theorem take_ne {α : Type} {xs ys : List α} {k : Nat} {x y : α} (h1 : xs[k]? = some x) (h2 : ys[k]? = some y) (h : ¬ x = y) : ¬ xs = ys := by
  rintro rfl
  rw [h1] at h2
  exact h (Option.some.inj h2)
set_option maxHeartbeats 1000000 in
theorem eqPiece (x y : Piece) (w : World) : Calls Tryz.prog 57 #[x.v, y.v] w (RetB (eqv x y) w) := by
  obtain ⟨a0, a1, a2, a3⟩ := x
  obtain ⟨b0, b1, b2, b3⟩ := y
  by_cases h0 : a0 = b0
  rotate_left
  · rw [eqv_false (by intro h; injection h; exact h0 ‹_›)]
    have g0 := str_ne h0
    clear h0
    go_enter Tryz.func57, Tryz.ntmps57
    go_wp2
    go_ret
    exact ⟨rfl, (below_alloc _ _).alloc (by simp) _⟩
  subst h0
  by_cases h1 : a1 = b1
  rotate_left
  · rw [eqv_false (by intro h; injection h; exact h1 ‹_›)]
    have g1 := int_ne h1
    clear h1
    go_enter Tryz.func57, Tryz.ntmps57
    go_wp2
    go_ret
    exact ⟨rfl, (below_alloc _ _).alloc (by simp) _⟩
  subst h1
  by_cases h2 : a2 = b2
  rotate_left
  · rw [eqv_false (by intro h; injection h; exact h2 ‹_›)]
    have g2 := int_ne h2
    clear h2
    go_enter Tryz.func57, Tryz.ntmps57
    go_wp2
    go_ret
    exact ⟨rfl, (below_alloc _ _).alloc (by simp) _⟩
  subst h2
  by_cases h3 : a3 = b3
  rotate_left
  · rw [eqv_false (by intro h; injection h; exact h3 ‹_›)]
    have g3 := int_ne h3
    clear h3
    go_enter Tryz.func57, Tryz.ntmps57
    go_wp2
    go_ret
    exact ⟨rfl, (below_alloc _ _).alloc (by simp) _⟩
  subst h3
  rw [eqv_self]
  go_enter Tryz.func57, Tryz.ntmps57
  go_wp2
  go_ret
  exact ⟨rfl, (below_alloc _ _).alloc (by simp) _⟩
set_option maxHeartbeats 1000000 in
theorem eqEnd (x y : End) (w : World) : Calls Tryz.prog 124 #[x.v, y.v] w (RetB (eqv x y) w) := by
  obtain ⟨a0, a1⟩ := x
  obtain ⟨b0, b1⟩ := y
  by_cases h0 : a0 = b0
  rotate_left
  · rw [eqv_false (by intro h; injection h; exact h0 ‹_›)]
    have g0 := int_ne h0
    clear h0
    go_enter Tryz.func124, Tryz.ntmps124
    go_wp2
    go_ret
    exact ⟨rfl, (below_alloc _ _).alloc (by simp) _⟩
  subst h0
  by_cases h1 : a1 = b1
  rotate_left
  · rw [eqv_false (by intro h; injection h; exact h1 ‹_›)]
    have g1 := int_ne h1
    clear h1
    go_enter Tryz.func124, Tryz.ntmps124
    go_wp2
    go_ret
    exact ⟨rfl, (below_alloc _ _).alloc (by simp) _⟩
  subst h1
  rw [eqv_self]
  go_enter Tryz.func124, Tryz.ntmps124
  go_wp2
  go_ret
  exact ⟨rfl, (below_alloc _ _).alloc (by simp) _⟩
set_option maxHeartbeats 1000000 in
theorem eqSignal (x y : Signal) (w : World) : Calls Tryz.prog 33 #[x.v, y.v] w (RetB (eqv x y) w) := by
  obtain ⟨a0, a1, a2, a3⟩ := x
  obtain ⟨b0, b1, b2, b3⟩ := y
  by_cases h0 : a0 = b0
  rotate_left
  · rw [eqv_false (by intro h; injection h; exact h0 ‹_›)]
    have g0 := str_ne h0
    clear h0
    go_enter Tryz.func33, Tryz.ntmps33
    go_wp2
    go_ret
    exact ⟨rfl, (below_alloc _ _).alloc (by simp) _⟩
  subst h0
  by_cases h1 : a1 = b1
  rotate_left
  · rw [eqv_false (by intro h; injection h; exact h1 ‹_›)]
    have g1 := int_ne h1
    clear h1
    go_enter Tryz.func33, Tryz.ntmps33
    go_wp2
    go_ret
    exact ⟨rfl, (below_alloc _ _).alloc (by simp) _⟩
  subst h1
  by_cases h2 : a2 = b2
  rotate_left
  · rw [eqv_false (by intro h; injection h; exact h2 ‹_›)]
    have g2 := int_ne h2
    clear h2
    go_enter Tryz.func33, Tryz.ntmps33
    go_wp2
    go_ret
    exact ⟨rfl, (below_alloc _ _).alloc (by simp) _⟩
  subst h2
  by_cases h3 : a3 = b3
  rotate_left
  · rw [eqv_false (by intro h; injection h; exact h3 ‹_›)]
    have g3 := int_ne h3
    clear h3
    go_enter Tryz.func33, Tryz.ntmps33
    go_wp2
    go_ret
    exact ⟨rfl, (below_alloc _ _).alloc (by simp) _⟩
  subst h3
  rw [eqv_self]
  go_enter Tryz.func33, Tryz.ntmps33
  go_wp2
  go_ret
  exact ⟨rfl, (below_alloc _ _).alloc (by simp) _⟩
set_option maxRecDepth 100000 in
set_option maxHeartbeats 2000000 in
theorem eqPieceS {ok ok' : Nat → Prop} (A0 A1 : Option Addr) (c0 c1 : Nat) (xs ys : List Piece) (w : World) (hx : pieceK.C w ok A0 xs) (hy : pieceK.C w ok' A1 ys) :
    Calls Tryz.prog 31 #[.slice A0 xs.length c0, .slice A1 ys.length c1] w (RetB (eqv xs ys) w) := by
  have hmx := hx.1
  have hmy := hy.1
  by_cases hl : xs.length = ys.length
  rotate_left
  · rw [eqv_false (fun h => hl (congrArg List.length h))]
    have hlb := len_ne hl
    clear hl
    go_enter Tryz.func31, Tryz.ntmps31
    go_wp2
    go_ret
    exact ⟨rfl, Below.refl _ _⟩
  have hlb := len_eq hl
  have HL := Lib.hid hl
  clear hl
  go_enter Tryz.func31, Tryz.ntmps31
  go_wp2
  go_loopw [5] (fun i wr => ∃ k : Nat, k ≤ xs.length ∧ i = .int .i64 k ∧ Hid (xs.take k = ys.take k) ∧ Below w.heap.size w wr) (fun i _ => xs.length - (intOf i).toNat)
  case atStart => exact ⟨0, Nat.zero_le _, rfl, Lib.hid rfl, Below.refl _ _⟩
  case round =>
    obtain ⟨k, hk, rfl, HT, hb⟩ := hrel
    by_cases hlt : k < xs.length
    · have i0 : (0 : Int) ≤ (k : Int) := Int.natCast_nonneg _
      have i1 : (k : Int) < (xs.length : Int) := by omega
      have i2 : (k : Int) < (ys.length : Int) := by have := HL.out; omega
      obtain ⟨a0, rfl, p0, p1, p2, p3, E0, gp0, gp1, gp2, gp3⟩ := pieceK_at (Kn.C_below hb hx) k hlt
      obtain ⟨a1, rfl, q0, q1, q2, q3, E1, gq0, gq1, gq2, gq3⟩ := pieceK_at (Kn.C_below hb hy) k (HL.out ▸ hlt)
      by_cases he : (⟨p0, p1, p2, p3⟩ : Piece) = (⟨q0, q1, q2, q3⟩ : Piece)
      · have HE : Hid (eqv (⟨p0, p1, p2, p3⟩ : Piece) (⟨q0, q1, q2, q3⟩ : Piece) = true) := Lib.hid (eqv_true he)
        have HN : Hid (xs.take (k + 1) = ys.take (k + 1)) := Lib.hid (take_eq_snoc HT.out (by rw [← he]; exact E0.out) E1.out)
        clear he
        go_wp2
        go_region_held3 (fun w' => w'.cell? (a0.add (k * 4)) = some (.string p0) ∧ w'.cell? ⟨(a0.add (k * 4)).block, (a0.add (k * 4)).off + 1, none⟩ = some (.int .i64 p1) ∧ w'.cell? ⟨(a0.add (k * 4)).block, (a0.add (k * 4)).off + 2, none⟩ = some (.int .i64 p2) ∧ w'.cell? ⟨(a0.add (k * 4)).block, (a0.add (k * 4)).off + 3, none⟩ = some (.int .i64 p3) ∧ w'.cell? (a1.add (k * 4)) = some (.string q0) ∧ w'.cell? ⟨(a1.add (k * 4)).block, (a1.add (k * 4)).off + 1, none⟩ = some (.int .i64 q1) ∧ w'.cell? ⟨(a1.add (k * 4)).block, (a1.add (k * 4)).off + 2, none⟩ = some (.int .i64 q2) ∧ w'.cell? ⟨(a1.add (k * 4)).block, (a1.add (k * 4)).off + 3, none⟩ = some (.int .i64 q3)) (first | exact ⟨cell_below hb1 gp0, cell_below hb1 gp1, cell_below hb1 gp2, cell_below hb1 gp3, cell_below hb1 gq0, cell_below hb1 gq1, cell_below hb1 gq2, cell_below hb1 gq3⟩ | go_keep)
          (first | (go_at_call 57; refine (eqPiece (⟨p0, p1, p2, p3⟩ : Piece) (⟨q0, q1, q2, q3⟩ : Piece) _).mono ?_; rintro e w1 ⟨rfl, hb1⟩; rw [HE.out]))
        go_wp2
        go_roundw
        case rel => exact ⟨k + 1, by omega, by go_num, HN, hb.drew.trans (hb1.mono hb.size)⟩
        case measure => simp [intOf]; omega
      · have HE : Hid (eqv (⟨p0, p1, p2, p3⟩ : Piece) (⟨q0, q1, q2, q3⟩ : Piece) = false) := Lib.hid (eqv_false he)
        have HN : Hid (eqv xs ys = false) := Lib.hid (eqv_false (take_ne E0.out E1.out he))
        clear he
        go_wp2
        go_region_held3 (fun w' => w'.cell? (a0.add (k * 4)) = some (.string p0) ∧ w'.cell? ⟨(a0.add (k * 4)).block, (a0.add (k * 4)).off + 1, none⟩ = some (.int .i64 p1) ∧ w'.cell? ⟨(a0.add (k * 4)).block, (a0.add (k * 4)).off + 2, none⟩ = some (.int .i64 p2) ∧ w'.cell? ⟨(a0.add (k * 4)).block, (a0.add (k * 4)).off + 3, none⟩ = some (.int .i64 p3) ∧ w'.cell? (a1.add (k * 4)) = some (.string q0) ∧ w'.cell? ⟨(a1.add (k * 4)).block, (a1.add (k * 4)).off + 1, none⟩ = some (.int .i64 q1) ∧ w'.cell? ⟨(a1.add (k * 4)).block, (a1.add (k * 4)).off + 2, none⟩ = some (.int .i64 q2) ∧ w'.cell? ⟨(a1.add (k * 4)).block, (a1.add (k * 4)).off + 3, none⟩ = some (.int .i64 q3)) (first | exact ⟨cell_below hb1 gp0, cell_below hb1 gp1, cell_below hb1 gp2, cell_below hb1 gp3, cell_below hb1 gq0, cell_below hb1 gq1, cell_below hb1 gq2, cell_below hb1 gq3⟩ | go_keep)
          (first | (go_at_call 57; refine (eqPiece (⟨p0, p1, p2, p3⟩ : Piece) (⟨q0, q1, q2, q3⟩ : Piece) _).mono ?_; rintro e w1 ⟨rfl, hb1⟩; rw [HE.out]))
        go_wp2
        go_ret
        exact ⟨by rw [HN.out]; rfl, hb.drew.trans (hb1.mono hb.size)⟩
    · obtain rfl : k = xs.length := by omega
      have HN : Hid (eqv xs ys = true) := Lib.hid (eqv_true (by have := HT.out; rw [List.take_length, HL.out, List.take_length] at this; exact this))
      go_wp2
      go_ret
      exact ⟨by rw [HN.out]; rfl, hb⟩
set_option maxRecDepth 100000 in
set_option maxHeartbeats 2000000 in
theorem eqEndS {ok ok' : Nat → Prop} (A0 A1 : Option Addr) (c0 c1 : Nat) (xs ys : List End) (w : World) (hx : endK.C w ok A0 xs) (hy : endK.C w ok' A1 ys) :
    Calls Tryz.prog 86 #[.slice A0 xs.length c0, .slice A1 ys.length c1] w (RetB (eqv xs ys) w) := by
  have hmx := hx.1
  have hmy := hy.1
  by_cases hl : xs.length = ys.length
  rotate_left
  · rw [eqv_false (fun h => hl (congrArg List.length h))]
    have hlb := len_ne hl
    clear hl
    go_enter Tryz.func86, Tryz.ntmps86
    go_wp2
    go_ret
    exact ⟨rfl, Below.refl _ _⟩
  have hlb := len_eq hl
  have HL := Lib.hid hl
  clear hl
  go_enter Tryz.func86, Tryz.ntmps86
  go_wp2
  go_loopw [5] (fun i wr => ∃ k : Nat, k ≤ xs.length ∧ i = .int .i64 k ∧ Hid (xs.take k = ys.take k) ∧ Below w.heap.size w wr) (fun i _ => xs.length - (intOf i).toNat)
  case atStart => exact ⟨0, Nat.zero_le _, rfl, Lib.hid rfl, Below.refl _ _⟩
  case round =>
    obtain ⟨k, hk, rfl, HT, hb⟩ := hrel
    by_cases hlt : k < xs.length
    · have i0 : (0 : Int) ≤ (k : Int) := Int.natCast_nonneg _
      have i1 : (k : Int) < (xs.length : Int) := by omega
      have i2 : (k : Int) < (ys.length : Int) := by have := HL.out; omega
      obtain ⟨a0, rfl, p0, p1, E0, gp0, gp1⟩ := endK_at (Kn.C_below hb hx) k hlt
      obtain ⟨a1, rfl, q0, q1, E1, gq0, gq1⟩ := endK_at (Kn.C_below hb hy) k (HL.out ▸ hlt)
      by_cases he : (⟨p0, p1⟩ : End) = (⟨q0, q1⟩ : End)
      · have HE : Hid (eqv (⟨p0, p1⟩ : End) (⟨q0, q1⟩ : End) = true) := Lib.hid (eqv_true he)
        have HN : Hid (xs.take (k + 1) = ys.take (k + 1)) := Lib.hid (take_eq_snoc HT.out (by rw [← he]; exact E0.out) E1.out)
        clear he
        go_wp2
        go_region_held3 (fun w' => w'.cell? (a0.add (k * 2)) = some (.int .i64 p0) ∧ w'.cell? ⟨(a0.add (k * 2)).block, (a0.add (k * 2)).off + 1, none⟩ = some (.int .i64 p1) ∧ w'.cell? (a1.add (k * 2)) = some (.int .i64 q0) ∧ w'.cell? ⟨(a1.add (k * 2)).block, (a1.add (k * 2)).off + 1, none⟩ = some (.int .i64 q1)) (first | exact ⟨cell_below hb1 gp0, cell_below hb1 gp1, cell_below hb1 gq0, cell_below hb1 gq1⟩ | go_keep)
          (first | (go_at_call 124; refine (eqEnd (⟨p0, p1⟩ : End) (⟨q0, q1⟩ : End) _).mono ?_; rintro e w1 ⟨rfl, hb1⟩; rw [HE.out]))
        go_wp2
        go_roundw
        case rel => exact ⟨k + 1, by omega, by go_num, HN, hb.drew.trans (hb1.mono hb.size)⟩
        case measure => simp [intOf]; omega
      · have HE : Hid (eqv (⟨p0, p1⟩ : End) (⟨q0, q1⟩ : End) = false) := Lib.hid (eqv_false he)
        have HN : Hid (eqv xs ys = false) := Lib.hid (eqv_false (take_ne E0.out E1.out he))
        clear he
        go_wp2
        go_region_held3 (fun w' => w'.cell? (a0.add (k * 2)) = some (.int .i64 p0) ∧ w'.cell? ⟨(a0.add (k * 2)).block, (a0.add (k * 2)).off + 1, none⟩ = some (.int .i64 p1) ∧ w'.cell? (a1.add (k * 2)) = some (.int .i64 q0) ∧ w'.cell? ⟨(a1.add (k * 2)).block, (a1.add (k * 2)).off + 1, none⟩ = some (.int .i64 q1)) (first | exact ⟨cell_below hb1 gp0, cell_below hb1 gp1, cell_below hb1 gq0, cell_below hb1 gq1⟩ | go_keep)
          (first | (go_at_call 124; refine (eqEnd (⟨p0, p1⟩ : End) (⟨q0, q1⟩ : End) _).mono ?_; rintro e w1 ⟨rfl, hb1⟩; rw [HE.out]))
        go_wp2
        go_ret
        exact ⟨by rw [HN.out]; rfl, hb.drew.trans (hb1.mono hb.size)⟩
    · obtain rfl : k = xs.length := by omega
      have HN : Hid (eqv xs ys = true) := Lib.hid (eqv_true (by have := HT.out; rw [List.take_length, HL.out, List.take_length] at this; exact this))
      go_wp2
      go_ret
      exact ⟨by rw [HN.out]; rfl, hb⟩
set_option maxRecDepth 100000 in
set_option maxHeartbeats 2000000 in
theorem eqSignalS {ok ok' : Nat → Prop} (A0 A1 : Option Addr) (c0 c1 : Nat) (xs ys : List Signal) (w : World) (hx : signalK.C w ok A0 xs) (hy : signalK.C w ok' A1 ys) :
    Calls Tryz.prog 13 #[.slice A0 xs.length c0, .slice A1 ys.length c1] w (RetB (eqv xs ys) w) := by
  have hmx := hx.1
  have hmy := hy.1
  by_cases hl : xs.length = ys.length
  rotate_left
  · rw [eqv_false (fun h => hl (congrArg List.length h))]
    have hlb := len_ne hl
    clear hl
    go_enter Tryz.func13, Tryz.ntmps13
    go_wp2
    go_ret
    exact ⟨rfl, Below.refl _ _⟩
  have hlb := len_eq hl
  have HL := Lib.hid hl
  clear hl
  go_enter Tryz.func13, Tryz.ntmps13
  go_wp2
  go_loopw [5] (fun i wr => ∃ k : Nat, k ≤ xs.length ∧ i = .int .i64 k ∧ Hid (xs.take k = ys.take k) ∧ Below w.heap.size w wr) (fun i _ => xs.length - (intOf i).toNat)
  case atStart => exact ⟨0, Nat.zero_le _, rfl, Lib.hid rfl, Below.refl _ _⟩
  case round =>
    obtain ⟨k, hk, rfl, HT, hb⟩ := hrel
    by_cases hlt : k < xs.length
    · have i0 : (0 : Int) ≤ (k : Int) := Int.natCast_nonneg _
      have i1 : (k : Int) < (xs.length : Int) := by omega
      have i2 : (k : Int) < (ys.length : Int) := by have := HL.out; omega
      obtain ⟨a0, rfl, p0, p1, p2, p3, E0, gp0, gp1, gp2, gp3⟩ := signalK_at (Kn.C_below hb hx) k hlt
      obtain ⟨a1, rfl, q0, q1, q2, q3, E1, gq0, gq1, gq2, gq3⟩ := signalK_at (Kn.C_below hb hy) k (HL.out ▸ hlt)
      by_cases he : (⟨p0, p1, p2, p3⟩ : Signal) = (⟨q0, q1, q2, q3⟩ : Signal)
      · have HE : Hid (eqv (⟨p0, p1, p2, p3⟩ : Signal) (⟨q0, q1, q2, q3⟩ : Signal) = true) := Lib.hid (eqv_true he)
        have HN : Hid (xs.take (k + 1) = ys.take (k + 1)) := Lib.hid (take_eq_snoc HT.out (by rw [← he]; exact E0.out) E1.out)
        clear he
        go_wp2
        go_region_held3 (fun w' => w'.cell? (a0.add (k * 4)) = some (.string p0) ∧ w'.cell? ⟨(a0.add (k * 4)).block, (a0.add (k * 4)).off + 1, none⟩ = some (.int .i64 p1) ∧ w'.cell? ⟨(a0.add (k * 4)).block, (a0.add (k * 4)).off + 2, none⟩ = some (.int .i64 p2) ∧ w'.cell? ⟨(a0.add (k * 4)).block, (a0.add (k * 4)).off + 3, none⟩ = some (.int .i64 p3) ∧ w'.cell? (a1.add (k * 4)) = some (.string q0) ∧ w'.cell? ⟨(a1.add (k * 4)).block, (a1.add (k * 4)).off + 1, none⟩ = some (.int .i64 q1) ∧ w'.cell? ⟨(a1.add (k * 4)).block, (a1.add (k * 4)).off + 2, none⟩ = some (.int .i64 q2) ∧ w'.cell? ⟨(a1.add (k * 4)).block, (a1.add (k * 4)).off + 3, none⟩ = some (.int .i64 q3)) (first | exact ⟨cell_below hb1 gp0, cell_below hb1 gp1, cell_below hb1 gp2, cell_below hb1 gp3, cell_below hb1 gq0, cell_below hb1 gq1, cell_below hb1 gq2, cell_below hb1 gq3⟩ | go_keep)
          (first | (go_at_call 33; refine (eqSignal (⟨p0, p1, p2, p3⟩ : Signal) (⟨q0, q1, q2, q3⟩ : Signal) _).mono ?_; rintro e w1 ⟨rfl, hb1⟩; rw [HE.out]))
        go_wp2
        go_roundw
        case rel => exact ⟨k + 1, by omega, by go_num, HN, hb.drew.trans (hb1.mono hb.size)⟩
        case measure => simp [intOf]; omega
      · have HE : Hid (eqv (⟨p0, p1, p2, p3⟩ : Signal) (⟨q0, q1, q2, q3⟩ : Signal) = false) := Lib.hid (eqv_false he)
        have HN : Hid (eqv xs ys = false) := Lib.hid (eqv_false (take_ne E0.out E1.out he))
        clear he
        go_wp2
        go_region_held3 (fun w' => w'.cell? (a0.add (k * 4)) = some (.string p0) ∧ w'.cell? ⟨(a0.add (k * 4)).block, (a0.add (k * 4)).off + 1, none⟩ = some (.int .i64 p1) ∧ w'.cell? ⟨(a0.add (k * 4)).block, (a0.add (k * 4)).off + 2, none⟩ = some (.int .i64 p2) ∧ w'.cell? ⟨(a0.add (k * 4)).block, (a0.add (k * 4)).off + 3, none⟩ = some (.int .i64 p3) ∧ w'.cell? (a1.add (k * 4)) = some (.string q0) ∧ w'.cell? ⟨(a1.add (k * 4)).block, (a1.add (k * 4)).off + 1, none⟩ = some (.int .i64 q1) ∧ w'.cell? ⟨(a1.add (k * 4)).block, (a1.add (k * 4)).off + 2, none⟩ = some (.int .i64 q2) ∧ w'.cell? ⟨(a1.add (k * 4)).block, (a1.add (k * 4)).off + 3, none⟩ = some (.int .i64 q3)) (first | exact ⟨cell_below hb1 gp0, cell_below hb1 gp1, cell_below hb1 gp2, cell_below hb1 gp3, cell_below hb1 gq0, cell_below hb1 gq1, cell_below hb1 gq2, cell_below hb1 gq3⟩ | go_keep)
          (first | (go_at_call 33; refine (eqSignal (⟨p0, p1, p2, p3⟩ : Signal) (⟨q0, q1, q2, q3⟩ : Signal) _).mono ?_; rintro e w1 ⟨rfl, hb1⟩; rw [HE.out]))
        go_wp2
        go_ret
        exact ⟨by rw [HN.out]; rfl, hb.drew.trans (hb1.mono hb.size)⟩
    · obtain rfl : k = xs.length := by omega
      have HN : Hid (eqv xs ys = true) := Lib.hid (eqv_true (by have := HT.out; rw [List.take_length, HL.out, List.take_length] at this; exact this))
      go_wp2
      go_ret
      exact ⟨by rw [HN.out]; rfl, hb⟩
set_option maxRecDepth 100000 in
set_option maxHeartbeats 2000000 in
theorem eqJoint {ok ok' : Nat → Prop} (x0 x1 : Joint) (A02 A12 : Option Addr) (c02 c12 : Nat) (w : World) (h02 : endK.C w ok A02 x0.ends) (h12 : endK.C w ok' A12 x1.ends) :
    Calls Tryz.prog 58 #[.agg #[.int .i64 x0.kind, .string x0.name, .slice A02 x0.ends.length c02], .agg #[.int .i64 x1.kind, .string x1.name, .slice A12 x1.ends.length c12]] w (RetB (eqv x0 x1) w) := by
  obtain ⟨a0, a1, a2⟩ := x0
  obtain ⟨b0, b1, b2⟩ := x1
  simp only at h02 h12
  by_cases h0 : a0 = b0
  rotate_left
  · rw [eqv_false (by intro h; injection h; exact h0 ‹_›)]
    have g0 := int_ne h0
    clear h0
    go_enter Tryz.func58, Tryz.ntmps58
    go_wp2
    go_ret
    exact ⟨rfl, ((below_alloc w _).alloc (by simp) _)⟩
  subst h0
  by_cases h1 : a1 = b1
  rotate_left
  · rw [eqv_false (by intro h; injection h; exact h1 ‹_›)]
    have g1 := str_ne h1
    clear h1
    go_enter Tryz.func58, Tryz.ntmps58
    go_wp2
    go_ret
    exact ⟨rfl, ((below_alloc w _).alloc (by simp) _)⟩
  subst h1
  by_cases h2 : a2 = b2
  rotate_left
  · rw [eqv_false (by intro h; injection h; exact h2 ‹_›)]
    have E : Hid (eqv a2 b2 = false) := Lib.hid (eqv_false h2)
    clear h2
    go_enter Tryz.func58, Tryz.ntmps58
    go_wp2_with fail
    refine (eqEndS _ _ _ _ _ _ _ (Kn.C_below ((below_alloc w _).alloc (by simp) _) h02) (Kn.C_below ((below_alloc w _).alloc (by simp) _) h12)).mono ?_
    rintro e w2 ⟨rfl, hb2⟩
    obtain ⟨hc2, hf2⟩ := bcell hb2
    rw [E.out]
    have B2 := ((below_alloc w _).alloc (by simp) _).trans (hb2.mono (by simp; omega))
    go_wp2
    go_ret
    exact ⟨rfl, B2⟩
  subst h2
  rw [eqv_self]
  go_enter Tryz.func58, Tryz.ntmps58
  go_wp2_with fail
  refine (eqEndS _ _ _ _ _ _ _ (Kn.C_below ((below_alloc w _).alloc (by simp) _) h02) (Kn.C_below ((below_alloc w _).alloc (by simp) _) h12)).mono ?_
  rintro e w2 ⟨rfl, hb2⟩
  obtain ⟨hc2, hf2⟩ := bcell hb2
  rw [eqv_self]
  have B2 := ((below_alloc w _).alloc (by simp) _).trans (hb2.mono (by simp; omega))
  go_wp2
  go_ret
  exact ⟨rfl, B2⟩
set_option maxRecDepth 100000 in
set_option maxHeartbeats 2000000 in
theorem eqJointS {ok ok' : Nat → Prop} (A0 A1 : Option Addr) (c0 c1 : Nat) (xs ys : List Joint) (w : World) (hx : (jointK 177).C w ok A0 xs) (hy : (jointK 177).C w ok' A1 ys) :
    Calls Tryz.prog 32 #[.slice A0 xs.length c0, .slice A1 ys.length c1] w (RetB (eqv xs ys) w) := by
  have hmx := hx.1
  have hmy := hy.1
  by_cases hl : xs.length = ys.length
  rotate_left
  · rw [eqv_false (fun h => hl (congrArg List.length h))]
    have hlb := len_ne hl
    clear hl
    go_enter Tryz.func32, Tryz.ntmps32
    go_wp2
    go_ret
    exact ⟨rfl, Below.refl _ _⟩
  have hlb := len_eq hl
  have HL := Lib.hid hl
  clear hl
  go_enter Tryz.func32, Tryz.ntmps32
  go_wp2
  go_loopw [5] (fun i wr => ∃ k : Nat, k ≤ xs.length ∧ i = .int .i64 k ∧ Hid (xs.take k = ys.take k) ∧ Below w.heap.size w wr) (fun i _ => xs.length - (intOf i).toNat)
  case atStart => exact ⟨0, Nat.zero_le _, rfl, Lib.hid rfl, Below.refl _ _⟩
  case round =>
    obtain ⟨k, hk, rfl, HT, hb⟩ := hrel
    by_cases hlt : k < xs.length
    · have i0 : (0 : Int) ≤ (k : Int) := Int.natCast_nonneg _
      have i1 : (k : Int) < (xs.length : Int) := by omega
      have i2 : (k : Int) < (ys.length : Int) := by have := HL.out; omega
      obtain ⟨a0, rfl, x, E0, A0, c0, gp0, gp1, gp2, lx, qx⟩ := jointK_at (Kn.C_below hb hx) k hlt
      obtain ⟨a1, rfl, y, E1, A1, c1, gq0, gq1, gq2, ly, qy⟩ := jointK_at (Kn.C_below hb hy) k (HL.out ▸ hlt)
      by_cases he : x = y
      · have HE : Hid (eqv x y = true) := Lib.hid (eqv_true he)
        have HN : Hid (xs.take (k + 1) = ys.take (k + 1)) := Lib.hid (take_eq_snoc HT.out (by rw [← he]; exact E0.out) E1.out)
        clear he
        go_wp2
        go_region_held3 (fun w' => w'.cell? (a0.add (k * 3)) = some (.int .i64 x.kind) ∧ w'.cell? ⟨(a0.add (k * 3)).block, (a0.add (k * 3)).off + 1, none⟩ = some (.string x.name) ∧ w'.cell? ⟨(a0.add (k * 3)).block, (a0.add (k * 3)).off + 2, none⟩ = some (.slice A0 x.ends.length c0) ∧ w'.cell? (a1.add (k * 3)) = some (.int .i64 y.kind) ∧ w'.cell? ⟨(a1.add (k * 3)).block, (a1.add (k * 3)).off + 1, none⟩ = some (.string y.name) ∧ w'.cell? ⟨(a1.add (k * 3)).block, (a1.add (k * 3)).off + 2, none⟩ = some (.slice A1 y.ends.length c1)) (first | exact ⟨cell_below hb1 gp0, cell_below hb1 gp1, cell_below hb1 gp2, cell_below hb1 gq0, cell_below hb1 gq1, cell_below hb1 gq2⟩ | go_keep)
          (first | (go_at_call 58; refine (eqJoint x y A0 A1 c0 c1 _ (Kn.C_below (Below.refl _ _).drew qx) (Kn.C_below (Below.refl _ _).drew qy)).mono ?_; rintro e w1 ⟨rfl, hb1⟩; rw [HE.out]))
        go_wp2
        go_roundw
        case rel => exact ⟨k + 1, by omega, by go_num, HN, hb.drew.trans (hb1.mono hb.size)⟩
        case measure => simp [intOf]; omega
      · have HE : Hid (eqv x y = false) := Lib.hid (eqv_false he)
        have HN : Hid (eqv xs ys = false) := Lib.hid (eqv_false (take_ne E0.out E1.out he))
        clear he
        go_wp2
        go_region_held3 (fun w' => w'.cell? (a0.add (k * 3)) = some (.int .i64 x.kind) ∧ w'.cell? ⟨(a0.add (k * 3)).block, (a0.add (k * 3)).off + 1, none⟩ = some (.string x.name) ∧ w'.cell? ⟨(a0.add (k * 3)).block, (a0.add (k * 3)).off + 2, none⟩ = some (.slice A0 x.ends.length c0) ∧ w'.cell? (a1.add (k * 3)) = some (.int .i64 y.kind) ∧ w'.cell? ⟨(a1.add (k * 3)).block, (a1.add (k * 3)).off + 1, none⟩ = some (.string y.name) ∧ w'.cell? ⟨(a1.add (k * 3)).block, (a1.add (k * 3)).off + 2, none⟩ = some (.slice A1 y.ends.length c1)) (first | exact ⟨cell_below hb1 gp0, cell_below hb1 gp1, cell_below hb1 gp2, cell_below hb1 gq0, cell_below hb1 gq1, cell_below hb1 gq2⟩ | go_keep)
          (first | (go_at_call 58; refine (eqJoint x y A0 A1 c0 c1 _ (Kn.C_below (Below.refl _ _).drew qx) (Kn.C_below (Below.refl _ _).drew qy)).mono ?_; rintro e w1 ⟨rfl, hb1⟩; rw [HE.out]))
        go_wp2
        go_ret
        exact ⟨by rw [HN.out]; rfl, hb.drew.trans (hb1.mono hb.size)⟩
    · obtain rfl : k = xs.length := by omega
      have HN : Hid (eqv xs ys = true) := Lib.hid (eqv_true (by have := HT.out; rw [List.take_length, HL.out, List.take_length] at this; exact this))
      go_wp2
      go_ret
      exact ⟨by rw [HN.out]; rfl, hb⟩
set_option maxRecDepth 100000 in
set_option maxHeartbeats 2000000 in
theorem eqNet {ok ok' : Nat → Prop} (x0 x1 : Net) (A00 A01 A10 A11 : Option Addr) (c00 c01 c10 c11 : Nat) (w : World) (h00 : pieceK.C w ok A00 x0.pieces) (h01 : (jointK 177).C w ok A01 x0.joints) (h10 : pieceK.C w ok' A10 x1.pieces) (h11 : (jointK 177).C w ok' A11 x1.joints) :
    Calls Tryz.prog 12 #[.agg #[.slice A00 x0.pieces.length c00, .slice A01 x0.joints.length c01], .agg #[.slice A10 x1.pieces.length c10, .slice A11 x1.joints.length c11]] w (RetB (eqv x0 x1) w) := by
  obtain ⟨a0, a1⟩ := x0
  obtain ⟨b0, b1⟩ := x1
  simp only at h00 h01 h10 h11
  by_cases h0 : a0 = b0
  rotate_left
  · rw [eqv_false (by intro h; injection h; exact h0 ‹_›)]
    have E : Hid (eqv a0 b0 = false) := Lib.hid (eqv_false h0)
    clear h0
    go_enter Tryz.func12, Tryz.ntmps12
    go_wp2_with fail
    refine (eqPieceS _ _ _ _ _ _ _ (Kn.C_below ((below_alloc w _).alloc (by simp) _) h00) (Kn.C_below ((below_alloc w _).alloc (by simp) _) h10)).mono ?_
    rintro e w0 ⟨rfl, hb0⟩
    obtain ⟨hc0, hf0⟩ := bcell hb0
    rw [E.out]
    have B0 := ((below_alloc w _).alloc (by simp) _).trans (hb0.mono (by simp; omega))
    go_wp2
    go_ret
    exact ⟨rfl, B0⟩
  subst h0
  by_cases h1 : a1 = b1
  rotate_left
  · rw [eqv_false (by intro h; injection h; exact h1 ‹_›)]
    have E : Hid (eqv a1 b1 = false) := Lib.hid (eqv_false h1)
    clear h1
    go_enter Tryz.func12, Tryz.ntmps12
    go_wp2_with fail
    refine (eqPieceS _ _ _ _ _ _ _ (Kn.C_below ((below_alloc w _).alloc (by simp) _) h00) (Kn.C_below ((below_alloc w _).alloc (by simp) _) h10)).mono ?_
    rintro e w0 ⟨rfl, hb0⟩
    obtain ⟨hc0, hf0⟩ := bcell hb0
    rw [eqv_self]
    have B0 := ((below_alloc w _).alloc (by simp) _).trans (hb0.mono (by simp; omega))
    go_wp2_with fail
    refine (eqJointS _ _ _ _ _ _ _ (Kn.C_below B0 h01) (Kn.C_below B0 h11)).mono ?_
    rintro e w1 ⟨rfl, hb1⟩
    obtain ⟨hc1, hf1⟩ := bcell hb1
    rw [E.out]
    have B1 := B0.trans (hb1.mono B0.size)
    go_wp2
    go_ret
    exact ⟨rfl, B1⟩
  subst h1
  rw [eqv_self]
  go_enter Tryz.func12, Tryz.ntmps12
  go_wp2_with fail
  refine (eqPieceS _ _ _ _ _ _ _ (Kn.C_below ((below_alloc w _).alloc (by simp) _) h00) (Kn.C_below ((below_alloc w _).alloc (by simp) _) h10)).mono ?_
  rintro e w0 ⟨rfl, hb0⟩
  obtain ⟨hc0, hf0⟩ := bcell hb0
  rw [eqv_self]
  have B0 := ((below_alloc w _).alloc (by simp) _).trans (hb0.mono (by simp; omega))
  go_wp2_with fail
  refine (eqJointS _ _ _ _ _ _ _ (Kn.C_below B0 h01) (Kn.C_below B0 h11)).mono ?_
  rintro e w1 ⟨rfl, hb1⟩
  obtain ⟨hc1, hf1⟩ := bcell hb1
  rw [eqv_self]
  have B1 := B0.trans (hb1.mono B0.size)
  go_wp2
  go_ret
  exact ⟨rfl, B1⟩
end Go.Proofs.YtpggopdojhodaaaGreatDoor.L
namespace Go.Proofs.YtpggopdojhodaaaGreatDoor.L
open Go.RowKit
set_option linter.unusedVariables false
set_option linter.unusedSimpArgs false
def RetV (v : Value) (w : World) (e : Ending) (w' : World) : Prop := e = .returned v ∧ Below w.heap.size w w'
def Filled {α : Type} (e sz : Nat) (cs : α → List Value) (xs : List α) (g k : Nat) (w : World) : Prop :=
  ∃ inner, w.ownsRow 0 e sz (.slice (some ⟨g, 0, none⟩) xs.length xs.length) xs.length inner ∧ ∀ j x, j < k → xs[j]? = some x → (inner.drop (j * sz)).take sz = cs x
theorem Filled.start {α : Type} {e sz : Nat} {cs : α → List Value} {xs : List α} {g : Nat} {w : World} {inner : List Value} (h : w.ownsRow 0 e sz (.slice (some ⟨g, 0, none⟩) xs.length xs.length) xs.length inner) : Filled e sz cs xs g 0 w :=
  ⟨_, h, fun j x hj => absurd hj (by omega)⟩
theorem Filled.below {α : Type} {e sz : Nat} {cs : α → List Value} {xs : List α} {g k : Nat} {w w1 : World} (h : Filled e sz cs xs g k w) (hb : Below w.heap.size w w1) : Filled e sz cs xs g k w1 := by
  obtain ⟨inner, ho, hf⟩ := h
  exact ⟨inner, Kn.own_move ho (fun b hk => hb.block b (ho.lt b hk).2), hf⟩
theorem Filled.lt {α : Type} {e sz : Nat} {cs : α → List Value} {xs : List α} {g k : Nat} {w : World} (h : Filled e sz cs xs g k w) : g < w.heap.size := by
  obtain ⟨inner, ho, hf⟩ := h
  exact (ho.lt g rfl).2
theorem Filled.snoc {α : Type} {e sz : Nat} {cs : α → List Value} {xs : List α} {g k : Nat} {w1 : World} {inner : List Value} {x : α} (hf : ∀ j x, j < k → xs[j]? = some x → (inner.drop (j * sz)).take sz = cs x) (hk : xs[k]? = some x) (hl : (cs x).length = sz)
    (hi : inner.length = xs.length * sz) (ho : w1.ownsRow 0 e sz (.slice (some ⟨g, 0, none⟩) xs.length xs.length) xs.length (setAll inner (k * sz) (cs x))) : Filled e sz cs xs g (k + 1) w1 := by
  refine ⟨_, ho, fun j y hj hy => ?_⟩
  have hkl := (List.getElem?_eq_some_iff.1 hk).1
  by_cases h : j = k
  · subst h
    obtain rfl := Option.some.inj (hk.symm.trans hy)
    exact setAll_chunk hl (by rw [hi, ← Nat.succ_mul]; exact Nat.mul_le_mul_right _ hkl)
  · rw [setAll_other hl h]
    exact hf j y (by omega) hy
theorem Filled.done {α : Type} {d : Kn α} {e : Nat} {cs : α → List Value} {xs : List α} {g : Nat} {w : World} (h : Filled e d.sz cs xs g xs.length w) (hd : ∀ w x, d.O w x (cs x) []) : (Kn.slice e d).O w xs [.slice (some ⟨g, 0, none⟩) xs.length xs.length] [g] := by
  obtain ⟨inner, ho, hf⟩ := h
  have hfoot : Kn.foot (.slice (some ⟨g, 0, none⟩) xs.length xs.length) (xs.map fun x => (x, ([] : List Nat))) = [g] := by
    have : (xs.map fun x => (x, ([] : List Nat))).map Prod.snd = List.replicate xs.length [] := by simp [List.eq_replicate_iff]
    simp [Kn.foot, this, Value.ownBlock]
  refine ⟨_, xs.map (fun x => (x, [])), rfl, by simp [Function.comp_def], ⟨inner, by rw [List.length_map]; exact ho, fun j p hj => ?_, by rw [hfoot]; simp⟩, hfoot.symm⟩
  rw [List.getElem?_map, Option.map_eq_some_iff] at hj
  obtain ⟨x, hx, rfl⟩ := hj
  rw [hf j x (List.getElem?_eq_some_iff.1 hx).1 hx]
  exact hd w x
def FilledO {α : Type} (d : Kn α) (e : Nat) (xs : List α) (g k : Nat) (w : World) : Prop :=
  ∃ inner ps, w.ownsRow 0 e d.sz (.slice (some ⟨g, 0, none⟩) xs.length xs.length) xs.length inner ∧ ps.map Prod.fst = xs.take k ∧ Kn.Items d w ps inner ∧ (ps.map Prod.snd).flatten.Nodup ∧ ∀ b, b ∈ (ps.map Prod.snd).flatten → g < b
theorem FilledO.start {α : Type} {d : Kn α} {e : Nat} {xs : List α} {g : Nat} {w : World} {inner : List Value} (h : w.ownsRow 0 e d.sz (.slice (some ⟨g, 0, none⟩) xs.length xs.length) xs.length inner) : FilledO d e xs g 0 w :=
  ⟨_, [], h, by simp, fun j p hj => by simp at hj, by simp, fun b hb => by simp at hb⟩
theorem FilledO.lt {α : Type} {d : Kn α} {e : Nat} {xs : List α} {g k : Nat} {w : World} (h : FilledO d e xs g k w) : g < w.heap.size := by
  obtain ⟨inner, ps, ho, _⟩ := h
  exact (ho.lt g rfl).2
theorem FilledO.row {α : Type} {d : Kn α} {e : Nat} {xs : List α} {g k : Nat} {w w1 : World} (h : FilledO d e xs g k w) (hb : Below w.heap.size w w1) : ∃ inner, w1.ownsRow 0 e d.sz (.slice (some ⟨g, 0, none⟩) xs.length xs.length) xs.length inner ∧
    ∀ (x : α) (cs : List Value) (F : List Nat) (w2 : World), xs[k]? = some x → cs.length = d.sz → d.O w1 x cs F → (∀ b, b ∈ F → w.heap.size ≤ b) → w1.grownBy w2 (some g) → w2.ownsRow 0 e d.sz (.slice (some ⟨g, 0, none⟩) xs.length xs.length) xs.length (setAll inner (k * d.sz) cs) → FilledO d e xs g (k + 1) w2 := by
  have hlt := h.lt
  obtain ⟨inner, ps, ho, hps, hi, hn, hg⟩ := h
  refine ⟨inner, Kn.own_move ho (fun b hk => hb.block b (ho.lt b hk).2), fun x cs F w2 hx hcs hO hF hgr ho2 => ?_⟩
  have hkl := (List.getElem?_eq_some_iff.1 hx).1
  have hpl : ps.length = k := by
    have := congrArg List.length hps
    rw [List.length_map, List.length_take] at this
    omega
  have hold : ∀ b, b ∈ (ps.map Prod.snd).flatten → b < w.heap.size := by
    intro b hb
    obtain ⟨l, hl, hb⟩ := List.mem_flatten.1 hb
    obtain ⟨p, hp, rfl⟩ := List.mem_map.1 hl
    obtain ⟨j, hj⟩ := List.mem_iff_getElem?.1 hp
    exact d.O_lt (hi j p hj) b hb
  refine ⟨_, ps ++ [(x, F)], ho2, ?_, ?_, ?_, ?_⟩
  · rw [List.map_append, hps, List.take_add_one, hx]
    rfl
  · intro j p hj
    rcases Nat.lt_or_ge j k with hjk | hjk
    · rw [List.getElem?_append_left (by omega)] at hj
      rw [setAll_other hcs (by omega)]
      refine d.O_move (fun b hbm => ?_) (hi j p hj)
      have hbf : b ∈ (ps.map Prod.snd).flatten := List.mem_flatten.2 ⟨p.2, List.mem_map.2 ⟨p, List.mem_of_getElem? hj, rfl⟩, hbm⟩
      have h1 := hold b hbf
      have h2 := hg b hbf
      exact (hgr.block b (Nat.lt_of_lt_of_le h1 hb.size) (fun he => by injection he with he; omega)).trans (hb.block b h1)
    · have hjl := (List.getElem?_eq_some_iff.1 hj).1
      rw [List.length_append, List.length_singleton] at hjl
      obtain rfl : j = k := by omega
      rw [List.getElem?_append_right (by omega), hpl, Nat.sub_self] at hj
      obtain rfl := Option.some.inj hj
      have hil : j * d.sz + d.sz ≤ inner.length := by rw [ho.1, ← Nat.succ_mul]; exact Nat.mul_le_mul_right _ hkl
      rw [setAll_chunk hcs hil]
      exact d.O_move (fun b hbm => hgr.block b (d.O_lt hO b hbm) (fun he => by injection he with he; have := hF b hbm; omega)) hO
  · rw [List.map_append, List.flatten_append, List.nodup_append]
    refine ⟨hn, by simpa using d.O_nodup hO, fun a ha b hb => ?_⟩
    have h1 := hold a ha
    have h2 := hF b (by simpa using hb)
    omega
  · intro b hbm
    rw [List.map_append, List.flatten_append] at hbm
    rcases List.mem_append.1 hbm with hbm | hbm
    · exact hg b hbm
    · have := hF b (by simpa using hbm)
      omega
theorem FilledO.done {α : Type} {d : Kn α} {e : Nat} {xs : List α} {g : Nat} {w : World} (h : FilledO d e xs g xs.length w) : ∃ F, (Kn.slice e d).O w xs [.slice (some ⟨g, 0, none⟩) xs.length xs.length] F ∧ ∀ b, b ∈ F → g ≤ b := by
  obtain ⟨inner, ps, ho, hps, hi, hn, hg⟩ := h
  rw [List.take_length] at hps
  have hpl : ps.length = xs.length := by rw [← hps, List.length_map]
  refine ⟨_, ⟨_, ps, rfl, hps.symm, ⟨inner, by rw [hpl]; exact ho, hi, ?_⟩, rfl⟩, ?_⟩
  · simp only [Kn.foot, Value.ownBlock, Option.toList_some, List.singleton_append, List.nodup_cons]
    exact ⟨fun hm => absurd (hg g hm) (by omega), hn⟩
  · intro b hb
    simp only [Kn.foot, Value.ownBlock, Option.toList_some, List.singleton_append, List.mem_cons] at hb
    rcases hb with rfl | hb
    · exact Nat.le_refl _
    · exact Nat.le_of_lt (hg b hb)
def RetS {α : Type} (e : Nat) (d : Kn α) (xs : List α) (w : World) (en : Ending) (w' : World) : Prop := ∃ A c F, en = .returned (.slice A xs.length c) ∧ (Kn.slice e d).O w' xs [.slice A xs.length c] F ∧ (∀ b, b ∈ F → w.heap.size ≤ b) ∧ Below w.heap.size w w'
theorem toPiece (x : Piece) (w : World) : Calls Tryz.prog 46 #[x.v] w (RetV x.v w) := by
  obtain ⟨a0, a1, a2, a3⟩ := x
  go_enter Tryz.func46, Tryz.ntmps46
  go_wp2
  exact bodyPost_ret (v := .agg #[.string a0, .int .i64 a1, .int .i64 a2, .int .i64 a3]) (by simp [results, Tryz.results46, go_sem]) rfl ⟨rfl, ((below_alloc _ _).alloc (by simp) _).alloc (by simp; omega) _⟩
theorem info87 : (Tryz.prog.info? 87).map (fun i => (i.zero, i.size, i.bytes)) = some (some (.agg #[.string ⟨#[]⟩, .int .i64 0, .int .i64 0, .int .i64 0]), 4, 40) := by kernel_rfl
set_option maxRecDepth 100000 in
set_option maxHeartbeats 1000000 in
theorem toPieceS {ok : Nat → Prop} (A : Option Addr) (c : Nat) (xs : List Piece) (w : World) (hx : pieceK.C w ok A xs) (hn : xs.length ≤ 1048576) :
    Calls Tryz.prog 22 #[.slice A xs.length c] w (RetS 87 pieceK xs w) := by
  obtain ⟨i0, hi, hz0, hz1, hz2⟩ := info_parts info87
  go_enter Tryz.func22, Tryz.ntmps22
  go_wp2_with (at_make; refine wpList_make_full _ rfl _ _ 32 rfl 0 87 i0 _ 4 Tryz.underlying32 hi hz0 hz1 .i64 .i64 _ _ xs.length rfl rfl rfl rfl (by rw [hz2]; omega) (by unfold maxLen; omega) (Nat.zero_le _) ?_; intro w0 hown hg0)
  go_loopw [4] (fun i wr => ∃ k : Nat, k ≤ xs.length ∧ i = .int .i64 k ∧ Filled 87 4 Piece.cs xs w.heap.size k wr ∧ Below w.heap.size w wr) (fun i _ => xs.length - (intOf i).toNat)
  case atStart => exact ⟨0, Nat.zero_le _, rfl, Filled.start hown, ⟨hg0.os, hg0.tape, hg0.output, hg0.size, fun b hb => hg0.block b hb (by simp)⟩⟩
  case round =>
    obtain ⟨k, hk, rfl, HF, hb⟩ := hrel
    by_cases hlt : k < xs.length
    · obtain ⟨a0, rfl, y0, y1, y2, y3, E, g0, g1, g2, g3⟩ := pieceK_at (Kn.C_below hb hx) k hlt
      have i0 : (0 : Int) ≤ (k : Int) := Int.natCast_nonneg _
      have i1 : (k : Int) < (xs.length : Int) := by omega
      have hgl := HF.lt
      go_wp2_with fail
      refine (toPiece ⟨y0, y1, y2, y3⟩ _).mono ?_
      rintro e w1 ⟨rfl, hb1⟩
      obtain ⟨inner, ho, hf⟩ := HF.below hb1
      have HF := Lib.hid hf
      clear hf
      go_wp2_with (refine wpList_store_own rfl _ _ _ rfl [.string y0, .int .i64 y1, .int .i64 y2, .int .i64 y3] ho rfl rfl ?_ (size_of_info info87) rfl ?_; (simp; omega); intro w2 ho2 hg2)
      go_roundw
      case rel => exact ⟨k + 1, by omega, by go_num, Filled.snoc HF.out E.out rfl ho.1 ho2, below_grown (hb.trans (hb1.mono hb.size)) hg2 (Nat.le_refl _) (Nat.le_trans hb.size hb1.size)⟩
      case measure => simp [intOf]; omega
    · obtain rfl : k = xs.length := by omega
      go_wp2
      go_ret
      exact ⟨_, _, _, rfl, HF.done (fun w x => pieceK_own w x), fun b hb => by rw [List.mem_singleton.1 hb]; exact Nat.le_refl _, hb⟩
theorem toEnd (x : End) (w : World) : Calls Tryz.prog 103 #[x.v] w (RetV x.v w) := by
  obtain ⟨a0, a1⟩ := x
  go_enter Tryz.func103, Tryz.ntmps103
  go_wp2
  exact bodyPost_ret (v := .agg #[.int .i64 a0, .int .i64 a1]) (by simp [results, Tryz.results103, go_sem]) rfl ⟨rfl, ((below_alloc _ _).alloc (by simp) _).alloc (by simp; omega) _⟩
theorem info177 : (Tryz.prog.info? 177).map (fun i => (i.zero, i.size, i.bytes)) = some (some (.agg #[.int .i64 0, .int .i64 0]), 2, 16) := by kernel_rfl
set_option maxRecDepth 100000 in
set_option maxHeartbeats 1000000 in
theorem toEndS {ok : Nat → Prop} (A : Option Addr) (c : Nat) (xs : List End) (w : World) (hx : endK.C w ok A xs) (hn : xs.length ≤ 1048576) :
    Calls Tryz.prog 71 #[.slice A xs.length c] w (RetS 177 endK xs w) := by
  obtain ⟨i0, hi, hz0, hz1, hz2⟩ := info_parts info177
  go_enter Tryz.func71, Tryz.ntmps71
  go_wp2_with (at_make; refine wpList_make_full _ rfl _ _ 73 rfl 0 177 i0 _ 2 Tryz.underlying73 hi hz0 hz1 .i64 .i64 _ _ xs.length rfl rfl rfl rfl (by rw [hz2]; omega) (by unfold maxLen; omega) (Nat.zero_le _) ?_; intro w0 hown hg0)
  go_loopw [4] (fun i wr => ∃ k : Nat, k ≤ xs.length ∧ i = .int .i64 k ∧ Filled 177 2 End.cs xs w.heap.size k wr ∧ Below w.heap.size w wr) (fun i _ => xs.length - (intOf i).toNat)
  case atStart => exact ⟨0, Nat.zero_le _, rfl, Filled.start hown, ⟨hg0.os, hg0.tape, hg0.output, hg0.size, fun b hb => hg0.block b hb (by simp)⟩⟩
  case round =>
    obtain ⟨k, hk, rfl, HF, hb⟩ := hrel
    by_cases hlt : k < xs.length
    · obtain ⟨a0, rfl, y0, y1, E, g0, g1⟩ := endK_at (Kn.C_below hb hx) k hlt
      have i0 : (0 : Int) ≤ (k : Int) := Int.natCast_nonneg _
      have i1 : (k : Int) < (xs.length : Int) := by omega
      have hgl := HF.lt
      go_wp2_with fail
      refine (toEnd ⟨y0, y1⟩ _).mono ?_
      rintro e w1 ⟨rfl, hb1⟩
      obtain ⟨inner, ho, hf⟩ := HF.below hb1
      have HF := Lib.hid hf
      clear hf
      go_wp2_with (refine wpList_store_own rfl _ _ _ rfl [.int .i64 y0, .int .i64 y1] ho rfl rfl ?_ (size_of_info info177) rfl ?_; (simp; omega); intro w2 ho2 hg2)
      go_roundw
      case rel => exact ⟨k + 1, by omega, by go_num, Filled.snoc HF.out E.out rfl ho.1 ho2, below_grown (hb.trans (hb1.mono hb.size)) hg2 (Nat.le_refl _) (Nat.le_trans hb.size hb1.size)⟩
      case measure => simp [intOf]; omega
    · obtain rfl : k = xs.length := by omega
      go_wp2
      go_ret
      exact ⟨_, _, _, rfl, HF.done (fun w x => endK_own w x), fun b hb => by rw [List.mem_singleton.1 hb]; exact Nat.le_refl _, hb⟩
theorem toSignal (x : Signal) (w : World) : Calls Tryz.prog 24 #[x.v] w (RetV x.v w) := by
  obtain ⟨a0, a1, a2, a3⟩ := x
  go_enter Tryz.func24, Tryz.ntmps24
  go_wp2
  exact bodyPost_ret (v := .agg #[.string a0, .int .i64 a1, .int .i64 a2, .int .i64 a3]) (by simp [results, Tryz.results24, go_sem]) rfl ⟨rfl, ((below_alloc _ _).alloc (by simp) _).alloc (by simp; omega) _⟩
theorem info70 : (Tryz.prog.info? 70).map (fun i => (i.zero, i.size, i.bytes)) = some (some (.agg #[.string ⟨#[]⟩, .int .i64 0, .int .i64 0, .int .i64 0]), 4, 40) := by kernel_rfl
set_option maxRecDepth 100000 in
set_option maxHeartbeats 1000000 in
theorem toSignalS {ok : Nat → Prop} (A : Option Addr) (c : Nat) (xs : List Signal) (w : World) (hx : signalK.C w ok A xs) (hn : xs.length ≤ 1048576) :
    Calls Tryz.prog 9 #[.slice A xs.length c] w (RetS 70 signalK xs w) := by
  obtain ⟨i0, hi, hz0, hz1, hz2⟩ := info_parts info70
  go_enter Tryz.func9, Tryz.ntmps9
  go_wp2_with (at_make; refine wpList_make_full _ rfl _ _ 37 rfl 0 70 i0 _ 4 Tryz.underlying37 hi hz0 hz1 .i64 .i64 _ _ xs.length rfl rfl rfl rfl (by rw [hz2]; omega) (by unfold maxLen; omega) (Nat.zero_le _) ?_; intro w0 hown hg0)
  go_loopw [4] (fun i wr => ∃ k : Nat, k ≤ xs.length ∧ i = .int .i64 k ∧ Filled 70 4 Signal.cs xs w.heap.size k wr ∧ Below w.heap.size w wr) (fun i _ => xs.length - (intOf i).toNat)
  case atStart => exact ⟨0, Nat.zero_le _, rfl, Filled.start hown, ⟨hg0.os, hg0.tape, hg0.output, hg0.size, fun b hb => hg0.block b hb (by simp)⟩⟩
  case round =>
    obtain ⟨k, hk, rfl, HF, hb⟩ := hrel
    by_cases hlt : k < xs.length
    · obtain ⟨a0, rfl, y0, y1, y2, y3, E, g0, g1, g2, g3⟩ := signalK_at (Kn.C_below hb hx) k hlt
      have i0 : (0 : Int) ≤ (k : Int) := Int.natCast_nonneg _
      have i1 : (k : Int) < (xs.length : Int) := by omega
      have hgl := HF.lt
      go_wp2_with fail
      refine (toSignal ⟨y0, y1, y2, y3⟩ _).mono ?_
      rintro e w1 ⟨rfl, hb1⟩
      obtain ⟨inner, ho, hf⟩ := HF.below hb1
      have HF := Lib.hid hf
      clear hf
      go_wp2_with (refine wpList_store_own rfl _ _ _ rfl [.string y0, .int .i64 y1, .int .i64 y2, .int .i64 y3] ho rfl rfl ?_ (size_of_info info70) rfl ?_; (simp; omega); intro w2 ho2 hg2)
      go_roundw
      case rel => exact ⟨k + 1, by omega, by go_num, Filled.snoc HF.out E.out rfl ho.1 ho2, below_grown (hb.trans (hb1.mono hb.size)) hg2 (Nat.le_refl _) (Nat.le_trans hb.size hb1.size)⟩
      case measure => simp [intOf]; omega
    · obtain rfl : k = xs.length := by omega
      go_wp2
      go_ret
      exact ⟨_, _, _, rfl, HF.done (fun w x => signalK_own w x), fun b hb => by rw [List.mem_singleton.1 hb]; exact Nat.le_refl _, hb⟩
def RetJoint (x : Joint) (w : World) (e : Ending) (w' : World) : Prop :=
  ∃ A c F, e = .returned (.agg #[.int .i64 x.kind, .string x.name, .slice A x.ends.length c]) ∧ (jointK 177).O w' x [.int .i64 x.kind, .string x.name, .slice A x.ends.length c] F ∧ (∀ b, b ∈ F → w.heap.size ≤ b) ∧ Below w.heap.size w w'
theorem jointK_own {e : Nat} {w : World} {x : Joint} {v : Value} {F : List Nat} (h : (Kn.slice e endK).O w x.ends [v] F) : (jointK e).O w x [.int .i64 x.kind, .string x.name, v] F :=
  ⟨_, _, [], F, rfl, rfl, ⟨rfl, rfl⟩, ⟨_, _, [], F, rfl, rfl, ⟨rfl, rfl⟩, h, (Kn.slice e endK).O_nodup h⟩, (Kn.slice e endK).O_nodup h⟩
set_option maxRecDepth 100000 in
set_option maxHeartbeats 1000000 in
theorem toJoint {ok : Nat → Prop} (x : Joint) (A : Option Addr) (c : Nat) (w : World) (hx : endK.C w ok A x.ends) (hn : x.ends.length ≤ 1048576) :
    Calls Tryz.prog 47 #[.agg #[.int .i64 x.kind, .string x.name, .slice A x.ends.length c]] w (RetJoint x w) := by
  obtain ⟨a0, a1, a2⟩ := x
  simp only at hx hn
  go_enter Tryz.func47, Tryz.ntmps47
  go_wp2_with fail
  refine (toEndS _ _ _ _ (Kn.C_below (((below_alloc w _).alloc (by simp) _).alloc (by simp; omega) _) hx) hn).mono ?_
  rintro e w1 ⟨A', c', F, rfl, hO, hF, hb1⟩
  obtain ⟨hc1, hf1⟩ := bcell hb1
  have HO := Lib.hid hO
  have HF := Lib.hid hF
  clear hO hF
  go_wp2
  have hz : w.heap.size + 1 + 1 < w1.heap.size := by have := hb1.size; simp at this; omega
  have B1 := (((below_alloc w (.cells #[.int .i64 a0, .string a1, .slice A a2.length c] 102)).alloc (by simp) (.cells #[.int .i64 0, .string ⟨#[]⟩, .slice none 0 0] 75)).alloc (by simp; omega) (.cells #[.int .i64 a0, .string a1, .slice none 0 0] 75)).trans (hb1.mono (by simp; omega))
  have hF : ∀ b, b ∈ F → w.heap.size + 1 + 1 + 1 ≤ b := fun b hb => by have := HF.out b hb; simp at this; omega
  exact bodyPost_ret (v := .agg #[.int .i64 a0, .string a1, .slice A' a2.length c']) (by simp [results, Tryz.results47, go_sem, hc1, hz]) rfl ⟨_, _, F, rfl,
    jointK_own (O_set (O_set (O_set (O_set HO.out (fun b hb => by have := hF b hb; simp; omega) _) (fun b hb => by have := hF b hb; simp; omega) _) (fun b hb => by have := hF b hb; simp; omega) _) (fun b hb => by have := hF b hb; simp; omega) _),
    fun b hb => by have := hF b hb; omega, (((B1.setCell (by simp; omega) _).setCell (by simp) _).setCell (by simp) _).setCell (by simp) _⟩
theorem info75 : (Tryz.prog.info? 75).map (fun i => (i.zero, i.size, i.bytes)) = some (some (.agg #[.int .i64 0, .string ⟨#[]⟩, .slice none 0 0]), 3, 48) := by kernel_rfl
set_option maxRecDepth 100000 in
set_option maxHeartbeats 1000000 in
theorem toJointS {ok : Nat → Prop} (A : Option Addr) (c : Nat) (xs : List Joint) (w : World) (hx : (jointK 183).C w ok A xs) (hn : xs.length ≤ 1048576) (hs : Hid (∀ x ∈ xs, x.ends.length ≤ 1048576)) :
    Calls Tryz.prog 23 #[.slice A xs.length c] w (RetS 75 (jointK 177) xs w) := by
  obtain ⟨i0, hi, hz0, hz1, hz2⟩ := info_parts info75
  go_enter Tryz.func23, Tryz.ntmps23
  go_wp2_with (at_make; refine wpList_make_full _ rfl _ _ 33 rfl 0 75 i0 _ 3 Tryz.underlying33 hi hz0 hz1 .i64 .i64 _ _ xs.length rfl rfl rfl rfl (by rw [hz2]; omega) (by unfold maxLen; omega) (Nat.zero_le _) ?_; intro w0 hown hg0)
  go_loopw [4] (fun i wr => ∃ k : Nat, k ≤ xs.length ∧ i = .int .i64 k ∧ FilledO (jointK 177) 75 xs w.heap.size k wr ∧ Below w.heap.size w wr) (fun i _ => xs.length - (intOf i).toNat)
  case atStart => exact ⟨0, Nat.zero_le _, rfl, FilledO.start hown, ⟨hg0.os, hg0.tape, hg0.output, hg0.size, fun b hb => hg0.block b hb (by simp)⟩⟩
  case round =>
    obtain ⟨k, hk, rfl, HF, hb⟩ := hrel
    by_cases hlt : k < xs.length
    · obtain ⟨a0, rfl, x, E, A0, c0, g0, g1, g2, l0, q0⟩ := jointK_at (Kn.C_below hb hx) k hlt
      have hsx := hs.out _ (mem_of_get E.out)
      have i0 : (0 : Int) ≤ (k : Int) := Int.natCast_nonneg _
      have i1 : (k : Int) < (xs.length : Int) := by omega
      have hgl := HF.lt
      go_wp2_with fail
      refine (toJoint x A0 c0 _ q0 hsx).mono ?_
      rintro e w1 ⟨A', c', F, rfl, hO, hF, hb1⟩
      obtain ⟨inner, ho, hst⟩ := HF.row hb1
      replace ho : w1.ownsRow 0 75 3 (.slice (some ⟨w.heap.size, 0, none⟩) xs.length xs.length) xs.length inner := ho
      have HO := Lib.hid hO
      have HF := Lib.hid hF
      have HS := Lib.hid hst
      clear hO hF hst
      go_wp2_with (refine wpList_store_own rfl _ _ _ rfl [.int .i64 x.kind, .string x.name, .slice A' x.ends.length c'] ho rfl rfl ?_ (size_of_info info75) rfl ?_; (simp; omega); intro w2 ho2 hg2)
      go_roundw
      case rel => exact ⟨k + 1, by omega, by go_num, HS.out _ _ F _ E.out rfl HO.out HF.out hg2 ho2, below_grown (hb.trans (hb1.mono hb.size)) hg2 (Nat.le_refl _) (Nat.le_trans hb.size hb1.size)⟩
      case measure => simp [intOf]; omega
    · obtain rfl : k = xs.length := by omega
      go_wp2
      go_ret
      obtain ⟨F, h1, h2⟩ := HF.done
      exact ⟨_, _, F, rfl, h1, h2, hb⟩
def RetNet (x : Net) (w : World) (e : Ending) (w' : World) : Prop :=
  ∃ A0 c0 A1 c1 F0 F1, e = .returned (.agg #[.slice A0 x.pieces.length c0, .slice A1 x.joints.length c1]) ∧ (Kn.slice 87 pieceK).O w' x.pieces [.slice A0 x.pieces.length c0] F0 ∧ (Kn.slice 75 (jointK 177)).O w' x.joints [.slice A1 x.joints.length c1] F1 ∧
    (F0 ++ F1).Nodup ∧ (∀ b, b ∈ F0 ++ F1 → w.heap.size ≤ b) ∧ Below w.heap.size w w'
set_option maxRecDepth 100000 in
set_option maxHeartbeats 1000000 in
theorem toNet {ok : Nat → Prop} (x : Net) (A0 A1 : Option Addr) (c0 c1 : Nat) (w : World) (h0 : pieceK.C w ok A0 x.pieces) (h1 : (jointK 183).C w ok A1 x.joints) (hn0 : x.pieces.length ≤ 1048576) (hn1 : x.joints.length ≤ 1048576) (hs : Hid (∀ j ∈ x.joints, j.ends.length ≤ 1048576)) :
    Calls Tryz.prog 8 #[.agg #[.slice A0 x.pieces.length c0, .slice A1 x.joints.length c1]] w (RetNet x w) := by
  obtain ⟨ps, js⟩ := x
  simp only at h0 h1 hn0 hn1 hs
  go_enter Tryz.func8, Tryz.ntmps8
  go_wp2_with fail
  refine (toPieceS _ _ _ _ (Kn.C_below (((below_alloc w _).alloc (by simp) _).alloc (by simp; omega) _) h0) hn0).mono ?_
  rintro e w1 ⟨A2, c2, F0, rfl, hO0, hF0, hb1⟩
  obtain ⟨hc1, hf1⟩ := bcell hb1
  have HO0 := Lib.hid hO0
  have HF0 := Lib.hid hF0
  clear hO0 hF0
  have hz1 : w.heap.size + 1 + 1 < w1.heap.size := by have := hb1.size; simp at this; omega
  have hy1 : w.heap.size + 1 < w1.heap.size := by omega
  have hx1 : w.heap.size < w1.heap.size := by omega
  have B1 := (((below_alloc w (.cells #[.slice A0 ps.length c0, .slice A1 js.length c1] 25)).alloc (by simp) (.cells #[.slice none 0 0, .slice none 0 0] 35)).alloc (by simp; omega) (.cells #[.slice none 0 0, .slice none 0 0] 35)).trans (hb1.mono (by simp; omega))
  go_wp2_with fail
  refine (toJointS _ _ _ _ (Kn.C_below (B1.setCell (by simp; omega) _) h1) hn1 hs).mono ?_
  rintro e w2 ⟨A3, c3, F1, rfl, hO1, hF1, hb2⟩
  obtain ⟨hc2, hf2⟩ := bcell hb2
  have HO1 := Lib.hid hO1
  have HF1 := Lib.hid hF1
  clear hO1 hF1
  have hz2 : w.heap.size + 1 + 1 < w2.heap.size := by have := hb2.size; simp at this; omega
  go_wp2
  have hF0 : ∀ b, b ∈ F0 → w.heap.size + 1 + 1 + 1 ≤ b := fun b hb => by have := HF0.out b hb; simp at this; omega
  have hL0 : ∀ b, b ∈ F0 → b < w1.heap.size := (Kn.slice 87 pieceK).O_lt HO0.out
  have hF1 : ∀ b, b ∈ F1 → w1.heap.size ≤ b := fun b hb => by have := HF1.out b hb; simpa using this
  have K0 : (Kn.slice 87 pieceK).O w2 ps [.slice A2 ps.length c2] F0 := (Kn.slice 87 pieceK).O_move (fun b hb => hb2.block b (by have := hL0 b hb; simpa using this)) (O_set HO0.out (fun b hb => by have := hF0 b hb; simp; omega) _)
  have B2 := (B1.setCell (p := ⟨w.heap.size + 1 + 1, 0, none⟩) (by simp; omega) (.slice A2 ps.length c2)).trans (hb2.mono (by simp; omega))
  exact bodyPost_ret (v := .agg #[.slice A2 ps.length c2, .slice A3 js.length c3]) (by simp [results, Tryz.results8, go_sem, hc1, hz1, hy1, hx1, hc2, hz2]) rfl ⟨_, _, _, _, F0, F1, rfl,
    O_set (O_set (O_set K0 (fun b hb => by have := hF0 b hb; simp; omega) _) (fun b hb => by have := hF0 b hb; simp; omega) _) (fun b hb => by have := hF0 b hb; simp; omega) _,
    O_set (O_set (O_set HO1.out (fun b hb => by have := hF1 b hb; simp; omega) _) (fun b hb => by have := hF1 b hb; simp; omega) _) (fun b hb => by have := hF1 b hb; simp; omega) _,
    List.nodup_append.2 ⟨(Kn.slice 87 pieceK).O_nodup HO0.out, (Kn.slice 75 (jointK 177)).O_nodup HO1.out, fun a ha b hb => by have := hL0 a ha; have := hF1 b hb; omega⟩,
    fun b hb => by rcases List.mem_append.1 hb with hb | hb; (have := hF0 b hb; omega); (have := hF1 b hb; omega),
    ((B2.setCell (by simp; omega) _).setCell (by simp) _).setCell (by simp) _⟩
end Go.Proofs.YtpggopdojhodaaaGreatDoor.L
namespace Go.Proofs.YtpggopdojhodaaaGreatDoor.L
open Go.RowKit
set_option linter.unusedVariables false
set_option linter.unusedSimpArgs false
noncomputable def pv (p : Prop) : Bool := @decide p (Classical.propDecidable p)
theorem pv_true {p : Prop} (h : p) : pv p = true := by unfold pv; exact @decide_eq_true _ (Classical.propDecidable _) h
theorem pv_false {p : Prop} (h : ¬ p) : pv p = false := by unfold pv; exact @decide_eq_false _ (Classical.propDecidable _) h
def nameB (b : Nat) : Prop := (97 ≤ b ∧ b ≤ 122) ∨ (48 ≤ b ∧ b ≤ 57) ∨ b = 95
def nameTo (s : ByteArray) (k : Nat) : Prop := ∀ j (h : j < s.size), j < k → nameB s[j].toNat
def nameP (s : ByteArray) : Prop := 1 ≤ s.size ∧ s.size ≤ 20 ∧ nameTo s s.size
theorem nameTo_zero (s : ByteArray) : nameTo s 0 := fun j h hj => absurd hj (by omega)
theorem nameTo_succ {s : ByteArray} {k : Nat} (h : nameTo s k) (hk : k < s.size) (hb : nameB s[k].toNat) : nameTo s (k + 1) := fun j hj hjk => by
  by_cases e : j = k
  · subst e; exact hb
  · exact h j hj (by omega)
def RetB0 (r : Bool) (w : World) (e : Ending) (w' : World) : Prop := e = .returned (.bool r) ∧ w = w'
theorem ret_bool {a b : Bool} (h : a = b) : Ending.returned (.bool a) = .returned (.bool b) := by rw [h]
theorem l1in (x a b : Int) (w : World) : Calls Tryz.prog 66 #[.int .i64 x, .int .i64 a, .int .i64 b] w (RetB0 (decide (a ≤ x ∧ x ≤ b)) w) := by
  go_enter Tryz.func66, Tryz.ntmps66
  by_cases h1 : a ≤ x
  · by_cases h2 : x ≤ b
    · go_wp2
      go_ret
      exact ⟨ret_bool (by simp [h1, h2]), rfl⟩
    · go_wp2
      go_ret
      exact ⟨ret_bool (by simp [h1, h2]), rfl⟩
  · go_wp2
    go_ret
    exact ⟨ret_bool (by simp; omega), rfl⟩
theorem byte_cases (b : Nat) : (nameB b ∧ decide ((97 : Int) ≤ b) = true ∧ decide ((b : Int) ≤ 122) = true) ∨ (¬ nameB b ∧ decide ((97 : Int) ≤ b) = true ∧ decide ((b : Int) ≤ 122) = false ∧ decide ((48 : Int) ≤ b) = true ∧ decide ((b : Int) ≤ 57) = false ∧ ((b : Int) == 95) = false) ∨ (nameB b ∧ decide ((97 : Int) ≤ b) = false ∧ decide ((48 : Int) ≤ b) = true ∧ decide ((b : Int) ≤ 57) = true) ∨ (¬ nameB b ∧ decide ((97 : Int) ≤ b) = false ∧ decide ((48 : Int) ≤ b) = true ∧ decide ((b : Int) ≤ 57) = false ∧ ((b : Int) == 95) = false) ∨ (nameB b ∧ decide ((97 : Int) ≤ b) = false ∧ decide ((48 : Int) ≤ b) = true ∧ decide ((b : Int) ≤ 57) = false ∧ ((b : Int) == 95) = true) ∨ (¬ nameB b ∧ decide ((97 : Int) ≤ b) = false ∧ decide ((48 : Int) ≤ b) = false ∧ ((b : Int) == 95) = false) := by
  unfold nameB
  simp only [decide_eq_true_eq, decide_eq_false_iff_not, beq_iff_eq, beq_eq_false_iff_ne]
  omega
set_option maxHeartbeats 2000000 in
theorem l1name (s : ByteArray) (w : World) (hs : s.size ≤ 9223372036854775807) : Calls Tryz.prog 92 #[.string s] w (RetB0 (pv (nameP s)) w) := by
  go_enter Tryz.func92, Tryz.ntmps92
  go_wp2
  go_loop [3, 4] (fun i _ => ∃ k : Nat, k ≤ s.size ∧ i = .int .i64 k ∧ Hid (nameTo s k)) (fun i _ => s.size - (intOf i).toNat)
  case atStart => exact ⟨0, Nat.zero_le _, rfl, Lib.hid (nameTo_zero s)⟩
  case round =>
    obtain ⟨k, hk, rfl, HT⟩ := hrel
    by_cases hlt : k < s.size
    · have hlo : (0 : Int) ≤ (s[k].toNat : Int) := Int.natCast_nonneg _
      rcases byte_cases s[k].toNat with ⟨hb, h1, h2⟩ | ⟨hb, h1, h2, h3, h4, h5⟩ | ⟨hb, h1, h2, h3⟩ | ⟨hb, h1, h2, h3, h4⟩ | ⟨hb, h1, h2, h3, h4⟩ | ⟨hb, h1, h2, h3⟩
      · have HN := Lib.hid (nameTo_succ HT.out hlt hb)
        clear hb
        go_wp2
        go_round
        case rel => exact ⟨k + 1, by omega, by go_num, HN⟩
        case measure => simp [intOf]; omega
      · have HN : Hid (pv (nameP s) = false) := Lib.hid (pv_false (fun h => hb (h.2.2 k hlt hlt)))
        clear hb
        go_wp2
        go_ret
        exact ⟨by rw [HN.out]; rfl, rfl⟩
      · have HN := Lib.hid (nameTo_succ HT.out hlt hb)
        clear hb
        go_wp2
        go_round
        case rel => exact ⟨k + 1, by omega, by go_num, HN⟩
        case measure => simp [intOf]; omega
      · have HN : Hid (pv (nameP s) = false) := Lib.hid (pv_false (fun h => hb (h.2.2 k hlt hlt)))
        clear hb
        go_wp2
        go_ret
        exact ⟨by rw [HN.out]; rfl, rfl⟩
      · have HN := Lib.hid (nameTo_succ HT.out hlt hb)
        clear hb
        go_wp2
        go_round
        case rel => exact ⟨k + 1, by omega, by go_num, HN⟩
        case measure => simp [intOf]; omega
      · have HN : Hid (pv (nameP s) = false) := Lib.hid (pv_false (fun h => hb (h.2.2 k hlt hlt)))
        clear hb
        go_wp2
        go_ret
        exact ⟨by rw [HN.out]; rfl, rfl⟩
    · have hge : s.size ≤ k := by omega
      have HK : Hid (k = s.size) := Lib.hid (by omega)
      by_cases h1 : 1 ≤ s.size
      · by_cases h2 : s.size ≤ 20
        · have HN : Hid (pv (nameP s) = true) := Lib.hid (pv_true ⟨h1, h2, by have := HT.out; rw [HK.out] at this; exact this⟩)
          have d2 : decide ((s.size : Int) ≤ 20) = true := decide_eq_true (by omega)
          go_wp2
          go_ret
          exact ⟨by rw [HN.out]; rfl, rfl⟩
        · have HN : Hid (pv (nameP s) = false) := Lib.hid (pv_false (fun h => h2 h.2.1))
          have d2 : decide ((s.size : Int) ≤ 20) = false := decide_eq_false (by omega)
          go_wp2
          go_ret
          exact ⟨by rw [HN.out]; rfl, rfl⟩
      · have HN : Hid (pv (nameP s) = false) := Lib.hid (pv_false (fun h => h1 h.1))
        have d2 : decide ((1 : Int) ≤ (s.size : Int)) = false := decide_eq_false (by omega)
        go_wp2
        go_ret
        exact ⟨by rw [HN.out]; rfl, rfl⟩
set_option maxHeartbeats 2000000 in
theorem named (s : ByteArray) (w : World) (hs : s.size ≤ 9223372036854775807) : Calls Tryz.prog 105 #[.string s] w (RetB0 (pv (nameP s)) w) := by
  by_cases g1 : 1 ≤ s.size
  rotate_left
  · have HN : Hid (pv (nameP s) = false) := Lib.hid (pv_false (fun h => g1 h.1))
    go_enter Tryz.func105, Tryz.ntmps105
    go_wp2
    go_ret
    exact ⟨by rw [HN.out]; rfl, rfl⟩
  by_cases g2 : s.size ≤ 20
  rotate_left
  · have HN : Hid (pv (nameP s) = false) := Lib.hid (pv_false (fun h => g2 h.2.1))
    go_enter Tryz.func105, Tryz.ntmps105
    go_wp2
    go_ret
    exact ⟨by rw [HN.out]; rfl, rfl⟩
  go_enter Tryz.func105, Tryz.ntmps105
  go_wp2
  go_loop [3, 4] (fun i _ => ∃ k : Nat, k ≤ s.size ∧ i = .int .i64 k ∧ Hid (nameTo s k)) (fun i _ => s.size - (intOf i).toNat)
  case atStart => exact ⟨0, Nat.zero_le _, rfl, Lib.hid (nameTo_zero s)⟩
  case round =>
    obtain ⟨k, hk, rfl, HT⟩ := hrel
    by_cases hlt : k < s.size
    · have hlo : (0 : Int) ≤ (s[k].toNat : Int) := Int.natCast_nonneg _
      rcases byte_cases s[k].toNat with ⟨hb, h1, h2⟩ | ⟨hb, h1, h2, h3, h4, h5⟩ | ⟨hb, h1, h2, h3⟩ | ⟨hb, h1, h2, h3, h4⟩ | ⟨hb, h1, h2, h3, h4⟩ | ⟨hb, h1, h2, h3⟩
      · have HN := Lib.hid (nameTo_succ HT.out hlt hb)
        clear hb
        go_wp2
        go_round
        case rel => exact ⟨k + 1, by omega, by go_num, HN⟩
        case measure => simp [intOf]; omega
      · have HN : Hid (pv (nameP s) = false) := Lib.hid (pv_false (fun h => hb (h.2.2 k hlt hlt)))
        clear hb
        go_wp2
        go_ret
        exact ⟨by rw [HN.out]; rfl, rfl⟩
      · have HN := Lib.hid (nameTo_succ HT.out hlt hb)
        clear hb
        go_wp2
        go_round
        case rel => exact ⟨k + 1, by omega, by go_num, HN⟩
        case measure => simp [intOf]; omega
      · have HN : Hid (pv (nameP s) = false) := Lib.hid (pv_false (fun h => hb (h.2.2 k hlt hlt)))
        clear hb
        go_wp2
        go_ret
        exact ⟨by rw [HN.out]; rfl, rfl⟩
      · have HN := Lib.hid (nameTo_succ HT.out hlt hb)
        clear hb
        go_wp2
        go_round
        case rel => exact ⟨k + 1, by omega, by go_num, HN⟩
        case measure => simp [intOf]; omega
      · have HN : Hid (pv (nameP s) = false) := Lib.hid (pv_false (fun h => hb (h.2.2 k hlt hlt)))
        clear hb
        go_wp2
        go_ret
        exact ⟨by rw [HN.out]; rfl, rfl⟩
    · have hge : s.size ≤ k := by omega
      have HK : Hid (k = s.size) := Lib.hid (by omega)
      have HN : Hid (pv (nameP s) = true) := Lib.hid (pv_true ⟨g1, g2, by have := HT.out; rw [HK.out] at this; exact this⟩)
      go_wp2
      go_ret
      exact ⟨by rw [HN.out]; rfl, rfl⟩
noncomputable def least (P : Nat → Prop) : Nat → Nat
  | 0 => 0
  | n + 1 => @ite _ (least P n < n) (Nat.decLt _ _) (least P n) (@ite _ (P n) (Classical.propDecidable _) n (n + 1))
theorem least_none {P : Nat → Prop} : ∀ {n : Nat}, (∀ j, j < n → ¬ P j) → least P n = n
  | 0, _ => rfl
  | n + 1, h => by
    rw [least, least_none (fun j hj => h j (by omega)), if_neg (by omega), if_neg (h n (by omega))]
theorem least_eq {P : Nat → Prop} {i : Nat} : ∀ {n : Nat}, i < n → P i → (∀ j, j < i → ¬ P j) → least P n = i
  | 0, h, _, _ => absurd h (by omega)
  | n + 1, h, hp, hj => by
    rw [least]
    by_cases e : i = n
    · subst e
      rw [least_none hj, if_neg (by omega), if_pos hp]
    · rw [least_eq (n := n) (by omega) hp hj, if_pos (by omega)]
def pieceP (p : Piece) : Prop := nameP p.name ∧ 1 ≤ p.len ∧ p.len ≤ 10000000 ∧ 1 ≤ p.speed ∧ p.speed ≤ 10000 ∧ 1 ≤ p.brake ∧ p.brake ≤ 1000
def endP (n : Nat) (e : End) : Prop := (0 ≤ e.piece ∧ e.piece ≤ (n : Int) - 1) ∧ (0 ≤ e.side ∧ e.side ≤ 1)
def sameName (xs : List ByteArray) (i : Nat) (s : ByteArray) : Prop := ∃ j, j < i ∧ xs[j]? = some s
def bad2 (n : Net) (i : Nat) : Prop := ∃ p, n.pieces[i]? = some p ∧ (¬ pieceP p ∨ sameName (n.pieces.map Piece.name) i p.name)
def jointP (n : Nat) (x : Joint) : Prop := (1 ≤ x.kind ∧ x.kind ≤ 4) ∧ (x.ends.length : Int) = x.kind ∧ ∀ e ∈ x.ends, endP n e
def bad3 (n : Net) (i : Nat) : Prop := ∃ x, n.joints[i]? = some x ∧ ¬ jointP n.pieces.length x
def nameBad (js : List Joint) (i : Nat) (x : Joint) : Prop := (x.kind < 3 ∧ ¬ x.name = ⟨#[]⟩) ∨ (3 ≤ x.kind ∧ (¬ nameP x.name ∨ sameName (js.map Joint.name) i x.name))
def bad4 (n : Net) (i : Nat) : Prop := ∃ x, n.joints[i]? = some x ∧ nameBad n.joints i x
noncomputable def usesIn (es : List End) (e : End) : Nat := tot (fun x => if eqv x e = true then 1 else 0) es
noncomputable def uses (js : List Joint) (e : End) : Nat := tot (fun j => usesIn j.ends e) js
def bad5 (n : Net) (i : Nat) : Prop := ¬ uses n.joints ⟨i, 0⟩ = 1 ∨ ¬ uses n.joints ⟨i, 1⟩ = 1
def bad1 (n : Net) : Prop := n.pieces.length = 0 ∨ 100 < n.pieces.length ∨ 120 < n.joints.length
open Classical in
/-- NetOk, as both say it. -/
noncomputable def netOk (n : Net) : Fault :=
  if bad1 n then ⟨1, 0⟩
  else if ∃ i, i < n.pieces.length ∧ bad2 n i then ⟨2, least (bad2 n) n.pieces.length⟩
  else if ∃ i, i < n.joints.length ∧ bad3 n i then ⟨3, least (bad3 n) n.joints.length⟩
  else if ∃ i, i < n.joints.length ∧ bad4 n i then ⟨4, least (bad4 n) n.joints.length⟩
  else if ∃ i, i < n.pieces.length ∧ bad5 n i then ⟨5, least (bad5 n) n.pieces.length⟩
  else ⟨0, 0⟩
theorem netOk_1 {n : Net} (h : bad1 n) : netOk n = ⟨1, 0⟩ := by unfold netOk; rw [if_pos h]
theorem netOk_2 {n : Net} {i : Nat} (h1 : ¬ bad1 n) (hi : i < n.pieces.length) (hb : bad2 n i) (hj : ∀ j, j < i → ¬ bad2 n j) : netOk n = ⟨2, i⟩ := by
  unfold netOk
  rw [if_neg h1, if_pos ⟨i, hi, hb⟩, least_eq hi hb hj]
theorem netOk_3 {n : Net} {i : Nat} (h1 : ¬ bad1 n) (h2 : ∀ j, j < n.pieces.length → ¬ bad2 n j) (hi : i < n.joints.length) (hb : bad3 n i) (hj : ∀ j, j < i → ¬ bad3 n j) : netOk n = ⟨3, i⟩ := by
  unfold netOk
  rw [if_neg h1, if_neg (fun ⟨j, a, b⟩ => h2 j a b), if_pos ⟨i, hi, hb⟩, least_eq hi hb hj]
theorem netOk_4 {n : Net} {i : Nat} (h1 : ¬ bad1 n) (h2 : ∀ j, j < n.pieces.length → ¬ bad2 n j) (h3 : ∀ j, j < n.joints.length → ¬ bad3 n j) (hi : i < n.joints.length) (hb : bad4 n i) (hj : ∀ j, j < i → ¬ bad4 n j) : netOk n = ⟨4, i⟩ := by
  unfold netOk
  rw [if_neg h1, if_neg (fun ⟨j, a, b⟩ => h2 j a b), if_neg (fun ⟨j, a, b⟩ => h3 j a b), if_pos ⟨i, hi, hb⟩, least_eq hi hb hj]
theorem netOk_5 {n : Net} {i : Nat} (h1 : ¬ bad1 n) (h2 : ∀ j, j < n.pieces.length → ¬ bad2 n j) (h3 : ∀ j, j < n.joints.length → ¬ bad3 n j) (h4 : ∀ j, j < n.joints.length → ¬ bad4 n j) (hi : i < n.pieces.length) (hb : bad5 n i) (hj : ∀ j, j < i → ¬ bad5 n j) : netOk n = ⟨5, i⟩ := by
  unfold netOk
  rw [if_neg h1, if_neg (fun ⟨j, a, b⟩ => h2 j a b), if_neg (fun ⟨j, a, b⟩ => h3 j a b), if_neg (fun ⟨j, a, b⟩ => h4 j a b), if_pos ⟨i, hi, hb⟩, least_eq hi hb hj]
theorem netOk_0 {n : Net} (h1 : ¬ bad1 n) (h2 : ∀ j, j < n.pieces.length → ¬ bad2 n j) (h3 : ∀ j, j < n.joints.length → ¬ bad3 n j) (h4 : ∀ j, j < n.joints.length → ¬ bad4 n j) (h5 : ∀ j, j < n.pieces.length → ¬ bad5 n j) : netOk n = ⟨0, 0⟩ := by
  unfold netOk
  rw [if_neg h1, if_neg (fun ⟨j, a, b⟩ => h2 j a b), if_neg (fun ⟨j, a, b⟩ => h3 j a b), if_neg (fun ⟨j, a, b⟩ => h4 j a b), if_neg (fun ⟨j, a, b⟩ => h5 j a b)]
theorem l1end (A0 A1 : Option Addr) (n0 c0 n1 c1 : Nat) (x : End) (w : World) (hn : n0 ≤ 9223372036854775807) : Calls Tryz.prog 143 #[.agg #[.slice A0 n0 c0, .slice A1 n1 c1], x.v] w (RetB (pv (endP n0 x)) w) := by
  obtain ⟨p, q⟩ := x
  have hB := (below_alloc w (.cells #[.slice A0 n0 c0, .slice A1 n1 c1] 35)).alloc (by simp) (.cells #[.int .i64 p, .int .i64 q] 177)
  by_cases h1 : 0 ≤ p ∧ p ≤ (n0 : Int) - 1
  · by_cases h2 : 0 ≤ q ∧ q ≤ 1
    · have HN : Hid (pv (endP n0 ⟨p, q⟩) = true) := Lib.hid (pv_true ⟨h1, h2⟩)
      have d1 : Hid (decide (0 ≤ p ∧ p ≤ (n0 : Int) - 1) = true) := Lib.hid (decide_eq_true h1)
      have d2 : Hid (decide (0 ≤ q ∧ q ≤ 1) = true) := Lib.hid (decide_eq_true h2)
      clear h1 h2
      go_enter Tryz.func143, Tryz.ntmps143
      go_wp2_with fail
      refine (l1in _ _ _ _).mono ?_
      rintro e w1 ⟨rfl, rfl⟩
      rw [d1.out]
      go_wp2_with fail
      refine (l1in _ _ _ _).mono ?_
      rintro e w1 ⟨rfl, rfl⟩
      rw [d2.out]
      go_wp2
      go_ret
      exact ⟨by rw [HN.out]; rfl, hB⟩
    · have HN : Hid (pv (endP n0 ⟨p, q⟩) = false) := Lib.hid (pv_false (fun h => h2 h.2))
      have d1 : Hid (decide (0 ≤ p ∧ p ≤ (n0 : Int) - 1) = true) := Lib.hid (decide_eq_true h1)
      have d2 : Hid (decide (0 ≤ q ∧ q ≤ 1) = false) := Lib.hid (decide_eq_false h2)
      clear h1 h2
      go_enter Tryz.func143, Tryz.ntmps143
      go_wp2_with fail
      refine (l1in _ _ _ _).mono ?_
      rintro e w1 ⟨rfl, rfl⟩
      rw [d1.out]
      go_wp2_with fail
      refine (l1in _ _ _ _).mono ?_
      rintro e w1 ⟨rfl, rfl⟩
      rw [d2.out]
      go_wp2
      go_ret
      exact ⟨by rw [HN.out]; rfl, hB⟩
  · have HN : Hid (pv (endP n0 ⟨p, q⟩) = false) := Lib.hid (pv_false (fun h => h1 h.1))
    have d1 : Hid (decide (0 ≤ p ∧ p ≤ (n0 : Int) - 1) = false) := Lib.hid (decide_eq_false h1)
    clear h1
    go_enter Tryz.func143, Tryz.ntmps143
    go_wp2_with fail
    refine (l1in _ _ _ _).mono ?_
    rintro e w1 ⟨rfl, rfl⟩
    rw [d1.out]
    go_wp2
    go_ret
    exact ⟨by rw [HN.out]; rfl, hB⟩
end Go.Proofs.YtpggopdojhodaaaGreatDoor.L
namespace Go.Proofs.YtpggopdojhodaaaGreatDoor.L
open Go.RowKit
set_option linter.unusedVariables false
set_option linter.unusedSimpArgs false
theorem uses_snoc (js : List Joint) (e : End) (k : Nat) (x : Joint) (h : js[k]? = some x) : uses (js.take (k + 1)) e = uses (js.take k) e + usesIn x.ends e := tot_snoc _ _ _ _ h
theorem usesIn_snoc (es : List End) (e : End) (k : Nat) (x : End) (h : es[k]? = some x) : usesIn (es.take (k + 1)) e = usesIn (es.take k) e + (if eqv x e = true then 1 else 0) := tot_snoc _ _ _ _ h
theorem uses_le (js : List Joint) (e : End) (k : Nat) : uses (js.take k) e ≤ uses js e := tot_le _ _ _
theorem usesIn_le (es : List End) (e : End) (k : Nat) : usesIn (es.take k) e ≤ usesIn es e := tot_le _ _ _
set_option maxRecDepth 100000 in
set_option maxHeartbeats 2000000 in
theorem l1uses {ok : Nat → Prop} (A0 A1 : Option Addr) (n0 c0 c1 : Nat) (js : List Joint) (x : End) (w : World) (hj : (jointK 177).C w ok A1 js) (hu : Hid (uses js x ≤ 1048576)) :
    Calls Tryz.prog 137 #[.agg #[.slice A0 n0 c0, .slice A1 js.length c1], x.v] w (RetI (uses js x) w) := by
  have hm := hj.1
  obtain ⟨p, q⟩ := x
  go_enter Tryz.func137, Tryz.ntmps137
  go_wp2
  obtain ⟨W0, hW0, hB0, f0, f1, f2, f3, hs0, hs1⟩ : ∃ W0, W0 = (w.alloc (.cells #[.slice A0 n0 c0, .slice A1 js.length c1] 35)).alloc (.cells #[.int .i64 p, .int .i64 q] 177) ∧ Below w.heap.size w W0 ∧
      W0.cell? ⟨w.heap.size, 0, none⟩ = some (.slice A0 n0 c0) ∧ W0.cell? ⟨w.heap.size, 1, none⟩ = some (.slice A1 js.length c1) ∧ W0.cell? ⟨w.heap.size + 1, 0, none⟩ = some (.int .i64 p) ∧ W0.cell? ⟨w.heap.size + 1, 1, none⟩ = some (.int .i64 q) ∧
      w.heap.size < W0.heap.size ∧ w.heap.size + 1 < W0.heap.size := ⟨_, rfl, (below_alloc _ _).alloc (by simp) _, by simp, by simp, by simp, by simp, by simp; omega, by simp⟩
  rw [← hW0]
  clear hW0
  go_loopw [5, 13] (fun c i wr => ∃ (k cn : Nat), k ≤ js.length ∧ i = .int .i64 k ∧ c = .int .i64 cn ∧ Hid (cn = uses (js.take k) ⟨p, q⟩) ∧ Below W0.heap.size W0 wr) (fun _ i _ => js.length - (intOf i).toNat)
  case atStart => exact ⟨0, 0, Nat.zero_le _, rfl, rfl, Lib.hid rfl, Below.refl _ _⟩
  case round =>
    obtain ⟨k, cn, hk, rfl, rfl, HC, hb⟩ := hrel
    have hbw := hB0.trans (hb.mono hB0.size)
    by_cases hlt : k < js.length
    · obtain ⟨a0, rfl, y, E, A2, c2, g0, g1, g2, l2, q2⟩ := jointK_at (Kn.C_below hbw hj) k hlt
      obtain ⟨hc, hf⟩ := bcell hb
      have i0 : (0 : Int) ≤ (k : Int) := Int.natCast_nonneg _
      have i1 : (k : Int) < (js.length : Int) := by omega
      have hm2 := q2.1
      have HU : Hid (uses (js.take (k + 1)) ⟨p, q⟩ = cn + usesIn y.ends ⟨p, q⟩) := Lib.hid (by rw [uses_snoc _ _ _ _ E.out, HC.out])
      have hcn : cn + usesIn y.ends ⟨p, q⟩ ≤ 1048576 := by have h1 := uses_le js ⟨p, q⟩ (k + 1); have h2 := HU.out; have h3 := hu.out; omega
      obtain ⟨wo, rfl⟩ : ∃ wo : World, wo = wr := ⟨_, rfl⟩
      go_wp2
      go_loopw [5, 20] (fun c i wi => ∃ (m cm : Nat), m ≤ y.ends.length ∧ i = .int .i64 m ∧ c = .int .i64 cm ∧ cm ≤ 1048576 ∧ Hid (cm = cn + usesIn (y.ends.take m) ⟨p, q⟩) ∧ Below wo.heap.size wo wi) (fun _ i _ => y.ends.length - (intOf i).toNat)
      case atStart => exact ⟨0, cn, Nat.zero_le _, rfl, rfl, by omega, Lib.hid rfl, below_alloc _ _⟩
      case round =>
        obtain ⟨m, cm, hmk, rfl, rfl, hcm, HM, hbi⟩ := hrel
        obtain ⟨hci, hfi⟩ := bcell (hb.trans (hbi.mono hb.size))
        have hs2 : w.heap.size < wr.heap.size := by have := hb.size; have := hbi.size; omega
        have hs3 : w.heap.size + 1 < wr.heap.size := by have := hb.size; have := hbi.size; omega
        have hs4 : wo.heap.size ≤ wr.heap.size := hbi.size
        by_cases hlm : m < y.ends.length
        · obtain ⟨a1, rfl, p1, q1, E1, g3, g4⟩ := endK_at (Kn.C_below hbi q2) m hlm
          have j0 : (0 : Int) ≤ (m : Int) := Int.natCast_nonneg _
          have j1 : (m : Int) < (y.ends.length : Int) := by omega
          have HU1 : Hid (usesIn (y.ends.take (m + 1)) ⟨p, q⟩ = usesIn (y.ends.take m) ⟨p, q⟩ + (if eqv (⟨p1, q1⟩ : End) ⟨p, q⟩ = true then 1 else 0)) := Lib.hid (usesIn_snoc _ _ _ _ E1.out)
          have hle : Hid (cn + usesIn (y.ends.take (m + 1)) ⟨p, q⟩ ≤ 1048576) := Lib.hid (by have := usesIn_le y.ends ⟨p, q⟩ (m + 1); omega)
          by_cases he : p1 = p
          · subst he
            by_cases he2 : q1 = q
            · subst he2
              have hcm2 : cm + 1 ≤ 1048576 := by have h1 := HU1.out; rw [if_pos (eqv_self _)] at h1; have h2 := hle.out; have h3 := HM.out; omega
              have HN : Hid (cm + 1 = cn + usesIn (y.ends.take (m + 1)) ⟨p1, q1⟩) := Lib.hid (by rw [HU1.out, if_pos (eqv_self _), HM.out]; omega)
              go_wp2
              go_roundw
              case rel => exact ⟨m + 1, cm + 1, by omega, by go_num, by go_num, hcm2, HN, hbi.trans ((below_alloc _ _).mono hbi.size)⟩
              case measure => simp [intOf]; omega
            · have HN : Hid (cm = cn + usesIn (y.ends.take (m + 1)) ⟨p1, q⟩) := Lib.hid (by rw [HU1.out, if_neg (by rw [eqv_false (by intro h; injection h; exact he2 ‹_›)]; simp), HM.out]; rfl)
              have hq : (q1 == q) = false := by simpa using he2
              clear he2
              go_wp2
              go_roundw
              case rel => exact ⟨m + 1, cm, by omega, by go_num, rfl, hcm, HN, hbi.trans ((below_alloc _ _).mono hbi.size)⟩
              case measure => simp [intOf]; omega
          · have HN : Hid (cm = cn + usesIn (y.ends.take (m + 1)) ⟨p, q⟩) := Lib.hid (by rw [HU1.out, if_neg (by rw [eqv_false (by intro h; injection h; exact he ‹_›)]; simp), HM.out]; rfl)
            have hq : (p1 == p) = false := by simpa using he
            clear he
            go_wp2
            go_roundw
            case rel => exact ⟨m + 1, cm, by omega, by go_num, rfl, hcm, HN, hbi.trans ((below_alloc _ _).mono hbi.size)⟩
            case measure => simp [intOf]; omega
        · have hge : y.ends.length ≤ m := by omega
          have HN : Hid (cm = uses (js.take (k + 1)) ⟨p, q⟩) := Lib.hid (by rw [HU.out, HM.out, List.take_of_length_le hge])
          go_wp2
          go_roundw
          case rel => exact ⟨k + 1, cm, by omega, by go_num, rfl, HN, hb.trans (hbi.mono hb.size)⟩
          case measure => simp [intOf]; omega
    · have hge : js.length ≤ k := by omega
      have HN : Hid (cn = uses js ⟨p, q⟩) := Lib.hid (by rw [HC.out, List.take_of_length_le hge])
      go_wp2
      go_ret
      exact ⟨by rw [← HN.out]; rfl, hbw⟩
noncomputable def jcode (n0 : Nat) (js : List Joint) (k : Nat) (x : Joint) : Int :=
  @ite _ (jointP n0 x) (Classical.propDecidable _) (@ite _ (nameBad js k x) (Classical.propDecidable _) 4 0) 3
theorem jcode_3 {n0 : Nat} {js : List Joint} {k : Nat} {x : Joint} (h : ¬ jointP n0 x) : jcode n0 js k x = 3 := by unfold jcode; rw [if_neg h]
theorem jcode_4 {n0 : Nat} {js : List Joint} {k : Nat} {x : Joint} (h : jointP n0 x) (hb : nameBad js k x) : jcode n0 js k x = 4 := by unfold jcode; rw [if_pos h, if_pos hb]
theorem jcode_0 {n0 : Nat} {js : List Joint} {k : Nat} {x : Joint} (h : jointP n0 x) (hb : ¬ nameBad js k x) : jcode n0 js k x = 0 := by unfold jcode; rw [if_pos h, if_neg hb]
theorem str_empty {s : ByteArray} (h : s = ⟨#[]⟩) : s.toList.isEmpty = true ∧ (!s.toList.isEmpty) = false := by
  have : s.toList.isEmpty = true := by subst h; rw [Go.ByteArray.toList_eq]; rfl
  exact ⟨this, by rw [this]; rfl⟩
theorem str_full {s : ByteArray} (h : ¬ s = ⟨#[]⟩) : s.toList.isEmpty = false ∧ (!s.toList.isEmpty) = true := by
  have : s.toList.isEmpty = false := by
    cases he : s.toList.isEmpty
    · rfl
    · rw [Go.ByteArray.toList_eq, List.isEmpty_iff] at he
      exact absurd (WideShapes.bytes_inj (b := ⟨#[]⟩) (by rw [he])) h
  exact ⟨this, by rw [this]; rfl⟩
theorem str_beq {a b : ByteArray} (h : a = b) : (a.toList == b.toList) = true := by rw [h]; exact beq_self_eq_true _
theorem ends_snoc {n0 : Nat} {es : List End} {m : Nat} {e : End} (h : ∀ j e, j < m → es[j]? = some e → endP n0 e) (hm : es[m]? = some e) (he : endP n0 e) : ∀ j e, j < m + 1 → es[j]? = some e → endP n0 e := fun j e' hj hje => by
  by_cases hjm : j = m
  · subst hjm
    rw [hm] at hje
    obtain rfl := Option.some.inj hje
    exact he
  · exact h j e' (by omega) hje
theorem names_at {js : List Joint} {j : Nat} {y : Joint} (h : js[j]? = some y) : (js.map Joint.name)[j]? = some y.name := by rw [List.getElem?_map, h]; rfl
theorem same_snoc {ns : List ByteArray} {m : Nat} {s a : ByteArray} (h : ¬ sameName ns m s) (hm : ns[m]? = some a) (ha : ¬ a = s) : ¬ sameName ns (m + 1) s := fun ⟨j, hj, hs⟩ => by
  by_cases hjm : j = m
  · subst hjm
    rw [hm] at hs
    exact ha (Option.some.inj hs)
  · exact h ⟨j, by omega, hs⟩
theorem same_zero {ns : List ByteArray} {s : ByteArray} : ¬ sameName ns 0 s := fun ⟨j, hj, _⟩ => by omega
set_option maxRecDepth 100000 in
set_option maxHeartbeats 4000000 in
theorem l1joint {ok : Nat → Prop} (A0 A1 : Option Addr) (n0 c0 c1 : Nat) (js : List Joint) (k : Nat) (x : Joint) (w : World) (hj : (jointK 177).C w ok A1 js) (hx : js[k]? = some x) (hn : n0 ≤ 9223372036854775807) (hfit : Hid (∀ j ∈ js, j.fit)) :
    Calls Tryz.prog 136 #[.agg #[.slice A0 n0 c0, .slice A1 js.length c1], .int .i64 k] w (RetI (jcode n0 js k x) w) := by
  have hm := hj.1
  have hlt := (List.getElem?_eq_some_iff.1 hx).1
  obtain ⟨a0, rfl, y, E, A2, c2, g0, g1, g2, l2, q2⟩ := jointK_at hj k hlt
  obtain rfl : y = x := Option.some.inj (E.out.symm.trans hx)
  clear hx
  have hbk := World.block_lt_of_cell? w _ g0
  have i0 : (0 : Int) ≤ (k : Int) := Int.natCast_nonneg _
  have i1 : (k : Int) < (js.length : Int) := by omega
  have hm2 := q2.1
  have hys : y.name.size ≤ 9223372036854775807 := hfit.out _ (mem_of_get E.out)
  by_cases c1 : 1 ≤ y.kind ∧ y.kind ≤ 4
  rotate_left
  · have HN : Hid (jcode n0 js k y = 3) := Lib.hid (jcode_3 (fun h => c1 h.1))
    have d1 : Hid (decide (1 ≤ y.kind ∧ y.kind ≤ 4) = false) := Lib.hid (decide_eq_false c1)
    clear c1
    go_enter Tryz.func136, Tryz.ntmps136
    go_wp2_with fail
    refine (l1in _ _ _ _).mono ?_
    rintro e w1 ⟨rfl, rfl⟩
    rw [d1.out]
    go_wp2
    go_ret
    exact ⟨by rw [HN.out]; rfl, (below_alloc _ _).alloc (by simp) _⟩
  have d1 : Hid (decide (1 ≤ y.kind ∧ y.kind ≤ 4) = true) := Lib.hid (decide_eq_true c1)
  have C1 := Lib.hid c1
  clear c1
  by_cases c2 : (y.ends.length : Int) = y.kind
  rotate_left
  · have HN : Hid (jcode n0 js k y = 3) := Lib.hid (jcode_3 (fun h => c2 h.2.1))
    have d2 : ((y.ends.length : Int) != y.kind) = true := int_ne c2
    clear c2
    go_enter Tryz.func136, Tryz.ntmps136
    go_wp2_with fail
    refine (l1in _ _ _ _).mono ?_
    rintro e w1 ⟨rfl, rfl⟩
    rw [d1.out]
    go_wp2
    go_ret
    exact ⟨by rw [HN.out]; rfl, (below_alloc _ _).alloc (by simp) _⟩
  have d2 : ((y.ends.length : Int) != y.kind) = false := by rw [c2]; simp
  have C2 := Lib.hid c2
  clear c2
  go_enter Tryz.func136, Tryz.ntmps136
  go_wp2_with fail
  refine (l1in _ _ _ _).mono ?_
  rintro e w1 ⟨rfl, rfl⟩
  rw [d1.out]
  go_wp2
  obtain ⟨W0, hW0, hB0, f0, f1, f2, f3, f4, hs0, hs1⟩ : ∃ W0, W0 = (w.alloc (.cells #[.slice A0 n0 c0, .slice (some a0) js.length c1] 35)).alloc (.cells #[.int .i64 y.kind, .string y.name, .slice A2 y.ends.length c2] 75) ∧ Below w.heap.size w W0 ∧
      W0.cell? ⟨w.heap.size, 0, none⟩ = some (.slice A0 n0 c0) ∧ W0.cell? ⟨w.heap.size, 1, none⟩ = some (.slice (some a0) js.length c1) ∧ W0.cell? ⟨w.heap.size + 1, 0, none⟩ = some (.int .i64 y.kind) ∧ W0.cell? ⟨w.heap.size + 1, 1, none⟩ = some (.string y.name) ∧
      W0.cell? ⟨w.heap.size + 1, 2, none⟩ = some (.slice A2 y.ends.length c2) ∧ w.heap.size < W0.heap.size ∧ w.heap.size + 1 < W0.heap.size := ⟨_, rfl, (below_alloc _ _).alloc (by simp) _, by simp, by simp, by simp, by simp, by simp, by simp; omega, by simp⟩
  rw [← hW0]
  clear hW0
  go_loopw [29] (fun i wr => ∃ m : Nat, m ≤ y.ends.length ∧ i = .int .i64 m ∧ Hid (∀ j e, j < m → y.ends[j]? = some e → endP n0 e) ∧ Below W0.heap.size W0 wr) (fun i _ => y.ends.length - (intOf i).toNat)
  case atStart => exact ⟨0, Nat.zero_le _, rfl, Lib.hid (fun j e h => absurd h (by omega)), Below.refl _ _⟩
  case round =>
    obtain ⟨m, hmk, rfl, HM, hb⟩ := hrel
    obtain ⟨hc, hf⟩ := bcell hb
    have hs2 : w.heap.size < wr.heap.size := by have := hb.size; omega
    have hs3 : w.heap.size + 1 < wr.heap.size := by have := hb.size; omega
    have hbw := hB0.trans (hb.mono hB0.size)
    by_cases hlm : m < y.ends.length
    · obtain ⟨a1, rfl, p1, q1, E1, g3, g4⟩ := endK_at (Kn.C_below hbw q2) m hlm
      have j0 : (0 : Int) ≤ (m : Int) := Int.natCast_nonneg _
      have j1 : (m : Int) < (y.ends.length : Int) := by omega
      by_cases he : endP n0 ⟨p1, q1⟩
      · have HE : Hid (pv (endP n0 ⟨p1, q1⟩) = true) := Lib.hid (pv_true he)
        have HN := Lib.hid (ends_snoc HM.out E1.out he)
        clear he
        go_wp2_with fail
        refine (l1end _ _ _ _ _ _ ⟨p1, q1⟩ _ hn).mono ?_
        rintro e w1 ⟨rfl, hb1⟩
        rw [HE.out]
        go_wp2
        go_roundw
        case rel => exact ⟨m + 1, by omega, by go_num, HN, hb.trans (((below_alloc _ _).trans (hb1.mono (by simp))).mono hb.size)⟩
        case measure => simp [intOf]; omega
      · have HE : Hid (pv (endP n0 ⟨p1, q1⟩) = false) := Lib.hid (pv_false he)
        have HN : Hid (jcode n0 js k y = 3) := Lib.hid (jcode_3 (fun h => he (h.2.2 _ (mem_of_get E1.out))))
        clear he
        go_wp2_with fail
        refine (l1end _ _ _ _ _ _ ⟨p1, q1⟩ _ hn).mono ?_
        rintro e w1 ⟨rfl, hb1⟩
        rw [HE.out]
        go_wp2
        go_ret
        exact ⟨by rw [HN.out]; rfl, hbw.trans (((below_alloc _ _).trans (hb1.mono (by simp))).mono hbw.size)⟩
    · have hge : y.ends.length ≤ m := by omega
      have HJ : Hid (jointP n0 y) := Lib.hid ⟨C1.out, C2.out, fun e he => by
        obtain ⟨j, hj⟩ := List.mem_iff_getElem?.1 he
        exact HM.out j e (by have := (List.getElem?_eq_some_iff.1 hj).1; omega) hj⟩
      by_cases c3 : y.kind < 3
      · by_cases c4 : y.name = ⟨#[]⟩
        · have HN : Hid (jcode n0 js k y = 0) := Lib.hid (jcode_0 HJ.out (fun h => by rcases h with h | h; exact h.2 c4; omega))
          obtain ⟨d4, d5⟩ := str_empty c4
          clear c4
          go_wp2
          go_ret
          exact ⟨by rw [HN.out]; rfl, hbw⟩
        · have HN : Hid (jcode n0 js k y = 4) := Lib.hid (jcode_4 HJ.out (.inl ⟨c3, c4⟩))
          obtain ⟨d4, d5⟩ := str_full c4
          clear c4
          go_wp2
          go_ret
          exact ⟨by rw [HN.out]; rfl, hbw⟩
      · have c3' : 3 ≤ y.kind := by omega
        by_cases c4 : nameP y.name
        rotate_left
        · have HN : Hid (jcode n0 js k y = 4) := Lib.hid (jcode_4 HJ.out (.inr ⟨c3', .inl c4⟩))
          have HE : Hid (pv (nameP y.name) = false) := Lib.hid (pv_false c4)
          clear c4
          go_wp2_with fail
          refine (l1name _ _ hys).mono ?_
          rintro e w1 ⟨rfl, rfl⟩
          rw [HE.out]
          go_wp2
          go_ret
          exact ⟨by rw [HN.out]; rfl, hbw⟩
        have HE : Hid (pv (nameP y.name) = true) := Lib.hid (pv_true c4)
        have C4 := Lib.hid c4
        clear c4
        go_wp2_with fail
        refine (l1name _ _ hys).mono ?_
        rintro e w1 ⟨rfl, rfl⟩
        rw [HE.out]
        go_wp2
        go_loopw [8] (fun i wi => ∃ m : Nat, m ≤ k ∧ i = .int .i64 m ∧ Hid (¬ sameName (js.map Joint.name) m y.name) ∧ Below wr.heap.size wr wi) (fun i _ => k - (intOf i).toNat)
        case atStart => exact ⟨0, Nat.zero_le _, rfl, Lib.hid same_zero, Below.refl _ _⟩
        case round =>
          obtain ⟨m2, hmk2, rfl, HM2, hbi⟩ := hrel
          obtain ⟨hci, hfi⟩ := bcell (hb.trans (hbi.mono hb.size))
          have hs4 : w.heap.size < wr.heap.size := by have := hbi.size; omega
          have hbw2 := hbw.trans (hbi.mono hbw.size)
          by_cases hlm2 : m2 < k
          · obtain ⟨a1, ha1, z, E2, A3, c3, g3, g4, g5, l5, q5⟩ := jointK_at (Kn.C_below hbw2 hj) m2 (by omega)
            obtain rfl := Option.some.inj ha1
            have j0 : (0 : Int) ≤ (m2 : Int) := Int.natCast_nonneg _
            have j1 : (m2 : Int) < (js.length : Int) := by omega
            have j2 : (m2 : Int) < (k : Int) := by omega
            by_cases he : z.name = y.name
            · have HN : Hid (jcode n0 js k y = 4) := Lib.hid (jcode_4 HJ.out (.inr ⟨c3', .inr ⟨m2, hlm2, by rw [names_at E2.out, he]⟩⟩))
              have HE := str_beq he
              clear he
              go_wp2
              go_quiet (fail)
              go_wp2
              go_ret
              exact ⟨by rw [HN.out]; rfl, below_drewN hbw2 _⟩
            · have HN := Lib.hid (same_snoc HM2.out (names_at E2.out) he)
              have HE := str_ne he
              clear he
              go_wp2
              go_quiet (fail)
              go_wp2
              go_roundw
              case rel => exact ⟨m2 + 1, by omega, by go_num, HN, below_drewN hbi _⟩
              case measure => simp [intOf]; omega
          · have hge2 : k ≤ m2 := by omega
            have HN : Hid (jcode n0 js k y = 0) := Lib.hid (jcode_0 HJ.out (fun h => by
              rcases h with h | ⟨_, h | ⟨j, hj, hs⟩⟩
              · omega
              · exact h C4.out
              · exact HM2.out ⟨j, by omega, hs⟩))
            go_wp2
            go_ret
            exact ⟨by rw [HN.out]; rfl, hbw2⟩
end Go.Proofs.YtpggopdojhodaaaGreatDoor.L
namespace Go.Proofs.YtpggopdojhodaaaGreatDoor.L
open Go.RowKit
set_option linter.unusedVariables false
set_option linter.unusedSimpArgs false
theorem none_snoc {P : Nat → Prop} {k : Nat} (h : ∀ j, j < k → ¬ P j) (hk : ¬ P k) : ∀ j, j < k + 1 → ¬ P j := fun j hj => by
  by_cases e : j = k
  · rw [e]; exact hk
  · exact h j (by omega)
theorem not_bad2 {n : Net} {k : Nat} {p : Piece} (h : n.pieces[k]? = some p) (hp : pieceP p) (hd : ¬ sameName (n.pieces.map Piece.name) k p.name) : ¬ bad2 n k := fun ⟨q, hq, hb⟩ => by
  rw [h] at hq
  obtain rfl := Option.some.inj hq
  rcases hb with hb | hb
  · exact hb hp
  · exact hd hb
theorem pnames_at {ps : List Piece} {j : Nat} {y : Piece} (h : ps[j]? = some y) : (ps.map Piece.name)[j]? = some y.name := by rw [List.getElem?_map, h]; rfl
theorem jcode_bad3 {n : Net} {k : Nat} {x : Joint} (h : n.joints[k]? = some x) : (jcode n.pieces.length n.joints k x = 3 ∧ bad3 n k) ∨ (¬ jcode n.pieces.length n.joints k x = 3 ∧ ¬ bad3 n k) := by
  by_cases hp : jointP n.pieces.length x
  · refine .inr ⟨?_, fun ⟨y, hy, hb⟩ => ?_⟩
    · by_cases hb : nameBad n.joints k x
      · rw [jcode_4 hp hb]; omega
      · rw [jcode_0 hp hb]; omega
    · rw [h] at hy
      obtain rfl := Option.some.inj hy
      exact hb hp
  · exact .inl ⟨jcode_3 hp, x, h, hp⟩
theorem jcode_bad4 {n : Net} {k : Nat} {x : Joint} (h : n.joints[k]? = some x) (h3 : ¬ bad3 n k) : (jcode n.pieces.length n.joints k x = 4 ∧ bad4 n k) ∨ (¬ jcode n.pieces.length n.joints k x = 4 ∧ ¬ bad4 n k) := by
  have hp : jointP n.pieces.length x := Classical.byContradiction fun hp => h3 ⟨x, h, hp⟩
  by_cases hb : nameBad n.joints k x
  · exact .inl ⟨jcode_4 hp hb, x, h, hb⟩
  · refine .inr ⟨by rw [jcode_0 hp hb]; omega, fun ⟨y, hy, hb'⟩ => ?_⟩
    rw [h] at hy
    obtain rfl := Option.some.inj hy
    exact hb hb'
set_option maxRecDepth 100000 in
set_option maxHeartbeats 8000000 in
theorem specNetOk {ok : Nat → Prop} (n : Net) (A0 A1 : Option Addr) (c0 c1 : Nat) (w : World) (hp : pieceK.C w ok A0 n.pieces) (hj : (jointK 177).C w ok A1 n.joints) (hfit : Hid n.fit) (hu : Hid (∀ e, uses n.joints e ≤ 1048576)) :
    Calls Tryz.prog 125 #[.agg #[.slice A0 n.pieces.length c0, .slice A1 n.joints.length c1]] w (RetV (netOk n).v w) := by
  have hm0 := hp.1
  have hm1 := hj.1
  by_cases b1 : n.pieces.length = 0
  · have d1 : ((n.pieces.length : Int) == 0) = true := by rw [beq_iff_eq]; omega
    have HN : Hid (netOk n = ⟨1, 0⟩) := Lib.hid (netOk_1 (.inl b1))
    clear b1
    go_enter Tryz.func125, Tryz.ntmps125
    go_wp2
    exact bodyPost_ret (v := .agg #[.int .i64 1, .int .i64 0]) (by simp [results, Tryz.results125, go_sem]) rfl ⟨by rw [HN.out], (below_alloc _ _).alloc (by simp) _⟩
  have d1 : ((n.pieces.length : Int) == 0) = false := by rw [beq_eq_false_iff_ne]; omega
  by_cases b2 : 100 < n.pieces.length
  · have HN : Hid (netOk n = ⟨1, 0⟩) := Lib.hid (netOk_1 (.inr (.inl b2)))
    go_enter Tryz.func125, Tryz.ntmps125
    go_wp2
    exact bodyPost_ret (v := .agg #[.int .i64 1, .int .i64 0]) (by simp [results, Tryz.results125, go_sem]) rfl ⟨by rw [HN.out], (below_alloc _ _).alloc (by simp) _⟩
  by_cases b3 : 120 < n.joints.length
  · have HN : Hid (netOk n = ⟨1, 0⟩) := Lib.hid (netOk_1 (.inr (.inr b3)))
    go_enter Tryz.func125, Tryz.ntmps125
    go_wp2
    exact bodyPost_ret (v := .agg #[.int .i64 1, .int .i64 0]) (by simp [results, Tryz.results125, go_sem]) rfl ⟨by rw [HN.out], (below_alloc _ _).alloc (by simp) _⟩
  have B1 : Hid (¬ bad1 n) := Lib.hid (fun h => by rcases h with h | h | h; exact b1 h; exact b2 h; exact b3 h)
  clear b1
  go_enter Tryz.func125, Tryz.ntmps125
  go_wp2
  obtain ⟨W0, hW0, hB0, f0, f1, f2, f3, f4, f5, hs0, hs1⟩ : ∃ W0, W0 = (w.alloc (.cells #[.slice A0 n.pieces.length c0, .slice A1 n.joints.length c1] 35)).alloc (.cells #[.int .i64 0, .int .i64 0] 132) ∧ Below w.heap.size w W0 ∧
      W0.cell? ⟨w.heap.size, 0, none⟩ = some (.slice A0 n.pieces.length c0) ∧ W0.cell? ⟨w.heap.size, 1, none⟩ = some (.slice A1 n.joints.length c1) ∧ W0.cell? ⟨w.heap.size + 1, 0, none⟩ = some (.int .i64 0) ∧ W0.cell? ⟨w.heap.size + 1, 1, none⟩ = some (.int .i64 0) ∧
      W0.frozen? ⟨w.heap.size + 1, 0, none⟩ = false ∧ W0.frozen? ⟨w.heap.size + 1, 1, none⟩ = false ∧ w.heap.size < W0.heap.size ∧ w.heap.size + 1 < W0.heap.size := ⟨_, rfl, (below_alloc _ _).alloc (by simp) _, by simp, by simp, by simp, by simp, by simp, by simp, by simp; omega, by simp⟩
  rw [← hW0]
  clear hW0
  go_loopw [30] (fun i wr => ∃ k : Nat, k ≤ n.pieces.length ∧ i = .int .i64 k ∧ Hid (∀ j, j < k → ¬ bad2 n j) ∧ Below W0.heap.size W0 wr) (fun i _ => n.pieces.length - (intOf i).toNat)
  case atStart => exact ⟨0, Nat.zero_le _, rfl, Lib.hid (fun j h => absurd h (by omega)), Below.refl _ _⟩
  case round =>
    obtain ⟨k, hk, rfl, HB2, hb⟩ := hrel
    obtain ⟨hc, hf⟩ := bcell hb
    have hs2 : w.heap.size < wr.heap.size := by have := hb.size; omega
    have hs3 : w.heap.size + 1 < wr.heap.size := by have := hb.size; omega
    have hbw := hB0.trans (hb.mono hB0.size)
    obtain ⟨wo, rfl⟩ : ∃ wo : World, wo = wr := ⟨_, rfl⟩
    by_cases hlt : k < n.pieces.length
    · obtain ⟨a0, rfl, y0, y1, y2, y3, E, g0, g1, g2, g3⟩ := pieceK_at (Kn.C_below hbw hp) k hlt
      have i0 : (0 : Int) ≤ (k : Int) := Int.natCast_nonneg _
      have i1 : (k : Int) < (n.pieces.length : Int) := by omega
      have hys : y0.size ≤ 9223372036854775807 := hfit.out.1 _ (mem_of_get E.out)
      by_cases q0 : nameP y0
      rotate_left
      · have HN : Hid (netOk n = ⟨2, k⟩) := Lib.hid (netOk_2 B1.out hlt ⟨_, E.out, .inl (fun h => q0 h.1)⟩ HB2.out)
        have D0 : Hid (pv (nameP y0) = false) := Lib.hid (pv_false q0)
        clear q0
        go_wp2_with fail
        refine (l1name _ _ hys).mono ?_
        rintro e w1 ⟨rfl, rfl⟩
        rw [D0.out]
        go_wp2
        exact bodyPost_ret (v := .agg #[.int .i64 2, .int .i64 k]) (by simp [results, Tryz.results125, go_sem, hc, hs0, hs1, hs2, hs3, f2, f3]) rfl ⟨by rw [HN.out], by repeat' first | exact hbw | (refine Below.alloc ?_ ?_ _) | (refine Below.setCell ?_ ?_ _) | (simp; done) | (simp; omega)⟩
      have D0 : Hid (pv (nameP y0) = true) := Lib.hid (pv_true q0)
      by_cases q1 : 1 ≤ y1 ∧ y1 ≤ 10000000
      rotate_left
      · have HN : Hid (netOk n = ⟨2, k⟩) := Lib.hid (netOk_2 B1.out hlt ⟨_, E.out, .inl (fun h => q1 ⟨h.2.1, h.2.2.1⟩)⟩ HB2.out)
        have D1 : Hid (decide (1 ≤ y1 ∧ y1 ≤ 10000000) = false) := Lib.hid (decide_eq_false q1)
        clear q1
        go_wp2_with fail
        refine (l1name _ _ hys).mono ?_
        rintro e w1 ⟨rfl, rfl⟩
        rw [D0.out]
        go_wp2_with fail
        refine (l1in _ _ _ _).mono ?_
        rintro e w1 ⟨rfl, rfl⟩
        rw [D1.out]
        go_wp2
        exact bodyPost_ret (v := .agg #[.int .i64 2, .int .i64 k]) (by simp [results, Tryz.results125, go_sem, hc, hs0, hs1, hs2, hs3, f2, f3]) rfl ⟨by rw [HN.out], by repeat' first | exact hbw | (refine Below.alloc ?_ ?_ _) | (refine Below.setCell ?_ ?_ _) | (simp; done) | (simp; omega)⟩
      have D1 : Hid (decide (1 ≤ y1 ∧ y1 ≤ 10000000) = true) := Lib.hid (decide_eq_true q1)
      by_cases q2 : 1 ≤ y2 ∧ y2 ≤ 10000
      rotate_left
      · have HN : Hid (netOk n = ⟨2, k⟩) := Lib.hid (netOk_2 B1.out hlt ⟨_, E.out, .inl (fun h => q2 ⟨h.2.2.2.1, h.2.2.2.2.1⟩)⟩ HB2.out)
        have D2 : Hid (decide (1 ≤ y2 ∧ y2 ≤ 10000) = false) := Lib.hid (decide_eq_false q2)
        clear q2
        go_wp2_with fail
        refine (l1name _ _ hys).mono ?_
        rintro e w1 ⟨rfl, rfl⟩
        rw [D0.out]
        go_wp2_with fail
        refine (l1in _ _ _ _).mono ?_
        rintro e w1 ⟨rfl, rfl⟩
        rw [D1.out]
        go_wp2_with fail
        refine (l1in _ _ _ _).mono ?_
        rintro e w1 ⟨rfl, rfl⟩
        rw [D2.out]
        go_wp2
        exact bodyPost_ret (v := .agg #[.int .i64 2, .int .i64 k]) (by simp [results, Tryz.results125, go_sem, hc, hs0, hs1, hs2, hs3, f2, f3]) rfl ⟨by rw [HN.out], by repeat' first | exact hbw | (refine Below.alloc ?_ ?_ _) | (refine Below.setCell ?_ ?_ _) | (simp; done) | (simp; omega)⟩
      have D2 : Hid (decide (1 ≤ y2 ∧ y2 ≤ 10000) = true) := Lib.hid (decide_eq_true q2)
      by_cases q3 : 1 ≤ y3 ∧ y3 ≤ 1000
      rotate_left
      · have HN : Hid (netOk n = ⟨2, k⟩) := Lib.hid (netOk_2 B1.out hlt ⟨_, E.out, .inl (fun h => q3 ⟨h.2.2.2.2.2.1, h.2.2.2.2.2.2⟩)⟩ HB2.out)
        have D3 : Hid (decide (1 ≤ y3 ∧ y3 ≤ 1000) = false) := Lib.hid (decide_eq_false q3)
        clear q3
        go_wp2_with fail
        refine (l1name _ _ hys).mono ?_
        rintro e w1 ⟨rfl, rfl⟩
        rw [D0.out]
        go_wp2_with fail
        refine (l1in _ _ _ _).mono ?_
        rintro e w1 ⟨rfl, rfl⟩
        rw [D1.out]
        go_wp2_with fail
        refine (l1in _ _ _ _).mono ?_
        rintro e w1 ⟨rfl, rfl⟩
        rw [D2.out]
        go_wp2_with fail
        refine (l1in _ _ _ _).mono ?_
        rintro e w1 ⟨rfl, rfl⟩
        rw [D3.out]
        go_wp2
        exact bodyPost_ret (v := .agg #[.int .i64 2, .int .i64 k]) (by simp [results, Tryz.results125, go_sem, hc, hs0, hs1, hs2, hs3, f2, f3]) rfl ⟨by rw [HN.out], by repeat' first | exact hbw | (refine Below.alloc ?_ ?_ _) | (refine Below.setCell ?_ ?_ _) | (simp; done) | (simp; omega)⟩
      have D3 : Hid (decide (1 ≤ y3 ∧ y3 ≤ 1000) = true) := Lib.hid (decide_eq_true q3)
      have HP : Hid (pieceP ⟨y0, y1, y2, y3⟩) := Lib.hid ⟨q0, q1.1, q1.2, q2.1, q2.2, q3.1, q3.2⟩
      clear q0 q1 q2 q3
      go_wp2_with fail
      refine (l1name _ _ hys).mono ?_
      rintro e w1 ⟨rfl, rfl⟩
      rw [D0.out]
      go_wp2_with fail
      refine (l1in _ _ _ _).mono ?_
      rintro e w1 ⟨rfl, rfl⟩
      rw [D1.out]
      go_wp2_with fail
      refine (l1in _ _ _ _).mono ?_
      rintro e w1 ⟨rfl, rfl⟩
      rw [D2.out]
      go_wp2_with fail
      refine (l1in _ _ _ _).mono ?_
      rintro e w1 ⟨rfl, rfl⟩
      rw [D3.out]
      go_wp2
      obtain ⟨W1, hW1, hB1, e0, hs4⟩ : ∃ W1, W1 = wo.alloc (.cells #[.string y0, .int .i64 y1, .int .i64 y2, .int .i64 y3] 87) ∧ Below wo.heap.size wo W1 ∧ W1.cell? ⟨wo.heap.size, 0, none⟩ = some (.string y0) ∧ wo.heap.size < W1.heap.size := ⟨_, rfl, below_alloc _ _, by simp, by simp⟩
      rw [← hW1]
      clear hW1
      have hb1 := hb.trans (hB1.mono hb.size)
      go_loopw [5] (fun i wr => ∃ m : Nat, m ≤ k ∧ i = .int .i64 m ∧ Hid (¬ sameName (n.pieces.map Piece.name) m y0) ∧ Below W1.heap.size W1 wr) (fun i _ => k - (intOf i).toNat)
      case atStart => exact ⟨0, Nat.zero_le _, rfl, Lib.hid same_zero, Below.refl _ _⟩
      case round =>
        obtain ⟨m, hmk, rfl, HM, hbi⟩ := hrel
        have hbj := hb1.trans (hbi.mono hb1.size)
        have hbw2 := hB0.trans (hbj.mono hB0.size)
        obtain ⟨hci, hfi⟩ := bcell hbj
        obtain ⟨hcj, hfj⟩ := bcell hbi
        have hs5 : w.heap.size < wr.heap.size := by have := hbj.size; omega
        have hs6 : w.heap.size + 1 < wr.heap.size := by have := hbj.size; omega
        by_cases hlm : m < k
        · obtain ⟨a1, ha1, z0, z1, z2, z3, E2, g4, g5, g6, g7⟩ := pieceK_at (Kn.C_below hbw2 hp) m (by omega)
          obtain rfl := Option.some.inj ha1
          have j0 : (0 : Int) ≤ (m : Int) := Int.natCast_nonneg _
          have j1 : (m : Int) < (n.pieces.length : Int) := by omega
          have j2 : (m : Int) < (k : Int) := by omega
          by_cases he : z0 = y0
          · have HN : Hid (netOk n = ⟨2, k⟩) := Lib.hid (netOk_2 B1.out hlt ⟨_, E.out, .inr ⟨m, hlm, by rw [pnames_at E2.out, he]⟩⟩ HB2.out)
            have HE := str_beq he
            clear he
            go_wp2
            go_quiet (fail)
            go_wp2
            exact bodyPost_ret (v := .agg #[.int .i64 2, .int .i64 k]) (by simp [results, Tryz.results125, go_sem, hci, hs0, hs1, hs5, hs6, f2, f3]) rfl ⟨by rw [HN.out], ((below_drewN hbw2 _).setCell (by simp) _).setCell (by simp) _⟩
          · have HN := Lib.hid (same_snoc HM.out (pnames_at E2.out) he)
            have HE := str_ne he
            clear he
            go_wp2
            go_quiet (fail)
            go_wp2
            go_roundw
            case rel => exact ⟨m + 1, by omega, by go_num, HN, below_drewN hbi _⟩
            case measure => simp [intOf]; omega
        · have hge : k ≤ m := by omega
          have HN := Lib.hid (none_snoc HB2.out (not_bad2 E.out HP.out (fun ⟨j, h1, h2⟩ => HM.out ⟨j, by omega, h2⟩)))
          go_wp2
          go_roundw
          case rel => exact ⟨k + 1, by omega, by go_num, HN, hbj⟩
          case measure => simp [intOf]; omega
    · have hge : n.pieces.length ≤ k := by omega
      have HB2' : Hid (∀ j, j < n.pieces.length → ¬ bad2 n j) := Lib.hid (fun j h => HB2.out j (by omega))
      clear HB2
      go_wp2
      obtain ⟨w1, hw1, hb1⟩ : ∃ w1, w1 = wo ∧ Below W0.heap.size W0 w1 := ⟨_, rfl, hb⟩
      rw [← hw1]
      clear hw1 hc hf hs2 hs3 hb hbw
      go_loopw [6] (fun i wr => ∃ c : Int, (c = 3 ∨ c = 4 ∨ c = 5) ∧ i = .int .i64 c ∧ Hid (4 ≤ c → ∀ j, j < n.joints.length → ¬ bad3 n j) ∧ Hid (5 ≤ c → ∀ j, j < n.joints.length → ¬ bad4 n j) ∧ Below W0.heap.size W0 wr) (fun i _ => (5 - intOf i).toNat)
      case atStart => exact ⟨3, .inl rfl, rfl, Lib.hid (fun h => absurd h (by omega)), Lib.hid (fun h => absurd h (by omega)), hb1⟩
      case round =>
        obtain ⟨c, hcc, rfl, H3, H4, hb⟩ := hrel
        obtain ⟨hc, hf⟩ := bcell hb
        have hs2 : w.heap.size < wr.heap.size := by have := hb.size; omega
        have hs3 : w.heap.size + 1 < wr.heap.size := by have := hb.size; omega
        have hbw := hB0.trans (hb.mono hB0.size)
        obtain ⟨wo, rfl⟩ : ∃ wo : World, wo = wr := ⟨_, rfl⟩
        rcases hcc with rfl | rfl | rfl
        · go_wp2
          go_loopw [83] (fun i wr => ∃ m : Nat, m ≤ n.joints.length ∧ i = .int .i64 m ∧ Hid (∀ j, j < m → ¬ bad3 n j) ∧ Below wo.heap.size wo wr) (fun i _ => n.joints.length - (intOf i).toNat)
          case atStart => exact ⟨0, Nat.zero_le _, rfl, Lib.hid (fun j h => absurd h (by omega)), Below.refl _ _⟩
          case round =>
            obtain ⟨m, hmk, rfl, HM, hbi⟩ := hrel
            have hbj := hb.trans (hbi.mono hb.size)
            have hbw2 := hB0.trans (hbj.mono hB0.size)
            obtain ⟨hci, hfi⟩ := bcell hbj
            have hs5 : w.heap.size < wr.heap.size := by have := hbj.size; omega
            have hs6 : w.heap.size + 1 < wr.heap.size := by have := hbj.size; omega
            by_cases hlm : m < n.joints.length
            · obtain ⟨x, hx⟩ : ∃ x, n.joints[m]? = some x := ⟨_, List.getElem?_eq_getElem hlm⟩
              have E := Lib.hid hx
              have j0 : (0 : Int) ≤ (m : Int) := Int.natCast_nonneg _
              have j1 : (m : Int) < (n.joints.length : Int) := by omega
              rcases jcode_bad3 hx with ⟨h1, h2⟩ | ⟨h1, h2⟩
              · have HN : Hid (netOk n = ⟨3, m⟩) := Lib.hid (netOk_3 B1.out HB2'.out hlm h2 HM.out)
                have HJ : Hid (jcode n.pieces.length n.joints m x = 3) := Lib.hid h1
                clear h1 h2 hx
                go_wp2_with fail
                refine (l1joint _ _ _ _ _ _ m x _ (Kn.C_below hbw2 hj) E.out hm0 (Lib.hid hfit.out.2)).mono ?_
                rintro e w2 ⟨rfl, hb2⟩
                rw [HJ.out]
                have hbk := hbj.trans (hb2.mono hbj.size)
                obtain ⟨hck, hfk⟩ := bcell hbk
                have hs7 : w.heap.size + 1 < w2.heap.size := by have := hbk.size; omega
                go_wp2
                exact bodyPost_ret (v := .agg #[.int .i64 3, .int .i64 m]) (by simp [results, Tryz.results125, go_sem, hck, hs0, hs1, hs7, f2, f3]) rfl ⟨by rw [HN.out], by repeat' first | exact hB0.trans (hbk.mono hB0.size) | (refine Below.alloc ?_ ?_ _) | (refine Below.setCell ?_ ?_ _) | (simp; done) | (simp; omega)⟩
              · have HN := Lib.hid (none_snoc HM.out h2)
                have HJ : (jcode n.pieces.length n.joints m x == 3) = false := by rw [beq_eq_false_iff_ne]; exact h1
                clear h1 h2 hx
                go_wp2_with fail
                refine (l1joint _ _ _ _ _ _ m x _ (Kn.C_below hbw2 hj) E.out hm0 (Lib.hid hfit.out.2)).mono ?_
                rintro e w2 ⟨rfl, hb2⟩
                go_wp2
                go_roundw
                case rel => exact ⟨m + 1, by omega, by go_num, HN, hbi.trans (hb2.mono hbi.size)⟩
                case measure => simp [intOf]; omega
            · have hge : n.joints.length ≤ m := by omega
              have HN : Hid (∀ j, j < n.joints.length → ¬ bad3 n j) := Lib.hid (fun j h => HM.out j (by omega))
              go_wp2
              go_roundw
              case rel => exact ⟨4, .inr (.inl rfl), rfl, Lib.hid (fun _ => HN.out), Lib.hid (fun h => absurd h (by omega)), hbj⟩
              case measure => simp [intOf]
        · have HB3 : Hid (∀ j, j < n.joints.length → ¬ bad3 n j) := Lib.hid (H3.out (by omega))
          go_wp2
          go_loopw [83] (fun i wr => ∃ m : Nat, m ≤ n.joints.length ∧ i = .int .i64 m ∧ Hid (∀ j, j < m → ¬ bad4 n j) ∧ Below wo.heap.size wo wr) (fun i _ => n.joints.length - (intOf i).toNat)
          case atStart => exact ⟨0, Nat.zero_le _, rfl, Lib.hid (fun j h => absurd h (by omega)), Below.refl _ _⟩
          case round =>
            obtain ⟨m, hmk, rfl, HM, hbi⟩ := hrel
            have hbj := hb.trans (hbi.mono hb.size)
            have hbw2 := hB0.trans (hbj.mono hB0.size)
            obtain ⟨hci, hfi⟩ := bcell hbj
            have hs5 : w.heap.size < wr.heap.size := by have := hbj.size; omega
            have hs6 : w.heap.size + 1 < wr.heap.size := by have := hbj.size; omega
            by_cases hlm : m < n.joints.length
            · obtain ⟨x, hx⟩ : ∃ x, n.joints[m]? = some x := ⟨_, List.getElem?_eq_getElem hlm⟩
              have E := Lib.hid hx
              have j0 : (0 : Int) ≤ (m : Int) := Int.natCast_nonneg _
              have j1 : (m : Int) < (n.joints.length : Int) := by omega
              rcases jcode_bad4 hx (HB3.out m hlm) with ⟨h1, h2⟩ | ⟨h1, h2⟩
              · have HN : Hid (netOk n = ⟨4, m⟩) := Lib.hid (netOk_4 B1.out HB2'.out HB3.out hlm h2 HM.out)
                have HJ : Hid (jcode n.pieces.length n.joints m x = 4) := Lib.hid h1
                clear h1 h2 hx
                go_wp2_with fail
                refine (l1joint _ _ _ _ _ _ m x _ (Kn.C_below hbw2 hj) E.out hm0 (Lib.hid hfit.out.2)).mono ?_
                rintro e w2 ⟨rfl, hb2⟩
                rw [HJ.out]
                have hbk := hbj.trans (hb2.mono hbj.size)
                obtain ⟨hck, hfk⟩ := bcell hbk
                have hs7 : w.heap.size + 1 < w2.heap.size := by have := hbk.size; omega
                go_wp2
                exact bodyPost_ret (v := .agg #[.int .i64 4, .int .i64 m]) (by simp [results, Tryz.results125, go_sem, hck, hs0, hs1, hs7, f2, f3]) rfl ⟨by rw [HN.out], by repeat' first | exact hB0.trans (hbk.mono hB0.size) | (refine Below.alloc ?_ ?_ _) | (refine Below.setCell ?_ ?_ _) | (simp; done) | (simp; omega)⟩
              · have HN := Lib.hid (none_snoc HM.out h2)
                have HJ : (jcode n.pieces.length n.joints m x == 4) = false := by rw [beq_eq_false_iff_ne]; exact h1
                clear h1 h2 hx
                go_wp2_with fail
                refine (l1joint _ _ _ _ _ _ m x _ (Kn.C_below hbw2 hj) E.out hm0 (Lib.hid hfit.out.2)).mono ?_
                rintro e w2 ⟨rfl, hb2⟩
                go_wp2
                go_roundw
                case rel => exact ⟨m + 1, by omega, by go_num, HN, hbi.trans (hb2.mono hbi.size)⟩
                case measure => simp [intOf]; omega
            · have hge : n.joints.length ≤ m := by omega
              have HN : Hid (∀ j, j < n.joints.length → ¬ bad4 n j) := Lib.hid (fun j h => HM.out j (by omega))
              go_wp2
              go_roundw
              case rel => exact ⟨5, .inr (.inr rfl), rfl, Lib.hid (fun _ => HB3.out), Lib.hid (fun _ => HN.out), hbj⟩
              case measure => simp [intOf]
        · have HB3 : Hid (∀ j, j < n.joints.length → ¬ bad3 n j) := Lib.hid (H3.out (by omega))
          have HB4 : Hid (∀ j, j < n.joints.length → ¬ bad4 n j) := Lib.hid (H4.out (by omega))
          clear H3 H4
          go_wp2
          go_loopw [98] (fun i wr => ∃ k : Nat, k ≤ n.pieces.length ∧ i = .int .i64 k ∧ Hid (∀ j, j < k → ¬ bad5 n j) ∧ Below W0.heap.size W0 wr) (fun i _ => n.pieces.length - (intOf i).toNat)
          case atStart => exact ⟨0, Nat.zero_le _, rfl, Lib.hid (fun j h => absurd h (by omega)), hb⟩
          case round =>
            clear hc hf hs2 hs3 hbw hb
            obtain ⟨k, hk, rfl, HB5, hb⟩ := hrel
            obtain ⟨hc, hf⟩ := bcell hb
            have hs2 : w.heap.size < wr.heap.size := by have := hb.size; omega
            have hs3 : w.heap.size + 1 < wr.heap.size := by have := hb.size; omega
            have hbw := hB0.trans (hb.mono hB0.size)
            obtain ⟨wo, rfl⟩ : ∃ wo : World, wo = wr := ⟨_, rfl⟩
            by_cases hlt : k < n.pieces.length
            · have i0 : (0 : Int) ≤ (k : Int) := Int.natCast_nonneg _
              have i1 : (k : Int) < (n.pieces.length : Int) := by omega
              go_wp2
              go_loopw [9] (fun i wr => ∃ c : Int, (c = 0 ∨ c = 1 ∨ c = 2) ∧ i = .int .i64 c ∧ Hid (1 ≤ c → uses n.joints ⟨k, 0⟩ = 1) ∧ Hid (2 ≤ c → uses n.joints ⟨k, 1⟩ = 1) ∧ Below W0.heap.size W0 wr) (fun i _ => (2 - intOf i).toNat)
              case atStart => exact ⟨0, .inl rfl, rfl, Lib.hid (fun h => absurd h (by omega)), Lib.hid (fun h => absurd h (by omega)), hb⟩
              case round =>
                clear hc hf hs2 hs3 hbw hb
                obtain ⟨c, hcc, rfl, U0, U1, hb⟩ := hrel
                obtain ⟨hc, hf⟩ := bcell hb
                have hs2 : w.heap.size < wr.heap.size := by have := hb.size; omega
                have hs3 : w.heap.size + 1 < wr.heap.size := by have := hb.size; omega
                have hbw := hB0.trans (hb.mono hB0.size)
                rcases hcc with rfl | rfl | rfl
                · by_cases hu0 : uses n.joints ⟨k, 0⟩ = 1
                  · have HU : ((uses n.joints ⟨k, 0⟩ : Int) != 1) = false := by rw [hu0]; rfl
                    have HN := Lib.hid hu0
                    clear hu0
                    go_wp2_with fail
                    refine (l1uses _ _ _ _ _ _ ⟨k, 0⟩ _ (Kn.C_below hbw hj) (Lib.hid (hu.out _))).mono ?_
                    rintro e w2 ⟨rfl, hb2⟩
                    go_wp2
                    go_roundw
                    case rel => exact ⟨1, .inr (.inl rfl), rfl, Lib.hid (fun _ => HN.out), Lib.hid (fun h => absurd h (by omega)), hb.trans (hb2.mono hb.size)⟩
                    case measure => simp [intOf]
                  · have HU : ((uses n.joints ⟨k, 0⟩ : Int) != 1) = true := by rw [bne_iff_ne]; omega
                    have HN : Hid (netOk n = ⟨5, k⟩) := Lib.hid (netOk_5 B1.out HB2'.out HB3.out HB4.out hlt (.inl hu0) HB5.out)
                    clear hu0
                    go_wp2_with fail
                    refine (l1uses _ _ _ _ _ _ ⟨k, 0⟩ _ (Kn.C_below hbw hj) (Lib.hid (hu.out _))).mono ?_
                    rintro e w2 ⟨rfl, hb2⟩
                    have hbk := hb.trans (hb2.mono hb.size)
                    obtain ⟨hck, hfk⟩ := bcell hbk
                    have hs7 : w.heap.size + 1 < w2.heap.size := by have := hbk.size; omega
                    go_wp2
                    exact bodyPost_ret (v := .agg #[.int .i64 5, .int .i64 k]) (by simp [results, Tryz.results125, go_sem, hck, hs0, hs1, hs7, f2, f3]) rfl ⟨by rw [HN.out], by repeat' first | exact hB0.trans (hbk.mono hB0.size) | (refine Below.alloc ?_ ?_ _) | (refine Below.setCell ?_ ?_ _) | (simp; done) | (simp; omega)⟩
                · by_cases hu1 : uses n.joints ⟨k, 1⟩ = 1
                  · have HU : ((uses n.joints ⟨k, 1⟩ : Int) != 1) = false := by rw [hu1]; rfl
                    have HN := Lib.hid hu1
                    clear hu1
                    go_wp2_with fail
                    refine (l1uses _ _ _ _ _ _ ⟨k, 1⟩ _ (Kn.C_below hbw hj) (Lib.hid (hu.out _))).mono ?_
                    rintro e w2 ⟨rfl, hb2⟩
                    go_wp2
                    go_roundw
                    case rel => exact ⟨2, .inr (.inr rfl), rfl, Lib.hid (fun _ => U0.out (by omega)), Lib.hid (fun _ => HN.out), hb.trans (hb2.mono hb.size)⟩
                    case measure => simp [intOf]
                  · have HU : ((uses n.joints ⟨k, 1⟩ : Int) != 1) = true := by rw [bne_iff_ne]; omega
                    have HN : Hid (netOk n = ⟨5, k⟩) := Lib.hid (netOk_5 B1.out HB2'.out HB3.out HB4.out hlt (.inr hu1) HB5.out)
                    clear hu1
                    go_wp2_with fail
                    refine (l1uses _ _ _ _ _ _ ⟨k, 1⟩ _ (Kn.C_below hbw hj) (Lib.hid (hu.out _))).mono ?_
                    rintro e w2 ⟨rfl, hb2⟩
                    have hbk := hb.trans (hb2.mono hb.size)
                    obtain ⟨hck, hfk⟩ := bcell hbk
                    have hs7 : w.heap.size + 1 < w2.heap.size := by have := hbk.size; omega
                    go_wp2
                    exact bodyPost_ret (v := .agg #[.int .i64 5, .int .i64 k]) (by simp [results, Tryz.results125, go_sem, hck, hs0, hs1, hs7, f2, f3]) rfl ⟨by rw [HN.out], by repeat' first | exact hB0.trans (hbk.mono hB0.size) | (refine Below.alloc ?_ ?_ _) | (refine Below.setCell ?_ ?_ _) | (simp; done) | (simp; omega)⟩
                · have HN := Lib.hid (none_snoc HB5.out (fun h => h.elim (fun h => h (U0.out (by omega))) (fun h => h (U1.out (by omega)))))
                  go_wp2
                  go_roundw
                  case rel => exact ⟨k + 1, by omega, by go_num, HN, hb⟩
                  case measure => simp [intOf]; omega
            · have hge : n.pieces.length ≤ k := by omega
              have HN : Hid (netOk n = ⟨0, 0⟩) := Lib.hid (netOk_0 B1.out HB2'.out HB3.out HB4.out (fun j h => HB5.out j (by omega)))
              go_wp2
              exact bodyPost_ret (v := .agg #[.int .i64 0, .int .i64 0]) (by simp [results, Tryz.results125, go_sem, hc, hs0, hs1, hs2, hs3, f2, f3]) rfl ⟨by rw [HN.out], by repeat' first | exact hbw | (refine Below.alloc ?_ ?_ _) | (refine Below.setCell ?_ ?_ _) | (simp; done) | (simp; omega)⟩
end Go.Proofs.YtpggopdojhodaaaGreatDoor.L
namespace Go.Proofs.YtpggopdojhodaaaGreatDoor.L
open Go.RowKit
set_option linter.unusedVariables false
set_option linter.unusedSimpArgs false
def signalP (n : Net) (s : Signal) : Prop := nameP s.name ∧ (0 ≤ s.piece ∧ s.piece ≤ (n.pieces.length : Int) - 1) ∧ (s.way = 1 ∨ s.way = -1) ∧ ∃ p, n.pieces[s.piece.toNat]? = some p ∧ 1 ≤ s.at_ ∧ s.at_ ≤ p.len - 1
def clash (a b : Signal) : Prop := a.name = b.name ∨ (a.piece = b.piece ∧ a.at_ = b.at_ ∧ a.way = b.way)
def sbad3 (n : Net) (ss : List Signal) (i : Nat) : Prop := ∃ s, ss[i]? = some s ∧ ¬ signalP n s
def before (ss : List Signal) (i k : Nat) : Prop := ∃ j a b, j < k ∧ ss[j]? = some a ∧ ss[i]? = some b ∧ clash a b
def sbad4 (ss : List Signal) (i : Nat) : Prop := before ss i i
open Classical in
/-- SignalsOk, as both say it. -/
noncomputable def signalsOk (n : Net) (ss : List Signal) : Fault :=
  if ¬ netOk n = ⟨0, 0⟩ then ⟨1, 0⟩
  else if 60 < ss.length then ⟨2, 0⟩
  else if ∃ i, i < ss.length ∧ sbad3 n ss i then ⟨3, least (sbad3 n ss) ss.length⟩
  else if ∃ i, i < ss.length ∧ sbad4 ss i then ⟨4, least (sbad4 ss) ss.length⟩
  else ⟨0, 0⟩
section
variable {n : Net} {ss : List Signal}
theorem signalsOk_1 (h : ¬ netOk n = ⟨0, 0⟩) : signalsOk n ss = ⟨1, 0⟩ := by unfold signalsOk; rw [if_pos h]
theorem signalsOk_2 (h : netOk n = ⟨0, 0⟩) (h2 : 60 < ss.length) : signalsOk n ss = ⟨2, 0⟩ := by unfold signalsOk; rw [if_neg (fun e => e h), if_pos h2]
theorem signalsOk_3 {i : Nat} (h : netOk n = ⟨0, 0⟩) (h2 : ¬ 60 < ss.length) (hi : i < ss.length) (hb : sbad3 n ss i) (hj : ∀ j, j < i → ¬ sbad3 n ss j) : signalsOk n ss = ⟨3, i⟩ := by
  unfold signalsOk
  rw [if_neg (fun e => e h), if_neg h2, if_pos ⟨i, hi, hb⟩, least_eq hi hb hj]
theorem signalsOk_4 {i : Nat} (h : netOk n = ⟨0, 0⟩) (h2 : ¬ 60 < ss.length) (h3 : ∀ j, j < ss.length → ¬ sbad3 n ss j) (hi : i < ss.length) (hb : sbad4 ss i) (hj : ∀ j, j < i → ¬ sbad4 ss j) : signalsOk n ss = ⟨4, i⟩ := by
  unfold signalsOk
  rw [if_neg (fun e => e h), if_neg h2, if_neg (fun ⟨j, a, b⟩ => h3 j a b), if_pos ⟨i, hi, hb⟩, least_eq hi hb hj]
theorem signalsOk_0 (h : netOk n = ⟨0, 0⟩) (h2 : ¬ 60 < ss.length) (h3 : ∀ j, j < ss.length → ¬ sbad3 n ss j) (h4 : ∀ j, j < ss.length → ¬ sbad4 ss j) : signalsOk n ss = ⟨0, 0⟩ := by
  unfold signalsOk
  rw [if_neg (fun e => e h), if_neg h2, if_neg (fun ⟨j, a, b⟩ => h3 j a b), if_neg (fun ⟨j, a, b⟩ => h4 j a b)]
theorem before_zero {i : Nat} : ¬ before ss i 0 := fun ⟨j, _, _, h, _⟩ => by omega
theorem before_snoc {i k : Nat} {a b : Signal} (h : ¬ before ss i k) (ha : ss[k]? = some a) (hb : ss[i]? = some b) (hc : ¬ clash a b) : ¬ before ss i (k + 1) := by
  rintro ⟨j, a', b', hj, h1, h2, h3⟩
  rw [hb] at h2
  obtain rfl := Option.some.inj h2
  by_cases e : j = k
  · subst e
    rw [ha] at h1
    obtain rfl := Option.some.inj h1
    exact hc h3
  · exact h ⟨j, a', b, by omega, h1, hb, h3⟩
theorem netOk_code (n : Net) : (netOk n).code = 0 ↔ netOk n = ⟨0, 0⟩ := by
  constructor
  · unfold netOk
    intro h
    split at h
    · simp at h
    split at h
    · simp at h
    split at h
    · simp at h
    split at h
    · simp at h
    split at h
    · simp at h
    · rename_i g1 g2 g3 g4 g5
      rw [if_neg g1, if_neg g2, if_neg g3, if_neg g4, if_neg g5]
  · intro h
    rw [h]
theorem pieces_of_ok (h : netOk n = ⟨0, 0⟩) : 0 < n.pieces.length ∧ n.pieces.length ≤ 100 ∧ n.joints.length ≤ 120 ∧ ∀ p ∈ n.pieces, pieceP p := by
  unfold netOk at h
  split at h
  · simp at h
  rename_i g1
  split at h
  · simp at h
  rename_i g2
  refine ⟨Nat.pos_of_ne_zero (fun e => g1 (.inl e)), Nat.le_of_not_lt (fun e => g1 (.inr (.inl e))), Nat.le_of_not_lt (fun e => g1 (.inr (.inr e))), fun p hp => Classical.byContradiction fun hb => ?_⟩
  obtain ⟨i, hi⟩ := List.mem_iff_getElem?.1 hp
  exact g2 ⟨i, (List.getElem?_eq_some_iff.1 hi).1, p, hi, .inl hb⟩
end
theorem l1in_q {x a b : Int} {r : Bool} {w : World} (h : decide (a ≤ x ∧ x ≤ b) = r) : Calls Tryz.prog 66 #[.int .i64 x, .int .i64 a, .int .i64 b] w fun e w' => e = .returned (.bool r) ∧ w' = w := by
  subst h
  exact (l1in x a b w).mono fun e w' ⟨h1, h2⟩ => ⟨h1, h2.symm⟩
theorem str_eq {a b : ByteArray} (h : a = b) : (a.toList == b.toList) = true := by
  rw [h]
  exact beq_self_eq_true _
theorem int_eqf {a b : Int} (h : ¬ a = b) : (a == b) = false := by simpa using h
theorem int_eqt {a b : Int} (h : a = b) : (a == b) = true := by simpa using h
set_option maxHeartbeats 1000000 in
theorem l1ok {ok : Nat → Prop} (n : Net) (A0 A1 : Option Addr) (c0 c1 : Nat) (w : World) (hp : pieceK.C w ok A0 n.pieces) (hj : (jointK 177).C w ok A1 n.joints) (hfit : Hid n.fit) (hu : Hid (∀ e, uses n.joints e ≤ 1048576)) :
    Calls Tryz.prog 91 #[.agg #[.slice A0 n.pieces.length c0, .slice A1 n.joints.length c1]] w (RetB (eqv (netOk n) ⟨0, 0⟩) w) := by
  obtain ⟨f, hf⟩ : ∃ f, Hid (netOk n = f) := ⟨_, Lib.hid rfl⟩
  by_cases h : netOk n = ⟨0, 0⟩
  · have HE : Hid (eqv (netOk n) ⟨0, 0⟩ = true) := Lib.hid (eqv_true h)
    have HN := Lib.hid h
    have hk0 : (((0 : Int)) == 0) = true := rfl
    clear h
    go_enter Tryz.func91, Tryz.ntmps91
    go_wp2_with fail
    refine (specNetOk n A0 A1 c0 c1 _ (Kn.C_below (below_alloc _ _) hp) (Kn.C_below (below_alloc _ _) hj) hfit hu).mono ?_
    rintro e w1 ⟨rfl, hb1⟩
    rw [HN.out]
    go_wp2
    go_ret
    exact ⟨by rw [HE.out]; rfl, (((below_alloc _ _).trans (hb1.mono (by simp))).alloc (by have := hb1.size; simp at this; omega) _)⟩
  · have HE : Hid (eqv (netOk n) ⟨0, 0⟩ = false) := Lib.hid (eqv_false h)
    have hk0 : ((netOk n).code == 0) = false := int_eqf (fun e => h ((netOk_code n).1 e))
    clear h
    go_enter Tryz.func91, Tryz.ntmps91
    go_wp2_with fail
    refine (specNetOk n A0 A1 c0 c1 _ (Kn.C_below (below_alloc _ _) hp) (Kn.C_below (below_alloc _ _) hj) hfit hu).mono ?_
    rintro e w1 ⟨rfl, hb1⟩
    go_wp2
    go_ret
    exact ⟨by rw [HE.out]; rfl, (((below_alloc _ _).trans (hb1.mono (by simp))).alloc (by have := hb1.size; simp at this; omega) _)⟩
set_option maxHeartbeats 2000000 in
theorem l1before {ok : Nat → Prop} (ss : List Signal) (A0 : Option Addr) (c0 i : Nat) (w : World) (hs : signalK.C w ok A0 ss) (hi : i < ss.length) : Calls Tryz.prog 93 #[.slice A0 ss.length c0, .int .i64 i] w (RetB (pv (before ss i i)) w) := by
  have hm := hs.1
  go_enter Tryz.func93, Tryz.ntmps93
  go_wp2
  go_loopw [5] (fun i0 wr => ∃ k : Nat, k ≤ i ∧ i0 = .int .i64 k ∧ Hid (¬ before ss i k) ∧ Below w.heap.size w wr) (fun i0 _ => i - (intOf i0).toNat)
  case atStart => exact ⟨0, Nat.zero_le _, rfl, Lib.hid before_zero, Below.refl _ _⟩
  case round =>
    obtain ⟨k, hk, rfl, HB, hb⟩ := hrel
    by_cases hlt : k < i
    · obtain ⟨a0, rfl, y0, y1, y2, y3, E0, g0, g1, g2, g3⟩ := signalK_at (Kn.C_below hb hs) k (by omega)
      obtain ⟨a1, he, z0, z1, z2, z3, E1, k0, k1, k2, k3⟩ := signalK_at (Kn.C_below hb hs) i hi
      obtain rfl := Option.some.inj he
      have i0 : (0 : Int) ≤ (k : Int) := Int.natCast_nonneg _
      have i1 : (k : Int) < (ss.length : Int) := by omega
      have i2 : (0 : Int) ≤ (i : Int) := Int.natCast_nonneg _
      have i3 : (i : Int) < (ss.length : Int) := by omega
      have i4 : (k : Int) < (i : Int) := by omega
      have gb0 := World.block_lt_of_cell? _ _ k0
      have gb0' : (a0.add (i * 4)).block < wr.heap.size := gb0
      have hbx := (hb.alloc hb.size (Obj.cells #[.string y0, .int .i64 y1, .int .i64 y2, .int .i64 y3] 70)).alloc (by have := hb.size; simp; omega) (Obj.cells #[.string z0, .int .i64 z1, .int .i64 z2, .int .i64 z3] 70)
      by_cases q0 : y0 = z0
      · have d0 := str_eq q0
        have HN : Hid (pv (before ss i i) = true) := Lib.hid (pv_true ⟨k, _, _, hlt, E0.out, E1.out, (.inl q0 : clash ⟨y0, y1, y2, y3⟩ ⟨z0, z1, z2, z3⟩)⟩)
        clear q0
        go_wp2
        go_ret
        exact ⟨by rw [HN.out]; rfl, hbx⟩
      have d0 := str_ne q0
      by_cases q1 : y1 = z1
      rotate_left
      · have d1 := int_eqf q1
        have HN := Lib.hid (before_snoc HB.out E0.out E1.out (fun h => by rcases h with h | h; exact q0 h; exact q1 h.1))
        clear q0 q1
        go_wp2
        go_roundw
        case rel => exact ⟨k + 1, by omega, by go_num, HN, hbx⟩
        case measure => simp [intOf]; omega
      have d1 := int_eqt q1
      by_cases q2 : y2 = z2
      rotate_left
      · have d2 := int_eqf q2
        have HN := Lib.hid (before_snoc HB.out E0.out E1.out (fun h => by rcases h with h | h; exact q0 h; exact q2 h.2.1))
        clear q0 q1 q2
        go_wp2
        go_roundw
        case rel => exact ⟨k + 1, by omega, by go_num, HN, hbx⟩
        case measure => simp [intOf]; omega
      have d2 := int_eqt q2
      by_cases q3 : y3 = z3
      rotate_left
      · have d3 := int_eqf q3
        have HN := Lib.hid (before_snoc HB.out E0.out E1.out (fun h => by rcases h with h | h; exact q0 h; exact q3 h.2.2))
        clear q0 q1 q2 q3
        go_wp2
        go_roundw
        case rel => exact ⟨k + 1, by omega, by go_num, HN, hbx⟩
        case measure => simp [intOf]; omega
      have d3 := int_eqt q3
      have HN : Hid (pv (before ss i i) = true) := Lib.hid (pv_true ⟨k, _, _, hlt, E0.out, E1.out, (.inr ⟨q1, q2, q3⟩ : clash ⟨y0, y1, y2, y3⟩ ⟨z0, z1, z2, z3⟩)⟩)
      clear q0 q1 q2 q3
      go_wp2
      go_ret
      exact ⟨by rw [HN.out]; rfl, hbx⟩
    · obtain rfl : k = i := by omega
      have HN : Hid (pv (before ss k k) = false) := Lib.hid (pv_false HB.out)
      go_wp2
      go_ret
      exact ⟨by rw [HN.out]; rfl, hb⟩
end Go.Proofs.YtpggopdojhodaaaGreatDoor.L
