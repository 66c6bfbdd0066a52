/- What a route needs, and why two routes exclude each other, as plain functions. No program is named. -/
import Derived.Test.YtginpmhjpjcahaaEqR
import Derived.Test.YtginpmhjpjcahaaNet
namespace Go.Proofs.Ytginpmhjpjcahaa.L
open Go.RowKit
open Classical
set_option linter.unusedVariables false
/-- What is needed by the first k flanks. -/
noncomputable def needsTo (ls : List Lie) (fs : List Flank) : Nat → List Lie
  | 0 => ls
  | k + 1 => match fs[k]? with
    | none => needsTo ls fs k
    | some f => if f.kind = 3 ∧ ¬ (⟨f.of_, f.lie⟩ : Lie) ∈ needsTo ls fs k then needsTo ls fs k ++ [⟨f.of_, f.lie⟩] else needsTo ls fs k
noncomputable def needs (r : Route) : List Lie := needsTo r.lies r.flanks r.flanks.length
section
variable {ls : List Lie} {fs : List Flank} {k : Nat} {f : Flank}
theorem needsTo_len (ls : List Lie) (fs : List Flank) : ∀ k, (needsTo ls fs k).length ≤ ls.length + k
  | 0 => Nat.le_refl _
  | k + 1 => by
    have := needsTo_len ls fs k
    unfold needsTo
    split
    · omega
    split
    · rw [List.length_append, List.length_singleton]
      omega
    · omega
theorem needsTo_skip (h : fs[k]? = some f) (hk : ¬ f.kind = 3) : needsTo ls fs (k + 1) = needsTo ls fs k := by
  rw [needsTo]
  simp only [h]
  rw [if_neg (fun e => hk e.1)]
theorem needsTo_had (h : fs[k]? = some f) (hm : (⟨f.of_, f.lie⟩ : Lie) ∈ needsTo ls fs k) : needsTo ls fs (k + 1) = needsTo ls fs k := by
  rw [needsTo]
  simp only [h]
  rw [if_neg (fun e => e.2 hm)]
theorem needsTo_new (h : fs[k]? = some f) (hk : f.kind = 3) (hm : ¬ (⟨f.of_, f.lie⟩ : Lie) ∈ needsTo ls fs k) : needsTo ls fs (k + 1) = needsTo ls fs k ++ [⟨f.of_, f.lie⟩] := by
  rw [needsTo]
  simp only [h]
  rw [if_pos ⟨hk, hm⟩]
end
section
variable {ls : List Lie} {fs : List Flank} {k : Nat} {f : Flank}
theorem needsTo_put (h : fs[k]? = some f) (hk : f.kind = 3) : needsTo ls fs (k + 1) = if pv ((⟨f.of_, f.lie⟩ : Lie) ∈ needsTo ls fs k) = true then needsTo ls fs k else needsTo ls fs k ++ [⟨f.of_, f.lie⟩] := by
  by_cases hm : (⟨f.of_, f.lie⟩ : Lie) ∈ needsTo ls fs k
  · rw [needsTo_had h hm, if_pos (pv_true hm)]
  · rw [needsTo_new h hk hm, if_neg (by rw [pv_false hm]; simp)]
end
/-- Among the first k. -/
def inTo {α : Type} (xs : List α) (k : Nat) (x : α) : Prop := ∃ j, j < k ∧ xs[j]? = some x
theorem inTo_zero {α : Type} {xs : List α} {x : α} : ¬ inTo xs 0 x := fun ⟨j, h, _⟩ => by omega
theorem inTo_snoc {α : Type} {xs : List α} {k : Nat} {x y : α} (h : ¬ inTo xs k x) (hy : xs[k]? = some y) (hne : ¬ y = x) : ¬ inTo xs (k + 1) x := by
  rintro ⟨j, hj, hx⟩
  by_cases e : j = k
  · subst e
    rw [hy] at hx
    exact hne (Option.some.inj hx)
  · exact h ⟨j, by omega, hx⟩
theorem inTo_all {α : Type} {xs : List α} {x : α} (h : ¬ inTo xs xs.length x) : ¬ x ∈ xs := fun hm => by
  obtain ⟨j, hj⟩ := List.mem_iff_getElem?.1 hm
  exact h ⟨j, (List.getElem?_eq_some_iff.1 hj).1, hj⟩
/-! ### why two exclude each other -/
def meets (x y : Part) : Prop := x.piece = y.piece ∧ x.frm ≤ y.til ∧ y.frm ≤ x.til
def touch (a b : List Part) : Prop := ∃ x, x ∈ a ∧ ∃ y, y ∈ b ∧ meets x y
def crossP (a b : List Int) : Prop := ∃ x, x ∈ a ∧ x ∈ b
def against (x y : Lie) : Prop := x.joint = y.joint ∧ ¬ x.lie = y.lie
def needP (a b : Route) : Prop := ∃ x, x ∈ needs a ∧ ∃ y, y ∈ needs b ∧ against x y
noncomputable def excl (a b : Route) : Int :=
  if touch a.parts b.parts then 1 else if crossP a.crosses b.crosses then 2 else if needP a b then 3 else if touch a.over b.parts ∨ touch a.parts b.over then 4 else 0
end Go.Proofs.Ytginpmhjpjcahaa.L
