/- The program's NetOk answers the first fault of a net, as the reference's. -/
import Derived.Test.YtginpmhjpjcahaaNet3
import Derived.Test.YtginpmhjpjcahaaMap
import Derived.DeepKeys4
namespace Go.Proofs.Ytginpmhjpjcahaa.L
open Go.RowKit
set_option linter.unusedVariables false
set_option linter.unusedSimpArgs false
/-! ### the two kinds of maps -/
theorem netLaid : laidOutB Try.prog = true := by kernel_rfl
theorem lawStr : WideMaps.KeyLaw Try.prog 9 := WideMaps.string_law Try.underlying9
theorem lawEnd : WideMaps.KeyLaw Try.prog 118 := deep_law_laid netLaid (m := 2) (by omega) (of_decide_eq_true (by kernel_rfl)) (by kernel_rfl) (by kernel_rfl)
theorem zeroBool (w : World) : (zeroValue 4).run Try.prog w = .ok (.bool false) w := by kernel_rfl
theorem zeroInt (w : World) : (zeroValue 3).run Try.prog w = .ok (.int .i64 0) w := by kernel_rfl
theorem keyStr {s : ByteArray} (hs : s.size ≤ 9223372036854775807) : keyOf Try.prog 9 (.string s) = some (.string s.data.toList) := WideMaps.keyOf_string_mk Try.underlying9 hs
theorem keyEnd (a b : Int) (wa : (Lit.int .i64 a).wf = true) (wb : (Lit.int .i64 b).wf = true) : ∃ l, keyOf Try.prog 118 (.agg #[.int .i64 a, .int .i64 b]) = some l := by
  have hk : Try.prog.keyType 118 = true := by kernel_rfl
  obtain ⟨m, hm⟩ : ∃ m, Try.prog.types.size = m + 1 + 1 := ⟨Try.prog.types.size - 2, by kernel_rfl⟩
  have hc : Try.prog.cellsOf 118 = 2 := by kernel_rfl
  have hc3 : Try.prog.cellsOf 3 = 1 := by kernel_rfl
  have hl : Try.prog.keyLits (Try.prog.types.size + 1) 118 [.int .i64 a, .int .i64 b] = some [.int .i64 a, .int .i64 b] := by
    simp [Program.keyLits, hm, Try.underlying118, Try.underlying3, hc, hc3, wa, wb]
  have hf : (Value.agg #[.int .i64 a, .int .i64 b]).formed Try.prog 118 = true := by
    simp [Value.formed, Try.underlying118, hc]
  exact ⟨.string (keyBytes [.int .i64 a, .int .i64 b]), by
    unfold keyOf
    rw [Try.underlying118]
    simp [hk, hf, Value.cells]
    exact ⟨_, by simpa using hl, rfl⟩⟩
noncomputable def nameSet (ns : List ByteArray) : Value → Option Value := fun v => @ite _ (∃ s, s ∈ ns ∧ v = .string s) (Classical.propDecidable _) (some (.bool true)) none
theorem nameSet_nil : nameSet [] = fun _ => none := by
  funext v
  unfold nameSet
  rw [if_neg (fun ⟨s, h, _⟩ => by cases h)]
theorem nameSet_at (ns : List ByteArray) (s : ByteArray) : (nameSet ns (.string s)).getD (.bool false) = .bool (pv (s ∈ ns)) := by
  unfold nameSet
  by_cases h : s ∈ ns
  · rw [if_pos ⟨s, h, rfl⟩, pv_true h]
    rfl
  · rw [if_neg (fun ⟨t, ht, he⟩ => h (by injection he with he; rw [he]; exact ht)), pv_false h]
    rfl
theorem nameSet_snoc (ns : List ByteArray) (s : ByteArray) : upd (nameSet ns) (.string s) (.bool true) = nameSet (ns ++ [s]) := by
  funext v
  by_cases h : v = .string s
  · subst h
    rw [upd_same]
    unfold nameSet
    rw [if_pos ⟨s, List.mem_append_right _ (List.mem_singleton.2 rfl), rfl⟩]
  · rw [upd_other _ h]
    unfold nameSet
    by_cases h2 : ∃ t, t ∈ ns ∧ v = .string t
    · obtain ⟨t, h3, h4⟩ := h2
      rw [if_pos ⟨t, h3, h4⟩, if_pos ⟨t, List.mem_append_left _ h3, h4⟩]
    · rw [if_neg h2, if_neg (fun ⟨t, h3, h4⟩ => by
        rcases List.mem_append.1 h3 with h3 | h3
        · exact h2 ⟨t, h3, h4⟩
        · rw [List.mem_singleton.1 h3] at h4
          exact h h4)]
noncomputable def cntF (g : End → Nat) : Value → Option Value := fun v => @dite _ (∃ e : End, v = e.v ∧ g e ≠ 0) (Classical.propDecidable _) (fun h => some (.int .i64 (g h.choose))) (fun _ => none)
theorem endv_inj {x y : End} (h : x.v = y.v) : x = y := by
  obtain ⟨a, b⟩ := x
  obtain ⟨c, d⟩ := y
  simp at h
  rw [h.1, h.2]
theorem cntF_pos {g : End → Nat} {e : End} (h : g e ≠ 0) : cntF g e.v = some (.int .i64 (g e)) := by
  unfold cntF
  have hx : ∃ x : End, e.v = x.v ∧ g x ≠ 0 := ⟨e, rfl, h⟩
  rw [dif_pos hx]
  rw [← endv_inj hx.choose_spec.1]
theorem cntF_zero {g : End → Nat} {e : End} (h : g e = 0) : cntF g e.v = none := by
  unfold cntF
  rw [dif_neg (fun ⟨x, h1, h2⟩ => h2 (by rw [← endv_inj h1]; exact h))]
theorem cntF_at (g : End → Nat) (e : End) : (cntF g e.v).getD (.int .i64 0) = .int .i64 (g e) := by
  by_cases h : g e = 0
  · rw [cntF_zero h, h]
    rfl
  · rw [cntF_pos h]
    rfl
theorem cntF_nil : cntF (fun _ => 0) = fun _ => none := by
  funext v
  unfold cntF
  rw [dif_neg (fun ⟨x, _, h⟩ => h rfl)]
theorem cntF_snoc (g g' : End → Nat) (e : End) (h1 : g' e = g e + 1) (h2 : ∀ x, ¬ x = e → g' x = g x) : upd (cntF g) e.v (.int .i64 (g e + 1 : Nat)) = cntF g' := by
  funext v
  by_cases h : v = e.v
  · subst h
    rw [upd_same, cntF_pos (by omega), h1]
  · rw [upd_other _ h]
    by_cases hv : ∃ x : End, v = x.v
    · obtain ⟨x, rfl⟩ := hv
      have hx : ¬ x = e := fun he => h (by rw [he])
      have := h2 x hx
      by_cases h0 : g x = 0
      · rw [cntF_zero h0, cntF_zero (by omega)]
      · rw [cntF_pos h0, cntF_pos (by omega), this]
    · unfold cntF
      rw [dif_neg (fun ⟨x, hx, _⟩ => hv ⟨x, hx⟩), dif_neg (fun ⟨x, hx, _⟩ => hv ⟨x, hx⟩)]
end Go.Proofs.Ytginpmhjpjcahaa.L
