/- append onto a row of one's own (Rw): one element, or another slice's. Lemmas alone; no program is named. -/
import Derived.Test.YtginpmhjpjcahaaKeep
import Derived.Maps.AppendAt
import Derived.OwnWalk
namespace Go.Proofs.Ytginpmhjpjcahaa.L
open Go.RowKit
set_option linter.unusedVariables false
namespace Kn
variable {α : Type} {d : Kn α} {w w1 : World} {ok : Nat → Prop}
/-- What is to be appended lies from an address on. -/
def Src (d : Kn α) (w : World) (ok : Nat → Prop) (A : Option Addr) (ys : List α) : Prop :=
  0 < ys.length → ∃ ad, A = some ad ∧ ∀ j x, ys[j]? = some x → ∃ c, d.K w ok x c ∧ ∀ i u, c[i]? = some u → w.cell? (ad.add (j * d.sz + i)) = some u
theorem Src.of_C {ok' : Nat → Prop} {A : Option Addr} {ys : List α} (h : d.C w ok' A ys) (hm : ∀ b, ok' b → b < w.heap.size → ok b) : Src d w ok A ys := fun h0 => by
  obtain ⟨ad, e, ho, hl, hx⟩ := h.2 h0
  refine ⟨ad, e, fun j x hj => ?_⟩
  obtain ⟨c, hk, hc⟩ := hx j x hj
  exact ⟨c, d.K_mono (fun b hb => hm b hb.1 hb.2) (d.K_bound hk), hc⟩
theorem Src.flat {ok' : Nat → Prop} {A : Option Addr} {ys : List α} (hd : ∀ w ok ok' x cs, d.K w ok x cs → d.K w ok' x cs) (h : d.C w ok' A ys) : Src d w ok A ys := fun h0 => by
  obtain ⟨ad, e, ho, hl, hx⟩ := h.2 h0
  refine ⟨ad, e, fun j x hj => ?_⟩
  obtain ⟨c, hk, hc⟩ := hx j x hj
  exact ⟨c, hd _ _ _ _ _ hk, hc⟩
theorem Src.one {ad : Addr} {x : α} {cs : List Value} (hk : d.K w ok x cs) (hc : ∀ i u, cs[i]? = some u → w.cell? (ad.add i) = some u) : Src d w ok (some ad) [x] := fun _ =>
  ⟨ad, rfl, fun j y hj => by
    obtain ⟨h1, h2⟩ := List.getElem?_eq_some_iff.1 hj
    simp only [List.length_singleton] at h1
    obtain rfl : j = 0 := by omega
    simp only [List.getElem_cons_zero] at h2
    subst h2
    exact ⟨cs, hk, fun i u hu => by rw [Nat.zero_mul, Nat.zero_add]; exact hc i u hu⟩⟩
theorem Src.cells {A : Option Addr} {ys : List α} (h : Src d w ok A ys) : ∃ news : List Value, news.length = ys.length * d.sz ∧ (∀ j y, ys[j]? = some y → d.K w ok y ((news.drop (j * d.sz)).take d.sz)) ∧
    (∀ u ∈ news, u.oneCell' = true) ∧ (0 < ys.length → ∃ ad, A = some ad ∧ ∀ j u, news[j]? = some u → w.cell? (ad.add j) = some u) := by
  rcases Nat.eq_zero_or_pos ys.length with h0 | h0
  · obtain rfl : ys = [] := List.eq_nil_of_length_eq_zero h0
    exact ⟨[], by simp, by simp, by simp, by simp⟩
  obtain ⟨ad, e, hx⟩ := h h0
  have key : ∀ k, k ≤ ys.length → ∃ news : List Value, news.length = k * d.sz ∧ (∀ j y, j < k → ys[j]? = some y → d.K w ok y ((news.drop (j * d.sz)).take d.sz)) ∧ (∀ u ∈ news, u.oneCell' = true) ∧ ∀ j u, news[j]? = some u → w.cell? (ad.add j) = some u := by
    intro k
    induction k with
    | zero => exact fun _ => ⟨[], by simp, fun j y hj => absurd hj (by omega), by simp, by simp⟩
    | succ k ih =>
      intro hk
      obtain ⟨news, h1, h2, h3, h4⟩ := ih (by omega)
      obtain ⟨c, hkk, hc⟩ := hx k _ (List.getElem?_eq_getElem (by omega))
      have hcl := d.K_len hkk
      refine ⟨news ++ c, by rw [List.length_append, h1, hcl, Nat.succ_mul], fun j y hj hy => ?_, fun u hu => ?_, fun j u hu => ?_⟩
      · by_cases hjk : j < k
        · have hle : j * d.sz + d.sz ≤ k * d.sz := by rw [← Nat.succ_mul]; exact Nat.mul_le_mul_right _ hjk
          rw [List.drop_append_of_le_length (by omega), List.take_append_of_le_length (by rw [List.length_drop]; omega)]
          exact h2 j y hjk hy
        · obtain rfl : j = k := by omega
          rw [List.getElem?_eq_getElem (by omega)] at hy
          obtain rfl := Option.some.inj hy
          rw [← h1, List.drop_left, List.take_of_length_le (by omega)]
          exact hkk
      · rcases List.mem_append.1 hu with hu | hu
        · exact h3 u hu
        · exact d.K_one hkk u hu
      · by_cases hjn : j < news.length
        · rw [List.getElem?_append_left hjn] at hu
          exact h4 j u hu
        · rw [List.getElem?_append_right (by omega)] at hu
          have := hc _ u hu
          rwa [← h1, show news.length + (j - news.length) = j by omega] at this
  obtain ⟨news, h1, h2, h3, h4⟩ := key _ (Nat.le_refl _)
  exact ⟨news, h1, fun j y hj => h2 j y (List.getElem?_eq_some_iff.1 hj).1 hj, h3, fun _ => ⟨ad, e, h4⟩⟩
/-- Rows side by side. -/
theorem Rw.app {e : Nat} {v' : Value} {xs ys : List α} {inner news : List Value} (ho' : w1.ownsRow 0 e d.sz v' (xs.length + ys.length) (inner ++ news)) (hl : inner.length = xs.length * d.sz) (hn : news.length = ys.length * d.sz)
    (hi : ∀ j x, xs[j]? = some x → d.K w1 ok x ((inner.drop (j * d.sz)).take d.sz)) (hx : ∀ j y, ys[j]? = some y → d.K w1 ok y ((news.drop (j * d.sz)).take d.sz)) : d.Rw e w1 ok v' (xs ++ ys) := by
  refine ⟨inner ++ news, by rw [List.length_append]; exact ho', fun j y hj => ?_⟩
  by_cases hjl : j < xs.length
  · rw [List.getElem?_append_left hjl] at hj
    have hle : j * d.sz + d.sz ≤ xs.length * d.sz := by rw [← Nat.succ_mul]; exact Nat.mul_le_mul_right _ hjl
    rw [List.drop_append_of_le_length (by omega), List.take_append_of_le_length (by rw [List.length_drop]; omega)]
    exact hi j y hj
  · rw [List.getElem?_append_right (by omega)] at hj
    have := hx _ y hj
    rw [Nat.sub_mul] at this
    have hge : inner.length ≤ j * d.sz := by rw [hl]; exact Nat.mul_le_mul_right _ (by omega)
    rw [List.drop_append, List.drop_eq_nil_of_le hge, List.nil_append, hl]
    exact this
theorem Rw.below {e : Nat} {v : Value} {xs : List α} (hb : Below w.heap.size w w1) (h : d.Rw e w ok v xs) : d.Rw e w1 ok v xs := by
  obtain ⟨inner, ho, hi⟩ := h
  exact ⟨inner, own_move ho (fun k hk => hb.block k (ho.lt k hk).2), fun j x hj => K_below hb (hi j x hj)⟩
theorem Rw.grownK {e : Nat} {v : Value} {xs : List α} {S : Nat → Prop} (hk : Keep S w w1) (hv : ∀ k, v.ownBlock = some k → ¬ S k) (ho : ∀ b, ok b → b < w.heap.size → ¬ S b) (h : d.Rw e w ok v xs) : d.Rw e w1 ok v xs := by
  obtain ⟨inner, hw, hi⟩ := h
  exact ⟨inner, own_move hw (fun k hkk => hk.block k (hw.lt k hkk).2 (hv k hkk)), fun j x hj => d.K_mono (fun b hb => hb.1) (d.K_move (fun b hb => hk.block b hb.2 (ho b hb.1 hb.2)) (d.K_bound (hi j x hj)))⟩
theorem Rw.form1 {e : Nat} {v : Value} {xs : List α} {x : α} (h : d.Rw e w ok v (xs ++ [x])) : ∃ A c, v = .slice A (xs.length + 1) c ∧ xs.length + 1 ≤ c := by
  obtain ⟨A, c, rfl, hc, _⟩ := h.form
  rw [List.length_append, List.length_singleton] at hc ⊢
  exact ⟨A, c, rfl, hc⟩
theorem Rw.formA {e : Nat} {v : Value} {xs ys : List α} (h : d.Rw e w ok v (xs ++ ys)) : ∃ A c, v = .slice A (xs.length + ys.length) c ∧ xs.length + ys.length ≤ c := by
  obtain ⟨A, c, rfl, hc, _⟩ := h.form
  rw [List.length_append] at hc ⊢
  exact ⟨A, c, rfl, hc⟩
/-- Of plain elements: it is a value that is one's own. -/
theorem Rw.own {e : Nat} {v : Value} {xs : List α} (hd : ∀ w ok x cs, d.K w ok x cs → d.O w x cs []) (h : d.Rw e w ok v xs) : (Kn.slice e d).O w xs [v] v.ownBlock.toList := by
  obtain ⟨inner, ho, hi⟩ := h
  refine ⟨v, xs.map (fun x => (x, [])), rfl, by rw [List.map_map]; exact (List.map_id xs).symm, ⟨inner, by rw [List.length_map]; exact ho, fun j p hj => ?_, ?_⟩, ?_⟩
  · rw [List.getElem?_map, Option.map_eq_some_iff] at hj
    obtain ⟨x, hx, rfl⟩ := hj
    exact hd _ _ _ _ (hi j x hx)
  · unfold foot
    rw [show (List.map Prod.snd (xs.map (fun x => (x, ([] : List Nat))))).flatten = [] from by simp]
    rw [List.append_nil]
    cases v.ownBlock <;> simp
  · unfold foot
    rw [show (List.map Prod.snd (xs.map (fun x => (x, ([] : List Nat))))).flatten = [] from by simp]
    rw [List.append_nil]
end Kn
/-- A slice is handed back that the call made. -/
def RetW {α : Type} (e : Nat) (d : Kn α) (ok : Nat → Prop) (xs : List α) (w : World) (en : Ending) (w' : World) : Prop :=
  ∃ v, en = .returned v ∧ d.Rw e w' ok v xs ∧ (∀ b, v.ownBlock = some b → w.heap.size ≤ b) ∧ Below w.heap.size w w'
def nobody : Nat → Prop := fun _ => False
section
variable {α : Type} {d : Kn α} {P : Program} (w : World) {ok : Nat → Prop}
theorem run_append_nil_src (base : Nat) (t ty e : TypeId) (i : TypeInfo) (size : Nat) (ht : P.underlying t = some (.slice e)) (hi : P.info? e = some i)
    (v : Value) (n : Nat) (xs : List Value) (hown : w.ownsRow base e size v n xs) (c : Nat) : (Builtin.append_ #[t, t] ty #[v, .slice none 0 c]).run P w = .ok v w := by
  rcases hown.2 with ⟨rfl, rfl⟩ | ⟨g, cap, cur, rfl, _, _, hnc, _⟩
  · simp [Builtin.append_, run_underlying ht, sizeOf, typeInfo, hi, Builtin.lenOf, Builtin.firstCells]
  · simp [Builtin.append_, run_underlying ht, sizeOf, typeInfo, hi, Builtin.lenOf, Builtin.firstCells, hnc, storeCells]
theorem run_append_rw (t ty e : TypeId) (i : TypeInfo) (z : Value) (bytes : Nat) (ht : P.underlying t = some (.slice e)) (hi : P.info? e = some i) (hz : i.zero = some z)
    (hsize : i.size = d.sz) (hby : i.bytes = bytes) (hzs : z.cells.size = d.sz) (hsz : 0 < d.sz)
    (v : Value) (xs ys : List α) (hown : d.Rw e w ok v xs) (hok : ∀ b, ok b → ¬ v.ownBlock = some b) (A : Option Addr) (m c : Nat) (hm : m = ys.length) (hr : Kn.Src d w ok A ys)
    (h63 : xs.length + m ≤ maxLen) (hbytes : (xs.length + m) * bytes ≤ 140737488355328) :
    ∃ v' w', (Builtin.append_ #[t, t] ty #[v, .slice A m c]).run P w = .ok v' w' ∧ d.Rw e w' ok v' (xs ++ ys) ∧ w.grownBy w' v.ownBlock ∧ (v'.ownBlock = v.ownBlock ∨ v'.ownBlock = some w.heap.size) := by
  subst hm
  obtain ⟨news, n1, n2, n3, n4⟩ := hr.cells
  obtain ⟨inner, ho, hinner⟩ := hown
  have keep : ∀ {w1 : World}, w.grownBy w1 v.ownBlock → ∀ {x : α} {cs : List Value}, d.K w ok x cs → d.K w1 ok x cs := fun hg x cs hk =>
    d.K_mono (fun b hb => hb.1) (d.K_move (fun b hb => hg.block b hb.2 (fun e => hok b hb.1 e.symm)) (d.K_bound hk))
  rcases A with _ | ad
  · have h0 : ys.length = 0 := by
      rcases Nat.eq_zero_or_pos ys.length with h0 | h0
      · exact h0
      · obtain ⟨ad, h, _⟩ := n4 h0
        cases h
    obtain rfl : ys = [] := List.eq_nil_of_length_eq_zero h0
    exact ⟨v, w, run_append_nil_src w 0 t ty e i d.sz ht hi v xs.length inner ho c, by rw [List.append_nil]; exact ⟨inner, ho, hinner⟩, World.grownBy.refl w _, .inl rfl⟩
  · have hcells : ∀ j u, news[j]? = some u → w.cell? (ad.add j) = some u := by
      intro j u hu
      rcases Nat.eq_zero_or_pos ys.length with h0 | h0
      · have hn : news = [] := List.eq_nil_of_length_eq_zero (by rw [n1, h0, Nat.zero_mul])
        subst hn
        simp at hu
      · obtain ⟨ad', h, hc⟩ := n4 h0
        injection h with h
        subst h
        exact hc j u hu
    obtain ⟨v', w', hrun, h2, h3, _, h5⟩ := run_append_own_at (P := P) w 0 t ty e i z d.sz bytes ht hi hz hsize hby hzs hsz v xs.length inner ho ad ys.length c news n1 hcells n3 h63 hbytes (Nat.zero_le _)
    exact ⟨v', w', hrun, Kn.Rw.app h2 ho.1 n1 (fun j x hj => keep h3 (hinner j x hj)) (fun j y hj => keep h3 (n2 j y hj)), h3, h5⟩
theorem wp_append_rw {o : Oper} {a : Act} {K : Act → World → Prop} {Q : Exit → Act → World → Prop} (s x : Operand) (t : TypeId)
    (ho : o.op = .call { callee := .builtin .append, args := #[s, x], argTypes := #[t, t] })
    (e : TypeId) (i : TypeInfo) (z : Value) (bytes : Nat) (ht : P.underlying t = some (.slice e)) (hi : P.info? e = some i) (hz : i.zero = some z)
    (hsize : i.size = d.sz) (hby : i.bytes = bytes) (hzs : z.cells.size = d.sz) (hsz : 0 < d.sz)
    (v : Value) (xs ys : List α) (hs : a.eval s = v) (hown : d.Rw e w ok v xs) (hok : ∀ b, ok b → ¬ v.ownBlock = some b) (A : Option Addr) (m c : Nat) (hx : a.eval x = .slice A m c) (hm : m = ys.length) (hr : Kn.Src d w ok A ys)
    (h63 : xs.length + m ≤ maxLen) (hbytes : (xs.length + m) * bytes ≤ 140737488355328)
    (h : ∀ v' w', d.Rw e w' ok v' (xs ++ ys) → w.grownBy w' v.ownBlock → (v'.ownBlock = v.ownBlock ∨ v'.ownBlock = some w.heap.size) → K (a.put o.dst v') w') : o.wp P a w K Q := by
  obtain ⟨v', w', hrun, h2, h3, h4⟩ := run_append_rw (P := P) w t o.type e i z bytes ht hi hz hsize hby hzs hsz v xs ys hown hok A m c hm hr h63 hbytes
  unfold Oper.wp execOp
  simp only [ho, resolve, invoke, builtin, Sem.run_bind, Sem.run_pure, Result.andThen_ok, List.map_toArray, List.map_cons, List.map_nil, hs, hx, hrun]
  exact h v' w' h2 h3 h4
theorem wpList_append_rw {ops : Array Oper} {rest : List Oper} {o : Oper} {a : Act} {Q : Exit → Act → World → Prop} (hgd : o.guard = none) (s x : Operand) (t : TypeId)
    (ho : o.op = .call { callee := .builtin .append, args := #[s, x], argTypes := #[t, t] })
    (e : TypeId) (i : TypeInfo) (z : Value) (bytes : Nat) (ht : P.underlying t = some (.slice e)) (hi : P.info? e = some i) (hz : i.zero = some z)
    (hsize : i.size = d.sz) (hby : i.bytes = bytes) (hzs : z.cells.size = d.sz) (hsz : 0 < d.sz)
    (v : Value) (xs ys : List α) (hs : a.eval s = v) (hown : d.Rw e w ok v xs) (hok : ∀ b, ok b → ¬ v.ownBlock = some b) (A : Option Addr) (m c : Nat) (hx : a.eval x = .slice A m c) (hm : m = ys.length) (hr : Kn.Src d w ok A ys)
    (h63 : xs.length + m ≤ maxLen) (hbytes : (xs.length + m) * bytes ≤ 140737488355328)
    (h : ∀ v' w', d.Rw e w' ok v' (xs ++ ys) → w.grownBy w' v.ownBlock → (v'.ownBlock = v.ownBlock ∨ v'.ownBlock = some w.heap.size) → wpList P ops Q rest (a.put o.dst v') w') : wpList P ops Q (o :: rest) a w :=
  wpList_plain hgd fun _ hK => wp_append_rw w s x t ho e i z bytes ht hi hz hsize hby hzs hsz v xs ys hs hown hok A m c hx hm hr h63 hbytes fun v' w' h2 h3 h4 => hK _ _ (h v' w' h2 h3 h4)
theorem step_append_rw {ops : Array Oper} {o : Oper} {a : Act} {K : Act → World → Prop} {Q : Exit → Act → World → Prop} {E : Prop} (hgd : o.guard = none) (s x : Operand) (t : TypeId)
    (ho : o.op = .call { callee := .builtin .append, args := #[s, x], argTypes := #[t, t] })
    (e : TypeId) (i : TypeInfo) (z : Value) (bytes : Nat) (ht : P.underlying t = some (.slice e)) (hi : P.info? e = some i) (hz : i.zero = some z)
    (hsize : i.size = d.sz) (hby : i.bytes = bytes) (hzs : z.cells.size = d.sz) (hsz : 0 < d.sz)
    (v : Value) (xs ys : List α) (hs : a.eval s = v) (hown : d.Rw e w ok v xs) (hok : ∀ b, ok b → ¬ v.ownBlock = some b) (A : Option Addr) (m c : Nat) (hx : a.eval x = .slice A m c) (hm : m = ys.length) (hr : Kn.Src d w ok A ys)
    (h63 : xs.length + m ≤ maxLen) (hbytes : (xs.length + m) * bytes ≤ 140737488355328)
    (h : ∀ v' w', d.Rw e w' ok v' (xs ++ ys) → w.grownBy w' v.ownBlock → (v'.ownBlock = v.ownBlock ∨ v'.ownBlock = some w.heap.size) → K (a.put o.dst v') w') :
    if Region.wanted o (yielded ops a.tmps) = true then Oper.wp P o a w K Q else E := by
  have hw : Region.wanted o (yielded ops a.tmps) = true := by simp [Region.wanted, hgd]
  rw [if_pos hw]
  exact wp_append_rw w s x t ho e i z bytes ht hi hz hsize hby hzs hsz v xs ys hs hown hok A m c hx hm hr h63 hbytes h
end
end Go.Proofs.Ytginpmhjpjcahaa.L
