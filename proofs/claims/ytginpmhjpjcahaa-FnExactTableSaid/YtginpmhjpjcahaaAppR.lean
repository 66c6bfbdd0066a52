/- append of one element that is one's own onto a row of one's own. Lemmas alone; no program is named. -/
import Derived.Test.YtginpmhjpjcahaaApp
namespace Go.Proofs.Ytginpmhjpjcahaa.L
open Go.RowKit
set_option linter.unusedVariables false
section
variable {α : Type} {d : Kn α} {P : Program} (w : World)
theorem R_nil {d : Kn α} {e : Nat} {w : World} : d.R e w (.slice none 0 0) [] := ⟨[], World.ownsRow_nil w 0 e d.sz, fun j p h => by simp at h, by simp [Kn.foot, Value.ownBlock]⟩
theorem run_append_R (t ty e : TypeId) (i : TypeInfo) (z : Value) (bytes : Nat) (ht : P.underlying t = some (.slice e)) (hi : P.info? e = some i) (hz : i.zero = some z)
    (hsize : i.size = d.sz) (hby : i.bytes = bytes) (hzs : z.cells.size = d.sz) (hsz : 0 < d.sz)
    (v : Value) (ps : List (α × List Nat)) (hown : d.R e w v ps) (ad : Addr) (x : α) (cs : List Value) (F : List Nat) (hO : d.O w x cs F) (hcells : ∀ (i : Nat) (u : Value), cs[i]? = some u → w.cell? (ad.add i) = some u) (hdis : ∀ b, b ∈ F → ¬ b ∈ Kn.foot v ps)
    (h63 : ps.length + 1 ≤ maxLen) (hbytes : (ps.length + 1) * bytes ≤ 140737488355328) (c : Nat) :
    ∃ v' w', (Builtin.append_ #[t, t] ty #[v, .slice (some ad) 1 c]).run P w = .ok v' w' ∧ d.R e w' v' (ps ++ [(x, F)]) ∧ w.grownBy w' v.ownBlock ∧ (v'.ownBlock = v.ownBlock ∨ v'.ownBlock = some w.heap.size) := by
  have hlt := Kn.R_lt hown
  obtain ⟨inner, ho, hit, hnd⟩ := hown
  have hK := d.K_of hO
  have hcl := d.K_len hK
  obtain ⟨v', w', hrun, h2, h3, _, h5⟩ := run_append_own_at (P := P) w 0 t ty e i z d.sz bytes ht hi hz hsize hby hzs hsz v ps.length inner ho ad 1 c cs (by rw [hcl, Nat.one_mul]) hcells (d.K_one hK) h63 hbytes (Nat.zero_le _)
  have hnd' := hnd
  unfold Kn.foot at hnd'
  rw [List.nodup_append] at hnd'
  have hno : ∀ b, b ∈ (ps.map Prod.snd).flatten → ¬ some b = v.ownBlock := fun b hb e => hnd'.2.2 b (by rw [← e]; simp) b hb rfl
  refine ⟨v', w', hrun, ⟨inner ++ cs, by rw [List.length_append]; exact h2, fun j p hj => ?_, ?_⟩, h3, h5⟩
  · by_cases hjl : j < ps.length
    · rw [List.getElem?_append_left hjl] at hj
      have hle : j * d.sz + d.sz ≤ ps.length * d.sz := by rw [← Nat.succ_mul]; exact Nat.mul_le_mul_right _ hjl
      have hil := ho.1
      rw [List.drop_append_of_le_length (by omega), List.take_append_of_le_length (by rw [List.length_drop]; omega)]
      refine d.O_move (fun b hb => h3.block b (hlt b (Kn.mem_foot_item hj hb)) (hno b ?_)) (hit j p hj)
      exact List.mem_flatten.2 ⟨p.2, List.mem_map.2 ⟨p, List.mem_of_getElem? hj, rfl⟩, hb⟩
    · have hjl' := (List.getElem?_eq_some_iff.1 hj).1
      rw [List.length_append, List.length_singleton] at hjl'
      obtain rfl : j = ps.length := by omega
      rw [List.getElem?_append_right (Nat.le_refl _), Nat.sub_self] at hj
      obtain rfl := Option.some.inj hj
      have hil := ho.1
      rw [← hil, List.drop_left, List.take_of_length_le (by omega)]
      refine d.O_move (fun b hb => h3.block b (d.O_lt hO b hb) (fun e => hdis b hb ?_)) hO
      exact Kn.mem_foot_own e.symm
  · unfold Kn.foot
    rw [List.map_append, List.flatten_append, List.nodup_append]
    refine ⟨by cases v'.ownBlock <;> simp, ?_, fun a ha b hb e => ?_⟩
    · rw [List.nodup_append]
      refine ⟨hnd'.2.1, by simpa using d.O_nodup hO, fun a ha b hb e => ?_⟩
      subst e
      exact hdis a (by simpa using hb) (List.mem_append_right _ ha)
    · subst e
      rw [Option.mem_toList] at ha
      rcases List.mem_append.1 hb with hb | hb
      · rcases h5 with h5 | h5
        · exact hno a hb (by rw [← h5]; exact ha.symm)
        · rw [h5] at ha
          injection ha with ha
          have := hlt a (List.mem_append_right _ hb)
          omega
      · have hb' : a ∈ F := by simpa using hb
        rcases h5 with h5 | h5
        · exact hdis a hb' (Kn.mem_foot_own (by rw [← h5]; exact ha))
        · rw [h5] at ha
          injection ha with ha
          have := d.O_lt hO a hb'
          omega
theorem wp_append_R {o : Oper} {a : Act} {K : Act → World → Prop} {Q : Exit → Act → World → Prop} (s x : Operand) (t : TypeId)
    (ho : o.op = .call { callee := .builtin .append, args := #[s, x], argTypes := #[t, t] })
    (e : TypeId) (i : TypeInfo) (z : Value) (bytes : Nat) (ht : P.underlying t = some (.slice e)) (hi : P.info? e = some i) (hz : i.zero = some z)
    (hsize : i.size = d.sz) (hby : i.bytes = bytes) (hzs : z.cells.size = d.sz) (hsz : 0 < d.sz)
    (v : Value) (ps : List (α × List Nat)) (hs : a.eval s = v) (hown : d.R e w v ps) (ad : Addr) (y : α) (cs : List Value) (F : List Nat) (c : Nat) (hx : a.eval x = .slice (some ad) 1 c) (hO : d.O w y cs F) (hcells : ∀ (i : Nat) (u : Value), cs[i]? = some u → w.cell? (ad.add i) = some u) (hdis : ∀ b, b ∈ F → ¬ b ∈ Kn.foot v ps)
    (h63 : ps.length + 1 ≤ maxLen) (hbytes : (ps.length + 1) * bytes ≤ 140737488355328)
    (h : ∀ v' w', d.R e w' v' (ps ++ [(y, F)]) → w.grownBy w' v.ownBlock → (v'.ownBlock = v.ownBlock ∨ v'.ownBlock = some w.heap.size) → K (a.put o.dst v') w') : o.wp P a w K Q := by
  obtain ⟨v', w', hrun, h2, h3, h4⟩ := run_append_R (P := P) w t o.type e i z bytes ht hi hz hsize hby hzs hsz v ps hown ad y cs F hO hcells hdis h63 hbytes c
  unfold Oper.wp execOp
  simp only [ho, resolve, invoke, builtin, Sem.run_bind, Sem.run_pure, Result.andThen_ok, List.map_toArray, List.map_cons, List.map_nil, hs, hx, hrun]
  exact h v' w' h2 h3 h4
theorem wpList_append_R {ops : Array Oper} {rest : List Oper} {o : Oper} {a : Act} {Q : Exit → Act → World → Prop} (hgd : o.guard = none) (s x : Operand) (t : TypeId)
    (ho : o.op = .call { callee := .builtin .append, args := #[s, x], argTypes := #[t, t] })
    (e : TypeId) (i : TypeInfo) (z : Value) (bytes : Nat) (ht : P.underlying t = some (.slice e)) (hi : P.info? e = some i) (hz : i.zero = some z)
    (hsize : i.size = d.sz) (hby : i.bytes = bytes) (hzs : z.cells.size = d.sz) (hsz : 0 < d.sz)
    (v : Value) (ps : List (α × List Nat)) (hs : a.eval s = v) (hown : d.R e w v ps) (ad : Addr) (y : α) (cs : List Value) (F : List Nat) (c : Nat) (hx : a.eval x = .slice (some ad) 1 c) (hO : d.O w y cs F) (hcells : ∀ (i : Nat) (u : Value), cs[i]? = some u → w.cell? (ad.add i) = some u) (hdis : ∀ b, b ∈ F → ¬ b ∈ Kn.foot v ps)
    (h63 : ps.length + 1 ≤ maxLen) (hbytes : (ps.length + 1) * bytes ≤ 140737488355328)
    (h : ∀ v' w', d.R e w' v' (ps ++ [(y, F)]) → w.grownBy w' v.ownBlock → (v'.ownBlock = v.ownBlock ∨ v'.ownBlock = some w.heap.size) → wpList P ops Q rest (a.put o.dst v') w') : wpList P ops Q (o :: rest) a w :=
  wpList_plain hgd fun _ hK => wp_append_R w s x t ho e i z bytes ht hi hz hsize hby hzs hsz v ps hs hown ad y cs F c hx hO hcells hdis h63 hbytes fun v' w' h2 h3 h4 => hK _ _ (h v' w' h2 h3 h4)
end
/-- Where the new foot lies. -/
theorem foot_next {α : Type} {v v' : Value} {ps : List (α × List Nat)} {x : α} {F : List Nat} {B s : Nat} (h : ∀ b, b ∈ Kn.foot v ps → B ≤ b) (hF : ∀ b, b ∈ F → B ≤ b) (ha : v'.ownBlock = v.ownBlock ∨ v'.ownBlock = some s) (hs : B ≤ s) : ∀ b, b ∈ Kn.foot v' (ps ++ [(x, F)]) → B ≤ b := by
  intro b hb
  unfold Kn.foot at hb
  rw [List.map_append, List.flatten_append] at hb
  rcases List.mem_append.1 hb with hb | hb
  · rw [Option.mem_toList] at hb
    rcases ha with ha | ha
    · exact h b (Kn.mem_foot_own (by rw [← ha]; exact hb))
    · rw [ha] at hb
      injection hb with hb
      omega
  · rcases List.mem_append.1 hb with hb | hb
    · exact h b (List.mem_append_right _ hb)
    · exact hF b (by simpa using hb)
end Go.Proofs.Ytginpmhjpjcahaa.L
