/- The law FnExactRoutes, walked: it answers true. -/
import Derived.Test.YtpggopdojhodaaaGreatQk
import Derived.Laws.BytesArg
namespace Go.Proofs.YtpggopdojhodaaaGreat.L
open Go.RowKit
set_option linter.unusedVariables false
set_option linter.unusedSimpArgs false
theorem drop_cells {inner cs : List Value} {j sz n : Nat} (hl : inner.length = n * sz) (hj : j < n) (h : (inner.drop (j * sz)).take sz = cs) (i : Nat) (hi : i < sz) : inner[j * sz + i]? = cs[i]? := by
  rw [← h, List.getElem?_take, if_pos hi, List.getElem?_drop]
theorem O_slice {α : Type} {d : Kn α} {e : Nat} {w : World} {xs : List α} {v : Value} {F : List Nat} (h : (Kn.slice e d).O w xs [v] F) : ∃ A c, v = .slice A xs.length c := by
  obtain ⟨A, c, he, _, _⟩ := (Kn.slice e d).K_of h
  injection he with he _
  exact ⟨A, c, he⟩
def Wrote (A : Option Addr) (n c : Nat) (ps : List (Route × List Nat)) (j b : Nat) : Prop := (Value.slice A n c).ownBlock = some b ∨ Firsts ps j b
end Go.Proofs.YtpggopdojhodaaaGreat.L
namespace Go.Proofs.YtpggopdojhodaaaGreat.L
open Go.RowKit
open Classical
set_option linter.unusedVariables false
set_option linter.unusedSimpArgs false
structure Ap (B : Nat) (A : Option Addr) (c : Nat) (rs : List Route) (inner0 inner : List Value) (ps : List (Route × List Nat)) (i : Nat) (w : World) : Prop where
  row : w.ownsRow 0 80 8 (.slice A rs.length c) rs.length inner
  same : ∀ m, 8 * i ≤ m → inner[m]? = inner0[m]?
  firsts : ps.map Prod.fst = rs.take i
  items : Kn.Items rK w ps inner
  nodup : (ps.map Prod.snd).flatten.Nodup
  above : ∀ b, b ∈ (ps.map Prod.snd).flatten → B ≤ b
theorem set6_out {inner : List Value} {k m : Nat} {s2 s3 s4 s5 s6 s7 : Value} (h : m < k ∨ k + 6 ≤ m) : ((((((inner.set k s2).set (k + 1) s3).set (k + 2) s4).set (k + 3) s5).set (k + 4) s6).set (k + 5) s7)[m]? = inner[m]? := by
  rw [List.getElem?_set_ne (by omega), List.getElem?_set_ne (by omega), List.getElem?_set_ne (by omega), List.getElem?_set_ne (by omega), List.getElem?_set_ne (by omega), List.getElem?_set_ne (by omega)]
theorem set6_in {inner : List Value} {k : Nat} {s2 s3 s4 s5 s6 s7 : Value} (h : k + 6 ≤ inner.length) : ∀ i, i < 6 → ((((((inner.set k s2).set (k + 1) s3).set (k + 2) s4).set (k + 3) s5).set (k + 4) s6).set (k + 5) s7)[k + i]? = [s2, s3, s4, s5, s6, s7][i]? := by
  intro i hi
  match i, hi with
  | 0, _ => rw [List.getElem?_set_ne (by omega), List.getElem?_set_ne (by omega), List.getElem?_set_ne (by omega), List.getElem?_set_ne (by omega), List.getElem?_set_ne (by omega), Nat.add_zero, List.getElem?_set_self (by omega)]; rfl
  | 1, _ => rw [List.getElem?_set_ne (by omega), List.getElem?_set_ne (by omega), List.getElem?_set_ne (by omega), List.getElem?_set_ne (by omega), List.getElem?_set_self (by simp only [List.length_set]; omega)]; rfl
  | 2, _ => rw [List.getElem?_set_ne (by omega), List.getElem?_set_ne (by omega), List.getElem?_set_ne (by omega), List.getElem?_set_self (by simp only [List.length_set]; omega)]; rfl
  | 3, _ => rw [List.getElem?_set_ne (by omega), List.getElem?_set_ne (by omega), List.getElem?_set_self (by simp only [List.length_set]; omega)]; rfl
  | 4, _ => rw [List.getElem?_set_ne (by omega), List.getElem?_set_self (by simp only [List.length_set]; omega)]; rfl
  | 5, _ => rw [List.getElem?_set_self (by simp only [List.length_set]; omega)]; rfl
theorem Ap.next {B : Nat} {A : Option Addr} {c : Nat} {rs : List Route} {inner0 inner : List Value} {ps : List (Route × List Nat)} {i : Nat} {w wz : World} {x : Route} {s2 s3 s4 s5 s6 s7 : Value} {F : List Nat} {g : Nat} (h : Ap B A c rs inner0 inner ps i w) (hx : rs[i]? = some x) (hA : A = some ⟨g, 0, none⟩)
    (c0 : inner0[i * 8]? = some (.int .i64 x.frm)) (c1 : inner0[i * 8 + 1]? = some (.int .i64 x.til)) (hk : Keep (fun b => b = g) w wz) (hg : g < B) (hB : B ≤ w.heap.size)
    (hrow : wz.ownsRow 0 80 8 (.slice A rs.length c) rs.length ((((((inner.set (i * 8 + 2) s2).set (i * 8 + 3) s3).set (i * 8 + 4) s4).set (i * 8 + 5) s5).set (i * 8 + 6) s6).set (i * 8 + 7) s7))
    (hO : rK.O wz x [.int .i64 x.frm, .int .i64 x.til, s2, s3, s4, s5, s6, s7] F) (hF : ∀ b, b ∈ F → w.heap.size ≤ b) :
    Ap B A c rs inner0 ((((((inner.set (i * 8 + 2) s2).set (i * 8 + 3) s3).set (i * 8 + 4) s4).set (i * 8 + 5) s5).set (i * 8 + 6) s6).set (i * 8 + 7) s7) (ps ++ [(x, F)]) (i + 1) wz := by
  have hil : i < rs.length := (List.getElem?_eq_some_iff.1 hx).1
  have hin : inner.length = rs.length * 8 := h.row.1
  have hpl : ps.length = i := by
    have := congrArg List.length h.firsts
    rw [List.length_map, List.length_take] at this
    omega
  have hold : ∀ b, b ∈ (ps.map Prod.snd).flatten → b < w.heap.size := by
    intro b hb
    obtain ⟨l, hl, hb⟩ := List.mem_flatten.1 hb
    obtain ⟨p, hp, rfl⟩ := List.mem_map.1 hl
    obtain ⟨j, hj⟩ := List.mem_iff_getElem?.1 hp
    exact rK.O_lt (h.items j p hj) b hb
  have hout : ∀ m, m < i * 8 + 2 ∨ i * 8 + 8 ≤ m → ((((((inner.set (i * 8 + 2) s2).set (i * 8 + 3) s3).set (i * 8 + 4) s4).set (i * 8 + 5) s5).set (i * 8 + 6) s6).set (i * 8 + 7) s7)[m]? = inner[m]? := fun m hm => set6_out (k := i * 8 + 2) (by omega)
  refine ⟨hrow, fun m hm => (hout m (by omega)).trans (h.same m (by omega)), ?_, ?_, ?_, ?_⟩
  · rw [List.map_append, h.firsts, List.take_add_one, hx]
    rfl
  · intro j p hj
    rcases Nat.lt_or_ge j i with hji | hji
    · rw [List.getElem?_append_left (by omega)] at hj
      have hch : ((((((((inner.set (i * 8 + 2) s2).set (i * 8 + 3) s3).set (i * 8 + 4) s4).set (i * 8 + 5) s5).set (i * 8 + 6) s6).set (i * 8 + 7) s7)).drop (j * rK.sz)).take rK.sz = (inner.drop (j * rK.sz)).take rK.sz := by
        apply List.ext_getElem?
        intro m
        rw [List.getElem?_take, List.getElem?_take]
        split
        · rename_i hm
          rw [List.getElem?_drop, List.getElem?_drop]
          exact hout _ (.inl (by show j * 8 + m < i * 8 + 2; have : m < 8 := hm; omega))
        · rfl
      rw [hch]
      refine rK.O_move (fun b hb => ?_) (h.items j p hj)
      have hbf : b ∈ (ps.map Prod.snd).flatten := List.mem_flatten.2 ⟨p.2, List.mem_map.2 ⟨p, List.mem_of_getElem? hj, rfl⟩, hb⟩
      exact hk.block b (hold b hbf) (fun e => by have := h.above b hbf; omega)
    · have hjl := (List.getElem?_eq_some_iff.1 hj).1
      rw [List.length_append, List.length_singleton] at hjl
      obtain rfl : j = i := by omega
      rw [List.getElem?_append_right (by omega), hpl, Nat.sub_self] at hj
      obtain rfl := Option.some.inj hj
      have hch : ((((((((inner.set (j * 8 + 2) s2).set (j * 8 + 3) s3).set (j * 8 + 4) s4).set (j * 8 + 5) s5).set (j * 8 + 6) s6).set (j * 8 + 7) s7)).drop (j * rK.sz)).take rK.sz = [.int .i64 x.frm, .int .i64 x.til, s2, s3, s4, s5, s6, s7] := by
        apply List.ext_getElem?
        intro m
        rw [List.getElem?_take]
        split
        · rename_i hm
          have hm8 : m < 8 := hm
          rw [List.getElem?_drop]
          show _[j * 8 + m]? = _
          match m, hm8 with
          | 0, _ => rw [hout _ (by omega), h.same _ (by omega)]; exact c0
          | 1, _ => rw [hout _ (by omega), h.same _ (by omega)]; exact c1
          | m + 2, hm8 => rw [show j * 8 + (m + 2) = j * 8 + 2 + m by omega]; exact set6_in (k := j * 8 + 2) (by omega) m (by omega)
        · rename_i hm
          have hm8 : 8 ≤ m := Nat.le_of_not_lt hm
          rw [List.getElem?_eq_none (by simp; omega)]
      rw [hch]
      exact hO
  · rw [List.map_append, List.flatten_append, List.nodup_append]
    refine ⟨h.nodup, by simpa using rK.O_nodup hO, fun a ha b hb => ?_⟩
    have h1 := hold a ha
    have h2 := hF b (by simpa using hb)
    omega
  · intro b hb
    rw [List.map_append, List.flatten_append] at hb
    rcases List.mem_append.1 hb with hb | hb
    · exact h.above b hb
    · have := hF b (by simpa using hb)
      omega
theorem below_undrew {B : Nat} {w w1 : World} (h : Below B w.drew w1) : Below B w w1 := ⟨h.os, h.tape, h.output, h.size, h.block⟩
theorem Rw_far {α : Type} {d : Kn α} {e g : Nat} {w w1 : World} {v : Value} {xs : List α} (h : d.Rw e w nobody v xs) (hk : Keep (fun b => b = g) w w1) (hg : ¬ v.ownBlock = some g) : d.Rw e w1 nobody v xs :=
  h.grownK hk (fun k hkk e => hg (by rw [hkk, e])) (fun _ h => h.elim)
def RetAp (A : Option Addr) (c : Nat) (rs : List Route) (w : World) (en : Ending) (w' : World) : Prop :=
  en = .returned (.slice A rs.length c) ∧ Hid (∃ ps, rK.R 80 w' (.slice A rs.length c) ps ∧ ps.map Prod.fst = rs ∧ ∀ b, b ∈ (ps.map Prod.snd).flatten → w.heap.size ≤ b) ∧ Keep (fun b => (Value.slice A rs.length c).ownBlock = some b) w w'
set_option maxRecDepth 100000 in
set_option maxHeartbeats 8000000 in
theorem implApart {S : Nat → Prop} (rs : List Route) (A : Option Addr) (c : Nat) (w : World) (hR : rK.Rw 80 w (Out w (fun b => (Value.slice A rs.length c).ownBlock = some b)) (.slice A rs.length c) rs) (hn : Hid (∀ x ∈ rs, x.n ≤ 200000)) :
    Calls Tryz.prog 42 #[.slice A rs.length c] w (RetAp A c rs w) := by
  have hrlen : rs.length ≤ 9223372036854775807 := by obtain ⟨_, _, _, _, h⟩ := hR.form; exact h
  have hlt := Lib.hid hR.lt
  obtain ⟨inner0, ho, hit⟩ := hR
  have HO := Lib.hid ho
  have HI := Lib.hid hit
  clear ho hit
  go_enter Tryz.func42, Tryz.ntmps42
  go_wp2
  go_loopw [7] (fun iv wr => ∃ (i : Nat) (inner : List Value) (ps : List (Route × List Nat)), i ≤ rs.length ∧ iv = .int .i64 i ∧ Hid (Ap w.heap.size A c rs inner0 inner ps i wr) ∧ Hid (Keep (fun b => (Value.slice A rs.length c).ownBlock = some b) w wr)) (fun iv _ => rs.length - (intOf iv).toNat)
  case atStart => exact ⟨0, inner0, [], Nat.zero_le _, rfl, Lib.hid ⟨HO.out, fun _ _ => rfl, by simp, fun j p h => by simp at h, by simp, fun b h => by simp at h⟩, Lib.hid (Keep.refl _ _)⟩
  case round =>
  obtain ⟨i, inner, ps, hi, rfl, HA, HK⟩ := hrel
  by_cases hlt' : i < rs.length
  · have i0 : (0 : Int) ≤ (i : Int) := Int.natCast_nonneg _
    have i1 : (i : Int) < (rs.length : Int) := by omega
    obtain ⟨x, hx⟩ : ∃ x, rs[i]? = some x := ⟨_, List.getElem?_eq_getElem hlt'⟩
    have hxn : x.n ≤ 200000 := hn.out x (List.mem_of_getElem? hx)
    have hxs : x.n = x.steps.length + x.lies.length + x.crosses.length + x.parts.length + x.over.length + x.flanks.length := rfl
    obtain ⟨g, rfl, hgw⟩ : ∃ g, A = some ⟨g, 0, none⟩ ∧ g < w.heap.size := by
      rcases HO.out.2 with ⟨he, h2⟩ | ⟨g, cap, cur, he, _, hh, _, _, _⟩
      · omega
      · injection he with he _ _
        exact ⟨g, he, lt_of_get hh⟩
    have hin : inner0.length = rs.length * 8 := HO.out.1
    have hKx := HI.out i x hx
    obtain ⟨A2, c2, A3, c3, A4, c4, A5, c5, A6, c6, A7, c7, hcs, l2, H2, l3, H3, l4, H4, l5, H5, l6, H6, l7, H7⟩ := routeK_open hKx
    have hdc := drop_cells (sz := 8) hin hlt' hcs
    have H2 := Lib.hid (Kn.C_keep HK.out (fun _ _ h => h) H2)
    have H3 := Lib.hid (Kn.C_keep HK.out (fun _ _ h => h) H3)
    have H4 := Lib.hid (Kn.C_keep HK.out (fun _ _ h => h) H4)
    have H5 := Lib.hid (Kn.C_keep HK.out (fun _ _ h => h) H5)
    have H6 := Lib.hid (Kn.C_keep HK.out (fun _ _ h => h) H6)
    have H7 := Lib.hid (Kn.C_keep HK.out (fun _ _ h => h) H7)
    have HC0 : Hid (inner0[i * 8]? = some (.int .i64 x.frm)) := Lib.hid (hdc 0 (by omega))
    have HC1 : Hid (inner0[i * 8 + 1]? = some (.int .i64 x.til)) := Lib.hid (hdc 1 (by omega))
    have hcl : ∀ m u, m < 8 → [Value.int .i64 x.frm, .int .i64 x.til, .slice A2 x.steps.length c2, .slice A3 x.lies.length c3, .slice A4 x.crosses.length c4, .slice A5 x.parts.length c5, .slice A6 x.over.length c6, .slice A7 x.flanks.length c7][m]? = some u → wr.cell? ⟨g, i * 8 + m, none⟩ = some u := fun m u hm hu => by
      rw [HA.out.row.cellAt _ (by omega), HA.out.same _ (by omega)]
      exact (hdc m hm).trans hu
    have q2 := hcl 2 _ (by omega) rfl
    have f2 : wr.frozen? ⟨g, i * 8 + 2, none⟩ = false := HA.out.row.frozenAt _
    have q3 := hcl 3 _ (by omega) rfl
    have f3 : wr.frozen? ⟨g, i * 8 + 3, none⟩ = false := HA.out.row.frozenAt _
    have q4 := hcl 4 _ (by omega) rfl
    have f4 : wr.frozen? ⟨g, i * 8 + 4, none⟩ = false := HA.out.row.frozenAt _
    have q5 := hcl 5 _ (by omega) rfl
    have f5 : wr.frozen? ⟨g, i * 8 + 5, none⟩ = false := HA.out.row.frozenAt _
    have q6 := hcl 6 _ (by omega) rfl
    have f6 : wr.frozen? ⟨g, i * 8 + 6, none⟩ = false := HA.out.row.frozenAt _
    have q7 := hcl 7 _ (by omega) rfl
    have f7 : wr.frozen? ⟨g, i * 8 + 7, none⟩ = false := HA.out.row.frozenAt _
    have HROa := Lib.hid HA.out.row
    have HXI := Lib.hid hx
    have hgla : g < wr.heap.size := Nat.lt_of_lt_of_le hgw HK.out.size
    have HQ : Hid (wr.cell? ⟨g, i * 8 + 5, none⟩ = some (.slice A5 x.parts.length c5) ∧ wr.cell? ⟨g, i * 8 + 6, none⟩ = some (.slice A6 x.over.length c6) ∧ wr.cell? ⟨g, i * 8 + 7, none⟩ = some (.slice A7 x.flanks.length c7)) := Lib.hid ⟨q5, q6, q7⟩
    clear hcl hdc hcs hKx hin hx l2 l3 l4 l5 l6 l7
    have f5' := Lib.hid f5
    have f6' := Lib.hid f6
    have f7' := Lib.hid f7
    clear q5 q6 q7 f5 f6 f7
    go_upto_region 5 with (fail)
    have HSFa : Hid (∀ w', Below wr.heap.size wr w' → (fun w' => w'.cell? ⟨g, i * 8 + 2, none⟩ = some (.slice A2 x.steps.length c2) ∧ w'.cell? ⟨g, i * 8 + 3, none⟩ = some (.slice A3 x.lies.length c3) ∧ w'.cell? ⟨g, i * 8 + 4, none⟩ = some (.slice A4 x.crosses.length c4)) w') := Lib.hid (fun w' hb => ⟨cell_below hb q2, cell_below hb q3, cell_below hb q4⟩)
    refine Rg.start 18 (fun w' => w'.cell? ⟨g, i * 8 + 2, none⟩ = some (.slice A2 x.steps.length c2) ∧ w'.cell? ⟨g, i * 8 + 3, none⟩ = some (.slice A3 x.lies.length c3) ∧ w'.cell? ⟨g, i * 8 + 4, none⟩ = some (.slice A4 x.crosses.length c4)) 27 rfl (by kernel_rfl) ?_
    have hHeld := HSFa.out _ (Below.refl _ _).drew
    refine Rg.pure 0 (v := ?v1) rfl (by kernel_rfl) (fun _ _ _ h => h) (by rfl) hHeld ?y1 ?h1
    case y1 => (intro wA; go_simp; first | done | with_reducible rfl)
    simp only [Act.put, List.setIfInBounds_toArray, List.set_cons_zero, List.set_cons_succ]
    refine Rg.pure 1 (v := ?v2) rfl (by kernel_rfl) (fun _ _ _ h => h) (by rfl) hHeld ?y2 ?h2
    case y2 => (intro wA; go_simp; first | done | with_reducible rfl)
    simp only [Act.put, List.setIfInBounds_toArray, List.set_cons_zero, List.set_cons_succ]
    refine Rg.pure 2 (v := ?v3) rfl (by kernel_rfl) (fun _ _ _ h => h) (by rfl) hHeld ?y3 ?h3
    case y3 => (intro wA; go_simp; first | done | with_reducible rfl)
    simp only [Act.put, List.setIfInBounds_toArray, List.set_cons_zero, List.set_cons_succ]
    refine Rg.pure 3 (v := ?v4) rfl (by kernel_rfl) (fun _ _ _ h => h) (by rfl) hHeld ?y4 ?h4
    case y4 => (intro wA; go_simp; first | done | with_reducible rfl)
    simp only [Act.put, List.setIfInBounds_toArray, List.set_cons_zero, List.set_cons_succ]
    refine Rg.pure 4 (v := ?v5) rfl (by kernel_rfl) (fun _ _ _ h => h) (by rfl) hHeld ?y5 ?h5
    case y5 => (intro wA; go_simp; first | done | with_reducible rfl)
    simp only [Act.put, List.setIfInBounds_toArray, List.set_cons_zero, List.set_cons_succ]
    refine Rg.pure 5 (v := ?v6) rfl (by kernel_rfl) (fun _ _ _ h => h) (by rfl) hHeld ?y6 ?h6
    case y6 => (intro wA; go_simp; first | done | with_reducible rfl)
    simp only [Act.put, List.setIfInBounds_toArray, List.set_cons_zero, List.set_cons_succ]
    refine Rg.held 6 (v := ?v7) rfl (by kernel_rfl) (fun _ _ _ h => h) (by rfl) hHeld ?y7 ?h7
    case y7 => (intro wA hSw; (try dsimp only at hSw); go_simp; first | done | with_reducible rfl)
    simp only [Act.put, List.setIfInBounds_toArray, List.set_cons_zero, List.set_cons_succ]
    refine Rg.pure 8 (v := ?v8) rfl (by kernel_rfl) (fun _ _ _ h => h) (by rfl) hHeld ?y8 ?h8
    case y8 => (intro wA; go_simp; first | done | with_reducible rfl)
    simp only [Act.put, List.setIfInBounds_toArray, List.set_cons_zero, List.set_cons_succ]
    refine Rg.pure 9 (v := ?v9) rfl (by kernel_rfl) (fun _ _ _ h => h) (by rfl) hHeld ?y9 ?h9
    case y9 => (intro wA; go_simp; first | done | with_reducible rfl)
    simp only [Act.put, List.setIfInBounds_toArray, List.set_cons_zero, List.set_cons_succ]
    refine Rg.pure 10 (v := ?v10) rfl (by kernel_rfl) (fun _ _ _ h => h) (by rfl) hHeld ?y10 ?h10
    case y10 => (intro wA; go_simp; first | done | with_reducible rfl)
    simp only [Act.put, List.setIfInBounds_toArray, List.set_cons_zero, List.set_cons_succ]
    refine Rg.held 11 (v := ?v11) rfl (by kernel_rfl) (fun _ _ _ h => h) (by rfl) hHeld ?y11 ?h11
    case y11 => (intro wA hSw; (try dsimp only at hSw); go_simp; first | done | with_reducible rfl)
    simp only [Act.put, List.setIfInBounds_toArray, List.set_cons_zero, List.set_cons_succ]
    refine Rg.pure 13 (v := ?v12) rfl (by kernel_rfl) (fun _ _ _ h => h) (by rfl) hHeld ?y12 ?h12
    case y12 => (intro wA; go_simp; first | done | with_reducible rfl)
    simp only [Act.put, List.setIfInBounds_toArray, List.set_cons_zero, List.set_cons_succ]
    refine Rg.pure 14 (v := ?v13) rfl (by kernel_rfl) (fun _ _ _ h => h) (by rfl) hHeld ?y13 ?h13
    case y13 => (intro wA; go_simp; first | done | with_reducible rfl)
    simp only [Act.put, List.setIfInBounds_toArray, List.set_cons_zero, List.set_cons_succ]
    refine Rg.pure 15 (v := ?v14) rfl (by kernel_rfl) (fun _ _ _ h => h) (by rfl) hHeld ?y14 ?h14
    case y14 => (intro wA; go_simp; first | done | with_reducible rfl)
    simp only [Act.put, List.setIfInBounds_toArray, List.set_cons_zero, List.set_cons_succ]
    refine Rg.held 16 (v := ?v15) rfl (by kernel_rfl) (fun _ _ _ h => h) (by rfl) hHeld ?y15 ?h15
    case y15 => (intro wA hSw; (try dsimp only at hSw); go_simp; first | done | with_reducible rfl)
    simp only [Act.put, List.setIfInBounds_toArray, List.set_cons_zero, List.set_cons_succ]
    refine Rg.one 7 rfl (by kernel_rfl) (fun K hK => ?_)
    refine step_is_call 86 rfl rfl ?_
    go_simp
    go_at_call 86
    have hbd : Below wr.heap.size wr _ := (Below.refl _ _).drew
    (with_reducible refine (cloneStep x.steps A2 c2 _ (Kn.C_below hbd H2.out) (by omega)).mono ?_)
    rintro e wx2 ⟨B2, d2, rfl, hd2, HR2, HO2, hbc2⟩
    have hbx2 : Below wr.heap.size wr wx2 := hbd.trans (hbc2.mono hbd.size)
    refine hK.out _ _ (HSFa.out _ hbx2) ?_
    clear hK K hbd
    try simp only [Act.put, List.setIfInBounds_toArray, List.set_cons_zero, List.set_cons_succ]
    refine Rg.one 12 rfl (by kernel_rfl) (fun K hK => ?_)
    refine step_is_call 87 rfl rfl ?_
    go_simp
    go_at_call 87
    have hbd : Below wr.heap.size wr _ := hbx2
    (with_reducible refine (cloneLie x.lies A3 c3 _ (Kn.C_below hbd H3.out) (by omega)).mono ?_)
    rintro e wx3 ⟨B3, d3, rfl, hd3, HR3, HO3, hbc3⟩
    have hbx3 : Below wr.heap.size wr wx3 := hbd.trans (hbc3.mono hbd.size)
    refine hK.out _ _ (HSFa.out _ hbx3) ?_
    clear hK K hbd
    try simp only [Act.put, List.setIfInBounds_toArray, List.set_cons_zero, List.set_cons_succ]
    refine Rg.one 17 rfl (by kernel_rfl) (fun K hK => ?_)
    refine step_is_call 88 rfl rfl ?_
    go_simp
    go_at_call 88
    have hbd : Below wr.heap.size wr _ := hbx3
    (with_reducible refine (cloneInt x.crosses A4 c4 _ (Kn.C_below hbd H4.out) (by omega)).mono ?_)
    rintro e wx4 ⟨B4, d4, rfl, hd4, HR4, HO4, hbc4⟩
    have hbx4 : Below wr.heap.size wr wx4 := hbd.trans (hbc4.mono hbd.size)
    refine hK.out _ _ (HSFa.out _ hbx4) ?_
    clear hK K hbd
    try simp only [Act.put, List.setIfInBounds_toArray, List.set_cons_zero, List.set_cons_succ]
    obtain ⟨r2, r3, r4⟩ := HSFa.out _ hbx4
    have z2 : wx4.frozen? ⟨g, i * 8 + 2, none⟩ = false := (hbx4.frozen (p := ⟨g, i * 8 + 2, none⟩) hgla).trans f2
    have z3 : wx4.frozen? ⟨g, i * 8 + 3, none⟩ = false := (hbx4.frozen (p := ⟨g, i * 8 + 3, none⟩) hgla).trans f3
    have z4 : wx4.frozen? ⟨g, i * 8 + 4, none⟩ = false := (hbx4.frozen (p := ⟨g, i * 8 + 4, none⟩) hgla).trans f4
    have hrowa := Kn.own_move HROa.out (fun b hb => hbx4.block b (by rw [show b = g from (by simpa [Value.ownBlock] using hb.symm)]; exact hgla))
    obtain ⟨ho1, hg1⟩ := hrowa.stored (i * 8 + 2) (.slice B2 x.steps.length d2)
    obtain ⟨ho2, hg2⟩ := ho1.stored (i * 8 + 3) (.slice B3 x.lies.length d3)
    obtain ⟨ho3, hg3⟩ := ho2.stored (i * 8 + 4) (.slice B4 x.crosses.length d4)
    obtain ⟨Wa, hWa, HRNa, HKNa, HZNa⟩ : ∃ W, W = ((wx4.setCell ⟨g, i * 8 + 2, none⟩ (.slice B2 x.steps.length d2)).setCell ⟨g, i * 8 + 3, none⟩ (.slice B3 x.lies.length d3)).setCell ⟨g, i * 8 + 4, none⟩ (.slice B4 x.crosses.length d4) ∧ Hid (W.ownsRow 0 80 8 (.slice (some ⟨g, 0, none⟩) rs.length c) rs.length (((inner.set (i * 8 + 2) (.slice B2 x.steps.length d2)).set (i * 8 + 3) (.slice B3 x.lies.length d3)).set (i * 8 + 4) (.slice B4 x.crosses.length d4))) ∧ Hid (Keep (fun b => b = g) wx4 W) ∧ Hid (W.heap.size = wx4.heap.size) :=
      ⟨_, rfl, Lib.hid ho3, Lib.hid ((((Keep.refl _ _).grown hg1 (fun k hk _ => by simpa [Value.ownBlock] using hk.symm)).grown hg2 (fun k hk _ => by simpa [Value.ownBlock] using hk.symm)).grown hg3 (fun k hk _ => by simpa [Value.ownBlock] using hk.symm)), Lib.hid (by simp)⟩
    clear ho1 ho2 ho3 hg1 hg2 hg3 hrowa
    refine Rg.row [18, 19, 20, 21, 22, 23, 24, 25, 26] [_, _, _, _, _, _, _, _, _] rfl (by kernel_rfl) ?_
    go_upto_region 6 with (fail)
    rw [← hWa]
    clear hWa z2 z3 z4 r2 r3 r4 q2 q3 q4 f2 f3 f4
    have HKa : Hid (Keep (fun b => b = g) wr Wa) := Lib.hid ((Keep.of_below hbx4).trans HKNa.out (fun _ _ h => h))
    have hgLb : g < Wa.heap.size := Nat.lt_of_lt_of_le hgla HKa.out.size
    obtain ⟨innb, hinnb⟩ : ∃ l, Hid ((((inner.set (i * 8 + 2) (.slice B2 x.steps.length d2)).set (i * 8 + 3) (.slice B3 x.lies.length d3)).set (i * 8 + 4) (.slice B4 x.crosses.length d4)) = l) := ⟨_, Lib.hid rfl⟩
    have HROb : Hid (Wa.ownsRow 0 80 8 (.slice (some ⟨g, 0, none⟩) rs.length c) rs.length innb) := Lib.hid (by have := HRNa.out; rwa [hinnb.out] at this)
    have hcb : ∀ m, i * 8 + 5 ≤ m → m < i * 8 + 8 → Wa.cell? ⟨g, m, none⟩ = wr.cell? ⟨g, m, none⟩ := fun m h1 h2 => by
      rw [HROb.out.cellAt _ (by omega), HROa.out.cellAt _ (by omega), ← hinnb.out, List.getElem?_set_ne (by omega), List.getElem?_set_ne (by omega), List.getElem?_set_ne (by omega)]
    have q5 := (hcb (i * 8 + 5) (by omega) (by omega)).trans HQ.out.1
    have q6 := (hcb (i * 8 + 6) (by omega) (by omega)).trans HQ.out.2.1
    have q7 := (hcb (i * 8 + 7) (by omega) (by omega)).trans HQ.out.2.2
    have f5 : Wa.frozen? ⟨g, i * 8 + 5, none⟩ = false := HROb.out.frozenAt _
    have f6 : Wa.frozen? ⟨g, i * 8 + 6, none⟩ = false := HROb.out.frozenAt _
    have f7 : Wa.frozen? ⟨g, i * 8 + 7, none⟩ = false := HROb.out.frozenAt _
    clear hcb
    have hglb := hgLb
    have H5 := Lib.hid (Kn.C_move (fun b hb => HKa.out.block b hb.1 (fun e => hb.2 (by rw [e]; rfl))) H5.out)
    have H6 := Lib.hid (Kn.C_move (fun b hb => HKa.out.block b hb.1 (fun e => hb.2 (by rw [e]; rfl))) H6.out)
    have H7 := Lib.hid (Kn.C_move (fun b hb => HKa.out.block b hb.1 (fun e => hb.2 (by rw [e]; rfl))) H7.out)
    have HSFb : Hid (∀ w', Below Wa.heap.size Wa w' → (fun w' => w'.cell? ⟨g, i * 8 + 5, none⟩ = some (.slice A5 x.parts.length c5) ∧ w'.cell? ⟨g, i * 8 + 6, none⟩ = some (.slice A6 x.over.length c6) ∧ w'.cell? ⟨g, i * 8 + 7, none⟩ = some (.slice A7 x.flanks.length c7)) w') := Lib.hid (fun w' hb => ⟨cell_below hb q5, cell_below hb q6, cell_below hb q7⟩)
    refine Rg.start 18 (fun w' => w'.cell? ⟨g, i * 8 + 5, none⟩ = some (.slice A5 x.parts.length c5) ∧ w'.cell? ⟨g, i * 8 + 6, none⟩ = some (.slice A6 x.over.length c6) ∧ w'.cell? ⟨g, i * 8 + 7, none⟩ = some (.slice A7 x.flanks.length c7)) 27 rfl (by kernel_rfl) ?_
    have hHeld := HSFb.out _ (Below.refl _ _).drew
    refine Rg.pure 0 (v := ?v16) rfl (by kernel_rfl) (fun _ _ _ h => h) (by rfl) hHeld ?y16 ?h16
    case y16 => (intro wA; go_simp; first | done | with_reducible rfl)
    simp only [Act.put, List.setIfInBounds_toArray, List.set_cons_zero, List.set_cons_succ]
    refine Rg.pure 1 (v := ?v17) rfl (by kernel_rfl) (fun _ _ _ h => h) (by rfl) hHeld ?y17 ?h17
    case y17 => (intro wA; go_simp; first | done | with_reducible rfl)
    simp only [Act.put, List.setIfInBounds_toArray, List.set_cons_zero, List.set_cons_succ]
    refine Rg.pure 2 (v := ?v18) rfl (by kernel_rfl) (fun _ _ _ h => h) (by rfl) hHeld ?y18 ?h18
    case y18 => (intro wA; go_simp; first | done | with_reducible rfl)
    simp only [Act.put, List.setIfInBounds_toArray, List.set_cons_zero, List.set_cons_succ]
    refine Rg.pure 3 (v := ?v19) rfl (by kernel_rfl) (fun _ _ _ h => h) (by rfl) hHeld ?y19 ?h19
    case y19 => (intro wA; go_simp; first | done | with_reducible rfl)
    simp only [Act.put, List.setIfInBounds_toArray, List.set_cons_zero, List.set_cons_succ]
    refine Rg.pure 4 (v := ?v20) rfl (by kernel_rfl) (fun _ _ _ h => h) (by rfl) hHeld ?y20 ?h20
    case y20 => (intro wA; go_simp; first | done | with_reducible rfl)
    simp only [Act.put, List.setIfInBounds_toArray, List.set_cons_zero, List.set_cons_succ]
    refine Rg.pure 5 (v := ?v21) rfl (by kernel_rfl) (fun _ _ _ h => h) (by rfl) hHeld ?y21 ?h21
    case y21 => (intro wA; go_simp; first | done | with_reducible rfl)
    simp only [Act.put, List.setIfInBounds_toArray, List.set_cons_zero, List.set_cons_succ]
    refine Rg.held 6 (v := ?v22) rfl (by kernel_rfl) (fun _ _ _ h => h) (by rfl) hHeld ?y22 ?h22
    case y22 => (intro wA hSw; (try dsimp only at hSw); go_simp; first | done | with_reducible rfl)
    simp only [Act.put, List.setIfInBounds_toArray, List.set_cons_zero, List.set_cons_succ]
    refine Rg.pure 8 (v := ?v23) rfl (by kernel_rfl) (fun _ _ _ h => h) (by rfl) hHeld ?y23 ?h23
    case y23 => (intro wA; go_simp; first | done | with_reducible rfl)
    simp only [Act.put, List.setIfInBounds_toArray, List.set_cons_zero, List.set_cons_succ]
    refine Rg.pure 9 (v := ?v24) rfl (by kernel_rfl) (fun _ _ _ h => h) (by rfl) hHeld ?y24 ?h24
    case y24 => (intro wA; go_simp; first | done | with_reducible rfl)
    simp only [Act.put, List.setIfInBounds_toArray, List.set_cons_zero, List.set_cons_succ]
    refine Rg.pure 10 (v := ?v25) rfl (by kernel_rfl) (fun _ _ _ h => h) (by rfl) hHeld ?y25 ?h25
    case y25 => (intro wA; go_simp; first | done | with_reducible rfl)
    simp only [Act.put, List.setIfInBounds_toArray, List.set_cons_zero, List.set_cons_succ]
    refine Rg.held 11 (v := ?v26) rfl (by kernel_rfl) (fun _ _ _ h => h) (by rfl) hHeld ?y26 ?h26
    case y26 => (intro wA hSw; (try dsimp only at hSw); go_simp; first | done | with_reducible rfl)
    simp only [Act.put, List.setIfInBounds_toArray, List.set_cons_zero, List.set_cons_succ]
    refine Rg.pure 13 (v := ?v27) rfl (by kernel_rfl) (fun _ _ _ h => h) (by rfl) hHeld ?y27 ?h27
    case y27 => (intro wA; go_simp; first | done | with_reducible rfl)
    simp only [Act.put, List.setIfInBounds_toArray, List.set_cons_zero, List.set_cons_succ]
    refine Rg.pure 14 (v := ?v28) rfl (by kernel_rfl) (fun _ _ _ h => h) (by rfl) hHeld ?y28 ?h28
    case y28 => (intro wA; go_simp; first | done | with_reducible rfl)
    simp only [Act.put, List.setIfInBounds_toArray, List.set_cons_zero, List.set_cons_succ]
    refine Rg.pure 15 (v := ?v29) rfl (by kernel_rfl) (fun _ _ _ h => h) (by rfl) hHeld ?y29 ?h29
    case y29 => (intro wA; go_simp; first | done | with_reducible rfl)
    simp only [Act.put, List.setIfInBounds_toArray, List.set_cons_zero, List.set_cons_succ]
    refine Rg.held 16 (v := ?v30) rfl (by kernel_rfl) (fun _ _ _ h => h) (by rfl) hHeld ?y30 ?h30
    case y30 => (intro wA hSw; (try dsimp only at hSw); go_simp; first | done | with_reducible rfl)
    simp only [Act.put, List.setIfInBounds_toArray, List.set_cons_zero, List.set_cons_succ]
    refine Rg.one 7 rfl (by kernel_rfl) (fun K hK => ?_)
    refine step_is_call 89 rfl rfl ?_
    go_simp
    go_at_call 89
    have hbd : Below Wa.heap.size Wa _ := (Below.refl _ _).drew
    (with_reducible refine (clonePart x.parts A5 c5 _ (Kn.C_below hbd H5.out) (by omega)).mono ?_)
    rintro e wx5 ⟨B5, d5, rfl, hd5, HR5, HO5, hbc5⟩
    have hbx5 : Below Wa.heap.size Wa wx5 := hbd.trans (hbc5.mono hbd.size)
    refine hK.out _ _ (HSFb.out _ hbx5) ?_
    clear hK K hbd
    try simp only [Act.put, List.setIfInBounds_toArray, List.set_cons_zero, List.set_cons_succ]
    refine Rg.one 12 rfl (by kernel_rfl) (fun K hK => ?_)
    refine step_is_call 89 rfl rfl ?_
    go_simp
    go_at_call 89
    have hbd : Below Wa.heap.size Wa _ := hbx5
    (with_reducible refine (clonePart x.over A6 c6 _ (Kn.C_below hbd H6.out) (by omega)).mono ?_)
    rintro e wx6 ⟨B6, d6, rfl, hd6, HR6, HO6, hbc6⟩
    have hbx6 : Below Wa.heap.size Wa wx6 := hbd.trans (hbc6.mono hbd.size)
    refine hK.out _ _ (HSFb.out _ hbx6) ?_
    clear hK K hbd
    try simp only [Act.put, List.setIfInBounds_toArray, List.set_cons_zero, List.set_cons_succ]
    refine Rg.one 17 rfl (by kernel_rfl) (fun K hK => ?_)
    refine step_is_call 90 rfl rfl ?_
    go_simp
    go_at_call 90
    have hbd : Below Wa.heap.size Wa _ := hbx6
    (with_reducible refine (cloneFlank x.flanks A7 c7 _ (Kn.C_below hbd H7.out) (by omega)).mono ?_)
    rintro e wx7 ⟨B7, d7, rfl, hd7, HR7, HO7, hbc7⟩
    have hbx7 : Below Wa.heap.size Wa wx7 := hbd.trans (hbc7.mono hbd.size)
    refine hK.out _ _ (HSFb.out _ hbx7) ?_
    clear hK K hbd
    try simp only [Act.put, List.setIfInBounds_toArray, List.set_cons_zero, List.set_cons_succ]
    obtain ⟨r5, r6, r7⟩ := HSFb.out _ hbx7
    have z5 : wx7.frozen? ⟨g, i * 8 + 5, none⟩ = false := (hbx7.frozen (p := ⟨g, i * 8 + 5, none⟩) hglb).trans f5
    have z6 : wx7.frozen? ⟨g, i * 8 + 6, none⟩ = false := (hbx7.frozen (p := ⟨g, i * 8 + 6, none⟩) hglb).trans f6
    have z7 : wx7.frozen? ⟨g, i * 8 + 7, none⟩ = false := (hbx7.frozen (p := ⟨g, i * 8 + 7, none⟩) hglb).trans f7
    have hrowb := Kn.own_move HROb.out (fun b hb => hbx7.block b (by rw [show b = g from (by simpa [Value.ownBlock] using hb.symm)]; exact hglb))
    obtain ⟨ho1, hg1⟩ := hrowb.stored (i * 8 + 5) (.slice B5 x.parts.length d5)
    obtain ⟨ho2, hg2⟩ := ho1.stored (i * 8 + 6) (.slice B6 x.over.length d6)
    obtain ⟨ho3, hg3⟩ := ho2.stored (i * 8 + 7) (.slice B7 x.flanks.length d7)
    obtain ⟨Wb, hWb, HRNb, HKNb, HZNb⟩ : ∃ W, W = ((wx7.setCell ⟨g, i * 8 + 5, none⟩ (.slice B5 x.parts.length d5)).setCell ⟨g, i * 8 + 6, none⟩ (.slice B6 x.over.length d6)).setCell ⟨g, i * 8 + 7, none⟩ (.slice B7 x.flanks.length d7) ∧ Hid (W.ownsRow 0 80 8 (.slice (some ⟨g, 0, none⟩) rs.length c) rs.length (((innb.set (i * 8 + 5) (.slice B5 x.parts.length d5)).set (i * 8 + 6) (.slice B6 x.over.length d6)).set (i * 8 + 7) (.slice B7 x.flanks.length d7))) ∧ Hid (Keep (fun b => b = g) wx7 W) ∧ Hid (W.heap.size = wx7.heap.size) :=
      ⟨_, rfl, Lib.hid ho3, Lib.hid ((((Keep.refl _ _).grown hg1 (fun k hk _ => by simpa [Value.ownBlock] using hk.symm)).grown hg2 (fun k hk _ => by simpa [Value.ownBlock] using hk.symm)).grown hg3 (fun k hk _ => by simpa [Value.ownBlock] using hk.symm)), Lib.hid (by simp)⟩
    clear ho1 ho2 ho3 hg1 hg2 hg3 hrowb
    refine Rg.row [18, 19, 20, 21, 22, 23, 24, 25, 26] [_, _, _, _, _, _, _, _, _] rfl (by kernel_rfl) ?_
    go_wp2
    rw [← hWb]
    clear hWb z5 z6 z7 r5 r6 r7 q5 q6 q7 f5 f6 f7
    have HKb : Hid (Keep (fun b => b = g) wr Wb) := Lib.hid ((HKa.out.trans (Keep.of_below (S := fun b => b = g) hbx7) (fun _ _ h => h)).trans HKNb.out (fun _ _ h => h))
    have hs2 := hbc2.size
    have hs3 := hbc3.size
    have hs4 := hbc4.size
    have hsa := HZNa.out
    have hs5 := hbc5.size
    have hs6 := hbc6.size
    have hs7 := hbc7.size
    have hsb := HZNb.out
    have hsd : wr.drew.heap.size = wr.heap.size := rfl
    have hse : Wa.drew.heap.size = Wa.heap.size := rfl
    have hO2 := Kn.Rw.own (fun w ok x cs h => by obtain rfl := stepK_open h; exact stepK_own w x) (Rw_far ((((Rw_far ((HR2.out.below hbc3).below hbc4) HKNa.out (fun e => by have := HO2.out g e; omega)).below (below_undrew hbc5)).below hbc6).below hbc7) HKNb.out (fun e => by have := HO2.out g e; omega))
    have hO3 := Kn.Rw.own (fun w ok x cs h => by obtain rfl := lieK_open h; exact lieK_own w x) (Rw_far ((((Rw_far (HR3.out.below hbc4) HKNa.out (fun e => by have := HO3.out g e; omega)).below (below_undrew hbc5)).below hbc6).below hbc7) HKNb.out (fun e => by have := HO3.out g e; omega))
    have hO4 := Kn.Rw.own (fun w ok x cs h => by obtain rfl := (show cs = [.int .i64 x] from h); exact intK_own w x) (Rw_far ((((Rw_far HR4.out HKNa.out (fun e => by have := HO4.out g e; omega)).below (below_undrew hbc5)).below hbc6).below hbc7) HKNb.out (fun e => by have := HO4.out g e; omega))
    have hO5 := Kn.Rw.own (fun w ok x cs h => by obtain rfl := partK_open h; exact partK_own w x) (Rw_far ((HR5.out.below hbc6).below hbc7) HKNb.out (fun e => by have := HO5.out g e; omega))
    have hO6 := Kn.Rw.own (fun w ok x cs h => by obtain rfl := partK_open h; exact partK_own w x) (Rw_far (HR6.out.below hbc7) HKNb.out (fun e => by have := HO6.out g e; omega))
    have hO7 := Kn.Rw.own (fun w ok x cs h => by obtain rfl := flankK_open h; exact flankK_own w x) (Rw_far HR7.out HKNb.out (fun e => by have := HO7.out g e; omega))
    have hu2 : ∀ b, b ∈ (Value.slice B2 x.steps.length d2).ownBlock.toList → wr.heap.size ≤ b ∧ b < wx2.heap.size := fun b hb => ⟨HO2.out b (by simpa using hb), HR2.out.lt b (by simpa using hb)⟩
    have hu3 : ∀ b, b ∈ (Value.slice B3 x.lies.length d3).ownBlock.toList → wx2.heap.size ≤ b ∧ b < wx3.heap.size := fun b hb => ⟨HO3.out b (by simpa using hb), HR3.out.lt b (by simpa using hb)⟩
    have hu4 : ∀ b, b ∈ (Value.slice B4 x.crosses.length d4).ownBlock.toList → wx3.heap.size ≤ b ∧ b < wx4.heap.size := fun b hb => ⟨HO4.out b (by simpa using hb), HR4.out.lt b (by simpa using hb)⟩
    have hu5 : ∀ b, b ∈ (Value.slice B5 x.parts.length d5).ownBlock.toList → Wa.heap.size ≤ b ∧ b < wx5.heap.size := fun b hb => ⟨HO5.out b (by simpa using hb), HR5.out.lt b (by simpa using hb)⟩
    have hu6 : ∀ b, b ∈ (Value.slice B6 x.over.length d6).ownBlock.toList → wx5.heap.size ≤ b ∧ b < wx6.heap.size := fun b hb => ⟨HO6.out b (by simpa using hb), HR6.out.lt b (by simpa using hb)⟩
    have hu7 : ∀ b, b ∈ (Value.slice B7 x.flanks.length d7).ownBlock.toList → wx6.heap.size ≤ b ∧ b < wx7.heap.size := fun b hb => ⟨HO7.out b (by simpa using hb), HR7.out.lt b (by simpa using hb)⟩
    have hnd : ∀ v : Value, v.ownBlock.toList.Nodup := fun v => by cases v.ownBlock <;> simp
    have hN7 := hnd (.slice B7 x.flanks.length d7)
    have hN6 := nodup_range (hnd (.slice B6 x.over.length d6)) hN7 (fun b hb => (hu6 b hb).2) (fun b hb => (hu7 b hb).1)
    have hL6 : ∀ b, b ∈ (Value.slice B6 x.over.length d6).ownBlock.toList ++ (Value.slice B7 x.flanks.length d7).ownBlock.toList → wx5.heap.size ≤ b := fun b hb => by
      rcases List.mem_append.1 hb with hb | hb
      · exact (hu6 b hb).1
      · have := (hu7 b hb).1; omega
    have hN5 := nodup_range (hnd (.slice B5 x.parts.length d5)) hN6 (fun b hb => (hu5 b hb).2) hL6
    have hL5 : ∀ b, b ∈ (Value.slice B5 x.parts.length d5).ownBlock.toList ++ ((Value.slice B6 x.over.length d6).ownBlock.toList ++ (Value.slice B7 x.flanks.length d7).ownBlock.toList) → wx4.heap.size ≤ b := fun b hb => by
      rcases List.mem_append.1 hb with hb | hb
      · have := (hu5 b hb).1; omega
      · have := hL6 b hb; omega
    have hN4 := nodup_range (hnd (.slice B4 x.crosses.length d4)) hN5 (fun b hb => (hu4 b hb).2) hL5
    have hL4 : ∀ b, b ∈ (Value.slice B4 x.crosses.length d4).ownBlock.toList ++ ((Value.slice B5 x.parts.length d5).ownBlock.toList ++ ((Value.slice B6 x.over.length d6).ownBlock.toList ++ (Value.slice B7 x.flanks.length d7).ownBlock.toList)) → wx3.heap.size ≤ b := fun b hb => by
      rcases List.mem_append.1 hb with hb | hb
      · have := (hu4 b hb).1; omega
      · have := hL5 b hb; omega
    have hN3 := nodup_range (hnd (.slice B3 x.lies.length d3)) hN4 (fun b hb => (hu3 b hb).2) hL4
    have hL3 : ∀ b, b ∈ (Value.slice B3 x.lies.length d3).ownBlock.toList ++ ((Value.slice B4 x.crosses.length d4).ownBlock.toList ++ ((Value.slice B5 x.parts.length d5).ownBlock.toList ++ ((Value.slice B6 x.over.length d6).ownBlock.toList ++ (Value.slice B7 x.flanks.length d7).ownBlock.toList))) → wx2.heap.size ≤ b := fun b hb => by
      rcases List.mem_append.1 hb with hb | hb
      · have := (hu3 b hb).1; omega
      · have := hL4 b hb; omega
    have hN2 := nodup_range (hnd (.slice B2 x.steps.length d2)) hN3 (fun b hb => (hu2 b hb).2) hL3
    have hL2 : ∀ b, b ∈ (Value.slice B2 x.steps.length d2).ownBlock.toList ++ ((Value.slice B3 x.lies.length d3).ownBlock.toList ++ ((Value.slice B4 x.crosses.length d4).ownBlock.toList ++ ((Value.slice B5 x.parts.length d5).ownBlock.toList ++ ((Value.slice B6 x.over.length d6).ownBlock.toList ++ (Value.slice B7 x.flanks.length d7).ownBlock.toList)))) → wr.heap.size ≤ b := fun b hb => by
      rcases List.mem_append.1 hb with hb | hb
      · exact (hu2 b hb).1
      · have := hL3 b hb; omega
    have HAN := Lib.hid (HA.out.next HXI.out rfl HC0.out HC1.out HKb.out hgw HK.out.size (by have := HRNb.out; rwa [← hinnb.out] at this) (routeK_own hO2 hO3 hO4 hO5 hO6 hO7 hN2) hL2)
    have HKN : Hid (Keep (fun b => (Value.slice (some ⟨g, 0, none⟩) rs.length c).ownBlock = some b) w Wb) := Lib.hid (HK.out.trans HKb.out (fun b _ h => by rw [h]; rfl))
    clear hO2 hO3 hO4 hO5 hO6 hO7 hN2 hN3 hN4 hN5 hN6 hN7 hL2 hL3 hL4 hL5 hL6 hu2 hu3 hu4 hu5 hu6 hu7 hnd hsa hsb hsd hse
    go_roundw
    case rel => exact ⟨i + 1, _, _, by omega, by go_num, HAN, HKN⟩
    case measure => simp [intOf]; omega
  · obtain rfl : i = rs.length := by omega
    have HF : Hid (∃ ps, rK.R 80 wr (.slice A rs.length c) ps ∧ ps.map Prod.fst = rs ∧ ∀ b, b ∈ (ps.map Prod.snd).flatten → w.heap.size ≤ b) := Lib.hid (by
      have hf := HA.out.firsts
      rw [List.take_length] at hf
      have hl : ps.length = rs.length := by rw [← hf, List.length_map]
      refine ⟨ps, ⟨inner, by rw [hl]; exact HA.out.row, HA.out.items, ?_⟩, hf, HA.out.above⟩
      unfold Kn.foot
      rw [List.nodup_append]
      refine ⟨by cases (Value.slice A rs.length c).ownBlock <;> simp, HA.out.nodup, fun a ha b hb e => ?_⟩
      subst e
      rw [Option.mem_toList] at ha
      have h1 := hlt.out a ha
      have h2 := HA.out.above a hb
      omega)
    go_wp2
    go_ret
    exact ⟨rfl, HF, HK.out⟩
theorem rt_n {n : Net} {ss : List Signal} {ov : Int} : ∀ x ∈ routesF n ss ov, x.n ≤ 141004 := fun x hx => by
  obtain ⟨hr, h0, h1, hrt⟩ := routesF_rt hx
  have := Rt.size hr hrt h1
  show x.steps.length + x.lies.length + x.crosses.length + x.parts.length + x.over.length + x.flanks.length ≤ 141004
  omega
set_option maxRecDepth 100000 in
set_option maxHeartbeats 4000000 in
theorem implRoutes {ok ok' : Nat → Prop} (n : Net) (ss : List Signal) (ov : Int) (A0 A1 A2 : Option Addr) (c0 c1 c2 : Nat) (w : World) (h : NC 136 w ok n A0 A1) (hs : signalK.C w ok' A2 ss) (hc : ss.length ≤ c2) (hn : NetIn n) (hi : SigIn ss) :
    Calls Tryz.prog 11 #[.agg #[.slice A0 n.pieces.length c0, .slice A1 n.joints.length c1], .slice A2 ss.length c2, .int .i64 ov] w (RetS 80 rK (routesF n ss ov) w) := by
  have hb0 : Below w.heap.size w (w.alloc (.cells #[.slice A0 n.pieces.length c0, .slice A1 n.joints.length c1] 34)) := below_alloc _ _
  have HC : Hid (NC 136 (w.alloc (.cells #[.slice A0 n.pieces.length c0, .slice A1 n.joints.length c1] 34)) ok n A0 A1) := Lib.hid (h.below hb0)
  have HS : Hid (signalK.C (w.alloc (.cells #[.slice A0 n.pieces.length c0, .slice A1 n.joints.length c1] 34)) ok' A2 ss) := Lib.hid (Kn.C_below hb0 hs)
  have HN : Hid (∀ x ∈ routesF n ss ov, x.n ≤ 200000) := Lib.hid (fun x hx => Nat.le_trans (rt_n x hx) (by omega))
  clear h hs
  go_enter Tryz.func11, Tryz.ntmps11
  go_wp2_with fail
  refine (implRoutes0 n ss ov A0 A1 A2 c0 c1 c2 _ HC.out HS.out hc hn hi).mono ?_
  rintro e w1 ⟨A, c, rfl, hcl, HR, HO, hb1⟩
  have hb01 : Below w.heap.size w w1 := hb0.trans (hb1.mono (by simp))
  clear HC HS
  go_wp2_with fail
  refine (implApart (S := fun _ => True) (routesF n ss ov) A c w1 HR.out HN).mono ?_
  rintro e w2 ⟨rfl, HF, hK⟩
  go_wp2
  go_ret
  obtain ⟨ps, hR, hf, hab⟩ := HF.out
  have hsz1 := hb01.size
  have hsz : w.heap.size + 1 ≤ w1.heap.size := by have := hb1.size; simp at this; omega
  refine ⟨A, c, _, rfl, ⟨_, ps, rfl, hf.symm, hR, rfl⟩, fun b hb => ?_, hb01.trans (hK.to_below hsz1 (fun k hk e => by have := HO.out k e; simp at this; omega))⟩
  rcases List.mem_append.1 hb with hb | hb
  · rw [Option.mem_toList] at hb
    have := HO.out b hb
    simp at this
    omega
  · have := hab b hb
    omega
end Go.Proofs.YtpggopdojhodaaaGreat.L
namespace Go.Proofs.YtpggopdojhodaaaGreat.L
open Go.RowKit
set_option linter.unusedVariables false
set_option linter.unusedSimpArgs false
def markN (x : Route) : Nat := 2 + 2 * x.steps.length + 2 * x.lies.length + x.crosses.length + 3 * x.parts.length + 3 * x.over.length + 4 * x.flanks.length
theorem markN_le (x : Route) : markN x ≤ 2 + 4 * x.n := by
  have : x.n = x.steps.length + x.lies.length + x.crosses.length + x.parts.length + x.over.length + x.flanks.length := rfl
  unfold markN
  omega
structure MR (w : World) (g j : Nat) (x : Route) (F : List Nat) (k : Int) (A2 A3 A4 A5 A6 A7 : Option Addr) (c2 c3 c4 c5 c6 c7 : Nat) : Prop where
  n0 : w.cell? ⟨g, j * 8, none⟩ = some (.int .i64 k)
  n1 : w.cell? ⟨g, j * 8 + 1, none⟩ = some (.int .i64 (k + 1))
  s2 : w.cell? ⟨g, j * 8 + 2, none⟩ = some (.slice A2 x.steps.length c2)
  s3 : w.cell? ⟨g, j * 8 + 3, none⟩ = some (.slice A3 x.lies.length c3)
  s4 : w.cell? ⟨g, j * 8 + 4, none⟩ = some (.slice A4 x.crosses.length c4)
  s5 : w.cell? ⟨g, j * 8 + 5, none⟩ = some (.slice A5 x.parts.length c5)
  s6 : w.cell? ⟨g, j * 8 + 6, none⟩ = some (.slice A6 x.over.length c6)
  s7 : w.cell? ⟨g, j * 8 + 7, none⟩ = some (.slice A7 x.flanks.length c7)
  m2 : Marked 124 2 A2 x.steps.length c2 (k + 2) (2 * x.steps.length) w
  m3 : Marked 109 2 A3 x.lies.length c3 (k + 2 + (2 * x.steps.length : Nat)) (2 * x.lies.length) w
  m4 : Marked 3 1 A4 x.crosses.length c4 (k + 2 + (2 * x.steps.length : Nat) + (2 * x.lies.length : Nat)) (1 * x.crosses.length) w
  m5 : Marked 128 3 A5 x.parts.length c5 (k + 2 + (2 * x.steps.length : Nat) + (2 * x.lies.length : Nat) + (1 * x.crosses.length : Nat)) (3 * x.parts.length) w
  m6 : Marked 128 3 A6 x.over.length c6 (k + 2 + (2 * x.steps.length : Nat) + (2 * x.lies.length : Nat) + (1 * x.crosses.length : Nat) + (3 * x.parts.length : Nat)) (3 * x.over.length) w
  m7 : Marked 157 4 A7 x.flanks.length c7 (k + 2 + (2 * x.steps.length : Nat) + (2 * x.lies.length : Nat) + (1 * x.crosses.length : Nat) + (3 * x.parts.length : Nat) + (3 * x.over.length : Nat)) (4 * x.flanks.length) w
  f2 : ∀ b, (Value.slice A2 x.steps.length c2).ownBlock = some b → b ∈ F ∧ b < w.heap.size
  f3 : ∀ b, (Value.slice A3 x.lies.length c3).ownBlock = some b → b ∈ F ∧ b < w.heap.size
  f4 : ∀ b, (Value.slice A4 x.crosses.length c4).ownBlock = some b → b ∈ F ∧ b < w.heap.size
  f5 : ∀ b, (Value.slice A5 x.parts.length c5).ownBlock = some b → b ∈ F ∧ b < w.heap.size
  f6 : ∀ b, (Value.slice A6 x.over.length c6).ownBlock = some b → b ∈ F ∧ b < w.heap.size
  f7 : ∀ b, (Value.slice A7 x.flanks.length c7).ownBlock = some b → b ∈ F ∧ b < w.heap.size
theorem MR.move {w w1 : World} {g j : Nat} {x : Route} {F : List Nat} {k : Int} {A2 A3 A4 A5 A6 A7 : Option Addr} {c2 c3 c4 c5 c6 c7 : Nat} (h : MR w g j x F k A2 A3 A4 A5 A6 A7 c2 c3 c4 c5 c6 c7) (hc : ∀ o, o < 8 → w1.cell? ⟨g, j * 8 + o, none⟩ = w.cell? ⟨g, j * 8 + o, none⟩) (hF : ∀ b, b ∈ F → b < w.heap.size → w1.heap[b]? = w.heap[b]?) (hz : w.heap.size ≤ w1.heap.size) : MR w1 g j x F k A2 A3 A4 A5 A6 A7 c2 c3 c4 c5 c6 c7 :=
  ⟨(hc 0 (by omega)).trans h.n0, (hc 1 (by omega)).trans h.n1, (hc 2 (by omega)).trans h.s2, (hc 3 (by omega)).trans h.s3, (hc 4 (by omega)).trans h.s4, (hc 5 (by omega)).trans h.s5, (hc 6 (by omega)).trans h.s6, (hc 7 (by omega)).trans h.s7, h.m2.move (fun b hb => hF b (h.f2 b hb).1 (h.f2 b hb).2), h.m3.move (fun b hb => hF b (h.f3 b hb).1 (h.f3 b hb).2), h.m4.move (fun b hb => hF b (h.f4 b hb).1 (h.f4 b hb).2), h.m5.move (fun b hb => hF b (h.f5 b hb).1 (h.f5 b hb).2), h.m6.move (fun b hb => hF b (h.f6 b hb).1 (h.f6 b hb).2), h.m7.move (fun b hb => hF b (h.f7 b hb).1 (h.f7 b hb).2), fun b hb => ⟨(h.f2 b hb).1, Nat.lt_of_lt_of_le (h.f2 b hb).2 hz⟩, fun b hb => ⟨(h.f3 b hb).1, Nat.lt_of_lt_of_le (h.f3 b hb).2 hz⟩, fun b hb => ⟨(h.f4 b hb).1, Nat.lt_of_lt_of_le (h.f4 b hb).2 hz⟩, fun b hb => ⟨(h.f5 b hb).1, Nat.lt_of_lt_of_le (h.f5 b hb).2 hz⟩, fun b hb => ⟨(h.f6 b hb).1, Nat.lt_of_lt_of_le (h.f6 b hb).2 hz⟩, fun b hb => ⟨(h.f7 b hb).1, Nat.lt_of_lt_of_le (h.f7 b hb).2 hz⟩⟩
def MRS (w : World) (A : Option Addr) (ps : List (Route × List Nat)) (k : Int) (m : Nat) : Prop :=
  ∀ (j : Nat) (p : Route × List Nat), j < m → ps[j]? = some p → ∃ g, A = some ⟨g, 0, none⟩ ∧ g < w.heap.size ∧ ∃ A2 A3 A4 A5 A6 A7 c2 c3 c4 c5 c6 c7, MR w g j p.1 p.2 (k + (tot markN ((ps.map Prod.fst).take j) : Nat)) A2 A3 A4 A5 A6 A7 c2 c3 c4 c5 c6 c7
theorem MRS.move {w w1 : World} {A : Option Addr} {ps : List (Route × List Nat)} {k : Int} {m : Nat} (h : MRS w A ps k m) (hc : ∀ g i o, A = some ⟨g, 0, none⟩ → g < w.heap.size → i < m → o < 8 → w1.cell? ⟨g, i * 8 + o, none⟩ = w.cell? ⟨g, i * 8 + o, none⟩) (hF : ∀ b, Firsts ps m b → b < w.heap.size → w1.heap[b]? = w.heap[b]?) (hz : w.heap.size ≤ w1.heap.size) : MRS w1 A ps k m := by
  intro j p hj hp
  obtain ⟨g, hA, hg, A2, A3, A4, A5, A6, A7, c2, c3, c4, c5, c6, c7, hM⟩ := h j p hj hp
  exact ⟨g, hA, Nat.lt_of_lt_of_le hg hz, A2, A3, A4, A5, A6, A7, c2, c3, c4, c5, c6, c7, hM.move (fun o ho => hc g j o hA hg hj ho) (fun b hb hl => hF b ⟨j, p, hj, hp, hb⟩ hl) hz⟩
theorem MRS.below {w w1 : World} {A : Option Addr} {ps : List (Route × List Nat)} {k : Int} {m : Nat} (h : MRS w A ps k m) (hb : Below w.heap.size w w1) : MRS w1 A ps k m :=
  h.move (fun g i o _ hg _ _ => hb.cell (p := ⟨g, i * 8 + o, none⟩) hg) (fun b _ hl => hb.block b hl) hb.size
def RetMRS (A : Option Addr) (c : Nat) (ps : List (Route × List Nat)) (k : Int) (w : World) (en : Ending) (w' : World) : Prop :=
  ∃ k' : Int, en = .returned (.int .i64 k') ∧ Hid (k' = k + (tot markN (ps.map Prod.fst) : Nat)) ∧ Hid (MRS w' A ps k ps.length) ∧ Hid (Keep (fun b => b ∈ Kn.foot (.slice A ps.length c) ps) w w') ∧ w'.heap.size = w.heap.size
set_option maxRecDepth 100000 in
set_option maxHeartbeats 8000000 in
theorem markRouteSM (A : Option Addr) (c : Nat) (ps : List (Route × List Nat)) (k : Int) (w : World) (hr : rK.R 80 w (.slice A ps.length c) ps) (hn : tot markN (ps.map Prod.fst) ≤ 1073741824) (hpl : ps.length ≤ 4194304) (he : Hid (∀ p ∈ ps, p.1.n ≤ 4194304)) (h0 : 0 ≤ k) (h1 : k ≤ 1073741824) :
    Calls Tryz.prog 17 #[.slice A ps.length c, .int .i64 k] w (RetMRS A c ps k w) := by
  have hlt := Lib.hid (Kn.R_lt hr)
  obtain ⟨inner, ho, hit, hnd⟩ := hr
  have HO := Lib.hid ho
  have HI := Lib.hid hit
  unfold Kn.foot at hnd
  rw [List.nodup_append] at hnd
  have ND := Lib.hid hnd
  clear ho hit hnd
  have htot : ∀ j, tot markN ((ps.map Prod.fst).take j) ≤ tot markN (ps.map Prod.fst) := fun j => tot_le _ _ _
  have HTT := Lib.hid htot
  clear htot
  go_enter Tryz.func17, Tryz.ntmps17
  go_wp2
  go_loopw [1, 5] (fun kk i wr => ∃ (j : Nat) (k' : Int), j ≤ ps.length ∧ i = .int .i64 j ∧ kk = .int .i64 k' ∧ Hid (k' = k + (tot markN ((ps.map Prod.fst).take j) : Nat)) ∧ Hid (∃ inn, wr.ownsRow 0 80 8 (.slice A ps.length c) ps.length inn ∧ ∀ i, 8 * j ≤ i → inn[i]? = inner[i]?) ∧ Hid (Keep (Wrote A ps.length c ps j) w wr) ∧ Hid (MRS wr A ps k j) ∧ Hid (wr.heap.size = w.heap.size)) (fun _ i _ => ps.length - (intOf i).toNat)
  case atStart => exact ⟨0, k, Nat.zero_le _, rfl, rfl, Lib.hid (by simp [tot]), Lib.hid ⟨inner, HO.out, fun _ _ => rfl⟩, Lib.hid (Keep.refl _ _), Lib.hid (fun j p h => absurd h (by omega)), Lib.hid rfl⟩
  case round =>
    obtain ⟨j, k', hj, rfl, rfl, HK, HW, HP, HMR, HZ⟩ := hrel
    have hkb : 0 ≤ k' ∧ k' ≤ 2147483648 := by have := HK.out; have := HTT.out j; omega
    by_cases hlt' : j < ps.length
    · obtain ⟨p, hp⟩ : ∃ p, ps[j]? = some p := ⟨_, List.getElem?_eq_getElem hlt'⟩
      have hO := HI.out j p hp
      have i0 : (0 : Int) ≤ (j : Int) := Int.natCast_nonneg _
      have i1 : (j : Int) < (ps.length : Int) := by omega
      have HXT : Hid (tot markN ((ps.map Prod.fst).take (j + 1)) = tot markN ((ps.map Prod.fst).take j) + markN p.1) := Lib.hid (tot_push _ _ _ p.1 (by rw [List.getElem?_map, hp]; rfl))
      have hx2 := HTT.out (j + 1)
      have hpn : p.1.n ≤ 4194304 := he.out p (List.mem_of_getElem? hp)
      obtain ⟨g, hA, hcell⟩ : ∃ g, A = some ⟨g, 0, none⟩ ∧ g < w.heap.size := by
        rcases HO.out.2 with ⟨he, h2⟩ | ⟨g, cap, cur, he, _, hh, _, _, _⟩
        · omega
        · injection he with he _ _
          exact ⟨g, he, lt_of_get hh⟩
      subst hA
      obtain ⟨inn, hoi, hsame⟩ := HW.out
      obtain ⟨v2, v3, v4, v5, v6, v7, F2, F3, F4, F5, F6, F7, hcs, hF, o2, o3, o4, o5, o6, o7, hFn⟩ := routeK_O hO
      have hdc := drop_cells (sz := 8) HO.out.1 hlt' hcs
      obtain ⟨A2, c2, rfl⟩ := O_slice o2
      obtain ⟨A3, c3, rfl⟩ := O_slice o3
      obtain ⟨A4, c4, rfl⟩ := O_slice o4
      obtain ⟨A5, c5, rfl⟩ := O_slice o5
      obtain ⟨A6, c6, rfl⟩ := O_slice o6
      obtain ⟨A7, c7, rfl⟩ := O_slice o7
      have hcl : ∀ i u, i < 8 → [Value.int .i64 p.1.frm, .int .i64 p.1.til, .slice A2 p.1.steps.length c2, .slice A3 p.1.lies.length c3, .slice A4 p.1.crosses.length c4, .slice A5 p.1.parts.length c5, .slice A6 p.1.over.length c6, .slice A7 p.1.flanks.length c7][i]? = some u → wr.cell? ⟨g, j * 8 + i, none⟩ = some u := fun i u hi hu => by
        rw [hoi.cellAt _ (by omega), hsame _ (by omega)]
        exact (hdc i hi).trans hu
      have q0 := hcl 0 _ (by omega) rfl
      have q1 := hcl 1 _ (by omega) rfl
      have q2 := hcl 2 _ (by omega) rfl
      have q3 := hcl 3 _ (by omega) rfl
      have q4 := hcl 4 _ (by omega) rfl
      have q5 := hcl 5 _ (by omega) rfl
      have q6 := hcl 6 _ (by omega) rfl
      have q7 := hcl 7 _ (by omega) rfl
      have SQ : Hid (wr.cell? ⟨g, j * 8 + 2, none⟩ = some (.slice A2 p.1.steps.length c2) ∧ wr.cell? ⟨g, j * 8 + 3, none⟩ = some (.slice A3 p.1.lies.length c3) ∧ wr.cell? ⟨g, j * 8 + 4, none⟩ = some (.slice A4 p.1.crosses.length c4) ∧ wr.cell? ⟨g, j * 8 + 5, none⟩ = some (.slice A5 p.1.parts.length c5) ∧ wr.cell? ⟨g, j * 8 + 6, none⟩ = some (.slice A6 p.1.over.length c6) ∧ wr.cell? ⟨g, j * 8 + 7, none⟩ = some (.slice A7 p.1.flanks.length c7)) := Lib.hid ⟨q2, q3, q4, q5, q6, q7⟩
      have z0 : wr.frozen? ⟨g, j * 8, none⟩ = false := hoi.frozenAt _
      have z1 : wr.frozen? ⟨g, j * 8 + 1, none⟩ = false := hoi.frozenAt _
      have q0 : wr.cell? ⟨g, j * 8, none⟩ = some (.int .i64 p.1.frm) := q0
      have hmem : ∀ b, b ∈ (F2 ++ (F3 ++ (F4 ++ (F5 ++ (F6 ++ F7))))) → b ∈ p.2 := fun b h => hF ▸ h
      have hfp : ∀ b, b ∈ p.2 → ¬ Firsts ps j b := fun b hb ⟨i, q, hi, hq, hbq⟩ => items_apart ND.out.2.1 hq hp (by omega) hbq hb
      have hgo : g ∈ (Value.slice (some ⟨g, 0, none⟩) ps.length c).ownBlock.toList := by simp [Value.ownBlock]
      have hgf : ¬ Firsts ps j g := fun h => ND.out.2.2 g hgo g (firsts_mem h) rfl
      have hgp : ∀ b, b ∈ p.2 → ¬ (Value.slice (some ⟨g, 0, none⟩) ps.length c).ownBlock = some b := fun b h e => by
        have e : g = b := by simpa [Value.ownBlock] using e
        subst e
        exact ND.out.2.2 g hgo g (List.mem_flatten.2 ⟨p.2, List.mem_map.2 ⟨p, List.mem_of_getElem? hp, rfl⟩, h⟩) rfl
      have hnw : ∀ b, b ∈ p.2 → ¬ Wrote (some ⟨g, 0, none⟩) ps.length c ps j b := fun b h e => by
        rcases e with e | e
        · exact hgp b h e
        · exact hfp b h e
      rw [hF] at hFn
      obtain ⟨a23, a24, a25, a26, a27, a34, a35, a36, a37, a45, a46, a47, a56, a57, a67⟩ := apart6 hFn
      obtain ⟨inner2, r2, f2⟩ := O_row o2
      clear o2
      obtain ⟨inner3, r3, f3⟩ := O_row o3
      clear o3
      obtain ⟨inner4, r4, f4⟩ := O_row o4
      clear o4
      obtain ⟨inner5, r5, f5⟩ := O_row o5
      clear o5
      obtain ⟨inner6, r6, f6⟩ := O_row o6
      clear o6
      obtain ⟨inner7, r7, f7⟩ := O_row o7
      clear o7
      have M2 := Lib.hid (fun b (h : b ∈ F2) => hmem b (by simp [h]))
      have F2' := Lib.hid f2
      have T2 : Hid (∀ b, (Value.slice A2 p.1.steps.length c2).ownBlock = some b → b < wr.heap.size) := Lib.hid (fun b hb => Nat.lt_of_lt_of_le (r2.lt b hb).2 HP.out.size)
      have R2 := Lib.hid (Kn.own_move r2 (fun b hb => HP.out.block b (r2.lt b hb).2 (hnw b (M2.out b (f2 b hb)))))
      clear r2 f2
      have M3 := Lib.hid (fun b (h : b ∈ F3) => hmem b (by simp [h]))
      have F3' := Lib.hid f3
      have T3 : Hid (∀ b, (Value.slice A3 p.1.lies.length c3).ownBlock = some b → b < wr.heap.size) := Lib.hid (fun b hb => Nat.lt_of_lt_of_le (r3.lt b hb).2 HP.out.size)
      have R3 := Lib.hid (Kn.own_move r3 (fun b hb => HP.out.block b (r3.lt b hb).2 (hnw b (M3.out b (f3 b hb)))))
      clear r3 f3
      have M4 := Lib.hid (fun b (h : b ∈ F4) => hmem b (by simp [h]))
      have F4' := Lib.hid f4
      have T4 : Hid (∀ b, (Value.slice A4 p.1.crosses.length c4).ownBlock = some b → b < wr.heap.size) := Lib.hid (fun b hb => Nat.lt_of_lt_of_le (r4.lt b hb).2 HP.out.size)
      have R4 := Lib.hid (Kn.own_move r4 (fun b hb => HP.out.block b (r4.lt b hb).2 (hnw b (M4.out b (f4 b hb)))))
      clear r4 f4
      have M5 := Lib.hid (fun b (h : b ∈ F5) => hmem b (by simp [h]))
      have F5' := Lib.hid f5
      have T5 : Hid (∀ b, (Value.slice A5 p.1.parts.length c5).ownBlock = some b → b < wr.heap.size) := Lib.hid (fun b hb => Nat.lt_of_lt_of_le (r5.lt b hb).2 HP.out.size)
      have R5 := Lib.hid (Kn.own_move r5 (fun b hb => HP.out.block b (r5.lt b hb).2 (hnw b (M5.out b (f5 b hb)))))
      clear r5 f5
      have M6 := Lib.hid (fun b (h : b ∈ F6) => hmem b (by simp [h]))
      have F6' := Lib.hid f6
      have T6 : Hid (∀ b, (Value.slice A6 p.1.over.length c6).ownBlock = some b → b < wr.heap.size) := Lib.hid (fun b hb => Nat.lt_of_lt_of_le (r6.lt b hb).2 HP.out.size)
      have R6 := Lib.hid (Kn.own_move r6 (fun b hb => HP.out.block b (r6.lt b hb).2 (hnw b (M6.out b (f6 b hb)))))
      clear r6 f6
      have M7 := Lib.hid (fun b (h : b ∈ F7) => hmem b (by simp [h]))
      have F7' := Lib.hid f7
      have T7 : Hid (∀ b, (Value.slice A7 p.1.flanks.length c7).ownBlock = some b → b < wr.heap.size) := Lib.hid (fun b hb => Nat.lt_of_lt_of_le (r7.lt b hb).2 HP.out.size)
      have R7 := Lib.hid (Kn.own_move r7 (fun b hb => HP.out.block b (r7.lt b hb).2 (hnw b (M7.out b (f7 b hb)))))
      clear r7 f7
      have A23 := Lib.hid a23
      clear a23
      have A24 := Lib.hid a24
      clear a24
      have A25 := Lib.hid a25
      clear a25
      have A26 := Lib.hid a26
      clear a26
      have A27 := Lib.hid a27
      clear a27
      have A34 := Lib.hid a34
      clear a34
      have A35 := Lib.hid a35
      clear a35
      have A36 := Lib.hid a36
      clear a36
      have A37 := Lib.hid a37
      clear a37
      have A45 := Lib.hid a45
      clear a45
      have A46 := Lib.hid a46
      clear a46
      have A47 := Lib.hid a47
      clear a47
      have A56 := Lib.hid a56
      clear a56
      have A57 := Lib.hid a57
      clear a57
      have A67 := Lib.hid a67
      clear a67
      have HGP := Lib.hid hgp
      have HGF := Lib.hid hgf
      have HFP := Lib.hid hfp
      have HPP := Lib.hid hp
      have HSM := Lib.hid hsame
      have HOI := Lib.hid hoi
      have GL : g < wr.heap.size := Nat.lt_of_lt_of_le hcell HP.out.size
      obtain ⟨ho1, hg1⟩ := hoi.stored (j * 8) (.int .i64 k')
      obtain ⟨ho2, hg2⟩ := ho1.stored (j * 8 + 1) (.int .i64 (k' + 1))
      obtain ⟨W1, hW, B1, RO1, gz1, s2, s3, s4, s5, s6, s7⟩ : ∃ W, W = (wr.setCell ⟨g, j * 8, none⟩ (.int .i64 k')).setCell ⟨g, j * 8 + 1, none⟩ (.int .i64 (k' + 1)) ∧ Hid (Keep (fun b => b = g ∨ b ∈ ([] : List Nat)) wr W) ∧
          Hid (W.ownsRow 0 80 8 (.slice (some ⟨g, 0, none⟩) ps.length c) ps.length ((inn.set (j * 8) (.int .i64 k')).set (j * 8 + 1) (.int .i64 (k' + 1)))) ∧ wr.heap.size = W.heap.size ∧ W.cell? ⟨g, j * 8 + 2, none⟩ = some (.slice A2 p.1.steps.length c2) ∧ W.cell? ⟨g, j * 8 + 3, none⟩ = some (.slice A3 p.1.lies.length c3) ∧ W.cell? ⟨g, j * 8 + 4, none⟩ = some (.slice A4 p.1.crosses.length c4) ∧ W.cell? ⟨g, j * 8 + 5, none⟩ = some (.slice A5 p.1.parts.length c5) ∧ W.cell? ⟨g, j * 8 + 6, none⟩ = some (.slice A6 p.1.over.length c6) ∧ W.cell? ⟨g, j * 8 + 7, none⟩ = some (.slice A7 p.1.flanks.length c7) :=
        ⟨_, rfl, Lib.hid (((Keep.refl _ _).grown hg1 (fun b hb _ => .inl (by simpa [Value.ownBlock] using hb.symm))).grown hg2 (fun b hb _ => .inl (by simpa [Value.ownBlock] using hb.symm))), Lib.hid ho2, by simp, by rw [World.cell?_setCell_other _ _ _ _ (fun e => by injection e with e1 e2; omega), World.cell?_setCell_other _ _ _ _ (fun e => by injection e with e1 e2; omega)]; exact q2, by rw [World.cell?_setCell_other _ _ _ _ (fun e => by injection e with e1 e2; omega), World.cell?_setCell_other _ _ _ _ (fun e => by injection e with e1 e2; omega)]; exact q3, by rw [World.cell?_setCell_other _ _ _ _ (fun e => by injection e with e1 e2; omega), World.cell?_setCell_other _ _ _ _ (fun e => by injection e with e1 e2; omega)]; exact q4, by rw [World.cell?_setCell_other _ _ _ _ (fun e => by injection e with e1 e2; omega), World.cell?_setCell_other _ _ _ _ (fun e => by injection e with e1 e2; omega)]; exact q5, by rw [World.cell?_setCell_other _ _ _ _ (fun e => by injection e with e1 e2; omega), World.cell?_setCell_other _ _ _ _ (fun e => by injection e with e1 e2; omega)]; exact q6, by rw [World.cell?_setCell_other _ _ _ _ (fun e => by injection e with e1 e2; omega), World.cell?_setCell_other _ _ _ _ (fun e => by injection e with e1 e2; omega)]; exact q7⟩
      have HZ1 : Hid (wr.heap.size = W1.heap.size) := Lib.hid gz1
      have gz1 : g < W1.heap.size := by omega
      clear ho1 ho2 hg1 hg2 hoi hcl hdc hmem hfp hgo hgp hgf hnw hsame hO hF hFn hp hcs
      go_wp2_with fail
      rw [← hW]
      clear hW z0 z1 q0 q1 q2 q3 q4 q5 q6 q7
      have hRn : p.1.n = p.1.steps.length + p.1.lies.length + p.1.crosses.length + p.1.parts.length + p.1.over.length + p.1.flanks.length := rfl
      obtain ⟨k1, hk1⟩ : ∃ k1 : Int, k1 = k' + 1 + 1 := ⟨_, rfl⟩
      have kb1 : 0 ≤ k1 ∧ k1 ≤ k' + 2 := by omega
      have HK1 : Hid (k1 = k' + 2) := Lib.hid (by omega)
      rw [← hk1]
      clear hk1
      have ro : W1.ownsRow 0 124 2 (.slice A2 p.1.steps.length c2) p.1.steps.length inner2 := Kn.own_move R2.out (fun b hb => B1.out.block b (T2.out b hb) (fun h => by rcases h with h | h; exact HGP.out b (M2.out b (F2'.out b hb)) (by rw [h]; rfl); cases h))
      refine (markStepS A2 p.1.steps.length c2 k1 _ inner2 ro (by omega) (by omega) (by omega)).mono ?_
      intro e w2 hr
      obtain ⟨k2, rfl, hk, hmk, hg, hs⟩ := RetMark.open hr
      have kb2 : 0 ≤ k2 ∧ k2 ≤ k1 + 2 * (p.1.steps.length : Int) := by have := hk.out; push_cast at this; omega
      have HK2 : Hid (k2 = k' + 2 + (2 * p.1.steps.length : Nat)) := Lib.hid (by rw [hk.out, HK1.out])
      have N2 : Hid (Marked 124 2 A2 p.1.steps.length c2 (k' + 2) (2 * p.1.steps.length) w2) := Lib.hid (by have := hmk.out; rwa [HK1.out] at this)
      have HZ2 : Hid (wr.heap.size = w2.heap.size) := Lib.hid (HZ1.out.trans hs.symm)
      clear hr hk ro hmk
      have B2 : Hid (Keep (fun b => b = g ∨ b ∈ F2) wr w2) := Lib.hid ((B1.out.mono (fun y _ h => by
        rcases h with h | h
        · exact .inl h
        · exact .inr (by cases h))).grown hg (fun b hb _ => .inr (by have := F2'.out b hb; simp [this])))
      have gn : ¬ (Value.slice A2 p.1.steps.length c2).ownBlock = some g := fun h => HGP.out g (M2.out g (F2'.out g h)) (by simp [Value.ownBlock])
      have RO2 := Lib.hid (Kn.own_move RO1.out (fun b hb => hg.block b (by have hb : g = b := (by simpa [Value.ownBlock] using hb); subst hb; exact gz1) (fun h => by have hb : g = b := (by simpa [Value.ownBlock] using hb); subst hb; exact gn h.symm)))
      have gz2 : g < w2.heap.size := by omega
      have t3 : w2.cell? ⟨g, j * 8 + 3, none⟩ = some (.slice A3 p.1.lies.length c3) := (World.cell?_of_block (hg.block g gz1 (fun h => gn h.symm))).trans s3
      have t4 : w2.cell? ⟨g, j * 8 + 4, none⟩ = some (.slice A4 p.1.crosses.length c4) := (World.cell?_of_block (hg.block g gz1 (fun h => gn h.symm))).trans s4
      have t5 : w2.cell? ⟨g, j * 8 + 5, none⟩ = some (.slice A5 p.1.parts.length c5) := (World.cell?_of_block (hg.block g gz1 (fun h => gn h.symm))).trans s5
      have t6 : w2.cell? ⟨g, j * 8 + 6, none⟩ = some (.slice A6 p.1.over.length c6) := (World.cell?_of_block (hg.block g gz1 (fun h => gn h.symm))).trans s6
      have t7 : w2.cell? ⟨g, j * 8 + 7, none⟩ = some (.slice A7 p.1.flanks.length c7) := (World.cell?_of_block (hg.block g gz1 (fun h => gn h.symm))).trans s7
      clear hg hs gn B1 RO1 gz1 s2 s3 s4 s5 s6 s7
      go_wp2_with fail
      obtain ⟨W2, rfl⟩ : ∃ W, W = w2 := ⟨_, rfl⟩
      have s3 := t3
      clear t3
      have s4 := t4
      clear t4
      have s5 := t5
      clear t5
      have s6 := t6
      clear t6
      have s7 := t7
      clear t7
      have ro : W2.ownsRow 0 109 2 (.slice A3 p.1.lies.length c3) p.1.lies.length inner3 := Kn.own_move R3.out (fun b hb => B2.out.block b (T3.out b hb) (fun h => by rcases h with h | h; exact HGP.out b (M3.out b (F3'.out b hb)) (by rw [h]; rfl); exact A23.out b h (F3'.out b hb)))
      refine (markLieS A3 p.1.lies.length c3 k2 _ inner3 ro (by omega) (by omega) (by omega)).mono ?_
      intro e w3 hr
      obtain ⟨k3, rfl, hk, hmk, hg, hs⟩ := RetMark.open hr
      have kb3 : 0 ≤ k3 ∧ k3 ≤ k2 + 2 * (p.1.lies.length : Int) := by have := hk.out; push_cast at this; omega
      have HK3 : Hid (k3 = k' + 2 + (2 * p.1.steps.length : Nat) + (2 * p.1.lies.length : Nat)) := Lib.hid (by rw [hk.out, HK2.out])
      have N3 : Hid (Marked 109 2 A3 p.1.lies.length c3 (k' + 2 + (2 * p.1.steps.length : Nat)) (2 * p.1.lies.length) w3) := Lib.hid (by have := hmk.out; rwa [HK2.out] at this)
      have HZ3 : Hid (wr.heap.size = w3.heap.size) := Lib.hid (HZ2.out.trans hs.symm)
      clear hr hk ro hmk
      have B3 : Hid (Keep (fun b => b = g ∨ b ∈ F2 ++ F3) wr w3) := Lib.hid ((B2.out.mono (fun y _ h => by
        rcases h with h | h
        · exact .inl h
        · exact .inr (by simp only [List.mem_append] at h ⊢; exact .inl h))).grown hg (fun b hb _ => .inr (by have := F3'.out b hb; simp [this])))
      have gn : ¬ (Value.slice A3 p.1.lies.length c3).ownBlock = some g := fun h => HGP.out g (M3.out g (F3'.out g h)) (by simp [Value.ownBlock])
      have RO3 := Lib.hid (Kn.own_move RO2.out (fun b hb => hg.block b (by have hb : g = b := (by simpa [Value.ownBlock] using hb); subst hb; exact gz2) (fun h => by have hb : g = b := (by simpa [Value.ownBlock] using hb); subst hb; exact gn h.symm)))
      have gz3 : g < w3.heap.size := by omega
      have N2 := Lib.hid (N2.out.move (fun b hb => hg.block b (by have h1 := T2.out b hb; have h2 := HZ2.out; omega) (fun e => A23.out b (F2'.out b hb) (F3'.out b e.symm))))
      have t4 : w3.cell? ⟨g, j * 8 + 4, none⟩ = some (.slice A4 p.1.crosses.length c4) := (World.cell?_of_block (hg.block g gz2 (fun h => gn h.symm))).trans s4
      have t5 : w3.cell? ⟨g, j * 8 + 5, none⟩ = some (.slice A5 p.1.parts.length c5) := (World.cell?_of_block (hg.block g gz2 (fun h => gn h.symm))).trans s5
      have t6 : w3.cell? ⟨g, j * 8 + 6, none⟩ = some (.slice A6 p.1.over.length c6) := (World.cell?_of_block (hg.block g gz2 (fun h => gn h.symm))).trans s6
      have t7 : w3.cell? ⟨g, j * 8 + 7, none⟩ = some (.slice A7 p.1.flanks.length c7) := (World.cell?_of_block (hg.block g gz2 (fun h => gn h.symm))).trans s7
      clear hg hs gn B2 RO2 gz2 s3 s4 s5 s6 s7
      go_wp2_with fail
      obtain ⟨W3, rfl⟩ : ∃ W, W = w3 := ⟨_, rfl⟩
      have s4 := t4
      clear t4
      have s5 := t5
      clear t5
      have s6 := t6
      clear t6
      have s7 := t7
      clear t7
      have ro : W3.ownsRow 0 3 1 (.slice A4 p.1.crosses.length c4) p.1.crosses.length inner4 := Kn.own_move R4.out (fun b hb => B3.out.block b (T4.out b hb) (fun h => by rcases h with h | h; exact HGP.out b (M4.out b (F4'.out b hb)) (by rw [h]; rfl); simp only [List.mem_append] at h; rcases h with (h | h); exact A24.out b h (F4'.out b hb); exact A34.out b h (F4'.out b hb)))
      refine (markIntS A4 p.1.crosses.length c4 k3 _ inner4 ro (by omega) (by omega) (by omega)).mono ?_
      intro e w4 hr
      obtain ⟨k4, rfl, hk, hmk, hg, hs⟩ := RetMark.open hr
      have kb4 : 0 ≤ k4 ∧ k4 ≤ k3 + 1 * (p.1.crosses.length : Int) := by have := hk.out; push_cast at this; omega
      have HK4 : Hid (k4 = k' + 2 + (2 * p.1.steps.length : Nat) + (2 * p.1.lies.length : Nat) + (1 * p.1.crosses.length : Nat)) := Lib.hid (by rw [hk.out, HK3.out])
      have N4 : Hid (Marked 3 1 A4 p.1.crosses.length c4 (k' + 2 + (2 * p.1.steps.length : Nat) + (2 * p.1.lies.length : Nat)) (1 * p.1.crosses.length) w4) := Lib.hid (by have := hmk.out; rwa [HK3.out] at this)
      have HZ4 : Hid (wr.heap.size = w4.heap.size) := Lib.hid (HZ3.out.trans hs.symm)
      clear hr hk ro hmk
      have B4 : Hid (Keep (fun b => b = g ∨ b ∈ F2 ++ F3 ++ F4) wr w4) := Lib.hid ((B3.out.mono (fun y _ h => by
        rcases h with h | h
        · exact .inl h
        · exact .inr (by simp only [List.mem_append] at h ⊢; exact .inl h))).grown hg (fun b hb _ => .inr (by have := F4'.out b hb; simp [this])))
      have gn : ¬ (Value.slice A4 p.1.crosses.length c4).ownBlock = some g := fun h => HGP.out g (M4.out g (F4'.out g h)) (by simp [Value.ownBlock])
      have RO4 := Lib.hid (Kn.own_move RO3.out (fun b hb => hg.block b (by have hb : g = b := (by simpa [Value.ownBlock] using hb); subst hb; exact gz3) (fun h => by have hb : g = b := (by simpa [Value.ownBlock] using hb); subst hb; exact gn h.symm)))
      have gz4 : g < w4.heap.size := by omega
      have N2 := Lib.hid (N2.out.move (fun b hb => hg.block b (by have h1 := T2.out b hb; have h2 := HZ3.out; omega) (fun e => A24.out b (F2'.out b hb) (F4'.out b e.symm))))
      have N3 := Lib.hid (N3.out.move (fun b hb => hg.block b (by have h1 := T3.out b hb; have h2 := HZ3.out; omega) (fun e => A34.out b (F3'.out b hb) (F4'.out b e.symm))))
      have t5 : w4.cell? ⟨g, j * 8 + 5, none⟩ = some (.slice A5 p.1.parts.length c5) := (World.cell?_of_block (hg.block g gz3 (fun h => gn h.symm))).trans s5
      have t6 : w4.cell? ⟨g, j * 8 + 6, none⟩ = some (.slice A6 p.1.over.length c6) := (World.cell?_of_block (hg.block g gz3 (fun h => gn h.symm))).trans s6
      have t7 : w4.cell? ⟨g, j * 8 + 7, none⟩ = some (.slice A7 p.1.flanks.length c7) := (World.cell?_of_block (hg.block g gz3 (fun h => gn h.symm))).trans s7
      clear hg hs gn B3 RO3 gz3 s4 s5 s6 s7
      go_wp2_with fail
      obtain ⟨W4, rfl⟩ : ∃ W, W = w4 := ⟨_, rfl⟩
      have s5 := t5
      clear t5
      have s6 := t6
      clear t6
      have s7 := t7
      clear t7
      have ro : W4.ownsRow 0 128 3 (.slice A5 p.1.parts.length c5) p.1.parts.length inner5 := Kn.own_move R5.out (fun b hb => B4.out.block b (T5.out b hb) (fun h => by rcases h with h | h; exact HGP.out b (M5.out b (F5'.out b hb)) (by rw [h]; rfl); simp only [List.mem_append] at h; rcases h with ((h | h) | h); exact A25.out b h (F5'.out b hb); exact A35.out b h (F5'.out b hb); exact A45.out b h (F5'.out b hb)))
      refine (markPartS A5 p.1.parts.length c5 k4 _ inner5 ro (by omega) (by omega) (by omega)).mono ?_
      intro e w5 hr
      obtain ⟨k5, rfl, hk, hmk, hg, hs⟩ := RetMark.open hr
      have kb5 : 0 ≤ k5 ∧ k5 ≤ k4 + 3 * (p.1.parts.length : Int) := by have := hk.out; push_cast at this; omega
      have HK5 : Hid (k5 = k' + 2 + (2 * p.1.steps.length : Nat) + (2 * p.1.lies.length : Nat) + (1 * p.1.crosses.length : Nat) + (3 * p.1.parts.length : Nat)) := Lib.hid (by rw [hk.out, HK4.out])
      have N5 : Hid (Marked 128 3 A5 p.1.parts.length c5 (k' + 2 + (2 * p.1.steps.length : Nat) + (2 * p.1.lies.length : Nat) + (1 * p.1.crosses.length : Nat)) (3 * p.1.parts.length) w5) := Lib.hid (by have := hmk.out; rwa [HK4.out] at this)
      have HZ5 : Hid (wr.heap.size = w5.heap.size) := Lib.hid (HZ4.out.trans hs.symm)
      clear hr hk ro hmk
      have B5 : Hid (Keep (fun b => b = g ∨ b ∈ F2 ++ F3 ++ F4 ++ F5) wr w5) := Lib.hid ((B4.out.mono (fun y _ h => by
        rcases h with h | h
        · exact .inl h
        · exact .inr (by simp only [List.mem_append] at h ⊢; exact .inl h))).grown hg (fun b hb _ => .inr (by have := F5'.out b hb; simp [this])))
      have gn : ¬ (Value.slice A5 p.1.parts.length c5).ownBlock = some g := fun h => HGP.out g (M5.out g (F5'.out g h)) (by simp [Value.ownBlock])
      have RO5 := Lib.hid (Kn.own_move RO4.out (fun b hb => hg.block b (by have hb : g = b := (by simpa [Value.ownBlock] using hb); subst hb; exact gz4) (fun h => by have hb : g = b := (by simpa [Value.ownBlock] using hb); subst hb; exact gn h.symm)))
      have gz5 : g < w5.heap.size := by omega
      have N2 := Lib.hid (N2.out.move (fun b hb => hg.block b (by have h1 := T2.out b hb; have h2 := HZ4.out; omega) (fun e => A25.out b (F2'.out b hb) (F5'.out b e.symm))))
      have N3 := Lib.hid (N3.out.move (fun b hb => hg.block b (by have h1 := T3.out b hb; have h2 := HZ4.out; omega) (fun e => A35.out b (F3'.out b hb) (F5'.out b e.symm))))
      have N4 := Lib.hid (N4.out.move (fun b hb => hg.block b (by have h1 := T4.out b hb; have h2 := HZ4.out; omega) (fun e => A45.out b (F4'.out b hb) (F5'.out b e.symm))))
      have t6 : w5.cell? ⟨g, j * 8 + 6, none⟩ = some (.slice A6 p.1.over.length c6) := (World.cell?_of_block (hg.block g gz4 (fun h => gn h.symm))).trans s6
      have t7 : w5.cell? ⟨g, j * 8 + 7, none⟩ = some (.slice A7 p.1.flanks.length c7) := (World.cell?_of_block (hg.block g gz4 (fun h => gn h.symm))).trans s7
      clear hg hs gn B4 RO4 gz4 s5 s6 s7
      go_wp2_with fail
      obtain ⟨W5, rfl⟩ : ∃ W, W = w5 := ⟨_, rfl⟩
      have s6 := t6
      clear t6
      have s7 := t7
      clear t7
      have ro : W5.ownsRow 0 128 3 (.slice A6 p.1.over.length c6) p.1.over.length inner6 := Kn.own_move R6.out (fun b hb => B5.out.block b (T6.out b hb) (fun h => by rcases h with h | h; exact HGP.out b (M6.out b (F6'.out b hb)) (by rw [h]; rfl); simp only [List.mem_append] at h; rcases h with (((h | h) | h) | h); exact A26.out b h (F6'.out b hb); exact A36.out b h (F6'.out b hb); exact A46.out b h (F6'.out b hb); exact A56.out b h (F6'.out b hb)))
      refine (markPartS A6 p.1.over.length c6 k5 _ inner6 ro (by omega) (by omega) (by omega)).mono ?_
      intro e w6 hr
      obtain ⟨k6, rfl, hk, hmk, hg, hs⟩ := RetMark.open hr
      have kb6 : 0 ≤ k6 ∧ k6 ≤ k5 + 3 * (p.1.over.length : Int) := by have := hk.out; push_cast at this; omega
      have HK6 : Hid (k6 = k' + 2 + (2 * p.1.steps.length : Nat) + (2 * p.1.lies.length : Nat) + (1 * p.1.crosses.length : Nat) + (3 * p.1.parts.length : Nat) + (3 * p.1.over.length : Nat)) := Lib.hid (by rw [hk.out, HK5.out])
      have N6 : Hid (Marked 128 3 A6 p.1.over.length c6 (k' + 2 + (2 * p.1.steps.length : Nat) + (2 * p.1.lies.length : Nat) + (1 * p.1.crosses.length : Nat) + (3 * p.1.parts.length : Nat)) (3 * p.1.over.length) w6) := Lib.hid (by have := hmk.out; rwa [HK5.out] at this)
      have HZ6 : Hid (wr.heap.size = w6.heap.size) := Lib.hid (HZ5.out.trans hs.symm)
      clear hr hk ro hmk
      have B6 : Hid (Keep (fun b => b = g ∨ b ∈ F2 ++ F3 ++ F4 ++ F5 ++ F6) wr w6) := Lib.hid ((B5.out.mono (fun y _ h => by
        rcases h with h | h
        · exact .inl h
        · exact .inr (by simp only [List.mem_append] at h ⊢; exact .inl h))).grown hg (fun b hb _ => .inr (by have := F6'.out b hb; simp [this])))
      have gn : ¬ (Value.slice A6 p.1.over.length c6).ownBlock = some g := fun h => HGP.out g (M6.out g (F6'.out g h)) (by simp [Value.ownBlock])
      have RO6 := Lib.hid (Kn.own_move RO5.out (fun b hb => hg.block b (by have hb : g = b := (by simpa [Value.ownBlock] using hb); subst hb; exact gz5) (fun h => by have hb : g = b := (by simpa [Value.ownBlock] using hb); subst hb; exact gn h.symm)))
      have gz6 : g < w6.heap.size := by omega
      have N2 := Lib.hid (N2.out.move (fun b hb => hg.block b (by have h1 := T2.out b hb; have h2 := HZ5.out; omega) (fun e => A26.out b (F2'.out b hb) (F6'.out b e.symm))))
      have N3 := Lib.hid (N3.out.move (fun b hb => hg.block b (by have h1 := T3.out b hb; have h2 := HZ5.out; omega) (fun e => A36.out b (F3'.out b hb) (F6'.out b e.symm))))
      have N4 := Lib.hid (N4.out.move (fun b hb => hg.block b (by have h1 := T4.out b hb; have h2 := HZ5.out; omega) (fun e => A46.out b (F4'.out b hb) (F6'.out b e.symm))))
      have N5 := Lib.hid (N5.out.move (fun b hb => hg.block b (by have h1 := T5.out b hb; have h2 := HZ5.out; omega) (fun e => A56.out b (F5'.out b hb) (F6'.out b e.symm))))
      have t7 : w6.cell? ⟨g, j * 8 + 7, none⟩ = some (.slice A7 p.1.flanks.length c7) := (World.cell?_of_block (hg.block g gz5 (fun h => gn h.symm))).trans s7
      clear hg hs gn B5 RO5 gz5 s6 s7
      go_wp2_with fail
      obtain ⟨W6, rfl⟩ : ∃ W, W = w6 := ⟨_, rfl⟩
      have s7 := t7
      clear t7
      have ro : W6.ownsRow 0 157 4 (.slice A7 p.1.flanks.length c7) p.1.flanks.length inner7 := Kn.own_move R7.out (fun b hb => B6.out.block b (T7.out b hb) (fun h => by rcases h with h | h; exact HGP.out b (M7.out b (F7'.out b hb)) (by rw [h]; rfl); simp only [List.mem_append] at h; rcases h with ((((h | h) | h) | h) | h); exact A27.out b h (F7'.out b hb); exact A37.out b h (F7'.out b hb); exact A47.out b h (F7'.out b hb); exact A57.out b h (F7'.out b hb); exact A67.out b h (F7'.out b hb)))
      refine (markFlankS A7 p.1.flanks.length c7 k6 _ inner7 ro (by omega) (by omega) (by omega)).mono ?_
      intro e w7 hr
      obtain ⟨k7, rfl, hk, hmk, hg, hs⟩ := RetMark.open hr
      have kb7 : 0 ≤ k7 ∧ k7 ≤ k6 + 4 * (p.1.flanks.length : Int) := by have := hk.out; push_cast at this; omega
      have HK7 : Hid (k7 = k' + 2 + (2 * p.1.steps.length : Nat) + (2 * p.1.lies.length : Nat) + (1 * p.1.crosses.length : Nat) + (3 * p.1.parts.length : Nat) + (3 * p.1.over.length : Nat) + (4 * p.1.flanks.length : Nat)) := Lib.hid (by rw [hk.out, HK6.out])
      have N7 : Hid (Marked 157 4 A7 p.1.flanks.length c7 (k' + 2 + (2 * p.1.steps.length : Nat) + (2 * p.1.lies.length : Nat) + (1 * p.1.crosses.length : Nat) + (3 * p.1.parts.length : Nat) + (3 * p.1.over.length : Nat)) (4 * p.1.flanks.length) w7) := Lib.hid (by have := hmk.out; rwa [HK6.out] at this)
      have HZ7 : Hid (wr.heap.size = w7.heap.size) := Lib.hid (HZ6.out.trans hs.symm)
      clear hr hk ro hmk
      have B7 : Hid (Keep (fun b => b = g ∨ b ∈ F2 ++ F3 ++ F4 ++ F5 ++ F6 ++ F7) wr w7) := Lib.hid ((B6.out.mono (fun y _ h => by
        rcases h with h | h
        · exact .inl h
        · exact .inr (by simp only [List.mem_append] at h ⊢; exact .inl h))).grown hg (fun b hb _ => .inr (by have := F7'.out b hb; simp [this])))
      have gn : ¬ (Value.slice A7 p.1.flanks.length c7).ownBlock = some g := fun h => HGP.out g (M7.out g (F7'.out g h)) (by simp [Value.ownBlock])
      have RO7 := Lib.hid (Kn.own_move RO6.out (fun b hb => hg.block b (by have hb : g = b := (by simpa [Value.ownBlock] using hb); subst hb; exact gz6) (fun h => by have hb : g = b := (by simpa [Value.ownBlock] using hb); subst hb; exact gn h.symm)))
      have gz7 : g < w7.heap.size := by omega
      have N2 := Lib.hid (N2.out.move (fun b hb => hg.block b (by have h1 := T2.out b hb; have h2 := HZ6.out; omega) (fun e => A27.out b (F2'.out b hb) (F7'.out b e.symm))))
      have N3 := Lib.hid (N3.out.move (fun b hb => hg.block b (by have h1 := T3.out b hb; have h2 := HZ6.out; omega) (fun e => A37.out b (F3'.out b hb) (F7'.out b e.symm))))
      have N4 := Lib.hid (N4.out.move (fun b hb => hg.block b (by have h1 := T4.out b hb; have h2 := HZ6.out; omega) (fun e => A47.out b (F4'.out b hb) (F7'.out b e.symm))))
      have N5 := Lib.hid (N5.out.move (fun b hb => hg.block b (by have h1 := T5.out b hb; have h2 := HZ6.out; omega) (fun e => A57.out b (F5'.out b hb) (F7'.out b e.symm))))
      have N6 := Lib.hid (N6.out.move (fun b hb => hg.block b (by have h1 := T6.out b hb; have h2 := HZ6.out; omega) (fun e => A67.out b (F6'.out b hb) (F7'.out b e.symm))))
      have HKF : Hid (k7 = k + (tot markN ((ps.map Prod.fst).take (j + 1)) : Nat)) := Lib.hid (by
        have h1 := HK7.out
        have h2 := HK.out
        have h3 := HXT.out
        unfold markN at h3 h2 ⊢
        push_cast at h1 h2 ⊢
        omega)
      have HW2 : Hid (∃ inn2, w7.ownsRow 0 80 8 (.slice (some ⟨g, 0, none⟩) ps.length c) ps.length inn2 ∧ ∀ i, 8 * (j + 1) ≤ i → inn2[i]? = inner[i]?) := Lib.hid ⟨_, RO7.out, fun i hi => by
        rw [List.getElem?_set_ne (by omega), List.getElem?_set_ne (by omega)]
        exact HSM.out i (by omega)⟩
      have hsub : ∀ b, b ∈ F2 ++ F3 ++ F4 ++ F5 ++ F6 ++ F7 → b ∈ p.2 := fun b h => by
        simp only [List.mem_append] at h
        rcases h with ((((h | h) | h) | h) | h) | h
        · exact M2.out b h
        · exact M3.out b h
        · exact M4.out b h
        · exact M5.out b h
        · exact M6.out b h
        · exact M7.out b h
      have HP2 : Hid (Keep (Wrote (some ⟨g, 0, none⟩) ps.length c ps (j + 1)) w w7) := Lib.hid ((HP.out.mono (fun b _ h => by
        rcases h with h | ⟨i, q, hi, hq, hb⟩
        · exact .inl h
        · exact .inr ⟨i, q, by omega, hq, hb⟩)).trans B7.out (fun b _ h => by
        rcases h with h | h
        · exact .inl (by rw [h]; rfl)
        · exact .inr ⟨j, p, by omega, HPP.out, hsub b h⟩))
      have hjl : 8 * ps.length = ps.length * 8 := Nat.mul_comm _ _
      have HMR2 : Hid (MRS w7 (some ⟨g, 0, none⟩) ps k (j + 1)) := Lib.hid (by
        have hcell7 : ∀ i, i < ps.length * 8 → i ≠ j * 8 → i ≠ j * 8 + 1 → w7.cell? ⟨g, i, none⟩ = wr.cell? ⟨g, i, none⟩ := fun i hi h1 h2 => by
          rw [RO7.out.cellAt _ hi, HOI.out.cellAt _ hi, List.getElem?_set_ne (fun e => h2 e.symm), List.getElem?_set_ne (fun e => h1 e.symm)]
        have hin : inn.length = ps.length * 8 := HOI.out.1
        have hm0 := HMR.out.move (w1 := w7) (fun g' i o hA hg hi ho => by
          injection hA with hA
          injection hA with hA _ _
          subst hA
          exact hcell7 _ (by omega) (by omega) (by omega)) (fun b hb hl => B7.out.block b hl (fun h => by
          rcases h with h | h
          · rw [h] at hb
            exact HGF.out hb
          · exact HFP.out b (hsub b h) hb)) B7.out.size
        intro i q hi hq
        by_cases hij : i = j
        · subst hij
          have := HPP.out.symm.trans hq
          obtain rfl := Option.some.inj this
          have hcs : ∀ o u, o < 8 → 2 ≤ o → wr.cell? ⟨g, i * 8 + o, none⟩ = some u → w7.cell? ⟨g, i * 8 + o, none⟩ = some u := fun o u ho ho2 h => (hcell7 _ (by omega) (by omega) (by omega)).trans h
          have hko := HK.out
          refine ⟨g, rfl, Nat.lt_of_lt_of_le GL B7.out.size, A2, A3, A4, A5, A6, A7, c2, c3, c4, c5, c6, c7, ⟨?_, ?_, hcs 2 _ (by omega) (by omega) SQ.out.1, hcs 3 _ (by omega) (by omega) SQ.out.2.1, hcs 4 _ (by omega) (by omega) SQ.out.2.2.1, hcs 5 _ (by omega) (by omega) SQ.out.2.2.2.1, hcs 6 _ (by omega) (by omega) SQ.out.2.2.2.2.1, hcs 7 _ (by omega) (by omega) SQ.out.2.2.2.2.2, by rw [← hko]; exact N2.out, by rw [← hko]; exact N3.out, by rw [← hko]; exact N4.out, by rw [← hko]; exact N5.out, by rw [← hko]; exact N6.out, by rw [← hko]; exact N7.out, fun b hb => ⟨M2.out b (F2'.out b hb), by have h1 := T2.out b hb; have h2 := HZ7.out; omega⟩, fun b hb => ⟨M3.out b (F3'.out b hb), by have h1 := T3.out b hb; have h2 := HZ7.out; omega⟩, fun b hb => ⟨M4.out b (F4'.out b hb), by have h1 := T4.out b hb; have h2 := HZ7.out; omega⟩, fun b hb => ⟨M5.out b (F5'.out b hb), by have h1 := T5.out b hb; have h2 := HZ7.out; omega⟩, fun b hb => ⟨M6.out b (F6'.out b hb), by have h1 := T6.out b hb; have h2 := HZ7.out; omega⟩, fun b hb => ⟨M7.out b (F7'.out b hb), by have h1 := T7.out b hb; have h2 := HZ7.out; omega⟩⟩⟩
          · rw [RO7.out.cellAt _ (by omega), List.getElem?_set_ne (by omega), List.getElem?_set_self (by omega), hko]
          · rw [RO7.out.cellAt _ (by omega), List.getElem?_set_self (by rw [List.length_set]; omega), hko]
        · exact hm0 i q (by omega) hq)
      have hz7 : Hid (w7.heap.size = w.heap.size) := Lib.hid (HZ7.out.symm.trans HZ.out)
      clear hg hs gn B7 RO7 s7 hsub hjl
      go_wp2
      go_roundw
      case rel => exact ⟨j + 1, k7, by omega, by go_num, rfl, HKF, HW2, HP2, HMR2, hz7⟩
      case measure => simp [intOf]; omega
    · obtain rfl : j = ps.length := by omega
      have HKF : Hid (k' = k + (tot markN (ps.map Prod.fst) : Nat)) := Lib.hid (by have := HK.out; rwa [List.take_of_length_le (by rw [List.length_map]; omega)] at this)
      have hz := HZ.out
      clear HZ
      have HZ2 := Lib.hid hz
      clear hz
      go_wp2
      go_ret
      refine ⟨k', rfl, HKF, HMR, Lib.hid (HP.out.mono (fun b _ h => ?_)), HZ2.out⟩
      rcases h with h | h
      · exact Kn.mem_foot_own h
      · exact List.mem_append_right _ (firsts_mem h)
set_option maxRecDepth 100000 in
set_option maxHeartbeats 8000000 in
theorem heldRouteS (A : Option Addr) (c : Nat) (ps : List (Route × List Nat)) (k : Int) (w : World) (hm : MRS w A ps k ps.length) (hn : tot markN (ps.map Prod.fst) ≤ 1073741824) (hpl : ps.length ≤ 4194304) (he : Hid (∀ p ∈ ps, p.1.n ≤ 4194304)) (h0 : 0 ≤ k) (h1 : k ≤ 1073741824) :
    Calls Tryz.prog 18 #[.slice A ps.length c, .int .i64 k] w (RetI0 (k + (tot markN (ps.map Prod.fst) : Nat)) w) := by
  have HM := Lib.hid hm
  clear hm
  have htot : ∀ j, tot markN ((ps.map Prod.fst).take j) ≤ tot markN (ps.map Prod.fst) := fun j => tot_le _ _ _
  have HTT := Lib.hid htot
  clear htot
  go_enter Tryz.func18, Tryz.ntmps18
  go_wp2
  go_loopw [1, 5] (fun kk i wr => ∃ (j : Nat) (k' : Int), j ≤ ps.length ∧ i = .int .i64 j ∧ kk = .int .i64 k' ∧ Hid (k' = k + (tot markN ((ps.map Prod.fst).take j) : Nat)) ∧ wr = w) (fun _ i _ => ps.length - (intOf i).toNat)
  case atStart => exact ⟨0, k, Nat.zero_le _, rfl, rfl, Lib.hid (by simp [tot]), rfl⟩
  case round =>
    obtain ⟨j, k', hj, rfl, rfl, HK, rfl⟩ := hrel
    have hkb : 0 ≤ k' ∧ k' ≤ 2147483648 := by have := HK.out; have := HTT.out j; omega
    by_cases hlt' : j < ps.length
    · obtain ⟨p, hp⟩ : ∃ p, ps[j]? = some p := ⟨_, List.getElem?_eq_getElem hlt'⟩
      have HPP := Lib.hid hp
      have i0 : (0 : Int) ≤ (j : Int) := Int.natCast_nonneg _
      have i1 : (j : Int) < (ps.length : Int) := by omega
      have HXT : Hid (tot markN ((ps.map Prod.fst).take (j + 1)) = tot markN ((ps.map Prod.fst).take j) + markN p.1) := Lib.hid (tot_push _ _ _ p.1 (by rw [List.getElem?_map, hp]; rfl))
      have hpn : p.1.n ≤ 4194304 := he.out p (List.mem_of_getElem? hp)
      have hRn : p.1.n = p.1.steps.length + p.1.lies.length + p.1.crosses.length + p.1.parts.length + p.1.over.length + p.1.flanks.length := rfl
      obtain ⟨g, rfl, hg, A2, A3, A4, A5, A6, A7, c2, c3, c4, c5, c6, c7, hM⟩ := HM.out j p hlt' hp
      rw [← HK.out] at hM
      have HMM := Lib.hid hM
      clear hM hp
      have q0 := HMM.out.n0
      have q1 := HMM.out.n1
      have q2 := HMM.out.s2
      have q3 := HMM.out.s3
      have q4 := HMM.out.s4
      have q5 := HMM.out.s5
      have q6 := HMM.out.s6
      have q7 := HMM.out.s7
      obtain ⟨k1, hk1⟩ : ∃ k1 : Int, Hid (k' + 1 + 1 = k1) := ⟨_, Lib.hid rfl⟩
      have kb1 : 0 ≤ k1 ∧ k1 ≤ k' + 2 := by have := hk1.out; omega
      have HK1 : Hid (k1 = k' + 2) := Lib.hid (by have := hk1.out; omega)
      obtain ⟨k2, hk2⟩ : ∃ k2 : Int, Hid (k1 + (2 * p.1.steps.length : Nat) = k2) := ⟨_, Lib.hid rfl⟩
      have kb2 : 0 ≤ k2 ∧ k2 ≤ k1 + 2 * (p.1.steps.length : Int) := by have := hk2.out; push_cast at this; omega
      have dk2 : decide (k2 < 0) = false := decide_eq_false (by omega)
      have HK2 : Hid (k2 = k' + 2 + (2 * p.1.steps.length : Nat)) := Lib.hid (by rw [← hk2.out, HK1.out])
      have N2 : Hid (Marked 124 2 A2 p.1.steps.length c2 k1 (2 * p.1.steps.length) wr) := Lib.hid (by rw [HK1.out]; exact HMM.out.m2)
      obtain ⟨k3, hk3⟩ : ∃ k3 : Int, Hid (k2 + (2 * p.1.lies.length : Nat) = k3) := ⟨_, Lib.hid rfl⟩
      have kb3 : 0 ≤ k3 ∧ k3 ≤ k2 + 2 * (p.1.lies.length : Int) := by have := hk3.out; push_cast at this; omega
      have dk3 : decide (k3 < 0) = false := decide_eq_false (by omega)
      have HK3 : Hid (k3 = k' + 2 + (2 * p.1.steps.length : Nat) + (2 * p.1.lies.length : Nat)) := Lib.hid (by rw [← hk3.out, HK2.out])
      have N3 : Hid (Marked 109 2 A3 p.1.lies.length c3 k2 (2 * p.1.lies.length) wr) := Lib.hid (by rw [HK2.out]; exact HMM.out.m3)
      obtain ⟨k4, hk4⟩ : ∃ k4 : Int, Hid (k3 + (1 * p.1.crosses.length : Nat) = k4) := ⟨_, Lib.hid rfl⟩
      have kb4 : 0 ≤ k4 ∧ k4 ≤ k3 + 1 * (p.1.crosses.length : Int) := by have := hk4.out; push_cast at this; omega
      have dk4 : decide (k4 < 0) = false := decide_eq_false (by omega)
      have HK4 : Hid (k4 = k' + 2 + (2 * p.1.steps.length : Nat) + (2 * p.1.lies.length : Nat) + (1 * p.1.crosses.length : Nat)) := Lib.hid (by rw [← hk4.out, HK3.out])
      have N4 : Hid (Marked 3 1 A4 p.1.crosses.length c4 k3 (1 * p.1.crosses.length) wr) := Lib.hid (by rw [HK3.out]; exact HMM.out.m4)
      obtain ⟨k5, hk5⟩ : ∃ k5 : Int, Hid (k4 + (3 * p.1.parts.length : Nat) = k5) := ⟨_, Lib.hid rfl⟩
      have kb5 : 0 ≤ k5 ∧ k5 ≤ k4 + 3 * (p.1.parts.length : Int) := by have := hk5.out; push_cast at this; omega
      have dk5 : decide (k5 < 0) = false := decide_eq_false (by omega)
      have HK5 : Hid (k5 = k' + 2 + (2 * p.1.steps.length : Nat) + (2 * p.1.lies.length : Nat) + (1 * p.1.crosses.length : Nat) + (3 * p.1.parts.length : Nat)) := Lib.hid (by rw [← hk5.out, HK4.out])
      have N5 : Hid (Marked 128 3 A5 p.1.parts.length c5 k4 (3 * p.1.parts.length) wr) := Lib.hid (by rw [HK4.out]; exact HMM.out.m5)
      obtain ⟨k6, hk6⟩ : ∃ k6 : Int, Hid (k5 + (3 * p.1.over.length : Nat) = k6) := ⟨_, Lib.hid rfl⟩
      have kb6 : 0 ≤ k6 ∧ k6 ≤ k5 + 3 * (p.1.over.length : Int) := by have := hk6.out; push_cast at this; omega
      have dk6 : decide (k6 < 0) = false := decide_eq_false (by omega)
      have HK6 : Hid (k6 = k' + 2 + (2 * p.1.steps.length : Nat) + (2 * p.1.lies.length : Nat) + (1 * p.1.crosses.length : Nat) + (3 * p.1.parts.length : Nat) + (3 * p.1.over.length : Nat)) := Lib.hid (by rw [← hk6.out, HK5.out])
      have N6 : Hid (Marked 128 3 A6 p.1.over.length c6 k5 (3 * p.1.over.length) wr) := Lib.hid (by rw [HK5.out]; exact HMM.out.m6)
      obtain ⟨k7, hk7⟩ : ∃ k7 : Int, Hid (k6 + (4 * p.1.flanks.length : Nat) = k7) := ⟨_, Lib.hid rfl⟩
      have kb7 : 0 ≤ k7 ∧ k7 ≤ k6 + 4 * (p.1.flanks.length : Int) := by have := hk7.out; push_cast at this; omega
      have dk7 : decide (k7 < 0) = false := decide_eq_false (by omega)
      have HK7 : Hid (k7 = k' + 2 + (2 * p.1.steps.length : Nat) + (2 * p.1.lies.length : Nat) + (1 * p.1.crosses.length : Nat) + (3 * p.1.parts.length : Nat) + (3 * p.1.over.length : Nat) + (4 * p.1.flanks.length : Nat)) := Lib.hid (by rw [← hk7.out, HK6.out])
      have N7 : Hid (Marked 157 4 A7 p.1.flanks.length c7 k6 (4 * p.1.flanks.length) wr) := Lib.hid (by rw [HK6.out]; exact HMM.out.m7)
      have HKF : Hid (k7 = k + (tot markN ((ps.map Prod.fst).take (j + 1)) : Nat)) := Lib.hid (by
        have h1 := HK7.out
        have h2 := HK.out
        have h3 := HXT.out
        unfold markN at h3 h2 ⊢
        push_cast at h1 h2 ⊢
        omega)
      go_wp2_with fail
      rw [hk1.out]
      refine (heldStepS A2 p.1.steps.length c2 k1 _ N2.out (by omega) (by omega) (by omega)).mono ?_
      rintro e w2 ⟨rfl, rfl⟩
      rw [hk2.out]
      go_wp2_with fail
      refine (heldLieS A3 p.1.lies.length c3 k2 _ N3.out (by omega) (by omega) (by omega)).mono ?_
      rintro e w3 ⟨rfl, rfl⟩
      rw [hk3.out]
      go_wp2_with fail
      refine (heldIntS A4 p.1.crosses.length c4 k3 _ N4.out (by omega) (by omega) (by omega)).mono ?_
      rintro e w4 ⟨rfl, rfl⟩
      rw [hk4.out]
      go_wp2_with fail
      refine (heldPartS A5 p.1.parts.length c5 k4 _ N5.out (by omega) (by omega) (by omega)).mono ?_
      rintro e w5 ⟨rfl, rfl⟩
      rw [hk5.out]
      go_wp2_with fail
      refine (heldPartS A6 p.1.over.length c6 k5 _ N6.out (by omega) (by omega) (by omega)).mono ?_
      rintro e w6 ⟨rfl, rfl⟩
      rw [hk6.out]
      go_wp2_with fail
      refine (heldFlankS A7 p.1.flanks.length c7 k6 _ N7.out (by omega) (by omega) (by omega)).mono ?_
      rintro e w7 ⟨rfl, rfl⟩
      rw [hk7.out]
      clear hk1 hk2 hk3 hk4 hk5 hk6 hk7
      go_wp2
      go_roundw
      case rel => exact ⟨j + 1, k7, by omega, by go_num, rfl, HKF, by first | rfl | trivial⟩
      case measure => simp [intOf]; omega
    · obtain rfl : j = ps.length := by omega
      have HKF : Hid (k' = k + (tot markN (ps.map Prod.fst) : Nat)) := Lib.hid (by have := HK.out; rwa [List.take_of_length_le (by rw [List.length_map]; omega)] at this)
      go_wp2
      go_ret
      exact ⟨by rw [HKF.out]; rfl, rfl⟩
end Go.Proofs.YtpggopdojhodaaaGreat.L
namespace Go.Proofs.YtpggopdojhodaaaGreat.L
open Go.RowKit
set_option linter.unusedVariables false
set_option linter.unusedSimpArgs false
def RetTx (w : World) (en : Ending) (w' : World) : Prop := ∃ s, en = .returned (.string s) ∧ Below w.heap.size w w'
set_option maxRecDepth 100000 in
set_option maxHeartbeats 4000000 in
theorem markText (k : Int) (w : World) (h0 : 1 ≤ k) (h1 : k ≤ 1125899906842624) : Calls Tryz.prog 49 #[.int .i64 k] w (RetTx w) := by
  have d0 : decide (k ≤ 0) = false := decide_eq_false (by omega)
  go_enter Tryz.func49, Tryz.ntmps49
  go_wp2
  go_loopw [0, 3] (fun kv ov wr => ∃ (m : Int) (s : ByteArray), 0 ≤ m ∧ kv = .int .i64 m ∧ ov = .string s ∧ (s.size : Int) + m ≤ 1125899906842630 ∧ Below w.heap.size w wr) (fun kv _ _ => (intOf kv).toNat)
  case atStart => exact ⟨k, _, by omega, rfl, rfl, by show ((0 : Nat) : Int) + k ≤ _; omega, Below.refl _ _⟩
  case round =>
    obtain ⟨m, s, hm, rfl, rfl, hs, hb⟩ := hrel
    by_cases hlt : 0 < m
    · have d1 : decide (0 < m) = true := decide_eq_true hlt
      have hsz : s.size ≤ 1125899906842630 := by omega
      have hmd : m / 10 < m := by omega
      have hmz : 0 ≤ m / 10 := by omega
      have hs1 : (strOfNums [48 + m % 10]).size + s.size ≤ 9223372036854775807 := by rw [strOfNums_size]; simp only [List.length_singleton]; omega
      have hcv := run_convert_bytes_arg (P := Tryz.prog) (wr.alloc (.cells #[.int .u8 (48 + m % 10)] 5)) 165 5 Tryz.underlying165 Tryz.underlying5 wr.heap.size 0 1 1 [48 + m % 10] rfl (fun i hi => by
        obtain rfl : i = 0 := by omega
        exact new_cells wr [.int .u8 (48 + m % 10)] 5 rfl 0 _ rfl) 9 Tryz.underlying9
      have HSZ : Hid ((((strOfNums [48 + m % 10] ++ s).size : Nat) : Int) + m / 10 ≤ 1125899906842630) := Lib.hid (by
        have : (strOfNums [48 + m % 10] ++ s).size = 1 + s.size := by rw [ByteArray.size_append, strOfNums_size]; rfl
        rw [this]
        push_cast
        omega)
      go_wp2
      go_roundw
      case rel => exact ⟨m / 10, _, hmz, rfl, rfl, HSZ.out, hb.alloc hb.size _⟩
      case measure => simp [intOf]; omega
    · have d1 : decide (0 < m) = false := decide_eq_false hlt
      have hsz : s.size ≤ 1125899906842630 := by omega
      have hs1 : (⟨#[109]⟩ : ByteArray).size + s.size ≤ 9223372036854775807 := by show 1 + s.size ≤ _; omega
      go_wp2
      go_ret
      exact ⟨_, rfl, hb⟩
theorem own_addr {w : World} {e sz n c : Nat} {A : Option Addr} {inner : List Value} (ho : w.ownsRow 0 e sz (.slice A n c) n inner) (h0 : 0 < n) : ∃ g, A = some ⟨g, 0, none⟩ ∧ g < w.heap.size := by
  rcases ho.2 with ⟨he, h2⟩ | ⟨g, cap, cur, he, _, hh, _, _, _⟩
  · omega
  · injection he with he _ _
    exact ⟨g, he, lt_of_get hh⟩
def RetMw (S : Nat → Prop) (k : Int) (m : Nat) (w : World) (en : Ending) (w' : World) : Prop := ∃ k' : Int, en = .returned (.int .i64 k') ∧ k ≤ k' ∧ k' ≤ k + m ∧ Keep S w w'
set_option maxRecDepth 100000 in
set_option maxHeartbeats 4000000 in
theorem markPieceS (A : Option Addr) (n c : Nat) (k : Int) (w : World) (inner : List Value) (ho : w.ownsRow 0 132 4 (.slice A n c) n inner) (hn : n ≤ 4194304) (h0 : 1 ≤ k) (h1 : k ≤ 1099511627776) :
    Calls Tryz.prog 47 #[.slice A n c, .int .i64 k] w (RetMw (fun b => (Value.slice A n c).ownBlock = some b) k (4 * n) w) := by
  have HO := Lib.hid ho
  clear ho
  go_enter Tryz.func47, Tryz.ntmps47
  go_wp2
  go_loopw [1, 5] (fun kk i wr => ∃ (j : Nat) (k' : Int), j ≤ n ∧ i = .int .i64 j ∧ kk = .int .i64 k' ∧ k ≤ k' ∧ Hid (k' ≤ k + 4 * j) ∧ Hid (∃ inn, wr.ownsRow 0 132 4 (.slice A n c) n inn) ∧ Hid (Keep (fun b => (Value.slice A n c).ownBlock = some b) w wr)) (fun _ i _ => n - (intOf i).toNat)
  case atStart => exact ⟨0, k, Nat.zero_le _, rfl, rfl, Int.le_refl _, Lib.hid (by omega), Lib.hid ⟨_, HO.out⟩, Lib.hid (Keep.refl _ _)⟩
  case round =>
    obtain ⟨j, k', hj, rfl, rfl, hkl, HK, HW, HP⟩ := hrel
    by_cases hlt : j < n
    · have i0 : (0 : Int) ≤ (j : Int) := Int.natCast_nonneg _
      have i1 : (j : Int) < (n : Int) := by omega
      have hkb : 1 ≤ k' ∧ k' ≤ 1125899906842000 := by have := HK.out; omega
      obtain ⟨inn, hoi⟩ := HW.out
      have HOI := Lib.hid hoi
      obtain ⟨g, rfl, hg⟩ := own_addr hoi (by omega)
      clear hoi HW
      go_wp2_with fail
      refine (markText k' _ (by omega) (by omega)).mono ?_
      rintro e w1 ⟨s, rfl, hb1⟩
      have hoi := Kn.own_move HOI.out (fun b hb => hb1.block b (by have hb : g = b := (by simpa [Value.ownBlock] using hb); subst hb; exact hg))
      have hil : inn.length = n * 4 := hoi.1
      obtain ⟨y0, q0⟩ : ∃ y, w1.cell? ⟨g, j * 4, none⟩ = some y := ⟨inn[j * 4]'(by omega), by rw [hoi.cellAt _ (by omega)]; exact List.getElem?_eq_getElem _⟩
      obtain ⟨y1, q1⟩ : ∃ y, w1.cell? ⟨g, j * 4 + 1, none⟩ = some y := ⟨inn[j * 4 + 1]'(by omega), by rw [hoi.cellAt _ (by omega)]; exact List.getElem?_eq_getElem _⟩
      obtain ⟨y2, q2⟩ : ∃ y, w1.cell? ⟨g, j * 4 + 2, none⟩ = some y := ⟨inn[j * 4 + 2]'(by omega), by rw [hoi.cellAt _ (by omega)]; exact List.getElem?_eq_getElem _⟩
      obtain ⟨y3, q3⟩ : ∃ y, w1.cell? ⟨g, j * 4 + 3, none⟩ = some y := ⟨inn[j * 4 + 3]'(by omega), by rw [hoi.cellAt _ (by omega)]; exact List.getElem?_eq_getElem _⟩
      have z0 : w1.frozen? ⟨g, j * 4, none⟩ = false := hoi.frozenAt _
      have z1 : w1.frozen? ⟨g, j * 4 + 1, none⟩ = false := hoi.frozenAt _
      have z2 : w1.frozen? ⟨g, j * 4 + 2, none⟩ = false := hoi.frozenAt _
      have z3 : w1.frozen? ⟨g, j * 4 + 3, none⟩ = false := hoi.frozenAt _
      obtain ⟨ho1, hg1⟩ := hoi.stored (j * 4) (.string s)
      obtain ⟨ho2, hg2⟩ := ho1.stored (j * 4 + 1) (.int .i64 (k' + 1))
      obtain ⟨ho3, hg3⟩ := ho2.stored (j * 4 + 2) (.int .i64 (k' + 1 + 1))
      obtain ⟨ho4, hg4⟩ := ho3.stored (j * 4 + 3) (.int .i64 (k' + 1 + 1 + 1))
      obtain ⟨W, hW, HW2, HP2⟩ : ∃ W, W = (((w1.setCell ⟨g, j * 4, none⟩ (.string s)).setCell ⟨g, j * 4 + 1, none⟩ (.int .i64 (k' + 1))).setCell ⟨g, j * 4 + 2, none⟩ (.int .i64 (k' + 1 + 1))).setCell ⟨g, j * 4 + 3, none⟩ (.int .i64 (k' + 1 + 1 + 1)) ∧ Hid (∃ inn, W.ownsRow 0 132 4 (.slice (some ⟨g, 0, none⟩) n c) n inn) ∧ Hid (Keep (fun b => (Value.slice (some ⟨g, 0, none⟩) n c).ownBlock = some b) w W) :=
        ⟨_, rfl, Lib.hid ⟨_, ho4⟩, Lib.hid (((((HP.out.below hb1).grown hg1 (fun b hb _ => by simpa [Value.ownBlock] using hb)).grown hg2 (fun b hb _ => by simpa [Value.ownBlock] using hb)).grown hg3 (fun b hb _ => by simpa [Value.ownBlock] using hb)).grown hg4 (fun b hb _ => by simpa [Value.ownBlock] using hb))⟩
      have HK2 : Hid (k' + 1 + 1 + 1 + 1 ≤ k + 4 * ((j + 1 : Nat) : Int)) := Lib.hid (by have := HK.out; push_cast; omega)
      clear ho1 ho2 ho3 ho4 hg1 hg2 hg3 hg4 hoi hil HP hb1 HOI HK
      go_wp2
      rw [← hW]
      clear hW
      go_roundw
      case rel => exact ⟨j + 1, k' + 1 + 1 + 1 + 1, by omega, by go_num, rfl, by omega, HK2, HW2, HP2⟩
      case measure => simp [intOf]; omega
    · obtain rfl : j = n := by omega
      have hkf : k' ≤ k + (4 * j : Nat) := by have := HK.out; push_cast; omega
      go_wp2
      go_ret
      exact ⟨k', rfl, hkl, hkf, HP.out⟩
set_option maxRecDepth 100000 in
set_option maxHeartbeats 4000000 in
theorem markSignalS (A : Option Addr) (n c : Nat) (k : Int) (w : World) (inner : List Value) (ho : w.ownsRow 0 73 4 (.slice A n c) n inner) (hn : n ≤ 4194304) (h0 : 1 ≤ k) (h1 : k ≤ 1099511627776) :
    Calls Tryz.prog 16 #[.slice A n c, .int .i64 k] w (RetMw (fun b => (Value.slice A n c).ownBlock = some b) k (4 * n) w) := by
  have HO := Lib.hid ho
  clear ho
  go_enter Tryz.func16, Tryz.ntmps16
  go_wp2
  go_loopw [1, 5] (fun kk i wr => ∃ (j : Nat) (k' : Int), j ≤ n ∧ i = .int .i64 j ∧ kk = .int .i64 k' ∧ k ≤ k' ∧ Hid (k' ≤ k + 4 * j) ∧ Hid (∃ inn, wr.ownsRow 0 73 4 (.slice A n c) n inn) ∧ Hid (Keep (fun b => (Value.slice A n c).ownBlock = some b) w wr)) (fun _ i _ => n - (intOf i).toNat)
  case atStart => exact ⟨0, k, Nat.zero_le _, rfl, rfl, Int.le_refl _, Lib.hid (by omega), Lib.hid ⟨_, HO.out⟩, Lib.hid (Keep.refl _ _)⟩
  case round =>
    obtain ⟨j, k', hj, rfl, rfl, hkl, HK, HW, HP⟩ := hrel
    by_cases hlt : j < n
    · have i0 : (0 : Int) ≤ (j : Int) := Int.natCast_nonneg _
      have i1 : (j : Int) < (n : Int) := by omega
      have hkb : 1 ≤ k' ∧ k' ≤ 1125899906842000 := by have := HK.out; omega
      obtain ⟨inn, hoi⟩ := HW.out
      have HOI := Lib.hid hoi
      obtain ⟨g, rfl, hg⟩ := own_addr hoi (by omega)
      clear hoi HW
      go_wp2_with fail
      refine (markText k' _ (by omega) (by omega)).mono ?_
      rintro e w1 ⟨s, rfl, hb1⟩
      have hoi := Kn.own_move HOI.out (fun b hb => hb1.block b (by have hb : g = b := (by simpa [Value.ownBlock] using hb); subst hb; exact hg))
      have hil : inn.length = n * 4 := hoi.1
      obtain ⟨y0, q0⟩ : ∃ y, w1.cell? ⟨g, j * 4, none⟩ = some y := ⟨inn[j * 4]'(by omega), by rw [hoi.cellAt _ (by omega)]; exact List.getElem?_eq_getElem _⟩
      obtain ⟨y1, q1⟩ : ∃ y, w1.cell? ⟨g, j * 4 + 1, none⟩ = some y := ⟨inn[j * 4 + 1]'(by omega), by rw [hoi.cellAt _ (by omega)]; exact List.getElem?_eq_getElem _⟩
      obtain ⟨y2, q2⟩ : ∃ y, w1.cell? ⟨g, j * 4 + 2, none⟩ = some y := ⟨inn[j * 4 + 2]'(by omega), by rw [hoi.cellAt _ (by omega)]; exact List.getElem?_eq_getElem _⟩
      obtain ⟨y3, q3⟩ : ∃ y, w1.cell? ⟨g, j * 4 + 3, none⟩ = some y := ⟨inn[j * 4 + 3]'(by omega), by rw [hoi.cellAt _ (by omega)]; exact List.getElem?_eq_getElem _⟩
      have z0 : w1.frozen? ⟨g, j * 4, none⟩ = false := hoi.frozenAt _
      have z1 : w1.frozen? ⟨g, j * 4 + 1, none⟩ = false := hoi.frozenAt _
      have z2 : w1.frozen? ⟨g, j * 4 + 2, none⟩ = false := hoi.frozenAt _
      have z3 : w1.frozen? ⟨g, j * 4 + 3, none⟩ = false := hoi.frozenAt _
      obtain ⟨ho1, hg1⟩ := hoi.stored (j * 4) (.string s)
      obtain ⟨ho2, hg2⟩ := ho1.stored (j * 4 + 1) (.int .i64 (k' + 1))
      obtain ⟨ho3, hg3⟩ := ho2.stored (j * 4 + 2) (.int .i64 (k' + 1 + 1))
      obtain ⟨ho4, hg4⟩ := ho3.stored (j * 4 + 3) (.int .i64 (k' + 1 + 1 + 1))
      obtain ⟨W, hW, HW2, HP2⟩ : ∃ W, W = (((w1.setCell ⟨g, j * 4, none⟩ (.string s)).setCell ⟨g, j * 4 + 1, none⟩ (.int .i64 (k' + 1))).setCell ⟨g, j * 4 + 2, none⟩ (.int .i64 (k' + 1 + 1))).setCell ⟨g, j * 4 + 3, none⟩ (.int .i64 (k' + 1 + 1 + 1)) ∧ Hid (∃ inn, W.ownsRow 0 73 4 (.slice (some ⟨g, 0, none⟩) n c) n inn) ∧ Hid (Keep (fun b => (Value.slice (some ⟨g, 0, none⟩) n c).ownBlock = some b) w W) :=
        ⟨_, rfl, Lib.hid ⟨_, ho4⟩, Lib.hid (((((HP.out.below hb1).grown hg1 (fun b hb _ => by simpa [Value.ownBlock] using hb)).grown hg2 (fun b hb _ => by simpa [Value.ownBlock] using hb)).grown hg3 (fun b hb _ => by simpa [Value.ownBlock] using hb)).grown hg4 (fun b hb _ => by simpa [Value.ownBlock] using hb))⟩
      have HK2 : Hid (k' + 1 + 1 + 1 + 1 ≤ k + 4 * ((j + 1 : Nat) : Int)) := Lib.hid (by have := HK.out; push_cast; omega)
      clear ho1 ho2 ho3 ho4 hg1 hg2 hg3 hg4 hoi hil HP hb1 HOI HK
      go_wp2
      rw [← hW]
      clear hW
      go_roundw
      case rel => exact ⟨j + 1, k' + 1 + 1 + 1 + 1, by omega, by go_num, rfl, by omega, HK2, HW2, HP2⟩
      case measure => simp [intOf]; omega
    · obtain rfl : j = n := by omega
      have hkf : k' ≤ k + (4 * j : Nat) := by have := HK.out; push_cast; omega
      go_wp2
      go_ret
      exact ⟨k', rfl, hkl, hkf, HP.out⟩
theorem jointK_O {e : Nat} {w : World} {x : Joint} {cs : List Value} {F : List Nat} (h : (jointK e).O w x cs F) : ∃ v, cs = [.int .i64 x.kind, .string x.name, v] ∧ (Kn.slice e endK).O w x.ends [v] F := by
  obtain ⟨_, _, _, _, rfl, rfl, ⟨rfl, rfl⟩, ⟨_, _, _, _, rfl, rfl, ⟨rfl, rfl⟩, ⟨v, ps, rfl, e, r, rfl⟩, _⟩, _⟩ := h
  exact ⟨v, rfl, v, ps, rfl, e, r, rfl⟩
def WroteG {α : Type} (A : Option Addr) (n c : Nat) (ps : List (α × List Nat)) (j b : Nat) : Prop := (Value.slice A n c).ownBlock = some b ∨ Firsts ps j b
set_option maxRecDepth 100000 in
set_option maxHeartbeats 8000000 in
theorem markJointS (A : Option Addr) (c : Nat) (ps : List (Joint × List Nat)) (k : Int) (w : World) (hr : (jointK 136).R 139 w (.slice A ps.length c) ps) (hn : tot Joint.n (ps.map Prod.fst) ≤ 1048576) (hl : ps.length ≤ 1048576) (h0 : 1 ≤ k) (h1 : k ≤ 1099511627776) :
    Calls Tryz.prog 48 #[.slice A ps.length c, .int .i64 k] w (RetMw (fun b => b ∈ Kn.foot (.slice A ps.length c) ps) k 4194304 w) := by
  have hlt := Lib.hid (Kn.R_lt hr)
  obtain ⟨inner, ho, hit, hnd⟩ := hr
  have HO := Lib.hid ho
  have HI := Lib.hid hit
  unfold Kn.foot at hnd
  rw [List.nodup_append] at hnd
  have ND := Lib.hid hnd
  clear ho hit hnd
  have htot : ∀ j, tot Joint.n ((ps.map Prod.fst).take j) ≤ tot Joint.n (ps.map Prod.fst) := fun j => tot_le _ _ _
  have HTT := Lib.hid htot
  clear htot
  go_enter Tryz.func48, Tryz.ntmps48
  go_wp2
  go_loopw [1, 5] (fun kk i wr => ∃ (j : Nat) (k' : Int), j ≤ ps.length ∧ i = .int .i64 j ∧ kk = .int .i64 k' ∧ k ≤ k' ∧ Hid (k' ≤ k + 2 * (tot Joint.n ((ps.map Prod.fst).take j) : Nat) + 2 * j) ∧ Hid (∃ inn, wr.ownsRow 0 139 3 (.slice A ps.length c) ps.length inn ∧ ∀ i, 3 * j ≤ i → inn[i]? = inner[i]?) ∧ Hid (Keep (WroteG A ps.length c ps j) w wr)) (fun _ i _ => ps.length - (intOf i).toNat)
  case atStart => exact ⟨0, k, Nat.zero_le _, rfl, rfl, Int.le_refl _, Lib.hid (by simp [tot]), Lib.hid ⟨inner, HO.out, fun _ _ => rfl⟩, Lib.hid (Keep.refl _ _)⟩
  case round =>
    obtain ⟨j, k', hj, rfl, rfl, hkl, HK, HW, HP⟩ := hrel
    have hkb : 1 ≤ k' ∧ k' ≤ 1125899906842000 := by have := HK.out; have := HTT.out j; omega
    by_cases hlt' : j < ps.length
    · obtain ⟨p, hp⟩ : ∃ p, ps[j]? = some p := ⟨_, List.getElem?_eq_getElem hlt'⟩
      have hO := HI.out j p hp
      have i0 : (0 : Int) ≤ (j : Int) := Int.natCast_nonneg _
      have i1 : (j : Int) < (ps.length : Int) := by omega
      have HXT : Hid (tot Joint.n ((ps.map Prod.fst).take (j + 1)) = tot Joint.n ((ps.map Prod.fst).take j) + p.1.n) := Lib.hid (tot_push _ _ _ p.1 (by rw [List.getElem?_map, hp]; rfl))
      have hpn : p.1.ends.length ≤ p.1.n := by unfold Joint.n; omega
      have hpm : p.1.n ≤ 1048576 := by have := HXT.out; have := HTT.out (j + 1); omega
      obtain ⟨g, rfl, hcell⟩ := own_addr HO.out (by omega)
      obtain ⟨inn, hoi, hsame⟩ := HW.out
      obtain ⟨v, hcs, o2⟩ := jointK_O hO
      obtain ⟨A2, c2, rfl⟩ := O_slice o2
      have hdc := drop_cells (sz := 3) HO.out.1 hlt' hcs
      have hcl : ∀ i u, i < 3 → [Value.int .i64 p.1.kind, .string p.1.name, .slice A2 p.1.ends.length c2][i]? = some u → wr.cell? ⟨g, j * 3 + i, none⟩ = some u := fun i u hi hu => by
        rw [hoi.cellAt _ (by omega), hsame _ (by omega)]
        exact (hdc i hi).trans hu
      have q0 : wr.cell? ⟨g, j * 3, none⟩ = some (.int .i64 p.1.kind) := hcl 0 _ (by omega) rfl
      have q1 := hcl 1 _ (by omega) rfl
      have q2 := hcl 2 _ (by omega) rfl
      have z0 : wr.frozen? ⟨g, j * 3, none⟩ = false := hoi.frozenAt _
      have hfp : ∀ b, b ∈ p.2 → ¬ Firsts ps j b := fun b hb ⟨i, q, hi, hq, hbq⟩ => items_apart ND.out.2.1 hq hp (by omega) hbq hb
      have hgo : g ∈ (Value.slice (some ⟨g, 0, none⟩) ps.length c).ownBlock.toList := by simp [Value.ownBlock]
      have hgp : ¬ g ∈ p.2 := fun h => ND.out.2.2 g hgo g (List.mem_flatten.2 ⟨p.2, List.mem_map.2 ⟨p, List.mem_of_getElem? hp, rfl⟩, h⟩) rfl
      have hnw : ∀ b, b ∈ p.2 → ¬ WroteG (some ⟨g, 0, none⟩) ps.length c ps j b := fun b h e => by
        rcases e with e | e
        · have e : g = b := by simpa [Value.ownBlock] using e
          subst e
          exact hgp h
        · exact hfp b h e
      obtain ⟨inner2, r2, f2⟩ := O_row o2
      have R2 := Lib.hid (Kn.own_move r2 (fun b hb => HP.out.block b (r2.lt b hb).2 (hnw b (f2 b hb))))
      have F2 := Lib.hid f2
      have T2 : Hid (∀ b, (Value.slice A2 p.1.ends.length c2).ownBlock = some b → b < wr.heap.size) := Lib.hid (fun b hb => Nat.lt_of_lt_of_le (r2.lt b hb).2 HP.out.size)
      have HGP := Lib.hid hgp
      have HPP := Lib.hid hp
      have HSM := Lib.hid hsame
      have GL : g < wr.heap.size := Nat.lt_of_lt_of_le hcell HP.out.size
      obtain ⟨ho1, hg1⟩ := hoi.stored (j * 3) (.int .i64 k')
      obtain ⟨W1, hW, B1, RO1, gz1, s1, s2⟩ : ∃ W, W = wr.setCell ⟨g, j * 3, none⟩ (.int .i64 k') ∧ Hid (Keep (fun b => b = g) wr W) ∧ Hid (W.ownsRow 0 139 3 (.slice (some ⟨g, 0, none⟩) ps.length c) ps.length (inn.set (j * 3) (.int .i64 k'))) ∧ g < W.heap.size ∧ W.cell? ⟨g, j * 3 + 1, none⟩ = some (.string p.1.name) ∧ W.cell? ⟨g, j * 3 + 2, none⟩ = some (.slice A2 p.1.ends.length c2) :=
        ⟨_, rfl, Lib.hid ((Keep.refl _ _).grown hg1 (fun b hb _ => by simpa [Value.ownBlock] using hb.symm)), Lib.hid ho1, by simp; exact GL, by rw [World.cell?_setCell_other _ _ _ _ (fun e => by injection e with e1 e2; omega)]; exact q1, by rw [World.cell?_setCell_other _ _ _ _ (fun e => by injection e with e1 e2; omega)]; exact q2⟩
      clear ho1 hg1 hoi hcl hdc hfp hgo hgp hnw hsame hO hp hcs o2 r2 f2
      go_wp2_with fail
      rw [← hW]
      clear hW z0 q0 q1 q2
      refine (markText (k' + 1) _ (by omega) (by omega)).mono ?_
      rintro e w2 ⟨s, rfl, hb2⟩
      have hoi := Kn.own_move RO1.out (fun b hb => hb2.block b (by have hb : g = b := (by simpa [Value.ownBlock] using hb); subst hb; exact gz1))
      have q1 : w2.cell? ⟨g, j * 3 + 1, none⟩ = some (.string p.1.name) := (hb2.cell (p := ⟨g, j * 3 + 1, none⟩) gz1).trans s1
      have q2 : w2.cell? ⟨g, j * 3 + 2, none⟩ = some (.slice A2 p.1.ends.length c2) := (hb2.cell (p := ⟨g, j * 3 + 2, none⟩) gz1).trans s2
      have z1 : w2.frozen? ⟨g, j * 3 + 1, none⟩ = false := hoi.frozenAt _
      obtain ⟨ho2, hg2⟩ := hoi.stored (j * 3 + 1) (.string s)
      obtain ⟨W2, hW, B2, RO2, gz2, s3⟩ : ∃ W, W = w2.setCell ⟨g, j * 3 + 1, none⟩ (.string s) ∧ Hid (Keep (fun b => b = g) wr W) ∧ Hid (W.ownsRow 0 139 3 (.slice (some ⟨g, 0, none⟩) ps.length c) ps.length ((inn.set (j * 3) (.int .i64 k')).set (j * 3 + 1) (.string s))) ∧ g < W.heap.size ∧ W.cell? ⟨g, j * 3 + 2, none⟩ = some (.slice A2 p.1.ends.length c2) :=
        ⟨_, rfl, Lib.hid ((B1.out.below hb2).grown hg2 (fun b hb _ => by simpa [Value.ownBlock] using hb.symm)), Lib.hid ho2, by simp; exact Nat.lt_of_lt_of_le gz1 hb2.size, by rw [World.cell?_setCell_other _ _ _ _ (fun e => by injection e with e1 e2; omega)]; exact q2⟩
      clear ho2 hg2 hoi hb2 s1 s2 B1 RO1 gz1
      go_wp2_with fail
      rw [← hW]
      clear hW z1 q1 q2
      have ro : W2.ownsRow 0 136 2 (.slice A2 p.1.ends.length c2) p.1.ends.length inner2 := Kn.own_move R2.out (fun b hb => B2.out.block b (T2.out b hb) (fun h => HGP.out (by rw [← h]; exact F2.out b hb)))
      refine (markEndS A2 p.1.ends.length c2 (k' + 1 + 1) _ inner2 ro (by omega) (by omega) (by omega)).mono ?_
      intro e w3 hr
      obtain ⟨k3, rfl, hk, _, hg, hs⟩ := RetMark.open hr
      have u3 : k' + 1 + 1 ≤ k3 := by have := hk.out; omega
      have HK2 : Hid (k3 ≤ k + 2 * (tot Joint.n ((ps.map Prod.fst).take (j + 1)) : Nat) + 2 * ((j + 1 : Nat) : Int)) := Lib.hid (by have := hk.out; have := HK.out; rw [HXT.out]; push_cast at *; omega)
      have gn : ¬ (Value.slice A2 p.1.ends.length c2).ownBlock = some g := fun h => HGP.out (F2.out g h)
      have HW2 : Hid (∃ inn2, w3.ownsRow 0 139 3 (.slice (some ⟨g, 0, none⟩) ps.length c) ps.length inn2 ∧ ∀ i, 3 * (j + 1) ≤ i → inn2[i]? = inner[i]?) := Lib.hid ⟨_, Kn.own_move RO2.out (fun b hb => hg.block b (by have hb : g = b := (by simpa [Value.ownBlock] using hb); subst hb; exact gz2) (fun h => by have hb : g = b := (by simpa [Value.ownBlock] using hb); subst hb; exact gn h.symm)), fun i hi => by
        rw [List.getElem?_set_ne (by omega), List.getElem?_set_ne (by omega)]
        exact HSM.out i (by omega)⟩
      have HP2 : Hid (Keep (WroteG (some ⟨g, 0, none⟩) ps.length c ps (j + 1)) w w3) := Lib.hid (((HP.out.mono (fun b _ h => by
        rcases h with h | ⟨i, q, hi, hq, hb⟩
        · exact .inl h
        · exact .inr ⟨i, q, by omega, hq, hb⟩)).trans B2.out (fun b _ h => .inl (by rw [h]; rfl))).grown hg (fun b hb _ => .inr ⟨j, p, by omega, HPP.out, F2.out b hb⟩))
      have hkf : k ≤ k3 := by omega
      clear hr hk hg hs gn ro B2 RO2 gz2 s3 HK HXT
      go_wp2
      go_roundw
      case rel => exact ⟨j + 1, k3, by omega, by go_num, rfl, hkf, HK2, HW2, HP2⟩
      case measure => simp [intOf]; omega
    · obtain rfl : j = ps.length := by omega
      have hx2 := HTT.out ps.length
      have hkf : k' ≤ k + (4194304 : Nat) := by have := HK.out; omega
      go_wp2
      go_ret
      refine ⟨k', rfl, hkl, hkf, HP.out.mono (fun b _ h => ?_)⟩
      rcases h with h | h
      · exact Kn.mem_foot_own h
      · exact List.mem_append_right _ (firsts_mem h)
set_option maxRecDepth 100000 in
set_option maxHeartbeats 8000000 in
theorem markNet (x : Net) (A0 A1 : Option Addr) (c0 c1 : Nat) (F0 F1 : List Nat) (k : Int) (w : World) (h0 : (Kn.slice 132 pieceK).O w x.pieces [.slice A0 x.pieces.length c0] F0) (h1 : (Kn.slice 139 (jointK 136)).O w x.joints [.slice A1 x.joints.length c1] F1) (hnd : (F0 ++ F1).Nodup) (hn0 : x.pieces.length ≤ 1048576) (hn1 : tot Joint.n x.joints ≤ 1048576) (hn2 : x.joints.length ≤ 1048576) (hk0 : 1 ≤ k) (hk1 : k ≤ 1000000) :
    Calls Tryz.prog 15 #[.agg #[.slice A0 x.pieces.length c0, .slice A1 x.joints.length c1], .int .i64 k] w (RetMw (fun b => b ∈ F0 ++ F1) k 8388608 w) := by
  have hlt1 := (Kn.slice 139 (jointK 136)).O_lt h1
  obtain ⟨inner0, r0, f0⟩ := O_row h0
  obtain ⟨v, ps, he, hps, hR, rfl⟩ := h1
  injection he with he _
  subst he
  have hl : x.joints.length = ps.length := by rw [hps, List.length_map]
  rw [hl] at hR hlt1 hn2 hnd ⊢
  rw [hps] at hn1
  have hb0 := below_alloc w (.cells #[.slice A0 x.pieces.length c0, .slice A1 ps.length c1] 34)
  have HR0 := Lib.hid (Kn.own_move r0 (fun b hb => hb0.block b (r0.lt b hb).2))
  have HR1 := Lib.hid (Kn.R_move (fun b hb => hb0.block b (hlt1 b hb)) hR)
  have hap := (List.nodup_append.1 hnd).2.2
  have HAP := Lib.hid hap
  have HF0 := Lib.hid f0
  have HT0 : Hid (∀ b, (Value.slice A0 x.pieces.length c0).ownBlock = some b → b < w.heap.size) := Lib.hid (fun b hb => (r0.lt b hb).2)
  have HL1 := Lib.hid hlt1
  clear r0 hR h0 hl hps hlt1 f0 hnd hap
  obtain ⟨W0, hW0, B0, q0, q1, hz⟩ : ∃ W, W = w.alloc (.cells #[.slice A0 x.pieces.length c0, .slice A1 ps.length c1] 34) ∧ Hid (Below w.heap.size w W) ∧ W.cell? ⟨w.heap.size, 0, none⟩ = some (.slice A0 x.pieces.length c0) ∧ W.cell? ⟨w.heap.size, 1, none⟩ = some (.slice A1 ps.length c1) ∧ w.heap.size < W.heap.size := ⟨_, rfl, Lib.hid hb0, by simp, by simp, by simp⟩
  clear hb0
  rw [← hW0] at HR0 HR1
  go_enter Tryz.func15, Tryz.ntmps15
  go_wp2_with fail
  rw [← hW0]
  clear hW0
  refine (markPieceS A0 x.pieces.length c0 k _ inner0 HR0.out (by omega) (by omega) (by omega)).mono ?_
  rintro e w1 ⟨k1, rfl, hk1a, hk1b, K1⟩
  have h0n : ∀ b, (Value.slice A0 x.pieces.length c0).ownBlock = some b → b < w.heap.size := HT0.out
  have q2 : w1.cell? ⟨w.heap.size, 1, none⟩ = some (.slice A1 ps.length c1) := (K1.cell (p := ⟨w.heap.size, 1, none⟩) hz (fun e => absurd (h0n _ e) (Nat.lt_irrefl _))).trans q1
  have HR1 := Lib.hid (Kn.R_move (fun b hb => K1.block b (Nat.lt_trans (HL1.out b hb) hz) (fun e => HAP.out b (HF0.out b e) b hb rfl)) HR1.out)
  have hz2 : w.heap.size < w1.heap.size := Nat.lt_of_lt_of_le hz K1.size
  have HKA := Lib.hid K1
  clear K1 q0 q1 hz h0n
  go_wp2_with fail
  refine (markJointS A1 c1 ps k1 _ HR1.out hn1 hn2 (by omega) (by omega)).mono ?_
  rintro e w2 ⟨k2, rfl, hk2a, hk2b, K2⟩
  have hfin : RetMw (fun b => b ∈ F0 ++ Kn.foot (.slice A1 ps.length c1) ps) k 8388608 w (.returned (.int .i64 k2)) w2 := ⟨k2, rfl, by omega, by omega, ((Keep.of_below B0.out).trans HKA.out (fun b _ h => List.mem_append_left _ (HF0.out b h))).trans K2 (fun b _ h => List.mem_append_right _ h)⟩
  go_wp2
  go_ret
  exact hfin
end Go.Proofs.YtpggopdojhodaaaGreat.L
namespace Go.Proofs.YtpggopdojhodaaaGreat.L
open Go.RowKit
set_option linter.unusedVariables false
set_option linter.unusedSimpArgs false
theorem RetS.R {α : Type} {e : Nat} {d : Kn α} {xs : List α} {w w' : World} {en : Ending} (h : RetS e d xs w en w') :
    ∃ A c ps, en = .returned (.slice A xs.length c) ∧ xs.length ≤ c ∧ Hid (d.C w' (fun b => b ∈ Kn.foot (.slice A xs.length c) ps) A xs) ∧ Hid (d.R e w' (.slice A xs.length c) ps) ∧ Hid (ps.map Prod.fst = xs) ∧ Hid (∀ b, b ∈ Kn.foot (.slice A xs.length c) ps → w.heap.size ≤ b ∧ b < w'.heap.size) ∧ Below w.heap.size w w' := by
  obtain ⟨A, c, F, rfl, ⟨v, ps, he, hx, hR, hF⟩, hf, hb⟩ := h
  injection he with he _
  subst he
  subst hF
  obtain ⟨A', c', he, hl, hC⟩ := Kn.R_C hR
  rw [← hx] at hC
  have hxl : ps.length = xs.length := by rw [hx, List.length_map]
  injection he with he1 he2 he3
  subst he1 he3
  exact ⟨A, c, ps, rfl, by omega, Lib.hid hC, Lib.hid hR, Lib.hid hx.symm, Lib.hid (fun b hbb => ⟨hf b hbb, Kn.R_lt hR b hbb⟩), hb⟩
theorem RetNet.opO {x : Net} {w w' : World} {e : Ending} (h : RetNet x w e w') :
    ∃ A0 A1 c0 c1 F0 F1, e = .returned (.agg #[.slice A0 x.pieces.length c0, .slice A1 x.joints.length c1]) ∧ Hid (NC 136 w' (fun b => b ∈ F0 ++ F1) x A0 A1) ∧ Hid ((Kn.slice 132 pieceK).O w' x.pieces [.slice A0 x.pieces.length c0] F0) ∧ Hid ((Kn.slice 139 (jointK 136)).O w' x.joints [.slice A1 x.joints.length c1] F1) ∧ Hid ((F0 ++ F1).Nodup) ∧ Hid (∀ b, b ∈ F0 ++ F1 → w.heap.size ≤ b ∧ b < w'.heap.size) ∧ Below w.heap.size w w' := by
  obtain ⟨A0, c0, A1, c1, F0, F1, rfl, o0, o1, hn, hf, hb⟩ := h
  have hl0 := (Kn.slice 132 pieceK).O_lt o0
  have hl1 := (Kn.slice 139 (jointK 136)).O_lt o1
  obtain ⟨B0, d0, e0, _, k0⟩ := (Kn.slice 132 pieceK).K_of o0
  obtain ⟨B1, d1, e1, _, k1⟩ := (Kn.slice 139 (jointK 136)).K_of o1
  injection e0 with e0 _
  injection e0 with e0 _ _
  subst e0
  injection e1 with e1 _
  injection e1 with e1 _ _
  subst e1
  refine ⟨A0, A1, c0, c1, F0, F1, rfl, Lib.hid ⟨Kn.C_mono (fun b h => List.mem_append_left _ h) k0, Kn.C_mono (fun b h => List.mem_append_right _ h) k1⟩, Lib.hid o0, Lib.hid o1, Lib.hid hn, Lib.hid (fun b h => ⟨hf b h, ?_⟩), hb⟩
  rcases List.mem_append.1 h with h | h
  · exact hl0 b h
  · exact hl1 b h
theorem RetRR.C {rs : List Route} {w w' : World} {e : Ending} (h : RetRR rs w e w') : ∃ A c, e = .returned (.slice A rs.length c) ∧ rs.length ≤ c ∧ Hid (rK.C w' (fun _ => True) A rs) ∧ Below w.heap.size w w' := by
  obtain ⟨A, c, rfl, hl, hR, _, hb⟩ := h
  exact ⟨A, c, rfl, hl, Lib.hid (Kn.C_mono (fun _ _ => trivial) (Rw_slice hR.out).2.2), hb⟩
theorem Keep.belowOf {S : Nat → Prop} {B : Nat} {w0 a b : World} (h0 : Below w0.heap.size w0 a) (h : Keep S a b) (hB : w0.heap.size ≤ B) (hs : ∀ k, S k → B ≤ k) : Below w0.heap.size w0 b :=
  h0.trans (h.to_below (B := w0.heap.size) h0.size (fun k hk e => by have := hs k e; omega))
def RetMRx (A : Option Addr) (c : Nat) (ps : List (Route × List Nat)) (xs : List Route) (k : Int) (w : World) (en : Ending) (w' : World) : Prop :=
  ∃ k' : Int, en = .returned (.int .i64 k') ∧ Hid (k + (tot markN xs : Nat) = k') ∧ Hid (MRS w' A ps k ps.length) ∧ Hid (Keep (fun b => b ∈ Kn.foot (.slice A xs.length c) ps) w w')
theorem markRouteSMx (A : Option Addr) (c : Nat) (ps : List (Route × List Nat)) (xs : List Route) (hx : ps.map Prod.fst = xs) (k : Int) (w : World) (hr : rK.R 80 w (.slice A xs.length c) ps) (hn : tot markN xs ≤ 1073741824) (hpl : xs.length ≤ 4194304) (he : Hid (∀ x ∈ xs, x.n ≤ 4194304)) (h0 : 0 ≤ k) (h1 : k ≤ 1073741824) :
    Calls Tryz.prog 17 #[.slice A xs.length c, .int .i64 k] w (RetMRx A c ps xs k w) := by
  subst hx
  rw [List.length_map] at hr hpl ⊢
  refine (markRouteSM A c ps k w hr hn hpl (Lib.hid (fun p hp => he.out p.1 (List.mem_map.2 ⟨p, hp, rfl⟩))) h0 h1).mono ?_
  rintro e w' ⟨k', rfl, hk, hM, hK, _⟩
  refine ⟨k', rfl, Lib.hid hk.out.symm, hM, ?_⟩
  rw [List.length_map]
  exact hK
theorem heldRouteSx (A : Option Addr) (c : Nat) (ps : List (Route × List Nat)) (xs : List Route) (hx : ps.map Prod.fst = xs) (k : Int) (w : World) (hm : MRS w A ps k ps.length) (hn : tot markN xs ≤ 1073741824) (hpl : xs.length ≤ 4194304) (he : Hid (∀ x ∈ xs, x.n ≤ 4194304)) (h0 : 0 ≤ k) (h1 : k ≤ 1073741824) :
    Calls Tryz.prog 18 #[.slice A xs.length c, .int .i64 k] w (RetI0 (k + (tot markN xs : Nat)) w) := by
  subst hx
  rw [List.length_map] at hpl ⊢
  exact heldRouteS A c ps k w hm hn hpl (Lib.hid (fun p hp => he.out p.1 (List.mem_map.2 ⟨p, hp, rfl⟩))) h0 h1
theorem tot_bound {α : Type} {f : α → Nat} {m : Nat} : ∀ {xs : List α}, (∀ x ∈ xs, f x ≤ m) → tot f xs ≤ xs.length * m
  | [], _ => by simp [tot]
  | x :: xs, h => by
    have h1 := tot_bound (f := f) (m := m) (xs := xs) (fun y hy => h y (by simp [hy]))
    have h2 := h x (by simp)
    have h3 : tot f (x :: xs) = f x + tot f xs := by simp [tot]
    rw [h3, List.length_cons, Nat.succ_mul]
    omega
set_option maxRecDepth 100000 in
set_option maxHeartbeats 16000000 in
theorem lawRoutes {ok ok' : Nat → Prop} (x : Net) (ss : List Signal) (ov : Int) (A0 A1 A2 : Option Addr) (c0 c1 c2 : Nat) (w : World) (hx : NC 205 w ok x A0 A1) (hs : signalK.C w ok' A2 ss) (hfit : Hid x.fit) (hsf : Hid (∀ s ∈ ss, s.fit)) :
    Calls Tryz.prog 3 #[.agg #[.slice A0 x.pieces.length c0, .slice A1 x.joints.length c1], .slice A2 ss.length c2, .int .i64 ov] w (RetB true w) := by
  obtain ⟨W0, hW0, HB0, hs0, HA, HX, HS⟩ : ∃ W0, W0 = w.alloc (.cells #[.slice A0 x.pieces.length c0, .slice A1 x.joints.length c1] 25) ∧ Below w.heap.size w W0 ∧ W0.heap.size = w.heap.size + 1 ∧ Hid (Blk W0 w.heap.size 25 [.slice A0 x.pieces.length c0, .slice A1 x.joints.length c1]) ∧ Hid (NC 205 W0 ok x A0 A1) ∧ Hid (signalK.C W0 ok' A2 ss) :=
    ⟨_, rfl, below_alloc _ _, by simp, Lib.hid (Blk.new _ _ _ rfl), Lib.hid (hx.below (below_alloc _ _)), Lib.hid (Kn.C_below (below_alloc _ _) hs)⟩
  clear hx hs
  have HS0 := Lib.hid hs0
  have f0 := HA.out.cell 0 rfl
  have f1 := HA.out.cell 1 rfl
  by_cases n1 : x.n ≤ 1048576
  rotate_left
  · have hc1 : Hid (cut (1048576 - (x.n : Nat)) = -1) := Lib.hid (cut_neg (by omega))
    clear hs0
    go_enter Tryz.func3, Tryz.ntmps3
    go_wp2_with fail
    rw [← hW0]
    clear hW0
    refine (szNet _ x A0 A1 c0 c1 hfit HX.out.p HX.out.j 1048576 (by omega) (by omega)).mono ?_
    rintro e w1 ⟨rfl, hb1⟩
    rw [hc1.out]
    go_wp2
    go_ret
    exact ⟨rfl, HB0.trans (hb1.mono HB0.size)⟩
  have hc1 : Hid (cut (1048576 - (x.n : Nat)) = 1048576 - (x.n : Nat)) := Lib.hid (cut_pos (by omega))
  by_cases n2 : x.n + lenS Signal.n ss ≤ 1048576
  rotate_left
  · have hc2 : Hid (cut (1048576 - (x.n : Nat) - (lenS Signal.n ss : Nat)) = -1) := Lib.hid (cut_neg (by omega))
    clear hs0
    go_enter Tryz.func3, Tryz.ntmps3
    go_wp2_with fail
    rw [← hW0]
    clear hW0
    refine (szNet _ x A0 A1 c0 c1 hfit HX.out.p HX.out.j 1048576 (by omega) (by omega)).mono ?_
    rintro e w1 ⟨rfl, hb1⟩
    rw [hc1.out]
    go_wp2_with fail
    refine (szSignalS _ _ ss _ _ (Kn.C_below hb1 HS.out) hsf (by omega) (by omega)).mono ?_
    rintro e w2 ⟨rfl, hb2⟩
    rw [hc2.out]
    go_wp2
    go_ret
    exact ⟨rfl, HB0.trans ((hb1.trans (hb2.mono hb1.size)).mono HB0.size)⟩
  have hc2 : Hid (cut (1048576 - (x.n : Nat) - (lenS Signal.n ss : Nat)) = 1048576 - (x.n : Nat) - (lenS Signal.n ss : Nat)) := Lib.hid (cut_pos (by omega))
  have NI : Hid (NetIn x) := Lib.hid ⟨n1, hfit.out⟩
  have SI : Hid (SigIn ss) := Lib.hid ⟨by omega, hsf.out⟩
  have hsl : ss.length ≤ 1048576 := SI.out.len
  have HV : Hid (eqv x x = true) := Lib.hid (eqv_self _)
  have HU : Hid (eqv ss ss = true) := Lib.hid (eqv_self _)
  have hpl := NI.out.pieces
  have hjl := NI.out.joints
  have hjt : tot Joint.n x.joints ≤ 1048576 := by have := NI.out.n; unfold Net.n lenS at this; omega
  obtain ⟨rs, hrs⟩ : ∃ rs, Hid (routesF x ss ov = rs) := ⟨_, Lib.hid rfl⟩
  have HF : Hid (eqv rs rs = true) := Lib.hid (eqv_self _)
  have hrl : rs.length ≤ 300 := by rw [← hrs.out]; exact routesF_len _ _ _
  have HRN : Hid (∀ r ∈ rs, r.n ≤ 141004) := Lib.hid (by rw [← hrs.out]; exact rt_n)
  have hrt : tot markN rs ≤ 1073741824 := by
    have h1 := tot_bound (f := markN) (m := 564018) (xs := rs) (fun y hy => by have := HRN.out y hy; have := markN_le y; omega)
    have h2 : rs.length * 564018 ≤ 300 * 564018 := Nat.mul_le_mul_right _ hrl
    omega
  clear hs0
  go_enter Tryz.func3, Tryz.ntmps3
  go_wp2_with fail
  rw [← hW0]
  clear hW0
  refine (szNet _ x A0 A1 c0 c1 hfit HX.out.p HX.out.j 1048576 (by omega) (by omega)).mono ?_
  rintro e w1 ⟨rfl, hb1⟩
  rw [hc1.out]
  go_wp2_with fail
  refine (szSignalS _ _ ss _ _ (Kn.C_below hb1 HS.out) hsf (by omega) (by omega)).mono ?_
  rintro e w2 ⟨rfl, hb2⟩
  rw [hc2.out]
  have B0 := Lib.hid (hb1.trans (hb2.mono hb1.size))
  clear hb1 hb2 f0 f1
  have HA2 := Lib.hid (HA.out.below B0.out HA.out.lt)
  have a0 := HA2.out.cell 0 rfl
  have a1 := HA2.out.cell 1 rfl
  have az : w.heap.size < w2.heap.size := HA2.out.lt
  go_wp2_with fail
  refine (toNetC x A0 A1 c0 c1 _ (HX.out.below B0.out) NI.out).mono ?_
  intro e w3 hr
  obtain ⟨P0, P1, p0, p1, rfl, q3, hb3⟩ := RetNet.opC hr
  have B0 := Lib.hid (B0.out.trans (hb3.mono B0.out.size))
  clear hr hb3 a0 a1 az
  go_wp2_with fail
  refine (toSignalS _ _ ss _ (Kn.C_below B0.out HS.out) hsl).mono ?_
  intro e w4 hr
  obtain ⟨P2, p2, rfl, hp2, q4, hb4⟩ := RetS.opC hr
  have B0 := Lib.hid (B0.out.trans (hb4.mono B0.out.size))
  have q3 := Lib.hid (q3.out.below hb4)
  clear hr hb4
  go_wp2_with fail
  refine (specRoutes x ss ov P0 P1 P2 p0 p1 p2 _ q3.out q4.out NI.out SI.out).mono ?_
  rw [hrs.out]
  intro e w5 hr
  obtain ⟨N0, n0, rfl, hn0, C0, hb5⟩ := RetRR.C hr
  have B0 := Lib.hid (B0.out.trans (hb5.mono B0.out.size))
  have B5 : Hid (Below w5.heap.size w5 w5) := Lib.hid (Below.refl _ _)
  have C05 := Lib.hid C0.out
  have HZ5 : Hid (W0.heap.size ≤ w5.heap.size) := Lib.hid B0.out.size
  clear hr hb5 q3 q4
  have HA5 := Lib.hid (HA.out.below B0.out HA.out.lt)
  have a0 := HA5.out.cell 0 rfl
  have a1 := HA5.out.cell 1 rfl
  have az : w.heap.size < w5.heap.size := HA5.out.lt
  go_wp2_with fail
  refine (toNetC x A0 A1 c0 c1 _ (HX.out.below B0.out) NI.out).mono ?_
  intro e w6 hr
  obtain ⟨Q0, Q1, r0, r1, F0, F1, rfl, q6, O0, O1, ND, FN, hb6⟩ := RetNet.opO hr
  have B0 := Lib.hid (B0.out.trans (hb6.mono B0.out.size))
  have B5 := Lib.hid (B5.out.trans (hb6.mono B5.out.size))
  have C0 := Lib.hid (Kn.C_below hb6 C0.out)
  have hz6 := hb6.size
  clear hr hb6 a0 a1 az
  obtain ⟨W6, hW6, HBX, hB6, hzW⟩ : ∃ W, W = w6.alloc (.cells #[.slice Q0 x.pieces.length r0, .slice Q1 x.joints.length r1] 34) ∧ Hid (Blk W w6.heap.size 34 [.slice Q0 x.pieces.length r0, .slice Q1 x.joints.length r1]) ∧ Below w6.heap.size w6 W ∧ Hid (W.heap.size = w6.heap.size + 1) :=
    ⟨_, rfl, Lib.hid (Blk.new _ _ _ rfl), below_alloc _ _, Lib.hid (by simp)⟩
  go_wp2_with fail
  rw [← hW6]
  have B0 := Lib.hid (B0.out.trans (hB6.mono B0.out.size))
  have B5 := Lib.hid (B5.out.trans (hB6.mono B5.out.size))
  have C0 := Lib.hid (Kn.C_below hB6 C0.out)
  have q6 := Lib.hid (q6.out.below hB6)
  have O0 := Lib.hid ((Kn.slice 132 pieceK).O_move (fun b h => hB6.block b ((Kn.slice 132 pieceK).O_lt O0.out b h)) O0.out)
  have O1 := Lib.hid ((Kn.slice 139 (jointK 136)).O_move (fun b h => hB6.block b ((Kn.slice 139 (jointK 136)).O_lt O1.out b h)) O1.out)
  clear hW6 hB6
  refine (toSignalS _ _ ss _ (Kn.C_below B0.out HS.out) hsl).mono ?_
  intro e w7 hr
  obtain ⟨Q2, r2, psS, rfl, hr2, q7, RS, ES, FS, hb7⟩ := RetS.R hr
  have B0 := Lib.hid (B0.out.trans (hb7.mono B0.out.size))
  have B5 := Lib.hid (B5.out.trans (hb7.mono B5.out.size))
  have C0 := Lib.hid (Kn.C_below hb7 C0.out)
  have q6 := Lib.hid (q6.out.below hb7)
  have O0 := Lib.hid ((Kn.slice 132 pieceK).O_move (fun b h => hb7.block b ((Kn.slice 132 pieceK).O_lt O0.out b h)) O0.out)
  have O1 := Lib.hid ((Kn.slice 139 (jointK 136)).O_move (fun b h => hb7.block b ((Kn.slice 139 (jointK 136)).O_lt O1.out b h)) O1.out)
  have HBX := Lib.hid (HBX.out.below hb7 HBX.out.lt)
  have hz7 : w6.heap.size < w7.heap.size := HBX.out.lt
  have hzb := hb7.size
  have d0 := HBX.out.cell 0 rfl
  have d1 := HBX.out.cell 1 rfl
  clear hr hb7
  go_wp2_with fail
  refine (implRoutes x ss ov Q0 Q1 Q2 r0 r1 r2 _ q6.out q7.out hr2 NI.out SI.out).mono ?_
  rw [hrs.out]
  intro e w8 hr
  obtain ⟨G0, g0, psG, rfl, hg0, CG, RG, EG, FG, hb8⟩ := RetS.R hr
  have B0 := Lib.hid (B0.out.trans (hb8.mono B0.out.size))
  have B5 := Lib.hid (B5.out.trans (hb8.mono B5.out.size))
  have C0 := Lib.hid (Kn.C_below hb8 C0.out)
  have q6 := Lib.hid (q6.out.below hb8)
  have O0 := Lib.hid ((Kn.slice 132 pieceK).O_move (fun b h => hb8.block b ((Kn.slice 132 pieceK).O_lt O0.out b h)) O0.out)
  have O1 := Lib.hid ((Kn.slice 139 (jointK 136)).O_move (fun b h => hb8.block b ((Kn.slice 139 (jointK 136)).O_lt O1.out b h)) O1.out)
  have HBX := Lib.hid (HBX.out.below hb8 HBX.out.lt)
  have q7 := Lib.hid (Kn.C_below hb8 q7.out)
  have RS := Lib.hid (Kn.R_move (fun b h => hb8.block b (Kn.R_lt RS.out b h)) RS.out)
  have hz8 := hb8.size
  clear hr hb8 d0 d1
  go_wp2_with fail
  refine (eqRouteS _ _ _ _ rs rs _ CG.out C0.out).mono ?_
  rintro e w9 ⟨rfl, hb9⟩
  rw [HF.out]
  have B0 := Lib.hid (B0.out.trans (hb9.mono B0.out.size))
  have B5 := Lib.hid (B5.out.trans (hb9.mono B5.out.size))
  have C0 := Lib.hid (Kn.C_below hb9 C0.out)
  have q6 := Lib.hid (q6.out.below hb9)
  have O0 := Lib.hid ((Kn.slice 132 pieceK).O_move (fun b h => hb9.block b ((Kn.slice 132 pieceK).O_lt O0.out b h)) O0.out)
  have O1 := Lib.hid ((Kn.slice 139 (jointK 136)).O_move (fun b h => hb9.block b ((Kn.slice 139 (jointK 136)).O_lt O1.out b h)) O1.out)
  have HBX := Lib.hid (HBX.out.below hb9 HBX.out.lt)
  have q7 := Lib.hid (Kn.C_below hb9 q7.out)
  have RS := Lib.hid (Kn.R_move (fun b h => hb9.block b (Kn.R_lt RS.out b h)) RS.out)
  have CG := Lib.hid (Kn.C_below hb9 CG.out)
  have RG := Lib.hid (Kn.R_move (fun b h => hb9.block b (Kn.R_lt RG.out b h)) RG.out)
  have hz9 := hb9.size
  clear hb9
  have HA9 := Lib.hid (HA.out.below B0.out HA.out.lt)
  have a0 := HA9.out.cell 0 rfl
  have a1 := HA9.out.cell 1 rfl
  have az : w.heap.size < w9.heap.size := HA9.out.lt
  have d0 := HBX.out.cell 0 rfl
  have d1 := HBX.out.cell 1 rfl
  have hdz : w6.heap.size < w9.heap.size := HBX.out.lt
  have HX9 := Lib.hid (HX.out.below B0.out).drew
  have q9 := Lib.hid q6.out.drew
  go_wp2_with fail
  go_region_held3 (fun w' => w'.cell? ⟨w.heap.size, 0, none⟩ = some (.slice A0 x.pieces.length c0) ∧ w'.cell? ⟨w.heap.size, 1, none⟩ = some (.slice A1 x.joints.length c1) ∧ w'.cell? ⟨w6.heap.size, 0, none⟩ = some (.slice Q0 x.pieces.length r0) ∧ w'.cell? ⟨w6.heap.size, 1, none⟩ = some (.slice Q1 x.joints.length r1))
    (first | exact ⟨cell_below hb11 (cell_below hb10 a0), cell_below hb11 (cell_below hb10 a1), cell_below hb11 (cell_below hb10 d0), cell_below hb11 (cell_below hb10 d1)⟩ | exact ⟨cell_below hb10 a0, cell_below hb10 a1, cell_below hb10 d0, cell_below hb10 d1⟩ | go_keep)
    (first | (go_at_call 9; (with_reducible refine (toNetC x A0 A1 c0 c1 _ (HX9.out) NI.out).mono ?_); intro e w10 hr; obtain ⟨G8, G1, k0, k1, rfl, q10, hb10⟩ := RetNet.opC hr; clear hr)
           | (go_at_call 13; (with_reducible refine (eqNetC x x Q0 Q1 r0 r1 G8 G1 k0 k1 _ (q9.out.below hb10) (q10.out)).mono ?_); rintro e w11 ⟨rfl, hb11⟩; rw [HV.out]))
  have k11 : Below w9.drew.heap.size w9.drew w11 := hb10.trans (hb11.mono hb10.size)
  have k11' : Below w9.heap.size w9 w11 := ((Below.refl w9.heap.size w9).drew).trans k11
  have B0 := Lib.hid (B0.out.trans (k11'.mono B0.out.size))
  have B5 := Lib.hid (B5.out.trans (k11'.mono B5.out.size))
  have C0 := Lib.hid (Kn.C_below k11' C0.out)
  have q6 := Lib.hid (q6.out.below k11')
  have O0 := Lib.hid ((Kn.slice 132 pieceK).O_move (fun b h => k11'.block b ((Kn.slice 132 pieceK).O_lt O0.out b h)) O0.out)
  have O1 := Lib.hid ((Kn.slice 139 (jointK 136)).O_move (fun b h => k11'.block b ((Kn.slice 139 (jointK 136)).O_lt O1.out b h)) O1.out)
  have HBX := Lib.hid (HBX.out.below k11' HBX.out.lt)
  have q7 := Lib.hid (Kn.C_below k11' q7.out)
  have RS := Lib.hid (Kn.R_move (fun b h => k11'.block b (Kn.R_lt RS.out b h)) RS.out)
  have CG := Lib.hid (Kn.C_below k11' CG.out)
  have RG := Lib.hid (Kn.R_move (fun b h => k11'.block b (Kn.R_lt RG.out b h)) RG.out)
  clear q9 q10 hb10 hb11 k11 HX9 a0 a1 az d0 d1 hdz
  have hz11 := k11'.size
  clear k11'
  go_wp2_with fail
  refine (toSignalS _ _ ss _ (Kn.C_below B0.out HS.out) hsl).mono ?_
  intro e w12 hr
  obtain ⟨G2, k2, rfl, hk2, q12, hb12⟩ := RetS.opC hr
  have B0 := Lib.hid (B0.out.trans (hb12.mono B0.out.size))
  have B5 := Lib.hid (B5.out.trans (hb12.mono B5.out.size))
  have C0 := Lib.hid (Kn.C_below hb12 C0.out)
  have q6 := Lib.hid (q6.out.below hb12)
  have O0 := Lib.hid ((Kn.slice 132 pieceK).O_move (fun b h => hb12.block b ((Kn.slice 132 pieceK).O_lt O0.out b h)) O0.out)
  have O1 := Lib.hid ((Kn.slice 139 (jointK 136)).O_move (fun b h => hb12.block b ((Kn.slice 139 (jointK 136)).O_lt O1.out b h)) O1.out)
  have HBX := Lib.hid (HBX.out.below hb12 HBX.out.lt)
  have q7 := Lib.hid (Kn.C_below hb12 q7.out)
  have RS := Lib.hid (Kn.R_move (fun b h => hb12.block b (Kn.R_lt RS.out b h)) RS.out)
  have CG := Lib.hid (Kn.C_below hb12 CG.out)
  have RG := Lib.hid (Kn.R_move (fun b h => hb12.block b (Kn.R_lt RG.out b h)) RG.out)
  have hz12 := hb12.size
  clear hr hb12
  go_wp2_with fail
  refine (eqSignalS _ _ _ _ ss ss _ q7.out q12.out).mono ?_
  rintro e w13 ⟨rfl, hb13⟩
  rw [HU.out]
  have B0 := Lib.hid (B0.out.trans (hb13.mono B0.out.size))
  have B5 := Lib.hid (B5.out.trans (hb13.mono B5.out.size))
  have C0 := Lib.hid (Kn.C_below hb13 C0.out)
  have q6 := Lib.hid (q6.out.below hb13)
  have O0 := Lib.hid ((Kn.slice 132 pieceK).O_move (fun b h => hb13.block b ((Kn.slice 132 pieceK).O_lt O0.out b h)) O0.out)
  have O1 := Lib.hid ((Kn.slice 139 (jointK 136)).O_move (fun b h => hb13.block b ((Kn.slice 139 (jointK 136)).O_lt O1.out b h)) O1.out)
  have HBX := Lib.hid (HBX.out.below hb13 HBX.out.lt)
  have q7 := Lib.hid (Kn.C_below hb13 q7.out)
  have RS := Lib.hid (Kn.R_move (fun b h => hb13.block b (Kn.R_lt RS.out b h)) RS.out)
  have CG := Lib.hid (Kn.C_below hb13 CG.out)
  have RG := Lib.hid (Kn.R_move (fun b h => hb13.block b (Kn.R_lt RG.out b h)) RG.out)
  have hz13 := hb13.size
  have d0 := HBX.out.cell 0 rfl
  have d1 := HBX.out.cell 1 rfl
  have hdz : w6.heap.size < w13.heap.size := HBX.out.lt
  clear hb13 q12
  go_wp2_with fail
  refine (markNet x Q0 Q1 r0 r1 F0 F1 1 _ O0.out O1.out ND.out hpl hjt hjl (by omega) (by omega)).mono ?_
  rintro e w14 ⟨k14, rfl, hk14a, hk14b, K14⟩
  have hS14 : ∀ b, b ∈ F0 ++ F1 → w5.heap.size ≤ b := fun b h => (FN.out b h).1
  have B5 := Lib.hid (Keep.belowOf (B := w5.heap.size) B5.out K14 (Nat.le_refl _) hS14)
  have B0 := Lib.hid (Keep.belowOf (B := w5.heap.size) B0.out K14 HZ5.out hS14)
  have C0 := Lib.hid (Kn.C_below B5.out C05.out)
  have hold14 : ∀ b, w7.heap.size ≤ b → ¬ b ∈ F0 ++ F1 := fun b h e => by have := (FN.out b e).2; omega
  have RG := Lib.hid (Kn.R_move (fun b h => K14.block b (by have := (FG.out b h).2; omega) (hold14 b (FG.out b h).1)) RG.out)
  have CG := Lib.hid (Kn.C_move (fun b h => K14.block b (by have := (FG.out b h).2; omega) (hold14 b (FG.out b h).1)) CG.out)
  have RS := Lib.hid (Kn.R_move (fun b h => K14.block b (by have := (FS.out b h).2; omega) (fun e => by have h1 := (FS.out b h).1; have h2 := (FN.out b e).2; have := hzW.out; omega)) RS.out)
  have hz14 := K14.size
  clear K14 hS14 hold14 d0 d1 hdz q6 q7 O0 O1 HBX
  obtain ⟨innS, roS, rfS⟩ := O_row (e := 73) (d := signalK) (xs := ss) (w := w14) (v := .slice Q2 ss.length r2) (F := Kn.foot (.slice Q2 ss.length r2) psS) ⟨_, psS, rfl, ES.out.symm, RS.out, rfl⟩
  clear RS
  go_wp2_with fail
  refine (markSignalS Q2 ss.length r2 k14 _ innS roS (by omega) (by omega) (by omega)).mono ?_
  rintro e w15 ⟨k15, rfl, hk15a, hk15b, K15⟩
  have hS15 : ∀ b, (Value.slice Q2 ss.length r2).ownBlock = some b → w6.heap.size + 1 ≤ b ∧ b < w7.heap.size := fun b h => by have := FS.out b (rfS b h); have := hzW.out; omega
  have B5 := Lib.hid (Keep.belowOf (B := w5.heap.size) B5.out K15 (Nat.le_refl _) (fun b h => by have := hS15 b h; omega))
  have B0 := Lib.hid (Keep.belowOf (B := w5.heap.size) B0.out K15 HZ5.out (fun b h => by have := hS15 b h; omega))
  have C0 := Lib.hid (Kn.C_below B5.out C05.out)
  have RG := Lib.hid (Kn.R_move (fun b h => K15.block b (by have := (FG.out b h).2; omega) (fun e => by have h1 := (FG.out b h).1; have := hS15 b e; omega)) RG.out)
  have CG := Lib.hid (Kn.C_move (fun b h => K15.block b (by have := (FG.out b h).2; omega) (fun e => by have h1 := (FG.out b h).1; have := hS15 b e; omega)) CG.out)
  have hz15 := K15.size
  have dk15 : decide (k15 < 0) = false := decide_eq_false (by omega)
  clear K15 hS15 roS rfS
  go_wp2_with fail
  refine (eqRouteS _ _ _ _ rs rs _ CG.out C0.out).mono ?_
  rintro e w16 ⟨rfl, hb16⟩
  rw [HF.out]
  have B0 := Lib.hid (B0.out.trans (hb16.mono B0.out.size))
  have B5 := Lib.hid (B5.out.trans (hb16.mono B5.out.size))
  have RG := Lib.hid (Kn.R_move (fun b h => hb16.block b (Kn.R_lt RG.out b h)) RG.out)
  have hz16 := hb16.size
  clear hb16 CG
  have HRN4 : Hid (∀ r ∈ rs, r.n ≤ 4194304) := Lib.hid (fun r hr => by have := HRN.out r hr; omega)
  go_wp2_with fail
  refine (markRouteSMx G0 g0 psG rs EG.out 1 _ RG.out hrt (by omega) HRN4 (by omega) (by omega)).mono ?_
  rintro e w17 ⟨k17, rfl, hk17, M17, K17⟩
  have hS17 : ∀ b, b ∈ Kn.foot (.slice G0 rs.length g0) psG → w7.heap.size ≤ b := fun b h => (FG.out b h).1
  have B5 := Lib.hid (Keep.belowOf (B := w7.heap.size) B5.out K17.out (by omega) hS17)
  have B0 := Lib.hid (Keep.belowOf (B := w7.heap.size) B0.out K17.out (by have := HZ5.out; omega) hS17)
  have hk17b : 1 ≤ k17 := by have := hk17.out; omega
  have dk17 : decide (k17 < 0) = false := decide_eq_false (by omega)
  clear K17 hS17 RG
  go_wp2_with fail
  refine (heldRouteSx G0 g0 psG rs EG.out 1 _ M17.out hrt (by omega) HRN4 (by omega) (by omega)).mono ?_
  rintro e w18 ⟨rfl, rfl⟩
  rw [hk17.out]
  have HA18 := Lib.hid (HA.out.below B0.out HA.out.lt)
  have a0 := HA18.out.cell 0 rfl
  have a1 := HA18.out.cell 1 rfl
  have az : w.heap.size < w18.heap.size := HA18.out.lt
  go_wp2_with fail
  refine (toNetC x A0 A1 c0 c1 _ (HX.out.below B0.out) NI.out).mono ?_
  intro e w19 hr
  obtain ⟨P3, P4, p3, p4, rfl, q19, hb19⟩ := RetNet.opC hr
  have B0 := Lib.hid (B0.out.trans (hb19.mono B0.out.size))
  have B5 := Lib.hid (B5.out.trans (hb19.mono B5.out.size))
  have M17 := Lib.hid (M17.out.below hb19)
  clear hr hb19 a0 a1 az
  go_wp2_with fail
  refine (toSignalS _ _ ss _ (Kn.C_below B0.out HS.out) hsl).mono ?_
  intro e w20 hr
  obtain ⟨P5, p5, rfl, hp5, q20, hb20⟩ := RetS.opC hr
  have B0 := Lib.hid (B0.out.trans (hb20.mono B0.out.size))
  have B5 := Lib.hid (B5.out.trans (hb20.mono B5.out.size))
  have M17 := Lib.hid (M17.out.below hb20)
  have q19 := Lib.hid (q19.out.below hb20)
  clear hr hb20
  go_wp2_with fail
  refine (implRoutes x ss ov P3 P4 P5 p3 p4 p5 _ q19.out q20.out hp5 NI.out SI.out).mono ?_
  rw [hrs.out]
  intro e w21 hr
  obtain ⟨N3, n3, rfl, hn3, C21, hb21⟩ := RetS.opC hr
  have B0 := Lib.hid (B0.out.trans (hb21.mono B0.out.size))
  have B5 := Lib.hid (B5.out.trans (hb21.mono B5.out.size))
  have M17 := Lib.hid (M17.out.below hb21)
  have C0 := Lib.hid (Kn.C_below B5.out C05.out)
  clear hr hb21 q19 q20
  go_wp2_with fail
  refine (eqRouteS _ _ _ _ rs rs _ C21.out C0.out).mono ?_
  rintro e w22 ⟨rfl, hb22⟩
  rw [HF.out]
  have B0 := Lib.hid (B0.out.trans (hb22.mono B0.out.size))
  have B5 := Lib.hid (B5.out.trans (hb22.mono B5.out.size))
  have M17 := Lib.hid (M17.out.below hb22)
  clear hb22 C21 C0
  go_wp2_with fail
  refine (heldRouteSx G0 g0 psG rs EG.out 1 _ M17.out hrt (by omega) HRN4 (by omega) (by omega)).mono ?_
  rintro e w23 ⟨rfl, rfl⟩
  rw [hk17.out]
  go_wp2
  go_ret
  exact ⟨rfl, HB0.trans (B0.out.mono HB0.size)⟩
end Go.Proofs.YtpggopdojhodaaaGreat.L
