/- The law FnExactTable, walked: it answers true. -/
import Derived.Test.YtamhkgphbpbhfaaVl
namespace Go.Proofs.Ytamhkgphbpbhfaa.L
open Go.RowKit
open Classical
set_option linter.unusedVariables false
set_option linter.unusedSimpArgs false
structure Ap (B : Nat) (A : Option Addr) (c : Nat) (rs : List Route) (inner0 inner : List Value) (ps : List (Route × List Nat)) (i : Nat) (w : World) : Prop where
  row : w.ownsRow 0 44 8 (.slice A rs.length c) rs.length inner
  same : ∀ m, 8 * i ≤ m → inner[m]? = inner0[m]?
  firsts : ps.map Prod.fst = rs.take i
  items : Kn.Items rK w ps inner
  nodup : (ps.map Prod.snd).flatten.Nodup
  above : ∀ b, b ∈ (ps.map Prod.snd).flatten → B ≤ b
theorem set6_out {inner : List Value} {k m : Nat} {s2 s3 s4 s5 s6 s7 : Value} (h : m < k ∨ k + 6 ≤ m) : ((((((inner.set k s2).set (k + 1) s3).set (k + 2) s4).set (k + 3) s5).set (k + 4) s6).set (k + 5) s7)[m]? = inner[m]? := by
  rw [List.getElem?_set_ne (by omega), List.getElem?_set_ne (by omega), List.getElem?_set_ne (by omega), List.getElem?_set_ne (by omega), List.getElem?_set_ne (by omega), List.getElem?_set_ne (by omega)]
theorem set6_in {inner : List Value} {k : Nat} {s2 s3 s4 s5 s6 s7 : Value} (h : k + 6 ≤ inner.length) : ∀ i, i < 6 → ((((((inner.set k s2).set (k + 1) s3).set (k + 2) s4).set (k + 3) s5).set (k + 4) s6).set (k + 5) s7)[k + i]? = [s2, s3, s4, s5, s6, s7][i]? := by
  intro i hi
  match i, hi with
  | 0, _ => rw [List.getElem?_set_ne (by omega), List.getElem?_set_ne (by omega), List.getElem?_set_ne (by omega), List.getElem?_set_ne (by omega), List.getElem?_set_ne (by omega), Nat.add_zero, List.getElem?_set_self (by omega)]; rfl
  | 1, _ => rw [List.getElem?_set_ne (by omega), List.getElem?_set_ne (by omega), List.getElem?_set_ne (by omega), List.getElem?_set_ne (by omega), List.getElem?_set_self (by simp only [List.length_set]; omega)]; rfl
  | 2, _ => rw [List.getElem?_set_ne (by omega), List.getElem?_set_ne (by omega), List.getElem?_set_ne (by omega), List.getElem?_set_self (by simp only [List.length_set]; omega)]; rfl
  | 3, _ => rw [List.getElem?_set_ne (by omega), List.getElem?_set_ne (by omega), List.getElem?_set_self (by simp only [List.length_set]; omega)]; rfl
  | 4, _ => rw [List.getElem?_set_ne (by omega), List.getElem?_set_self (by simp only [List.length_set]; omega)]; rfl
  | 5, _ => rw [List.getElem?_set_self (by simp only [List.length_set]; omega)]; rfl
theorem Ap.next {B : Nat} {A : Option Addr} {c : Nat} {rs : List Route} {inner0 inner : List Value} {ps : List (Route × List Nat)} {i : Nat} {w wz : World} {x : Route} {s2 s3 s4 s5 s6 s7 : Value} {F : List Nat} {g : Nat} (h : Ap B A c rs inner0 inner ps i w) (hx : rs[i]? = some x) (hA : A = some ⟨g, 0, none⟩)
    (c0 : inner0[i * 8]? = some (.int .i64 x.frm)) (c1 : inner0[i * 8 + 1]? = some (.int .i64 x.til)) (hk : Keep (fun b => b = g) w wz) (hg : g < B) (hB : B ≤ w.heap.size)
    (hrow : wz.ownsRow 0 44 8 (.slice A rs.length c) rs.length ((((((inner.set (i * 8 + 2) s2).set (i * 8 + 3) s3).set (i * 8 + 4) s4).set (i * 8 + 5) s5).set (i * 8 + 6) s6).set (i * 8 + 7) s7))
    (hO : rK.O wz x [.int .i64 x.frm, .int .i64 x.til, s2, s3, s4, s5, s6, s7] F) (hF : ∀ b, b ∈ F → w.heap.size ≤ b) :
    Ap B A c rs inner0 ((((((inner.set (i * 8 + 2) s2).set (i * 8 + 3) s3).set (i * 8 + 4) s4).set (i * 8 + 5) s5).set (i * 8 + 6) s6).set (i * 8 + 7) s7) (ps ++ [(x, F)]) (i + 1) wz := by
  have hil : i < rs.length := (List.getElem?_eq_some_iff.1 hx).1
  have hin : inner.length = rs.length * 8 := h.row.1
  have hpl : ps.length = i := by
    have := congrArg List.length h.firsts
    rw [List.length_map, List.length_take] at this
    omega
  have hold : ∀ b, b ∈ (ps.map Prod.snd).flatten → b < w.heap.size := by
    intro b hb
    obtain ⟨l, hl, hb⟩ := List.mem_flatten.1 hb
    obtain ⟨p, hp, rfl⟩ := List.mem_map.1 hl
    obtain ⟨j, hj⟩ := List.mem_iff_getElem?.1 hp
    exact rK.O_lt (h.items j p hj) b hb
  have hout : ∀ m, m < i * 8 + 2 ∨ i * 8 + 8 ≤ m → ((((((inner.set (i * 8 + 2) s2).set (i * 8 + 3) s3).set (i * 8 + 4) s4).set (i * 8 + 5) s5).set (i * 8 + 6) s6).set (i * 8 + 7) s7)[m]? = inner[m]? := fun m hm => set6_out (k := i * 8 + 2) (by omega)
  refine ⟨hrow, fun m hm => (hout m (by omega)).trans (h.same m (by omega)), ?_, ?_, ?_, ?_⟩
  · rw [List.map_append, h.firsts, List.take_add_one, hx]
    rfl
  · intro j p hj
    rcases Nat.lt_or_ge j i with hji | hji
    · rw [List.getElem?_append_left (by omega)] at hj
      have hch : ((((((((inner.set (i * 8 + 2) s2).set (i * 8 + 3) s3).set (i * 8 + 4) s4).set (i * 8 + 5) s5).set (i * 8 + 6) s6).set (i * 8 + 7) s7)).drop (j * rK.sz)).take rK.sz = (inner.drop (j * rK.sz)).take rK.sz := by
        apply List.ext_getElem?
        intro m
        rw [List.getElem?_take, List.getElem?_take]
        split
        · rename_i hm
          rw [List.getElem?_drop, List.getElem?_drop]
          exact hout _ (.inl (by show j * 8 + m < i * 8 + 2; have : m < 8 := hm; omega))
        · rfl
      rw [hch]
      refine rK.O_move (fun b hb => ?_) (h.items j p hj)
      have hbf : b ∈ (ps.map Prod.snd).flatten := List.mem_flatten.2 ⟨p.2, List.mem_map.2 ⟨p, List.mem_of_getElem? hj, rfl⟩, hb⟩
      exact hk.block b (hold b hbf) (fun e => by have := h.above b hbf; omega)
    · have hjl := (List.getElem?_eq_some_iff.1 hj).1
      rw [List.length_append, List.length_singleton] at hjl
      obtain rfl : j = i := by omega
      rw [List.getElem?_append_right (by omega), hpl, Nat.sub_self] at hj
      obtain rfl := Option.some.inj hj
      have hch : ((((((((inner.set (j * 8 + 2) s2).set (j * 8 + 3) s3).set (j * 8 + 4) s4).set (j * 8 + 5) s5).set (j * 8 + 6) s6).set (j * 8 + 7) s7)).drop (j * rK.sz)).take rK.sz = [.int .i64 x.frm, .int .i64 x.til, s2, s3, s4, s5, s6, s7] := by
        apply List.ext_getElem?
        intro m
        rw [List.getElem?_take]
        split
        · rename_i hm
          have hm8 : m < 8 := hm
          rw [List.getElem?_drop]
          show _[j * 8 + m]? = _
          match m, hm8 with
          | 0, _ => rw [hout _ (by omega), h.same _ (by omega)]; exact c0
          | 1, _ => rw [hout _ (by omega), h.same _ (by omega)]; exact c1
          | m + 2, hm8 => rw [show j * 8 + (m + 2) = j * 8 + 2 + m by omega]; exact set6_in (k := j * 8 + 2) (by omega) m (by omega)
        · rename_i hm
          have hm8 : 8 ≤ m := Nat.le_of_not_lt hm
          rw [List.getElem?_eq_none (by simp; omega)]
      rw [hch]
      exact hO
  · rw [List.map_append, List.flatten_append, List.nodup_append]
    refine ⟨h.nodup, by simpa using rK.O_nodup hO, fun a ha b hb => ?_⟩
    have h1 := hold a ha
    have h2 := hF b (by simpa using hb)
    omega
  · intro b hb
    rw [List.map_append, List.flatten_append] at hb
    rcases List.mem_append.1 hb with hb | hb
    · exact h.above b hb
    · have := hF b (by simpa using hb)
      omega
theorem below_undrew {B : Nat} {w w1 : World} (h : Below B w.drew w1) : Below B w w1 := ⟨h.os, h.tape, h.output, h.size, h.block⟩
theorem Rw_far {α : Type} {d : Kn α} {e g : Nat} {w w1 : World} {v : Value} {xs : List α} (h : d.Rw e w nobody v xs) (hk : Keep (fun b => b = g) w w1) (hg : ¬ v.ownBlock = some g) : d.Rw e w1 nobody v xs :=
  h.grownK hk (fun k hkk e => hg (by rw [hkk, e])) (fun _ h => h.elim)
def RetAp (A : Option Addr) (c : Nat) (rs : List Route) (w : World) (en : Ending) (w' : World) : Prop :=
  en = .returned (.slice A rs.length c) ∧ Hid (∃ ps, rK.R 44 w' (.slice A rs.length c) ps ∧ ps.map Prod.fst = rs ∧ ∀ b, b ∈ (ps.map Prod.snd).flatten → w.heap.size ≤ b) ∧ Keep (fun b => (Value.slice A rs.length c).ownBlock = some b) w w'
set_option maxRecDepth 100000 in
set_option maxHeartbeats 8000000 in
theorem implApart {S : Nat → Prop} (rs : List Route) (A : Option Addr) (c : Nat) (w : World) (hR : rK.Rw 44 w (Out w (fun b => (Value.slice A rs.length c).ownBlock = some b)) (.slice A rs.length c) rs) (hn : Hid (∀ x ∈ rs, x.n ≤ 200000)) :
    Calls Try.prog 39 #[.slice A rs.length c] w (RetAp A c rs w) := by
  have hrlen : rs.length ≤ 9223372036854775807 := by obtain ⟨_, _, _, _, h⟩ := hR.form; exact h
  have hlt := Lib.hid hR.lt
  obtain ⟨inner0, ho, hit⟩ := hR
  have HO := Lib.hid ho
  have HI := Lib.hid hit
  clear ho hit
  go_enter Try.func39, Try.ntmps39
  go_wp2
  go_loopw [7] (fun iv wr => ∃ (i : Nat) (inner : List Value) (ps : List (Route × List Nat)), i ≤ rs.length ∧ iv = .int .i64 i ∧ Hid (Ap w.heap.size A c rs inner0 inner ps i wr) ∧ Hid (Keep (fun b => (Value.slice A rs.length c).ownBlock = some b) w wr)) (fun iv _ => rs.length - (intOf iv).toNat)
  case atStart => exact ⟨0, inner0, [], Nat.zero_le _, rfl, Lib.hid ⟨HO.out, fun _ _ => rfl, by simp, fun j p h => by simp at h, by simp, fun b h => by simp at h⟩, Lib.hid (Keep.refl _ _)⟩
  case round =>
  obtain ⟨i, inner, ps, hi, rfl, HA, HK⟩ := hrel
  by_cases hlt' : i < rs.length
  · have i0 : (0 : Int) ≤ (i : Int) := Int.natCast_nonneg _
    have i1 : (i : Int) < (rs.length : Int) := by omega
    obtain ⟨x, hx⟩ : ∃ x, rs[i]? = some x := ⟨_, List.getElem?_eq_getElem hlt'⟩
    have hxn : x.n ≤ 200000 := hn.out x (List.mem_of_getElem? hx)
    have hxs : x.n = x.steps.length + x.lies.length + x.crosses.length + x.parts.length + x.over.length + x.flanks.length := rfl
    obtain ⟨g, rfl, hgw⟩ : ∃ g, A = some ⟨g, 0, none⟩ ∧ g < w.heap.size := by
      rcases HO.out.2 with ⟨he, h2⟩ | ⟨g, cap, cur, he, _, hh, _, _, _⟩
      · omega
      · injection he with he _ _
        exact ⟨g, he, lt_of_get hh⟩
    have hin : inner0.length = rs.length * 8 := HO.out.1
    have hKx := HI.out i x hx
    obtain ⟨A2, c2, A3, c3, A4, c4, A5, c5, A6, c6, A7, c7, hcs, l2, H2, l3, H3, l4, H4, l5, H5, l6, H6, l7, H7⟩ := routeK_open hKx
    have hdc := drop_cells (sz := 8) hin hlt' hcs
    have H2 := Lib.hid (Kn.C_keep HK.out (fun _ _ h => h) H2)
    have H3 := Lib.hid (Kn.C_keep HK.out (fun _ _ h => h) H3)
    have H4 := Lib.hid (Kn.C_keep HK.out (fun _ _ h => h) H4)
    have H5 := Lib.hid (Kn.C_keep HK.out (fun _ _ h => h) H5)
    have H6 := Lib.hid (Kn.C_keep HK.out (fun _ _ h => h) H6)
    have H7 := Lib.hid (Kn.C_keep HK.out (fun _ _ h => h) H7)
    have HC0 : Hid (inner0[i * 8]? = some (.int .i64 x.frm)) := Lib.hid (hdc 0 (by omega))
    have HC1 : Hid (inner0[i * 8 + 1]? = some (.int .i64 x.til)) := Lib.hid (hdc 1 (by omega))
    have hcl : ∀ m u, m < 8 → [Value.int .i64 x.frm, .int .i64 x.til, .slice A2 x.steps.length c2, .slice A3 x.lies.length c3, .slice A4 x.crosses.length c4, .slice A5 x.parts.length c5, .slice A6 x.over.length c6, .slice A7 x.flanks.length c7][m]? = some u → wr.cell? ⟨g, i * 8 + m, none⟩ = some u := fun m u hm hu => by
      rw [HA.out.row.cellAt _ (by omega), HA.out.same _ (by omega)]
      exact (hdc m hm).trans hu
    have q2 := hcl 2 _ (by omega) rfl
    have f2 : wr.frozen? ⟨g, i * 8 + 2, none⟩ = false := HA.out.row.frozenAt _
    have q3 := hcl 3 _ (by omega) rfl
    have f3 : wr.frozen? ⟨g, i * 8 + 3, none⟩ = false := HA.out.row.frozenAt _
    have q4 := hcl 4 _ (by omega) rfl
    have f4 : wr.frozen? ⟨g, i * 8 + 4, none⟩ = false := HA.out.row.frozenAt _
    have q5 := hcl 5 _ (by omega) rfl
    have f5 : wr.frozen? ⟨g, i * 8 + 5, none⟩ = false := HA.out.row.frozenAt _
    have q6 := hcl 6 _ (by omega) rfl
    have f6 : wr.frozen? ⟨g, i * 8 + 6, none⟩ = false := HA.out.row.frozenAt _
    have q7 := hcl 7 _ (by omega) rfl
    have f7 : wr.frozen? ⟨g, i * 8 + 7, none⟩ = false := HA.out.row.frozenAt _
    have HROa := Lib.hid HA.out.row
    have HXI := Lib.hid hx
    have hgla : g < wr.heap.size := Nat.lt_of_lt_of_le hgw HK.out.size
    have HQ : Hid (wr.cell? ⟨g, i * 8 + 5, none⟩ = some (.slice A5 x.parts.length c5) ∧ wr.cell? ⟨g, i * 8 + 6, none⟩ = some (.slice A6 x.over.length c6) ∧ wr.cell? ⟨g, i * 8 + 7, none⟩ = some (.slice A7 x.flanks.length c7)) := Lib.hid ⟨q5, q6, q7⟩
    clear hcl hdc hcs hKx hin hx l2 l3 l4 l5 l6 l7
    have f5' := Lib.hid f5
    have f6' := Lib.hid f6
    have f7' := Lib.hid f7
    clear q5 q6 q7 f5 f6 f7
    go_upto_region 5 with (fail)
    have HSFa : Hid (∀ w', Below wr.heap.size wr w' → (fun w' => w'.cell? ⟨g, i * 8 + 2, none⟩ = some (.slice A2 x.steps.length c2) ∧ w'.cell? ⟨g, i * 8 + 3, none⟩ = some (.slice A3 x.lies.length c3) ∧ w'.cell? ⟨g, i * 8 + 4, none⟩ = some (.slice A4 x.crosses.length c4)) w') := Lib.hid (fun w' hb => ⟨cell_below hb q2, cell_below hb q3, cell_below hb q4⟩)
    refine Rg.start 18 (fun w' => w'.cell? ⟨g, i * 8 + 2, none⟩ = some (.slice A2 x.steps.length c2) ∧ w'.cell? ⟨g, i * 8 + 3, none⟩ = some (.slice A3 x.lies.length c3) ∧ w'.cell? ⟨g, i * 8 + 4, none⟩ = some (.slice A4 x.crosses.length c4)) 27 rfl (by kernel_rfl) ?_
    have hHeld := HSFa.out _ (Below.refl _ _).drew
    refine Rg.pure 0 (v := ?v1) rfl (by kernel_rfl) (fun _ _ _ h => h) (by rfl) hHeld ?y1 ?h1
    case y1 => (intro wA; go_simp; first | done | with_reducible rfl)
    simp only [Act.put, List.setIfInBounds_toArray, List.set_cons_zero, List.set_cons_succ]
    refine Rg.pure 1 (v := ?v2) rfl (by kernel_rfl) (fun _ _ _ h => h) (by rfl) hHeld ?y2 ?h2
    case y2 => (intro wA; go_simp; first | done | with_reducible rfl)
    simp only [Act.put, List.setIfInBounds_toArray, List.set_cons_zero, List.set_cons_succ]
    refine Rg.pure 2 (v := ?v3) rfl (by kernel_rfl) (fun _ _ _ h => h) (by rfl) hHeld ?y3 ?h3
    case y3 => (intro wA; go_simp; first | done | with_reducible rfl)
    simp only [Act.put, List.setIfInBounds_toArray, List.set_cons_zero, List.set_cons_succ]
    refine Rg.pure 3 (v := ?v4) rfl (by kernel_rfl) (fun _ _ _ h => h) (by rfl) hHeld ?y4 ?h4
    case y4 => (intro wA; go_simp; first | done | with_reducible rfl)
    simp only [Act.put, List.setIfInBounds_toArray, List.set_cons_zero, List.set_cons_succ]
    refine Rg.pure 4 (v := ?v5) rfl (by kernel_rfl) (fun _ _ _ h => h) (by rfl) hHeld ?y5 ?h5
    case y5 => (intro wA; go_simp; first | done | with_reducible rfl)
    simp only [Act.put, List.setIfInBounds_toArray, List.set_cons_zero, List.set_cons_succ]
    refine Rg.pure 5 (v := ?v6) rfl (by kernel_rfl) (fun _ _ _ h => h) (by rfl) hHeld ?y6 ?h6
    case y6 => (intro wA; go_simp; first | done | with_reducible rfl)
    simp only [Act.put, List.setIfInBounds_toArray, List.set_cons_zero, List.set_cons_succ]
    refine Rg.held 6 (v := ?v7) rfl (by kernel_rfl) (fun _ _ _ h => h) (by rfl) hHeld ?y7 ?h7
    case y7 => (intro wA hSw; (try dsimp only at hSw); go_simp; first | done | with_reducible rfl)
    simp only [Act.put, List.setIfInBounds_toArray, List.set_cons_zero, List.set_cons_succ]
    refine Rg.pure 8 (v := ?v8) rfl (by kernel_rfl) (fun _ _ _ h => h) (by rfl) hHeld ?y8 ?h8
    case y8 => (intro wA; go_simp; first | done | with_reducible rfl)
    simp only [Act.put, List.setIfInBounds_toArray, List.set_cons_zero, List.set_cons_succ]
    refine Rg.pure 9 (v := ?v9) rfl (by kernel_rfl) (fun _ _ _ h => h) (by rfl) hHeld ?y9 ?h9
    case y9 => (intro wA; go_simp; first | done | with_reducible rfl)
    simp only [Act.put, List.setIfInBounds_toArray, List.set_cons_zero, List.set_cons_succ]
    refine Rg.pure 10 (v := ?v10) rfl (by kernel_rfl) (fun _ _ _ h => h) (by rfl) hHeld ?y10 ?h10
    case y10 => (intro wA; go_simp; first | done | with_reducible rfl)
    simp only [Act.put, List.setIfInBounds_toArray, List.set_cons_zero, List.set_cons_succ]
    refine Rg.held 11 (v := ?v11) rfl (by kernel_rfl) (fun _ _ _ h => h) (by rfl) hHeld ?y11 ?h11
    case y11 => (intro wA hSw; (try dsimp only at hSw); go_simp; first | done | with_reducible rfl)
    simp only [Act.put, List.setIfInBounds_toArray, List.set_cons_zero, List.set_cons_succ]
    refine Rg.pure 13 (v := ?v12) rfl (by kernel_rfl) (fun _ _ _ h => h) (by rfl) hHeld ?y12 ?h12
    case y12 => (intro wA; go_simp; first | done | with_reducible rfl)
    simp only [Act.put, List.setIfInBounds_toArray, List.set_cons_zero, List.set_cons_succ]
    refine Rg.pure 14 (v := ?v13) rfl (by kernel_rfl) (fun _ _ _ h => h) (by rfl) hHeld ?y13 ?h13
    case y13 => (intro wA; go_simp; first | done | with_reducible rfl)
    simp only [Act.put, List.setIfInBounds_toArray, List.set_cons_zero, List.set_cons_succ]
    refine Rg.pure 15 (v := ?v14) rfl (by kernel_rfl) (fun _ _ _ h => h) (by rfl) hHeld ?y14 ?h14
    case y14 => (intro wA; go_simp; first | done | with_reducible rfl)
    simp only [Act.put, List.setIfInBounds_toArray, List.set_cons_zero, List.set_cons_succ]
    refine Rg.held 16 (v := ?v15) rfl (by kernel_rfl) (fun _ _ _ h => h) (by rfl) hHeld ?y15 ?h15
    case y15 => (intro wA hSw; (try dsimp only at hSw); go_simp; first | done | with_reducible rfl)
    simp only [Act.put, List.setIfInBounds_toArray, List.set_cons_zero, List.set_cons_succ]
    refine Rg.one 7 rfl (by kernel_rfl) (fun K hK => ?_)
    refine step_is_call 71 rfl rfl ?_
    go_simp
    go_at_call 71
    have hbd : Below wr.heap.size wr _ := (Below.refl _ _).drew
    (with_reducible refine (cloneStep x.steps A2 c2 _ (Kn.C_below hbd H2.out) (by omega)).mono ?_)
    rintro e wx2 ⟨B2, d2, rfl, hd2, HR2, HO2, hbc2⟩
    have hbx2 : Below wr.heap.size wr wx2 := hbd.trans (hbc2.mono hbd.size)
    refine hK.out _ _ (HSFa.out _ hbx2) ?_
    clear hK K hbd
    try simp only [Act.put, List.setIfInBounds_toArray, List.set_cons_zero, List.set_cons_succ]
    refine Rg.one 12 rfl (by kernel_rfl) (fun K hK => ?_)
    refine step_is_call 72 rfl rfl ?_
    go_simp
    go_at_call 72
    have hbd : Below wr.heap.size wr _ := hbx2
    (with_reducible refine (cloneLie x.lies A3 c3 _ (Kn.C_below hbd H3.out) (by omega)).mono ?_)
    rintro e wx3 ⟨B3, d3, rfl, hd3, HR3, HO3, hbc3⟩
    have hbx3 : Below wr.heap.size wr wx3 := hbd.trans (hbc3.mono hbd.size)
    refine hK.out _ _ (HSFa.out _ hbx3) ?_
    clear hK K hbd
    try simp only [Act.put, List.setIfInBounds_toArray, List.set_cons_zero, List.set_cons_succ]
    refine Rg.one 17 rfl (by kernel_rfl) (fun K hK => ?_)
    refine step_is_call 73 rfl rfl ?_
    go_simp
    go_at_call 73
    have hbd : Below wr.heap.size wr _ := hbx3
    (with_reducible refine (cloneInt x.crosses A4 c4 _ (Kn.C_below hbd H4.out) (by omega)).mono ?_)
    rintro e wx4 ⟨B4, d4, rfl, hd4, HR4, HO4, hbc4⟩
    have hbx4 : Below wr.heap.size wr wx4 := hbd.trans (hbc4.mono hbd.size)
    refine hK.out _ _ (HSFa.out _ hbx4) ?_
    clear hK K hbd
    try simp only [Act.put, List.setIfInBounds_toArray, List.set_cons_zero, List.set_cons_succ]
    obtain ⟨r2, r3, r4⟩ := HSFa.out _ hbx4
    have z2 : wx4.frozen? ⟨g, i * 8 + 2, none⟩ = false := (hbx4.frozen (p := ⟨g, i * 8 + 2, none⟩) hgla).trans f2
    have z3 : wx4.frozen? ⟨g, i * 8 + 3, none⟩ = false := (hbx4.frozen (p := ⟨g, i * 8 + 3, none⟩) hgla).trans f3
    have z4 : wx4.frozen? ⟨g, i * 8 + 4, none⟩ = false := (hbx4.frozen (p := ⟨g, i * 8 + 4, none⟩) hgla).trans f4
    have hrowa := Kn.own_move HROa.out (fun b hb => hbx4.block b (by rw [show b = g from (by simpa [Value.ownBlock] using hb.symm)]; exact hgla))
    obtain ⟨ho1, hg1⟩ := hrowa.stored (i * 8 + 2) (.slice B2 x.steps.length d2)
    obtain ⟨ho2, hg2⟩ := ho1.stored (i * 8 + 3) (.slice B3 x.lies.length d3)
    obtain ⟨ho3, hg3⟩ := ho2.stored (i * 8 + 4) (.slice B4 x.crosses.length d4)
    obtain ⟨Wa, hWa, HRNa, HKNa, HZNa⟩ : ∃ W, W = ((wx4.setCell ⟨g, i * 8 + 2, none⟩ (.slice B2 x.steps.length d2)).setCell ⟨g, i * 8 + 3, none⟩ (.slice B3 x.lies.length d3)).setCell ⟨g, i * 8 + 4, none⟩ (.slice B4 x.crosses.length d4) ∧ Hid (W.ownsRow 0 44 8 (.slice (some ⟨g, 0, none⟩) rs.length c) rs.length (((inner.set (i * 8 + 2) (.slice B2 x.steps.length d2)).set (i * 8 + 3) (.slice B3 x.lies.length d3)).set (i * 8 + 4) (.slice B4 x.crosses.length d4))) ∧ Hid (Keep (fun b => b = g) wx4 W) ∧ Hid (W.heap.size = wx4.heap.size) :=
      ⟨_, rfl, Lib.hid ho3, Lib.hid ((((Keep.refl _ _).grown hg1 (fun k hk _ => by simpa [Value.ownBlock] using hk.symm)).grown hg2 (fun k hk _ => by simpa [Value.ownBlock] using hk.symm)).grown hg3 (fun k hk _ => by simpa [Value.ownBlock] using hk.symm)), Lib.hid (by simp)⟩
    clear ho1 ho2 ho3 hg1 hg2 hg3 hrowa
    refine Rg.row [18, 19, 20, 21, 22, 23, 24, 25, 26] [_, _, _, _, _, _, _, _, _] rfl (by kernel_rfl) ?_
    go_upto_region 6 with (fail)
    rw [← hWa]
    clear hWa z2 z3 z4 r2 r3 r4 q2 q3 q4 f2 f3 f4
    have HKa : Hid (Keep (fun b => b = g) wr Wa) := Lib.hid ((Keep.of_below hbx4).trans HKNa.out (fun _ _ h => h))
    have hgLb : g < Wa.heap.size := Nat.lt_of_lt_of_le hgla HKa.out.size
    obtain ⟨innb, hinnb⟩ : ∃ l, Hid ((((inner.set (i * 8 + 2) (.slice B2 x.steps.length d2)).set (i * 8 + 3) (.slice B3 x.lies.length d3)).set (i * 8 + 4) (.slice B4 x.crosses.length d4)) = l) := ⟨_, Lib.hid rfl⟩
    have HROb : Hid (Wa.ownsRow 0 44 8 (.slice (some ⟨g, 0, none⟩) rs.length c) rs.length innb) := Lib.hid (by have := HRNa.out; rwa [hinnb.out] at this)
    have hcb : ∀ m, i * 8 + 5 ≤ m → m < i * 8 + 8 → Wa.cell? ⟨g, m, none⟩ = wr.cell? ⟨g, m, none⟩ := fun m h1 h2 => by
      rw [HROb.out.cellAt _ (by omega), HROa.out.cellAt _ (by omega), ← hinnb.out, List.getElem?_set_ne (by omega), List.getElem?_set_ne (by omega), List.getElem?_set_ne (by omega)]
    have q5 := (hcb (i * 8 + 5) (by omega) (by omega)).trans HQ.out.1
    have q6 := (hcb (i * 8 + 6) (by omega) (by omega)).trans HQ.out.2.1
    have q7 := (hcb (i * 8 + 7) (by omega) (by omega)).trans HQ.out.2.2
    have f5 : Wa.frozen? ⟨g, i * 8 + 5, none⟩ = false := HROb.out.frozenAt _
    have f6 : Wa.frozen? ⟨g, i * 8 + 6, none⟩ = false := HROb.out.frozenAt _
    have f7 : Wa.frozen? ⟨g, i * 8 + 7, none⟩ = false := HROb.out.frozenAt _
    clear hcb
    have hglb := hgLb
    have H5 := Lib.hid (Kn.C_move (fun b hb => HKa.out.block b hb.1 (fun e => hb.2 (by rw [e]; rfl))) H5.out)
    have H6 := Lib.hid (Kn.C_move (fun b hb => HKa.out.block b hb.1 (fun e => hb.2 (by rw [e]; rfl))) H6.out)
    have H7 := Lib.hid (Kn.C_move (fun b hb => HKa.out.block b hb.1 (fun e => hb.2 (by rw [e]; rfl))) H7.out)
    have HSFb : Hid (∀ w', Below Wa.heap.size Wa w' → (fun w' => w'.cell? ⟨g, i * 8 + 5, none⟩ = some (.slice A5 x.parts.length c5) ∧ w'.cell? ⟨g, i * 8 + 6, none⟩ = some (.slice A6 x.over.length c6) ∧ w'.cell? ⟨g, i * 8 + 7, none⟩ = some (.slice A7 x.flanks.length c7)) w') := Lib.hid (fun w' hb => ⟨cell_below hb q5, cell_below hb q6, cell_below hb q7⟩)
    refine Rg.start 18 (fun w' => w'.cell? ⟨g, i * 8 + 5, none⟩ = some (.slice A5 x.parts.length c5) ∧ w'.cell? ⟨g, i * 8 + 6, none⟩ = some (.slice A6 x.over.length c6) ∧ w'.cell? ⟨g, i * 8 + 7, none⟩ = some (.slice A7 x.flanks.length c7)) 27 rfl (by kernel_rfl) ?_
    have hHeld := HSFb.out _ (Below.refl _ _).drew
    refine Rg.pure 0 (v := ?v16) rfl (by kernel_rfl) (fun _ _ _ h => h) (by rfl) hHeld ?y16 ?h16
    case y16 => (intro wA; go_simp; first | done | with_reducible rfl)
    simp only [Act.put, List.setIfInBounds_toArray, List.set_cons_zero, List.set_cons_succ]
    refine Rg.pure 1 (v := ?v17) rfl (by kernel_rfl) (fun _ _ _ h => h) (by rfl) hHeld ?y17 ?h17
    case y17 => (intro wA; go_simp; first | done | with_reducible rfl)
    simp only [Act.put, List.setIfInBounds_toArray, List.set_cons_zero, List.set_cons_succ]
    refine Rg.pure 2 (v := ?v18) rfl (by kernel_rfl) (fun _ _ _ h => h) (by rfl) hHeld ?y18 ?h18
    case y18 => (intro wA; go_simp; first | done | with_reducible rfl)
    simp only [Act.put, List.setIfInBounds_toArray, List.set_cons_zero, List.set_cons_succ]
    refine Rg.pure 3 (v := ?v19) rfl (by kernel_rfl) (fun _ _ _ h => h) (by rfl) hHeld ?y19 ?h19
    case y19 => (intro wA; go_simp; first | done | with_reducible rfl)
    simp only [Act.put, List.setIfInBounds_toArray, List.set_cons_zero, List.set_cons_succ]
    refine Rg.pure 4 (v := ?v20) rfl (by kernel_rfl) (fun _ _ _ h => h) (by rfl) hHeld ?y20 ?h20
    case y20 => (intro wA; go_simp; first | done | with_reducible rfl)
    simp only [Act.put, List.setIfInBounds_toArray, List.set_cons_zero, List.set_cons_succ]
    refine Rg.pure 5 (v := ?v21) rfl (by kernel_rfl) (fun _ _ _ h => h) (by rfl) hHeld ?y21 ?h21
    case y21 => (intro wA; go_simp; first | done | with_reducible rfl)
    simp only [Act.put, List.setIfInBounds_toArray, List.set_cons_zero, List.set_cons_succ]
    refine Rg.held 6 (v := ?v22) rfl (by kernel_rfl) (fun _ _ _ h => h) (by rfl) hHeld ?y22 ?h22
    case y22 => (intro wA hSw; (try dsimp only at hSw); go_simp; first | done | with_reducible rfl)
    simp only [Act.put, List.setIfInBounds_toArray, List.set_cons_zero, List.set_cons_succ]
    refine Rg.pure 8 (v := ?v23) rfl (by kernel_rfl) (fun _ _ _ h => h) (by rfl) hHeld ?y23 ?h23
    case y23 => (intro wA; go_simp; first | done | with_reducible rfl)
    simp only [Act.put, List.setIfInBounds_toArray, List.set_cons_zero, List.set_cons_succ]
    refine Rg.pure 9 (v := ?v24) rfl (by kernel_rfl) (fun _ _ _ h => h) (by rfl) hHeld ?y24 ?h24
    case y24 => (intro wA; go_simp; first | done | with_reducible rfl)
    simp only [Act.put, List.setIfInBounds_toArray, List.set_cons_zero, List.set_cons_succ]
    refine Rg.pure 10 (v := ?v25) rfl (by kernel_rfl) (fun _ _ _ h => h) (by rfl) hHeld ?y25 ?h25
    case y25 => (intro wA; go_simp; first | done | with_reducible rfl)
    simp only [Act.put, List.setIfInBounds_toArray, List.set_cons_zero, List.set_cons_succ]
    refine Rg.held 11 (v := ?v26) rfl (by kernel_rfl) (fun _ _ _ h => h) (by rfl) hHeld ?y26 ?h26
    case y26 => (intro wA hSw; (try dsimp only at hSw); go_simp; first | done | with_reducible rfl)
    simp only [Act.put, List.setIfInBounds_toArray, List.set_cons_zero, List.set_cons_succ]
    refine Rg.pure 13 (v := ?v27) rfl (by kernel_rfl) (fun _ _ _ h => h) (by rfl) hHeld ?y27 ?h27
    case y27 => (intro wA; go_simp; first | done | with_reducible rfl)
    simp only [Act.put, List.setIfInBounds_toArray, List.set_cons_zero, List.set_cons_succ]
    refine Rg.pure 14 (v := ?v28) rfl (by kernel_rfl) (fun _ _ _ h => h) (by rfl) hHeld ?y28 ?h28
    case y28 => (intro wA; go_simp; first | done | with_reducible rfl)
    simp only [Act.put, List.setIfInBounds_toArray, List.set_cons_zero, List.set_cons_succ]
    refine Rg.pure 15 (v := ?v29) rfl (by kernel_rfl) (fun _ _ _ h => h) (by rfl) hHeld ?y29 ?h29
    case y29 => (intro wA; go_simp; first | done | with_reducible rfl)
    simp only [Act.put, List.setIfInBounds_toArray, List.set_cons_zero, List.set_cons_succ]
    refine Rg.held 16 (v := ?v30) rfl (by kernel_rfl) (fun _ _ _ h => h) (by rfl) hHeld ?y30 ?h30
    case y30 => (intro wA hSw; (try dsimp only at hSw); go_simp; first | done | with_reducible rfl)
    simp only [Act.put, List.setIfInBounds_toArray, List.set_cons_zero, List.set_cons_succ]
    refine Rg.one 7 rfl (by kernel_rfl) (fun K hK => ?_)
    refine step_is_call 74 rfl rfl ?_
    go_simp
    go_at_call 74
    have hbd : Below Wa.heap.size Wa _ := (Below.refl _ _).drew
    (with_reducible refine (clonePart x.parts A5 c5 _ (Kn.C_below hbd H5.out) (by omega)).mono ?_)
    rintro e wx5 ⟨B5, d5, rfl, hd5, HR5, HO5, hbc5⟩
    have hbx5 : Below Wa.heap.size Wa wx5 := hbd.trans (hbc5.mono hbd.size)
    refine hK.out _ _ (HSFb.out _ hbx5) ?_
    clear hK K hbd
    try simp only [Act.put, List.setIfInBounds_toArray, List.set_cons_zero, List.set_cons_succ]
    refine Rg.one 12 rfl (by kernel_rfl) (fun K hK => ?_)
    refine step_is_call 74 rfl rfl ?_
    go_simp
    go_at_call 74
    have hbd : Below Wa.heap.size Wa _ := hbx5
    (with_reducible refine (clonePart x.over A6 c6 _ (Kn.C_below hbd H6.out) (by omega)).mono ?_)
    rintro e wx6 ⟨B6, d6, rfl, hd6, HR6, HO6, hbc6⟩
    have hbx6 : Below Wa.heap.size Wa wx6 := hbd.trans (hbc6.mono hbd.size)
    refine hK.out _ _ (HSFb.out _ hbx6) ?_
    clear hK K hbd
    try simp only [Act.put, List.setIfInBounds_toArray, List.set_cons_zero, List.set_cons_succ]
    refine Rg.one 17 rfl (by kernel_rfl) (fun K hK => ?_)
    refine step_is_call 75 rfl rfl ?_
    go_simp
    go_at_call 75
    have hbd : Below Wa.heap.size Wa _ := hbx6
    (with_reducible refine (cloneFlank x.flanks A7 c7 _ (Kn.C_below hbd H7.out) (by omega)).mono ?_)
    rintro e wx7 ⟨B7, d7, rfl, hd7, HR7, HO7, hbc7⟩
    have hbx7 : Below Wa.heap.size Wa wx7 := hbd.trans (hbc7.mono hbd.size)
    refine hK.out _ _ (HSFb.out _ hbx7) ?_
    clear hK K hbd
    try simp only [Act.put, List.setIfInBounds_toArray, List.set_cons_zero, List.set_cons_succ]
    obtain ⟨r5, r6, r7⟩ := HSFb.out _ hbx7
    have z5 : wx7.frozen? ⟨g, i * 8 + 5, none⟩ = false := (hbx7.frozen (p := ⟨g, i * 8 + 5, none⟩) hglb).trans f5
    have z6 : wx7.frozen? ⟨g, i * 8 + 6, none⟩ = false := (hbx7.frozen (p := ⟨g, i * 8 + 6, none⟩) hglb).trans f6
    have z7 : wx7.frozen? ⟨g, i * 8 + 7, none⟩ = false := (hbx7.frozen (p := ⟨g, i * 8 + 7, none⟩) hglb).trans f7
    have hrowb := Kn.own_move HROb.out (fun b hb => hbx7.block b (by rw [show b = g from (by simpa [Value.ownBlock] using hb.symm)]; exact hglb))
    obtain ⟨ho1, hg1⟩ := hrowb.stored (i * 8 + 5) (.slice B5 x.parts.length d5)
    obtain ⟨ho2, hg2⟩ := ho1.stored (i * 8 + 6) (.slice B6 x.over.length d6)
    obtain ⟨ho3, hg3⟩ := ho2.stored (i * 8 + 7) (.slice B7 x.flanks.length d7)
    obtain ⟨Wb, hWb, HRNb, HKNb, HZNb⟩ : ∃ W, W = ((wx7.setCell ⟨g, i * 8 + 5, none⟩ (.slice B5 x.parts.length d5)).setCell ⟨g, i * 8 + 6, none⟩ (.slice B6 x.over.length d6)).setCell ⟨g, i * 8 + 7, none⟩ (.slice B7 x.flanks.length d7) ∧ Hid (W.ownsRow 0 44 8 (.slice (some ⟨g, 0, none⟩) rs.length c) rs.length (((innb.set (i * 8 + 5) (.slice B5 x.parts.length d5)).set (i * 8 + 6) (.slice B6 x.over.length d6)).set (i * 8 + 7) (.slice B7 x.flanks.length d7))) ∧ Hid (Keep (fun b => b = g) wx7 W) ∧ Hid (W.heap.size = wx7.heap.size) :=
      ⟨_, rfl, Lib.hid ho3, Lib.hid ((((Keep.refl _ _).grown hg1 (fun k hk _ => by simpa [Value.ownBlock] using hk.symm)).grown hg2 (fun k hk _ => by simpa [Value.ownBlock] using hk.symm)).grown hg3 (fun k hk _ => by simpa [Value.ownBlock] using hk.symm)), Lib.hid (by simp)⟩
    clear ho1 ho2 ho3 hg1 hg2 hg3 hrowb
    refine Rg.row [18, 19, 20, 21, 22, 23, 24, 25, 26] [_, _, _, _, _, _, _, _, _] rfl (by kernel_rfl) ?_
    go_wp2
    rw [← hWb]
    clear hWb z5 z6 z7 r5 r6 r7 q5 q6 q7 f5 f6 f7
    have HKb : Hid (Keep (fun b => b = g) wr Wb) := Lib.hid ((HKa.out.trans (Keep.of_below (S := fun b => b = g) hbx7) (fun _ _ h => h)).trans HKNb.out (fun _ _ h => h))
    have hs2 := hbc2.size
    have hs3 := hbc3.size
    have hs4 := hbc4.size
    have hsa := HZNa.out
    have hs5 := hbc5.size
    have hs6 := hbc6.size
    have hs7 := hbc7.size
    have hsb := HZNb.out
    have hsd : wr.drew.heap.size = wr.heap.size := rfl
    have hse : Wa.drew.heap.size = Wa.heap.size := rfl
    have hO2 := Kn.Rw.own (fun w ok x cs h => by obtain rfl := stepK_open h; exact stepK_own w x) (Rw_far ((((Rw_far ((HR2.out.below hbc3).below hbc4) HKNa.out (fun e => by have := HO2.out g e; omega)).below (below_undrew hbc5)).below hbc6).below hbc7) HKNb.out (fun e => by have := HO2.out g e; omega))
    have hO3 := Kn.Rw.own (fun w ok x cs h => by obtain rfl := lieK_open h; exact lieK_own w x) (Rw_far ((((Rw_far (HR3.out.below hbc4) HKNa.out (fun e => by have := HO3.out g e; omega)).below (below_undrew hbc5)).below hbc6).below hbc7) HKNb.out (fun e => by have := HO3.out g e; omega))
    have hO4 := Kn.Rw.own (fun w ok x cs h => by obtain rfl := (show cs = [.int .i64 x] from h); exact intK_own w x) (Rw_far ((((Rw_far HR4.out HKNa.out (fun e => by have := HO4.out g e; omega)).below (below_undrew hbc5)).below hbc6).below hbc7) HKNb.out (fun e => by have := HO4.out g e; omega))
    have hO5 := Kn.Rw.own (fun w ok x cs h => by obtain rfl := partK_open h; exact partK_own w x) (Rw_far ((HR5.out.below hbc6).below hbc7) HKNb.out (fun e => by have := HO5.out g e; omega))
    have hO6 := Kn.Rw.own (fun w ok x cs h => by obtain rfl := partK_open h; exact partK_own w x) (Rw_far (HR6.out.below hbc7) HKNb.out (fun e => by have := HO6.out g e; omega))
    have hO7 := Kn.Rw.own (fun w ok x cs h => by obtain rfl := flankK_open h; exact flankK_own w x) (Rw_far HR7.out HKNb.out (fun e => by have := HO7.out g e; omega))
    have hu2 : ∀ b, b ∈ (Value.slice B2 x.steps.length d2).ownBlock.toList → wr.heap.size ≤ b ∧ b < wx2.heap.size := fun b hb => ⟨HO2.out b (by simpa using hb), HR2.out.lt b (by simpa using hb)⟩
    have hu3 : ∀ b, b ∈ (Value.slice B3 x.lies.length d3).ownBlock.toList → wx2.heap.size ≤ b ∧ b < wx3.heap.size := fun b hb => ⟨HO3.out b (by simpa using hb), HR3.out.lt b (by simpa using hb)⟩
    have hu4 : ∀ b, b ∈ (Value.slice B4 x.crosses.length d4).ownBlock.toList → wx3.heap.size ≤ b ∧ b < wx4.heap.size := fun b hb => ⟨HO4.out b (by simpa using hb), HR4.out.lt b (by simpa using hb)⟩
    have hu5 : ∀ b, b ∈ (Value.slice B5 x.parts.length d5).ownBlock.toList → Wa.heap.size ≤ b ∧ b < wx5.heap.size := fun b hb => ⟨HO5.out b (by simpa using hb), HR5.out.lt b (by simpa using hb)⟩
    have hu6 : ∀ b, b ∈ (Value.slice B6 x.over.length d6).ownBlock.toList → wx5.heap.size ≤ b ∧ b < wx6.heap.size := fun b hb => ⟨HO6.out b (by simpa using hb), HR6.out.lt b (by simpa using hb)⟩
    have hu7 : ∀ b, b ∈ (Value.slice B7 x.flanks.length d7).ownBlock.toList → wx6.heap.size ≤ b ∧ b < wx7.heap.size := fun b hb => ⟨HO7.out b (by simpa using hb), HR7.out.lt b (by simpa using hb)⟩
    have hnd : ∀ v : Value, v.ownBlock.toList.Nodup := fun v => by cases v.ownBlock <;> simp
    have hN7 := hnd (.slice B7 x.flanks.length d7)
    have hN6 := nodup_range (hnd (.slice B6 x.over.length d6)) hN7 (fun b hb => (hu6 b hb).2) (fun b hb => (hu7 b hb).1)
    have hL6 : ∀ b, b ∈ (Value.slice B6 x.over.length d6).ownBlock.toList ++ (Value.slice B7 x.flanks.length d7).ownBlock.toList → wx5.heap.size ≤ b := fun b hb => by
      rcases List.mem_append.1 hb with hb | hb
      · exact (hu6 b hb).1
      · have := (hu7 b hb).1; omega
    have hN5 := nodup_range (hnd (.slice B5 x.parts.length d5)) hN6 (fun b hb => (hu5 b hb).2) hL6
    have hL5 : ∀ b, b ∈ (Value.slice B5 x.parts.length d5).ownBlock.toList ++ ((Value.slice B6 x.over.length d6).ownBlock.toList ++ (Value.slice B7 x.flanks.length d7).ownBlock.toList) → wx4.heap.size ≤ b := fun b hb => by
      rcases List.mem_append.1 hb with hb | hb
      · have := (hu5 b hb).1; omega
      · have := hL6 b hb; omega
    have hN4 := nodup_range (hnd (.slice B4 x.crosses.length d4)) hN5 (fun b hb => (hu4 b hb).2) hL5
    have hL4 : ∀ b, b ∈ (Value.slice B4 x.crosses.length d4).ownBlock.toList ++ ((Value.slice B5 x.parts.length d5).ownBlock.toList ++ ((Value.slice B6 x.over.length d6).ownBlock.toList ++ (Value.slice B7 x.flanks.length d7).ownBlock.toList)) → wx3.heap.size ≤ b := fun b hb => by
      rcases List.mem_append.1 hb with hb | hb
      · have := (hu4 b hb).1; omega
      · have := hL5 b hb; omega
    have hN3 := nodup_range (hnd (.slice B3 x.lies.length d3)) hN4 (fun b hb => (hu3 b hb).2) hL4
    have hL3 : ∀ b, b ∈ (Value.slice B3 x.lies.length d3).ownBlock.toList ++ ((Value.slice B4 x.crosses.length d4).ownBlock.toList ++ ((Value.slice B5 x.parts.length d5).ownBlock.toList ++ ((Value.slice B6 x.over.length d6).ownBlock.toList ++ (Value.slice B7 x.flanks.length d7).ownBlock.toList))) → wx2.heap.size ≤ b := fun b hb => by
      rcases List.mem_append.1 hb with hb | hb
      · have := (hu3 b hb).1; omega
      · have := hL4 b hb; omega
    have hN2 := nodup_range (hnd (.slice B2 x.steps.length d2)) hN3 (fun b hb => (hu2 b hb).2) hL3
    have hL2 : ∀ b, b ∈ (Value.slice B2 x.steps.length d2).ownBlock.toList ++ ((Value.slice B3 x.lies.length d3).ownBlock.toList ++ ((Value.slice B4 x.crosses.length d4).ownBlock.toList ++ ((Value.slice B5 x.parts.length d5).ownBlock.toList ++ ((Value.slice B6 x.over.length d6).ownBlock.toList ++ (Value.slice B7 x.flanks.length d7).ownBlock.toList)))) → wr.heap.size ≤ b := fun b hb => by
      rcases List.mem_append.1 hb with hb | hb
      · exact (hu2 b hb).1
      · have := hL3 b hb; omega
    have HAN := Lib.hid (HA.out.next HXI.out rfl HC0.out HC1.out HKb.out hgw HK.out.size (by have := HRNb.out; rwa [← hinnb.out] at this) (routeK_own hO2 hO3 hO4 hO5 hO6 hO7 hN2) hL2)
    have HKN : Hid (Keep (fun b => (Value.slice (some ⟨g, 0, none⟩) rs.length c).ownBlock = some b) w Wb) := Lib.hid (HK.out.trans HKb.out (fun b _ h => by rw [h]; rfl))
    clear hO2 hO3 hO4 hO5 hO6 hO7 hN2 hN3 hN4 hN5 hN6 hN7 hL2 hL3 hL4 hL5 hL6 hu2 hu3 hu4 hu5 hu6 hu7 hnd hsa hsb hsd hse
    go_roundw
    case rel => exact ⟨i + 1, _, _, by omega, by go_num, HAN, HKN⟩
    case measure => simp [intOf]; omega
  · obtain rfl : i = rs.length := by omega
    have HF : Hid (∃ ps, rK.R 44 wr (.slice A rs.length c) ps ∧ ps.map Prod.fst = rs ∧ ∀ b, b ∈ (ps.map Prod.snd).flatten → w.heap.size ≤ b) := Lib.hid (by
      have hf := HA.out.firsts
      rw [List.take_length] at hf
      have hl : ps.length = rs.length := by rw [← hf, List.length_map]
      refine ⟨ps, ⟨inner, by rw [hl]; exact HA.out.row, HA.out.items, ?_⟩, hf, HA.out.above⟩
      unfold Kn.foot
      rw [List.nodup_append]
      refine ⟨by cases (Value.slice A rs.length c).ownBlock <;> simp, HA.out.nodup, fun a ha b hb e => ?_⟩
      subst e
      rw [Option.mem_toList] at ha
      have h1 := hlt.out a ha
      have h2 := HA.out.above a hb
      omega)
    go_wp2
    go_ret
    exact ⟨rfl, HF, HK.out⟩
theorem rt_n {n : Net} {ss : List Signal} {ov : Int} : ∀ x ∈ routesF n ss ov, x.n ≤ 141004 := fun x hx => by
  obtain ⟨hr, h0, h1, hrt⟩ := routesF_rt hx
  have := Rt.size hr hrt h1
  show x.steps.length + x.lies.length + x.crosses.length + x.parts.length + x.over.length + x.flanks.length ≤ 141004
  omega
set_option maxRecDepth 100000 in
set_option maxHeartbeats 4000000 in
theorem implRoutes {ok ok' : Nat → Prop} (n : Net) (ss : List Signal) (ov : Int) (A0 A1 A2 : Option Addr) (c0 c1 c2 : Nat) (w : World) (h : NC 102 w ok n A0 A1) (hs : signalK.C w ok' A2 ss) (hc : ss.length ≤ c2) (hn : NetIn n) (hi : SigIn ss) :
    Calls Try.prog 11 #[.agg #[.slice A0 n.pieces.length c0, .slice A1 n.joints.length c1], .slice A2 ss.length c2, .int .i64 ov] w (RetS 44 rK (routesF n ss ov) w) := by
  have hb0 : Below w.heap.size w (w.alloc (.cells #[.slice A0 n.pieces.length c0, .slice A1 n.joints.length c1] 26)) := below_alloc _ _
  have HC : Hid (NC 102 (w.alloc (.cells #[.slice A0 n.pieces.length c0, .slice A1 n.joints.length c1] 26)) ok n A0 A1) := Lib.hid (h.below hb0)
  have HS : Hid (signalK.C (w.alloc (.cells #[.slice A0 n.pieces.length c0, .slice A1 n.joints.length c1] 26)) ok' A2 ss) := Lib.hid (Kn.C_below hb0 hs)
  have HN : Hid (∀ x ∈ routesF n ss ov, x.n ≤ 200000) := Lib.hid (fun x hx => Nat.le_trans (rt_n x hx) (by omega))
  clear h hs
  go_enter Try.func11, Try.ntmps11
  go_wp2_with fail
  refine (implRoutes0 n ss ov A0 A1 A2 c0 c1 c2 _ HC.out HS.out hc hn hi).mono ?_
  rintro e w1 ⟨A, c, rfl, hcl, HR, HO, hb1⟩
  have hb01 : Below w.heap.size w w1 := hb0.trans (hb1.mono (by simp))
  clear HC HS
  go_wp2_with fail
  refine (implApart (S := fun _ => True) (routesF n ss ov) A c w1 HR.out HN).mono ?_
  rintro e w2 ⟨rfl, HF, hK⟩
  go_wp2
  go_ret
  obtain ⟨ps, hR, hf, hab⟩ := HF.out
  have hsz1 := hb01.size
  have hsz : w.heap.size + 1 ≤ w1.heap.size := by have := hb1.size; simp at this; omega
  refine ⟨A, c, _, rfl, ⟨_, ps, rfl, hf.symm, hR, rfl⟩, fun b hb => ?_, hb01.trans (hK.to_below hsz1 (fun k hk e => by have := HO.out k e; simp at this; omega))⟩
  rcases List.mem_append.1 hb with hb | hb
  · rw [Option.mem_toList] at hb
    have := HO.out b hb
    simp at this
    omega
  · have := hab b hb
    omega
end Go.Proofs.Ytamhkgphbpbhfaa.L
namespace Go.Proofs.Ytamhkgphbpbhfaa.L
open Classical
set_option linter.unusedVariables false
set_option linter.unusedSimpArgs false
theorem beyond_fwd {n : Net} : ∀ (m : Nat) (p way far left : Int), stepP n.pieces.length ⟨p, way⟩ → Good n → 0 ≤ far → far < pl n p → ∀ x ∈ beyond n m p way far left, 0 ≤ x.til - x.frm
  | 0, p, way, far, left, hs, hg, h0, h1, x, hx => by rw [show beyond n 0 p way far left = [] from rfl] at hx; cases hx
  | m + 1, p, way, far, left, hs, hg, h0, h1, x, hx => by
    by_cases hl : left ≤ 0
    · rw [beyond_none hl] at hx
      cases hx
    obtain ⟨j, k, y, hat, h2, h3, h4, h5, h6⟩ := at_get hg (head_ok hs)
    have hb := til_bounds (left := left) h0 h1 hl
    have hp := partN_in (a := far) (b := tilOf n p far left) h0 (by omega) hb.2.1 hs.2
    by_cases h7 : y.kind = 2
    · rw [beyond_plain hl h2 h3 h7] at hx
      have hl2 : y.ends.length = 2 := by have := h4.2.1; omega
      have he := en_ok (k := 1 - k) h4 (by omega)
      have hq := pl_in hg he.1.1 he.1.2
      rcases List.mem_cons.1 hx with rfl | hx
      · rw [hp.2.2.2.2]
        omega
      · exact beyond_fwd m _ _ _ _ (step_of_end he) hg (by omega) (by omega) x hx
    · rw [beyond_last hl h2 h3 (.inr h7)] at hx
      rw [List.mem_singleton.1 hx, hp.2.2.2.2]
      omega
def Fwd (r : Route) : Prop := ∀ x ∈ r.over, 0 ≤ x.til - x.frm
section
variable {n : Net} {ss : List Signal} {ov : Int}
theorem goOn_ov {r q : Route} {x : Joint} {j k i : Nat} (h : goOn r x j k i = some q) : q.over = r.over := by
  unfold goOn at h
  split at h
  · obtain ⟨l, _, rfl⟩ := Option.map_eq_some_iff.1 h
    rfl
  split at h
  · obtain rfl := Option.some.inj h
    rfl
  · obtain rfl := Option.some.inj h
    rfl
theorem walkF_fwd (hr : Right n ss) : ∀ (m : Nat) (st : St) (r : Route) (p way far : Int), stepP n.pieces.length ⟨p, way⟩ → r.over = [] → (∀ q ∈ st.1, Fwd q) → ∀ q ∈ (walkF n ss ov m st r p way far).1, Fwd q
  | 0, st, r, p, way, far, hs, ho, hq => hq
  | m + 1, st, r, p, way, far, hs, ho, hq => by
    by_cases hfu : full (st.1, st.2 + 1)
    · rw [walkF_full hfu]
      exact hq
    cases hb : firstS n ss p way far with
    | some b =>
      rw [walkF_sig hfu hb]
      intro q hm
      rcases List.mem_append.1 hm with hm | hm
      · exact hq q hm
      rw [List.mem_singleton.1 hm]
      obtain ⟨_, hbl, sb, hsb, e1, e2, e3⟩ := firstTo_lt (k := ss.length) hb
      have hin := sig_in hr hsb
      have hsf : sigFar n ss b p way = farOf n p sb.at_ way := by unfold sigFar; rw [hsb]; rfl
      have hfb : farOf n p sb.at_ way < pl n p ∧ 0 ≤ farOf n p sb.at_ way := by
        rw [← e1]
        rcases hs.2 with hw | hw
        · have hw : way = 1 := hw
          rw [hw, far_fwd]
          omega
        · have hw : way = -1 := hw
          rw [hw, far_back]
          omega
      exact beyond_fwd _ _ _ _ _ hs hr.g (by rw [hsf]; exact hfb.2) (by rw [hsf]; exact hfb.1)
    | none =>
      by_cases hrn : (⟨p, way⟩ : Step) ∈ r.steps
      · rw [walkF_round hfu hb hrn]
        exact hq
      obtain ⟨j, k, x, hat, ha, hx, hP, hj, hk⟩ := at_get hr.g (head_ok hs)
      by_cases hk1 : x.kind = 1
      · rw [walkF_end hfu hb hrn ha hx hk1]
        intro q hm
        rcases List.mem_append.1 hm with hm | hm
        · exact hq q hm
        rw [List.mem_singleton.1 hm]
        intro y hy
        have hy' : y ∈ r.over := hy
        rw [ho] at hy'
        cases hy'
      · rw [walkF_on hfu hb hrn ha hx hk1]
        refine kidsTo_inv (st := (st.1, st.2 + 1)) (fun s => ∀ q ∈ s.1, Fwd q) hq (fun i e q st' he hgo hst => ?_) _
        have heP := across_ok hP hk (mem_of_get he)
        exact walkF_fwd hr m st' q e.piece (wayOf e) 0 (step_of_end heP) (by rw [goOn_ov hgo]; exact ho) hst
theorem allF_fwd (hr : Right n ss) : ∀ k, ∀ q ∈ (allF n ss ov k).1, Fwd q
  | 0 => by simp [allF]
  | k + 1 => by
    have ih := allF_fwd hr k
    cases h : ss[k]? with
    | none =>
      rw [allF]
      simp only [h]
      exact ih
    | some s =>
      rw [allF_succ h]
      exact walkF_fwd hr _ _ _ _ _ _ (sig_in hr h).1 rfl ih
theorem routesF_fwd {r : Route} (h : r ∈ routesF n ss ov) : Fwd r := by
  obtain ⟨hr, _, _, _⟩ := routesF_rt h
  unfold routesF at h
  split at h
  · cases h
  split at h
  · cases h
  · exact allF_fwd hr _ r h
end
theorem sum_take : ∀ (l : List Part) (k : Nat), (∀ x ∈ l, 0 ≤ x.til - x.frm) → 0 ≤ ((l.take k).map (fun x => x.til - x.frm)).sum ∧ ((l.take k).map (fun x => x.til - x.frm)).sum ≤ (l.map (fun x => x.til - x.frm)).sum
  | [], k, _ => by simp
  | a :: l, 0, h => by
    have h1 := h a (by simp)
    have h2 := sum_take l l.length (fun x hx => h x (by simp [hx]))
    rw [List.take_length] at h2
    simp only [List.take_zero, List.map_nil, List.sum_nil, List.map_cons, List.sum_cons]
    omega
  | a :: l, k + 1, h => by
    have h1 := h a (by simp)
    have h2 := sum_take l k (fun x hx => h x (by simp [hx]))
    simp only [List.take_succ_cons, List.map_cons, List.sum_cons]
    omega
end Go.Proofs.Ytamhkgphbpbhfaa.L
namespace Go.Proofs.Ytamhkgphbpbhfaa.L
open Go.RowKit
set_option linter.unusedVariables false
set_option linter.unusedSimpArgs false
theorem RetS.R {α : Type} {e : Nat} {d : Kn α} {xs : List α} {w w' : World} {en : Ending} (h : RetS e d xs w en w') :
    ∃ A c ps, en = .returned (.slice A xs.length c) ∧ Hid (d.C w' (fun b => b ∈ Kn.foot (.slice A xs.length c) ps) A xs) ∧ Hid (d.R e w' (.slice A xs.length c) ps) ∧ Hid (ps.map Prod.fst = xs) ∧ Hid (∀ b, b ∈ Kn.foot (.slice A xs.length c) ps → w.heap.size ≤ b ∧ b < w'.heap.size) ∧ Below w.heap.size w w' := by
  obtain ⟨A, c, F, rfl, ⟨v, ps, he, hx, hR, hF⟩, hf, hb⟩ := h
  injection he with he _
  subst he
  subst hF
  obtain ⟨A', c', he, _, hC⟩ := Kn.R_C hR
  rw [← hx] at hC
  injection he with he1 he2 he3
  subst he1 he3
  exact ⟨A, c, ps, rfl, Lib.hid hC, Lib.hid hR, Lib.hid hx.symm, Lib.hid (fun b hbb => ⟨hf b hbb, Kn.R_lt hR b hbb⟩), hb⟩
end Go.Proofs.Ytamhkgphbpbhfaa.L
