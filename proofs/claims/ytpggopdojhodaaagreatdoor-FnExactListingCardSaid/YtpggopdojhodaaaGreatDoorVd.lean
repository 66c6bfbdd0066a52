/- Nets and signals in memory, told in one word each; the contracts of chapter 1 in these words. -/
import Derived.Test.YtpggopdojhodaaaGreatDoorVc
import Derived.RegionTactic
import Derived.BigRegion
namespace Go.Proofs.YtpggopdojhodaaaGreatDoor.L
open Go.RowKit
set_option linter.unusedVariables false
set_option linter.unusedSimpArgs false
theorem same_iff {ns : List ByteArray} {k : Nat} {s : ByteArray} : sameName ns k s ↔ s ∈ ns.take k := by
  constructor
  · rintro ⟨j, hj, h⟩
    exact List.mem_of_getElem? (i := j) (by rw [List.getElem?_take, if_pos hj]; exact h)
  · intro h
    obtain ⟨j, hj⟩ := List.mem_iff_getElem?.1 h
    rw [List.getElem?_take] at hj
    split at hj
    · rename_i hjk
      exact ⟨j, hjk, hj⟩
    · cases hj
theorem take_snoc {α : Type} {xs : List α} {k : Nat} {x : α} (h : xs[k]? = some x) : xs.take (k + 1) = xs.take k ++ [x] := by
  rw [List.take_add_one, h]
  rfl
def named4 (js : List Joint) (k : Nat) : List ByteArray := ((js.take k).filter (fun x => decide (2 < x.kind))).map Joint.name
theorem named4_skip {js : List Joint} {k : Nat} {x : Joint} (h : js[k]? = some x) (hk : x.kind ≤ 2) : named4 js (k + 1) = named4 js k := by
  unfold named4
  rw [take_snoc h, List.filter_append, List.map_append]
  have : decide (2 < x.kind) = false := decide_eq_false (by omega)
  simp [this]
theorem named4_snoc {js : List Joint} {k : Nat} {x : Joint} (h : js[k]? = some x) (hk : 2 < x.kind) : named4 js (k + 1) = named4 js k ++ [x.name] := by
  unfold named4
  rw [take_snoc h, List.filter_append, List.map_append]
  have : decide (2 < x.kind) = true := decide_eq_true hk
  simp [this]
theorem named4_mem {js : List Joint} {k : Nat} {s : ByteArray} (h : s ∈ named4 js k) : sameName (js.map Joint.name) k s := by
  unfold named4 at h
  obtain ⟨x, hx, rfl⟩ := List.mem_map.1 h
  have hx := (List.mem_filter.1 hx).1
  rw [same_iff, ← List.map_take]
  exact List.mem_map.2 ⟨x, hx, rfl⟩
theorem nameP_ne {s : ByteArray} (h : nameP s) : ¬ s = ⟨#[]⟩ := fun e => by
  rw [e] at h
  have := h.1
  simp [ByteArray.size] at this
theorem named4_not {n : Net} {k : Nat} {s : ByteArray} (h : ¬ s ∈ named4 n.joints k) (hp : nameP s) (hb : ∀ j, j < k → ¬ bad4 n j) : ¬ sameName (n.joints.map Joint.name) k s := by
  rintro ⟨j, hj, hs⟩
  rw [List.getElem?_map, Option.map_eq_some_iff] at hs
  obtain ⟨x, hx, rfl⟩ := hs
  by_cases hk : 2 < x.kind
  · refine h (List.mem_map.2 ⟨x, List.mem_filter.2 ⟨?_, decide_eq_true hk⟩, rfl⟩)
    exact List.mem_of_getElem? (i := j) (by rw [List.getElem?_take, if_pos hj]; exact hx)
  · by_cases he : x.name = ⟨#[]⟩
    · exact nameP_ne hp he
    · exact hb j hj ⟨x, hx, .inl ⟨by omega, he⟩⟩
theorem endP_wf {n : Nat} {a b : Int} (hn : n ≤ 100) (h : endP n ⟨a, b⟩) : (Lit.int .i64 a).wf = true ∧ (Lit.int .i64 b).wf = true := by
  obtain ⟨⟨h1, h2⟩, h3, h4⟩ := h
  simp only at h1 h2 h3 h4
  exact ⟨WalkArith.wf_i64 (by omega), WalkArith.wf_i64 (by omega)⟩
set_option maxHeartbeats 2000000 in
theorem pieceOk (x : Piece) (w : World) (hs : x.name.size ≤ 9223372036854775807) : Calls Tryz.prog 138 #[x.v] w (RetB (pv (pieceP x)) w) := by
  obtain ⟨a, b, c, d⟩ := x
  simp only at hs
  by_cases q : nameP a
  rotate_left
  · have HN : Hid (pv (pieceP ⟨a, b, c, d⟩) = false) := Lib.hid (pv_false (fun h => q h.1))
    have D : Hid (pv (nameP a) = false) := Lib.hid (pv_false q)
    clear q
    go_enter Tryz.func138, Tryz.ntmps138
    go_wp2_with fail
    refine (named _ _ hs).mono ?_
    rintro e w1 ⟨rfl, rfl⟩
    rw [D.out]
    go_wp2
    go_ret
    exact ⟨by rw [HN.out]; rfl, below_alloc _ _⟩
  have D : Hid (pv (nameP a) = true) := Lib.hid (pv_true q)
  by_cases q0 : 1 ≤ b
  rotate_left
  · have HN : Hid (pv (pieceP ⟨a, b, c, d⟩) = false) := Lib.hid (pv_false (fun h => q0 h.2.1))
    have d0 : decide (1 ≤ b) = false := decide_eq_false q0
    clear q0
    go_enter Tryz.func138, Tryz.ntmps138
    go_wp2_with fail
    refine (named _ _ hs).mono ?_
    rintro e w1 ⟨rfl, rfl⟩
    rw [D.out]
    go_wp2
    go_ret
    exact ⟨by rw [HN.out]; rfl, below_alloc _ _⟩
  have d0 : decide (1 ≤ b) = true := decide_eq_true q0
  by_cases q1 : b ≤ 10000000
  rotate_left
  · have HN : Hid (pv (pieceP ⟨a, b, c, d⟩) = false) := Lib.hid (pv_false (fun h => q1 h.2.2.1))
    have d1 : decide (b ≤ 10000000) = false := decide_eq_false q1
    clear q1
    go_enter Tryz.func138, Tryz.ntmps138
    go_wp2_with fail
    refine (named _ _ hs).mono ?_
    rintro e w1 ⟨rfl, rfl⟩
    rw [D.out]
    go_wp2
    go_ret
    exact ⟨by rw [HN.out]; rfl, below_alloc _ _⟩
  have d1 : decide (b ≤ 10000000) = true := decide_eq_true q1
  by_cases q2 : 1 ≤ c
  rotate_left
  · have HN : Hid (pv (pieceP ⟨a, b, c, d⟩) = false) := Lib.hid (pv_false (fun h => q2 h.2.2.2.1))
    have d2 : decide (1 ≤ c) = false := decide_eq_false q2
    clear q2
    go_enter Tryz.func138, Tryz.ntmps138
    go_wp2_with fail
    refine (named _ _ hs).mono ?_
    rintro e w1 ⟨rfl, rfl⟩
    rw [D.out]
    go_wp2
    go_ret
    exact ⟨by rw [HN.out]; rfl, below_alloc _ _⟩
  have d2 : decide (1 ≤ c) = true := decide_eq_true q2
  by_cases q3 : c ≤ 10000
  rotate_left
  · have HN : Hid (pv (pieceP ⟨a, b, c, d⟩) = false) := Lib.hid (pv_false (fun h => q3 h.2.2.2.2.1))
    have d3 : decide (c ≤ 10000) = false := decide_eq_false q3
    clear q3
    go_enter Tryz.func138, Tryz.ntmps138
    go_wp2_with fail
    refine (named _ _ hs).mono ?_
    rintro e w1 ⟨rfl, rfl⟩
    rw [D.out]
    go_wp2
    go_ret
    exact ⟨by rw [HN.out]; rfl, below_alloc _ _⟩
  have d3 : decide (c ≤ 10000) = true := decide_eq_true q3
  by_cases q4 : 1 ≤ d
  rotate_left
  · have HN : Hid (pv (pieceP ⟨a, b, c, d⟩) = false) := Lib.hid (pv_false (fun h => q4 h.2.2.2.2.2.1))
    have d4 : decide (1 ≤ d) = false := decide_eq_false q4
    clear q4
    go_enter Tryz.func138, Tryz.ntmps138
    go_wp2_with fail
    refine (named _ _ hs).mono ?_
    rintro e w1 ⟨rfl, rfl⟩
    rw [D.out]
    go_wp2
    go_ret
    exact ⟨by rw [HN.out]; rfl, below_alloc _ _⟩
  have d4 : decide (1 ≤ d) = true := decide_eq_true q4
  by_cases q5 : d ≤ 1000
  rotate_left
  · have HN : Hid (pv (pieceP ⟨a, b, c, d⟩) = false) := Lib.hid (pv_false (fun h => q5 h.2.2.2.2.2.2))
    have d5 : decide (d ≤ 1000) = false := decide_eq_false q5
    clear q5
    go_enter Tryz.func138, Tryz.ntmps138
    go_wp2_with fail
    refine (named _ _ hs).mono ?_
    rintro e w1 ⟨rfl, rfl⟩
    rw [D.out]
    go_wp2
    go_ret
    exact ⟨by rw [HN.out]; rfl, below_alloc _ _⟩
  have d5 : decide (d ≤ 1000) = true := decide_eq_true q5
  have HN : Hid (pv (pieceP ⟨a, b, c, d⟩) = true) := Lib.hid (pv_true ⟨q, q0, q1, q2, q3, q4, q5⟩)
  go_enter Tryz.func138, Tryz.ntmps138
  go_wp2_with fail
  refine (named _ _ hs).mono ?_
  rintro e w1 ⟨rfl, rfl⟩
  rw [D.out]
  go_wp2
  go_ret
  exact ⟨by rw [HN.out]; rfl, below_alloc _ _⟩
set_option maxRecDepth 100000 in
set_option maxHeartbeats 16000000 in
theorem implNetOk {ok : Nat → Prop} (n : Net) (A0 A1 : Option Addr) (c0 c1 : Nat) (w : World) (hp : pieceK.C w ok A0 n.pieces) (hj : (jointK 177).C w ok A1 n.joints) (hfit : Hid n.fit) (hu : Hid (∀ e, uses n.joints e ≤ 1048576)) :
    Calls Tryz.prog 127 #[.agg #[.slice A0 n.pieces.length c0, .slice A1 n.joints.length c1]] w (RetV (netOk n).v w) := by
  have hm0 := hp.1
  have hm1 := hj.1
  have hmm := @run_makeMap Tryz.prog
  by_cases b1 : n.pieces.length = 0
  · have d1 : ((n.pieces.length : Int) == 0) = true := by rw [beq_iff_eq]; omega
    have HN : Hid (netOk n = ⟨1, 0⟩) := Lib.hid (netOk_1 (.inl b1))
    clear b1
    go_enter Tryz.func127, Tryz.ntmps127
    go_wp2
    exact bodyPost_ret (v := .agg #[.int .i64 1, .int .i64 0]) (by simp [results, Tryz.results127, go_sem]) rfl ⟨by rw [HN.out], (below_alloc _ _).alloc (by simp) _⟩
  have d1 : ((n.pieces.length : Int) == 0) = false := by rw [beq_eq_false_iff_ne]; omega
  by_cases b2 : 100 < n.pieces.length
  · have HN : Hid (netOk n = ⟨1, 0⟩) := Lib.hid (netOk_1 (.inr (.inl b2)))
    go_enter Tryz.func127, Tryz.ntmps127
    go_wp2
    exact bodyPost_ret (v := .agg #[.int .i64 1, .int .i64 0]) (by simp [results, Tryz.results127, go_sem]) rfl ⟨by rw [HN.out], (below_alloc _ _).alloc (by simp) _⟩
  by_cases b3 : 120 < n.joints.length
  · have HN : Hid (netOk n = ⟨1, 0⟩) := Lib.hid (netOk_1 (.inr (.inr b3)))
    go_enter Tryz.func127, Tryz.ntmps127
    go_wp2
    exact bodyPost_ret (v := .agg #[.int .i64 1, .int .i64 0]) (by simp [results, Tryz.results127, go_sem]) rfl ⟨by rw [HN.out], (below_alloc _ _).alloc (by simp) _⟩
  have B1 : Hid (¬ bad1 n) := Lib.hid (fun h => by rcases h with h | h | h; exact b1 h; exact b2 h; exact b3 h)
  clear b1
  go_enter Tryz.func127, Tryz.ntmps127
  go_upto_region 3 with (fail)
  obtain ⟨W0, hW0, hB0, f0, f1, f2, f3, f4, f5, hs0, hs1⟩ : ∃ W0, W0 = (w.alloc (.cells #[.slice A0 n.pieces.length c0, .slice A1 n.joints.length c1] 35)).alloc (.cells #[.int .i64 0, .int .i64 0] 132) ∧ Below w.heap.size w W0 ∧
      W0.cell? ⟨w.heap.size, 0, none⟩ = some (.slice A0 n.pieces.length c0) ∧ W0.cell? ⟨w.heap.size, 1, none⟩ = some (.slice A1 n.joints.length c1) ∧ W0.cell? ⟨w.heap.size + 1, 0, none⟩ = some (.int .i64 0) ∧ W0.cell? ⟨w.heap.size + 1, 1, none⟩ = some (.int .i64 0) ∧
      W0.frozen? ⟨w.heap.size + 1, 0, none⟩ = false ∧ W0.frozen? ⟨w.heap.size + 1, 1, none⟩ = false ∧ w.heap.size < W0.heap.size ∧ w.heap.size + 1 < W0.heap.size := ⟨_, rfl, (below_alloc _ _).alloc (by simp) _, by simp, by simp, by simp, by simp, by simp, by simp, by simp; omega, by simp⟩
  rw [← hW0]
  clear hW0
  go_wp2
  go_loopw [39] (fun i wr => ∃ k : Nat, k ≤ n.pieces.length ∧ i = .int .i64 k ∧ Hid (∀ j, j < k → ¬ bad2 n j) ∧ Hid (EM Tryz.prog 9 wr W0.heap.size k (nameSet ((n.pieces.map Piece.name).take k))) ∧ Below W0.heap.size W0 wr) (fun i _ => n.pieces.length - (intOf i).toNat)
  case atStart => exact ⟨0, Nat.zero_le _, rfl, Lib.hid (fun j h => absurd h (by omega)), Lib.hid (by rw [List.take_zero, nameSet_nil]; exact EM.made _ _ _), below_alloc _ _⟩
  case round =>
    obtain ⟨k, hk, rfl, HB2, HM, hb⟩ := hrel
    obtain ⟨hc, hf⟩ := bcell hb
    have hs2 : w.heap.size < wr.heap.size := by have := hb.size; omega
    have hs3 : w.heap.size + 1 < wr.heap.size := by have := hb.size; omega
    have hbw := hB0.trans (hb.mono hB0.size)
    by_cases hlt : k < n.pieces.length
    · obtain ⟨a0, rfl, y0, y1, y2, y3, E, g0, g1, g2, g3⟩ := pieceK_at (Kn.C_below hbw hp) k hlt
      have i0 : (0 : Int) ≤ (k : Int) := Int.natCast_nonneg _
      have i1 : (k : Int) < (n.pieces.length : Int) := by omega
      have hys : y0.size ≤ 9223372036854775807 := hfit.out.1 _ (mem_of_get E.out)
      by_cases q0 : pieceP ⟨y0, y1, y2, y3⟩
      rotate_left
      · have HN : Hid (netOk n = ⟨2, k⟩) := Lib.hid (netOk_2 B1.out hlt ⟨_, E.out, .inl q0⟩ HB2.out)
        have HE : Hid (pv (pieceP ⟨y0, y1, y2, y3⟩) = false) := Lib.hid (pv_false q0)
        clear q0
        go_wp2_with fail
        refine (pieceOk ⟨y0, y1, y2, y3⟩ _ hys).mono ?_
        rintro e w1 ⟨rfl, hb1⟩
        rw [HE.out]
        have hbj := hb.trans (((below_alloc _ _).trans (hb1.mono (by simp))).mono hb.size)
        obtain ⟨hcj, hfj⟩ := bcell hbj
        have hs5 : w.heap.size + 1 < w1.heap.size := by have := hbj.size; omega
        go_wp2
        exact bodyPost_ret (v := .agg #[.int .i64 2, .int .i64 k]) (by simp [results, Tryz.results127, go_sem, hcj, hs0, hs1, hs5, f2, f3]) rfl ⟨by rw [HN.out], by repeat' first | exact hB0.trans (hbj.mono hB0.size) | (refine Below.alloc ?_ ?_ _) | (refine Below.setCell ?_ ?_ _) | (simp; done) | (simp; omega)⟩
      have HE : Hid (pv (pieceP ⟨y0, y1, y2, y3⟩) = true) := Lib.hid (pv_true q0)
      have Q0 := Lib.hid q0
      clear q0
      go_wp2_with fail
      refine (pieceOk ⟨y0, y1, y2, y3⟩ _ hys).mono ?_
      rintro e w1 ⟨rfl, hb1⟩
      rw [HE.out]
      have hbx : Below wr.heap.size wr w1 := (below_alloc _ _).trans (hb1.mono (by simp))
      have hbj := hb.trans (hbx.mono hb.size)
      obtain ⟨hcj, hfj⟩ := bcell hbj
      obtain ⟨hcx, hfx⟩ := bcell hb1
      have hs5 : w.heap.size + 1 < w1.heap.size := by have := hbj.size; omega
      have EM1 := HM.out.below hbx
      have hl := EM1.look lawStr Tryz.underlying217 (zeroBool _) (keyStr hys)
      rw [nameSet_at] at hl
      by_cases qd : y0 ∈ (n.pieces.map Piece.name).take k
      · have HN : Hid (netOk n = ⟨2, k⟩) := Lib.hid (netOk_2 B1.out hlt ⟨_, E.out, .inr (same_iff.2 qd)⟩ HB2.out)
        rw [pv_true qd] at hl
        clear qd EM1
        go_wp2
        exact bodyPost_ret (v := .agg #[.int .i64 2, .int .i64 k]) (by simp [results, Tryz.results127, go_sem, hcj, hs0, hs1, hs5, f2, f3]) rfl ⟨by rw [HN.out], by repeat' first | exact hB0.trans (hbj.mono hB0.size) | (refine Below.alloc ?_ ?_ _) | (refine Below.setCell ?_ ?_ _) | (simp; done) | (simp; omega)⟩
      · have HN := Lib.hid (none_snoc HB2.out (not_bad2 E.out Q0.out (fun h => qd (same_iff.1 h))))
        rw [pv_false qd] at hl
        obtain ⟨w2, hst, hem, hg2⟩ := EM1.store lawStr Tryz.underlying217 (keyStr hys) (.bool true)
        rw [nameSet_snoc, ← take_snoc (pnames_at E.out)] at hem
        have HM2 := Lib.hid hem
        clear qd EM1 hem
        go_wp2
        go_roundw
        case rel => exact ⟨k + 1, by omega, by go_num, HN, HM2, below_grown hbj hg2 (Nat.le_refl _) hbj.size⟩
        case measure => simp [intOf]; omega
    · have hge : n.pieces.length ≤ k := by omega
      have HB2' : Hid (∀ j, j < n.pieces.length → ¬ bad2 n j) := Lib.hid (fun j h => HB2.out j (by omega))
      clear HB2 HM
      go_wp2
      obtain ⟨wa, hwa, hb1⟩ : ∃ wa, wa = wr ∧ Below W0.heap.size W0 wa := ⟨_, rfl, hb⟩
      rw [← hwa]
      clear hwa hc hf hs2 hs3 hb hbw
      go_loopw [62] (fun i wr => ∃ k : Nat, k ≤ n.joints.length ∧ i = .int .i64 k ∧ Hid (∀ j, j < k → ¬ bad3 n j) ∧ Below W0.heap.size W0 wr) (fun i _ => n.joints.length - (intOf i).toNat)
      case atStart => exact ⟨0, Nat.zero_le _, rfl, Lib.hid (fun j h => absurd h (by omega)), hb1⟩
      case round =>
        clear hk hge hb1
        obtain ⟨k, hk, rfl, HB3, hb⟩ := hrel
        obtain ⟨hc, hf⟩ := bcell hb
        have hs2 : w.heap.size < wr.heap.size := by have := hb.size; omega
        have hs3 : w.heap.size + 1 < wr.heap.size := by have := hb.size; omega
        have hbw := hB0.trans (hb.mono hB0.size)
        by_cases hlt : k < n.joints.length
        · obtain ⟨a1, rfl, y, E, A2, c2, g0, g1, g2, l2, q2⟩ := jointK_at (Kn.C_below hbw hj) k hlt
          have i0 : (0 : Int) ≤ (k : Int) := Int.natCast_nonneg _
          have i1 : (k : Int) < (n.joints.length : Int) := by omega
          have hm2 := q2.1
          by_cases k1 : 1 ≤ y.kind
          rotate_left
          · have HN : Hid (netOk n = ⟨3, k⟩) := Lib.hid (netOk_3 B1.out HB2'.out hlt ⟨_, E.out, fun h => k1 h.1.1⟩ HB3.out)
            go_wp2
            exact bodyPost_ret (v := .agg #[.int .i64 3, .int .i64 k]) (by simp [results, Tryz.results127, go_sem, hc, hs0, hs1, hs2, hs3, f2, f3]) rfl ⟨by rw [HN.out], by repeat' first | exact hbw | (refine Below.alloc ?_ ?_ _) | (refine Below.setCell ?_ ?_ _) | (simp; done) | (simp; omega)⟩
          by_cases k2 : y.kind ≤ 4
          rotate_left
          · have HN : Hid (netOk n = ⟨3, k⟩) := Lib.hid (netOk_3 B1.out HB2'.out hlt ⟨_, E.out, fun h => k2 h.1.2⟩ HB3.out)
            go_wp2
            exact bodyPost_ret (v := .agg #[.int .i64 3, .int .i64 k]) (by simp [results, Tryz.results127, go_sem, hc, hs0, hs1, hs2, hs3, f2, f3]) rfl ⟨by rw [HN.out], by repeat' first | exact hbw | (refine Below.alloc ?_ ?_ _) | (refine Below.setCell ?_ ?_ _) | (simp; done) | (simp; omega)⟩
          by_cases k3 : (y.ends.length : Int) = y.kind
          rotate_left
          · have HN : Hid (netOk n = ⟨3, k⟩) := Lib.hid (netOk_3 B1.out HB2'.out hlt ⟨_, E.out, fun h => k3 h.2.1⟩ HB3.out)
            have d3 : ((y.ends.length : Int) != y.kind) = true := int_ne k3
            clear k3
            go_wp2
            exact bodyPost_ret (v := .agg #[.int .i64 3, .int .i64 k]) (by simp [results, Tryz.results127, go_sem, hc, hs0, hs1, hs2, hs3, f2, f3]) rfl ⟨by rw [HN.out], by repeat' first | exact hbw | (refine Below.alloc ?_ ?_ _) | (refine Below.setCell ?_ ?_ _) | (simp; done) | (simp; omega)⟩
          have HK1 := Lib.hid k1
          have HK2 := Lib.hid k2
          have HK3 := Lib.hid k3
          have d3 : ((y.ends.length : Int) != y.kind) = false := by rw [k3]; simp
          clear k3
          go_wp2
          obtain ⟨W1, hW1, hB1, hs4, hs5, hs6⟩ : ∃ W1, W1 = wr.alloc (.cells #[.int .i64 y.kind, .string y.name, .slice A2 y.ends.length c2] 75) ∧ Below wr.heap.size wr W1 ∧ w.heap.size < W1.heap.size ∧ w.heap.size + 1 < W1.heap.size ∧ wr.heap.size < W1.heap.size := ⟨_, rfl, below_alloc _ _, by simp; omega, by simp; omega, by simp⟩
          rw [← hW1]
          clear hW1
          have hb1 := hb.trans (hB1.mono hb.size)
          go_loopw [88] (fun i wi => ∃ m : Nat, m ≤ y.ends.length ∧ i = .int .i64 m ∧ Hid (∀ j e, j < m → y.ends[j]? = some e → endP n.pieces.length e) ∧ Below W1.heap.size W1 wi) (fun i _ => y.ends.length - (intOf i).toNat)
          case atStart => exact ⟨0, Nat.zero_le _, rfl, Lib.hid (fun j e h => absurd h (by omega)), Below.refl _ _⟩
          case round =>
            obtain ⟨m, hmk, rfl, HM, hbi⟩ := hrel
            have hbj := hb1.trans (hbi.mono hb1.size)
            have hbw2 := hB0.trans (hbj.mono hB0.size)
            obtain ⟨hcj, hfj⟩ := bcell hbj
            have hs7 : w.heap.size < wr.heap.size := by have := hbj.size; omega
            have hs8 : w.heap.size + 1 < wr.heap.size := by have := hbj.size; omega
            by_cases hlm : m < y.ends.length
            · obtain ⟨a2, rfl, p1, q1, E1, g3, g4⟩ := endK_at (Kn.C_below (hB1.trans (hbi.mono hB1.size)) q2) m hlm
              have j0 : (0 : Int) ≤ (m : Int) := Int.natCast_nonneg _
              have j1 : (m : Int) < (y.ends.length : Int) := by omega
              by_cases e0 : 0 ≤ p1
              rotate_left
              · have HN : Hid (netOk n = ⟨3, k⟩) := Lib.hid (netOk_3 B1.out HB2'.out hlt ⟨_, E.out, fun h => (fun (h : endP n.pieces.length ⟨p1, q1⟩) => e0 h.1.1) (h.2.2 _ (mem_of_get E1.out))⟩ HB3.out)
                go_wp2
                exact bodyPost_ret (v := .agg #[.int .i64 3, .int .i64 k]) (by simp [results, Tryz.results127, go_sem, hcj, hs0, hs1, hs7, hs8, f2, f3]) rfl ⟨by rw [HN.out], by repeat' first | exact hbw2 | (refine Below.alloc ?_ ?_ _) | (refine Below.setCell ?_ ?_ _) | (simp; done) | (simp; omega)⟩
              by_cases e1 : p1 < (n.pieces.length : Int)
              rotate_left
              · have HN : Hid (netOk n = ⟨3, k⟩) := Lib.hid (netOk_3 B1.out HB2'.out hlt ⟨_, E.out, fun h => (fun (h : endP n.pieces.length ⟨p1, q1⟩) => e1 (by have := h.1.2; simp only at this; omega)) (h.2.2 _ (mem_of_get E1.out))⟩ HB3.out)
                go_wp2
                exact bodyPost_ret (v := .agg #[.int .i64 3, .int .i64 k]) (by simp [results, Tryz.results127, go_sem, hcj, hs0, hs1, hs7, hs8, f2, f3]) rfl ⟨by rw [HN.out], by repeat' first | exact hbw2 | (refine Below.alloc ?_ ?_ _) | (refine Below.setCell ?_ ?_ _) | (simp; done) | (simp; omega)⟩
              by_cases e2 : 0 ≤ q1
              rotate_left
              · have HN : Hid (netOk n = ⟨3, k⟩) := Lib.hid (netOk_3 B1.out HB2'.out hlt ⟨_, E.out, fun h => (fun (h : endP n.pieces.length ⟨p1, q1⟩) => e2 h.2.1) (h.2.2 _ (mem_of_get E1.out))⟩ HB3.out)
                go_wp2
                exact bodyPost_ret (v := .agg #[.int .i64 3, .int .i64 k]) (by simp [results, Tryz.results127, go_sem, hcj, hs0, hs1, hs7, hs8, f2, f3]) rfl ⟨by rw [HN.out], by repeat' first | exact hbw2 | (refine Below.alloc ?_ ?_ _) | (refine Below.setCell ?_ ?_ _) | (simp; done) | (simp; omega)⟩
              by_cases e3 : q1 ≤ 1
              rotate_left
              · have HN : Hid (netOk n = ⟨3, k⟩) := Lib.hid (netOk_3 B1.out HB2'.out hlt ⟨_, E.out, fun h => (fun (h : endP n.pieces.length ⟨p1, q1⟩) => e3 h.2.2) (h.2.2 _ (mem_of_get E1.out))⟩ HB3.out)
                go_wp2
                exact bodyPost_ret (v := .agg #[.int .i64 3, .int .i64 k]) (by simp [results, Tryz.results127, go_sem, hcj, hs0, hs1, hs7, hs8, f2, f3]) rfl ⟨by rw [HN.out], by repeat' first | exact hbw2 | (refine Below.alloc ?_ ?_ _) | (refine Below.setCell ?_ ?_ _) | (simp; done) | (simp; omega)⟩
              have HN := Lib.hid (ends_snoc HM.out E1.out (⟨⟨e0, by show p1 ≤ (n.pieces.length : Int) - 1; omega⟩, e2, e3⟩ : endP n.pieces.length ⟨p1, q1⟩))
              go_wp2
              go_roundw
              case rel => exact ⟨m + 1, by omega, by go_num, HN, hbi.trans ((below_alloc _ _).mono hbi.size)⟩
              case measure => simp [intOf]; omega
            · have hge : y.ends.length ≤ m := by omega
              have HJ : jointP n.pieces.length y := ⟨⟨HK1.out, HK2.out⟩, HK3.out, fun e he => by
                obtain ⟨j, hj⟩ := List.mem_iff_getElem?.1 he
                exact HM.out j e (by have := (List.getElem?_eq_some_iff.1 hj).1; omega) hj⟩
              have HN := Lib.hid (none_snoc HB3.out (fun ⟨z, hz, hzb⟩ => by rw [E.out] at hz; obtain rfl := Option.some.inj hz; exact hzb HJ))
              clear HJ
              go_wp2
              go_roundw
              case rel => exact ⟨k + 1, by omega, by go_num, HN, hbj⟩
              case measure => simp [intOf]; omega
        · have hge : n.joints.length ≤ k := by omega
          have HB3' : Hid (∀ j, j < n.joints.length → ¬ bad3 n j) := Lib.hid (fun j h => HB3.out j (by omega))
          clear HB3
          obtain ⟨wb, rfl⟩ : ∃ wb : World, wb = wr := ⟨_, rfl⟩
          go_upto_region 23 with (fail)
          go_wp2
          have hwz : W0.heap.size ≤ wb.heap.size := hb.size
          go_loopw [121] (fun i wi => ∃ k : Nat, k ≤ n.joints.length ∧ i = .int .i64 k ∧ Hid (∀ j, j < k → ¬ bad4 n j) ∧ Hid (EM Tryz.prog 9 wi wb.heap.size k (nameSet (named4 n.joints k))) ∧ Below W0.heap.size W0 wi) (fun i _ => n.joints.length - (intOf i).toNat)
          case atStart => exact ⟨0, Nat.zero_le _, rfl, Lib.hid (fun j h => absurd h (by omega)), Lib.hid (by show EM _ _ _ _ _ (nameSet []); rw [nameSet_nil]; exact EM.made _ _ _), hb.alloc hb.size _⟩
          case round =>
            clear hk hge hb hbw hc hf hs2 hs3
            obtain ⟨k, hk, rfl, HB4, HM, hb⟩ := hrel
            obtain ⟨hc, hf⟩ := bcell hb
            have hs2 : w.heap.size < wr.heap.size := by have := hb.size; omega
            have hs3 : w.heap.size + 1 < wr.heap.size := by have := hb.size; omega
            have hbw := hB0.trans (hb.mono hB0.size)
            by_cases hlt : k < n.joints.length
            · obtain ⟨a1, rfl, y, E, A2, c2, g0, g1, g2, l2, q2⟩ := jointK_at (Kn.C_below hbw hj) k hlt
              have i0 : (0 : Int) ≤ (k : Int) := Int.natCast_nonneg _
              have i1 : (k : Int) < (n.joints.length : Int) := by omega
              have hys : y.name.size ≤ 9223372036854775807 := hfit.out.2 _ (mem_of_get E.out)
              have EM1 := HM.out.below (below_alloc _ (.cells #[.int .i64 y.kind, .string y.name, .slice A2 y.ends.length c2] 75))
              have hbx := hb.trans ((below_alloc _ (.cells #[.int .i64 y.kind, .string y.name, .slice A2 y.ends.length c2] 75)).mono hb.size)
              by_cases k1 : y.kind ≤ 2
              · by_cases c4 : y.name = ⟨#[]⟩
                · have HN := Lib.hid (none_snoc HB4.out (fun ⟨z, hz, hzb⟩ => by
                    rw [E.out] at hz
                    obtain rfl := Option.some.inj hz
                    rcases hzb with h | h
                    · exact h.2 c4
                    · omega))
                  have HM2 : Hid (EM Tryz.prog 9 _ wb.heap.size (k + 1) (nameSet (named4 n.joints (k + 1)))) := Lib.hid (by rw [named4_skip E.out k1]; exact EM1.more)
                  obtain ⟨d4, d5⟩ := str_empty c4
                  clear c4 EM1
                  go_wp2
                  go_roundw
                  case rel => exact ⟨k + 1, by omega, by go_num, HN, HM2, hbx⟩
                  case measure => simp [intOf]; omega
                · have HN : Hid (netOk n = ⟨4, k⟩) := Lib.hid (netOk_4 B1.out HB2'.out HB3'.out hlt ⟨_, E.out, .inl ⟨by omega, c4⟩⟩ HB4.out)
                  obtain ⟨d4, d5⟩ := str_full c4
                  clear c4 EM1
                  go_wp2
                  exact bodyPost_ret (v := .agg #[.int .i64 4, .int .i64 k]) (by simp [results, Tryz.results127, go_sem, hc, hs0, hs1, hs2, hs3, f2, f3]) rfl ⟨by rw [HN.out], by repeat' first | exact hbw | (refine Below.alloc ?_ ?_ _) | (refine Below.setCell ?_ ?_ _) | (simp; done) | (simp; omega)⟩
              · have k2 : 3 ≤ y.kind := by omega
                by_cases c4 : nameP y.name
                rotate_left
                · have HN : Hid (netOk n = ⟨4, k⟩) := Lib.hid (netOk_4 B1.out HB2'.out HB3'.out hlt ⟨_, E.out, .inr ⟨k2, .inl c4⟩⟩ HB4.out)
                  have HE : Hid (pv (nameP y.name) = false) := Lib.hid (pv_false c4)
                  clear c4 EM1
                  go_wp2_with fail
                  refine (named _ _ hys).mono ?_
                  rintro e w1 ⟨rfl, rfl⟩
                  rw [HE.out]
                  go_wp2
                  exact bodyPost_ret (v := .agg #[.int .i64 4, .int .i64 k]) (by simp [results, Tryz.results127, go_sem, hc, hs0, hs1, hs2, hs3, f2, f3]) rfl ⟨by rw [HN.out], by repeat' first | exact hbw | (refine Below.alloc ?_ ?_ _) | (refine Below.setCell ?_ ?_ _) | (simp; done) | (simp; omega)⟩
                have HE : Hid (pv (nameP y.name) = true) := Lib.hid (pv_true c4)
                have C4 := Lib.hid c4
                clear c4
                have hl := EM1.look lawStr Tryz.underlying217 (zeroBool _) (keyStr hys)
                rw [nameSet_at] at hl
                by_cases qd : y.name ∈ named4 n.joints k
                · have HN : Hid (netOk n = ⟨4, k⟩) := Lib.hid (netOk_4 B1.out HB2'.out HB3'.out hlt ⟨_, E.out, .inr ⟨k2, .inr (named4_mem qd)⟩⟩ HB4.out)
                  rw [pv_true qd] at hl
                  clear qd EM1
                  go_wp2_with fail
                  refine (named _ _ hys).mono ?_
                  rintro e w1 ⟨rfl, rfl⟩
                  rw [HE.out]
                  go_wp2
                  exact bodyPost_ret (v := .agg #[.int .i64 4, .int .i64 k]) (by simp [results, Tryz.results127, go_sem, hc, hs0, hs1, hs2, hs3, f2, f3]) rfl ⟨by rw [HN.out], by repeat' first | exact hbw | (refine Below.alloc ?_ ?_ _) | (refine Below.setCell ?_ ?_ _) | (simp; done) | (simp; omega)⟩
                · have HN := Lib.hid (none_snoc HB4.out (fun ⟨z, hz, hzb⟩ => by
                    rw [E.out] at hz
                    obtain rfl := Option.some.inj hz
                    rcases hzb with h | ⟨_, h | h⟩
                    · omega
                    · exact h C4.out
                    · exact named4_not qd C4.out HB4.out h))
                  rw [pv_false qd] at hl
                  obtain ⟨w2, hst, hem, hg2⟩ := EM1.store lawStr Tryz.underlying217 (keyStr hys) (.bool true)
                  rw [nameSet_snoc, ← named4_snoc E.out (by omega)] at hem
                  have HM2 := Lib.hid hem
                  clear qd EM1 hem
                  go_wp2_with fail
                  refine (named _ _ hys).mono ?_
                  rintro e w1 ⟨rfl, rfl⟩
                  rw [HE.out]
                  go_wp2
                  go_roundw
                  case rel => exact ⟨k + 1, by omega, by go_num, HN, HM2, below_grown hbx hg2 hwz hbx.size⟩
                  case measure => simp [intOf]; omega
            · have hge : n.joints.length ≤ k := by omega
              have HB4' : Hid (∀ j, j < n.joints.length → ¬ bad4 n j) := Lib.hid (fun j h => HB4.out j (by omega))
              clear HB4 HM hwz
              obtain ⟨wd, rfl⟩ : ∃ wd : World, wd = wr := ⟨_, rfl⟩
              go_upto_region 34 with (fail)
              go_wp2
              have hwz : W0.heap.size ≤ wd.heap.size := hb.size
              go_loopw [154] (fun i wi => ∃ k : Nat, k ≤ n.joints.length ∧ i = .int .i64 k ∧ Hid (∃ N, EM Tryz.prog 177 wi wd.heap.size N (cntF (uses (n.joints.take k)))) ∧ Below W0.heap.size W0 wi) (fun i _ => n.joints.length - (intOf i).toNat)
              case atStart => exact ⟨0, Nat.zero_le _, rfl, Lib.hid ⟨0, by show EM _ _ _ _ _ (cntF (fun _ => 0)); rw [cntF_nil]; exact EM.made _ _ _⟩, hb.alloc hb.size _⟩
              case round =>
                clear hk hge hb hbw hc hf hs2 hs3
                obtain ⟨k, hk, rfl, HM, hb⟩ := hrel
                obtain ⟨hc, hf⟩ := bcell hb
                have hs2 : w.heap.size < wr.heap.size := by have := hb.size; omega
                have hs3 : w.heap.size + 1 < wr.heap.size := by have := hb.size; omega
                have hbw := hB0.trans (hb.mono hB0.size)
                obtain ⟨we, rfl⟩ : ∃ we : World, we = wr := ⟨_, rfl⟩
                by_cases hlt : k < n.joints.length
                · obtain ⟨a1, rfl, y, E, A2, c2, g0w, g1w, g2w, l2, q2⟩ := jointK_at hj k hlt
                  have g0 := cell_below hbw g0w
                  have g1 := cell_below hbw g1w
                  have g2 := cell_below hbw g2w
                  clear g0w g1w g2w
                  have i0 : (0 : Int) ≤ (k : Int) := Int.natCast_nonneg _
                  have i1 : (k : Int) < (n.joints.length : Int) := by omega
                  have hm2 := q2.1
                  have HEP : Hid (∀ e, e ∈ y.ends → endP n.pieces.length e) := Lib.hid (Classical.byContradiction fun h => HB3'.out k hlt ⟨y, E.out, fun hj => h hj.2.2⟩)
                  have HEM : Hid (∃ N, EM Tryz.prog 177 (we.alloc (.cells #[.int .i64 y.kind, .string y.name, .slice A2 y.ends.length c2] 75)) wd.heap.size N (cntF (fun e => uses (n.joints.take k) e + usesIn (y.ends.take 0) e))) := Lib.hid (by
                    obtain ⟨N, h⟩ := HM.out
                    exact ⟨N, h.below (below_alloc _ _)⟩)
                  have hbx := hb.trans ((below_alloc _ (.cells #[.int .i64 y.kind, .string y.name, .slice A2 y.ends.length c2] 75)).mono hb.size)
                  have HUK : Hid (∀ e, uses (n.joints.take k) e + usesIn y.ends e ≤ 1048576) := Lib.hid (fun e => by have h1 := uses_le n.joints e (k + 1); rw [uses_snoc _ _ _ _ E.out] at h1; have := hu.out e; omega)
                  clear HM
                  go_wp2
                  go_loopw [161] (fun i wi => ∃ m : Nat, m ≤ y.ends.length ∧ i = .int .i64 m ∧ Hid (∃ N, EM Tryz.prog 177 wi wd.heap.size N (cntF (fun e => uses (n.joints.take k) e + usesIn (y.ends.take m) e))) ∧ Below W0.heap.size W0 wi) (fun i _ => y.ends.length - (intOf i).toNat)
                  case atStart => exact ⟨0, Nat.zero_le _, rfl, HEM, hbx⟩
                  case round =>
                    clear hb hbw hc hf hs2 hs3 hbx g0 g1 g2
                    obtain ⟨m, hmk, rfl, HM, hb⟩ := hrel
                    have hbw := hB0.trans (hb.mono hB0.size)
                    by_cases hlm : m < y.ends.length
                    · obtain ⟨a2, rfl, p1, q1, E1, g3, g4⟩ := endK_at (Kn.C_below hbw q2) m hlm
                      have j0 : (0 : Int) ≤ (m : Int) := Int.natCast_nonneg _
                      have j1 : (m : Int) < (y.ends.length : Int) := by omega
                      obtain ⟨wa, wb⟩ := endP_wf (by omega) (HEP.out _ (mem_of_get E1.out))
                      obtain ⟨kl, hkey⟩ := keyEnd p1 q1 wa wb
                      obtain ⟨c, hc0⟩ : ∃ c : Nat, c = uses (n.joints.take k) ⟨p1, q1⟩ + usesIn (y.ends.take m) ⟨p1, q1⟩ := ⟨_, rfl⟩
                      have hcn : c + 1 ≤ 1048576 := by
                        have h1 := HUK.out ⟨p1, q1⟩
                        have h2 := usesIn_le y.ends ⟨p1, q1⟩ (m + 1)
                        rw [usesIn_snoc _ _ _ _ E1.out, if_pos (eqv_self _)] at h2
                        omega
                      obtain ⟨N, hem⟩ := HM.out
                      have hbx := hb.trans ((below_alloc _ (.cells #[.int .i64 p1, .int .i64 q1] 177)).mono hb.size)
                      have EMd : EM Tryz.prog 177 (wr.alloc (.cells #[.int .i64 p1, .int .i64 q1] 177)).drew wd.heap.size N _ := (hem.below (below_alloc _ _)).move rfl
                      have hl := EMd.look lawEnd Tryz.underlying219 (zeroInt _) hkey
                      obtain ⟨w1, st, r1, gr1, z1, rl, w2, r2, e2, gr2⟩ := EMd.entry lawEnd Tryz.underlying219 zeroInt hkey (.int .i64 ((c : Int) + 1))
                      rw [show (Value.agg #[.int .i64 p1, .int .i64 q1]) = (⟨p1, q1⟩ : End).v from rfl, cntF_at] at hl r1 rl
                      simp only [← hc0] at hl r1 rl
                      have HN : Hid (∃ N, EM Tryz.prog 177 w2 wd.heap.size N (cntF (fun e => uses (n.joints.take k) e + usesIn (y.ends.take (m + 1)) e))) := Lib.hid ⟨N + 1, by
                        rw [← cntF_snoc (fun e => uses (n.joints.take k) e + usesIn (y.ends.take m) e) _ ⟨p1, q1⟩ (by simp only [usesIn_snoc _ _ _ _ E1.out, if_pos (eqv_self _)]; omega) (fun x hx => by simp only [usesIn_snoc _ _ _ _ E1.out]; rw [if_neg (by rw [eqv_false (fun h => hx h.symm)]; simp)]; rfl)]
                        simp only [← hc0]
                        exact e2⟩
                      have hb2 : Below W0.heap.size W0 w2 := below_grown (below_drewN hbx 1) gr2 hwz hbx.size
                      unfold goInt at r1 r2
                      clear e2 EMd hem hc0 HM
                      go_wp2
                      go_region
                      go_wp2
                      go_roundw
                      case rel => exact ⟨m + 1, by omega, by go_num, HN, hb2⟩
                      case measure => simp [intOf]; omega
                    · have hge : y.ends.length ≤ m := by omega
                      have HN : Hid (∃ N, EM Tryz.prog 177 wr wd.heap.size N (cntF (uses (n.joints.take (k + 1))))) := Lib.hid (by
                        obtain ⟨N, h⟩ := HM.out
                        rw [List.take_of_length_le hge] at h
                        exact ⟨N, by rw [show uses (n.joints.take (k + 1)) = (fun e => uses (n.joints.take k) e + usesIn y.ends e) from funext (fun e => uses_snoc _ _ _ _ E.out)]; exact h⟩)
                      clear HM HUK
                      go_wp2
                      go_roundw
                      case rel => exact ⟨k + 1, by omega, by go_num, HN, hb⟩
                      case measure => simp [intOf]; omega
                · have hge : n.joints.length ≤ k := by omega
                  obtain ⟨N, hem⟩ := HM.out
                  rw [List.take_of_length_le hge] at hem
                  have HMF := Lib.hid hem
                  clear hem HM hwz
                  go_wp2
                  go_loopw [176] (fun i wi => ∃ k : Nat, k ≤ n.pieces.length ∧ i = .int .i64 k ∧ Hid (∀ j, j < k → ¬ bad5 n j) ∧ wi = we) (fun i _ => n.pieces.length - (intOf i).toNat)
                  case atStart => exact ⟨0, Nat.zero_le _, rfl, Lib.hid (fun j h => absurd h (by omega)), rfl⟩
                  case round =>
                    clear hk hge
                    obtain ⟨k, hk, rfl, HB5, rfl⟩ := hrel
                    by_cases hlt : k < n.pieces.length
                    · have i0 : (0 : Int) ≤ (k : Int) := Int.natCast_nonneg _
                      have i1 : (k : Int) < (n.pieces.length : Int) := by omega
                      obtain ⟨kl0, hk0⟩ := keyEnd (k : Int) 0 (WalkArith.wf_i64 (by omega)) (WalkArith.wf_i64 (by omega))
                      obtain ⟨kl1, hk1⟩ := keyEnd (k : Int) 1 (WalkArith.wf_i64 (by omega)) (WalkArith.wf_i64 (by omega))
                      obtain ⟨u0, hu0⟩ : ∃ c : Nat, c = uses n.joints ⟨k, 0⟩ := ⟨_, rfl⟩
                      obtain ⟨u1, hu1⟩ : ∃ c : Nat, c = uses n.joints ⟨k, 1⟩ := ⟨_, rfl⟩
                      have hl0 := HMF.out.look lawEnd Tryz.underlying219 (zeroInt _) hk0
                      have hl1 := HMF.out.look lawEnd Tryz.underlying219 (zeroInt _) hk1
                      rw [show (Value.agg #[.int .i64 (k : Int), .int .i64 0]) = (⟨k, 0⟩ : End).v from rfl, cntF_at, ← hu0] at hl0
                      rw [show (Value.agg #[.int .i64 (k : Int), .int .i64 1]) = (⟨k, 1⟩ : End).v from rfl, cntF_at, ← hu1] at hl1
                      by_cases q0 : (u0 : Int) = 1
                      rotate_left
                      · have HN : Hid (netOk n = ⟨5, k⟩) := Lib.hid (netOk_5 B1.out HB2'.out HB3'.out HB4'.out hlt (.inl (by rw [← hu0]; omega)) HB5.out)
                        have d0 : ((u0 : Int) != 1) = true := int_ne q0
                        clear q0 hu0 hu1
                        go_wp2
                        exact bodyPost_ret (v := .agg #[.int .i64 5, .int .i64 k]) (by simp [results, Tryz.results127, go_sem, hc, hs0, hs1, hs2, hs3, f2, f3]) rfl ⟨by rw [HN.out], by repeat' first | exact hbw | (refine Below.alloc ?_ ?_ _) | (refine Below.setCell ?_ ?_ _) | (simp; done) | (simp; omega)⟩
                      have d0 : ((u0 : Int) != 1) = false := by rw [q0]; rfl
                      by_cases q1 : (u1 : Int) = 1
                      rotate_left
                      · have HN : Hid (netOk n = ⟨5, k⟩) := Lib.hid (netOk_5 B1.out HB2'.out HB3'.out HB4'.out hlt (.inr (by rw [← hu1]; omega)) HB5.out)
                        have d1 : ((u1 : Int) != 1) = true := int_ne q1
                        clear q0 q1 hu0 hu1
                        go_wp2
                        exact bodyPost_ret (v := .agg #[.int .i64 5, .int .i64 k]) (by simp [results, Tryz.results127, go_sem, hc, hs0, hs1, hs2, hs3, f2, f3]) rfl ⟨by rw [HN.out], by repeat' first | exact hbw | (refine Below.alloc ?_ ?_ _) | (refine Below.setCell ?_ ?_ _) | (simp; done) | (simp; omega)⟩
                      have d1 : ((u1 : Int) != 1) = false := by rw [q1]; rfl
                      have HN := Lib.hid (none_snoc HB5.out (fun h => by rcases h with h | h; exact h (by omega); exact h (by omega)))
                      clear q0 q1 hu0 hu1
                      go_wp2
                      go_roundw
                      case rel => exact ⟨k + 1, by omega, by go_num, HN, trivial⟩
                      case measure => simp [intOf]; omega
                    · have HN : Hid (netOk n = ⟨0, 0⟩) := Lib.hid (netOk_0 B1.out HB2'.out HB3'.out HB4'.out (fun j h => HB5.out j (by omega)))
                      clear HB5
                      go_wp2
                      exact bodyPost_ret (v := .agg #[.int .i64 0, .int .i64 0]) (by simp [results, Tryz.results127, go_sem, hc, hs0, hs1, hs2, hs3, f2, f3]) rfl ⟨by rw [HN.out], by repeat' first | exact hbw | (refine Below.alloc ?_ ?_ _) | (refine Below.setCell ?_ ?_ _) | (simp; done) | (simp; omega)⟩
end Go.Proofs.YtpggopdojhodaaaGreatDoor.L
namespace Go.Proofs.YtpggopdojhodaaaGreatDoor.L
open Go.RowKit
set_option linter.unusedVariables false
set_option linter.unusedSimpArgs false
theorem named_q {s : ByteArray} {w : World} {r : Bool} (hs : s.size ≤ 9223372036854775807) (h : pv (nameP s) = r) : Calls Tryz.prog 105 #[.string s] w fun e w' => e = .returned (.bool r) ∧ w' = w := by
  subst h
  exact (named s w hs).mono fun e w' ⟨h1, h2⟩ => ⟨h1, h2.symm⟩
set_option maxRecDepth 100000 in
set_option maxHeartbeats 1000000 in
theorem implGood {ok : Nat → Prop} (n : Net) (A0 A1 : Option Addr) (c0 c1 : Nat) (w : World) (hp : pieceK.C w ok A0 n.pieces) (hj : (jointK 177).C w ok A1 n.joints) (hfit : Hid n.fit) (hu : Hid (∀ e, uses n.joints e ≤ 1048576)) :
    Calls Tryz.prog 104 #[.agg #[.slice A0 n.pieces.length c0, .slice A1 n.joints.length c1]] w (RetB (eqv (netOk n) ⟨0, 0⟩) w) := by
  obtain ⟨f, hf⟩ : ∃ f, Hid (netOk n = f) := ⟨_, Lib.hid rfl⟩
  obtain ⟨a, b⟩ := f
  have HE : Hid (eqv (netOk n) ⟨0, 0⟩ = eqv (⟨a, b⟩ : Fault) ⟨0, 0⟩) := Lib.hid (by rw [hf.out])
  by_cases h0 : a = 0
  · have d0 : (a == 0) = true := int_eqt h0
    by_cases h1 : b = 0
    · have d1 : (b == 0) = true := int_eqt h1
      have HT : Hid (eqv (netOk n) ⟨0, 0⟩ = true) := Lib.hid (by rw [HE.out, h0, h1]; exact eqv_self _)
      clear h0 h1
      go_enter Tryz.func104, Tryz.ntmps104
      go_wp2_with fail
      refine (implNetOk n A0 A1 c0 c1 _ (Kn.C_below (below_alloc _ _) hp) (Kn.C_below (below_alloc _ _) hj) hfit hu).mono ?_
      rintro e w1 ⟨rfl, hb1⟩
      rw [hf.out]
      go_wp2
      go_ret
      exact ⟨by rw [HT.out]; rfl, (below_alloc _ _).trans (hb1.mono (by simp))⟩
    · have d1 : (b == 0) = false := int_eqf h1
      have HT : Hid (eqv (netOk n) ⟨0, 0⟩ = false) := Lib.hid (by rw [HE.out]; exact eqv_false (by intro h; injection h with _ h; exact h1 h))
      clear h0 h1
      go_enter Tryz.func104, Tryz.ntmps104
      go_wp2_with fail
      refine (implNetOk n A0 A1 c0 c1 _ (Kn.C_below (below_alloc _ _) hp) (Kn.C_below (below_alloc _ _) hj) hfit hu).mono ?_
      rintro e w1 ⟨rfl, hb1⟩
      rw [hf.out]
      go_wp2
      go_ret
      exact ⟨by rw [HT.out]; rfl, (below_alloc _ _).trans (hb1.mono (by simp))⟩
  · have d0 : (a == 0) = false := int_eqf h0
    have HT : Hid (eqv (netOk n) ⟨0, 0⟩ = false) := Lib.hid (by rw [HE.out]; exact eqv_false (by intro h; injection h with h _; exact h0 h))
    clear h0
    go_enter Tryz.func104, Tryz.ntmps104
    go_wp2_with fail
    refine (implNetOk n A0 A1 c0 c1 _ (Kn.C_below (below_alloc _ _) hp) (Kn.C_below (below_alloc _ _) hj) hfit hu).mono ?_
    rintro e w1 ⟨rfl, hb1⟩
    rw [hf.out]
    go_wp2
    go_ret
    exact ⟨by rw [HT.out]; rfl, (below_alloc _ _).trans (hb1.mono (by simp))⟩
theorem clash_comm {a b : Signal} (h : clash a b) : clash b a := by
  rcases h with h | ⟨h1, h2, h3⟩
  · exact .inl h.symm
  · exact .inr ⟨h1.symm, h2.symm, h3.symm⟩
set_option maxRecDepth 100000 in
set_option maxHeartbeats 8000000 in
theorem implSignalsOk {ok ok' : Nat → Prop} (n : Net) (ss : List Signal) (A0 A1 A2 : Option Addr) (c0 c1 c2 : Nat) (w : World) (hp : pieceK.C w ok A0 n.pieces) (hj : (jointK 177).C w ok A1 n.joints) (hs : signalK.C w ok' A2 ss) (hcap : ss.length ≤ c2) (hfit : Hid n.fit) (hu : Hid (∀ e, uses n.joints e ≤ 1048576)) (hsf : Hid (∀ s ∈ ss, s.fit)) :
    Calls Tryz.prog 76 #[.agg #[.slice A0 n.pieces.length c0, .slice A1 n.joints.length c1], .slice A2 ss.length c2] w (RetV (signalsOk n ss).v w) := by
  have hm2 := hs.1
  obtain ⟨W0, hW0, hB0, f0, f1, f2, f3, f4, f5, hs0, hs1⟩ : ∃ W0, W0 = (w.alloc (.cells #[.slice A0 n.pieces.length c0, .slice A1 n.joints.length c1] 35)).alloc (.cells #[.int .i64 0, .int .i64 0] 132) ∧ Below w.heap.size w W0 ∧
      W0.cell? ⟨w.heap.size, 0, none⟩ = some (.slice A0 n.pieces.length c0) ∧ W0.cell? ⟨w.heap.size, 1, none⟩ = some (.slice A1 n.joints.length c1) ∧ W0.cell? ⟨w.heap.size + 1, 0, none⟩ = some (.int .i64 0) ∧ W0.cell? ⟨w.heap.size + 1, 1, none⟩ = some (.int .i64 0) ∧
      W0.frozen? ⟨w.heap.size + 1, 0, none⟩ = false ∧ W0.frozen? ⟨w.heap.size + 1, 1, none⟩ = false ∧ w.heap.size < W0.heap.size ∧ w.heap.size + 1 < W0.heap.size := ⟨_, rfl, (below_alloc _ _).alloc (by simp) _, by simp, by simp, by simp, by simp, by simp, by simp, by simp; omega, by simp⟩
  have hp0 := Kn.C_below hB0 hp
  have hj0 := Kn.C_below hB0 hj
  by_cases g : netOk n = ⟨0, 0⟩
  rotate_left
  · have HE : Hid (eqv (netOk n) ⟨0, 0⟩ = false) := Lib.hid (eqv_false g)
    have HN : Hid (signalsOk n ss = ⟨1, 0⟩) := Lib.hid (signalsOk_1 g)
    clear g
    go_enter Tryz.func76, Tryz.ntmps76
    go_wp2_with fail
    rw [← hW0]
    clear hW0
    refine (implGood n A0 A1 c0 c1 _ hp0 hj0 hfit hu).mono ?_
    rintro e w1 ⟨rfl, hb⟩
    rw [HE.out]
    obtain ⟨hc, hf⟩ := bcell hb
    have hs2 : w.heap.size < w1.heap.size := by have := hb.size; omega
    have hs3 : w.heap.size + 1 < w1.heap.size := by have := hb.size; omega
    have hbw := hB0.trans (hb.mono hB0.size)
    go_wp2
    exact bodyPost_ret (v := .agg #[.int .i64 1, .int .i64 0]) (by simp [results, Tryz.results76, go_sem, hc, hs0, hs1, hs2, hs3, f2, f3]) rfl ⟨by rw [HN.out], by repeat' first | exact hbw | (refine below_drewN ?_ _) | (refine Below.alloc ?_ ?_ _) | (refine Below.setCell ?_ ?_ _) | omega | (simp; done) | (simp; omega)⟩
  have HE : Hid (eqv (netOk n) ⟨0, 0⟩ = true) := Lib.hid (eqv_true g)
  have G := Lib.hid g
  obtain ⟨n0, n1, n2, n3⟩ := pieces_of_ok g
  have HP := Lib.hid n3
  clear g n3
  by_cases b2 : 60 < ss.length
  · have HN : Hid (signalsOk n ss = ⟨2, 0⟩) := Lib.hid (signalsOk_2 G.out b2)
    go_enter Tryz.func76, Tryz.ntmps76
    go_wp2_with fail
    rw [← hW0]
    clear hW0
    refine (implGood n A0 A1 c0 c1 _ hp0 hj0 hfit hu).mono ?_
    rintro e w1 ⟨rfl, hb⟩
    rw [HE.out]
    obtain ⟨hc, hf⟩ := bcell hb
    have hs2 : w.heap.size < w1.heap.size := by have := hb.size; omega
    have hs3 : w.heap.size + 1 < w1.heap.size := by have := hb.size; omega
    have hbw := hB0.trans (hb.mono hB0.size)
    go_wp2
    exact bodyPost_ret (v := .agg #[.int .i64 2, .int .i64 0]) (by simp [results, Tryz.results76, go_sem, hc, hs0, hs1, hs2, hs3, f2, f3]) rfl ⟨by rw [HN.out], by repeat' first | exact hbw | (refine below_drewN ?_ _) | (refine Below.alloc ?_ ?_ _) | (refine Below.setCell ?_ ?_ _) | omega | (simp; done) | (simp; omega)⟩
  have B2 := Lib.hid b2
  go_enter Tryz.func76, Tryz.ntmps76
  go_wp2_with fail
  rw [← hW0]
  clear hW0
  refine (implGood n A0 A1 c0 c1 _ hp0 hj0 hfit hu).mono ?_
  rintro e wq ⟨rfl, hbq⟩
  rw [HE.out]
  clear hj0
  go_upto_region 5 with (fail)
  go_wp2
  go_loopw [21] (fun i wr => ∃ k : Nat, k ≤ ss.length ∧ i = .int .i64 k ∧ Hid (∀ j, j < k → ¬ sbad3 n ss j) ∧ Below W0.heap.size W0 wr) (fun i _ => ss.length - (intOf i).toNat)
  case atStart => exact ⟨0, Nat.zero_le _, rfl, Lib.hid (fun j h => absurd h (by omega)), hbq⟩
  case round =>
    clear hbq
    obtain ⟨k, hk, rfl, HB3, hb⟩ := hrel
    obtain ⟨wo, rfl⟩ : ∃ wo : World, wo = wr := ⟨_, rfl⟩
    obtain ⟨hc, hf⟩ := bcell hb
    have hs2 : w.heap.size < wo.heap.size := by have := hb.size; omega
    have hs3 : w.heap.size + 1 < wo.heap.size := by have := hb.size; omega
    have hbw := hB0.trans (hb.mono hB0.size)
    by_cases hlt : k < ss.length
    · obtain ⟨a0, rfl, y0, y1, y2, y3, E, g0, g1, g2, g3⟩ := signalK_at (Kn.C_below hbw hs) k hlt
      have i0 : (0 : Int) ≤ (k : Int) := Int.natCast_nonneg _
      have i1 : (k : Int) < (ss.length : Int) := by omega
      have hys : y0.size ≤ 9223372036854775807 := hsf.out _ (mem_of_get E.out)
      have hbx := hbw.alloc hbw.size (Obj.cells #[.string y0, .int .i64 y1, .int .i64 y2, .int .i64 y3] 70)
      have hbo := hb.alloc hb.size (Obj.cells #[.string y0, .int .i64 y1, .int .i64 y2, .int .i64 y3] 70)
      by_cases q0 : nameP y0
      rotate_left
      · have D0 : pv (nameP y0) = false := pv_false q0
        have HN : Hid (signalsOk n ss = ⟨3, k⟩) := Lib.hid (signalsOk_3 G.out B2.out hlt ⟨_, E.out, fun (h : signalP n ⟨y0, y1, y2, y3⟩) => q0 h.1⟩ HB3.out)
        clear q0
        go_wp2
        go_quiet ((go_at_call 105; exact Calls.quiet_of_same (named_q hys D0)))
        go_wp2
        exact bodyPost_ret (v := .agg #[.int .i64 3, .int .i64 k]) (by simp [results, Tryz.results76, go_sem, hc, hs0, hs1, hs2, hs3, f2, f3]) rfl ⟨by rw [HN.out], by repeat' first | exact hbw | (refine below_drewN ?_ _) | (refine Below.alloc ?_ ?_ _) | (refine Below.setCell ?_ ?_ _) | omega | (simp; done) | (simp; omega)⟩
      have D0 : pv (nameP y0) = true := pv_true q0
      by_cases q1 : y1 < 0
      · have d1 : decide (y1 < 0) = true := decide_eq_true q1
        have HN : Hid (signalsOk n ss = ⟨3, k⟩) := Lib.hid (signalsOk_3 G.out B2.out hlt ⟨_, E.out, fun (h : signalP n ⟨y0, y1, y2, y3⟩) => by have := h.2.1.1; simp only at this; omega⟩ HB3.out)
        clear q0 q1
        go_wp2
        go_quiet ((go_at_call 105; exact Calls.quiet_of_same (named_q hys D0)))
        go_wp2
        exact bodyPost_ret (v := .agg #[.int .i64 3, .int .i64 k]) (by simp [results, Tryz.results76, go_sem, hc, hs0, hs1, hs2, hs3, f2, f3]) rfl ⟨by rw [HN.out], by repeat' first | exact hbw | (refine below_drewN ?_ _) | (refine Below.alloc ?_ ?_ _) | (refine Below.setCell ?_ ?_ _) | omega | (simp; done) | (simp; omega)⟩
      have d1 : decide (y1 < 0) = false := decide_eq_false q1
      by_cases q2 : (n.pieces.length : Int) ≤ y1
      · have d2 : decide ((n.pieces.length : Int) ≤ y1) = true := decide_eq_true q2
        have HN : Hid (signalsOk n ss = ⟨3, k⟩) := Lib.hid (signalsOk_3 G.out B2.out hlt ⟨_, E.out, fun (h : signalP n ⟨y0, y1, y2, y3⟩) => by have := h.2.1.2; simp only at this; omega⟩ HB3.out)
        clear q0 q1 q2
        go_wp2
        go_quiet ((go_at_call 105; exact Calls.quiet_of_same (named_q hys D0)))
        go_wp2
        exact bodyPost_ret (v := .agg #[.int .i64 3, .int .i64 k]) (by simp [results, Tryz.results76, go_sem, hc, hs0, hs1, hs2, hs3, f2, f3]) rfl ⟨by rw [HN.out], by repeat' first | exact hbw | (refine below_drewN ?_ _) | (refine Below.alloc ?_ ?_ _) | (refine Below.setCell ?_ ?_ _) | omega | (simp; done) | (simp; omega)⟩
      have d2 : decide ((n.pieces.length : Int) ≤ y1) = false := decide_eq_false q2
      by_cases q3 : y3 = 1 ∨ y3 = -1
      rotate_left
      · have d3 : (y3 != 1) = true := int_ne (fun h => q3 (.inl h))
        have d4 : (y3 != -1) = true := int_ne (fun h => q3 (.inr h))
        have HN : Hid (signalsOk n ss = ⟨3, k⟩) := Lib.hid (signalsOk_3 G.out B2.out hlt ⟨_, E.out, fun (h : signalP n ⟨y0, y1, y2, y3⟩) => q3 h.2.2.1⟩ HB3.out)
        clear q0 q1 q2 q3
        go_wp2
        go_quiet ((go_at_call 105; exact Calls.quiet_of_same (named_q hys D0)))
        go_wp2
        exact bodyPost_ret (v := .agg #[.int .i64 3, .int .i64 k]) (by simp [results, Tryz.results76, go_sem, hc, hs0, hs1, hs2, hs3, f2, f3]) rfl ⟨by rw [HN.out], by repeat' first | exact hbw | (refine below_drewN ?_ _) | (refine Below.alloc ?_ ?_ _) | (refine Below.setCell ?_ ?_ _) | omega | (simp; done) | (simp; omega)⟩
      obtain ⟨u, hu1, hu2⟩ : ∃ u : Nat, y1 = (u : Int) ∧ u < n.pieces.length := ⟨y1.toNat, by omega, by omega⟩
      obtain ⟨ap, rfl, z0, z1, z2, z3, EZ, p0, p1, p2, p3⟩ := pieceK_at (Kn.C_below hbx hp) u hu2
      obtain ⟨_, z1a, z1b, _⟩ := HP.out _ (mem_of_get EZ.out)
      simp only at z1a z1b
      have j0 : (0 : Int) ≤ (u : Int) := Int.natCast_nonneg _
      have j1 : (u : Int) < (n.pieces.length : Int) := by omega
      have SP : Hid (signalP n ⟨y0, y1, y2, y3⟩ ↔ (1 ≤ y2 ∧ y2 ≤ z1 - 1)) := Lib.hid ⟨fun h => by
          obtain ⟨p, h1, h2, h3⟩ := h.2.2.2
          simp only [hu1, Int.toNat_natCast] at h1
          rw [EZ.out] at h1
          obtain rfl := Option.some.inj h1
          exact ⟨h2, h3⟩, fun h => ⟨q0, ⟨by simp only; omega, by simp only; omega⟩, q3, _, by simp only [hu1, Int.toNat_natCast]; exact EZ.out, h.1, h.2⟩⟩
      have Q3 := Lib.hid q3
      clear q0 q1 q2 q3
      subst hu1
      have d2n : decide (n.pieces.length ≤ u) = false := decide_eq_false (by omega)
      by_cases q4 : y2 < 1
      · have d5 : decide (y2 < 1) = true := decide_eq_true q4
        have HN : Hid (signalsOk n ss = ⟨3, k⟩) := Lib.hid (signalsOk_3 G.out B2.out hlt ⟨_, E.out, fun h => by have := SP.out.1 h; omega⟩ HB3.out)
        clear q4
        rcases Q3.out with q2 | q2
        · have d3 : (y3 != 1) = false := by rw [q2]; rfl
          clear q2
          go_wp2
          go_quiet ((go_at_call 105; exact Calls.quiet_of_same (named_q hys D0)))
          go_wp2
          exact bodyPost_ret (v := .agg #[.int .i64 3, .int .i64 k]) (by simp [results, Tryz.results76, go_sem, hc, hs0, hs1, hs2, hs3, f2, f3]) rfl ⟨by rw [HN.out], by repeat' first | exact hbw | (refine below_drewN ?_ _) | (refine Below.alloc ?_ ?_ _) | (refine Below.setCell ?_ ?_ _) | omega | (simp; done) | (simp; omega)⟩
        · have d3 : (y3 != 1) = true := by rw [q2]; rfl
          have d4 : (y3 != -1) = false := by rw [q2]; rfl
          clear q2
          go_wp2
          go_quiet ((go_at_call 105; exact Calls.quiet_of_same (named_q hys D0)))
          go_wp2
          exact bodyPost_ret (v := .agg #[.int .i64 3, .int .i64 k]) (by simp [results, Tryz.results76, go_sem, hc, hs0, hs1, hs2, hs3, f2, f3]) rfl ⟨by rw [HN.out], by repeat' first | exact hbw | (refine below_drewN ?_ _) | (refine Below.alloc ?_ ?_ _) | (refine Below.setCell ?_ ?_ _) | omega | (simp; done) | (simp; omega)⟩
      have d5 : decide (y2 < 1) = false := decide_eq_false q4
      by_cases q5 : z1 - 1 < y2
      · have d6 : decide (z1 - 1 < y2) = true := decide_eq_true q5
        have HN : Hid (signalsOk n ss = ⟨3, k⟩) := Lib.hid (signalsOk_3 G.out B2.out hlt ⟨_, E.out, fun h => by have := SP.out.1 h; omega⟩ HB3.out)
        clear q4 q5
        rcases Q3.out with q2 | q2
        · have d3 : (y3 != 1) = false := by rw [q2]; rfl
          clear q2
          go_wp2
          go_quiet ((go_at_call 105; exact Calls.quiet_of_same (named_q hys D0)))
          go_wp2
          exact bodyPost_ret (v := .agg #[.int .i64 3, .int .i64 k]) (by simp [results, Tryz.results76, go_sem, hc, hs0, hs1, hs2, hs3, f2, f3]) rfl ⟨by rw [HN.out], by repeat' first | exact hbw | (refine below_drewN ?_ _) | (refine Below.alloc ?_ ?_ _) | (refine Below.setCell ?_ ?_ _) | omega | (simp; done) | (simp; omega)⟩
        · have d3 : (y3 != 1) = true := by rw [q2]; rfl
          have d4 : (y3 != -1) = false := by rw [q2]; rfl
          clear q2
          go_wp2
          go_quiet ((go_at_call 105; exact Calls.quiet_of_same (named_q hys D0)))
          go_wp2
          exact bodyPost_ret (v := .agg #[.int .i64 3, .int .i64 k]) (by simp [results, Tryz.results76, go_sem, hc, hs0, hs1, hs2, hs3, f2, f3]) rfl ⟨by rw [HN.out], by repeat' first | exact hbw | (refine below_drewN ?_ _) | (refine Below.alloc ?_ ?_ _) | (refine Below.setCell ?_ ?_ _) | omega | (simp; done) | (simp; omega)⟩
      have d6 : decide (z1 - 1 < y2) = false := decide_eq_false q5
      have HN := Lib.hid (none_snoc HB3.out (fun ⟨s, h1, h2⟩ => by
        rw [E.out] at h1
        obtain rfl := Option.some.inj h1
        exact h2 (SP.out.2 ⟨by omega, by omega⟩)))
      clear q4 q5
      rcases Q3.out with q2 | q2
      · have d3 : (y3 != 1) = false := by rw [q2]; rfl
        clear q2
        go_wp2
        go_quiet ((go_at_call 105; exact Calls.quiet_of_same (named_q hys D0)))
        go_wp2
        go_roundw
        case rel => exact ⟨k + 1, by omega, by go_num, HN, below_drewN hbo _⟩
        case measure => simp [intOf]; omega
      · have d3 : (y3 != 1) = true := by rw [q2]; rfl
        have d4 : (y3 != -1) = false := by rw [q2]; rfl
        clear q2
        go_wp2
        go_quiet ((go_at_call 105; exact Calls.quiet_of_same (named_q hys D0)))
        go_wp2
        go_roundw
        case rel => exact ⟨k + 1, by omega, by go_num, HN, below_drewN hbo _⟩
        case measure => simp [intOf]; omega
    · have hge : ss.length ≤ k := by omega
      have HB3' : Hid (∀ j, j < ss.length → ¬ sbad3 n ss j) := Lib.hid (fun j h => HB3.out j (by omega))
      clear HB3 hc hf hs2 hs3 hbw
      go_wp2
      go_loopw [76] (fun i wr => ∃ k : Nat, k ≤ ss.length ∧ i = .int .i64 k ∧ Hid (∀ j, j < k → ¬ sbad4 ss j) ∧ Below W0.heap.size W0 wr) (fun i _ => ss.length - (intOf i).toNat)
      case atStart => exact ⟨0, Nat.zero_le _, rfl, Lib.hid (fun j h => absurd h (by omega)), hb⟩
      case round =>
        clear hk hge hb hlt
        obtain ⟨k, hk, rfl, HB4, hb⟩ := hrel
        obtain ⟨wp, rfl⟩ : ∃ wp : World, wp = wr := ⟨_, rfl⟩
        obtain ⟨hc, hf⟩ := bcell hb
        have hs2 : w.heap.size < wp.heap.size := by have := hb.size; omega
        have hs3 : w.heap.size + 1 < wp.heap.size := by have := hb.size; omega
        have hbw := hB0.trans (hb.mono hB0.size)
        by_cases hlt : k < ss.length
        · obtain ⟨a0, rfl, y0, y1, y2, y3, E, g0, g1, g2, g3⟩ := signalK_at (Kn.C_below hbw hs) k hlt
          have i0 : (0 : Int) ≤ (k : Int) := Int.natCast_nonneg _
          have i1 : (k : Int) < (ss.length : Int) := by omega
          have i2 : (k : Int) ≤ (c2 : Int) := by omega
          go_wp2
          obtain ⟨W1, hW1, hB1, hs4, e0, e1, e2, e3⟩ : ∃ W1, W1 = wp.alloc (.cells #[.string y0, .int .i64 y1, .int .i64 y2, .int .i64 y3] 70) ∧ Below wp.heap.size wp W1 ∧ wp.heap.size < W1.heap.size ∧
            W1.cell? ⟨wp.heap.size, 0, none⟩ = some (.string y0) ∧ W1.cell? ⟨wp.heap.size, 1, none⟩ = some (.int .i64 y1) ∧ W1.cell? ⟨wp.heap.size, 2, none⟩ = some (.int .i64 y2) ∧ W1.cell? ⟨wp.heap.size, 3, none⟩ = some (.int .i64 y3) := ⟨_, rfl, below_alloc _ _, by simp, by simp, by simp, by simp, by simp⟩
          rw [← hW1]
          clear hW1
          have hb1 := hb.trans (hB1.mono hb.size)
          go_loopw [85] (fun i wr => ∃ m : Nat, m ≤ k ∧ i = .int .i64 m ∧ Hid (¬ before ss k m) ∧ Below W1.heap.size W1 wr) (fun i _ => k - (intOf i).toNat)
          case atStart => exact ⟨0, Nat.zero_le _, rfl, Lib.hid before_zero, Below.refl _ _⟩
          case round =>
            obtain ⟨m, hm, rfl, HM, hbi⟩ := hrel
            have hbj := hb1.trans (hbi.mono hb1.size)
            have hbw2 := hB0.trans (hbj.mono hB0.size)
            obtain ⟨hcj, hfj⟩ := bcell hbj
            have hs7 : w.heap.size < wr.heap.size := by have := hbj.size; omega
            have hs8 : w.heap.size + 1 < wr.heap.size := by have := hbj.size; omega
            have x0 := cell_below hbi e0
            have x1 := cell_below hbi e1
            have x2 := cell_below hbi e2
            have x3 := cell_below hbi e3
            have hsx : wp.heap.size < wr.heap.size := by have := hbi.size; omega
            by_cases hlm : m < k
            · obtain ⟨ad, he, z0, z1, z2, z3, E1, k0, k1, k2, k3⟩ := signalK_at (Kn.C_below hbw2 hs) m (by omega)
              obtain rfl := Option.some.inj he
              have m0 : (0 : Int) ≤ (m : Int) := Int.natCast_nonneg _
              have m1 : (m : Int) < (k : Int) := by omega
              have hbx := hbi.alloc hbi.size (Obj.cells #[.string z0, .int .i64 z1, .int .i64 z2, .int .i64 z3] 70)
              clear he
              by_cases q0 : y0 = z0
              · have d0 := str_eq q0
                have HN : Hid (signalsOk n ss = ⟨4, k⟩) := Lib.hid (signalsOk_4 G.out B2.out HB3'.out hlt ⟨m, _, _, hlm, E1.out, E.out, clash_comm (.inl q0 : clash ⟨y0, y1, y2, y3⟩ ⟨z0, z1, z2, z3⟩)⟩ HB4.out)
                clear q0
                go_wp2
                exact bodyPost_ret (v := .agg #[.int .i64 4, .int .i64 k]) (by simp [results, Tryz.results76, go_sem, hcj, hs0, hs1, hs7, hs8, f2, f3]) rfl ⟨by rw [HN.out], by repeat' first | exact hbw2 | (refine below_drewN ?_ _) | (refine Below.alloc ?_ ?_ _) | (refine Below.setCell ?_ ?_ _) | omega | (simp; done) | (simp; omega)⟩
              have d0 := str_ne q0
              by_cases q1 : y1 = z1
              rotate_left
              · have d1 := int_eqf q1
                have HN := Lib.hid (before_snoc HM.out E1.out E.out (fun h => by rcases clash_comm h with h | h; exact (q0 h).elim; exact (q1 h.1).elim))
                clear q0 q1
                go_wp2
                go_roundw
                case rel => exact ⟨m + 1, by omega, by go_num, HN, hbx⟩
                case measure => simp [intOf]; omega
              have d1 := int_eqt q1
              by_cases q2 : y2 = z2
              rotate_left
              · have d2 := int_eqf q2
                have HN := Lib.hid (before_snoc HM.out E1.out E.out (fun h => by rcases clash_comm h with h | h; exact (q0 h).elim; exact (q2 h.2.1).elim))
                clear q0 q1 q2
                go_wp2
                go_roundw
                case rel => exact ⟨m + 1, by omega, by go_num, HN, hbx⟩
                case measure => simp [intOf]; omega
              have d2 := int_eqt q2
              by_cases q3 : y3 = z3
              rotate_left
              · have d3 := int_eqf q3
                have HN := Lib.hid (before_snoc HM.out E1.out E.out (fun h => by rcases clash_comm h with h | h; exact (q0 h).elim; exact (q3 h.2.2).elim))
                clear q0 q1 q2 q3
                go_wp2
                go_roundw
                case rel => exact ⟨m + 1, by omega, by go_num, HN, hbx⟩
                case measure => simp [intOf]; omega
              have d3 := int_eqt q3
              have HN : Hid (signalsOk n ss = ⟨4, k⟩) := Lib.hid (signalsOk_4 G.out B2.out HB3'.out hlt ⟨m, _, _, hlm, E1.out, E.out, clash_comm (.inr ⟨q1, q2, q3⟩ : clash ⟨y0, y1, y2, y3⟩ ⟨z0, z1, z2, z3⟩)⟩ HB4.out)
              clear q0 q1 q2 q3
              go_wp2
              exact bodyPost_ret (v := .agg #[.int .i64 4, .int .i64 k]) (by simp [results, Tryz.results76, go_sem, hcj, hs0, hs1, hs7, hs8, f2, f3]) rfl ⟨by rw [HN.out], by repeat' first | exact hbw2 | (refine below_drewN ?_ _) | (refine Below.alloc ?_ ?_ _) | (refine Below.setCell ?_ ?_ _) | omega | (simp; done) | (simp; omega)⟩
            · obtain rfl : m = k := by omega
              have HN := Lib.hid (none_snoc HB4.out HM.out)
              go_wp2
              go_roundw
              case rel => exact ⟨m + 1, by omega, by go_num, HN, hbj⟩
              case measure => simp [intOf]; omega
        · have HN : Hid (signalsOk n ss = ⟨0, 0⟩) := Lib.hid (signalsOk_0 G.out B2.out HB3'.out (fun j h => HB4.out j (by omega)))
          go_wp2
          exact bodyPost_ret (v := .agg #[.int .i64 0, .int .i64 0]) (by simp [results, Tryz.results76, go_sem, hc, hs0, hs1, hs2, hs3, f2, f3]) rfl ⟨by rw [HN.out], by repeat' first | exact hbw | (refine below_drewN ?_ _) | (refine Below.alloc ?_ ?_ _) | (refine Below.setCell ?_ ?_ _) | omega | (simp; done) | (simp; omega)⟩
end Go.Proofs.YtpggopdojhodaaaGreatDoor.L
namespace Go.Proofs.YtpggopdojhodaaaGreatDoor.L
open Go.RowKit
set_option linter.unusedVariables false
set_option linter.unusedSimpArgs false
theorem RetNet.opened {x : Net} {w w' : World} {e : Ending} (h : RetNet x w e w') :
    ∃ A0 c0 A1 c1, e = .returned (.agg #[.slice A0 x.pieces.length c0, .slice A1 x.joints.length c1]) ∧ Hid (pieceK.C w' (fun _ => True) A0 x.pieces) ∧ Hid ((jointK 177).C w' (fun _ => True) A1 x.joints) ∧ Below w.heap.size w w' := by
  obtain ⟨A0, c0, A1, c1, F0, F1, rfl, o0, o1, _, _, hb⟩ := h
  refine ⟨A0, c0, A1, c1, rfl, Lib.hid ?_, Lib.hid ?_, hb⟩
  · obtain ⟨A, c, he, _, hc⟩ := (Kn.slice 87 pieceK).K_of o0
    injection he with he _
    injection he with he _ _
    subst he
    exact Kn.C_mono (fun _ _ => trivial) hc
  · obtain ⟨A, c, he, _, hc⟩ := (Kn.slice 75 (jointK 177)).K_of o1
    injection he with he _
    injection he with he _ _
    subst he
    exact Kn.C_mono (fun _ _ => trivial) hc
theorem C_drew {α : Type} {d : Kn α} {w : World} {ok : Nat → Prop} {A : Option Addr} {xs : List α} (h : d.C w ok A xs) : d.C w.drew ok A xs :=
  Kn.C_move (w := w) (fun _ _ => rfl) h
theorem tot_mem {α : Type} {f : α → Nat} {xs : List α} {x : α} (h : x ∈ xs) : f x ≤ tot f xs := by
  induction xs with
  | nil => cases h
  | cons y ys ih =>
    have : tot f (y :: ys) = f y + tot f ys := by simp [tot]
    rcases List.mem_cons.1 h with rfl | h
    · omega
    · have := ih h
      omega
theorem tot_mono {α : Type} {f g : α → Nat} (hfg : ∀ x, f x ≤ g x) (xs : List α) : tot f xs ≤ tot g xs := by
  induction xs with
  | nil => exact Nat.le_refl _
  | cons y ys ih =>
    have h1 : tot f (y :: ys) = f y + tot f ys := by simp [tot]
    have h2 : tot g (y :: ys) = g y + tot g ys := by simp [tot]
    have := hfg y
    omega
theorem tot_one {α : Type} (xs : List α) : tot (fun _ => 1) xs = xs.length := by
  induction xs with
  | nil => rfl
  | cons y ys ih =>
    have h1 : tot (fun _ : α => 1) (y :: ys) = 1 + tot (fun _ => 1) ys := by simp [tot]
    rw [h1, ih, List.length_cons]
    omega
theorem usesIn_len (es : List End) (e : End) : usesIn es e ≤ es.length := by
  rw [← tot_one es]
  exact tot_mono (fun x => by split <;> omega) _
theorem uses_len (js : List Joint) (e : End) : uses js e ≤ tot Joint.n js := tot_mono (fun j => by have := usesIn_len j.ends e; unfold Joint.n; omega) _
end Go.Proofs.YtpggopdojhodaaaGreatDoor.L
namespace Go.Proofs.YtpggopdojhodaaaGreatDoor.L
open Go.RowKit
set_option linter.unusedVariables false
structure NC (eE : Nat) (w : World) (ok : Nat → Prop) (x : Net) (A0 A1 : Option Addr) : Prop where
  p : pieceK.C w ok A0 x.pieces
  j : (jointK eE).C w ok A1 x.joints
section
variable {eE : Nat} {w w1 : World} {ok ok' : Nat → Prop} {x : Net} {A0 A1 : Option Addr}
theorem NC.below (hb : Below w.heap.size w w1) (h : NC eE w ok x A0 A1) : NC eE w1 ok x A0 A1 := ⟨Kn.C_below hb h.p, Kn.C_below hb h.j⟩
theorem NC.mono (hm : ∀ b, ok b → ok' b) (h : NC eE w ok x A0 A1) : NC eE w ok' x A0 A1 := ⟨Kn.C_mono hm h.p, Kn.C_mono hm h.j⟩
theorem NC.drew (h : NC eE w ok x A0 A1) : NC eE w.drew ok x A0 A1 := ⟨C_drew h.p, C_drew h.j⟩
theorem NC.move (hm : ∀ b, ok b → w1.heap[b]? = w.heap[b]?) (h : NC eE w ok x A0 A1) : NC eE w1 ok x A0 A1 := ⟨Kn.C_move hm h.p, Kn.C_move hm h.j⟩
end
structure NetIn (x : Net) : Prop where
  n : x.n ≤ 1048576
  fit : x.fit
theorem NetIn.uses {x : Net} (h : NetIn x) : ∀ e, uses x.joints e ≤ 1048576 := fun e => by have := uses_len x.joints e; have := h.n; unfold Net.n lenS at this; omega
theorem NetIn.pieces {x : Net} (h : NetIn x) : x.pieces.length ≤ 1048576 := by have := h.n; unfold Net.n lenS at this; omega
theorem NetIn.joints {x : Net} (h : NetIn x) : x.joints.length ≤ 1048576 := by have := h.n; unfold Net.n lenS at this; omega
theorem NetIn.ends {x : Net} (h : NetIn x) : ∀ j ∈ x.joints, j.ends.length ≤ 1048576 := fun j hj => by
  have h1 := tot_mem (f := Joint.n) hj
  have : j.ends.length ≤ Joint.n j := by unfold Joint.n; omega
  have := h.n
  unfold Net.n lenS at this
  omega
structure SigIn (ss : List Signal) : Prop where
  n : lenS Signal.n ss ≤ 1048576
  fit : ∀ s ∈ ss, s.fit
theorem SigIn.len {ss : List Signal} (h : SigIn ss) : ss.length ≤ 1048576 := by have := h.n; unfold lenS at this; omega
theorem toNetC {ok : Nat → Prop} (x : Net) (A0 A1 : Option Addr) (c0 c1 : Nat) (w : World) (h : NC 183 w ok x A0 A1) (hn : NetIn x) :
    Calls Tryz.prog 8 #[.agg #[.slice A0 x.pieces.length c0, .slice A1 x.joints.length c1]] w (RetNet x w) := toNet x A0 A1 c0 c1 w h.p h.j hn.pieces hn.joints (Lib.hid hn.ends)
theorem eqNetC {ok ok' : Nat → Prop} (x y : Net) (A0 A1 : Option Addr) (c0 c1 : Nat) (B0 B1 : Option Addr) (d0 d1 : Nat) (w : World) (h : NC 177 w ok x A0 A1) (h' : NC 177 w ok' y B0 B1) :
    Calls Tryz.prog 12 #[.agg #[.slice A0 x.pieces.length c0, .slice A1 x.joints.length c1], .agg #[.slice B0 y.pieces.length d0, .slice B1 y.joints.length d1]] w (RetB (eqv x y) w) := eqNet x y A0 A1 B0 B1 c0 c1 d0 d1 w h.p h.j h'.p h'.j
theorem specSignalsOkC {ok ok' : Nat → Prop} (n : Net) (ss : List Signal) (A0 A1 A2 : Option Addr) (c0 c1 c2 : Nat) (w : World) (h : NC 177 w ok n A0 A1) (hs : signalK.C w ok' A2 ss) (hn : NetIn n) (hi : SigIn ss) :
    Calls Tryz.prog 65 #[.agg #[.slice A0 n.pieces.length c0, .slice A1 n.joints.length c1], .slice A2 ss.length c2] w (RetV (signalsOk n ss).v w) := specSignalsOk n ss A0 A1 A2 c0 c1 c2 w h.p h.j hs (Lib.hid hn.fit) (Lib.hid hn.uses) (Lib.hid hi.fit)
theorem implSignalsOkC {ok ok' : Nat → Prop} (n : Net) (ss : List Signal) (A0 A1 A2 : Option Addr) (c0 c1 c2 : Nat) (w : World) (h : NC 177 w ok n A0 A1) (hs : signalK.C w ok' A2 ss) (hc : ss.length ≤ c2) (hn : NetIn n) (hi : SigIn ss) :
    Calls Tryz.prog 76 #[.agg #[.slice A0 n.pieces.length c0, .slice A1 n.joints.length c1], .slice A2 ss.length c2] w (RetV (signalsOk n ss).v w) := implSignalsOk n ss A0 A1 A2 c0 c1 c2 w h.p h.j hs hc (Lib.hid hn.fit) (Lib.hid hn.uses) (Lib.hid hi.fit)
theorem RetNet.opC {x : Net} {w w' : World} {e : Ending} (h : RetNet x w e w') :
    ∃ A0 A1 c0 c1, e = .returned (.agg #[.slice A0 x.pieces.length c0, .slice A1 x.joints.length c1]) ∧ Hid (NC 177 w' (fun _ => True) x A0 A1) ∧ Below w.heap.size w w' := by
  obtain ⟨A0, c0, A1, c1, e, h0, h1, hb⟩ := RetNet.opened h
  exact ⟨A0, A1, c0, c1, e, Lib.hid ⟨h0.out, h1.out⟩, hb⟩
theorem RetS.opC {α : Type} {e : Nat} {d : Kn α} {xs : List α} {w w' : World} {en : Ending} (h : RetS e d xs w en w') :
    ∃ A c, en = .returned (.slice A xs.length c) ∧ xs.length ≤ c ∧ Hid (d.C w' (fun _ => True) A xs) ∧ Below w.heap.size w w' := by
  obtain ⟨A, c, F, rfl, o, hf, hb⟩ := h
  obtain ⟨A', c', he, hl, hc⟩ := (Kn.slice e d).K_of o
  injection he with he _
  injection he with he _ hcc
  subst he
  subst hcc
  exact ⟨A, c, rfl, hl, Lib.hid (Kn.C_mono (fun _ _ => trivial) hc), hb⟩
end Go.Proofs.YtpggopdojhodaaaGreatDoor.L
