/- The reference's NetOk answers the first fault of a net. -/
import Derived.Test.YtginpmhjpjcahaaNet2
namespace Go.Proofs.Ytginpmhjpjcahaa.L
open Go.RowKit
set_option linter.unusedVariables false
set_option linter.unusedSimpArgs false
theorem none_snoc {P : Nat → Prop} {k : Nat} (h : ∀ j, j < k → ¬ P j) (hk : ¬ P k) : ∀ j, j < k + 1 → ¬ P j := fun j hj => by
  by_cases e : j = k
  · rw [e]; exact hk
  · exact h j (by omega)
theorem not_bad2 {n : Net} {k : Nat} {p : Piece} (h : n.pieces[k]? = some p) (hp : pieceP p) (hd : ¬ sameName (n.pieces.map Piece.name) k p.name) : ¬ bad2 n k := fun ⟨q, hq, hb⟩ => by
  rw [h] at hq
  obtain rfl := Option.some.inj hq
  rcases hb with hb | hb
  · exact hb hp
  · exact hd hb
theorem pnames_at {ps : List Piece} {j : Nat} {y : Piece} (h : ps[j]? = some y) : (ps.map Piece.name)[j]? = some y.name := by rw [List.getElem?_map, h]; rfl
theorem jcode_bad3 {n : Net} {k : Nat} {x : Joint} (h : n.joints[k]? = some x) : (jcode n.pieces.length n.joints k x = 3 ∧ bad3 n k) ∨ (¬ jcode n.pieces.length n.joints k x = 3 ∧ ¬ bad3 n k) := by
  by_cases hp : jointP n.pieces.length x
  · refine .inr ⟨?_, fun ⟨y, hy, hb⟩ => ?_⟩
    · by_cases hb : nameBad n.joints k x
      · rw [jcode_4 hp hb]; omega
      · rw [jcode_0 hp hb]; omega
    · rw [h] at hy
      obtain rfl := Option.some.inj hy
      exact hb hp
  · exact .inl ⟨jcode_3 hp, x, h, hp⟩
theorem jcode_bad4 {n : Net} {k : Nat} {x : Joint} (h : n.joints[k]? = some x) (h3 : ¬ bad3 n k) : (jcode n.pieces.length n.joints k x = 4 ∧ bad4 n k) ∨ (¬ jcode n.pieces.length n.joints k x = 4 ∧ ¬ bad4 n k) := by
  have hp : jointP n.pieces.length x := Classical.byContradiction fun hp => h3 ⟨x, h, hp⟩
  by_cases hb : nameBad n.joints k x
  · exact .inl ⟨jcode_4 hp hb, x, h, hb⟩
  · refine .inr ⟨by rw [jcode_0 hp hb]; omega, fun ⟨y, hy, hb'⟩ => ?_⟩
    rw [h] at hy
    obtain rfl := Option.some.inj hy
    exact hb hb'
set_option maxRecDepth 100000 in
set_option maxHeartbeats 8000000 in
theorem specNetOk {ok : Nat → Prop} (n : Net) (A0 A1 : Option Addr) (c0 c1 : Nat) (w : World) (hp : pieceK.C w ok A0 n.pieces) (hj : (jointK 118).C w ok A1 n.joints) (hfit : Hid n.fit) (hu : Hid (∀ e, uses n.joints e ≤ 1048576)) :
    Calls Try.prog 16 #[.agg #[.slice A0 n.pieces.length c0, .slice A1 n.joints.length c1]] w (RetV (netOk n).v w) := by
  have hm0 := hp.1
  have hm1 := hj.1
  by_cases b1 : n.pieces.length = 0
  · have d1 : ((n.pieces.length : Int) == 0) = true := by rw [beq_iff_eq]; omega
    have HN : Hid (netOk n = ⟨1, 0⟩) := Lib.hid (netOk_1 (.inl b1))
    clear b1
    go_enter Try.func16, Try.ntmps16
    go_wp2
    exact bodyPost_ret (v := .agg #[.int .i64 1, .int .i64 0]) (by simp [results, Try.results16, go_sem]) rfl ⟨by rw [HN.out], (below_alloc _ _).alloc (by simp) _⟩
  have d1 : ((n.pieces.length : Int) == 0) = false := by rw [beq_eq_false_iff_ne]; omega
  by_cases b2 : 100 < n.pieces.length
  · have HN : Hid (netOk n = ⟨1, 0⟩) := Lib.hid (netOk_1 (.inr (.inl b2)))
    go_enter Try.func16, Try.ntmps16
    go_wp2
    exact bodyPost_ret (v := .agg #[.int .i64 1, .int .i64 0]) (by simp [results, Try.results16, go_sem]) rfl ⟨by rw [HN.out], (below_alloc _ _).alloc (by simp) _⟩
  by_cases b3 : 120 < n.joints.length
  · have HN : Hid (netOk n = ⟨1, 0⟩) := Lib.hid (netOk_1 (.inr (.inr b3)))
    go_enter Try.func16, Try.ntmps16
    go_wp2
    exact bodyPost_ret (v := .agg #[.int .i64 1, .int .i64 0]) (by simp [results, Try.results16, go_sem]) rfl ⟨by rw [HN.out], (below_alloc _ _).alloc (by simp) _⟩
  have B1 : Hid (¬ bad1 n) := Lib.hid (fun h => by rcases h with h | h | h; exact b1 h; exact b2 h; exact b3 h)
  clear b1
  go_enter Try.func16, Try.ntmps16
  go_wp2
  obtain ⟨W0, hW0, hB0, f0, f1, f2, f3, f4, f5, hs0, hs1⟩ : ∃ W0, W0 = (w.alloc (.cells #[.slice A0 n.pieces.length c0, .slice A1 n.joints.length c1] 34)).alloc (.cells #[.int .i64 0, .int .i64 0] 29) ∧ Below w.heap.size w W0 ∧
      W0.cell? ⟨w.heap.size, 0, none⟩ = some (.slice A0 n.pieces.length c0) ∧ W0.cell? ⟨w.heap.size, 1, none⟩ = some (.slice A1 n.joints.length c1) ∧ W0.cell? ⟨w.heap.size + 1, 0, none⟩ = some (.int .i64 0) ∧ W0.cell? ⟨w.heap.size + 1, 1, none⟩ = some (.int .i64 0) ∧
      W0.frozen? ⟨w.heap.size + 1, 0, none⟩ = false ∧ W0.frozen? ⟨w.heap.size + 1, 1, none⟩ = false ∧ w.heap.size < W0.heap.size ∧ w.heap.size + 1 < W0.heap.size := ⟨_, rfl, (below_alloc _ _).alloc (by simp) _, by simp, by simp, by simp, by simp, by simp, by simp, by simp; omega, by simp⟩
  rw [← hW0]
  clear hW0
  go_loopw [30] (fun i wr => ∃ k : Nat, k ≤ n.pieces.length ∧ i = .int .i64 k ∧ Hid (∀ j, j < k → ¬ bad2 n j) ∧ Below W0.heap.size W0 wr) (fun i _ => n.pieces.length - (intOf i).toNat)
  case atStart => exact ⟨0, Nat.zero_le _, rfl, Lib.hid (fun j h => absurd h (by omega)), Below.refl _ _⟩
  case round =>
    obtain ⟨k, hk, rfl, HB2, hb⟩ := hrel
    obtain ⟨hc, hf⟩ := bcell hb
    have hs2 : w.heap.size < wr.heap.size := by have := hb.size; omega
    have hs3 : w.heap.size + 1 < wr.heap.size := by have := hb.size; omega
    have hbw := hB0.trans (hb.mono hB0.size)
    obtain ⟨wo, rfl⟩ : ∃ wo : World, wo = wr := ⟨_, rfl⟩
    by_cases hlt : k < n.pieces.length
    · obtain ⟨a0, rfl, y0, y1, y2, y3, E, g0, g1, g2, g3⟩ := pieceK_at (Kn.C_below hbw hp) k hlt
      have i0 : (0 : Int) ≤ (k : Int) := Int.natCast_nonneg _
      have i1 : (k : Int) < (n.pieces.length : Int) := by omega
      have hys : y0.size ≤ 9223372036854775807 := hfit.out.1 _ (mem_of_get E.out)
      by_cases q0 : nameP y0
      rotate_left
      · have HN : Hid (netOk n = ⟨2, k⟩) := Lib.hid (netOk_2 B1.out hlt ⟨_, E.out, .inl (fun h => q0 h.1)⟩ HB2.out)
        have D0 : Hid (pv (nameP y0) = false) := Lib.hid (pv_false q0)
        clear q0
        go_wp2_with fail
        refine (l1name _ _ hys).mono ?_
        rintro e w1 ⟨rfl, rfl⟩
        rw [D0.out]
        go_wp2
        exact bodyPost_ret (v := .agg #[.int .i64 2, .int .i64 k]) (by simp [results, Try.results16, go_sem, hc, hs0, hs1, hs2, hs3, f2, f3]) rfl ⟨by rw [HN.out], by repeat' first | exact hbw | (refine Below.alloc ?_ ?_ _) | (refine Below.setCell ?_ ?_ _) | (simp; done) | (simp; omega)⟩
      have D0 : Hid (pv (nameP y0) = true) := Lib.hid (pv_true q0)
      by_cases q1 : 1 ≤ y1 ∧ y1 ≤ 10000000
      rotate_left
      · have HN : Hid (netOk n = ⟨2, k⟩) := Lib.hid (netOk_2 B1.out hlt ⟨_, E.out, .inl (fun h => q1 ⟨h.2.1, h.2.2.1⟩)⟩ HB2.out)
        have D1 : Hid (decide (1 ≤ y1 ∧ y1 ≤ 10000000) = false) := Lib.hid (decide_eq_false q1)
        clear q1
        go_wp2_with fail
        refine (l1name _ _ hys).mono ?_
        rintro e w1 ⟨rfl, rfl⟩
        rw [D0.out]
        go_wp2_with fail
        refine (l1in _ _ _ _).mono ?_
        rintro e w1 ⟨rfl, rfl⟩
        rw [D1.out]
        go_wp2
        exact bodyPost_ret (v := .agg #[.int .i64 2, .int .i64 k]) (by simp [results, Try.results16, go_sem, hc, hs0, hs1, hs2, hs3, f2, f3]) rfl ⟨by rw [HN.out], by repeat' first | exact hbw | (refine Below.alloc ?_ ?_ _) | (refine Below.setCell ?_ ?_ _) | (simp; done) | (simp; omega)⟩
      have D1 : Hid (decide (1 ≤ y1 ∧ y1 ≤ 10000000) = true) := Lib.hid (decide_eq_true q1)
      by_cases q2 : 1 ≤ y2 ∧ y2 ≤ 10000
      rotate_left
      · have HN : Hid (netOk n = ⟨2, k⟩) := Lib.hid (netOk_2 B1.out hlt ⟨_, E.out, .inl (fun h => q2 ⟨h.2.2.2.1, h.2.2.2.2.1⟩)⟩ HB2.out)
        have D2 : Hid (decide (1 ≤ y2 ∧ y2 ≤ 10000) = false) := Lib.hid (decide_eq_false q2)
        clear q2
        go_wp2_with fail
        refine (l1name _ _ hys).mono ?_
        rintro e w1 ⟨rfl, rfl⟩
        rw [D0.out]
        go_wp2_with fail
        refine (l1in _ _ _ _).mono ?_
        rintro e w1 ⟨rfl, rfl⟩
        rw [D1.out]
        go_wp2_with fail
        refine (l1in _ _ _ _).mono ?_
        rintro e w1 ⟨rfl, rfl⟩
        rw [D2.out]
        go_wp2
        exact bodyPost_ret (v := .agg #[.int .i64 2, .int .i64 k]) (by simp [results, Try.results16, go_sem, hc, hs0, hs1, hs2, hs3, f2, f3]) rfl ⟨by rw [HN.out], by repeat' first | exact hbw | (refine Below.alloc ?_ ?_ _) | (refine Below.setCell ?_ ?_ _) | (simp; done) | (simp; omega)⟩
      have D2 : Hid (decide (1 ≤ y2 ∧ y2 ≤ 10000) = true) := Lib.hid (decide_eq_true q2)
      by_cases q3 : 1 ≤ y3 ∧ y3 ≤ 1000
      rotate_left
      · have HN : Hid (netOk n = ⟨2, k⟩) := Lib.hid (netOk_2 B1.out hlt ⟨_, E.out, .inl (fun h => q3 ⟨h.2.2.2.2.2.1, h.2.2.2.2.2.2⟩)⟩ HB2.out)
        have D3 : Hid (decide (1 ≤ y3 ∧ y3 ≤ 1000) = false) := Lib.hid (decide_eq_false q3)
        clear q3
        go_wp2_with fail
        refine (l1name _ _ hys).mono ?_
        rintro e w1 ⟨rfl, rfl⟩
        rw [D0.out]
        go_wp2_with fail
        refine (l1in _ _ _ _).mono ?_
        rintro e w1 ⟨rfl, rfl⟩
        rw [D1.out]
        go_wp2_with fail
        refine (l1in _ _ _ _).mono ?_
        rintro e w1 ⟨rfl, rfl⟩
        rw [D2.out]
        go_wp2_with fail
        refine (l1in _ _ _ _).mono ?_
        rintro e w1 ⟨rfl, rfl⟩
        rw [D3.out]
        go_wp2
        exact bodyPost_ret (v := .agg #[.int .i64 2, .int .i64 k]) (by simp [results, Try.results16, go_sem, hc, hs0, hs1, hs2, hs3, f2, f3]) rfl ⟨by rw [HN.out], by repeat' first | exact hbw | (refine Below.alloc ?_ ?_ _) | (refine Below.setCell ?_ ?_ _) | (simp; done) | (simp; omega)⟩
      have D3 : Hid (decide (1 ≤ y3 ∧ y3 ≤ 1000) = true) := Lib.hid (decide_eq_true q3)
      have HP : Hid (pieceP ⟨y0, y1, y2, y3⟩) := Lib.hid ⟨q0, q1.1, q1.2, q2.1, q2.2, q3.1, q3.2⟩
      clear q0 q1 q2 q3
      go_wp2_with fail
      refine (l1name _ _ hys).mono ?_
      rintro e w1 ⟨rfl, rfl⟩
      rw [D0.out]
      go_wp2_with fail
      refine (l1in _ _ _ _).mono ?_
      rintro e w1 ⟨rfl, rfl⟩
      rw [D1.out]
      go_wp2_with fail
      refine (l1in _ _ _ _).mono ?_
      rintro e w1 ⟨rfl, rfl⟩
      rw [D2.out]
      go_wp2_with fail
      refine (l1in _ _ _ _).mono ?_
      rintro e w1 ⟨rfl, rfl⟩
      rw [D3.out]
      go_wp2
      obtain ⟨W1, hW1, hB1, e0, hs4⟩ : ∃ W1, W1 = wo.alloc (.cells #[.string y0, .int .i64 y1, .int .i64 y2, .int .i64 y3] 103) ∧ Below wo.heap.size wo W1 ∧ W1.cell? ⟨wo.heap.size, 0, none⟩ = some (.string y0) ∧ wo.heap.size < W1.heap.size := ⟨_, rfl, below_alloc _ _, by simp, by simp⟩
      rw [← hW1]
      clear hW1
      have hb1 := hb.trans (hB1.mono hb.size)
      go_loopw [5] (fun i wr => ∃ m : Nat, m ≤ k ∧ i = .int .i64 m ∧ Hid (¬ sameName (n.pieces.map Piece.name) m y0) ∧ Below W1.heap.size W1 wr) (fun i _ => k - (intOf i).toNat)
      case atStart => exact ⟨0, Nat.zero_le _, rfl, Lib.hid same_zero, Below.refl _ _⟩
      case round =>
        obtain ⟨m, hmk, rfl, HM, hbi⟩ := hrel
        have hbj := hb1.trans (hbi.mono hb1.size)
        have hbw2 := hB0.trans (hbj.mono hB0.size)
        obtain ⟨hci, hfi⟩ := bcell hbj
        obtain ⟨hcj, hfj⟩ := bcell hbi
        have hs5 : w.heap.size < wr.heap.size := by have := hbj.size; omega
        have hs6 : w.heap.size + 1 < wr.heap.size := by have := hbj.size; omega
        by_cases hlm : m < k
        · obtain ⟨a1, ha1, z0, z1, z2, z3, E2, g4, g5, g6, g7⟩ := pieceK_at (Kn.C_below hbw2 hp) m (by omega)
          obtain rfl := Option.some.inj ha1
          have j0 : (0 : Int) ≤ (m : Int) := Int.natCast_nonneg _
          have j1 : (m : Int) < (n.pieces.length : Int) := by omega
          have j2 : (m : Int) < (k : Int) := by omega
          by_cases he : z0 = y0
          · have HN : Hid (netOk n = ⟨2, k⟩) := Lib.hid (netOk_2 B1.out hlt ⟨_, E.out, .inr ⟨m, hlm, by rw [pnames_at E2.out, he]⟩⟩ HB2.out)
            have HE := str_beq he
            clear he
            go_wp2
            go_quiet (fail)
            go_wp2
            exact bodyPost_ret (v := .agg #[.int .i64 2, .int .i64 k]) (by simp [results, Try.results16, go_sem, hci, hs0, hs1, hs5, hs6, f2, f3]) rfl ⟨by rw [HN.out], ((below_drewN hbw2 _).setCell (by simp) _).setCell (by simp) _⟩
          · have HN := Lib.hid (same_snoc HM.out (pnames_at E2.out) he)
            have HE := str_ne he
            clear he
            go_wp2
            go_quiet (fail)
            go_wp2
            go_roundw
            case rel => exact ⟨m + 1, by omega, by go_num, HN, below_drewN hbi _⟩
            case measure => simp [intOf]; omega
        · have hge : k ≤ m := by omega
          have HN := Lib.hid (none_snoc HB2.out (not_bad2 E.out HP.out (fun ⟨j, h1, h2⟩ => HM.out ⟨j, by omega, h2⟩)))
          go_wp2
          go_roundw
          case rel => exact ⟨k + 1, by omega, by go_num, HN, hbj⟩
          case measure => simp [intOf]; omega
    · have hge : n.pieces.length ≤ k := by omega
      have HB2' : Hid (∀ j, j < n.pieces.length → ¬ bad2 n j) := Lib.hid (fun j h => HB2.out j (by omega))
      clear HB2
      go_wp2
      obtain ⟨w1, hw1, hb1⟩ : ∃ w1, w1 = wo ∧ Below W0.heap.size W0 w1 := ⟨_, rfl, hb⟩
      rw [← hw1]
      clear hw1 hc hf hs2 hs3 hb hbw
      go_loopw [6] (fun i wr => ∃ c : Int, (c = 3 ∨ c = 4 ∨ c = 5) ∧ i = .int .i64 c ∧ Hid (4 ≤ c → ∀ j, j < n.joints.length → ¬ bad3 n j) ∧ Hid (5 ≤ c → ∀ j, j < n.joints.length → ¬ bad4 n j) ∧ Below W0.heap.size W0 wr) (fun i _ => (5 - intOf i).toNat)
      case atStart => exact ⟨3, .inl rfl, rfl, Lib.hid (fun h => absurd h (by omega)), Lib.hid (fun h => absurd h (by omega)), hb1⟩
      case round =>
        obtain ⟨c, hcc, rfl, H3, H4, hb⟩ := hrel
        obtain ⟨hc, hf⟩ := bcell hb
        have hs2 : w.heap.size < wr.heap.size := by have := hb.size; omega
        have hs3 : w.heap.size + 1 < wr.heap.size := by have := hb.size; omega
        have hbw := hB0.trans (hb.mono hB0.size)
        obtain ⟨wo, rfl⟩ : ∃ wo : World, wo = wr := ⟨_, rfl⟩
        rcases hcc with rfl | rfl | rfl
        · go_wp2
          go_loopw [83] (fun i wr => ∃ m : Nat, m ≤ n.joints.length ∧ i = .int .i64 m ∧ Hid (∀ j, j < m → ¬ bad3 n j) ∧ Below wo.heap.size wo wr) (fun i _ => n.joints.length - (intOf i).toNat)
          case atStart => exact ⟨0, Nat.zero_le _, rfl, Lib.hid (fun j h => absurd h (by omega)), Below.refl _ _⟩
          case round =>
            obtain ⟨m, hmk, rfl, HM, hbi⟩ := hrel
            have hbj := hb.trans (hbi.mono hb.size)
            have hbw2 := hB0.trans (hbj.mono hB0.size)
            obtain ⟨hci, hfi⟩ := bcell hbj
            have hs5 : w.heap.size < wr.heap.size := by have := hbj.size; omega
            have hs6 : w.heap.size + 1 < wr.heap.size := by have := hbj.size; omega
            by_cases hlm : m < n.joints.length
            · obtain ⟨x, hx⟩ : ∃ x, n.joints[m]? = some x := ⟨_, List.getElem?_eq_getElem hlm⟩
              have E := Lib.hid hx
              have j0 : (0 : Int) ≤ (m : Int) := Int.natCast_nonneg _
              have j1 : (m : Int) < (n.joints.length : Int) := by omega
              rcases jcode_bad3 hx with ⟨h1, h2⟩ | ⟨h1, h2⟩
              · have HN : Hid (netOk n = ⟨3, m⟩) := Lib.hid (netOk_3 B1.out HB2'.out hlm h2 HM.out)
                have HJ : Hid (jcode n.pieces.length n.joints m x = 3) := Lib.hid h1
                clear h1 h2 hx
                go_wp2_with fail
                refine (l1joint _ _ _ _ _ _ m x _ (Kn.C_below hbw2 hj) E.out hm0 (Lib.hid hfit.out.2)).mono ?_
                rintro e w2 ⟨rfl, hb2⟩
                rw [HJ.out]
                have hbk := hbj.trans (hb2.mono hbj.size)
                obtain ⟨hck, hfk⟩ := bcell hbk
                have hs7 : w.heap.size + 1 < w2.heap.size := by have := hbk.size; omega
                go_wp2
                exact bodyPost_ret (v := .agg #[.int .i64 3, .int .i64 m]) (by simp [results, Try.results16, go_sem, hck, hs0, hs1, hs7, f2, f3]) rfl ⟨by rw [HN.out], by repeat' first | exact hB0.trans (hbk.mono hB0.size) | (refine Below.alloc ?_ ?_ _) | (refine Below.setCell ?_ ?_ _) | (simp; done) | (simp; omega)⟩
              · have HN := Lib.hid (none_snoc HM.out h2)
                have HJ : (jcode n.pieces.length n.joints m x == 3) = false := by rw [beq_eq_false_iff_ne]; exact h1
                clear h1 h2 hx
                go_wp2_with fail
                refine (l1joint _ _ _ _ _ _ m x _ (Kn.C_below hbw2 hj) E.out hm0 (Lib.hid hfit.out.2)).mono ?_
                rintro e w2 ⟨rfl, hb2⟩
                go_wp2
                go_roundw
                case rel => exact ⟨m + 1, by omega, by go_num, HN, hbi.trans (hb2.mono hbi.size)⟩
                case measure => simp [intOf]; omega
            · have hge : n.joints.length ≤ m := by omega
              have HN : Hid (∀ j, j < n.joints.length → ¬ bad3 n j) := Lib.hid (fun j h => HM.out j (by omega))
              go_wp2
              go_roundw
              case rel => exact ⟨4, .inr (.inl rfl), rfl, Lib.hid (fun _ => HN.out), Lib.hid (fun h => absurd h (by omega)), hbj⟩
              case measure => simp [intOf]
        · have HB3 : Hid (∀ j, j < n.joints.length → ¬ bad3 n j) := Lib.hid (H3.out (by omega))
          go_wp2
          go_loopw [83] (fun i wr => ∃ m : Nat, m ≤ n.joints.length ∧ i = .int .i64 m ∧ Hid (∀ j, j < m → ¬ bad4 n j) ∧ Below wo.heap.size wo wr) (fun i _ => n.joints.length - (intOf i).toNat)
          case atStart => exact ⟨0, Nat.zero_le _, rfl, Lib.hid (fun j h => absurd h (by omega)), Below.refl _ _⟩
          case round =>
            obtain ⟨m, hmk, rfl, HM, hbi⟩ := hrel
            have hbj := hb.trans (hbi.mono hb.size)
            have hbw2 := hB0.trans (hbj.mono hB0.size)
            obtain ⟨hci, hfi⟩ := bcell hbj
            have hs5 : w.heap.size < wr.heap.size := by have := hbj.size; omega
            have hs6 : w.heap.size + 1 < wr.heap.size := by have := hbj.size; omega
            by_cases hlm : m < n.joints.length
            · obtain ⟨x, hx⟩ : ∃ x, n.joints[m]? = some x := ⟨_, List.getElem?_eq_getElem hlm⟩
              have E := Lib.hid hx
              have j0 : (0 : Int) ≤ (m : Int) := Int.natCast_nonneg _
              have j1 : (m : Int) < (n.joints.length : Int) := by omega
              rcases jcode_bad4 hx (HB3.out m hlm) with ⟨h1, h2⟩ | ⟨h1, h2⟩
              · have HN : Hid (netOk n = ⟨4, m⟩) := Lib.hid (netOk_4 B1.out HB2'.out HB3.out hlm h2 HM.out)
                have HJ : Hid (jcode n.pieces.length n.joints m x = 4) := Lib.hid h1
                clear h1 h2 hx
                go_wp2_with fail
                refine (l1joint _ _ _ _ _ _ m x _ (Kn.C_below hbw2 hj) E.out hm0 (Lib.hid hfit.out.2)).mono ?_
                rintro e w2 ⟨rfl, hb2⟩
                rw [HJ.out]
                have hbk := hbj.trans (hb2.mono hbj.size)
                obtain ⟨hck, hfk⟩ := bcell hbk
                have hs7 : w.heap.size + 1 < w2.heap.size := by have := hbk.size; omega
                go_wp2
                exact bodyPost_ret (v := .agg #[.int .i64 4, .int .i64 m]) (by simp [results, Try.results16, go_sem, hck, hs0, hs1, hs7, f2, f3]) rfl ⟨by rw [HN.out], by repeat' first | exact hB0.trans (hbk.mono hB0.size) | (refine Below.alloc ?_ ?_ _) | (refine Below.setCell ?_ ?_ _) | (simp; done) | (simp; omega)⟩
              · have HN := Lib.hid (none_snoc HM.out h2)
                have HJ : (jcode n.pieces.length n.joints m x == 4) = false := by rw [beq_eq_false_iff_ne]; exact h1
                clear h1 h2 hx
                go_wp2_with fail
                refine (l1joint _ _ _ _ _ _ m x _ (Kn.C_below hbw2 hj) E.out hm0 (Lib.hid hfit.out.2)).mono ?_
                rintro e w2 ⟨rfl, hb2⟩
                go_wp2
                go_roundw
                case rel => exact ⟨m + 1, by omega, by go_num, HN, hbi.trans (hb2.mono hbi.size)⟩
                case measure => simp [intOf]; omega
            · have hge : n.joints.length ≤ m := by omega
              have HN : Hid (∀ j, j < n.joints.length → ¬ bad4 n j) := Lib.hid (fun j h => HM.out j (by omega))
              go_wp2
              go_roundw
              case rel => exact ⟨5, .inr (.inr rfl), rfl, Lib.hid (fun _ => HB3.out), Lib.hid (fun _ => HN.out), hbj⟩
              case measure => simp [intOf]
        · have HB3 : Hid (∀ j, j < n.joints.length → ¬ bad3 n j) := Lib.hid (H3.out (by omega))
          have HB4 : Hid (∀ j, j < n.joints.length → ¬ bad4 n j) := Lib.hid (H4.out (by omega))
          clear H3 H4
          go_wp2
          go_loopw [98] (fun i wr => ∃ k : Nat, k ≤ n.pieces.length ∧ i = .int .i64 k ∧ Hid (∀ j, j < k → ¬ bad5 n j) ∧ Below W0.heap.size W0 wr) (fun i _ => n.pieces.length - (intOf i).toNat)
          case atStart => exact ⟨0, Nat.zero_le _, rfl, Lib.hid (fun j h => absurd h (by omega)), hb⟩
          case round =>
            clear hc hf hs2 hs3 hbw hb
            obtain ⟨k, hk, rfl, HB5, hb⟩ := hrel
            obtain ⟨hc, hf⟩ := bcell hb
            have hs2 : w.heap.size < wr.heap.size := by have := hb.size; omega
            have hs3 : w.heap.size + 1 < wr.heap.size := by have := hb.size; omega
            have hbw := hB0.trans (hb.mono hB0.size)
            obtain ⟨wo, rfl⟩ : ∃ wo : World, wo = wr := ⟨_, rfl⟩
            by_cases hlt : k < n.pieces.length
            · have i0 : (0 : Int) ≤ (k : Int) := Int.natCast_nonneg _
              have i1 : (k : Int) < (n.pieces.length : Int) := by omega
              go_wp2
              go_loopw [9] (fun i wr => ∃ c : Int, (c = 0 ∨ c = 1 ∨ c = 2) ∧ i = .int .i64 c ∧ Hid (1 ≤ c → uses n.joints ⟨k, 0⟩ = 1) ∧ Hid (2 ≤ c → uses n.joints ⟨k, 1⟩ = 1) ∧ Below W0.heap.size W0 wr) (fun i _ => (2 - intOf i).toNat)
              case atStart => exact ⟨0, .inl rfl, rfl, Lib.hid (fun h => absurd h (by omega)), Lib.hid (fun h => absurd h (by omega)), hb⟩
              case round =>
                clear hc hf hs2 hs3 hbw hb
                obtain ⟨c, hcc, rfl, U0, U1, hb⟩ := hrel
                obtain ⟨hc, hf⟩ := bcell hb
                have hs2 : w.heap.size < wr.heap.size := by have := hb.size; omega
                have hs3 : w.heap.size + 1 < wr.heap.size := by have := hb.size; omega
                have hbw := hB0.trans (hb.mono hB0.size)
                rcases hcc with rfl | rfl | rfl
                · by_cases hu0 : uses n.joints ⟨k, 0⟩ = 1
                  · have HU : ((uses n.joints ⟨k, 0⟩ : Int) != 1) = false := by rw [hu0]; rfl
                    have HN := Lib.hid hu0
                    clear hu0
                    go_wp2_with fail
                    refine (l1uses _ _ _ _ _ _ ⟨k, 0⟩ _ (Kn.C_below hbw hj) (Lib.hid (hu.out _))).mono ?_
                    rintro e w2 ⟨rfl, hb2⟩
                    go_wp2
                    go_roundw
                    case rel => exact ⟨1, .inr (.inl rfl), rfl, Lib.hid (fun _ => HN.out), Lib.hid (fun h => absurd h (by omega)), hb.trans (hb2.mono hb.size)⟩
                    case measure => simp [intOf]
                  · have HU : ((uses n.joints ⟨k, 0⟩ : Int) != 1) = true := by rw [bne_iff_ne]; omega
                    have HN : Hid (netOk n = ⟨5, k⟩) := Lib.hid (netOk_5 B1.out HB2'.out HB3.out HB4.out hlt (.inl hu0) HB5.out)
                    clear hu0
                    go_wp2_with fail
                    refine (l1uses _ _ _ _ _ _ ⟨k, 0⟩ _ (Kn.C_below hbw hj) (Lib.hid (hu.out _))).mono ?_
                    rintro e w2 ⟨rfl, hb2⟩
                    have hbk := hb.trans (hb2.mono hb.size)
                    obtain ⟨hck, hfk⟩ := bcell hbk
                    have hs7 : w.heap.size + 1 < w2.heap.size := by have := hbk.size; omega
                    go_wp2
                    exact bodyPost_ret (v := .agg #[.int .i64 5, .int .i64 k]) (by simp [results, Try.results16, go_sem, hck, hs0, hs1, hs7, f2, f3]) rfl ⟨by rw [HN.out], by repeat' first | exact hB0.trans (hbk.mono hB0.size) | (refine Below.alloc ?_ ?_ _) | (refine Below.setCell ?_ ?_ _) | (simp; done) | (simp; omega)⟩
                · by_cases hu1 : uses n.joints ⟨k, 1⟩ = 1
                  · have HU : ((uses n.joints ⟨k, 1⟩ : Int) != 1) = false := by rw [hu1]; rfl
                    have HN := Lib.hid hu1
                    clear hu1
                    go_wp2_with fail
                    refine (l1uses _ _ _ _ _ _ ⟨k, 1⟩ _ (Kn.C_below hbw hj) (Lib.hid (hu.out _))).mono ?_
                    rintro e w2 ⟨rfl, hb2⟩
                    go_wp2
                    go_roundw
                    case rel => exact ⟨2, .inr (.inr rfl), rfl, Lib.hid (fun _ => U0.out (by omega)), Lib.hid (fun _ => HN.out), hb.trans (hb2.mono hb.size)⟩
                    case measure => simp [intOf]
                  · have HU : ((uses n.joints ⟨k, 1⟩ : Int) != 1) = true := by rw [bne_iff_ne]; omega
                    have HN : Hid (netOk n = ⟨5, k⟩) := Lib.hid (netOk_5 B1.out HB2'.out HB3.out HB4.out hlt (.inr hu1) HB5.out)
                    clear hu1
                    go_wp2_with fail
                    refine (l1uses _ _ _ _ _ _ ⟨k, 1⟩ _ (Kn.C_below hbw hj) (Lib.hid (hu.out _))).mono ?_
                    rintro e w2 ⟨rfl, hb2⟩
                    have hbk := hb.trans (hb2.mono hb.size)
                    obtain ⟨hck, hfk⟩ := bcell hbk
                    have hs7 : w.heap.size + 1 < w2.heap.size := by have := hbk.size; omega
                    go_wp2
                    exact bodyPost_ret (v := .agg #[.int .i64 5, .int .i64 k]) (by simp [results, Try.results16, go_sem, hck, hs0, hs1, hs7, f2, f3]) rfl ⟨by rw [HN.out], by repeat' first | exact hB0.trans (hbk.mono hB0.size) | (refine Below.alloc ?_ ?_ _) | (refine Below.setCell ?_ ?_ _) | (simp; done) | (simp; omega)⟩
                · have HN := Lib.hid (none_snoc HB5.out (fun h => h.elim (fun h => h (U0.out (by omega))) (fun h => h (U1.out (by omega)))))
                  go_wp2
                  go_roundw
                  case rel => exact ⟨k + 1, by omega, by go_num, HN, hb⟩
                  case measure => simp [intOf]; omega
            · have hge : n.pieces.length ≤ k := by omega
              have HN : Hid (netOk n = ⟨0, 0⟩) := Lib.hid (netOk_0 B1.out HB2'.out HB3.out HB4.out (fun j h => HB5.out j (by omega)))
              go_wp2
              exact bodyPost_ret (v := .agg #[.int .i64 0, .int .i64 0]) (by simp [results, Try.results16, go_sem, hc, hs0, hs1, hs2, hs3, f2, f3]) rfl ⟨by rw [HN.out], by repeat' first | exact hbw | (refine Below.alloc ?_ ?_ _) | (refine Below.setCell ?_ ?_ _) | (simp; done) | (simp; omega)⟩
end Go.Proofs.Ytginpmhjpjcahaa.L
