/- The reference's SignalsOk, walked. -/
import Derived.Test.YtginpmhjpjcahaaSig
import Derived.RegionTactic
import Derived.BigRegion
namespace Go.Proofs.Ytginpmhjpjcahaa.L
open Go.RowKit
set_option linter.unusedVariables false
set_option linter.unusedSimpArgs false
set_option maxRecDepth 100000 in
set_option maxHeartbeats 8000000 in
theorem specSignalsOk {ok ok' : Nat → Prop} (n : Net) (ss : List Signal) (A0 A1 A2 : Option Addr) (c0 c1 c2 : Nat) (w : World) (hp : pieceK.C w ok A0 n.pieces) (hj : (jointK 118).C w ok A1 n.joints) (hs : signalK.C w ok' A2 ss) (hfit : Hid n.fit) (hu : Hid (∀ e, uses n.joints e ≤ 1048576)) (hsf : Hid (∀ s ∈ ss, s.fit)) :
    Calls Try.prog 40 #[.agg #[.slice A0 n.pieces.length c0, .slice A1 n.joints.length c1], .slice A2 ss.length c2] w (RetV (signalsOk n ss).v w) := by
  have hm2 := hs.1
  obtain ⟨W0, hW0, hB0, f0, f1, f2, f3, f4, f5, hs0, hs1⟩ : ∃ W0, W0 = (w.alloc (.cells #[.slice A0 n.pieces.length c0, .slice A1 n.joints.length c1] 34)).alloc (.cells #[.int .i64 0, .int .i64 0] 29) ∧ Below w.heap.size w W0 ∧
      W0.cell? ⟨w.heap.size, 0, none⟩ = some (.slice A0 n.pieces.length c0) ∧ W0.cell? ⟨w.heap.size, 1, none⟩ = some (.slice A1 n.joints.length c1) ∧ W0.cell? ⟨w.heap.size + 1, 0, none⟩ = some (.int .i64 0) ∧ W0.cell? ⟨w.heap.size + 1, 1, none⟩ = some (.int .i64 0) ∧
      W0.frozen? ⟨w.heap.size + 1, 0, none⟩ = false ∧ W0.frozen? ⟨w.heap.size + 1, 1, none⟩ = false ∧ w.heap.size < W0.heap.size ∧ w.heap.size + 1 < W0.heap.size := ⟨_, rfl, (below_alloc _ _).alloc (by simp) _, by simp, by simp, by simp, by simp, by simp, by simp, by simp; omega, by simp⟩
  have hp0 := Kn.C_below hB0 hp
  have hj0 := Kn.C_below hB0 hj
  by_cases g : netOk n = ⟨0, 0⟩
  rotate_left
  · have HE : Hid (eqv (netOk n) ⟨0, 0⟩ = false) := Lib.hid (eqv_false g)
    have HN : Hid (signalsOk n ss = ⟨1, 0⟩) := Lib.hid (signalsOk_1 g)
    clear g
    go_enter Try.func40, Try.ntmps40
    go_wp2_with fail
    rw [← hW0]
    clear hW0
    refine (l1ok n A0 A1 c0 c1 _ hp0 hj0 hfit hu).mono ?_
    rintro e w1 ⟨rfl, hb⟩
    rw [HE.out]
    obtain ⟨hc, hf⟩ := bcell hb
    have hs2 : w.heap.size < w1.heap.size := by have := hb.size; omega
    have hs3 : w.heap.size + 1 < w1.heap.size := by have := hb.size; omega
    have hbw := hB0.trans (hb.mono hB0.size)
    go_wp2
    exact bodyPost_ret (v := .agg #[.int .i64 1, .int .i64 0]) (by simp [results, Try.results40, go_sem, hc, hs0, hs1, hs2, hs3, f2, f3]) rfl ⟨by rw [HN.out], by repeat' first | exact hbw | (refine below_drewN ?_ _) | (refine Below.alloc ?_ ?_ _) | (refine Below.setCell ?_ ?_ _) | omega | (simp; done) | (simp; omega)⟩
  have HE : Hid (eqv (netOk n) ⟨0, 0⟩ = true) := Lib.hid (eqv_true g)
  have G := Lib.hid g
  obtain ⟨n0, n1, n2, n3⟩ := pieces_of_ok g
  have HP := Lib.hid n3
  clear g n3
  by_cases b2 : 60 < ss.length
  · have HN : Hid (signalsOk n ss = ⟨2, 0⟩) := Lib.hid (signalsOk_2 G.out b2)
    go_enter Try.func40, Try.ntmps40
    go_wp2_with fail
    rw [← hW0]
    clear hW0
    refine (l1ok n A0 A1 c0 c1 _ hp0 hj0 hfit hu).mono ?_
    rintro e w1 ⟨rfl, hb⟩
    rw [HE.out]
    obtain ⟨hc, hf⟩ := bcell hb
    have hs2 : w.heap.size < w1.heap.size := by have := hb.size; omega
    have hs3 : w.heap.size + 1 < w1.heap.size := by have := hb.size; omega
    have hbw := hB0.trans (hb.mono hB0.size)
    go_wp2
    exact bodyPost_ret (v := .agg #[.int .i64 2, .int .i64 0]) (by simp [results, Try.results40, go_sem, hc, hs0, hs1, hs2, hs3, f2, f3]) rfl ⟨by rw [HN.out], by repeat' first | exact hbw | (refine below_drewN ?_ _) | (refine Below.alloc ?_ ?_ _) | (refine Below.setCell ?_ ?_ _) | omega | (simp; done) | (simp; omega)⟩
  have B2 := Lib.hid b2
  go_enter Try.func40, Try.ntmps40
  go_wp2_with fail
  rw [← hW0]
  clear hW0
  refine (l1ok n A0 A1 c0 c1 _ hp0 hj0 hfit hu).mono ?_
  rintro e wq ⟨rfl, hbq⟩
  rw [HE.out]
  clear hj0
  go_upto_region 5 with (fail)
  go_wp2
  go_loopw [18] (fun i wr => ∃ k : Nat, k ≤ ss.length ∧ i = .int .i64 k ∧ Hid (∀ j, j < k → ¬ sbad3 n ss j) ∧ Below W0.heap.size W0 wr) (fun i _ => ss.length - (intOf i).toNat)
  case atStart => exact ⟨0, Nat.zero_le _, rfl, Lib.hid (fun j h => absurd h (by omega)), hbq⟩
  case round =>
    clear hbq
    obtain ⟨k, hk, rfl, HB3, hb⟩ := hrel
    obtain ⟨hc, hf⟩ := bcell hb
    have hs2 : w.heap.size < wr.heap.size := by have := hb.size; omega
    have hs3 : w.heap.size + 1 < wr.heap.size := by have := hb.size; omega
    have hbw := hB0.trans (hb.mono hB0.size)
    obtain ⟨wo, rfl⟩ : ∃ wo : World, wo = wr := ⟨_, rfl⟩
    by_cases hlt : k < ss.length
    · obtain ⟨a0, rfl, y0, y1, y2, y3, E, g0, g1, g2, g3⟩ := signalK_at (Kn.C_below hbw hs) k hlt
      have i0 : (0 : Int) ≤ (k : Int) := Int.natCast_nonneg _
      have i1 : (k : Int) < (ss.length : Int) := by omega
      have hys : y0.size ≤ 9223372036854775807 := hsf.out _ (mem_of_get E.out)
      have hbx := hbw.alloc hbw.size (Obj.cells #[.string y0, .int .i64 y1, .int .i64 y2, .int .i64 y3] 101)
      by_cases q0 : nameP y0
      rotate_left
      · have D0 : Hid (pv (nameP y0) = false) := Lib.hid (pv_false q0)
        have HN : Hid (signalsOk n ss = ⟨3, k⟩) := Lib.hid (signalsOk_3 G.out B2.out hlt ⟨_, E.out, fun (h : signalP n ⟨y0, y1, y2, y3⟩) => q0 h.1⟩ HB3.out)
        clear q0
        go_wp2_with fail
        refine (l1name _ _ hys).mono ?_
        rintro e w1 ⟨rfl, rfl⟩
        rw [D0.out]
        go_wp2
        exact bodyPost_ret (v := .agg #[.int .i64 3, .int .i64 k]) (by simp [results, Try.results40, go_sem, hc, hs0, hs1, hs2, hs3, f2, f3]) rfl ⟨by rw [HN.out], by repeat' first | exact hbw | (refine below_drewN ?_ _) | (refine Below.alloc ?_ ?_ _) | (refine Below.setCell ?_ ?_ _) | omega | (simp; done) | (simp; omega)⟩
      have D0 : Hid (pv (nameP y0) = true) := Lib.hid (pv_true q0)
      by_cases q1 : 0 ≤ y1 ∧ y1 ≤ (n.pieces.length : Int) - 1
      rotate_left
      · have D1 : Hid (decide (0 ≤ y1 ∧ y1 ≤ (n.pieces.length : Int) - 1) = false) := Lib.hid (decide_eq_false q1)
        have HN : Hid (signalsOk n ss = ⟨3, k⟩) := Lib.hid (signalsOk_3 G.out B2.out hlt ⟨_, E.out, fun (h : signalP n ⟨y0, y1, y2, y3⟩) => q1 h.2.1⟩ HB3.out)
        clear q0 q1
        go_wp2_with fail
        refine (l1name _ _ hys).mono ?_
        rintro e w1 ⟨rfl, rfl⟩
        rw [D0.out]
        go_wp2_with fail
        refine (l1in _ _ _ _).mono ?_
        rintro e w1 ⟨rfl, rfl⟩
        rw [D1.out]
        go_wp2
        exact bodyPost_ret (v := .agg #[.int .i64 3, .int .i64 k]) (by simp [results, Try.results40, go_sem, hc, hs0, hs1, hs2, hs3, f2, f3]) rfl ⟨by rw [HN.out], by repeat' first | exact hbw | (refine below_drewN ?_ _) | (refine Below.alloc ?_ ?_ _) | (refine Below.setCell ?_ ?_ _) | omega | (simp; done) | (simp; omega)⟩
      have D1 : Hid (decide (0 ≤ y1 ∧ y1 ≤ (n.pieces.length : Int) - 1) = true) := Lib.hid (decide_eq_true q1)
      by_cases q2 : y3 = 1 ∨ y3 = -1
      rotate_left
      · have d2 : (y3 != 1) = true := int_ne (fun h => q2 (.inl h))
        have d3 : (y3 != -1) = true := int_ne (fun h => q2 (.inr h))
        have HN : Hid (signalsOk n ss = ⟨3, k⟩) := Lib.hid (signalsOk_3 G.out B2.out hlt ⟨_, E.out, fun (h : signalP n ⟨y0, y1, y2, y3⟩) => q2 h.2.2.1⟩ HB3.out)
        clear q0 q1 q2
        go_wp2_with fail
        refine (l1name _ _ hys).mono ?_
        rintro e w1 ⟨rfl, rfl⟩
        rw [D0.out]
        go_wp2_with fail
        refine (l1in _ _ _ _).mono ?_
        rintro e w1 ⟨rfl, rfl⟩
        rw [D1.out]
        go_wp2
        exact bodyPost_ret (v := .agg #[.int .i64 3, .int .i64 k]) (by simp [results, Try.results40, go_sem, hc, hs0, hs1, hs2, hs3, f2, f3]) rfl ⟨by rw [HN.out], by repeat' first | exact hbw | (refine below_drewN ?_ _) | (refine Below.alloc ?_ ?_ _) | (refine Below.setCell ?_ ?_ _) | omega | (simp; done) | (simp; omega)⟩
      obtain ⟨u, hu1, hu2⟩ : ∃ u : Nat, y1 = (u : Int) ∧ u < n.pieces.length := ⟨y1.toNat, by omega, by omega⟩
      obtain ⟨ap, rfl, z0, z1, z2, z3, EZ, p0, p1, p2, p3⟩ := pieceK_at (Kn.C_below hbx hp) u hu2
      obtain ⟨_, z1a, z1b, _⟩ := HP.out _ (mem_of_get EZ.out)
      simp only at z1a z1b
      have j0 : (0 : Int) ≤ (u : Int) := Int.natCast_nonneg _
      have j1 : (u : Int) < (n.pieces.length : Int) := by omega
      have SP : Hid (signalP n ⟨y0, y1, y2, y3⟩ ↔ (1 ≤ y2 ∧ y2 ≤ z1 - 1)) := Lib.hid ⟨fun h => by
          obtain ⟨p, h1, h2, h3⟩ := h.2.2.2
          simp only [hu1, Int.toNat_natCast] at h1
          rw [EZ.out] at h1
          obtain rfl := Option.some.inj h1
          exact ⟨h2, h3⟩, fun h => ⟨q0, q1, q2, _, by simp only [hu1, Int.toNat_natCast]; exact EZ.out, h.1, h.2⟩⟩
      have Q2 := Lib.hid q2
      clear q0 q1 q2
      subst hu1
      by_cases q4 : 1 ≤ y2 ∧ y2 ≤ z1 - 1
      rotate_left
      · have D4 : Hid (decide (1 ≤ y2 ∧ y2 ≤ z1 - 1) = false) := Lib.hid (decide_eq_false q4)
        have HN : Hid (signalsOk n ss = ⟨3, k⟩) := Lib.hid (signalsOk_3 G.out B2.out hlt ⟨_, E.out, fun h => q4 (SP.out.1 h)⟩ HB3.out)
        clear q4
        rcases Q2.out with q2 | q2
        · have d2 : (y3 != 1) = false := by rw [q2]; rfl
          clear q2
          go_wp2_with fail
          refine (l1name _ _ hys).mono ?_
          rintro e w1 ⟨rfl, rfl⟩
          rw [D0.out]
          go_wp2_with fail
          refine (l1in _ _ _ _).mono ?_
          rintro e w1 ⟨rfl, rfl⟩
          rw [D1.out]
          go_upto_region 10 with (fail)
          go_quiet ((go_at_call 64; exact Calls.quiet_of_same (l1in_q D4.out)))
          go_wp2
          exact bodyPost_ret (v := .agg #[.int .i64 3, .int .i64 k]) (by simp [results, Try.results40, go_sem, hc, hs0, hs1, hs2, hs3, f2, f3]) rfl ⟨by rw [HN.out], by repeat' first | exact hbw | (refine below_drewN ?_ _) | (refine Below.alloc ?_ ?_ _) | (refine Below.setCell ?_ ?_ _) | omega | (simp; done) | (simp; omega)⟩
        · have d2 : (y3 != 1) = true := by rw [q2]; rfl
          have d3 : (y3 != -1) = false := by rw [q2]; rfl
          clear q2
          go_wp2_with fail
          refine (l1name _ _ hys).mono ?_
          rintro e w1 ⟨rfl, rfl⟩
          rw [D0.out]
          go_wp2_with fail
          refine (l1in _ _ _ _).mono ?_
          rintro e w1 ⟨rfl, rfl⟩
          rw [D1.out]
          go_upto_region 10 with (fail)
          go_quiet ((go_at_call 64; exact Calls.quiet_of_same (l1in_q D4.out)))
          go_wp2
          exact bodyPost_ret (v := .agg #[.int .i64 3, .int .i64 k]) (by simp [results, Try.results40, go_sem, hc, hs0, hs1, hs2, hs3, f2, f3]) rfl ⟨by rw [HN.out], by repeat' first | exact hbw | (refine below_drewN ?_ _) | (refine Below.alloc ?_ ?_ _) | (refine Below.setCell ?_ ?_ _) | omega | (simp; done) | (simp; omega)⟩
      have D4 : Hid (decide (1 ≤ y2 ∧ y2 ≤ z1 - 1) = true) := Lib.hid (decide_eq_true q4)
      have HN := Lib.hid (none_snoc HB3.out (fun ⟨s, h1, h2⟩ => by
        rw [E.out] at h1
        obtain rfl := Option.some.inj h1
        exact h2 (SP.out.2 q4)))
      clear q4
      rcases Q2.out with q2 | q2
      · have d2 : (y3 != 1) = false := by rw [q2]; rfl
        clear q2
        go_wp2_with fail
        refine (l1name _ _ hys).mono ?_
        rintro e w1 ⟨rfl, rfl⟩
        rw [D0.out]
        go_wp2_with fail
        refine (l1in _ _ _ _).mono ?_
        rintro e w1 ⟨rfl, rfl⟩
        rw [D1.out]
        go_upto_region 10 with (fail)
        go_quiet ((go_at_call 64; exact Calls.quiet_of_same (l1in_q D4.out)))
        go_wp2
        go_roundw
        case rel => exact ⟨k + 1, by omega, by go_num, HN, below_drewN (hb.alloc hb.size _) _⟩
        case measure => simp [intOf]; omega
      · have d2 : (y3 != 1) = true := by rw [q2]; rfl
        have d3 : (y3 != -1) = false := by rw [q2]; rfl
        clear q2
        go_wp2_with fail
        refine (l1name _ _ hys).mono ?_
        rintro e w1 ⟨rfl, rfl⟩
        rw [D0.out]
        go_wp2_with fail
        refine (l1in _ _ _ _).mono ?_
        rintro e w1 ⟨rfl, rfl⟩
        rw [D1.out]
        go_upto_region 10 with (fail)
        go_quiet ((go_at_call 64; exact Calls.quiet_of_same (l1in_q D4.out)))
        go_wp2
        go_roundw
        case rel => exact ⟨k + 1, by omega, by go_num, HN, below_drewN (hb.alloc hb.size _) _⟩
        case measure => simp [intOf]; omega
    · have hge : ss.length ≤ k := by omega
      have HB3' : Hid (∀ j, j < ss.length → ¬ sbad3 n ss j) := Lib.hid (fun j h => HB3.out j (by omega))
      clear HB3 hc hf hs2 hs3 hbw
      go_wp2
      go_loopw [66] (fun i wr => ∃ k : Nat, k ≤ ss.length ∧ i = .int .i64 k ∧ Hid (∀ j, j < k → ¬ sbad4 ss j) ∧ Below W0.heap.size W0 wr) (fun i _ => ss.length - (intOf i).toNat)
      case atStart => exact ⟨0, Nat.zero_le _, rfl, Lib.hid (fun j h => absurd h (by omega)), hb⟩
      case round =>
        clear hk hge hb
        obtain ⟨k, hk, rfl, HB4, hb⟩ := hrel
        obtain ⟨hc, hf⟩ := bcell hb
        have hs2 : w.heap.size < wr.heap.size := by have := hb.size; omega
        have hs3 : w.heap.size + 1 < wr.heap.size := by have := hb.size; omega
        have hbw := hB0.trans (hb.mono hB0.size)
        by_cases hlt : k < ss.length
        · have i0 : (0 : Int) ≤ (k : Int) := Int.natCast_nonneg _
          have i1 : (k : Int) < (ss.length : Int) := by omega
          by_cases q : before ss k k
          · have HE : Hid (pv (before ss k k) = true) := Lib.hid (pv_true q)
            have HN : Hid (signalsOk n ss = ⟨4, k⟩) := Lib.hid (signalsOk_4 G.out B2.out HB3'.out hlt q HB4.out)
            clear q
            go_wp2_with fail
            refine (l1before ss A2 c2 k _ (Kn.C_below hbw hs) hlt).mono ?_
            rintro e w1 ⟨rfl, hb1⟩
            rw [HE.out]
            have hbj := hb.trans (hb1.mono hb.size)
            obtain ⟨hcj, hfj⟩ := bcell hbj
            have hs7 : w.heap.size < w1.heap.size := by have := hbj.size; omega
            have hs8 : w.heap.size + 1 < w1.heap.size := by have := hbj.size; omega
            have hbw2 := hB0.trans (hbj.mono hB0.size)
            go_wp2
            exact bodyPost_ret (v := .agg #[.int .i64 4, .int .i64 k]) (by simp [results, Try.results40, go_sem, hcj, hs0, hs1, hs7, hs8, f2, f3]) rfl ⟨by rw [HN.out], by repeat' first | exact hbw2 | (refine below_drewN ?_ _) | (refine Below.alloc ?_ ?_ _) | (refine Below.setCell ?_ ?_ _) | omega | (simp; done) | (simp; omega)⟩
          · have HE : Hid (pv (before ss k k) = false) := Lib.hid (pv_false q)
            have HN := Lib.hid (none_snoc HB4.out q)
            clear q
            go_wp2_with fail
            refine (l1before ss A2 c2 k _ (Kn.C_below hbw hs) hlt).mono ?_
            rintro e w1 ⟨rfl, hb1⟩
            rw [HE.out]
            go_wp2
            go_roundw
            case rel => exact ⟨k + 1, by omega, by go_num, HN, hb.trans (hb1.mono hb.size)⟩
            case measure => simp [intOf]; omega
        · have HN : Hid (signalsOk n ss = ⟨0, 0⟩) := Lib.hid (signalsOk_0 G.out B2.out HB3'.out (fun j h => HB4.out j (by omega)))
          go_wp2
          exact bodyPost_ret (v := .agg #[.int .i64 0, .int .i64 0]) (by simp [results, Try.results40, go_sem, hc, hs0, hs1, hs2, hs3, f2, f3]) rfl ⟨by rw [HN.out], by repeat' first | exact hbw | (refine below_drewN ?_ _) | (refine Below.alloc ?_ ?_ _) | (refine Below.setCell ?_ ?_ _) | omega | (simp; done) | (simp; omega)⟩
end Go.Proofs.Ytginpmhjpjcahaa.L
