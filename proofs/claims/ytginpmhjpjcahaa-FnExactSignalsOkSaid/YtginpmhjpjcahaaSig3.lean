/- The program's SignalsOk answers the first fault of a track's signals. -/
import Derived.Test.YtginpmhjpjcahaaSig
import Derived.Test.YtginpmhjpjcahaaNet5
namespace Go.Proofs.Ytginpmhjpjcahaa.L
open Go.RowKit
set_option linter.unusedVariables false
set_option linter.unusedSimpArgs false
theorem named_q {s : ByteArray} {w : World} {r : Bool} (hs : s.size ≤ 9223372036854775807) (h : pv (nameP s) = r) : Calls Try.prog 70 #[.string s] w fun e w' => e = .returned (.bool r) ∧ w' = w := by
  subst h
  exact (named s w hs).mono fun e w' ⟨h1, h2⟩ => ⟨h1, h2.symm⟩
set_option maxRecDepth 100000 in
set_option maxHeartbeats 1000000 in
theorem implGood {ok : Nat → Prop} (n : Net) (A0 A1 : Option Addr) (c0 c1 : Nat) (w : World) (hp : pieceK.C w ok A0 n.pieces) (hj : (jointK 118).C w ok A1 n.joints) (hfit : Hid n.fit) (hu : Hid (∀ e, uses n.joints e ≤ 1048576)) :
    Calls Try.prog 112 #[.agg #[.slice A0 n.pieces.length c0, .slice A1 n.joints.length c1]] w (RetB (eqv (netOk n) ⟨0, 0⟩) w) := by
  obtain ⟨f, hf⟩ : ∃ f, Hid (netOk n = f) := ⟨_, Lib.hid rfl⟩
  obtain ⟨a, b⟩ := f
  have HE : Hid (eqv (netOk n) ⟨0, 0⟩ = eqv (⟨a, b⟩ : Fault) ⟨0, 0⟩) := Lib.hid (by rw [hf.out])
  by_cases h0 : a = 0
  · have d0 : (a == 0) = true := int_eqt h0
    by_cases h1 : b = 0
    · have d1 : (b == 0) = true := int_eqt h1
      have HT : Hid (eqv (netOk n) ⟨0, 0⟩ = true) := Lib.hid (by rw [HE.out, h0, h1]; exact eqv_self _)
      clear h0 h1
      go_enter Try.func112, Try.ntmps112
      go_wp2_with fail
      refine (implNetOk n A0 A1 c0 c1 _ (Kn.C_below (below_alloc _ _) hp) (Kn.C_below (below_alloc _ _) hj) hfit hu).mono ?_
      rintro e w1 ⟨rfl, hb1⟩
      rw [hf.out]
      go_wp2
      go_ret
      exact ⟨by rw [HT.out]; rfl, (below_alloc _ _).trans (hb1.mono (by simp))⟩
    · have d1 : (b == 0) = false := int_eqf h1
      have HT : Hid (eqv (netOk n) ⟨0, 0⟩ = false) := Lib.hid (by rw [HE.out]; exact eqv_false (by intro h; injection h with _ h; exact h1 h))
      clear h0 h1
      go_enter Try.func112, Try.ntmps112
      go_wp2_with fail
      refine (implNetOk n A0 A1 c0 c1 _ (Kn.C_below (below_alloc _ _) hp) (Kn.C_below (below_alloc _ _) hj) hfit hu).mono ?_
      rintro e w1 ⟨rfl, hb1⟩
      rw [hf.out]
      go_wp2
      go_ret
      exact ⟨by rw [HT.out]; rfl, (below_alloc _ _).trans (hb1.mono (by simp))⟩
  · have d0 : (a == 0) = false := int_eqf h0
    have HT : Hid (eqv (netOk n) ⟨0, 0⟩ = false) := Lib.hid (by rw [HE.out]; exact eqv_false (by intro h; injection h with h _; exact h0 h))
    clear h0
    go_enter Try.func112, Try.ntmps112
    go_wp2_with fail
    refine (implNetOk n A0 A1 c0 c1 _ (Kn.C_below (below_alloc _ _) hp) (Kn.C_below (below_alloc _ _) hj) hfit hu).mono ?_
    rintro e w1 ⟨rfl, hb1⟩
    rw [hf.out]
    go_wp2
    go_ret
    exact ⟨by rw [HT.out]; rfl, (below_alloc _ _).trans (hb1.mono (by simp))⟩
theorem clash_comm {a b : Signal} (h : clash a b) : clash b a := by
  rcases h with h | ⟨h1, h2, h3⟩
  · exact .inl h.symm
  · exact .inr ⟨h1.symm, h2.symm, h3.symm⟩
set_option maxRecDepth 100000 in
set_option maxHeartbeats 8000000 in
theorem implSignalsOk {ok ok' : Nat → Prop} (n : Net) (ss : List Signal) (A0 A1 A2 : Option Addr) (c0 c1 c2 : Nat) (w : World) (hp : pieceK.C w ok A0 n.pieces) (hj : (jointK 118).C w ok A1 n.joints) (hs : signalK.C w ok' A2 ss) (hcap : ss.length ≤ c2) (hfit : Hid n.fit) (hu : Hid (∀ e, uses n.joints e ≤ 1048576)) (hsf : Hid (∀ s ∈ ss, s.fit)) :
    Calls Try.prog 42 #[.agg #[.slice A0 n.pieces.length c0, .slice A1 n.joints.length c1], .slice A2 ss.length c2] w (RetV (signalsOk n ss).v w) := by
  have hm2 := hs.1
  obtain ⟨W0, hW0, hB0, f0, f1, f2, f3, f4, f5, hs0, hs1⟩ : ∃ W0, W0 = (w.alloc (.cells #[.slice A0 n.pieces.length c0, .slice A1 n.joints.length c1] 34)).alloc (.cells #[.int .i64 0, .int .i64 0] 29) ∧ Below w.heap.size w W0 ∧
      W0.cell? ⟨w.heap.size, 0, none⟩ = some (.slice A0 n.pieces.length c0) ∧ W0.cell? ⟨w.heap.size, 1, none⟩ = some (.slice A1 n.joints.length c1) ∧ W0.cell? ⟨w.heap.size + 1, 0, none⟩ = some (.int .i64 0) ∧ W0.cell? ⟨w.heap.size + 1, 1, none⟩ = some (.int .i64 0) ∧
      W0.frozen? ⟨w.heap.size + 1, 0, none⟩ = false ∧ W0.frozen? ⟨w.heap.size + 1, 1, none⟩ = false ∧ w.heap.size < W0.heap.size ∧ w.heap.size + 1 < W0.heap.size := ⟨_, rfl, (below_alloc _ _).alloc (by simp) _, by simp, by simp, by simp, by simp, by simp, by simp, by simp; omega, by simp⟩
  have hp0 := Kn.C_below hB0 hp
  have hj0 := Kn.C_below hB0 hj
  by_cases g : netOk n = ⟨0, 0⟩
  rotate_left
  · have HE : Hid (eqv (netOk n) ⟨0, 0⟩ = false) := Lib.hid (eqv_false g)
    have HN : Hid (signalsOk n ss = ⟨1, 0⟩) := Lib.hid (signalsOk_1 g)
    clear g
    go_enter Try.func42, Try.ntmps42
    go_wp2_with fail
    rw [← hW0]
    clear hW0
    refine (implGood n A0 A1 c0 c1 _ hp0 hj0 hfit hu).mono ?_
    rintro e w1 ⟨rfl, hb⟩
    rw [HE.out]
    obtain ⟨hc, hf⟩ := bcell hb
    have hs2 : w.heap.size < w1.heap.size := by have := hb.size; omega
    have hs3 : w.heap.size + 1 < w1.heap.size := by have := hb.size; omega
    have hbw := hB0.trans (hb.mono hB0.size)
    go_wp2
    exact bodyPost_ret (v := .agg #[.int .i64 1, .int .i64 0]) (by simp [results, Try.results42, go_sem, hc, hs0, hs1, hs2, hs3, f2, f3]) rfl ⟨by rw [HN.out], by repeat' first | exact hbw | (refine below_drewN ?_ _) | (refine Below.alloc ?_ ?_ _) | (refine Below.setCell ?_ ?_ _) | omega | (simp; done) | (simp; omega)⟩
  have HE : Hid (eqv (netOk n) ⟨0, 0⟩ = true) := Lib.hid (eqv_true g)
  have G := Lib.hid g
  obtain ⟨n0, n1, n2, n3⟩ := pieces_of_ok g
  have HP := Lib.hid n3
  clear g n3
  by_cases b2 : 60 < ss.length
  · have HN : Hid (signalsOk n ss = ⟨2, 0⟩) := Lib.hid (signalsOk_2 G.out b2)
    go_enter Try.func42, Try.ntmps42
    go_wp2_with fail
    rw [← hW0]
    clear hW0
    refine (implGood n A0 A1 c0 c1 _ hp0 hj0 hfit hu).mono ?_
    rintro e w1 ⟨rfl, hb⟩
    rw [HE.out]
    obtain ⟨hc, hf⟩ := bcell hb
    have hs2 : w.heap.size < w1.heap.size := by have := hb.size; omega
    have hs3 : w.heap.size + 1 < w1.heap.size := by have := hb.size; omega
    have hbw := hB0.trans (hb.mono hB0.size)
    go_wp2
    exact bodyPost_ret (v := .agg #[.int .i64 2, .int .i64 0]) (by simp [results, Try.results42, go_sem, hc, hs0, hs1, hs2, hs3, f2, f3]) rfl ⟨by rw [HN.out], by repeat' first | exact hbw | (refine below_drewN ?_ _) | (refine Below.alloc ?_ ?_ _) | (refine Below.setCell ?_ ?_ _) | omega | (simp; done) | (simp; omega)⟩
  have B2 := Lib.hid b2
  go_enter Try.func42, Try.ntmps42
  go_wp2_with fail
  rw [← hW0]
  clear hW0
  refine (implGood n A0 A1 c0 c1 _ hp0 hj0 hfit hu).mono ?_
  rintro e wq ⟨rfl, hbq⟩
  rw [HE.out]
  clear hj0
  go_upto_region 5 with (fail)
  go_wp2
  go_loopw [21] (fun i wr => ∃ k : Nat, k ≤ ss.length ∧ i = .int .i64 k ∧ Hid (∀ j, j < k → ¬ sbad3 n ss j) ∧ Below W0.heap.size W0 wr) (fun i _ => ss.length - (intOf i).toNat)
  case atStart => exact ⟨0, Nat.zero_le _, rfl, Lib.hid (fun j h => absurd h (by omega)), hbq⟩
  case round =>
    clear hbq
    obtain ⟨k, hk, rfl, HB3, hb⟩ := hrel
    obtain ⟨wo, rfl⟩ : ∃ wo : World, wo = wr := ⟨_, rfl⟩
    obtain ⟨hc, hf⟩ := bcell hb
    have hs2 : w.heap.size < wo.heap.size := by have := hb.size; omega
    have hs3 : w.heap.size + 1 < wo.heap.size := by have := hb.size; omega
    have hbw := hB0.trans (hb.mono hB0.size)
    by_cases hlt : k < ss.length
    · obtain ⟨a0, rfl, y0, y1, y2, y3, E, g0, g1, g2, g3⟩ := signalK_at (Kn.C_below hbw hs) k hlt
      have i0 : (0 : Int) ≤ (k : Int) := Int.natCast_nonneg _
      have i1 : (k : Int) < (ss.length : Int) := by omega
      have hys : y0.size ≤ 9223372036854775807 := hsf.out _ (mem_of_get E.out)
      have hbx := hbw.alloc hbw.size (Obj.cells #[.string y0, .int .i64 y1, .int .i64 y2, .int .i64 y3] 101)
      have hbo := hb.alloc hb.size (Obj.cells #[.string y0, .int .i64 y1, .int .i64 y2, .int .i64 y3] 101)
      by_cases q0 : nameP y0
      rotate_left
      · have D0 : pv (nameP y0) = false := pv_false q0
        have HN : Hid (signalsOk n ss = ⟨3, k⟩) := Lib.hid (signalsOk_3 G.out B2.out hlt ⟨_, E.out, fun (h : signalP n ⟨y0, y1, y2, y3⟩) => q0 h.1⟩ HB3.out)
        clear q0
        go_wp2
        go_quiet ((go_at_call 70; exact Calls.quiet_of_same (named_q hys D0)))
        go_wp2
        exact bodyPost_ret (v := .agg #[.int .i64 3, .int .i64 k]) (by simp [results, Try.results42, go_sem, hc, hs0, hs1, hs2, hs3, f2, f3]) rfl ⟨by rw [HN.out], by repeat' first | exact hbw | (refine below_drewN ?_ _) | (refine Below.alloc ?_ ?_ _) | (refine Below.setCell ?_ ?_ _) | omega | (simp; done) | (simp; omega)⟩
      have D0 : pv (nameP y0) = true := pv_true q0
      by_cases q1 : y1 < 0
      · have d1 : decide (y1 < 0) = true := decide_eq_true q1
        have HN : Hid (signalsOk n ss = ⟨3, k⟩) := Lib.hid (signalsOk_3 G.out B2.out hlt ⟨_, E.out, fun (h : signalP n ⟨y0, y1, y2, y3⟩) => by have := h.2.1.1; simp only at this; omega⟩ HB3.out)
        clear q0 q1
        go_wp2
        go_quiet ((go_at_call 70; exact Calls.quiet_of_same (named_q hys D0)))
        go_wp2
        exact bodyPost_ret (v := .agg #[.int .i64 3, .int .i64 k]) (by simp [results, Try.results42, go_sem, hc, hs0, hs1, hs2, hs3, f2, f3]) rfl ⟨by rw [HN.out], by repeat' first | exact hbw | (refine below_drewN ?_ _) | (refine Below.alloc ?_ ?_ _) | (refine Below.setCell ?_ ?_ _) | omega | (simp; done) | (simp; omega)⟩
      have d1 : decide (y1 < 0) = false := decide_eq_false q1
      by_cases q2 : (n.pieces.length : Int) ≤ y1
      · have d2 : decide ((n.pieces.length : Int) ≤ y1) = true := decide_eq_true q2
        have HN : Hid (signalsOk n ss = ⟨3, k⟩) := Lib.hid (signalsOk_3 G.out B2.out hlt ⟨_, E.out, fun (h : signalP n ⟨y0, y1, y2, y3⟩) => by have := h.2.1.2; simp only at this; omega⟩ HB3.out)
        clear q0 q1 q2
        go_wp2
        go_quiet ((go_at_call 70; exact Calls.quiet_of_same (named_q hys D0)))
        go_wp2
        exact bodyPost_ret (v := .agg #[.int .i64 3, .int .i64 k]) (by simp [results, Try.results42, go_sem, hc, hs0, hs1, hs2, hs3, f2, f3]) rfl ⟨by rw [HN.out], by repeat' first | exact hbw | (refine below_drewN ?_ _) | (refine Below.alloc ?_ ?_ _) | (refine Below.setCell ?_ ?_ _) | omega | (simp; done) | (simp; omega)⟩
      have d2 : decide ((n.pieces.length : Int) ≤ y1) = false := decide_eq_false q2
      by_cases q3 : y3 = 1 ∨ y3 = -1
      rotate_left
      · have d3 : (y3 != 1) = true := int_ne (fun h => q3 (.inl h))
        have d4 : (y3 != -1) = true := int_ne (fun h => q3 (.inr h))
        have HN : Hid (signalsOk n ss = ⟨3, k⟩) := Lib.hid (signalsOk_3 G.out B2.out hlt ⟨_, E.out, fun (h : signalP n ⟨y0, y1, y2, y3⟩) => q3 h.2.2.1⟩ HB3.out)
        clear q0 q1 q2 q3
        go_wp2
        go_quiet ((go_at_call 70; exact Calls.quiet_of_same (named_q hys D0)))
        go_wp2
        exact bodyPost_ret (v := .agg #[.int .i64 3, .int .i64 k]) (by simp [results, Try.results42, go_sem, hc, hs0, hs1, hs2, hs3, f2, f3]) rfl ⟨by rw [HN.out], by repeat' first | exact hbw | (refine below_drewN ?_ _) | (refine Below.alloc ?_ ?_ _) | (refine Below.setCell ?_ ?_ _) | omega | (simp; done) | (simp; omega)⟩
      obtain ⟨u, hu1, hu2⟩ : ∃ u : Nat, y1 = (u : Int) ∧ u < n.pieces.length := ⟨y1.toNat, by omega, by omega⟩
      obtain ⟨ap, rfl, z0, z1, z2, z3, EZ, p0, p1, p2, p3⟩ := pieceK_at (Kn.C_below hbx hp) u hu2
      obtain ⟨_, z1a, z1b, _⟩ := HP.out _ (mem_of_get EZ.out)
      simp only at z1a z1b
      have j0 : (0 : Int) ≤ (u : Int) := Int.natCast_nonneg _
      have j1 : (u : Int) < (n.pieces.length : Int) := by omega
      have SP : Hid (signalP n ⟨y0, y1, y2, y3⟩ ↔ (1 ≤ y2 ∧ y2 ≤ z1 - 1)) := Lib.hid ⟨fun h => by
          obtain ⟨p, h1, h2, h3⟩ := h.2.2.2
          simp only [hu1, Int.toNat_natCast] at h1
          rw [EZ.out] at h1
          obtain rfl := Option.some.inj h1
          exact ⟨h2, h3⟩, fun h => ⟨q0, ⟨by simp only; omega, by simp only; omega⟩, q3, _, by simp only [hu1, Int.toNat_natCast]; exact EZ.out, h.1, h.2⟩⟩
      have Q3 := Lib.hid q3
      clear q0 q1 q2 q3
      subst hu1
      have d2n : decide (n.pieces.length ≤ u) = false := decide_eq_false (by omega)
      by_cases q4 : y2 < 1
      · have d5 : decide (y2 < 1) = true := decide_eq_true q4
        have HN : Hid (signalsOk n ss = ⟨3, k⟩) := Lib.hid (signalsOk_3 G.out B2.out hlt ⟨_, E.out, fun h => by have := SP.out.1 h; omega⟩ HB3.out)
        clear q4
        rcases Q3.out with q2 | q2
        · have d3 : (y3 != 1) = false := by rw [q2]; rfl
          clear q2
          go_wp2
          go_quiet ((go_at_call 70; exact Calls.quiet_of_same (named_q hys D0)))
          go_wp2
          exact bodyPost_ret (v := .agg #[.int .i64 3, .int .i64 k]) (by simp [results, Try.results42, go_sem, hc, hs0, hs1, hs2, hs3, f2, f3]) rfl ⟨by rw [HN.out], by repeat' first | exact hbw | (refine below_drewN ?_ _) | (refine Below.alloc ?_ ?_ _) | (refine Below.setCell ?_ ?_ _) | omega | (simp; done) | (simp; omega)⟩
        · have d3 : (y3 != 1) = true := by rw [q2]; rfl
          have d4 : (y3 != -1) = false := by rw [q2]; rfl
          clear q2
          go_wp2
          go_quiet ((go_at_call 70; exact Calls.quiet_of_same (named_q hys D0)))
          go_wp2
          exact bodyPost_ret (v := .agg #[.int .i64 3, .int .i64 k]) (by simp [results, Try.results42, go_sem, hc, hs0, hs1, hs2, hs3, f2, f3]) rfl ⟨by rw [HN.out], by repeat' first | exact hbw | (refine below_drewN ?_ _) | (refine Below.alloc ?_ ?_ _) | (refine Below.setCell ?_ ?_ _) | omega | (simp; done) | (simp; omega)⟩
      have d5 : decide (y2 < 1) = false := decide_eq_false q4
      by_cases q5 : z1 - 1 < y2
      · have d6 : decide (z1 - 1 < y2) = true := decide_eq_true q5
        have HN : Hid (signalsOk n ss = ⟨3, k⟩) := Lib.hid (signalsOk_3 G.out B2.out hlt ⟨_, E.out, fun h => by have := SP.out.1 h; omega⟩ HB3.out)
        clear q4 q5
        rcases Q3.out with q2 | q2
        · have d3 : (y3 != 1) = false := by rw [q2]; rfl
          clear q2
          go_wp2
          go_quiet ((go_at_call 70; exact Calls.quiet_of_same (named_q hys D0)))
          go_wp2
          exact bodyPost_ret (v := .agg #[.int .i64 3, .int .i64 k]) (by simp [results, Try.results42, go_sem, hc, hs0, hs1, hs2, hs3, f2, f3]) rfl ⟨by rw [HN.out], by repeat' first | exact hbw | (refine below_drewN ?_ _) | (refine Below.alloc ?_ ?_ _) | (refine Below.setCell ?_ ?_ _) | omega | (simp; done) | (simp; omega)⟩
        · have d3 : (y3 != 1) = true := by rw [q2]; rfl
          have d4 : (y3 != -1) = false := by rw [q2]; rfl
          clear q2
          go_wp2
          go_quiet ((go_at_call 70; exact Calls.quiet_of_same (named_q hys D0)))
          go_wp2
          exact bodyPost_ret (v := .agg #[.int .i64 3, .int .i64 k]) (by simp [results, Try.results42, go_sem, hc, hs0, hs1, hs2, hs3, f2, f3]) rfl ⟨by rw [HN.out], by repeat' first | exact hbw | (refine below_drewN ?_ _) | (refine Below.alloc ?_ ?_ _) | (refine Below.setCell ?_ ?_ _) | omega | (simp; done) | (simp; omega)⟩
      have d6 : decide (z1 - 1 < y2) = false := decide_eq_false q5
      have HN := Lib.hid (none_snoc HB3.out (fun ⟨s, h1, h2⟩ => by
        rw [E.out] at h1
        obtain rfl := Option.some.inj h1
        exact h2 (SP.out.2 ⟨by omega, by omega⟩)))
      clear q4 q5
      rcases Q3.out with q2 | q2
      · have d3 : (y3 != 1) = false := by rw [q2]; rfl
        clear q2
        go_wp2
        go_quiet ((go_at_call 70; exact Calls.quiet_of_same (named_q hys D0)))
        go_wp2
        go_roundw
        case rel => exact ⟨k + 1, by omega, by go_num, HN, below_drewN hbo _⟩
        case measure => simp [intOf]; omega
      · have d3 : (y3 != 1) = true := by rw [q2]; rfl
        have d4 : (y3 != -1) = false := by rw [q2]; rfl
        clear q2
        go_wp2
        go_quiet ((go_at_call 70; exact Calls.quiet_of_same (named_q hys D0)))
        go_wp2
        go_roundw
        case rel => exact ⟨k + 1, by omega, by go_num, HN, below_drewN hbo _⟩
        case measure => simp [intOf]; omega
    · have hge : ss.length ≤ k := by omega
      have HB3' : Hid (∀ j, j < ss.length → ¬ sbad3 n ss j) := Lib.hid (fun j h => HB3.out j (by omega))
      clear HB3 hc hf hs2 hs3 hbw
      go_wp2
      go_loopw [76] (fun i wr => ∃ k : Nat, k ≤ ss.length ∧ i = .int .i64 k ∧ Hid (∀ j, j < k → ¬ sbad4 ss j) ∧ Below W0.heap.size W0 wr) (fun i _ => ss.length - (intOf i).toNat)
      case atStart => exact ⟨0, Nat.zero_le _, rfl, Lib.hid (fun j h => absurd h (by omega)), hb⟩
      case round =>
        clear hk hge hb hlt
        obtain ⟨k, hk, rfl, HB4, hb⟩ := hrel
        obtain ⟨wp, rfl⟩ : ∃ wp : World, wp = wr := ⟨_, rfl⟩
        obtain ⟨hc, hf⟩ := bcell hb
        have hs2 : w.heap.size < wp.heap.size := by have := hb.size; omega
        have hs3 : w.heap.size + 1 < wp.heap.size := by have := hb.size; omega
        have hbw := hB0.trans (hb.mono hB0.size)
        by_cases hlt : k < ss.length
        · obtain ⟨a0, rfl, y0, y1, y2, y3, E, g0, g1, g2, g3⟩ := signalK_at (Kn.C_below hbw hs) k hlt
          have i0 : (0 : Int) ≤ (k : Int) := Int.natCast_nonneg _
          have i1 : (k : Int) < (ss.length : Int) := by omega
          have i2 : (k : Int) ≤ (c2 : Int) := by omega
          go_wp2
          obtain ⟨W1, hW1, hB1, hs4, e0, e1, e2, e3⟩ : ∃ W1, W1 = wp.alloc (.cells #[.string y0, .int .i64 y1, .int .i64 y2, .int .i64 y3] 101) ∧ Below wp.heap.size wp W1 ∧ wp.heap.size < W1.heap.size ∧
            W1.cell? ⟨wp.heap.size, 0, none⟩ = some (.string y0) ∧ W1.cell? ⟨wp.heap.size, 1, none⟩ = some (.int .i64 y1) ∧ W1.cell? ⟨wp.heap.size, 2, none⟩ = some (.int .i64 y2) ∧ W1.cell? ⟨wp.heap.size, 3, none⟩ = some (.int .i64 y3) := ⟨_, rfl, below_alloc _ _, by simp, by simp, by simp, by simp, by simp⟩
          rw [← hW1]
          clear hW1
          have hb1 := hb.trans (hB1.mono hb.size)
          go_loopw [85] (fun i wr => ∃ m : Nat, m ≤ k ∧ i = .int .i64 m ∧ Hid (¬ before ss k m) ∧ Below W1.heap.size W1 wr) (fun i _ => k - (intOf i).toNat)
          case atStart => exact ⟨0, Nat.zero_le _, rfl, Lib.hid before_zero, Below.refl _ _⟩
          case round =>
            obtain ⟨m, hm, rfl, HM, hbi⟩ := hrel
            have hbj := hb1.trans (hbi.mono hb1.size)
            have hbw2 := hB0.trans (hbj.mono hB0.size)
            obtain ⟨hcj, hfj⟩ := bcell hbj
            have hs7 : w.heap.size < wr.heap.size := by have := hbj.size; omega
            have hs8 : w.heap.size + 1 < wr.heap.size := by have := hbj.size; omega
            have x0 := cell_below hbi e0
            have x1 := cell_below hbi e1
            have x2 := cell_below hbi e2
            have x3 := cell_below hbi e3
            have hsx : wp.heap.size < wr.heap.size := by have := hbi.size; omega
            by_cases hlm : m < k
            · obtain ⟨ad, he, z0, z1, z2, z3, E1, k0, k1, k2, k3⟩ := signalK_at (Kn.C_below hbw2 hs) m (by omega)
              obtain rfl := Option.some.inj he
              have m0 : (0 : Int) ≤ (m : Int) := Int.natCast_nonneg _
              have m1 : (m : Int) < (k : Int) := by omega
              have hbx := hbi.alloc hbi.size (Obj.cells #[.string z0, .int .i64 z1, .int .i64 z2, .int .i64 z3] 101)
              clear he
              by_cases q0 : y0 = z0
              · have d0 := str_eq q0
                have HN : Hid (signalsOk n ss = ⟨4, k⟩) := Lib.hid (signalsOk_4 G.out B2.out HB3'.out hlt ⟨m, _, _, hlm, E1.out, E.out, clash_comm (.inl q0 : clash ⟨y0, y1, y2, y3⟩ ⟨z0, z1, z2, z3⟩)⟩ HB4.out)
                clear q0
                go_wp2
                exact bodyPost_ret (v := .agg #[.int .i64 4, .int .i64 k]) (by simp [results, Try.results42, go_sem, hcj, hs0, hs1, hs7, hs8, f2, f3]) rfl ⟨by rw [HN.out], by repeat' first | exact hbw2 | (refine below_drewN ?_ _) | (refine Below.alloc ?_ ?_ _) | (refine Below.setCell ?_ ?_ _) | omega | (simp; done) | (simp; omega)⟩
              have d0 := str_ne q0
              by_cases q1 : y1 = z1
              rotate_left
              · have d1 := int_eqf q1
                have HN := Lib.hid (before_snoc HM.out E1.out E.out (fun h => by rcases clash_comm h with h | h; exact (q0 h).elim; exact (q1 h.1).elim))
                clear q0 q1
                go_wp2
                go_roundw
                case rel => exact ⟨m + 1, by omega, by go_num, HN, hbx⟩
                case measure => simp [intOf]; omega
              have d1 := int_eqt q1
              by_cases q2 : y2 = z2
              rotate_left
              · have d2 := int_eqf q2
                have HN := Lib.hid (before_snoc HM.out E1.out E.out (fun h => by rcases clash_comm h with h | h; exact (q0 h).elim; exact (q2 h.2.1).elim))
                clear q0 q1 q2
                go_wp2
                go_roundw
                case rel => exact ⟨m + 1, by omega, by go_num, HN, hbx⟩
                case measure => simp [intOf]; omega
              have d2 := int_eqt q2
              by_cases q3 : y3 = z3
              rotate_left
              · have d3 := int_eqf q3
                have HN := Lib.hid (before_snoc HM.out E1.out E.out (fun h => by rcases clash_comm h with h | h; exact (q0 h).elim; exact (q3 h.2.2).elim))
                clear q0 q1 q2 q3
                go_wp2
                go_roundw
                case rel => exact ⟨m + 1, by omega, by go_num, HN, hbx⟩
                case measure => simp [intOf]; omega
              have d3 := int_eqt q3
              have HN : Hid (signalsOk n ss = ⟨4, k⟩) := Lib.hid (signalsOk_4 G.out B2.out HB3'.out hlt ⟨m, _, _, hlm, E1.out, E.out, clash_comm (.inr ⟨q1, q2, q3⟩ : clash ⟨y0, y1, y2, y3⟩ ⟨z0, z1, z2, z3⟩)⟩ HB4.out)
              clear q0 q1 q2 q3
              go_wp2
              exact bodyPost_ret (v := .agg #[.int .i64 4, .int .i64 k]) (by simp [results, Try.results42, go_sem, hcj, hs0, hs1, hs7, hs8, f2, f3]) rfl ⟨by rw [HN.out], by repeat' first | exact hbw2 | (refine below_drewN ?_ _) | (refine Below.alloc ?_ ?_ _) | (refine Below.setCell ?_ ?_ _) | omega | (simp; done) | (simp; omega)⟩
            · obtain rfl : m = k := by omega
              have HN := Lib.hid (none_snoc HB4.out HM.out)
              go_wp2
              go_roundw
              case rel => exact ⟨m + 1, by omega, by go_num, HN, hbj⟩
              case measure => simp [intOf]; omega
        · have HN : Hid (signalsOk n ss = ⟨0, 0⟩) := Lib.hid (signalsOk_0 G.out B2.out HB3'.out (fun j h => HB4.out j (by omega)))
          go_wp2
          exact bodyPost_ret (v := .agg #[.int .i64 0, .int .i64 0]) (by simp [results, Try.results42, go_sem, hc, hs0, hs1, hs2, hs3, f2, f3]) rfl ⟨by rw [HN.out], by repeat' first | exact hbw | (refine below_drewN ?_ _) | (refine Below.alloc ?_ ?_ _) | (refine Below.setCell ?_ ?_ _) | omega | (simp; done) | (simp; omega)⟩
end Go.Proofs.Ytginpmhjpjcahaa.L
