/- Places on pieces: heads, how far, parts, entering: in the reference and in the program. -/
import Derived.Test.YtpggopdojhodaaaGreatVb
import Derived.Deep.AppendLies
import Derived.RegionTactic
import Derived.Maps.AppendAt
import Derived.OwnWalk
import Derived.WalkLawsBesides
namespace Go.Proofs.YtpggopdojhodaaaGreat.L
open Go.RowKit
set_option linter.unusedVariables false
set_option linter.unusedSimpArgs false
theorem named_q {s : ByteArray} {w : World} {r : Bool} (hs : s.size ≤ 9223372036854775807) (h : pv (nameP s) = r) : Calls Tryz.prog 123 #[.string s] w fun e w' => e = .returned (.bool r) ∧ w' = w := by
  subst h
  exact (named s w hs).mono fun e w' ⟨h1, h2⟩ => ⟨h1, h2.symm⟩
set_option maxRecDepth 100000 in
set_option maxHeartbeats 1000000 in
theorem implGood {ok : Nat → Prop} (n : Net) (A0 A1 : Option Addr) (c0 c1 : Nat) (w : World) (hp : pieceK.C w ok A0 n.pieces) (hj : (jointK 136).C w ok A1 n.joints) (hfit : Hid n.fit) (hu : Hid (∀ e, uses n.joints e ≤ 1048576)) :
    Calls Tryz.prog 122 #[.agg #[.slice A0 n.pieces.length c0, .slice A1 n.joints.length c1]] w (RetB (eqv (netOk n) ⟨0, 0⟩) w) := by
  obtain ⟨f, hf⟩ : ∃ f, Hid (netOk n = f) := ⟨_, Lib.hid rfl⟩
  obtain ⟨a, b⟩ := f
  have HE : Hid (eqv (netOk n) ⟨0, 0⟩ = eqv (⟨a, b⟩ : Fault) ⟨0, 0⟩) := Lib.hid (by rw [hf.out])
  by_cases h0 : a = 0
  · have d0 : (a == 0) = true := int_eqt h0
    by_cases h1 : b = 0
    · have d1 : (b == 0) = true := int_eqt h1
      have HT : Hid (eqv (netOk n) ⟨0, 0⟩ = true) := Lib.hid (by rw [HE.out, h0, h1]; exact eqv_self _)
      clear h0 h1
      go_enter Tryz.func122, Tryz.ntmps122
      go_wp2_with fail
      refine (implNetOk n A0 A1 c0 c1 _ (Kn.C_below (below_alloc _ _) hp) (Kn.C_below (below_alloc _ _) hj) hfit hu).mono ?_
      rintro e w1 ⟨rfl, hb1⟩
      rw [hf.out]
      go_wp2
      go_ret
      exact ⟨by rw [HT.out]; rfl, (below_alloc _ _).trans (hb1.mono (by simp))⟩
    · have d1 : (b == 0) = false := int_eqf h1
      have HT : Hid (eqv (netOk n) ⟨0, 0⟩ = false) := Lib.hid (by rw [HE.out]; exact eqv_false (by intro h; injection h with _ h; exact h1 h))
      clear h0 h1
      go_enter Tryz.func122, Tryz.ntmps122
      go_wp2_with fail
      refine (implNetOk n A0 A1 c0 c1 _ (Kn.C_below (below_alloc _ _) hp) (Kn.C_below (below_alloc _ _) hj) hfit hu).mono ?_
      rintro e w1 ⟨rfl, hb1⟩
      rw [hf.out]
      go_wp2
      go_ret
      exact ⟨by rw [HT.out]; rfl, (below_alloc _ _).trans (hb1.mono (by simp))⟩
  · have d0 : (a == 0) = false := int_eqf h0
    have HT : Hid (eqv (netOk n) ⟨0, 0⟩ = false) := Lib.hid (by rw [HE.out]; exact eqv_false (by intro h; injection h with h _; exact h0 h))
    clear h0
    go_enter Tryz.func122, Tryz.ntmps122
    go_wp2_with fail
    refine (implNetOk n A0 A1 c0 c1 _ (Kn.C_below (below_alloc _ _) hp) (Kn.C_below (below_alloc _ _) hj) hfit hu).mono ?_
    rintro e w1 ⟨rfl, hb1⟩
    rw [hf.out]
    go_wp2
    go_ret
    exact ⟨by rw [HT.out]; rfl, (below_alloc _ _).trans (hb1.mono (by simp))⟩
theorem clash_comm {a b : Signal} (h : clash a b) : clash b a := by
  rcases h with h | ⟨h1, h2, h3⟩
  · exact .inl h.symm
  · exact .inr ⟨h1.symm, h2.symm, h3.symm⟩
set_option maxRecDepth 100000 in
set_option maxHeartbeats 8000000 in
theorem implSignalsOk {ok ok' : Nat → Prop} (n : Net) (ss : List Signal) (A0 A1 A2 : Option Addr) (c0 c1 c2 : Nat) (w : World) (hp : pieceK.C w ok A0 n.pieces) (hj : (jointK 136).C w ok A1 n.joints) (hs : signalK.C w ok' A2 ss) (hcap : ss.length ≤ c2) (hfit : Hid n.fit) (hu : Hid (∀ e, uses n.joints e ≤ 1048576)) (hsf : Hid (∀ s ∈ ss, s.fit)) :
    Calls Tryz.prog 83 #[.agg #[.slice A0 n.pieces.length c0, .slice A1 n.joints.length c1], .slice A2 ss.length c2] w (RetV (signalsOk n ss).v w) := by
  have hm2 := hs.1
  obtain ⟨W0, hW0, hB0, f0, f1, f2, f3, f4, f5, hs0, hs1⟩ : ∃ W0, W0 = (w.alloc (.cells #[.slice A0 n.pieces.length c0, .slice A1 n.joints.length c1] 34)).alloc (.cells #[.int .i64 0, .int .i64 0] 121) ∧ Below w.heap.size w W0 ∧
      W0.cell? ⟨w.heap.size, 0, none⟩ = some (.slice A0 n.pieces.length c0) ∧ W0.cell? ⟨w.heap.size, 1, none⟩ = some (.slice A1 n.joints.length c1) ∧ W0.cell? ⟨w.heap.size + 1, 0, none⟩ = some (.int .i64 0) ∧ W0.cell? ⟨w.heap.size + 1, 1, none⟩ = some (.int .i64 0) ∧
      W0.frozen? ⟨w.heap.size + 1, 0, none⟩ = false ∧ W0.frozen? ⟨w.heap.size + 1, 1, none⟩ = false ∧ w.heap.size < W0.heap.size ∧ w.heap.size + 1 < W0.heap.size := ⟨_, rfl, (below_alloc _ _).alloc (by simp) _, by simp, by simp, by simp, by simp, by simp, by simp, by simp; omega, by simp⟩
  have hp0 := Kn.C_below hB0 hp
  have hj0 := Kn.C_below hB0 hj
  by_cases g : netOk n = ⟨0, 0⟩
  rotate_left
  · have HE : Hid (eqv (netOk n) ⟨0, 0⟩ = false) := Lib.hid (eqv_false g)
    have HN : Hid (signalsOk n ss = ⟨1, 0⟩) := Lib.hid (signalsOk_1 g)
    clear g
    go_enter Tryz.func83, Tryz.ntmps83
    go_wp2_with fail
    rw [← hW0]
    clear hW0
    refine (implGood n A0 A1 c0 c1 _ hp0 hj0 hfit hu).mono ?_
    rintro e w1 ⟨rfl, hb⟩
    rw [HE.out]
    obtain ⟨hc, hf⟩ := bcell hb
    have hs2 : w.heap.size < w1.heap.size := by have := hb.size; omega
    have hs3 : w.heap.size + 1 < w1.heap.size := by have := hb.size; omega
    have hbw := hB0.trans (hb.mono hB0.size)
    go_wp2
    exact bodyPost_ret (v := .agg #[.int .i64 1, .int .i64 0]) (by simp [results, Tryz.results83, go_sem, hc, hs0, hs1, hs2, hs3, f2, f3]) rfl ⟨by rw [HN.out], by repeat' first | exact hbw | (refine below_drewN ?_ _) | (refine Below.alloc ?_ ?_ _) | (refine Below.setCell ?_ ?_ _) | omega | (simp; done) | (simp; omega)⟩
  have HE : Hid (eqv (netOk n) ⟨0, 0⟩ = true) := Lib.hid (eqv_true g)
  have G := Lib.hid g
  obtain ⟨n0, n1, n2, n3⟩ := pieces_of_ok g
  have HP := Lib.hid n3
  clear g n3
  by_cases b2 : 60 < ss.length
  · have HN : Hid (signalsOk n ss = ⟨2, 0⟩) := Lib.hid (signalsOk_2 G.out b2)
    go_enter Tryz.func83, Tryz.ntmps83
    go_wp2_with fail
    rw [← hW0]
    clear hW0
    refine (implGood n A0 A1 c0 c1 _ hp0 hj0 hfit hu).mono ?_
    rintro e w1 ⟨rfl, hb⟩
    rw [HE.out]
    obtain ⟨hc, hf⟩ := bcell hb
    have hs2 : w.heap.size < w1.heap.size := by have := hb.size; omega
    have hs3 : w.heap.size + 1 < w1.heap.size := by have := hb.size; omega
    have hbw := hB0.trans (hb.mono hB0.size)
    go_wp2
    exact bodyPost_ret (v := .agg #[.int .i64 2, .int .i64 0]) (by simp [results, Tryz.results83, go_sem, hc, hs0, hs1, hs2, hs3, f2, f3]) rfl ⟨by rw [HN.out], by repeat' first | exact hbw | (refine below_drewN ?_ _) | (refine Below.alloc ?_ ?_ _) | (refine Below.setCell ?_ ?_ _) | omega | (simp; done) | (simp; omega)⟩
  have B2 := Lib.hid b2
  go_enter Tryz.func83, Tryz.ntmps83
  go_wp2_with fail
  rw [← hW0]
  clear hW0
  refine (implGood n A0 A1 c0 c1 _ hp0 hj0 hfit hu).mono ?_
  rintro e wq ⟨rfl, hbq⟩
  rw [HE.out]
  clear hj0
  go_upto_region 5 with (fail)
  go_wp2
  go_loopw [21] (fun i wr => ∃ k : Nat, k ≤ ss.length ∧ i = .int .i64 k ∧ Hid (∀ j, j < k → ¬ sbad3 n ss j) ∧ Below W0.heap.size W0 wr) (fun i _ => ss.length - (intOf i).toNat)
  case atStart => exact ⟨0, Nat.zero_le _, rfl, Lib.hid (fun j h => absurd h (by omega)), hbq⟩
  case round =>
    clear hbq
    obtain ⟨k, hk, rfl, HB3, hb⟩ := hrel
    obtain ⟨wo, rfl⟩ : ∃ wo : World, wo = wr := ⟨_, rfl⟩
    obtain ⟨hc, hf⟩ := bcell hb
    have hs2 : w.heap.size < wo.heap.size := by have := hb.size; omega
    have hs3 : w.heap.size + 1 < wo.heap.size := by have := hb.size; omega
    have hbw := hB0.trans (hb.mono hB0.size)
    by_cases hlt : k < ss.length
    · obtain ⟨a0, rfl, y0, y1, y2, y3, E, g0, g1, g2, g3⟩ := signalK_at (Kn.C_below hbw hs) k hlt
      have i0 : (0 : Int) ≤ (k : Int) := Int.natCast_nonneg _
      have i1 : (k : Int) < (ss.length : Int) := by omega
      have hys : y0.size ≤ 9223372036854775807 := hsf.out _ (mem_of_get E.out)
      have hbx := hbw.alloc hbw.size (Obj.cells #[.string y0, .int .i64 y1, .int .i64 y2, .int .i64 y3] 73)
      have hbo := hb.alloc hb.size (Obj.cells #[.string y0, .int .i64 y1, .int .i64 y2, .int .i64 y3] 73)
      by_cases q0 : nameP y0
      rotate_left
      · have D0 : pv (nameP y0) = false := pv_false q0
        have HN : Hid (signalsOk n ss = ⟨3, k⟩) := Lib.hid (signalsOk_3 G.out B2.out hlt ⟨_, E.out, fun (h : signalP n ⟨y0, y1, y2, y3⟩) => q0 h.1⟩ HB3.out)
        clear q0
        go_wp2
        go_quiet ((go_at_call 123; exact Calls.quiet_of_same (named_q hys D0)))
        go_wp2
        exact bodyPost_ret (v := .agg #[.int .i64 3, .int .i64 k]) (by simp [results, Tryz.results83, go_sem, hc, hs0, hs1, hs2, hs3, f2, f3]) rfl ⟨by rw [HN.out], by repeat' first | exact hbw | (refine below_drewN ?_ _) | (refine Below.alloc ?_ ?_ _) | (refine Below.setCell ?_ ?_ _) | omega | (simp; done) | (simp; omega)⟩
      have D0 : pv (nameP y0) = true := pv_true q0
      by_cases q1 : y1 < 0
      · have d1 : decide (y1 < 0) = true := decide_eq_true q1
        have HN : Hid (signalsOk n ss = ⟨3, k⟩) := Lib.hid (signalsOk_3 G.out B2.out hlt ⟨_, E.out, fun (h : signalP n ⟨y0, y1, y2, y3⟩) => by have := h.2.1.1; simp only at this; omega⟩ HB3.out)
        clear q0 q1
        go_wp2
        go_quiet ((go_at_call 123; exact Calls.quiet_of_same (named_q hys D0)))
        go_wp2
        exact bodyPost_ret (v := .agg #[.int .i64 3, .int .i64 k]) (by simp [results, Tryz.results83, go_sem, hc, hs0, hs1, hs2, hs3, f2, f3]) rfl ⟨by rw [HN.out], by repeat' first | exact hbw | (refine below_drewN ?_ _) | (refine Below.alloc ?_ ?_ _) | (refine Below.setCell ?_ ?_ _) | omega | (simp; done) | (simp; omega)⟩
      have d1 : decide (y1 < 0) = false := decide_eq_false q1
      by_cases q2 : (n.pieces.length : Int) ≤ y1
      · have d2 : decide ((n.pieces.length : Int) ≤ y1) = true := decide_eq_true q2
        have HN : Hid (signalsOk n ss = ⟨3, k⟩) := Lib.hid (signalsOk_3 G.out B2.out hlt ⟨_, E.out, fun (h : signalP n ⟨y0, y1, y2, y3⟩) => by have := h.2.1.2; simp only at this; omega⟩ HB3.out)
        clear q0 q1 q2
        go_wp2
        go_quiet ((go_at_call 123; exact Calls.quiet_of_same (named_q hys D0)))
        go_wp2
        exact bodyPost_ret (v := .agg #[.int .i64 3, .int .i64 k]) (by simp [results, Tryz.results83, go_sem, hc, hs0, hs1, hs2, hs3, f2, f3]) rfl ⟨by rw [HN.out], by repeat' first | exact hbw | (refine below_drewN ?_ _) | (refine Below.alloc ?_ ?_ _) | (refine Below.setCell ?_ ?_ _) | omega | (simp; done) | (simp; omega)⟩
      have d2 : decide ((n.pieces.length : Int) ≤ y1) = false := decide_eq_false q2
      by_cases q3 : y3 = 1 ∨ y3 = -1
      rotate_left
      · have d3 : (y3 != 1) = true := int_ne (fun h => q3 (.inl h))
        have d4 : (y3 != -1) = true := int_ne (fun h => q3 (.inr h))
        have HN : Hid (signalsOk n ss = ⟨3, k⟩) := Lib.hid (signalsOk_3 G.out B2.out hlt ⟨_, E.out, fun (h : signalP n ⟨y0, y1, y2, y3⟩) => q3 h.2.2.1⟩ HB3.out)
        clear q0 q1 q2 q3
        go_wp2
        go_quiet ((go_at_call 123; exact Calls.quiet_of_same (named_q hys D0)))
        go_wp2
        exact bodyPost_ret (v := .agg #[.int .i64 3, .int .i64 k]) (by simp [results, Tryz.results83, go_sem, hc, hs0, hs1, hs2, hs3, f2, f3]) rfl ⟨by rw [HN.out], by repeat' first | exact hbw | (refine below_drewN ?_ _) | (refine Below.alloc ?_ ?_ _) | (refine Below.setCell ?_ ?_ _) | omega | (simp; done) | (simp; omega)⟩
      obtain ⟨u, hu1, hu2⟩ : ∃ u : Nat, y1 = (u : Int) ∧ u < n.pieces.length := ⟨y1.toNat, by omega, by omega⟩
      obtain ⟨ap, rfl, z0, z1, z2, z3, EZ, p0, p1, p2, p3⟩ := pieceK_at (Kn.C_below hbx hp) u hu2
      obtain ⟨_, z1a, z1b, _⟩ := HP.out _ (mem_of_get EZ.out)
      simp only at z1a z1b
      have j0 : (0 : Int) ≤ (u : Int) := Int.natCast_nonneg _
      have j1 : (u : Int) < (n.pieces.length : Int) := by omega
      have SP : Hid (signalP n ⟨y0, y1, y2, y3⟩ ↔ (1 ≤ y2 ∧ y2 ≤ z1 - 1)) := Lib.hid ⟨fun h => by
          obtain ⟨p, h1, h2, h3⟩ := h.2.2.2
          simp only [hu1, Int.toNat_natCast] at h1
          rw [EZ.out] at h1
          obtain rfl := Option.some.inj h1
          exact ⟨h2, h3⟩, fun h => ⟨q0, ⟨by simp only; omega, by simp only; omega⟩, q3, _, by simp only [hu1, Int.toNat_natCast]; exact EZ.out, h.1, h.2⟩⟩
      have Q3 := Lib.hid q3
      clear q0 q1 q2 q3
      subst hu1
      have d2n : decide (n.pieces.length ≤ u) = false := decide_eq_false (by omega)
      by_cases q4 : y2 < 1
      · have d5 : decide (y2 < 1) = true := decide_eq_true q4
        have HN : Hid (signalsOk n ss = ⟨3, k⟩) := Lib.hid (signalsOk_3 G.out B2.out hlt ⟨_, E.out, fun h => by have := SP.out.1 h; omega⟩ HB3.out)
        clear q4
        rcases Q3.out with q2 | q2
        · have d3 : (y3 != 1) = false := by rw [q2]; rfl
          clear q2
          go_wp2
          go_quiet ((go_at_call 123; exact Calls.quiet_of_same (named_q hys D0)))
          go_wp2
          exact bodyPost_ret (v := .agg #[.int .i64 3, .int .i64 k]) (by simp [results, Tryz.results83, go_sem, hc, hs0, hs1, hs2, hs3, f2, f3]) rfl ⟨by rw [HN.out], by repeat' first | exact hbw | (refine below_drewN ?_ _) | (refine Below.alloc ?_ ?_ _) | (refine Below.setCell ?_ ?_ _) | omega | (simp; done) | (simp; omega)⟩
        · have d3 : (y3 != 1) = true := by rw [q2]; rfl
          have d4 : (y3 != -1) = false := by rw [q2]; rfl
          clear q2
          go_wp2
          go_quiet ((go_at_call 123; exact Calls.quiet_of_same (named_q hys D0)))
          go_wp2
          exact bodyPost_ret (v := .agg #[.int .i64 3, .int .i64 k]) (by simp [results, Tryz.results83, go_sem, hc, hs0, hs1, hs2, hs3, f2, f3]) rfl ⟨by rw [HN.out], by repeat' first | exact hbw | (refine below_drewN ?_ _) | (refine Below.alloc ?_ ?_ _) | (refine Below.setCell ?_ ?_ _) | omega | (simp; done) | (simp; omega)⟩
      have d5 : decide (y2 < 1) = false := decide_eq_false q4
      by_cases q5 : z1 - 1 < y2
      · have d6 : decide (z1 - 1 < y2) = true := decide_eq_true q5
        have HN : Hid (signalsOk n ss = ⟨3, k⟩) := Lib.hid (signalsOk_3 G.out B2.out hlt ⟨_, E.out, fun h => by have := SP.out.1 h; omega⟩ HB3.out)
        clear q4 q5
        rcases Q3.out with q2 | q2
        · have d3 : (y3 != 1) = false := by rw [q2]; rfl
          clear q2
          go_wp2
          go_quiet ((go_at_call 123; exact Calls.quiet_of_same (named_q hys D0)))
          go_wp2
          exact bodyPost_ret (v := .agg #[.int .i64 3, .int .i64 k]) (by simp [results, Tryz.results83, go_sem, hc, hs0, hs1, hs2, hs3, f2, f3]) rfl ⟨by rw [HN.out], by repeat' first | exact hbw | (refine below_drewN ?_ _) | (refine Below.alloc ?_ ?_ _) | (refine Below.setCell ?_ ?_ _) | omega | (simp; done) | (simp; omega)⟩
        · have d3 : (y3 != 1) = true := by rw [q2]; rfl
          have d4 : (y3 != -1) = false := by rw [q2]; rfl
          clear q2
          go_wp2
          go_quiet ((go_at_call 123; exact Calls.quiet_of_same (named_q hys D0)))
          go_wp2
          exact bodyPost_ret (v := .agg #[.int .i64 3, .int .i64 k]) (by simp [results, Tryz.results83, go_sem, hc, hs0, hs1, hs2, hs3, f2, f3]) rfl ⟨by rw [HN.out], by repeat' first | exact hbw | (refine below_drewN ?_ _) | (refine Below.alloc ?_ ?_ _) | (refine Below.setCell ?_ ?_ _) | omega | (simp; done) | (simp; omega)⟩
      have d6 : decide (z1 - 1 < y2) = false := decide_eq_false q5
      have HN := Lib.hid (none_snoc HB3.out (fun ⟨s, h1, h2⟩ => by
        rw [E.out] at h1
        obtain rfl := Option.some.inj h1
        exact h2 (SP.out.2 ⟨by omega, by omega⟩)))
      clear q4 q5
      rcases Q3.out with q2 | q2
      · have d3 : (y3 != 1) = false := by rw [q2]; rfl
        clear q2
        go_wp2
        go_quiet ((go_at_call 123; exact Calls.quiet_of_same (named_q hys D0)))
        go_wp2
        go_roundw
        case rel => exact ⟨k + 1, by omega, by go_num, HN, below_drewN hbo _⟩
        case measure => simp [intOf]; omega
      · have d3 : (y3 != 1) = true := by rw [q2]; rfl
        have d4 : (y3 != -1) = false := by rw [q2]; rfl
        clear q2
        go_wp2
        go_quiet ((go_at_call 123; exact Calls.quiet_of_same (named_q hys D0)))
        go_wp2
        go_roundw
        case rel => exact ⟨k + 1, by omega, by go_num, HN, below_drewN hbo _⟩
        case measure => simp [intOf]; omega
    · have hge : ss.length ≤ k := by omega
      have HB3' : Hid (∀ j, j < ss.length → ¬ sbad3 n ss j) := Lib.hid (fun j h => HB3.out j (by omega))
      clear HB3 hc hf hs2 hs3 hbw
      go_wp2
      go_loopw [76] (fun i wr => ∃ k : Nat, k ≤ ss.length ∧ i = .int .i64 k ∧ Hid (∀ j, j < k → ¬ sbad4 ss j) ∧ Below W0.heap.size W0 wr) (fun i _ => ss.length - (intOf i).toNat)
      case atStart => exact ⟨0, Nat.zero_le _, rfl, Lib.hid (fun j h => absurd h (by omega)), hb⟩
      case round =>
        clear hk hge hb hlt
        obtain ⟨k, hk, rfl, HB4, hb⟩ := hrel
        obtain ⟨wp, rfl⟩ : ∃ wp : World, wp = wr := ⟨_, rfl⟩
        obtain ⟨hc, hf⟩ := bcell hb
        have hs2 : w.heap.size < wp.heap.size := by have := hb.size; omega
        have hs3 : w.heap.size + 1 < wp.heap.size := by have := hb.size; omega
        have hbw := hB0.trans (hb.mono hB0.size)
        by_cases hlt : k < ss.length
        · obtain ⟨a0, rfl, y0, y1, y2, y3, E, g0, g1, g2, g3⟩ := signalK_at (Kn.C_below hbw hs) k hlt
          have i0 : (0 : Int) ≤ (k : Int) := Int.natCast_nonneg _
          have i1 : (k : Int) < (ss.length : Int) := by omega
          have i2 : (k : Int) ≤ (c2 : Int) := by omega
          go_wp2
          obtain ⟨W1, hW1, hB1, hs4, e0, e1, e2, e3⟩ : ∃ W1, W1 = wp.alloc (.cells #[.string y0, .int .i64 y1, .int .i64 y2, .int .i64 y3] 73) ∧ Below wp.heap.size wp W1 ∧ wp.heap.size < W1.heap.size ∧
            W1.cell? ⟨wp.heap.size, 0, none⟩ = some (.string y0) ∧ W1.cell? ⟨wp.heap.size, 1, none⟩ = some (.int .i64 y1) ∧ W1.cell? ⟨wp.heap.size, 2, none⟩ = some (.int .i64 y2) ∧ W1.cell? ⟨wp.heap.size, 3, none⟩ = some (.int .i64 y3) := ⟨_, rfl, below_alloc _ _, by simp, by simp, by simp, by simp, by simp⟩
          rw [← hW1]
          clear hW1
          have hb1 := hb.trans (hB1.mono hb.size)
          go_loopw [85] (fun i wr => ∃ m : Nat, m ≤ k ∧ i = .int .i64 m ∧ Hid (¬ before ss k m) ∧ Below W1.heap.size W1 wr) (fun i _ => k - (intOf i).toNat)
          case atStart => exact ⟨0, Nat.zero_le _, rfl, Lib.hid before_zero, Below.refl _ _⟩
          case round =>
            obtain ⟨m, hm, rfl, HM, hbi⟩ := hrel
            have hbj := hb1.trans (hbi.mono hb1.size)
            have hbw2 := hB0.trans (hbj.mono hB0.size)
            obtain ⟨hcj, hfj⟩ := bcell hbj
            have hs7 : w.heap.size < wr.heap.size := by have := hbj.size; omega
            have hs8 : w.heap.size + 1 < wr.heap.size := by have := hbj.size; omega
            have x0 := cell_below hbi e0
            have x1 := cell_below hbi e1
            have x2 := cell_below hbi e2
            have x3 := cell_below hbi e3
            have hsx : wp.heap.size < wr.heap.size := by have := hbi.size; omega
            by_cases hlm : m < k
            · obtain ⟨ad, he, z0, z1, z2, z3, E1, k0, k1, k2, k3⟩ := signalK_at (Kn.C_below hbw2 hs) m (by omega)
              obtain rfl := Option.some.inj he
              have m0 : (0 : Int) ≤ (m : Int) := Int.natCast_nonneg _
              have m1 : (m : Int) < (k : Int) := by omega
              have hbx := hbi.alloc hbi.size (Obj.cells #[.string z0, .int .i64 z1, .int .i64 z2, .int .i64 z3] 73)
              clear he
              by_cases q0 : y0 = z0
              · have d0 := str_eq q0
                have HN : Hid (signalsOk n ss = ⟨4, k⟩) := Lib.hid (signalsOk_4 G.out B2.out HB3'.out hlt ⟨m, _, _, hlm, E1.out, E.out, clash_comm (.inl q0 : clash ⟨y0, y1, y2, y3⟩ ⟨z0, z1, z2, z3⟩)⟩ HB4.out)
                clear q0
                go_wp2
                exact bodyPost_ret (v := .agg #[.int .i64 4, .int .i64 k]) (by simp [results, Tryz.results83, go_sem, hcj, hs0, hs1, hs7, hs8, f2, f3]) rfl ⟨by rw [HN.out], by repeat' first | exact hbw2 | (refine below_drewN ?_ _) | (refine Below.alloc ?_ ?_ _) | (refine Below.setCell ?_ ?_ _) | omega | (simp; done) | (simp; omega)⟩
              have d0 := str_ne q0
              by_cases q1 : y1 = z1
              rotate_left
              · have d1 := int_eqf q1
                have HN := Lib.hid (before_snoc HM.out E1.out E.out (fun h => by rcases clash_comm h with h | h; exact (q0 h).elim; exact (q1 h.1).elim))
                clear q0 q1
                go_wp2
                go_roundw
                case rel => exact ⟨m + 1, by omega, by go_num, HN, hbx⟩
                case measure => simp [intOf]; omega
              have d1 := int_eqt q1
              by_cases q2 : y2 = z2
              rotate_left
              · have d2 := int_eqf q2
                have HN := Lib.hid (before_snoc HM.out E1.out E.out (fun h => by rcases clash_comm h with h | h; exact (q0 h).elim; exact (q2 h.2.1).elim))
                clear q0 q1 q2
                go_wp2
                go_roundw
                case rel => exact ⟨m + 1, by omega, by go_num, HN, hbx⟩
                case measure => simp [intOf]; omega
              have d2 := int_eqt q2
              by_cases q3 : y3 = z3
              rotate_left
              · have d3 := int_eqf q3
                have HN := Lib.hid (before_snoc HM.out E1.out E.out (fun h => by rcases clash_comm h with h | h; exact (q0 h).elim; exact (q3 h.2.2).elim))
                clear q0 q1 q2 q3
                go_wp2
                go_roundw
                case rel => exact ⟨m + 1, by omega, by go_num, HN, hbx⟩
                case measure => simp [intOf]; omega
              have d3 := int_eqt q3
              have HN : Hid (signalsOk n ss = ⟨4, k⟩) := Lib.hid (signalsOk_4 G.out B2.out HB3'.out hlt ⟨m, _, _, hlm, E1.out, E.out, clash_comm (.inr ⟨q1, q2, q3⟩ : clash ⟨y0, y1, y2, y3⟩ ⟨z0, z1, z2, z3⟩)⟩ HB4.out)
              clear q0 q1 q2 q3
              go_wp2
              exact bodyPost_ret (v := .agg #[.int .i64 4, .int .i64 k]) (by simp [results, Tryz.results83, go_sem, hcj, hs0, hs1, hs7, hs8, f2, f3]) rfl ⟨by rw [HN.out], by repeat' first | exact hbw2 | (refine below_drewN ?_ _) | (refine Below.alloc ?_ ?_ _) | (refine Below.setCell ?_ ?_ _) | omega | (simp; done) | (simp; omega)⟩
            · obtain rfl : m = k := by omega
              have HN := Lib.hid (none_snoc HB4.out HM.out)
              go_wp2
              go_roundw
              case rel => exact ⟨m + 1, by omega, by go_num, HN, hbj⟩
              case measure => simp [intOf]; omega
        · have HN : Hid (signalsOk n ss = ⟨0, 0⟩) := Lib.hid (signalsOk_0 G.out B2.out HB3'.out (fun j h => HB4.out j (by omega)))
          go_wp2
          exact bodyPost_ret (v := .agg #[.int .i64 0, .int .i64 0]) (by simp [results, Tryz.results83, go_sem, hc, hs0, hs1, hs2, hs3, f2, f3]) rfl ⟨by rw [HN.out], by repeat' first | exact hbw | (refine below_drewN ?_ _) | (refine Below.alloc ?_ ?_ _) | (refine Below.setCell ?_ ?_ _) | omega | (simp; done) | (simp; omega)⟩
end Go.Proofs.YtpggopdojhodaaaGreat.L
namespace Go.Proofs.YtpggopdojhodaaaGreat.L
open Go.RowKit
set_option linter.unusedVariables false
set_option linter.unusedSimpArgs false
theorem RetNet.opened {x : Net} {w w' : World} {e : Ending} (h : RetNet x w e w') :
    ∃ A0 c0 A1 c1, e = .returned (.agg #[.slice A0 x.pieces.length c0, .slice A1 x.joints.length c1]) ∧ Hid (pieceK.C w' (fun _ => True) A0 x.pieces) ∧ Hid ((jointK 136).C w' (fun _ => True) A1 x.joints) ∧ Below w.heap.size w w' := by
  obtain ⟨A0, c0, A1, c1, F0, F1, rfl, o0, o1, _, _, hb⟩ := h
  refine ⟨A0, c0, A1, c1, rfl, Lib.hid ?_, Lib.hid ?_, hb⟩
  · obtain ⟨A, c, he, _, hc⟩ := (Kn.slice 132 pieceK).K_of o0
    injection he with he _
    injection he with he _ _
    subst he
    exact Kn.C_mono (fun _ _ => trivial) hc
  · obtain ⟨A, c, he, _, hc⟩ := (Kn.slice 139 (jointK 136)).K_of o1
    injection he with he _
    injection he with he _ _
    subst he
    exact Kn.C_mono (fun _ _ => trivial) hc
theorem C_drew {α : Type} {d : Kn α} {w : World} {ok : Nat → Prop} {A : Option Addr} {xs : List α} (h : d.C w ok A xs) : d.C w.drew ok A xs :=
  Kn.C_move (w := w) (fun _ _ => rfl) h
theorem tot_mem {α : Type} {f : α → Nat} {xs : List α} {x : α} (h : x ∈ xs) : f x ≤ tot f xs := by
  induction xs with
  | nil => cases h
  | cons y ys ih =>
    have : tot f (y :: ys) = f y + tot f ys := by simp [tot]
    rcases List.mem_cons.1 h with rfl | h
    · omega
    · have := ih h
      omega
theorem tot_mono {α : Type} {f g : α → Nat} (hfg : ∀ x, f x ≤ g x) (xs : List α) : tot f xs ≤ tot g xs := by
  induction xs with
  | nil => exact Nat.le_refl _
  | cons y ys ih =>
    have h1 : tot f (y :: ys) = f y + tot f ys := by simp [tot]
    have h2 : tot g (y :: ys) = g y + tot g ys := by simp [tot]
    have := hfg y
    omega
theorem tot_one {α : Type} (xs : List α) : tot (fun _ => 1) xs = xs.length := by
  induction xs with
  | nil => rfl
  | cons y ys ih =>
    have h1 : tot (fun _ : α => 1) (y :: ys) = 1 + tot (fun _ => 1) ys := by simp [tot]
    rw [h1, ih, List.length_cons]
    omega
theorem usesIn_len (es : List End) (e : End) : usesIn es e ≤ es.length := by
  rw [← tot_one es]
  exact tot_mono (fun x => by split <;> omega) _
theorem uses_len (js : List Joint) (e : End) : uses js e ≤ tot Joint.n js := tot_mono (fun j => by have := usesIn_len j.ends e; unfold Joint.n; omega) _
end Go.Proofs.YtpggopdojhodaaaGreat.L
namespace Go.Proofs.YtpggopdojhodaaaGreat.L
open Go.RowKit
set_option linter.unusedVariables false
structure NC (eE : Nat) (w : World) (ok : Nat → Prop) (x : Net) (A0 A1 : Option Addr) : Prop where
  p : pieceK.C w ok A0 x.pieces
  j : (jointK eE).C w ok A1 x.joints
section
variable {eE : Nat} {w w1 : World} {ok ok' : Nat → Prop} {x : Net} {A0 A1 : Option Addr}
theorem NC.below (hb : Below w.heap.size w w1) (h : NC eE w ok x A0 A1) : NC eE w1 ok x A0 A1 := ⟨Kn.C_below hb h.p, Kn.C_below hb h.j⟩
theorem NC.mono (hm : ∀ b, ok b → ok' b) (h : NC eE w ok x A0 A1) : NC eE w ok' x A0 A1 := ⟨Kn.C_mono hm h.p, Kn.C_mono hm h.j⟩
theorem NC.drew (h : NC eE w ok x A0 A1) : NC eE w.drew ok x A0 A1 := ⟨C_drew h.p, C_drew h.j⟩
theorem NC.move (hm : ∀ b, ok b → w1.heap[b]? = w.heap[b]?) (h : NC eE w ok x A0 A1) : NC eE w1 ok x A0 A1 := ⟨Kn.C_move hm h.p, Kn.C_move hm h.j⟩
end
structure NetIn (x : Net) : Prop where
  n : x.n ≤ 1048576
  fit : x.fit
theorem NetIn.uses {x : Net} (h : NetIn x) : ∀ e, uses x.joints e ≤ 1048576 := fun e => by have := uses_len x.joints e; have := h.n; unfold Net.n lenS at this; omega
theorem NetIn.pieces {x : Net} (h : NetIn x) : x.pieces.length ≤ 1048576 := by have := h.n; unfold Net.n lenS at this; omega
theorem NetIn.joints {x : Net} (h : NetIn x) : x.joints.length ≤ 1048576 := by have := h.n; unfold Net.n lenS at this; omega
theorem NetIn.ends {x : Net} (h : NetIn x) : ∀ j ∈ x.joints, j.ends.length ≤ 1048576 := fun j hj => by
  have h1 := tot_mem (f := Joint.n) hj
  have : j.ends.length ≤ Joint.n j := by unfold Joint.n; omega
  have := h.n
  unfold Net.n lenS at this
  omega
structure SigIn (ss : List Signal) : Prop where
  n : lenS Signal.n ss ≤ 1048576
  fit : ∀ s ∈ ss, s.fit
theorem SigIn.len {ss : List Signal} (h : SigIn ss) : ss.length ≤ 1048576 := by have := h.n; unfold lenS at this; omega
theorem toNetC {ok : Nat → Prop} (x : Net) (A0 A1 : Option Addr) (c0 c1 : Nat) (w : World) (h : NC 205 w ok x A0 A1) (hn : NetIn x) :
    Calls Tryz.prog 9 #[.agg #[.slice A0 x.pieces.length c0, .slice A1 x.joints.length c1]] w (RetNet x w) := toNet x A0 A1 c0 c1 w h.p h.j hn.pieces hn.joints (Lib.hid hn.ends)
theorem eqNetC {ok ok' : Nat → Prop} (x y : Net) (A0 A1 : Option Addr) (c0 c1 : Nat) (B0 B1 : Option Addr) (d0 d1 : Nat) (w : World) (h : NC 136 w ok x A0 A1) (h' : NC 136 w ok' y B0 B1) :
    Calls Tryz.prog 13 #[.agg #[.slice A0 x.pieces.length c0, .slice A1 x.joints.length c1], .agg #[.slice B0 y.pieces.length d0, .slice B1 y.joints.length d1]] w (RetB (eqv x y) w) := eqNet x y A0 A1 B0 B1 c0 c1 d0 d1 w h.p h.j h'.p h'.j
theorem specSignalsOkC {ok ok' : Nat → Prop} (n : Net) (ss : List Signal) (A0 A1 A2 : Option Addr) (c0 c1 c2 : Nat) (w : World) (h : NC 136 w ok n A0 A1) (hs : signalK.C w ok' A2 ss) (hn : NetIn n) (hi : SigIn ss) :
    Calls Tryz.prog 71 #[.agg #[.slice A0 n.pieces.length c0, .slice A1 n.joints.length c1], .slice A2 ss.length c2] w (RetV (signalsOk n ss).v w) := specSignalsOk n ss A0 A1 A2 c0 c1 c2 w h.p h.j hs (Lib.hid hn.fit) (Lib.hid hn.uses) (Lib.hid hi.fit)
theorem implSignalsOkC {ok ok' : Nat → Prop} (n : Net) (ss : List Signal) (A0 A1 A2 : Option Addr) (c0 c1 c2 : Nat) (w : World) (h : NC 136 w ok n A0 A1) (hs : signalK.C w ok' A2 ss) (hc : ss.length ≤ c2) (hn : NetIn n) (hi : SigIn ss) :
    Calls Tryz.prog 83 #[.agg #[.slice A0 n.pieces.length c0, .slice A1 n.joints.length c1], .slice A2 ss.length c2] w (RetV (signalsOk n ss).v w) := implSignalsOk n ss A0 A1 A2 c0 c1 c2 w h.p h.j hs hc (Lib.hid hn.fit) (Lib.hid hn.uses) (Lib.hid hi.fit)
theorem RetNet.opC {x : Net} {w w' : World} {e : Ending} (h : RetNet x w e w') :
    ∃ A0 A1 c0 c1, e = .returned (.agg #[.slice A0 x.pieces.length c0, .slice A1 x.joints.length c1]) ∧ Hid (NC 136 w' (fun _ => True) x A0 A1) ∧ Below w.heap.size w w' := by
  obtain ⟨A0, c0, A1, c1, e, h0, h1, hb⟩ := RetNet.opened h
  exact ⟨A0, A1, c0, c1, e, Lib.hid ⟨h0.out, h1.out⟩, hb⟩
theorem RetS.opC {α : Type} {e : Nat} {d : Kn α} {xs : List α} {w w' : World} {en : Ending} (h : RetS e d xs w en w') :
    ∃ A c, en = .returned (.slice A xs.length c) ∧ xs.length ≤ c ∧ Hid (d.C w' (fun _ => True) A xs) ∧ Below w.heap.size w w' := by
  obtain ⟨A, c, F, rfl, o, hf, hb⟩ := h
  obtain ⟨A', c', he, hl, hc⟩ := (Kn.slice e d).K_of o
  injection he with he _
  injection he with he _ hcc
  subst he
  subst hcc
  exact ⟨A, c, rfl, hl, Lib.hid (Kn.C_mono (fun _ _ => trivial) hc), hb⟩
end Go.Proofs.YtpggopdojhodaaaGreat.L
namespace Go.Proofs.YtpggopdojhodaaaGreat.L
open Go.RowKit
open Classical
set_option linter.unusedVariables false
theorem tot_in {α : Type} {f : α → Nat} {xs : List α} {x : α} (h : x ∈ xs) : f x ≤ tot f xs := by
  induction xs with
  | nil => cases h
  | cons y ys ih =>
    have : tot f (y :: ys) = f y + tot f ys := by simp [tot]
    rcases List.mem_cons.1 h with rfl | h
    · omega
    · have := ih h
      omega
theorem tot_two {α : Type} {f : α → Nat} : ∀ {xs : List α} {i j : Nat} {x y : α}, xs[i]? = some x → xs[j]? = some y → i < j → f x + f y ≤ tot f xs
  | [], _, _, _, _, h, _, _ => by simp at h
  | a :: xs, 0, j, x, y, hi, hj, hne => by
    have ht : tot f (a :: xs) = f a + tot f xs := by simp [tot]
    simp only [List.getElem?_cons_zero, Option.some.injEq] at hi
    obtain ⟨j, rfl⟩ : ∃ m, j = m + 1 := ⟨j - 1, by omega⟩
    rw [List.getElem?_cons_succ] at hj
    have := tot_in (f := f) (mem_of_get hj)
    rw [ht, hi]
    omega
  | a :: xs, i + 1, j, x, y, hi, hj, hne => by
    have ht : tot f (a :: xs) = f a + tot f xs := by simp [tot]
    obtain ⟨j, rfl⟩ : ∃ m, j = m + 1 := ⟨j - 1, by omega⟩
    rw [List.getElem?_cons_succ] at hi hj
    have := tot_two (f := f) hi hj (by omega)
    omega
def At (n : Net) (e : End) (j k : Nat) (x : Joint) : Prop := n.joints[j]? = some x ∧ x.ends[k]? = some e
theorem tot_pos {α : Type} {f : α → Nat} : ∀ {xs : List α}, 0 < tot f xs → ∃ (i : Nat) (x : α), xs[i]? = some x ∧ 0 < f x
  | [], h => by simp [tot] at h
  | a :: xs, h => by
    have ht : tot f (a :: xs) = f a + tot f xs := by simp [tot]
    by_cases ha : 0 < f a
    · exact ⟨0, a, rfl, ha⟩
    · obtain ⟨i, x, h1, h2⟩ := tot_pos (f := f) (xs := xs) (by omega)
      exact ⟨i + 1, x, h1, h2⟩
theorem usesIn_pos {es : List End} {e : End} (h : 0 < usesIn es e) : ∃ k : Nat, es[k]? = some e := by
  obtain ⟨k, x, h1, h2⟩ := tot_pos h
  split at h2
  · rename_i he
    exact ⟨k, by rw [h1, of_eqv he]⟩
  · omega
theorem usesIn_one {es : List End} {e : End} {k : Nat} (h : es[k]? = some e) : 1 ≤ usesIn es e := by
  have := tot_in (f := fun x => if eqv x e = true then 1 else 0) (mem_of_get h)
  simp only [eqv_self, if_true] at this
  exact this
theorem usesIn_two {es : List End} {e : End} {k m : Nat} (h : es[k]? = some e) (h2 : es[m]? = some e) (hne : k < m) : 2 ≤ usesIn es e := by
  have := tot_two (f := fun x => if eqv x e = true then 1 else 0) h h2 hne
  simp only [eqv_self, if_true] at this
  exact this
theorem at_of_uses {n : Net} {e : End} (h : uses n.joints e = 1) : ∃ (j k : Nat) (x : Joint), At n e j k x := by
  obtain ⟨j, x, h1, h2⟩ := tot_pos (f := fun j : Joint => usesIn j.ends e) (xs := n.joints) (by show 0 < uses n.joints e; omega)
  obtain ⟨k, h3⟩ := usesIn_pos h2
  exact ⟨j, k, x, h1, h3⟩
theorem at_one {n : Net} {e : End} (h : uses n.joints e = 1) {j k j' k' : Nat} {x x' : Joint} (h1 : At n e j k x) (h2 : At n e j' k' x') : j' = j ∧ k' = k ∧ x' = x := by
  have hj : j' = j := by
    refine Classical.byContradiction fun hne => ?_
    have u1 := usesIn_one h1.2
    have u2 := usesIn_one h2.2
    rcases Nat.lt_or_gt_of_ne hne with hl | hl
    · have : usesIn x'.ends e + usesIn x.ends e ≤ uses n.joints e := tot_two (f := fun j : Joint => usesIn j.ends e) h2.1 h1.1 hl
      omega
    · have : usesIn x.ends e + usesIn x'.ends e ≤ uses n.joints e := tot_two (f := fun j : Joint => usesIn j.ends e) h1.1 h2.1 hl
      omega
  subst hj
  have hx : x' = x := Option.some.inj (h2.1.symm.trans h1.1)
  subst hx
  refine ⟨rfl, Classical.byContradiction fun hne => ?_, rfl⟩
  have hle : usesIn x'.ends e ≤ uses n.joints e := tot_in (f := fun j : Joint => usesIn j.ends e) (mem_of_get h1.1)
  rcases Nat.lt_or_gt_of_ne hne with hl | hl
  · have := usesIn_two h2.2 h1.2 hl
    omega
  · have := usesIn_two h1.2 h2.2 hl
    omega
structure Good (n : Net) : Prop where
  pos : 0 < n.pieces.length
  le : n.pieces.length ≤ 100
  jle : n.joints.length ≤ 120
  piece : ∀ p ∈ n.pieces, pieceP p
  joint : ∀ x ∈ n.joints, jointP n.pieces.length x
  one : ∀ e, endP n.pieces.length e → uses n.joints e = 1
theorem good_of_ok {n : Net} (h : netOk n = ⟨0, 0⟩) : Good n := by
  obtain ⟨h1, h2, h3, h4⟩ := pieces_of_ok h
  unfold netOk at h
  split at h
  · simp at h
  split at h
  · simp at h
  split at h
  · simp at h
  rename_i g3
  split at h
  · simp at h
  split at h
  · simp at h
  rename_i g5
  refine ⟨h1, h2, h3, h4, fun x hx => Classical.byContradiction fun hb => ?_, fun e he => Classical.byContradiction fun hb => ?_⟩
  · obtain ⟨i, hi⟩ := List.mem_iff_getElem?.1 hx
    exact g3 ⟨i, (List.getElem?_eq_some_iff.1 hi).1, x, hi, hb⟩
  · obtain ⟨p, s⟩ := e
    obtain ⟨⟨e1, e2⟩, e3, e4⟩ := he
    simp only at e1 e2 e3 e4
    obtain ⟨m, rfl⟩ : ∃ m : Nat, p = m := ⟨p.toNat, by omega⟩
    refine g5 ⟨m, by omega, ?_⟩
    rcases (show s = 0 ∨ s = 1 by omega) with rfl | rfl
    · exact .inl hb
    · exact .inr hb
noncomputable def atJ (n : Net) (e : End) : Nat × Nat := if h : ∃ jk : Nat × Nat, ∃ x, At n e jk.1 jk.2 x then h.choose else (0, 0)
def jt (n : Net) (j : Nat) : Joint := n.joints.getD j ⟨0, ⟨#[]⟩, []⟩
def en (x : Joint) (k : Nat) : End := x.ends.getD k ⟨0, 0⟩
theorem atJ_eq {n : Net} {e : End} {j k : Nat} {x : Joint} (hg : Good n) (he : endP n.pieces.length e) (h : At n e j k x) : atJ n e = (j, k) ∧ jt n j = x := by
  have hx : ∃ jk : Nat × Nat, ∃ x, At n e jk.1 jk.2 x := ⟨(j, k), x, h⟩
  refine ⟨?_, by unfold jt; rw [List.getD_eq_getElem?_getD, h.1]; rfl⟩
  unfold atJ
  rw [dif_pos hx]
  obtain ⟨x', h'⟩ := hx.choose_spec
  obtain ⟨h1, h2, _⟩ := at_one (hg.one e he) h h'
  exact Prod.ext h1 h2
theorem at_get {n : Net} {e : End} (hg : Good n) (he : endP n.pieces.length e) : ∃ j k x, At n e j k x ∧ atJ n e = (j, k) ∧ jt n j = x ∧ jointP n.pieces.length x ∧ j < n.joints.length ∧ k < x.ends.length := by
  obtain ⟨j, k, x, h⟩ := at_of_uses (hg.one e he)
  obtain ⟨h1, h2⟩ := atJ_eq hg he h
  exact ⟨j, k, x, h, h1, h2, hg.joint x (mem_of_get h.1), (List.getElem?_eq_some_iff.1 h.1).1, (List.getElem?_eq_some_iff.1 h.2).1⟩
theorem en_get {x : Joint} {k : Nat} (hk : k < x.ends.length) : x.ends[k]? = some (en x k) := by
  unfold en
  rw [List.getD_eq_getElem?_getD, List.getElem?_eq_getElem hk]
  rfl
theorem en_ok {m : Nat} {x : Joint} {k : Nat} (h : jointP m x) (hk : k < x.ends.length) : endP m (en x k) := h.2.2 _ (mem_of_get (en_get hk))
def xr (k : Nat) : Nat := if k = 0 then 1 else if k = 1 then 0 else if k = 2 then 3 else 2
def across (x : Joint) (k : Nat) : List End :=
  if x.kind = 2 then [en x (1 - k)] else if x.kind = 3 then (if k = 0 then [en x 1, en x 2] else [en x 0]) else if x.kind = 4 then [en x (xr k)] else []
def pl (n : Net) (p : Int) : Int := ((n.pieces[p.toNat]?).map Piece.len).getD 0
def headE (p way : Int) : End := if way = 1 then ⟨p, 1⟩ else ⟨p, 0⟩
def wayOf (e : End) : Int := if e.side = 1 then -1 else 1
def farOf (n : Net) (p a way : Int) : Int := if way = 1 then a else pl n p - a
noncomputable def pick (ss : List Signal) (fits : Signal → Prop) (ahead : Signal → Signal → Prop) : Nat → Option Nat
  | 0 => none
  | k + 1 => match ss[k]? with
    | none => pick ss fits ahead k
    | some s => if fits s ∧ (∀ b t, pick ss fits ahead k = some b → ss[b]? = some t → ahead s t) then some k else pick ss fits ahead k
def fitsW (n : Net) (p way far : Int) (s : Signal) : Prop := s.piece = p ∧ s.way = way ∧ far < farOf n p s.at_ way
def aheadW (n : Net) (p way : Int) (s t : Signal) : Prop := farOf n p s.at_ way < farOf n p t.at_ way
noncomputable def firstS (n : Net) (ss : List Signal) (p way far : Int) : Option Nat := pick ss (fitsW n p way far) (aheadW n p way) ss.length
def fitsB (p back : Int) (s : Signal) : Prop := s.piece = p ∧ s.way = back
def aheadB (n : Net) (p back : Int) (s t : Signal) : Prop := farOf n p t.at_ back < farOf n p s.at_ back
noncomputable def lastS (n : Net) (ss : List Signal) (p back : Int) : Option Nat := pick ss (fitsB p back) (aheadB n p back) ss.length
theorem pick_lt {ss : List Signal} {fits : Signal → Prop} {ahead : Signal → Signal → Prop} : ∀ {k b : Nat}, pick ss fits ahead k = some b → b < k ∧ b < ss.length ∧ ∃ s, ss[b]? = some s ∧ fits s
  | 0, b, h => by simp [pick] at h
  | k + 1, b, h => by
    unfold pick at h
    split at h
    · obtain ⟨h1, h2, h3⟩ := pick_lt h
      exact ⟨by omega, h2, h3⟩
    · rename_i s hs
      split at h
      · rename_i hc
        obtain rfl := Option.some.inj h
        exact ⟨by omega, (List.getElem?_eq_some_iff.1 hs).1, s, hs, hc.1⟩
      · obtain ⟨h1, h2, h3⟩ := pick_lt h
        exact ⟨by omega, h2, h3⟩
theorem pick_yes {ss : List Signal} {fits : Signal → Prop} {ahead : Signal → Signal → Prop} {k : Nat} {s : Signal} (hs : ss[k]? = some s) (hf : fits s) (ha : ∀ b t, pick ss fits ahead k = some b → ss[b]? = some t → ahead s t) : pick ss fits ahead (k + 1) = some k := by
  rw [pick]
  simp only [hs]
  rw [if_pos ⟨hf, ha⟩]
theorem pick_not {ss : List Signal} {fits : Signal → Prop} {ahead : Signal → Signal → Prop} {k : Nat} {s : Signal} (hs : ss[k]? = some s) (hf : ¬ fits s) : pick ss fits ahead (k + 1) = pick ss fits ahead k := by
  rw [pick]
  simp only [hs]
  rw [if_neg (fun h => hf h.1)]
theorem pick_old {ss : List Signal} {fits : Signal → Prop} {ahead : Signal → Signal → Prop} {k b : Nat} {s t : Signal} (hs : ss[k]? = some s) (hb : pick ss fits ahead k = some b) (ht : ss[b]? = some t) (ha : ¬ ahead s t) : pick ss fits ahead (k + 1) = some b := by
  rw [pick]
  simp only [hs]
  rw [if_neg (fun h => ha (h.2 b t hb ht)), hb]
def onum (o : Option Nat) : Int := match o with
  | none => -1
  | some b => b
def partN (n : Net) (p way a b : Int) : Part := if way = 1 then ⟨p, a, b⟩ else ⟨p, pl n p - b, pl n p - a⟩
noncomputable def beyond (n : Net) : Nat → Int → Int → Int → Int → List Part
  | 0, _, _, _, _ => []
  | m + 1, p, way, far, left =>
    if left ≤ 0 then [] else
    let til := if far + left ≤ pl n p then far + left else pl n p
    let jk := atJ n (headE p way)
    if left - (til - far) = 0 ∨ ¬ (jt n jk.1).kind = 2 then [partN n p way far til]
    else
      let e := en (jt n jk.1) (1 - jk.2)
      partN n p way far til :: beyond n m e.piece (wayOf e) 0 (left - (til - far))
noncomputable def flankF (n : Net) (ss : List Signal) (lies : List Lie) (a : Int) : Nat → List End × List Flank → End → List End × List Flank
  | 0, st, _ => st
  | m + 1, (seen, fl), e =>
    if e ∈ seen then (seen, fl) else
    match lastS n ss e.piece (if e.side = 0 then -1 else 1) with
    | some b => (seen ++ [e], fl ++ [⟨a, 2, b, 0⟩])
    | none =>
      let jk := atJ n ⟨e.piece, 1 - e.side⟩
      let x := jt n jk.1
      if x.kind = 1 then (seen ++ [e], fl ++ [⟨a, 1, jk.1, 0⟩])
      else if x.kind = 3 then
        if jk.2 = 0 then flankF n ss lies a m (flankF n ss lies a m (seen ++ [e], fl) (en x 1)) (en x 2)
        else if (⟨jk.1, jk.2⟩ : Lie) ∈ lies then (seen ++ [e], fl ++ [⟨a, 4, jk.1, 0⟩])
        else (seen ++ [e], fl ++ [⟨a, 3, jk.1, 3 - jk.2⟩])
      else flankF n ss lies a m (seen ++ [e], fl) ((across x jk.2).headD ⟨0, 0⟩)
noncomputable def flanksAt (n : Net) (ss : List Signal) (lies : List Lie) (l : Lie) : List Flank :=
  (flankF n ss lies l.joint (2 * n.pieces.length + 1) ([], []) (en (jt n l.joint.toNat) (3 - l.lie).toNat)).2
noncomputable def flanksOf (n : Net) (ss : List Signal) (lies : List Lie) : List Flank := (lies.map (flanksAt n ss lies)).flatten
noncomputable def addLie (lies : List Lie) (j : Nat) (l : Int) : Option (List Lie) :=
  match lies.find? (fun x => eqv x.joint (j : Int)) with
  | some x => if x.lie = l then some lies else none
  | none => some (lies ++ [⟨j, l⟩])
def lieAt (k i : Nat) : Int := if k = 0 then (i : Int) + 1 else k
noncomputable def goOn (r : Route) (x : Joint) (j k i : Nat) : Option Route :=
  if x.kind = 3 then (addLie r.lies j (lieAt k i)).map (fun l => { r with lies := l })
  else if x.kind = 4 then some { r with crosses := r.crosses ++ [(j : Int)] }
  else some r
noncomputable def fin (n : Net) (ss : List Signal) (r : Route) : Route := { r with flanks := flanksOf n ss r.lies }
abbrev St := List Route × Nat
def full (st : St) : Prop := 300 < st.1.length ∨ 20000 < st.2
noncomputable def kidsTo (go : St → Route → Int → Int → Int → St) (r : Route) (x : Joint) (j k : Nat) (l : List End) (st : St) : Nat → St
  | 0 => st
  | i + 1 => match l[i]? with
    | none => kidsTo go r x j k l st i
    | some e => match goOn r x j k i with
      | none => kidsTo go r x j k l st i
      | some q => go (kidsTo go r x j k l st i) q e.piece (wayOf e) 0
def Route.on (r : Route) (n : Net) (p way a b : Int) : Route := { r with steps := r.steps ++ [⟨p, way⟩], parts := r.parts ++ [partN n p way a b] }
def sigFar (n : Net) (ss : List Signal) (b : Nat) (p way : Int) : Int := farOf n p (((ss[b]?).map Signal.at_).getD 0) way
noncomputable def sigR (n : Net) (ss : List Signal) (ov : Int) (r : Route) (p way far : Int) (b : Nat) : Route :=
  { r.on n p way far (sigFar n ss b p way) with til := b, over := beyond n (ov.toNat + 1) p way (sigFar n ss b p way) ov }
noncomputable def walkF (n : Net) (ss : List Signal) (ov : Int) : Nat → St → Route → Int → Int → Int → St
  | 0, st, _, _, _, _ => st
  | m + 1, st, r, p, way, far =>
    if full (st.1, st.2 + 1) then (st.1, st.2 + 1) else
    match firstS n ss p way far with
    | some b => (st.1 ++ [fin n ss (sigR n ss ov r p way far b)], st.2 + 1)
    | none =>
      if (⟨p, way⟩ : Step) ∈ r.steps then (st.1, st.2 + 1) else
      if (jt n (atJ n (headE p way)).1).kind = 1 then (st.1 ++ [fin n ss { r.on n p way far (pl n p) with til := -1 }], st.2 + 1)
      else kidsTo (walkF n ss ov m) (r.on n p way far (pl n p)) (jt n (atJ n (headE p way)).1) (atJ n (headE p way)).1 (atJ n (headE p way)).2
        (across (jt n (atJ n (headE p way)).1) (atJ n (headE p way)).2) (st.1, st.2 + 1) (across (jt n (atJ n (headE p way)).1) (atJ n (headE p way)).2).length
section
variable {n : Net} {ss : List Signal} {ov : Int} {m : Nat} {st : St} {r : Route} {p way far : Int}
theorem walkF_full (h : full (st.1, st.2 + 1)) : walkF n ss ov (m + 1) st r p way far = (st.1, st.2 + 1) := by rw [walkF, if_pos h]
theorem walkF_sig {b : Nat} (h : ¬ full (st.1, st.2 + 1)) (hb : firstS n ss p way far = some b) : walkF n ss ov (m + 1) st r p way far = (st.1 ++ [fin n ss (sigR n ss ov r p way far b)], st.2 + 1) := by
  rw [walkF, if_neg h]
  simp only [hb]
theorem walkF_round (h : ¬ full (st.1, st.2 + 1)) (hb : firstS n ss p way far = none) (hr : (⟨p, way⟩ : Step) ∈ r.steps) : walkF n ss ov (m + 1) st r p way far = (st.1, st.2 + 1) := by
  rw [walkF, if_neg h]
  simp only [hb]
  rw [if_pos hr]
theorem walkF_end {j k : Nat} {x : Joint} (h : ¬ full (st.1, st.2 + 1)) (hb : firstS n ss p way far = none) (hr : ¬ (⟨p, way⟩ : Step) ∈ r.steps) (ha : atJ n (headE p way) = (j, k)) (hx : jt n j = x) (h1 : x.kind = 1) :
    walkF n ss ov (m + 1) st r p way far = (st.1 ++ [fin n ss { r.on n p way far (pl n p) with til := -1 }], st.2 + 1) := by
  rw [walkF, if_neg h]
  simp only [hb]
  rw [if_neg hr, ha]
  simp only [hx]
  rw [if_pos h1]
theorem walkF_on {j k : Nat} {x : Joint} (h : ¬ full (st.1, st.2 + 1)) (hb : firstS n ss p way far = none) (hr : ¬ (⟨p, way⟩ : Step) ∈ r.steps) (ha : atJ n (headE p way) = (j, k)) (hx : jt n j = x) (h1 : ¬ x.kind = 1) :
    walkF n ss ov (m + 1) st r p way far = kidsTo (walkF n ss ov m) (r.on n p way far (pl n p)) x j k (across x k) (st.1, st.2 + 1) (across x k).length := by
  rw [walkF, if_neg h]
  simp only [hb]
  rw [if_neg hr, ha]
  simp only [hx]
  rw [if_neg h1]
end
noncomputable def startR (i : Nat) : Route := ⟨i, 0, [], [], [], [], [], []⟩
noncomputable def allF (n : Net) (ss : List Signal) (ov : Int) : Nat → St
  | 0 => ([], 0)
  | k + 1 => match ss[k]? with
    | none => allF n ss ov k
    | some s => walkF n ss ov (2 * n.pieces.length + 1) (allF n ss ov k) (startR k) s.piece s.way (farOf n s.piece s.at_ s.way)
noncomputable def routesF (n : Net) (ss : List Signal) (ov : Int) : List Route :=
  if ¬ signalsOk n ss = ⟨0, 0⟩ ∨ ¬ (0 ≤ ov ∧ ov ≤ 100000) then []
  else if full (allF n ss ov ss.length) then [] else (allF n ss ov ss.length).1
end Go.Proofs.YtpggopdojhodaaaGreat.L
namespace Go.Proofs.YtpggopdojhodaaaGreat.L
open Go.RowKit
open Classical
set_option linter.unusedVariables false
theorem nodup_bound : ∀ (m : Nat) (l : List Nat), l.Nodup → (∀ x ∈ l, x < m) → l.length ≤ m
  | 0, l, _, h => by
    cases l with
    | nil => exact Nat.le_refl _
    | cons a l => exact absurd (h a (by simp)) (by omega)
  | m + 1, l, hn, h => by
    have h1 := nodup_bound m (l.erase m) (hn.erase m) (fun x hx => by
      have h2 := h x (List.mem_of_mem_erase hx)
      have h3 : x ≠ m := fun e => by
        subst e
        exact (hn.not_mem_erase hx).elim
      omega)
    rw [List.length_erase] at h1
    split at h1 <;> omega
theorem nodup_map {α : Type} {f : α → Nat} : ∀ {l : List α}, l.Nodup → (∀ x ∈ l, ∀ y ∈ l, f x = f y → x = y) → (l.map f).Nodup
  | [], _, _ => by simp
  | a :: l, hn, hf => by
    rw [List.nodup_cons] at hn
    rw [List.map_cons, List.nodup_cons]
    refine ⟨fun h => ?_, nodup_map hn.2 (fun x hx y hy => hf x (List.mem_cons_of_mem _ hx) y (List.mem_cons_of_mem _ hy))⟩
    obtain ⟨b, hb, he⟩ := List.mem_map.1 h
    have := hf b (List.mem_cons_of_mem _ hb) a (by simp) he
    subst this
    exact hn.1 hb
theorem nodup_snoc {α : Type} {l : List α} {x : α} (hn : l.Nodup) (hx : ¬ x ∈ l) : (l ++ [x]).Nodup := by
  rw [List.nodup_append]
  refine ⟨hn, by simp, fun a ha b hb e => ?_⟩
  rw [List.mem_singleton.1 hb] at e
  subst e
  exact hx ha
def stepP (m : Nat) (s : Step) : Prop := (0 ≤ s.piece ∧ s.piece ≤ (m : Int) - 1) ∧ (s.way = 1 ∨ s.way = -1)
theorem steps_bound {m : Nat} {l : List Step} (hn : l.Nodup) (h : ∀ s ∈ l, stepP m s) : l.length ≤ 2 * m := by
  have := nodup_bound (2 * m) (l.map (fun s => 2 * s.piece.toNat + (if s.way = 1 then 1 else 0))) (nodup_map hn (fun x hx y hy e => by
    obtain ⟨⟨a1, a2⟩, a3⟩ := h x hx
    obtain ⟨⟨b1, b2⟩, b3⟩ := h y hy
    obtain ⟨p, v⟩ := x
    obtain ⟨q, u⟩ := y
    simp only at a1 a2 a3 b1 b2 b3 e
    rcases a3 with rfl | rfl <;> rcases b3 with rfl | rfl <;> simp at e ⊢ <;> omega)) (fun x hx => by
    obtain ⟨s, hs, rfl⟩ := List.mem_map.1 hx
    obtain ⟨⟨a1, a2⟩, a3⟩ := h s hs
    split <;> omega)
  rwa [List.length_map] at this
theorem ends_bound {m : Nat} {l : List End} (hn : l.Nodup) (h : ∀ s ∈ l, endP m s) : l.length ≤ 2 * m := by
  have := nodup_bound (2 * m) (l.map (fun s => 2 * s.piece.toNat + s.side.toNat)) (nodup_map hn (fun x hx y hy e => by
    obtain ⟨⟨a1, a2⟩, a3⟩ := h x hx
    obtain ⟨⟨b1, b2⟩, b3⟩ := h y hy
    obtain ⟨p, v⟩ := x
    obtain ⟨q, u⟩ := y
    simp only at a1 a2 a3 b1 b2 b3 e
    have : p = q ∧ v = u := by omega
    rw [this.1, this.2])) (fun x hx => by
    obtain ⟨s, hs, rfl⟩ := List.mem_map.1 hx
    obtain ⟨⟨a1, a2⟩, a3⟩ := h s hs
    omega)
  rwa [List.length_map] at this
theorem head_ok {m : Nat} {p way : Int} (h : stepP m ⟨p, way⟩) : endP m (headE p way) := by
  obtain ⟨h1, h2⟩ := h
  unfold headE
  split
  · exact ⟨h1, by show (0 : Int) ≤ 1; omega, by show (1 : Int) ≤ 1; omega⟩
  · exact ⟨h1, by show (0 : Int) ≤ 0; omega, by show (0 : Int) ≤ 1; omega⟩
theorem step_of_end {m : Nat} {e : End} (h : endP m e) : stepP m ⟨e.piece, wayOf e⟩ := by
  refine ⟨h.1, ?_⟩
  unfold wayOf
  split
  · exact .inr rfl
  · exact .inl rfl
theorem other_ok {m : Nat} {e : End} (h : endP m e) : endP m ⟨e.piece, 1 - e.side⟩ := by
  obtain ⟨h1, h2, h3⟩ := h
  exact ⟨h1, by show (0 : Int) ≤ 1 - e.side; omega, by show 1 - e.side ≤ (1 : Int); omega⟩
theorem xr_lt {k : Nat} (h : k < 4) : xr k < 4 := by unfold xr; split <;> (try split) <;> (try split) <;> omega
theorem across_ok {m : Nat} {x : Joint} {k : Nat} (h : jointP m x) (hk : k < x.ends.length) {e : End} (he : e ∈ across x k) : endP m e := by
  obtain ⟨⟨h1, h2⟩, h3, h4⟩ := h
  have hj : jointP m x := ⟨⟨h1, h2⟩, h3, h4⟩
  unfold across at he
  split at he
  · rw [List.mem_singleton.1 he]
    exact en_ok hj (by omega)
  split at he
  · split at he
    · rcases List.mem_cons.1 he with rfl | he
      · exact en_ok hj (by omega)
      · rw [List.mem_singleton.1 he]
        exact en_ok hj (by omega)
    · rw [List.mem_singleton.1 he]
      exact en_ok hj (by omega)
  split at he
  · rw [List.mem_singleton.1 he]
    exact en_ok hj (by have := xr_lt (k := k) (by omega); omega)
  · cases he
theorem across_len (x : Joint) (k : Nat) : (across x k).length ≤ 2 := by
  unfold across
  split
  · simp
  split
  · split <;> simp
  split <;> simp
def lieP (n : Net) (l : Lie) : Prop := ∃ j : Nat, l.joint = j ∧ j < n.joints.length ∧ (jt n j).kind = 3 ∧ (l.lie = 1 ∨ l.lie = 2)
structure RInv (n : Net) (ss : List Signal) (r : Route) : Prop where
  nodup : r.steps.Nodup
  step : ∀ s ∈ r.steps, stepP n.pieces.length s
  parts : r.parts.length = r.steps.length
  liesN : r.lies.length ≤ r.steps.length
  lies : ∀ l ∈ r.lies, lieP n l
  crosses : r.crosses.length ≤ r.steps.length
  over : r.over = []
  flanks : r.flanks = []
theorem flankF_len {n : Net} {ss : List Signal} {lies : List Lie} {a : Int} : ∀ (m : Nat) (st : List End × List Flank) (e : End),
    (flankF n ss lies a m st e).2.length + st.1.length ≤ st.2.length + (flankF n ss lies a m st e).1.length
  | 0, st, e => by unfold flankF; omega
  | m + 1, (seen, fl), e => by
    unfold flankF
    split
    · simp only []; omega
    split
    · simp; omega
    simp only []
    split
    · simp; omega
    split
    · split
      · have h1 := flankF_len (n := n) (ss := ss) (lies := lies) (a := a) m (seen ++ [e], fl) (en (jt n (atJ n ⟨e.piece, 1 - e.side⟩).1) 1)
        have h2 := flankF_len (n := n) (ss := ss) (lies := lies) (a := a) m (flankF n ss lies a m (seen ++ [e], fl) (en (jt n (atJ n ⟨e.piece, 1 - e.side⟩).1) 1)) (en (jt n (atJ n ⟨e.piece, 1 - e.side⟩).1) 2)
        simp only [List.length_append, List.length_singleton] at h1 h2 ⊢
        omega
      · split <;> (simp; omega)
    · have h1 := flankF_len (n := n) (ss := ss) (lies := lies) (a := a) m (seen ++ [e], fl) ((across (jt n (atJ n ⟨e.piece, 1 - e.side⟩).1) (atJ n ⟨e.piece, 1 - e.side⟩).2).headD ⟨0, 0⟩)
      simp only [List.length_append, List.length_singleton] at h1 ⊢
      omega
theorem head_across {m : Nat} {x : Joint} {k : Nat} (h : jointP m x) (hk : k < x.ends.length) (h1 : ¬ x.kind = 1) : endP m ((across x k).headD ⟨0, 0⟩) := by
  refine across_ok h hk ?_
  obtain ⟨⟨g1, g2⟩, g3, g4⟩ := h
  unfold across
  split
  · simp
  split
  · split <;> simp
  split
  · simp
  · omega
theorem flankF_seen {n : Net} {ss : List Signal} {lies : List Lie} {a : Int} (hg : Good n) : ∀ (m : Nat) (st : List End × List Flank) (e : End), endP n.pieces.length e → st.1.Nodup → (∀ x ∈ st.1, endP n.pieces.length x) →
    (flankF n ss lies a m st e).1.Nodup ∧ (∀ x ∈ (flankF n ss lies a m st e).1, endP n.pieces.length x) ∧ st.1.length ≤ (flankF n ss lies a m st e).1.length
  | 0, st, e, he, hn, hs => by unfold flankF; exact ⟨hn, hs, Nat.le_refl _⟩
  | m + 1, (seen, fl), e, he, hn, hs => by
    unfold flankF
    split
    · exact ⟨hn, hs, Nat.le_refl _⟩
    rename_i hne
    have hn' : (seen ++ [e]).Nodup := nodup_snoc hn hne
    have hs' : ∀ x ∈ seen ++ [e], endP n.pieces.length x := fun x hx => by
      rcases List.mem_append.1 hx with hx | hx
      · exact hs x hx
      · rw [List.mem_singleton.1 hx]
        exact he
    have hl : seen.length ≤ (seen ++ [e]).length := by simp
    split
    · exact ⟨hn', hs', hl⟩
    obtain ⟨j, k, x, hat, h1, h2, h3, h4, h5⟩ := at_get hg (other_ok he)
    simp only [h1, h2]
    split
    · exact ⟨hn', hs', hl⟩
    rename_i hk1
    split
    · rename_i hk3
      have hlen : (x.ends.length : Int) = 3 := by rw [h3.2.1, hk3]
      split
      · obtain ⟨a1, a2, a3⟩ := flankF_seen (ss := ss) (lies := lies) (a := a) hg m (seen ++ [e], fl) (en x 1) (en_ok h3 (by omega)) hn' hs'
        obtain ⟨b1, b2, b3⟩ := flankF_seen (ss := ss) (lies := lies) (a := a) hg m _ (en x 2) (en_ok h3 (by omega)) a1 a2
        exact ⟨b1, b2, by simp only [List.length_append, List.length_singleton] at a3 b3 ⊢; omega⟩
      · split <;> exact ⟨hn', hs', hl⟩
    · obtain ⟨a1, a2, a3⟩ := flankF_seen (ss := ss) (lies := lies) (a := a) hg m (seen ++ [e], fl) ((across x k).headD ⟨0, 0⟩) (head_across h3 h5 hk1) hn' hs'
      exact ⟨a1, a2, by simp only [List.length_append, List.length_singleton] at a3 ⊢; omega⟩
section
variable {n : Net} {ss : List Signal} {ov : Int}
theorem kidsTo_inv {go : St → Route → Int → Int → Int → St} {r : Route} {x : Joint} {j k : Nat} {l : List End} {st : St} (P : St → Prop) (h0 : P st)
    (hs : ∀ i e q st', l[i]? = some e → goOn r x j k i = some q → P st' → P (go st' q e.piece (wayOf e) 0)) : ∀ i, P (kidsTo go r x j k l st i)
  | 0 => h0
  | i + 1 => by
    have ih := kidsTo_inv P h0 hs i
    unfold kidsTo
    split
    · exact ih
    rename_i e he
    split
    · exact ih
    · rename_i q hq
      exact hs i e q _ he hq ih
theorem walkF_len : ∀ (m : Nat) (st : St) (r : Route) (p way far : Int), st.1.length ≤ 301 → (walkF n ss ov m st r p way far).1.length ≤ 301
  | 0, st, r, p, way, far, h => h
  | m + 1, st, r, p, way, far, h => by
    by_cases hf : full (st.1, st.2 + 1)
    · rw [walkF_full hf]
      exact h
    have hl : st.1.length ≤ 300 := by
      unfold full at hf
      simp only [] at hf
      omega
    cases hb : firstS n ss p way far with
    | some b =>
      rw [walkF_sig hf hb]
      simp
      omega
    | none =>
      by_cases hr : (⟨p, way⟩ : Step) ∈ r.steps
      · rw [walkF_round hf hb hr]
        exact h
      obtain ⟨j, k, ha⟩ : ∃ j k, atJ n (headE p way) = (j, k) := ⟨_, _, rfl⟩
      by_cases h1 : (jt n j).kind = 1
      · rw [walkF_end hf hb hr ha rfl h1]
        simp
        omega
      · rw [walkF_on hf hb hr ha rfl h1]
        exact kidsTo_inv (st := (st.1, st.2 + 1)) (fun s => s.1.length ≤ 301) h (fun i e q st' _ _ hs => walkF_len m st' q _ _ _ hs) _
theorem walkF_tries : ∀ (m : Nat) (st : St) (r : Route) (p way far : Int), (walkF n ss ov m st r p way far).2 ≤ max (st.2 + 1) (20002 + m)
  | 0, st, r, p, way, far => by
    show st.2 ≤ _
    omega
  | m + 1, st, r, p, way, far => by
    by_cases hf : full (st.1, st.2 + 1)
    · rw [walkF_full hf]
      show st.2 + 1 ≤ _
      omega
    have hl : st.2 + 1 ≤ 20000 := by
      unfold full at hf
      simp only [] at hf
      omega
    cases hb : firstS n ss p way far with
    | some b =>
      rw [walkF_sig hf hb]
      show st.2 + 1 ≤ _
      omega
    | none =>
      by_cases hr : (⟨p, way⟩ : Step) ∈ r.steps
      · rw [walkF_round hf hb hr]
        show st.2 + 1 ≤ _
        omega
      obtain ⟨j, k, ha⟩ : ∃ j k, atJ n (headE p way) = (j, k) := ⟨_, _, rfl⟩
      by_cases h1 : (jt n j).kind = 1
      · rw [walkF_end hf hb hr ha rfl h1]
        show st.2 + 1 ≤ _
        omega
      · rw [walkF_on hf hb hr ha rfl h1]
        have hal := across_len (jt n j) k
        generalize across (jt n j) k = l at hal ⊢
        generalize r.on n p way far (pl n p) = r1
        have key : ∀ i, i ≤ 2 → (kidsTo (walkF n ss ov m) r1 (jt n j) j k l (st.1, st.2 + 1) i).2 ≤ (if i = 0 then st.2 + 1 else if i = 1 then max (st.2 + 2) (20002 + m) else max (st.2 + 3) (20002 + m + 1)) := by
          intro i
          induction i with
          | zero => exact fun _ => Nat.le_refl _
          | succ i ih =>
            intro hi
            have ih := ih (by omega)
            have hcase : i = 0 ∨ i = 1 := by omega
            have hno : (kidsTo (walkF n ss ov m) r1 (jt n j) j k l (st.1, st.2 + 1) i).2 ≤ (if i + 1 = 0 then st.2 + 1 else if i + 1 = 1 then max (st.2 + 2) (20002 + m) else max (st.2 + 3) (20002 + m + 1)) := by
              rcases hcase with rfl | rfl
              · simp at ih ⊢
                omega
              · simp at ih ⊢
                omega
            cases he : l[i]? with
            | none =>
              rw [kidsTo]
              simp only [he]
              exact hno
            | some e =>
            cases hq : goOn r1 (jt n j) j k i with
            | none =>
              rw [kidsTo]
              simp only [he, hq]
              exact hno
            | some q =>
              rw [kidsTo]
              simp only [he, hq]
              have hw := walkF_tries m (kidsTo (walkF n ss ov m) r1 (jt n j) j k l (st.1, st.2 + 1) i) q e.piece (wayOf e) 0
              rcases hcase with rfl | rfl
              · simp at ih hw ⊢
                omega
              · simp at ih hw ⊢
                omega
        have := key l.length hal
        rcases (show l.length = 0 ∨ l.length = 1 ∨ l.length = 2 by omega) with h0 | h0 | h0
        · rw [h0] at this ⊢
          simp at this
          omega
        · rw [h0] at this ⊢
          simp at this
          omega
        · rw [h0] at this ⊢
          simp at this
          omega
end
end Go.Proofs.YtpggopdojhodaaaGreat.L
namespace Go.Proofs.YtpggopdojhodaaaGreat.L
open Go.RowKit
set_option linter.unusedVariables false
set_option linter.unusedSimpArgs false
def RetAt (jk : Nat × Nat) (w : World) (e : Ending) (w' : World) : Prop := e = .returned (.tuple #[.int .i64 jk.1, .int .i64 jk.2]) ∧ Below w.heap.size w w'
set_option maxRecDepth 100000 in
set_option maxHeartbeats 4000000 in
theorem specAt {ok : Nat → Prop} (n : Net) (A0 A1 : Option Addr) (c0 c1 : Nat) (e : End) (w : World) (h : NC 136 w ok n A0 A1) (hg : Hid (Good n)) (he : Hid (endP n.pieces.length e)) :
    Calls Tryz.prog 77 #[.agg #[.slice A0 n.pieces.length c0, .slice A1 n.joints.length c1], e.v] w (RetAt (atJ n e) w) := by
  obtain ⟨j, k, x, hat, hjk, hx, _, hjl, hkl⟩ := at_get hg.out he.out
  obtain ⟨p, s⟩ := e
  have HJK := Lib.hid hjk
  have HAT := Lib.hid hat
  have hmj := h.j.1
  have hjle := hg.out.jle
  have UN : Hid (∀ j' k' x', At n ⟨p, s⟩ j' k' x' → j' = j ∧ k' = k) := Lib.hid (fun j' k' x' h' => by obtain ⟨h1, h2, _⟩ := at_one (hg.out.one _ he.out) hat h'; exact ⟨h1, h2⟩)
  have HKL : Hid (∀ y, n.joints[j]? = some y → k < y.ends.length) := Lib.hid (fun y hy => by have := hat.1.symm.trans hy; obtain rfl := Option.some.inj this; exact hkl)
  clear hat hjk hx hkl
  go_enter Tryz.func77, Tryz.ntmps77
  go_wp2
  obtain ⟨W0, hW, HB0, h0, h1, f0, f1⟩ : ∃ W, W = (w.alloc (.cells #[.slice A0 n.pieces.length c0, .slice A1 n.joints.length c1] 34)).alloc (.cells #[.int .i64 p, .int .i64 s] 136) ∧ Below w.heap.size w W ∧ w.heap.size < W.heap.size ∧ w.heap.size + 1 < W.heap.size ∧
    W.cell? ⟨w.heap.size + 1, 0, none⟩ = some (.int .i64 p) ∧ W.cell? ⟨w.heap.size + 1, 1, none⟩ = some (.int .i64 s) := ⟨_, rfl, (below_alloc _ _).alloc (by simp) _, by simp; omega, by simp, by simp, by simp⟩
  rw [← hW]
  clear hW
  go_loopw [13] (fun i wr => ∃ m : Nat, m ≤ j ∧ i = .int .i64 m ∧ Below W0.heap.size W0 wr) (fun i _ => j - (intOf i).toNat)
  case atStart => exact ⟨0, Nat.zero_le _, rfl, Below.refl _ _⟩
  case round =>
    obtain ⟨m, hm, rfl, hb⟩ := hrel
    obtain ⟨wo, rfl⟩ : ∃ wo : World, wo = wr := ⟨_, rfl⟩
    have hbw := HB0.trans (hb.mono HB0.size)
    obtain ⟨a1, rfl, y, E, A2, c2, g0, g1, g2, l2, q2⟩ := jointK_at (Kn.C_below hbw h.j) m (by omega)
    have i0 : (0 : Int) ≤ (m : Int) := Int.natCast_nonneg _
    have i1 : (m : Int) < (n.joints.length : Int) := by omega
    have hm2 := q2.1
    have HK : Hid (m = j → k < y.ends.length) := Lib.hid (fun e => HKL.out y (by subst e; exact E.out))
    go_wp2
    obtain ⟨W1, hW, HB1, h2, h3, k0, k1⟩ : ∃ W, W = wo.alloc (.cells #[.int .i64 y.kind, .string y.name, .slice A2 y.ends.length c2] 139) ∧ Below wo.heap.size wo W ∧ w.heap.size + 1 < W.heap.size ∧ wo.heap.size < W.heap.size ∧
      W.cell? ⟨w.heap.size + 1, 0, none⟩ = some (.int .i64 p) ∧ W.cell? ⟨w.heap.size + 1, 1, none⟩ = some (.int .i64 s) := ⟨_, rfl, below_alloc _ _, by have := hb.size; simp; omega, by simp, cell_below (below_alloc _ _) (cell_below hb f0), cell_below (below_alloc _ _) (cell_below hb f1)⟩
    rw [← hW]
    clear hW
    have hb1 := hb.trans (HB1.mono hb.size)
    go_loopw [21] (fun i wr => ∃ q : Nat, q ≤ y.ends.length ∧ i = .int .i64 q ∧ Hid (m = j → q ≤ k) ∧ Below W1.heap.size W1 wr) (fun i _ => y.ends.length - (intOf i).toNat)
    case atStart => exact ⟨0, Nat.zero_le _, rfl, Lib.hid (fun _ => Nat.zero_le _), Below.refl _ _⟩
    case round =>
      obtain ⟨q, hq, rfl, HQ, hbi⟩ := hrel
      have hbj := hb1.trans (hbi.mono hb1.size)
      have t0 := cell_below hbi k0
      have t1 := cell_below hbi k1
      have hs : w.heap.size + 1 < wr.heap.size := by have := hbi.size; omega
      by_cases hlq : q < y.ends.length
      · obtain ⟨a2, rfl, y0, y1, E1, g3, g4⟩ := endK_at (Kn.C_below (HB1.trans (hbi.mono HB1.size)) q2) q hlq
        have j0 : (0 : Int) ≤ (q : Int) := Int.natCast_nonneg _
        have j1 : (q : Int) < (y.ends.length : Int) := by omega
        by_cases e0 : y0 = p
        rotate_left
        · have d0 : (y0 == p) = false := int_eqf e0
          have HQ2 : Hid (m = j → q + 1 ≤ k) := Lib.hid (fun e => by
            have h1 := HQ.out e
            by_cases h2 : q = k
            · subst e h2
              have h3 := HAT.out.1.symm.trans E.out
              obtain rfl := Option.some.inj h3
              have h4 := HAT.out.2.symm.trans E1.out
              injection h4 with h4
              injection h4 with h4 h5
              exact (e0 (by first | exact h4 | exact h4.symm)).elim
            · omega)
          clear e0
          go_wp2
          go_roundw
          case rel => exact ⟨q + 1, by omega, by go_num, HQ2, hbi.alloc hbi.size _⟩
          case measure => simp [intOf]; omega
        have d0 : (y0 == p) = true := int_eqt e0
        by_cases e1 : y1 = s
        rotate_left
        · have d1 : (y1 == s) = false := int_eqf e1
          have HQ2 : Hid (m = j → q + 1 ≤ k) := Lib.hid (fun e => by
            have h1 := HQ.out e
            by_cases h2 : q = k
            · subst e h2
              have h3 := HAT.out.1.symm.trans E.out
              obtain rfl := Option.some.inj h3
              have h4 := HAT.out.2.symm.trans E1.out
              injection h4 with h4
              injection h4 with h4 h5
              exact (e1 (by first | exact h5 | exact h5.symm)).elim
            · omega)
          clear e0 e1
          go_wp2
          go_roundw
          case rel => exact ⟨q + 1, by omega, by go_num, HQ2, hbi.alloc hbi.size _⟩
          case measure => simp [intOf]; omega
        have d1 : (y1 == s) = true := int_eqt e1
        have HN : Hid (atJ n ⟨p, s⟩ = (m, q)) := Lib.hid (by
          obtain ⟨h1, h2⟩ := UN.out m q y ⟨E.out, by rw [E1.out]; first | rw [e0, e1] | rw [← e0, ← e1]⟩
          rw [HJK.out, h1, h2])
        clear e0 e1
        go_wp2
        go_ret2
        exact ⟨by rw [HN.out]; rfl, HB0.trans ((hbj.alloc hbj.size _).mono HB0.size)⟩
      · have hmj' : m + 1 ≤ j := by
          have h1 : m ≠ j := fun e => by have := HQ.out e; have := HK.out e; omega
          omega
        go_wp2
        go_roundw
        case rel => exact ⟨m + 1, hmj', by go_num, hbj⟩
        case measure => simp [intOf]; omega
set_option maxRecDepth 100000 in
set_option maxHeartbeats 4000000 in
theorem implAt {ok : Nat → Prop} (n : Net) (A0 A1 : Option Addr) (c0 c1 : Nat) (e : End) (w : World) (h : NC 136 w ok n A0 A1) (hg : Hid (Good n)) (he : Hid (endP n.pieces.length e)) :
    Calls Tryz.prog 129 #[.agg #[.slice A0 n.pieces.length c0, .slice A1 n.joints.length c1], e.v] w (RetAt (atJ n e) w) := by
  obtain ⟨j, k, x, hat, hjk, hx, _, hjl, hkl⟩ := at_get hg.out he.out
  obtain ⟨p, s⟩ := e
  have HJK := Lib.hid hjk
  have HAT := Lib.hid hat
  have hmj := h.j.1
  have hjle := hg.out.jle
  have UN : Hid (∀ j' k' x', At n ⟨p, s⟩ j' k' x' → j' = j ∧ k' = k) := Lib.hid (fun j' k' x' h' => by obtain ⟨h1, h2, _⟩ := at_one (hg.out.one _ he.out) hat h'; exact ⟨h1, h2⟩)
  have HKL : Hid (∀ y, n.joints[j]? = some y → k < y.ends.length) := Lib.hid (fun y hy => by have := hat.1.symm.trans hy; obtain rfl := Option.some.inj this; exact hkl)
  clear hat hjk hx hkl
  go_enter Tryz.func129, Tryz.ntmps129
  go_wp2
  obtain ⟨W0, hW, HB0, h0, h1, f0, f1⟩ : ∃ W, W = (w.alloc (.cells #[.slice A0 n.pieces.length c0, .slice A1 n.joints.length c1] 34)).alloc (.cells #[.int .i64 p, .int .i64 s] 136) ∧ Below w.heap.size w W ∧ w.heap.size < W.heap.size ∧ w.heap.size + 1 < W.heap.size ∧
    W.cell? ⟨w.heap.size + 1, 0, none⟩ = some (.int .i64 p) ∧ W.cell? ⟨w.heap.size + 1, 1, none⟩ = some (.int .i64 s) := ⟨_, rfl, (below_alloc _ _).alloc (by simp) _, by simp; omega, by simp, by simp, by simp⟩
  rw [← hW]
  clear hW
  go_loopw [13] (fun i wr => ∃ m : Nat, m ≤ j ∧ i = .int .i64 m ∧ Below W0.heap.size W0 wr) (fun i _ => j - (intOf i).toNat)
  case atStart => exact ⟨0, Nat.zero_le _, rfl, Below.refl _ _⟩
  case round =>
    obtain ⟨m, hm, rfl, hb⟩ := hrel
    obtain ⟨wo, rfl⟩ : ∃ wo : World, wo = wr := ⟨_, rfl⟩
    have hbw := HB0.trans (hb.mono HB0.size)
    obtain ⟨a1, rfl, y, E, A2, c2, g0, g1, g2, l2, q2⟩ := jointK_at (Kn.C_below hbw h.j) m (by omega)
    have i0 : (0 : Int) ≤ (m : Int) := Int.natCast_nonneg _
    have i1 : (m : Int) < (n.joints.length : Int) := by omega
    have hm2 := q2.1
    have HK : Hid (m = j → k < y.ends.length) := Lib.hid (fun e => HKL.out y (by subst e; exact E.out))
    go_wp2
    obtain ⟨W1, hW, HB1, h2, h3, k0, k1⟩ : ∃ W, W = wo.alloc (.cells #[.int .i64 y.kind, .string y.name, .slice A2 y.ends.length c2] 139) ∧ Below wo.heap.size wo W ∧ w.heap.size + 1 < W.heap.size ∧ wo.heap.size < W.heap.size ∧
      W.cell? ⟨w.heap.size + 1, 0, none⟩ = some (.int .i64 p) ∧ W.cell? ⟨w.heap.size + 1, 1, none⟩ = some (.int .i64 s) := ⟨_, rfl, below_alloc _ _, by have := hb.size; simp; omega, by simp, cell_below (below_alloc _ _) (cell_below hb f0), cell_below (below_alloc _ _) (cell_below hb f1)⟩
    rw [← hW]
    clear hW
    have hb1 := hb.trans (HB1.mono hb.size)
    go_loopw [21] (fun i wr => ∃ q : Nat, q ≤ y.ends.length ∧ i = .int .i64 q ∧ Hid (m = j → q ≤ k) ∧ Below W1.heap.size W1 wr) (fun i _ => y.ends.length - (intOf i).toNat)
    case atStart => exact ⟨0, Nat.zero_le _, rfl, Lib.hid (fun _ => Nat.zero_le _), Below.refl _ _⟩
    case round =>
      obtain ⟨q, hq, rfl, HQ, hbi⟩ := hrel
      have hbj := hb1.trans (hbi.mono hb1.size)
      have t0 := cell_below hbi k0
      have t1 := cell_below hbi k1
      have hs : w.heap.size + 1 < wr.heap.size := by have := hbi.size; omega
      by_cases hlq : q < y.ends.length
      · obtain ⟨a2, rfl, y0, y1, E1, g3, g4⟩ := endK_at (Kn.C_below (HB1.trans (hbi.mono HB1.size)) q2) q hlq
        have j0 : (0 : Int) ≤ (q : Int) := Int.natCast_nonneg _
        have j1 : (q : Int) < (y.ends.length : Int) := by omega
        by_cases e0 : p = y0
        rotate_left
        · have d0 : (p == y0) = false := int_eqf e0
          have HQ2 : Hid (m = j → q + 1 ≤ k) := Lib.hid (fun e => by
            have h1 := HQ.out e
            by_cases h2 : q = k
            · subst e h2
              have h3 := HAT.out.1.symm.trans E.out
              obtain rfl := Option.some.inj h3
              have h4 := HAT.out.2.symm.trans E1.out
              injection h4 with h4
              injection h4 with h4 h5
              exact (e0 (by first | exact h4 | exact h4.symm)).elim
            · omega)
          clear e0
          go_wp2
          go_roundw
          case rel => exact ⟨q + 1, by omega, by go_num, HQ2, hbi.alloc hbi.size _⟩
          case measure => simp [intOf]; omega
        have d0 : (p == y0) = true := int_eqt e0
        by_cases e1 : s = y1
        rotate_left
        · have d1 : (s == y1) = false := int_eqf e1
          have HQ2 : Hid (m = j → q + 1 ≤ k) := Lib.hid (fun e => by
            have h1 := HQ.out e
            by_cases h2 : q = k
            · subst e h2
              have h3 := HAT.out.1.symm.trans E.out
              obtain rfl := Option.some.inj h3
              have h4 := HAT.out.2.symm.trans E1.out
              injection h4 with h4
              injection h4 with h4 h5
              exact (e1 (by first | exact h5 | exact h5.symm)).elim
            · omega)
          clear e0 e1
          go_wp2
          go_roundw
          case rel => exact ⟨q + 1, by omega, by go_num, HQ2, hbi.alloc hbi.size _⟩
          case measure => simp [intOf]; omega
        have d1 : (s == y1) = true := int_eqt e1
        have HN : Hid (atJ n ⟨p, s⟩ = (m, q)) := Lib.hid (by
          obtain ⟨h1, h2⟩ := UN.out m q y ⟨E.out, by rw [E1.out]; first | rw [e0, e1] | rw [← e0, ← e1]⟩
          rw [HJK.out, h1, h2])
        clear e0 e1
        go_wp2
        go_ret2
        exact ⟨by rw [HN.out]; rfl, HB0.trans ((hbj.alloc hbj.size _).mono HB0.size)⟩
      · have hmj' : m + 1 ≤ j := by
          have h1 : m ≠ j := fun e => by have := HQ.out e; have := HK.out e; omega
          omega
        go_wp2
        go_roundw
        case rel => exact ⟨m + 1, hmj', by go_num, hbj⟩
        case measure => simp [intOf]; omega
end Go.Proofs.YtpggopdojhodaaaGreat.L
namespace Go.Proofs.YtpggopdojhodaaaGreat.L
open Go.RowKit
set_option linter.unusedVariables false
set_option linter.unusedSimpArgs false
set_option maxHeartbeats 1000000 in
theorem eqStep (x y : Step) (w : World) : Calls Tryz.prog 134 #[x.v, y.v] w (RetB (eqv x y) w) := by
  obtain ⟨a0, a1⟩ := x
  obtain ⟨b0, b1⟩ := y
  by_cases h0 : a0 = b0
  rotate_left
  · rw [eqv_false (by intro h; injection h; exact h0 ‹_›)]
    have g0 := int_ne h0
    clear h0
    go_enter Tryz.func134, Tryz.ntmps134
    go_wp2
    go_ret
    exact ⟨rfl, (below_alloc _ _).alloc (by simp) _⟩
  subst h0
  by_cases h1 : a1 = b1
  rotate_left
  · rw [eqv_false (by intro h; injection h; exact h1 ‹_›)]
    have g1 := int_ne h1
    clear h1
    go_enter Tryz.func134, Tryz.ntmps134
    go_wp2
    go_ret
    exact ⟨rfl, (below_alloc _ _).alloc (by simp) _⟩
  subst h1
  rw [eqv_self]
  go_enter Tryz.func134, Tryz.ntmps134
  go_wp2
  go_ret
  exact ⟨rfl, (below_alloc _ _).alloc (by simp) _⟩
set_option maxHeartbeats 1000000 in
theorem eqLie (x y : Lie) (w : World) : Calls Tryz.prog 135 #[x.v, y.v] w (RetB (eqv x y) w) := by
  obtain ⟨a0, a1⟩ := x
  obtain ⟨b0, b1⟩ := y
  by_cases h0 : a0 = b0
  rotate_left
  · rw [eqv_false (by intro h; injection h; exact h0 ‹_›)]
    have g0 := int_ne h0
    clear h0
    go_enter Tryz.func135, Tryz.ntmps135
    go_wp2
    go_ret
    exact ⟨rfl, (below_alloc _ _).alloc (by simp) _⟩
  subst h0
  by_cases h1 : a1 = b1
  rotate_left
  · rw [eqv_false (by intro h; injection h; exact h1 ‹_›)]
    have g1 := int_ne h1
    clear h1
    go_enter Tryz.func135, Tryz.ntmps135
    go_wp2
    go_ret
    exact ⟨rfl, (below_alloc _ _).alloc (by simp) _⟩
  subst h1
  rw [eqv_self]
  go_enter Tryz.func135, Tryz.ntmps135
  go_wp2
  go_ret
  exact ⟨rfl, (below_alloc _ _).alloc (by simp) _⟩
set_option maxHeartbeats 1000000 in
theorem eqPart (x y : Part) (w : World) : Calls Tryz.prog 136 #[x.v, y.v] w (RetB (eqv x y) w) := by
  obtain ⟨a0, a1, a2⟩ := x
  obtain ⟨b0, b1, b2⟩ := y
  by_cases h0 : a0 = b0
  rotate_left
  · rw [eqv_false (by intro h; injection h; exact h0 ‹_›)]
    have g0 := int_ne h0
    clear h0
    go_enter Tryz.func136, Tryz.ntmps136
    go_wp2
    go_ret
    exact ⟨rfl, (below_alloc _ _).alloc (by simp) _⟩
  subst h0
  by_cases h1 : a1 = b1
  rotate_left
  · rw [eqv_false (by intro h; injection h; exact h1 ‹_›)]
    have g1 := int_ne h1
    clear h1
    go_enter Tryz.func136, Tryz.ntmps136
    go_wp2
    go_ret
    exact ⟨rfl, (below_alloc _ _).alloc (by simp) _⟩
  subst h1
  by_cases h2 : a2 = b2
  rotate_left
  · rw [eqv_false (by intro h; injection h; exact h2 ‹_›)]
    have g2 := int_ne h2
    clear h2
    go_enter Tryz.func136, Tryz.ntmps136
    go_wp2
    go_ret
    exact ⟨rfl, (below_alloc _ _).alloc (by simp) _⟩
  subst h2
  rw [eqv_self]
  go_enter Tryz.func136, Tryz.ntmps136
  go_wp2
  go_ret
  exact ⟨rfl, (below_alloc _ _).alloc (by simp) _⟩
set_option maxHeartbeats 1000000 in
theorem eqFlank (x y : Flank) (w : World) : Calls Tryz.prog 137 #[x.v, y.v] w (RetB (eqv x y) w) := by
  obtain ⟨a0, a1, a2, a3⟩ := x
  obtain ⟨b0, b1, b2, b3⟩ := y
  by_cases h0 : a0 = b0
  rotate_left
  · rw [eqv_false (by intro h; injection h; exact h0 ‹_›)]
    have g0 := int_ne h0
    clear h0
    go_enter Tryz.func137, Tryz.ntmps137
    go_wp2
    go_ret
    exact ⟨rfl, (below_alloc _ _).alloc (by simp) _⟩
  subst h0
  by_cases h1 : a1 = b1
  rotate_left
  · rw [eqv_false (by intro h; injection h; exact h1 ‹_›)]
    have g1 := int_ne h1
    clear h1
    go_enter Tryz.func137, Tryz.ntmps137
    go_wp2
    go_ret
    exact ⟨rfl, (below_alloc _ _).alloc (by simp) _⟩
  subst h1
  by_cases h2 : a2 = b2
  rotate_left
  · rw [eqv_false (by intro h; injection h; exact h2 ‹_›)]
    have g2 := int_ne h2
    clear h2
    go_enter Tryz.func137, Tryz.ntmps137
    go_wp2
    go_ret
    exact ⟨rfl, (below_alloc _ _).alloc (by simp) _⟩
  subst h2
  by_cases h3 : a3 = b3
  rotate_left
  · rw [eqv_false (by intro h; injection h; exact h3 ‹_›)]
    have g3 := int_ne h3
    clear h3
    go_enter Tryz.func137, Tryz.ntmps137
    go_wp2
    go_ret
    exact ⟨rfl, (below_alloc _ _).alloc (by simp) _⟩
  subst h3
  rw [eqv_self]
  go_enter Tryz.func137, Tryz.ntmps137
  go_wp2
  go_ret
  exact ⟨rfl, (below_alloc _ _).alloc (by simp) _⟩
set_option maxHeartbeats 1000000 in
theorem eqWrong (x y : Wrong) (w : World) : Calls Tryz.prog 29 #[x.v, y.v] w (RetB (eqv x y) w) := by
  obtain ⟨a0, a1, a2⟩ := x
  obtain ⟨b0, b1, b2⟩ := y
  by_cases h0 : a0 = b0
  rotate_left
  · rw [eqv_false (by intro h; injection h; exact h0 ‹_›)]
    have g0 := int_ne h0
    clear h0
    go_enter Tryz.func29, Tryz.ntmps29
    go_wp2
    go_ret
    exact ⟨rfl, (below_alloc _ _).alloc (by simp) _⟩
  subst h0
  by_cases h1 : a1 = b1
  rotate_left
  · rw [eqv_false (by intro h; injection h; exact h1 ‹_›)]
    have g1 := int_ne h1
    clear h1
    go_enter Tryz.func29, Tryz.ntmps29
    go_wp2
    go_ret
    exact ⟨rfl, (below_alloc _ _).alloc (by simp) _⟩
  subst h1
  by_cases h2 : a2 = b2
  rotate_left
  · rw [eqv_false (by intro h; injection h; exact h2 ‹_›)]
    have g2 := int_ne h2
    clear h2
    go_enter Tryz.func29, Tryz.ntmps29
    go_wp2
    go_ret
    exact ⟨rfl, (below_alloc _ _).alloc (by simp) _⟩
  subst h2
  rw [eqv_self]
  go_enter Tryz.func29, Tryz.ntmps29
  go_wp2
  go_ret
  exact ⟨rfl, (below_alloc _ _).alloc (by simp) _⟩
set_option maxRecDepth 100000 in
set_option maxHeartbeats 2000000 in
theorem eqStepS {ok ok' : Nat → Prop} (A0 A1 : Option Addr) (c0 c1 : Nat) (xs ys : List Step) (w : World) (hx : stepK.C w ok A0 xs) (hy : stepK.C w ok' A1 ys) :
    Calls Tryz.prog 91 #[.slice A0 xs.length c0, .slice A1 ys.length c1] w (RetB (eqv xs ys) w) := by
  have hmx := hx.1
  have hmy := hy.1
  by_cases hl : xs.length = ys.length
  rotate_left
  · rw [eqv_false (fun h => hl (congrArg List.length h))]
    have hlb := len_ne hl
    clear hl
    go_enter Tryz.func91, Tryz.ntmps91
    go_wp2
    go_ret
    exact ⟨rfl, Below.refl _ _⟩
  have hlb := len_eq hl
  have HL := Lib.hid hl
  clear hl
  go_enter Tryz.func91, Tryz.ntmps91
  go_wp2
  go_loopw [5] (fun i wr => ∃ k : Nat, k ≤ xs.length ∧ i = .int .i64 k ∧ Hid (xs.take k = ys.take k) ∧ Below w.heap.size w wr) (fun i _ => xs.length - (intOf i).toNat)
  case atStart => exact ⟨0, Nat.zero_le _, rfl, Lib.hid rfl, Below.refl _ _⟩
  case round =>
    obtain ⟨k, hk, rfl, HT, hb⟩ := hrel
    by_cases hlt : k < xs.length
    · have i0 : (0 : Int) ≤ (k : Int) := Int.natCast_nonneg _
      have i1 : (k : Int) < (xs.length : Int) := by omega
      have i2 : (k : Int) < (ys.length : Int) := by have := HL.out; omega
      obtain ⟨a0, rfl, p0, p1, E0, gp0, gp1⟩ := stepK_at (Kn.C_below hb hx) k hlt
      obtain ⟨a1, rfl, q0, q1, E1, gq0, gq1⟩ := stepK_at (Kn.C_below hb hy) k (HL.out ▸ hlt)
      by_cases he : (⟨p0, p1⟩ : Step) = (⟨q0, q1⟩ : Step)
      · have HE : Hid (eqv (⟨p0, p1⟩ : Step) (⟨q0, q1⟩ : Step) = true) := Lib.hid (eqv_true he)
        have HN : Hid (xs.take (k + 1) = ys.take (k + 1)) := Lib.hid (take_eq_snoc HT.out (by rw [← he]; exact E0.out) E1.out)
        clear he
        go_wp2
        go_region_held3 (fun w' => w'.cell? (a0.add (k * 2)) = some (.int .i64 p0) ∧ w'.cell? ⟨(a0.add (k * 2)).block, (a0.add (k * 2)).off + 1, none⟩ = some (.int .i64 p1) ∧ w'.cell? (a1.add (k * 2)) = some (.int .i64 q0) ∧ w'.cell? ⟨(a1.add (k * 2)).block, (a1.add (k * 2)).off + 1, none⟩ = some (.int .i64 q1)) (first | exact ⟨cell_below hb1 gp0, cell_below hb1 gp1, cell_below hb1 gq0, cell_below hb1 gq1⟩ | go_keep)
          (first | (go_at_call 134; refine (eqStep (⟨p0, p1⟩ : Step) (⟨q0, q1⟩ : Step) _).mono ?_; rintro e w1 ⟨rfl, hb1⟩; rw [HE.out]))
        go_wp2
        go_roundw
        case rel => exact ⟨k + 1, by omega, by go_num, HN, hb.drew.trans (hb1.mono hb.size)⟩
        case measure => simp [intOf]; omega
      · have HE : Hid (eqv (⟨p0, p1⟩ : Step) (⟨q0, q1⟩ : Step) = false) := Lib.hid (eqv_false he)
        have HN : Hid (eqv xs ys = false) := Lib.hid (eqv_false (take_ne E0.out E1.out he))
        clear he
        go_wp2
        go_region_held3 (fun w' => w'.cell? (a0.add (k * 2)) = some (.int .i64 p0) ∧ w'.cell? ⟨(a0.add (k * 2)).block, (a0.add (k * 2)).off + 1, none⟩ = some (.int .i64 p1) ∧ w'.cell? (a1.add (k * 2)) = some (.int .i64 q0) ∧ w'.cell? ⟨(a1.add (k * 2)).block, (a1.add (k * 2)).off + 1, none⟩ = some (.int .i64 q1)) (first | exact ⟨cell_below hb1 gp0, cell_below hb1 gp1, cell_below hb1 gq0, cell_below hb1 gq1⟩ | go_keep)
          (first | (go_at_call 134; refine (eqStep (⟨p0, p1⟩ : Step) (⟨q0, q1⟩ : Step) _).mono ?_; rintro e w1 ⟨rfl, hb1⟩; rw [HE.out]))
        go_wp2
        go_ret
        exact ⟨by rw [HN.out]; rfl, hb.drew.trans (hb1.mono hb.size)⟩
    · obtain rfl : k = xs.length := by omega
      have HN : Hid (eqv xs ys = true) := Lib.hid (eqv_true (by have := HT.out; rw [List.take_length, HL.out, List.take_length] at this; exact this))
      go_wp2
      go_ret
      exact ⟨by rw [HN.out]; rfl, hb⟩
set_option maxRecDepth 100000 in
set_option maxHeartbeats 2000000 in
theorem eqLieS {ok ok' : Nat → Prop} (A0 A1 : Option Addr) (c0 c1 : Nat) (xs ys : List Lie) (w : World) (hx : lieK.C w ok A0 xs) (hy : lieK.C w ok' A1 ys) :
    Calls Tryz.prog 92 #[.slice A0 xs.length c0, .slice A1 ys.length c1] w (RetB (eqv xs ys) w) := by
  have hmx := hx.1
  have hmy := hy.1
  by_cases hl : xs.length = ys.length
  rotate_left
  · rw [eqv_false (fun h => hl (congrArg List.length h))]
    have hlb := len_ne hl
    clear hl
    go_enter Tryz.func92, Tryz.ntmps92
    go_wp2
    go_ret
    exact ⟨rfl, Below.refl _ _⟩
  have hlb := len_eq hl
  have HL := Lib.hid hl
  clear hl
  go_enter Tryz.func92, Tryz.ntmps92
  go_wp2
  go_loopw [5] (fun i wr => ∃ k : Nat, k ≤ xs.length ∧ i = .int .i64 k ∧ Hid (xs.take k = ys.take k) ∧ Below w.heap.size w wr) (fun i _ => xs.length - (intOf i).toNat)
  case atStart => exact ⟨0, Nat.zero_le _, rfl, Lib.hid rfl, Below.refl _ _⟩
  case round =>
    obtain ⟨k, hk, rfl, HT, hb⟩ := hrel
    by_cases hlt : k < xs.length
    · have i0 : (0 : Int) ≤ (k : Int) := Int.natCast_nonneg _
      have i1 : (k : Int) < (xs.length : Int) := by omega
      have i2 : (k : Int) < (ys.length : Int) := by have := HL.out; omega
      obtain ⟨a0, rfl, p0, p1, E0, gp0, gp1⟩ := lieK_at (Kn.C_below hb hx) k hlt
      obtain ⟨a1, rfl, q0, q1, E1, gq0, gq1⟩ := lieK_at (Kn.C_below hb hy) k (HL.out ▸ hlt)
      by_cases he : (⟨p0, p1⟩ : Lie) = (⟨q0, q1⟩ : Lie)
      · have HE : Hid (eqv (⟨p0, p1⟩ : Lie) (⟨q0, q1⟩ : Lie) = true) := Lib.hid (eqv_true he)
        have HN : Hid (xs.take (k + 1) = ys.take (k + 1)) := Lib.hid (take_eq_snoc HT.out (by rw [← he]; exact E0.out) E1.out)
        clear he
        go_wp2
        go_region_held3 (fun w' => w'.cell? (a0.add (k * 2)) = some (.int .i64 p0) ∧ w'.cell? ⟨(a0.add (k * 2)).block, (a0.add (k * 2)).off + 1, none⟩ = some (.int .i64 p1) ∧ w'.cell? (a1.add (k * 2)) = some (.int .i64 q0) ∧ w'.cell? ⟨(a1.add (k * 2)).block, (a1.add (k * 2)).off + 1, none⟩ = some (.int .i64 q1)) (first | exact ⟨cell_below hb1 gp0, cell_below hb1 gp1, cell_below hb1 gq0, cell_below hb1 gq1⟩ | go_keep)
          (first | (go_at_call 135; refine (eqLie (⟨p0, p1⟩ : Lie) (⟨q0, q1⟩ : Lie) _).mono ?_; rintro e w1 ⟨rfl, hb1⟩; rw [HE.out]))
        go_wp2
        go_roundw
        case rel => exact ⟨k + 1, by omega, by go_num, HN, hb.drew.trans (hb1.mono hb.size)⟩
        case measure => simp [intOf]; omega
      · have HE : Hid (eqv (⟨p0, p1⟩ : Lie) (⟨q0, q1⟩ : Lie) = false) := Lib.hid (eqv_false he)
        have HN : Hid (eqv xs ys = false) := Lib.hid (eqv_false (take_ne E0.out E1.out he))
        clear he
        go_wp2
        go_region_held3 (fun w' => w'.cell? (a0.add (k * 2)) = some (.int .i64 p0) ∧ w'.cell? ⟨(a0.add (k * 2)).block, (a0.add (k * 2)).off + 1, none⟩ = some (.int .i64 p1) ∧ w'.cell? (a1.add (k * 2)) = some (.int .i64 q0) ∧ w'.cell? ⟨(a1.add (k * 2)).block, (a1.add (k * 2)).off + 1, none⟩ = some (.int .i64 q1)) (first | exact ⟨cell_below hb1 gp0, cell_below hb1 gp1, cell_below hb1 gq0, cell_below hb1 gq1⟩ | go_keep)
          (first | (go_at_call 135; refine (eqLie (⟨p0, p1⟩ : Lie) (⟨q0, q1⟩ : Lie) _).mono ?_; rintro e w1 ⟨rfl, hb1⟩; rw [HE.out]))
        go_wp2
        go_ret
        exact ⟨by rw [HN.out]; rfl, hb.drew.trans (hb1.mono hb.size)⟩
    · obtain rfl : k = xs.length := by omega
      have HN : Hid (eqv xs ys = true) := Lib.hid (eqv_true (by have := HT.out; rw [List.take_length, HL.out, List.take_length] at this; exact this))
      go_wp2
      go_ret
      exact ⟨by rw [HN.out]; rfl, hb⟩
set_option maxRecDepth 100000 in
set_option maxHeartbeats 2000000 in
theorem eqPartS {ok ok' : Nat → Prop} (A0 A1 : Option Addr) (c0 c1 : Nat) (xs ys : List Part) (w : World) (hx : partK.C w ok A0 xs) (hy : partK.C w ok' A1 ys) :
    Calls Tryz.prog 93 #[.slice A0 xs.length c0, .slice A1 ys.length c1] w (RetB (eqv xs ys) w) := by
  have hmx := hx.1
  have hmy := hy.1
  by_cases hl : xs.length = ys.length
  rotate_left
  · rw [eqv_false (fun h => hl (congrArg List.length h))]
    have hlb := len_ne hl
    clear hl
    go_enter Tryz.func93, Tryz.ntmps93
    go_wp2
    go_ret
    exact ⟨rfl, Below.refl _ _⟩
  have hlb := len_eq hl
  have HL := Lib.hid hl
  clear hl
  go_enter Tryz.func93, Tryz.ntmps93
  go_wp2
  go_loopw [5] (fun i wr => ∃ k : Nat, k ≤ xs.length ∧ i = .int .i64 k ∧ Hid (xs.take k = ys.take k) ∧ Below w.heap.size w wr) (fun i _ => xs.length - (intOf i).toNat)
  case atStart => exact ⟨0, Nat.zero_le _, rfl, Lib.hid rfl, Below.refl _ _⟩
  case round =>
    obtain ⟨k, hk, rfl, HT, hb⟩ := hrel
    by_cases hlt : k < xs.length
    · have i0 : (0 : Int) ≤ (k : Int) := Int.natCast_nonneg _
      have i1 : (k : Int) < (xs.length : Int) := by omega
      have i2 : (k : Int) < (ys.length : Int) := by have := HL.out; omega
      obtain ⟨a0, rfl, p0, p1, p2, E0, gp0, gp1, gp2⟩ := partK_at (Kn.C_below hb hx) k hlt
      obtain ⟨a1, rfl, q0, q1, q2, E1, gq0, gq1, gq2⟩ := partK_at (Kn.C_below hb hy) k (HL.out ▸ hlt)
      by_cases he : (⟨p0, p1, p2⟩ : Part) = (⟨q0, q1, q2⟩ : Part)
      · have HE : Hid (eqv (⟨p0, p1, p2⟩ : Part) (⟨q0, q1, q2⟩ : Part) = true) := Lib.hid (eqv_true he)
        have HN : Hid (xs.take (k + 1) = ys.take (k + 1)) := Lib.hid (take_eq_snoc HT.out (by rw [← he]; exact E0.out) E1.out)
        clear he
        go_wp2
        go_region_held3 (fun w' => w'.cell? (a0.add (k * 3)) = some (.int .i64 p0) ∧ w'.cell? ⟨(a0.add (k * 3)).block, (a0.add (k * 3)).off + 1, none⟩ = some (.int .i64 p1) ∧ w'.cell? ⟨(a0.add (k * 3)).block, (a0.add (k * 3)).off + 2, none⟩ = some (.int .i64 p2) ∧ w'.cell? (a1.add (k * 3)) = some (.int .i64 q0) ∧ w'.cell? ⟨(a1.add (k * 3)).block, (a1.add (k * 3)).off + 1, none⟩ = some (.int .i64 q1) ∧ w'.cell? ⟨(a1.add (k * 3)).block, (a1.add (k * 3)).off + 2, none⟩ = some (.int .i64 q2)) (first | exact ⟨cell_below hb1 gp0, cell_below hb1 gp1, cell_below hb1 gp2, cell_below hb1 gq0, cell_below hb1 gq1, cell_below hb1 gq2⟩ | go_keep)
          (first | (go_at_call 136; refine (eqPart (⟨p0, p1, p2⟩ : Part) (⟨q0, q1, q2⟩ : Part) _).mono ?_; rintro e w1 ⟨rfl, hb1⟩; rw [HE.out]))
        go_wp2
        go_roundw
        case rel => exact ⟨k + 1, by omega, by go_num, HN, hb.drew.trans (hb1.mono hb.size)⟩
        case measure => simp [intOf]; omega
      · have HE : Hid (eqv (⟨p0, p1, p2⟩ : Part) (⟨q0, q1, q2⟩ : Part) = false) := Lib.hid (eqv_false he)
        have HN : Hid (eqv xs ys = false) := Lib.hid (eqv_false (take_ne E0.out E1.out he))
        clear he
        go_wp2
        go_region_held3 (fun w' => w'.cell? (a0.add (k * 3)) = some (.int .i64 p0) ∧ w'.cell? ⟨(a0.add (k * 3)).block, (a0.add (k * 3)).off + 1, none⟩ = some (.int .i64 p1) ∧ w'.cell? ⟨(a0.add (k * 3)).block, (a0.add (k * 3)).off + 2, none⟩ = some (.int .i64 p2) ∧ w'.cell? (a1.add (k * 3)) = some (.int .i64 q0) ∧ w'.cell? ⟨(a1.add (k * 3)).block, (a1.add (k * 3)).off + 1, none⟩ = some (.int .i64 q1) ∧ w'.cell? ⟨(a1.add (k * 3)).block, (a1.add (k * 3)).off + 2, none⟩ = some (.int .i64 q2)) (first | exact ⟨cell_below hb1 gp0, cell_below hb1 gp1, cell_below hb1 gp2, cell_below hb1 gq0, cell_below hb1 gq1, cell_below hb1 gq2⟩ | go_keep)
          (first | (go_at_call 136; refine (eqPart (⟨p0, p1, p2⟩ : Part) (⟨q0, q1, q2⟩ : Part) _).mono ?_; rintro e w1 ⟨rfl, hb1⟩; rw [HE.out]))
        go_wp2
        go_ret
        exact ⟨by rw [HN.out]; rfl, hb.drew.trans (hb1.mono hb.size)⟩
    · obtain rfl : k = xs.length := by omega
      have HN : Hid (eqv xs ys = true) := Lib.hid (eqv_true (by have := HT.out; rw [List.take_length, HL.out, List.take_length] at this; exact this))
      go_wp2
      go_ret
      exact ⟨by rw [HN.out]; rfl, hb⟩
set_option maxRecDepth 100000 in
set_option maxHeartbeats 2000000 in
theorem eqFlankS {ok ok' : Nat → Prop} (A0 A1 : Option Addr) (c0 c1 : Nat) (xs ys : List Flank) (w : World) (hx : flankK.C w ok A0 xs) (hy : flankK.C w ok' A1 ys) :
    Calls Tryz.prog 94 #[.slice A0 xs.length c0, .slice A1 ys.length c1] w (RetB (eqv xs ys) w) := by
  have hmx := hx.1
  have hmy := hy.1
  by_cases hl : xs.length = ys.length
  rotate_left
  · rw [eqv_false (fun h => hl (congrArg List.length h))]
    have hlb := len_ne hl
    clear hl
    go_enter Tryz.func94, Tryz.ntmps94
    go_wp2
    go_ret
    exact ⟨rfl, Below.refl _ _⟩
  have hlb := len_eq hl
  have HL := Lib.hid hl
  clear hl
  go_enter Tryz.func94, Tryz.ntmps94
  go_wp2
  go_loopw [5] (fun i wr => ∃ k : Nat, k ≤ xs.length ∧ i = .int .i64 k ∧ Hid (xs.take k = ys.take k) ∧ Below w.heap.size w wr) (fun i _ => xs.length - (intOf i).toNat)
  case atStart => exact ⟨0, Nat.zero_le _, rfl, Lib.hid rfl, Below.refl _ _⟩
  case round =>
    obtain ⟨k, hk, rfl, HT, hb⟩ := hrel
    by_cases hlt : k < xs.length
    · have i0 : (0 : Int) ≤ (k : Int) := Int.natCast_nonneg _
      have i1 : (k : Int) < (xs.length : Int) := by omega
      have i2 : (k : Int) < (ys.length : Int) := by have := HL.out; omega
      obtain ⟨a0, rfl, p0, p1, p2, p3, E0, gp0, gp1, gp2, gp3⟩ := flankK_at (Kn.C_below hb hx) k hlt
      obtain ⟨a1, rfl, q0, q1, q2, q3, E1, gq0, gq1, gq2, gq3⟩ := flankK_at (Kn.C_below hb hy) k (HL.out ▸ hlt)
      by_cases he : (⟨p0, p1, p2, p3⟩ : Flank) = (⟨q0, q1, q2, q3⟩ : Flank)
      · have HE : Hid (eqv (⟨p0, p1, p2, p3⟩ : Flank) (⟨q0, q1, q2, q3⟩ : Flank) = true) := Lib.hid (eqv_true he)
        have HN : Hid (xs.take (k + 1) = ys.take (k + 1)) := Lib.hid (take_eq_snoc HT.out (by rw [← he]; exact E0.out) E1.out)
        clear he
        go_wp2
        go_region_held3 (fun w' => w'.cell? (a0.add (k * 4)) = some (.int .i64 p0) ∧ w'.cell? ⟨(a0.add (k * 4)).block, (a0.add (k * 4)).off + 1, none⟩ = some (.int .i64 p1) ∧ w'.cell? ⟨(a0.add (k * 4)).block, (a0.add (k * 4)).off + 2, none⟩ = some (.int .i64 p2) ∧ w'.cell? ⟨(a0.add (k * 4)).block, (a0.add (k * 4)).off + 3, none⟩ = some (.int .i64 p3) ∧ w'.cell? (a1.add (k * 4)) = some (.int .i64 q0) ∧ w'.cell? ⟨(a1.add (k * 4)).block, (a1.add (k * 4)).off + 1, none⟩ = some (.int .i64 q1) ∧ w'.cell? ⟨(a1.add (k * 4)).block, (a1.add (k * 4)).off + 2, none⟩ = some (.int .i64 q2) ∧ w'.cell? ⟨(a1.add (k * 4)).block, (a1.add (k * 4)).off + 3, none⟩ = some (.int .i64 q3)) (first | exact ⟨cell_below hb1 gp0, cell_below hb1 gp1, cell_below hb1 gp2, cell_below hb1 gp3, cell_below hb1 gq0, cell_below hb1 gq1, cell_below hb1 gq2, cell_below hb1 gq3⟩ | go_keep)
          (first | (go_at_call 137; refine (eqFlank (⟨p0, p1, p2, p3⟩ : Flank) (⟨q0, q1, q2, q3⟩ : Flank) _).mono ?_; rintro e w1 ⟨rfl, hb1⟩; rw [HE.out]))
        go_wp2
        go_roundw
        case rel => exact ⟨k + 1, by omega, by go_num, HN, hb.drew.trans (hb1.mono hb.size)⟩
        case measure => simp [intOf]; omega
      · have HE : Hid (eqv (⟨p0, p1, p2, p3⟩ : Flank) (⟨q0, q1, q2, q3⟩ : Flank) = false) := Lib.hid (eqv_false he)
        have HN : Hid (eqv xs ys = false) := Lib.hid (eqv_false (take_ne E0.out E1.out he))
        clear he
        go_wp2
        go_region_held3 (fun w' => w'.cell? (a0.add (k * 4)) = some (.int .i64 p0) ∧ w'.cell? ⟨(a0.add (k * 4)).block, (a0.add (k * 4)).off + 1, none⟩ = some (.int .i64 p1) ∧ w'.cell? ⟨(a0.add (k * 4)).block, (a0.add (k * 4)).off + 2, none⟩ = some (.int .i64 p2) ∧ w'.cell? ⟨(a0.add (k * 4)).block, (a0.add (k * 4)).off + 3, none⟩ = some (.int .i64 p3) ∧ w'.cell? (a1.add (k * 4)) = some (.int .i64 q0) ∧ w'.cell? ⟨(a1.add (k * 4)).block, (a1.add (k * 4)).off + 1, none⟩ = some (.int .i64 q1) ∧ w'.cell? ⟨(a1.add (k * 4)).block, (a1.add (k * 4)).off + 2, none⟩ = some (.int .i64 q2) ∧ w'.cell? ⟨(a1.add (k * 4)).block, (a1.add (k * 4)).off + 3, none⟩ = some (.int .i64 q3)) (first | exact ⟨cell_below hb1 gp0, cell_below hb1 gp1, cell_below hb1 gp2, cell_below hb1 gp3, cell_below hb1 gq0, cell_below hb1 gq1, cell_below hb1 gq2, cell_below hb1 gq3⟩ | go_keep)
          (first | (go_at_call 137; refine (eqFlank (⟨p0, p1, p2, p3⟩ : Flank) (⟨q0, q1, q2, q3⟩ : Flank) _).mono ?_; rintro e w1 ⟨rfl, hb1⟩; rw [HE.out]))
        go_wp2
        go_ret
        exact ⟨by rw [HN.out]; rfl, hb.drew.trans (hb1.mono hb.size)⟩
    · obtain rfl : k = xs.length := by omega
      have HN : Hid (eqv xs ys = true) := Lib.hid (eqv_true (by have := HT.out; rw [List.take_length, HL.out, List.take_length] at this; exact this))
      go_wp2
      go_ret
      exact ⟨by rw [HN.out]; rfl, hb⟩
set_option maxRecDepth 100000 in
set_option maxHeartbeats 2000000 in
theorem eqIntS {ok ok' : Nat → Prop} (A0 A1 : Option Addr) (c0 c1 : Nat) (xs ys : List Int) (w : World) (hx : Kn.int.C w ok A0 xs) (hy : Kn.int.C w ok' A1 ys) :
    Calls Tryz.prog 24 #[.slice A0 xs.length c0, .slice A1 ys.length c1] w (RetB (eqv xs ys) w) := by
  have hmx := hx.1
  have hmy := hy.1
  by_cases hl : xs.length = ys.length
  rotate_left
  · rw [eqv_false (fun h => hl (congrArg List.length h))]
    have hlb := len_ne hl
    clear hl
    go_enter Tryz.func24, Tryz.ntmps24
    go_wp2
    go_ret
    exact ⟨rfl, Below.refl _ _⟩
  have hlb := len_eq hl
  have HL := Lib.hid hl
  clear hl
  go_enter Tryz.func24, Tryz.ntmps24
  go_wp2
  go_loopw [5] (fun i wr => ∃ k : Nat, k ≤ xs.length ∧ i = .int .i64 k ∧ Hid (xs.take k = ys.take k) ∧ Below w.heap.size w wr) (fun i _ => xs.length - (intOf i).toNat)
  case atStart => exact ⟨0, Nat.zero_le _, rfl, Lib.hid rfl, Below.refl _ _⟩
  case round =>
    obtain ⟨k, hk, rfl, HT, hb⟩ := hrel
    by_cases hlt : k < xs.length
    · have i0 : (0 : Int) ≤ (k : Int) := Int.natCast_nonneg _
      have i1 : (k : Int) < (xs.length : Int) := by omega
      have i2 : (k : Int) < (ys.length : Int) := by have := HL.out; omega
      obtain ⟨a0, rfl, p0, E0, gp0⟩ := int_at (Kn.C_below hb hx) k hlt
      obtain ⟨a1, rfl, q0, E1, gq0⟩ := int_at (Kn.C_below hb hy) k (HL.out ▸ hlt)
      by_cases he : p0 = q0
      · have d0 : (p0 != q0) = false := by simpa using he
        have HE : Hid (eqv p0 q0 = true) := Lib.hid (eqv_true he)
        have HN : Hid (xs.take (k + 1) = ys.take (k + 1)) := Lib.hid (take_eq_snoc HT.out (by rw [← he]; exact E0.out) E1.out)
        clear he
        go_wp2
        go_quiet (fail)
        go_wp2
        go_roundw
        case rel => exact ⟨k + 1, by omega, by go_num, HN, below_drewN hb _⟩
        case measure => simp [intOf]; omega
      · have d0 : (p0 != q0) = true := int_ne he
        have HE : Hid (eqv p0 q0 = false) := Lib.hid (eqv_false he)
        have HN : Hid (eqv xs ys = false) := Lib.hid (eqv_false (take_ne E0.out E1.out he))
        clear he
        go_wp2
        go_quiet (fail)
        go_wp2
        go_ret
        exact ⟨by rw [HN.out]; rfl, below_drewN hb _⟩
    · obtain rfl : k = xs.length := by omega
      have HN : Hid (eqv xs ys = true) := Lib.hid (eqv_true (by have := HT.out; rw [List.take_length, HL.out, List.take_length] at this; exact this))
      go_wp2
      go_ret
      exact ⟨by rw [HN.out]; rfl, hb⟩
set_option maxRecDepth 100000 in
set_option maxHeartbeats 2000000 in
theorem eqRoute {ok ok' : Nat → Prop} (x0 x1 : Route) (A02 A03 A04 A05 A06 A07 A12 A13 A14 A15 A16 A17 : Option Addr) (c02 c03 c04 c05 c06 c07 c12 c13 c14 c15 c16 c17 : Nat) (w : World) (h02 : stepK.C w ok A02 x0.steps) (h03 : lieK.C w ok A03 x0.lies) (h04 : Kn.int.C w ok A04 x0.crosses) (h05 : partK.C w ok A05 x0.parts) (h06 : partK.C w ok A06 x0.over) (h07 : flankK.C w ok A07 x0.flanks) (h12 : stepK.C w ok' A12 x1.steps) (h13 : lieK.C w ok' A13 x1.lies) (h14 : Kn.int.C w ok' A14 x1.crosses) (h15 : partK.C w ok' A15 x1.parts) (h16 : partK.C w ok' A16 x1.over) (h17 : flankK.C w ok' A17 x1.flanks) :
    Calls Tryz.prog 43 #[.agg #[.int .i64 x0.frm, .int .i64 x0.til, .slice A02 x0.steps.length c02, .slice A03 x0.lies.length c03, .slice A04 x0.crosses.length c04, .slice A05 x0.parts.length c05, .slice A06 x0.over.length c06, .slice A07 x0.flanks.length c07], .agg #[.int .i64 x1.frm, .int .i64 x1.til, .slice A12 x1.steps.length c12, .slice A13 x1.lies.length c13, .slice A14 x1.crosses.length c14, .slice A15 x1.parts.length c15, .slice A16 x1.over.length c16, .slice A17 x1.flanks.length c17]] w (RetB (eqv x0 x1) w) := by
  obtain ⟨a0, a1, a2, a3, a4, a5, a6, a7⟩ := x0
  obtain ⟨b0, b1, b2, b3, b4, b5, b6, b7⟩ := x1
  simp only at h02 h03 h04 h05 h06 h07 h12 h13 h14 h15 h16 h17
  by_cases h0 : a0 = b0
  rotate_left
  · rw [eqv_false (by intro h; injection h; exact h0 ‹_›)]
    have g0 := int_ne h0
    clear h0
    go_enter Tryz.func43, Tryz.ntmps43
    go_wp2
    go_ret
    exact ⟨rfl, ((below_alloc w _).alloc (by simp) _)⟩
  subst h0
  by_cases h1 : a1 = b1
  rotate_left
  · rw [eqv_false (by intro h; injection h; exact h1 ‹_›)]
    have g1 := int_ne h1
    clear h1
    go_enter Tryz.func43, Tryz.ntmps43
    go_wp2
    go_ret
    exact ⟨rfl, ((below_alloc w _).alloc (by simp) _)⟩
  subst h1
  by_cases h2 : a2 = b2
  rotate_left
  · rw [eqv_false (by intro h; injection h; exact h2 ‹_›)]
    have E : Hid (eqv a2 b2 = false) := Lib.hid (eqv_false h2)
    clear h2
    go_enter Tryz.func43, Tryz.ntmps43
    go_wp2_with fail
    refine (eqStepS _ _ _ _ _ _ _ (Kn.C_below ((below_alloc w _).alloc (by simp) _) h02) (Kn.C_below ((below_alloc w _).alloc (by simp) _) h12)).mono ?_
    rintro e w2 ⟨rfl, hb2⟩
    obtain ⟨hc2, hf2⟩ := bcell hb2
    rw [E.out]
    have B2 := ((below_alloc w _).alloc (by simp) _).trans (hb2.mono (by simp; omega))
    have z2 : w.heap.size < w2.heap.size := by have := hb2.size; simp at this; omega
    have y2 : w.heap.size + 1 < w2.heap.size := by have := hb2.size; simp at this; omega
    go_wp2
    go_ret
    exact ⟨rfl, B2⟩
  subst h2
  by_cases h3 : a3 = b3
  rotate_left
  · rw [eqv_false (by intro h; injection h; exact h3 ‹_›)]
    have E : Hid (eqv a3 b3 = false) := Lib.hid (eqv_false h3)
    clear h3
    go_enter Tryz.func43, Tryz.ntmps43
    go_wp2_with fail
    refine (eqStepS _ _ _ _ _ _ _ (Kn.C_below ((below_alloc w _).alloc (by simp) _) h02) (Kn.C_below ((below_alloc w _).alloc (by simp) _) h12)).mono ?_
    rintro e w2 ⟨rfl, hb2⟩
    obtain ⟨hc2, hf2⟩ := bcell hb2
    rw [eqv_self]
    have B2 := ((below_alloc w _).alloc (by simp) _).trans (hb2.mono (by simp; omega))
    have z2 : w.heap.size < w2.heap.size := by have := hb2.size; simp at this; omega
    have y2 : w.heap.size + 1 < w2.heap.size := by have := hb2.size; simp at this; omega
    go_wp2_with fail
    refine (eqLieS _ _ _ _ _ _ _ (Kn.C_below B2 h03) (Kn.C_below B2 h13)).mono ?_
    rintro e w3 ⟨rfl, hb3⟩
    obtain ⟨hc3, hf3⟩ := bcell hb3
    rw [E.out]
    have B3 := B2.trans (hb3.mono B2.size)
    have z3 : w.heap.size < w3.heap.size := by have := hb3.size; omega
    have y3 : w.heap.size + 1 < w3.heap.size := by have := hb3.size; omega
    go_wp2
    go_ret
    exact ⟨rfl, B3⟩
  subst h3
  by_cases h4 : a4 = b4
  rotate_left
  · rw [eqv_false (by intro h; injection h; exact h4 ‹_›)]
    have E : Hid (eqv a4 b4 = false) := Lib.hid (eqv_false h4)
    clear h4
    go_enter Tryz.func43, Tryz.ntmps43
    go_wp2_with fail
    refine (eqStepS _ _ _ _ _ _ _ (Kn.C_below ((below_alloc w _).alloc (by simp) _) h02) (Kn.C_below ((below_alloc w _).alloc (by simp) _) h12)).mono ?_
    rintro e w2 ⟨rfl, hb2⟩
    obtain ⟨hc2, hf2⟩ := bcell hb2
    rw [eqv_self]
    have B2 := ((below_alloc w _).alloc (by simp) _).trans (hb2.mono (by simp; omega))
    have z2 : w.heap.size < w2.heap.size := by have := hb2.size; simp at this; omega
    have y2 : w.heap.size + 1 < w2.heap.size := by have := hb2.size; simp at this; omega
    go_wp2_with fail
    refine (eqLieS _ _ _ _ _ _ _ (Kn.C_below B2 h03) (Kn.C_below B2 h13)).mono ?_
    rintro e w3 ⟨rfl, hb3⟩
    obtain ⟨hc3, hf3⟩ := bcell hb3
    rw [eqv_self]
    have B3 := B2.trans (hb3.mono B2.size)
    have z3 : w.heap.size < w3.heap.size := by have := hb3.size; omega
    have y3 : w.heap.size + 1 < w3.heap.size := by have := hb3.size; omega
    go_wp2_with fail
    refine (eqIntS _ _ _ _ _ _ _ (Kn.C_below B3 h04) (Kn.C_below B3 h14)).mono ?_
    rintro e w4 ⟨rfl, hb4⟩
    obtain ⟨hc4, hf4⟩ := bcell hb4
    rw [E.out]
    have B4 := B3.trans (hb4.mono B3.size)
    have z4 : w.heap.size < w4.heap.size := by have := hb4.size; omega
    have y4 : w.heap.size + 1 < w4.heap.size := by have := hb4.size; omega
    go_wp2
    go_ret
    exact ⟨rfl, B4⟩
  subst h4
  by_cases h5 : a5 = b5
  rotate_left
  · rw [eqv_false (by intro h; injection h; exact h5 ‹_›)]
    have E : Hid (eqv a5 b5 = false) := Lib.hid (eqv_false h5)
    clear h5
    go_enter Tryz.func43, Tryz.ntmps43
    go_wp2_with fail
    refine (eqStepS _ _ _ _ _ _ _ (Kn.C_below ((below_alloc w _).alloc (by simp) _) h02) (Kn.C_below ((below_alloc w _).alloc (by simp) _) h12)).mono ?_
    rintro e w2 ⟨rfl, hb2⟩
    obtain ⟨hc2, hf2⟩ := bcell hb2
    rw [eqv_self]
    have B2 := ((below_alloc w _).alloc (by simp) _).trans (hb2.mono (by simp; omega))
    have z2 : w.heap.size < w2.heap.size := by have := hb2.size; simp at this; omega
    have y2 : w.heap.size + 1 < w2.heap.size := by have := hb2.size; simp at this; omega
    go_wp2_with fail
    refine (eqLieS _ _ _ _ _ _ _ (Kn.C_below B2 h03) (Kn.C_below B2 h13)).mono ?_
    rintro e w3 ⟨rfl, hb3⟩
    obtain ⟨hc3, hf3⟩ := bcell hb3
    rw [eqv_self]
    have B3 := B2.trans (hb3.mono B2.size)
    have z3 : w.heap.size < w3.heap.size := by have := hb3.size; omega
    have y3 : w.heap.size + 1 < w3.heap.size := by have := hb3.size; omega
    go_wp2_with fail
    refine (eqIntS _ _ _ _ _ _ _ (Kn.C_below B3 h04) (Kn.C_below B3 h14)).mono ?_
    rintro e w4 ⟨rfl, hb4⟩
    obtain ⟨hc4, hf4⟩ := bcell hb4
    rw [eqv_self]
    have B4 := B3.trans (hb4.mono B3.size)
    have z4 : w.heap.size < w4.heap.size := by have := hb4.size; omega
    have y4 : w.heap.size + 1 < w4.heap.size := by have := hb4.size; omega
    go_wp2_with fail
    refine (eqPartS _ _ _ _ _ _ _ (Kn.C_below B4 h05) (Kn.C_below B4 h15)).mono ?_
    rintro e w5 ⟨rfl, hb5⟩
    obtain ⟨hc5, hf5⟩ := bcell hb5
    rw [E.out]
    have B5 := B4.trans (hb5.mono B4.size)
    have z5 : w.heap.size < w5.heap.size := by have := hb5.size; omega
    have y5 : w.heap.size + 1 < w5.heap.size := by have := hb5.size; omega
    go_wp2
    go_ret
    exact ⟨rfl, B5⟩
  subst h5
  by_cases h6 : a6 = b6
  rotate_left
  · rw [eqv_false (by intro h; injection h; exact h6 ‹_›)]
    have E : Hid (eqv a6 b6 = false) := Lib.hid (eqv_false h6)
    clear h6
    go_enter Tryz.func43, Tryz.ntmps43
    go_wp2_with fail
    refine (eqStepS _ _ _ _ _ _ _ (Kn.C_below ((below_alloc w _).alloc (by simp) _) h02) (Kn.C_below ((below_alloc w _).alloc (by simp) _) h12)).mono ?_
    rintro e w2 ⟨rfl, hb2⟩
    obtain ⟨hc2, hf2⟩ := bcell hb2
    rw [eqv_self]
    have B2 := ((below_alloc w _).alloc (by simp) _).trans (hb2.mono (by simp; omega))
    have z2 : w.heap.size < w2.heap.size := by have := hb2.size; simp at this; omega
    have y2 : w.heap.size + 1 < w2.heap.size := by have := hb2.size; simp at this; omega
    go_wp2_with fail
    refine (eqLieS _ _ _ _ _ _ _ (Kn.C_below B2 h03) (Kn.C_below B2 h13)).mono ?_
    rintro e w3 ⟨rfl, hb3⟩
    obtain ⟨hc3, hf3⟩ := bcell hb3
    rw [eqv_self]
    have B3 := B2.trans (hb3.mono B2.size)
    have z3 : w.heap.size < w3.heap.size := by have := hb3.size; omega
    have y3 : w.heap.size + 1 < w3.heap.size := by have := hb3.size; omega
    go_wp2_with fail
    refine (eqIntS _ _ _ _ _ _ _ (Kn.C_below B3 h04) (Kn.C_below B3 h14)).mono ?_
    rintro e w4 ⟨rfl, hb4⟩
    obtain ⟨hc4, hf4⟩ := bcell hb4
    rw [eqv_self]
    have B4 := B3.trans (hb4.mono B3.size)
    have z4 : w.heap.size < w4.heap.size := by have := hb4.size; omega
    have y4 : w.heap.size + 1 < w4.heap.size := by have := hb4.size; omega
    go_wp2_with fail
    refine (eqPartS _ _ _ _ _ _ _ (Kn.C_below B4 h05) (Kn.C_below B4 h15)).mono ?_
    rintro e w5 ⟨rfl, hb5⟩
    obtain ⟨hc5, hf5⟩ := bcell hb5
    rw [eqv_self]
    have B5 := B4.trans (hb5.mono B4.size)
    have z5 : w.heap.size < w5.heap.size := by have := hb5.size; omega
    have y5 : w.heap.size + 1 < w5.heap.size := by have := hb5.size; omega
    go_wp2_with fail
    refine (eqPartS _ _ _ _ _ _ _ (Kn.C_below B5 h06) (Kn.C_below B5 h16)).mono ?_
    rintro e w6 ⟨rfl, hb6⟩
    obtain ⟨hc6, hf6⟩ := bcell hb6
    rw [E.out]
    have B6 := B5.trans (hb6.mono B5.size)
    have z6 : w.heap.size < w6.heap.size := by have := hb6.size; omega
    have y6 : w.heap.size + 1 < w6.heap.size := by have := hb6.size; omega
    go_wp2
    go_ret
    exact ⟨rfl, B6⟩
  subst h6
  by_cases h7 : a7 = b7
  rotate_left
  · rw [eqv_false (by intro h; injection h; exact h7 ‹_›)]
    have E : Hid (eqv a7 b7 = false) := Lib.hid (eqv_false h7)
    clear h7
    go_enter Tryz.func43, Tryz.ntmps43
    go_wp2_with fail
    refine (eqStepS _ _ _ _ _ _ _ (Kn.C_below ((below_alloc w _).alloc (by simp) _) h02) (Kn.C_below ((below_alloc w _).alloc (by simp) _) h12)).mono ?_
    rintro e w2 ⟨rfl, hb2⟩
    obtain ⟨hc2, hf2⟩ := bcell hb2
    rw [eqv_self]
    have B2 := ((below_alloc w _).alloc (by simp) _).trans (hb2.mono (by simp; omega))
    have z2 : w.heap.size < w2.heap.size := by have := hb2.size; simp at this; omega
    have y2 : w.heap.size + 1 < w2.heap.size := by have := hb2.size; simp at this; omega
    go_wp2_with fail
    refine (eqLieS _ _ _ _ _ _ _ (Kn.C_below B2 h03) (Kn.C_below B2 h13)).mono ?_
    rintro e w3 ⟨rfl, hb3⟩
    obtain ⟨hc3, hf3⟩ := bcell hb3
    rw [eqv_self]
    have B3 := B2.trans (hb3.mono B2.size)
    have z3 : w.heap.size < w3.heap.size := by have := hb3.size; omega
    have y3 : w.heap.size + 1 < w3.heap.size := by have := hb3.size; omega
    go_wp2_with fail
    refine (eqIntS _ _ _ _ _ _ _ (Kn.C_below B3 h04) (Kn.C_below B3 h14)).mono ?_
    rintro e w4 ⟨rfl, hb4⟩
    obtain ⟨hc4, hf4⟩ := bcell hb4
    rw [eqv_self]
    have B4 := B3.trans (hb4.mono B3.size)
    have z4 : w.heap.size < w4.heap.size := by have := hb4.size; omega
    have y4 : w.heap.size + 1 < w4.heap.size := by have := hb4.size; omega
    go_wp2_with fail
    refine (eqPartS _ _ _ _ _ _ _ (Kn.C_below B4 h05) (Kn.C_below B4 h15)).mono ?_
    rintro e w5 ⟨rfl, hb5⟩
    obtain ⟨hc5, hf5⟩ := bcell hb5
    rw [eqv_self]
    have B5 := B4.trans (hb5.mono B4.size)
    have z5 : w.heap.size < w5.heap.size := by have := hb5.size; omega
    have y5 : w.heap.size + 1 < w5.heap.size := by have := hb5.size; omega
    go_wp2_with fail
    refine (eqPartS _ _ _ _ _ _ _ (Kn.C_below B5 h06) (Kn.C_below B5 h16)).mono ?_
    rintro e w6 ⟨rfl, hb6⟩
    obtain ⟨hc6, hf6⟩ := bcell hb6
    rw [eqv_self]
    have B6 := B5.trans (hb6.mono B5.size)
    have z6 : w.heap.size < w6.heap.size := by have := hb6.size; omega
    have y6 : w.heap.size + 1 < w6.heap.size := by have := hb6.size; omega
    go_wp2_with fail
    refine (eqFlankS _ _ _ _ _ _ _ (Kn.C_below B6 h07) (Kn.C_below B6 h17)).mono ?_
    rintro e w7 ⟨rfl, hb7⟩
    obtain ⟨hc7, hf7⟩ := bcell hb7
    rw [E.out]
    have B7 := B6.trans (hb7.mono B6.size)
    have z7 : w.heap.size < w7.heap.size := by have := hb7.size; omega
    have y7 : w.heap.size + 1 < w7.heap.size := by have := hb7.size; omega
    go_wp2
    go_ret
    exact ⟨rfl, B7⟩
  subst h7
  rw [eqv_self]
  go_enter Tryz.func43, Tryz.ntmps43
  go_wp2_with fail
  refine (eqStepS _ _ _ _ _ _ _ (Kn.C_below ((below_alloc w _).alloc (by simp) _) h02) (Kn.C_below ((below_alloc w _).alloc (by simp) _) h12)).mono ?_
  rintro e w2 ⟨rfl, hb2⟩
  obtain ⟨hc2, hf2⟩ := bcell hb2
  rw [eqv_self]
  have B2 := ((below_alloc w _).alloc (by simp) _).trans (hb2.mono (by simp; omega))
  have z2 : w.heap.size < w2.heap.size := by have := hb2.size; simp at this; omega
  have y2 : w.heap.size + 1 < w2.heap.size := by have := hb2.size; simp at this; omega
  go_wp2_with fail
  refine (eqLieS _ _ _ _ _ _ _ (Kn.C_below B2 h03) (Kn.C_below B2 h13)).mono ?_
  rintro e w3 ⟨rfl, hb3⟩
  obtain ⟨hc3, hf3⟩ := bcell hb3
  rw [eqv_self]
  have B3 := B2.trans (hb3.mono B2.size)
  have z3 : w.heap.size < w3.heap.size := by have := hb3.size; omega
  have y3 : w.heap.size + 1 < w3.heap.size := by have := hb3.size; omega
  go_wp2_with fail
  refine (eqIntS _ _ _ _ _ _ _ (Kn.C_below B3 h04) (Kn.C_below B3 h14)).mono ?_
  rintro e w4 ⟨rfl, hb4⟩
  obtain ⟨hc4, hf4⟩ := bcell hb4
  rw [eqv_self]
  have B4 := B3.trans (hb4.mono B3.size)
  have z4 : w.heap.size < w4.heap.size := by have := hb4.size; omega
  have y4 : w.heap.size + 1 < w4.heap.size := by have := hb4.size; omega
  go_wp2_with fail
  refine (eqPartS _ _ _ _ _ _ _ (Kn.C_below B4 h05) (Kn.C_below B4 h15)).mono ?_
  rintro e w5 ⟨rfl, hb5⟩
  obtain ⟨hc5, hf5⟩ := bcell hb5
  rw [eqv_self]
  have B5 := B4.trans (hb5.mono B4.size)
  have z5 : w.heap.size < w5.heap.size := by have := hb5.size; omega
  have y5 : w.heap.size + 1 < w5.heap.size := by have := hb5.size; omega
  go_wp2_with fail
  refine (eqPartS _ _ _ _ _ _ _ (Kn.C_below B5 h06) (Kn.C_below B5 h16)).mono ?_
  rintro e w6 ⟨rfl, hb6⟩
  obtain ⟨hc6, hf6⟩ := bcell hb6
  rw [eqv_self]
  have B6 := B5.trans (hb6.mono B5.size)
  have z6 : w.heap.size < w6.heap.size := by have := hb6.size; omega
  have y6 : w.heap.size + 1 < w6.heap.size := by have := hb6.size; omega
  go_wp2_with fail
  refine (eqFlankS _ _ _ _ _ _ _ (Kn.C_below B6 h07) (Kn.C_below B6 h17)).mono ?_
  rintro e w7 ⟨rfl, hb7⟩
  obtain ⟨hc7, hf7⟩ := bcell hb7
  rw [eqv_self]
  have B7 := B6.trans (hb7.mono B6.size)
  have z7 : w.heap.size < w7.heap.size := by have := hb7.size; omega
  have y7 : w.heap.size + 1 < w7.heap.size := by have := hb7.size; omega
  go_wp2
  go_ret
  exact ⟨rfl, B7⟩
end Go.Proofs.YtpggopdojhodaaaGreat.L
namespace Go.Proofs.YtpggopdojhodaaaGreat.L
open Go.RowKit
set_option linter.unusedVariables false
structure Keep (S : Nat → Prop) (w w' : World) : Prop where
  os : w'.os = w.os
  tape : w'.tape = w.tape
  output : w'.output = w.output
  size : w.heap.size ≤ w'.heap.size
  block : ∀ k, k < w.heap.size → ¬ S k → w'.heap[k]? = w.heap[k]?
namespace Keep
variable {S S' : Nat → Prop} {a b c w w1 w2 : World}
theorem refl (S : Nat → Prop) (w : World) : Keep S w w := ⟨rfl, rfl, rfl, Nat.le_refl _, fun _ _ _ => rfl⟩
theorem trans (h : Keep S a b) (k : Keep S' b c) (hs : ∀ x, x < a.heap.size → S' x → S x) : Keep S a c :=
  ⟨k.os.trans h.os, k.tape.trans h.tape, k.output.trans h.output, Nat.le_trans h.size k.size, fun i hi hn => (k.block i (Nat.lt_of_lt_of_le hi h.size) (fun e => hn (hs i hi e))).trans (h.block i hi hn)⟩
theorem mono (h : Keep S' a b) (hs : ∀ x, x < a.heap.size → S' x → S x) : Keep S a b :=
  ⟨h.os, h.tape, h.output, h.size, fun i hi hn => h.block i hi (fun e => hn (hs i hi e))⟩
theorem of_below (h : Below w.heap.size w w1) : Keep S w w1 := ⟨h.os, h.tape, h.output, h.size, fun k hk _ => h.block k hk⟩
theorem below (h : Keep S a b) (k : Below b.heap.size b c) : Keep S a c := h.trans (of_below (S := fun _ => False) k) (fun _ _ e => e.elim)
theorem to_below {B : Nat} (h : Keep S a b) (hB : B ≤ a.heap.size) (hs : ∀ k, k < B → ¬ S k) : Below B a b :=
  ⟨h.os, h.tape, h.output, h.size, fun k hk => h.block k (Nat.lt_of_lt_of_le hk hB) (hs k hk)⟩
theorem alloc (h : Keep S w w1) (o : Obj) : Keep S w (w1.alloc o) := h.below (below_alloc _ _)
theorem drew (h : Keep S w w1) : Keep S w w1.drew := ⟨h.os, h.tape, h.output, h.size, h.block⟩
theorem drewN (h : Keep S w w1) (n : Nat) : Keep S w (w1.drewN n) := ⟨h.os, h.tape, h.output, h.size, h.block⟩
theorem setCell (h : Keep S w w1) {p : Addr} (hp : p.block < w.heap.size → S p.block) (u : Value) : Keep S w (w1.setCell p u) := by
  refine h.trans (b := w1) (S' := fun k => k = p.block) ⟨rfl, rfl, rfl, ?_, fun k hk hn => Below.heap_setCell w1 p u k hn⟩ (fun x hx e => by subst e; exact hp hx)
  simp
theorem grown (h : Keep S w w1) {row : Option Nat} (hg : w1.grownBy w2 row) (hr : ∀ k, row = some k → k < w.heap.size → S k) : Keep S w w2 :=
  h.trans (S' := fun k => row = some k) ⟨hg.os, hg.tape, hg.output, hg.size, fun k hk hn => hg.block k hk (fun e => hn e.symm)⟩ (fun x hx e => hr x e hx)
theorem cell (h : Keep S w w1) {p : Addr} (hp : p.block < w.heap.size) (hn : ¬ S p.block) : w1.cell? p = w.cell? p := World.cell?_of_block (h.block _ hp hn)
theorem frozen (h : Keep S w w1) {p : Addr} (hp : p.block < w.heap.size) (hn : ¬ S p.block) : w1.frozen? p = w.frozen? p := World.frozen?_of_block (h.block _ hp hn)
end Keep
def Out (w : World) (S : Nat → Prop) (b : Nat) : Prop := b < w.heap.size ∧ ¬ S b
theorem Out.keep {w w1 : World} {S S' : Nat → Prop} {b : Nat} (h : Keep S w w1) (hs : ∀ x, x < w.heap.size → S' x → S x) (hb : Out w S b) : Out w1 S' b :=
  ⟨Nat.lt_of_lt_of_le hb.1 h.size, fun e => hb.2 (hs b hb.1 e)⟩
namespace Kn
variable {α : Type} {d : Kn α} {w w1 : World} {S S' : Nat → Prop}
theorem C_keep {A : Option Addr} {xs : List α} (hk : Keep S w w1) (hs : ∀ x, x < w.heap.size → S' x → S x) (h : d.C w (Out w S) A xs) : d.C w1 (Out w1 S') A xs :=
  C_mono (fun b hb => Out.keep hk hs hb) (C_move (fun b hb => hk.block b hb.1 hb.2) h)
theorem C_out {ok : Nat → Prop} {A : Option Addr} {xs : List α} (hn : ∀ b, ok b → b < w.heap.size → ¬ S b) (h : d.C w ok A xs) : d.C w (Out w S) A xs :=
  C_mono (fun b hb => ⟨hb.2, hn b hb.1 hb.2⟩) (C_bound h)
def Rw {α : Type} (d : Kn α) (e : Nat) (w : World) (ok : Nat → Prop) (v : Value) (xs : List α) : Prop :=
  ∃ inner, w.ownsRow 0 e d.sz v xs.length inner ∧ ∀ j x, xs[j]? = some x → d.K w ok x ((inner.drop (j * d.sz)).take d.sz)
variable {e : Nat} {ok ok' : Nat → Prop} {v : Value} {xs : List α}
theorem Rw.nil : d.Rw e w ok (.slice none 0 0) [] := ⟨[], World.ownsRow_nil w 0 e d.sz, by simp⟩
theorem Rw.lt (h : d.Rw e w ok v xs) : ∀ k, v.ownBlock = some k → k < w.heap.size := by
  obtain ⟨inner, ho, _⟩ := h
  exact fun k hk => (ho.lt k hk).2
theorem Rw.mono (hm : ∀ b, ok b → ok' b) (h : d.Rw e w ok v xs) : d.Rw e w ok' v xs := by
  obtain ⟨inner, ho, hi⟩ := h
  exact ⟨inner, ho, fun j x hj => d.K_mono hm (hi j x hj)⟩
theorem Rw.move (hv : ∀ k, v.ownBlock = some k → w1.heap[k]? = w.heap[k]?) (hm : ∀ b, ok b → w1.heap[b]? = w.heap[b]?) (h : d.Rw e w ok v xs) : d.Rw e w1 ok v xs := by
  obtain ⟨inner, ho, hi⟩ := h
  exact ⟨inner, own_move ho hv, fun j x hj => d.K_move hm (hi j x hj)⟩
theorem Rw.form (h : d.Rw e w ok v xs) : ∃ A c, v = .slice A xs.length c ∧ xs.length ≤ c ∧ xs.length ≤ 9223372036854775807 := by
  obtain ⟨inner, ho, _⟩ := h
  rcases ho.2 with ⟨rfl, h0⟩ | ⟨g, cap, cur, rfl, _, hh, hc, hm, _⟩
  · exact ⟨none, 0, by rw [h0], by omega, by omega⟩
  · simp only [maxLen] at hm
    exact ⟨_, cap, rfl, hc, by omega⟩
theorem Rw.C (h : d.Rw e w ok v xs) : ∃ A c, v = .slice A xs.length c ∧ xs.length ≤ c ∧ d.C w (fun b => ok b ∨ v.ownBlock = some b) A xs := by
  obtain ⟨A, c, rfl, hc, hm⟩ := h.form
  obtain ⟨inner, ho, hi⟩ := h
  refine ⟨A, c, rfl, hc, by simpa using hm, fun h0 => ?_⟩
  rcases ho.2 with ⟨he, h1⟩ | ⟨g, cap, cur, he, _, hh, _, _, _⟩
  · omega
  · injection he with he _ _
    subst he
    refine ⟨⟨g, 0, none⟩, rfl, .inr rfl, lt_of_get hh, fun j x hj => ?_⟩
    refine ⟨_, d.K_mono (fun b hb => .inl hb) (hi j x hj), fun i u hu => ?_⟩
    rw [List.getElem?_take] at hu
    split at hu
    · rw [List.getElem?_drop] at hu
      exact ho.cells (g := g) rfl _ u hu
    · cases hu
theorem Rw.snoc {v' : Value} {x : α} {cs : List Value} {inner : List Value} (ho' : w1.ownsRow 0 e d.sz v' (xs.length + 1) (inner ++ cs)) (hl : inner.length = xs.length * d.sz)
    (hi : ∀ j x, xs[j]? = some x → d.K w1 ok x ((inner.drop (j * d.sz)).take d.sz)) (hx : d.K w1 ok x cs) : d.Rw e w1 ok v' (xs ++ [x]) := by
  refine ⟨inner ++ cs, by rw [List.length_append]; exact ho', fun j y hj => ?_⟩
  by_cases hjl : j < xs.length
  · rw [List.getElem?_append_left hjl] at hj
    have hle : j * d.sz + d.sz ≤ xs.length * d.sz := by rw [← Nat.succ_mul]; exact Nat.mul_le_mul_right _ hjl
    rw [List.drop_append_of_le_length (by omega), List.take_append_of_le_length (by rw [List.length_drop]; omega)]
    exact hi j y hj
  · have hjl' := (List.getElem?_eq_some_iff.1 hj).1
    rw [List.length_append, List.length_singleton] at hjl'
    obtain rfl : j = xs.length := by omega
    rw [List.getElem?_append_right (Nat.le_refl _), Nat.sub_self] at hj
    obtain rfl := Option.some.inj hj
    rw [← hl, List.drop_left, List.take_of_length_le (by rw [d.K_len hx]; exact Nat.le_refl _)]
    exact hx
end Kn
end Go.Proofs.YtpggopdojhodaaaGreat.L
namespace Go.Proofs.YtpggopdojhodaaaGreat.L
open Go.RowKit
set_option linter.unusedVariables false
namespace Kn
variable {α : Type} {d : Kn α} {w w1 : World} {ok : Nat → Prop}
def Src (d : Kn α) (w : World) (ok : Nat → Prop) (A : Option Addr) (ys : List α) : Prop :=
  0 < ys.length → ∃ ad, A = some ad ∧ ∀ j x, ys[j]? = some x → ∃ c, d.K w ok x c ∧ ∀ i u, c[i]? = some u → w.cell? (ad.add (j * d.sz + i)) = some u
theorem Src.flat {ok' : Nat → Prop} {A : Option Addr} {ys : List α} (hd : ∀ w ok ok' x cs, d.K w ok x cs → d.K w ok' x cs) (h : d.C w ok' A ys) : Src d w ok A ys := fun h0 => by
  obtain ⟨ad, e, ho, hl, hx⟩ := h.2 h0
  refine ⟨ad, e, fun j x hj => ?_⟩
  obtain ⟨c, hk, hc⟩ := hx j x hj
  exact ⟨c, hd _ _ _ _ _ hk, hc⟩
theorem Src.one {ad : Addr} {x : α} {cs : List Value} (hk : d.K w ok x cs) (hc : ∀ i u, cs[i]? = some u → w.cell? (ad.add i) = some u) : Src d w ok (some ad) [x] := fun _ =>
  ⟨ad, rfl, fun j y hj => by
    obtain ⟨h1, h2⟩ := List.getElem?_eq_some_iff.1 hj
    simp only [List.length_singleton] at h1
    obtain rfl : j = 0 := by omega
    simp only [List.getElem_cons_zero] at h2
    subst h2
    exact ⟨cs, hk, fun i u hu => by rw [Nat.zero_mul, Nat.zero_add]; exact hc i u hu⟩⟩
theorem Src.cells {A : Option Addr} {ys : List α} (h : Src d w ok A ys) : ∃ news : List Value, news.length = ys.length * d.sz ∧ (∀ j y, ys[j]? = some y → d.K w ok y ((news.drop (j * d.sz)).take d.sz)) ∧
    (∀ u ∈ news, u.oneCell' = true) ∧ (0 < ys.length → ∃ ad, A = some ad ∧ ∀ j u, news[j]? = some u → w.cell? (ad.add j) = some u) := by
  rcases Nat.eq_zero_or_pos ys.length with h0 | h0
  · obtain rfl : ys = [] := List.eq_nil_of_length_eq_zero h0
    exact ⟨[], by simp, by simp, by simp, by simp⟩
  obtain ⟨ad, e, hx⟩ := h h0
  have key : ∀ k, k ≤ ys.length → ∃ news : List Value, news.length = k * d.sz ∧ (∀ j y, j < k → ys[j]? = some y → d.K w ok y ((news.drop (j * d.sz)).take d.sz)) ∧ (∀ u ∈ news, u.oneCell' = true) ∧ ∀ j u, news[j]? = some u → w.cell? (ad.add j) = some u := by
    intro k
    induction k with
    | zero => exact fun _ => ⟨[], by simp, fun j y hj => absurd hj (by omega), by simp, by simp⟩
    | succ k ih =>
      intro hk
      obtain ⟨news, h1, h2, h3, h4⟩ := ih (by omega)
      obtain ⟨c, hkk, hc⟩ := hx k _ (List.getElem?_eq_getElem (by omega))
      have hcl := d.K_len hkk
      refine ⟨news ++ c, by rw [List.length_append, h1, hcl, Nat.succ_mul], fun j y hj hy => ?_, fun u hu => ?_, fun j u hu => ?_⟩
      · by_cases hjk : j < k
        · have hle : j * d.sz + d.sz ≤ k * d.sz := by rw [← Nat.succ_mul]; exact Nat.mul_le_mul_right _ hjk
          rw [List.drop_append_of_le_length (by omega), List.take_append_of_le_length (by rw [List.length_drop]; omega)]
          exact h2 j y hjk hy
        · obtain rfl : j = k := by omega
          rw [List.getElem?_eq_getElem (by omega)] at hy
          obtain rfl := Option.some.inj hy
          rw [← h1, List.drop_left, List.take_of_length_le (by omega)]
          exact hkk
      · rcases List.mem_append.1 hu with hu | hu
        · exact h3 u hu
        · exact d.K_one hkk u hu
      · by_cases hjn : j < news.length
        · rw [List.getElem?_append_left hjn] at hu
          exact h4 j u hu
        · rw [List.getElem?_append_right (by omega)] at hu
          have := hc _ u hu
          rwa [← h1, show news.length + (j - news.length) = j by omega] at this
  obtain ⟨news, h1, h2, h3, h4⟩ := key _ (Nat.le_refl _)
  exact ⟨news, h1, fun j y hj => h2 j y (List.getElem?_eq_some_iff.1 hj).1 hj, h3, fun _ => ⟨ad, e, h4⟩⟩
theorem Rw.app {e : Nat} {v' : Value} {xs ys : List α} {inner news : List Value} (ho' : w1.ownsRow 0 e d.sz v' (xs.length + ys.length) (inner ++ news)) (hl : inner.length = xs.length * d.sz) (hn : news.length = ys.length * d.sz)
    (hi : ∀ j x, xs[j]? = some x → d.K w1 ok x ((inner.drop (j * d.sz)).take d.sz)) (hx : ∀ j y, ys[j]? = some y → d.K w1 ok y ((news.drop (j * d.sz)).take d.sz)) : d.Rw e w1 ok v' (xs ++ ys) := by
  refine ⟨inner ++ news, by rw [List.length_append]; exact ho', fun j y hj => ?_⟩
  by_cases hjl : j < xs.length
  · rw [List.getElem?_append_left hjl] at hj
    have hle : j * d.sz + d.sz ≤ xs.length * d.sz := by rw [← Nat.succ_mul]; exact Nat.mul_le_mul_right _ hjl
    rw [List.drop_append_of_le_length (by omega), List.take_append_of_le_length (by rw [List.length_drop]; omega)]
    exact hi j y hj
  · rw [List.getElem?_append_right (by omega)] at hj
    have := hx _ y hj
    rw [Nat.sub_mul] at this
    have hge : inner.length ≤ j * d.sz := by rw [hl]; exact Nat.mul_le_mul_right _ (by omega)
    rw [List.drop_append, List.drop_eq_nil_of_le hge, List.nil_append, hl]
    exact this
theorem Rw.below {e : Nat} {v : Value} {xs : List α} (hb : Below w.heap.size w w1) (h : d.Rw e w ok v xs) : d.Rw e w1 ok v xs := by
  obtain ⟨inner, ho, hi⟩ := h
  exact ⟨inner, own_move ho (fun k hk => hb.block k (ho.lt k hk).2), fun j x hj => K_below hb (hi j x hj)⟩
theorem Rw.grownK {e : Nat} {v : Value} {xs : List α} {S : Nat → Prop} (hk : Keep S w w1) (hv : ∀ k, v.ownBlock = some k → ¬ S k) (ho : ∀ b, ok b → b < w.heap.size → ¬ S b) (h : d.Rw e w ok v xs) : d.Rw e w1 ok v xs := by
  obtain ⟨inner, hw, hi⟩ := h
  exact ⟨inner, own_move hw (fun k hkk => hk.block k (hw.lt k hkk).2 (hv k hkk)), fun j x hj => d.K_mono (fun b hb => hb.1) (d.K_move (fun b hb => hk.block b hb.2 (ho b hb.1 hb.2)) (d.K_bound (hi j x hj)))⟩
theorem Rw.form1 {e : Nat} {v : Value} {xs : List α} {x : α} (h : d.Rw e w ok v (xs ++ [x])) : ∃ A c, v = .slice A (xs.length + 1) c ∧ xs.length + 1 ≤ c := by
  obtain ⟨A, c, rfl, hc, _⟩ := h.form
  rw [List.length_append, List.length_singleton] at hc ⊢
  exact ⟨A, c, rfl, hc⟩
theorem Rw.own {e : Nat} {v : Value} {xs : List α} (hd : ∀ w ok x cs, d.K w ok x cs → d.O w x cs []) (h : d.Rw e w ok v xs) : (Kn.slice e d).O w xs [v] v.ownBlock.toList := by
  obtain ⟨inner, ho, hi⟩ := h
  refine ⟨v, xs.map (fun x => (x, [])), rfl, by rw [List.map_map]; exact (List.map_id xs).symm, ⟨inner, by rw [List.length_map]; exact ho, fun j p hj => ?_, ?_⟩, ?_⟩
  · rw [List.getElem?_map, Option.map_eq_some_iff] at hj
    obtain ⟨x, hx, rfl⟩ := hj
    exact hd _ _ _ _ (hi j x hx)
  · unfold foot
    rw [show (List.map Prod.snd (xs.map (fun x => (x, ([] : List Nat))))).flatten = [] from by simp]
    rw [List.append_nil]
    cases v.ownBlock <;> simp
  · unfold foot
    rw [show (List.map Prod.snd (xs.map (fun x => (x, ([] : List Nat))))).flatten = [] from by simp]
    rw [List.append_nil]
end Kn
def RetW {α : Type} (e : Nat) (d : Kn α) (ok : Nat → Prop) (xs : List α) (w : World) (en : Ending) (w' : World) : Prop :=
  ∃ v, en = .returned v ∧ d.Rw e w' ok v xs ∧ (∀ b, v.ownBlock = some b → w.heap.size ≤ b) ∧ Below w.heap.size w w'
def nobody : Nat → Prop := fun _ => False
section
variable {α : Type} {d : Kn α} {P : Program} (w : World) {ok : Nat → Prop}
theorem run_append_nil_src (base : Nat) (t ty e : TypeId) (i : TypeInfo) (size : Nat) (ht : P.underlying t = some (.slice e)) (hi : P.info? e = some i)
    (v : Value) (n : Nat) (xs : List Value) (hown : w.ownsRow base e size v n xs) (c : Nat) : (Builtin.append_ #[t, t] ty #[v, .slice none 0 c]).run P w = .ok v w := by
  rcases hown.2 with ⟨rfl, rfl⟩ | ⟨g, cap, cur, rfl, _, _, hnc, _⟩
  · simp [Builtin.append_, run_underlying ht, sizeOf, typeInfo, hi, Builtin.lenOf, Builtin.firstCells]
  · simp [Builtin.append_, run_underlying ht, sizeOf, typeInfo, hi, Builtin.lenOf, Builtin.firstCells, hnc, storeCells]
theorem run_append_rw (t ty e : TypeId) (i : TypeInfo) (z : Value) (bytes : Nat) (ht : P.underlying t = some (.slice e)) (hi : P.info? e = some i) (hz : i.zero = some z)
    (hsize : i.size = d.sz) (hby : i.bytes = bytes) (hzs : z.cells.size = d.sz) (hsz : 0 < d.sz)
    (v : Value) (xs ys : List α) (hown : d.Rw e w ok v xs) (hok : ∀ b, ok b → ¬ v.ownBlock = some b) (A : Option Addr) (m c : Nat) (hm : m = ys.length) (hr : Kn.Src d w ok A ys)
    (h63 : xs.length + m ≤ maxLen) (hbytes : (xs.length + m) * bytes ≤ 140737488355328) :
    ∃ v' w', (Builtin.append_ #[t, t] ty #[v, .slice A m c]).run P w = .ok v' w' ∧ d.Rw e w' ok v' (xs ++ ys) ∧ w.grownBy w' v.ownBlock ∧ (v'.ownBlock = v.ownBlock ∨ v'.ownBlock = some w.heap.size) := by
  subst hm
  obtain ⟨news, n1, n2, n3, n4⟩ := hr.cells
  obtain ⟨inner, ho, hinner⟩ := hown
  have keep : ∀ {w1 : World}, w.grownBy w1 v.ownBlock → ∀ {x : α} {cs : List Value}, d.K w ok x cs → d.K w1 ok x cs := fun hg x cs hk =>
    d.K_mono (fun b hb => hb.1) (d.K_move (fun b hb => hg.block b hb.2 (fun e => hok b hb.1 e.symm)) (d.K_bound hk))
  rcases A with _ | ad
  · have h0 : ys.length = 0 := by
      rcases Nat.eq_zero_or_pos ys.length with h0 | h0
      · exact h0
      · obtain ⟨ad, h, _⟩ := n4 h0
        cases h
    obtain rfl : ys = [] := List.eq_nil_of_length_eq_zero h0
    exact ⟨v, w, run_append_nil_src w 0 t ty e i d.sz ht hi v xs.length inner ho c, by rw [List.append_nil]; exact ⟨inner, ho, hinner⟩, World.grownBy.refl w _, .inl rfl⟩
  · have hcells : ∀ j u, news[j]? = some u → w.cell? (ad.add j) = some u := by
      intro j u hu
      rcases Nat.eq_zero_or_pos ys.length with h0 | h0
      · have hn : news = [] := List.eq_nil_of_length_eq_zero (by rw [n1, h0, Nat.zero_mul])
        subst hn
        simp at hu
      · obtain ⟨ad', h, hc⟩ := n4 h0
        injection h with h
        subst h
        exact hc j u hu
    obtain ⟨v', w', hrun, h2, h3, _, h5⟩ := run_append_own_at (P := P) w 0 t ty e i z d.sz bytes ht hi hz hsize hby hzs hsz v xs.length inner ho ad ys.length c news n1 hcells n3 h63 hbytes (Nat.zero_le _)
    exact ⟨v', w', hrun, Kn.Rw.app h2 ho.1 n1 (fun j x hj => keep h3 (hinner j x hj)) (fun j y hj => keep h3 (n2 j y hj)), h3, h5⟩
theorem wp_append_rw {o : Oper} {a : Act} {K : Act → World → Prop} {Q : Exit → Act → World → Prop} (s x : Operand) (t : TypeId)
    (ho : o.op = .call { callee := .builtin .append, args := #[s, x], argTypes := #[t, t] })
    (e : TypeId) (i : TypeInfo) (z : Value) (bytes : Nat) (ht : P.underlying t = some (.slice e)) (hi : P.info? e = some i) (hz : i.zero = some z)
    (hsize : i.size = d.sz) (hby : i.bytes = bytes) (hzs : z.cells.size = d.sz) (hsz : 0 < d.sz)
    (v : Value) (xs ys : List α) (hs : a.eval s = v) (hown : d.Rw e w ok v xs) (hok : ∀ b, ok b → ¬ v.ownBlock = some b) (A : Option Addr) (m c : Nat) (hx : a.eval x = .slice A m c) (hm : m = ys.length) (hr : Kn.Src d w ok A ys)
    (h63 : xs.length + m ≤ maxLen) (hbytes : (xs.length + m) * bytes ≤ 140737488355328)
    (h : ∀ v' w', d.Rw e w' ok v' (xs ++ ys) → w.grownBy w' v.ownBlock → (v'.ownBlock = v.ownBlock ∨ v'.ownBlock = some w.heap.size) → K (a.put o.dst v') w') : o.wp P a w K Q := by
  obtain ⟨v', w', hrun, h2, h3, h4⟩ := run_append_rw (P := P) w t o.type e i z bytes ht hi hz hsize hby hzs hsz v xs ys hown hok A m c hm hr h63 hbytes
  unfold Oper.wp execOp
  simp only [ho, resolve, invoke, builtin, Sem.run_bind, Sem.run_pure, Result.andThen_ok, List.map_toArray, List.map_cons, List.map_nil, hs, hx, hrun]
  exact h v' w' h2 h3 h4
theorem wpList_append_rw {ops : Array Oper} {rest : List Oper} {o : Oper} {a : Act} {Q : Exit → Act → World → Prop} (hgd : o.guard = none) (s x : Operand) (t : TypeId)
    (ho : o.op = .call { callee := .builtin .append, args := #[s, x], argTypes := #[t, t] })
    (e : TypeId) (i : TypeInfo) (z : Value) (bytes : Nat) (ht : P.underlying t = some (.slice e)) (hi : P.info? e = some i) (hz : i.zero = some z)
    (hsize : i.size = d.sz) (hby : i.bytes = bytes) (hzs : z.cells.size = d.sz) (hsz : 0 < d.sz)
    (v : Value) (xs ys : List α) (hs : a.eval s = v) (hown : d.Rw e w ok v xs) (hok : ∀ b, ok b → ¬ v.ownBlock = some b) (A : Option Addr) (m c : Nat) (hx : a.eval x = .slice A m c) (hm : m = ys.length) (hr : Kn.Src d w ok A ys)
    (h63 : xs.length + m ≤ maxLen) (hbytes : (xs.length + m) * bytes ≤ 140737488355328)
    (h : ∀ v' w', d.Rw e w' ok v' (xs ++ ys) → w.grownBy w' v.ownBlock → (v'.ownBlock = v.ownBlock ∨ v'.ownBlock = some w.heap.size) → wpList P ops Q rest (a.put o.dst v') w') : wpList P ops Q (o :: rest) a w :=
  wpList_plain hgd fun _ hK => wp_append_rw w s x t ho e i z bytes ht hi hz hsize hby hzs hsz v xs ys hs hown hok A m c hx hm hr h63 hbytes fun v' w' h2 h3 h4 => hK _ _ (h v' w' h2 h3 h4)
theorem step_append_rw {ops : Array Oper} {o : Oper} {a : Act} {K : Act → World → Prop} {Q : Exit → Act → World → Prop} {E : Prop} (hgd : o.guard = none) (s x : Operand) (t : TypeId)
    (ho : o.op = .call { callee := .builtin .append, args := #[s, x], argTypes := #[t, t] })
    (e : TypeId) (i : TypeInfo) (z : Value) (bytes : Nat) (ht : P.underlying t = some (.slice e)) (hi : P.info? e = some i) (hz : i.zero = some z)
    (hsize : i.size = d.sz) (hby : i.bytes = bytes) (hzs : z.cells.size = d.sz) (hsz : 0 < d.sz)
    (v : Value) (xs ys : List α) (hs : a.eval s = v) (hown : d.Rw e w ok v xs) (hok : ∀ b, ok b → ¬ v.ownBlock = some b) (A : Option Addr) (m c : Nat) (hx : a.eval x = .slice A m c) (hm : m = ys.length) (hr : Kn.Src d w ok A ys)
    (h63 : xs.length + m ≤ maxLen) (hbytes : (xs.length + m) * bytes ≤ 140737488355328)
    (h : ∀ v' w', d.Rw e w' ok v' (xs ++ ys) → w.grownBy w' v.ownBlock → (v'.ownBlock = v.ownBlock ∨ v'.ownBlock = some w.heap.size) → K (a.put o.dst v') w') :
    if Region.wanted o (yielded ops a.tmps) = true then Oper.wp P o a w K Q else E := by
  have hw : Region.wanted o (yielded ops a.tmps) = true := by simp [Region.wanted, hgd]
  rw [if_pos hw]
  exact wp_append_rw w s x t ho e i z bytes ht hi hz hsize hby hzs hsz v xs ys hs hown hok A m c hx hm hr h63 hbytes h
end
end Go.Proofs.YtpggopdojhodaaaGreat.L
namespace Go.Proofs.YtpggopdojhodaaaGreat.L
open Go.RowKit
set_option linter.unusedVariables false
set_option linter.unusedSimpArgs false
def Blk (w : World) (g : Nat) (t : TypeId) (cs : List Value) : Prop := w.heap[g]? = some (.cells cs.toArray t (0, 0))
namespace Blk
variable {w w1 : World} {g : Nat} {t : TypeId} {cs : List Value}
theorem lt (h : Blk w g t cs) : g < w.heap.size := lt_of_get h
theorem cell (h : Blk w g t cs) (i : Nat) {u : Value} (hu : cs[i]? = some u) : w.cell? ⟨g, i, none⟩ = some u := by
  rw [cell_of_row w g i _ t (0, 0) h]
  simpa using hu
theorem frozen (h : Blk w g t cs) (i : Nat) : w.frozen? ⟨g, i, none⟩ = false := by
  unfold Blk at h
  simp [World.frozen?, h]
theorem new (w : World) (t : TypeId) (cs : List Value) {g : Nat} (hg : g = w.heap.size) : Blk (w.alloc (.cells cs.toArray t)) g t cs := by subst hg; exact heap_alloc_new w _
theorem alloc (h : Blk w g t cs) (o : Obj) : Blk (w.alloc o) g t cs := (Below.heap_alloc w o g h.lt).trans h
theorem set_ (h : Blk w g t cs) (i : Nat) (u : Value) : Blk (w.setCell ⟨g, i, none⟩ u) g t (cs.set i u) := by
  unfold Blk at h ⊢
  simp [World.setCell, Array.getElem?_modify, h]
theorem far (h : Blk w g t cs) {p : Addr} (hp : g ≠ p.block) (u : Value) : Blk (w.setCell p u) g t cs := (Below.heap_setCell w p u g hp).trans h
theorem below {B : Nat} (h : Blk w g t cs) (hb : Below B w w1) (hg : g < B) : Blk w1 g t cs := (hb.block g hg).trans h
theorem keep {S : Nat → Prop} (h : Blk w g t cs) (hb : Keep S w w1) (hg : ¬ S g) : Blk w1 g t cs := (hb.block g h.lt hg).trans h
end Blk
theorem toStep (x : Step) (w : World) : Calls Tryz.prog 139 #[x.v] w (RetV x.v w) := by
  obtain ⟨a0, a1⟩ := x
  go_enter Tryz.func139, Tryz.ntmps139
  go_wp2
  exact bodyPost_ret (v := .agg #[.int .i64 a0, .int .i64 a1]) (by simp [results, Tryz.results139, go_sem]) rfl ⟨rfl, ((below_alloc _ _).alloc (by simp) _).alloc (by simp; omega) _⟩
theorem info124 : (Tryz.prog.info? 124).map (fun i => (i.zero, i.size, i.bytes)) = some (some (.agg #[.int .i64 0, .int .i64 0]), 2, 16) := by kernel_rfl
set_option maxRecDepth 100000 in
set_option maxHeartbeats 1000000 in
theorem toStepS {ok : Nat → Prop} (A : Option Addr) (c : Nat) (xs : List Step) (w : World) (hx : stepK.C w ok A xs) (hn : xs.length ≤ 1048576) :
    Calls Tryz.prog 102 #[.slice A xs.length c] w (RetS 124 stepK xs w) := by
  obtain ⟨i0, hi, hz0, hz1, hz2⟩ := info_parts info124
  go_enter Tryz.func102, Tryz.ntmps102
  go_wp2_with (at_make; refine wpList_make_full _ rfl _ _ 75 rfl 0 124 i0 _ 2 Tryz.underlying75 hi hz0 hz1 .i64 .i64 _ _ xs.length rfl rfl rfl rfl (by rw [hz2]; omega) (by unfold maxLen; omega) (Nat.zero_le _) ?_; intro w0 hown hg0)
  go_loopw [4] (fun i wr => ∃ k : Nat, k ≤ xs.length ∧ i = .int .i64 k ∧ Filled 124 2 Step.cs xs w.heap.size k wr ∧ Below w.heap.size w wr) (fun i _ => xs.length - (intOf i).toNat)
  case atStart => exact ⟨0, Nat.zero_le _, rfl, Filled.start hown, ⟨hg0.os, hg0.tape, hg0.output, hg0.size, fun b hb => hg0.block b hb (by simp)⟩⟩
  case round =>
    obtain ⟨k, hk, rfl, HF, hb⟩ := hrel
    by_cases hlt : k < xs.length
    · obtain ⟨a0, rfl, y0, y1, E, g0, g1⟩ := stepK_at (Kn.C_below hb hx) k hlt
      have i0 : (0 : Int) ≤ (k : Int) := Int.natCast_nonneg _
      have i1 : (k : Int) < (xs.length : Int) := by omega
      have hgl := HF.lt
      go_wp2_with fail
      refine (toStep ⟨y0, y1⟩ _).mono ?_
      rintro e w1 ⟨rfl, hb1⟩
      obtain ⟨inner, ho, hf⟩ := HF.below hb1
      have HF := Lib.hid hf
      clear hf
      go_wp2_with (refine wpList_store_own rfl _ _ _ rfl [.int .i64 y0, .int .i64 y1] ho rfl rfl ?_ (size_of_info info124) rfl ?_; (simp; omega); intro w2 ho2 hg2)
      go_roundw
      case rel => exact ⟨k + 1, by omega, by go_num, Filled.snoc HF.out E.out rfl ho.1 ho2, below_grown (hb.trans (hb1.mono hb.size)) hg2 (Nat.le_refl _) (Nat.le_trans hb.size hb1.size)⟩
      case measure => simp [intOf]; omega
    · obtain rfl : k = xs.length := by omega
      go_wp2
      go_ret
      exact ⟨_, _, _, rfl, HF.done (fun w x => stepK_own w x), fun b hb => by rw [List.mem_singleton.1 hb]; exact Nat.le_refl _, hb⟩
theorem toLie (x : Lie) (w : World) : Calls Tryz.prog 140 #[x.v] w (RetV x.v w) := by
  obtain ⟨a0, a1⟩ := x
  go_enter Tryz.func140, Tryz.ntmps140
  go_wp2
  exact bodyPost_ret (v := .agg #[.int .i64 a0, .int .i64 a1]) (by simp [results, Tryz.results140, go_sem]) rfl ⟨rfl, ((below_alloc _ _).alloc (by simp) _).alloc (by simp; omega) _⟩
theorem info109 : (Tryz.prog.info? 109).map (fun i => (i.zero, i.size, i.bytes)) = some (some (.agg #[.int .i64 0, .int .i64 0]), 2, 16) := by kernel_rfl
set_option maxRecDepth 100000 in
set_option maxHeartbeats 1000000 in
theorem toLieS {ok : Nat → Prop} (A : Option Addr) (c : Nat) (xs : List Lie) (w : World) (hx : lieK.C w ok A xs) (hn : xs.length ≤ 1048576) :
    Calls Tryz.prog 103 #[.slice A xs.length c] w (RetS 109 lieK xs w) := by
  obtain ⟨i0, hi, hz0, hz1, hz2⟩ := info_parts info109
  go_enter Tryz.func103, Tryz.ntmps103
  go_wp2_with (at_make; refine wpList_make_full _ rfl _ _ 76 rfl 0 109 i0 _ 2 Tryz.underlying76 hi hz0 hz1 .i64 .i64 _ _ xs.length rfl rfl rfl rfl (by rw [hz2]; omega) (by unfold maxLen; omega) (Nat.zero_le _) ?_; intro w0 hown hg0)
  go_loopw [4] (fun i wr => ∃ k : Nat, k ≤ xs.length ∧ i = .int .i64 k ∧ Filled 109 2 Lie.cs xs w.heap.size k wr ∧ Below w.heap.size w wr) (fun i _ => xs.length - (intOf i).toNat)
  case atStart => exact ⟨0, Nat.zero_le _, rfl, Filled.start hown, ⟨hg0.os, hg0.tape, hg0.output, hg0.size, fun b hb => hg0.block b hb (by simp)⟩⟩
  case round =>
    obtain ⟨k, hk, rfl, HF, hb⟩ := hrel
    by_cases hlt : k < xs.length
    · obtain ⟨a0, rfl, y0, y1, E, g0, g1⟩ := lieK_at (Kn.C_below hb hx) k hlt
      have i0 : (0 : Int) ≤ (k : Int) := Int.natCast_nonneg _
      have i1 : (k : Int) < (xs.length : Int) := by omega
      have hgl := HF.lt
      go_wp2_with fail
      refine (toLie ⟨y0, y1⟩ _).mono ?_
      rintro e w1 ⟨rfl, hb1⟩
      obtain ⟨inner, ho, hf⟩ := HF.below hb1
      have HF := Lib.hid hf
      clear hf
      go_wp2_with (refine wpList_store_own rfl _ _ _ rfl [.int .i64 y0, .int .i64 y1] ho rfl rfl ?_ (size_of_info info109) rfl ?_; (simp; omega); intro w2 ho2 hg2)
      go_roundw
      case rel => exact ⟨k + 1, by omega, by go_num, Filled.snoc HF.out E.out rfl ho.1 ho2, below_grown (hb.trans (hb1.mono hb.size)) hg2 (Nat.le_refl _) (Nat.le_trans hb.size hb1.size)⟩
      case measure => simp [intOf]; omega
    · obtain rfl : k = xs.length := by omega
      go_wp2
      go_ret
      exact ⟨_, _, _, rfl, HF.done (fun w x => lieK_own w x), fun b hb => by rw [List.mem_singleton.1 hb]; exact Nat.le_refl _, hb⟩
theorem toPart (x : Part) (w : World) : Calls Tryz.prog 141 #[x.v] w (RetV x.v w) := by
  obtain ⟨a0, a1, a2⟩ := x
  go_enter Tryz.func141, Tryz.ntmps141
  go_wp2
  exact bodyPost_ret (v := .agg #[.int .i64 a0, .int .i64 a1, .int .i64 a2]) (by simp [results, Tryz.results141, go_sem]) rfl ⟨rfl, ((below_alloc _ _).alloc (by simp) _).alloc (by simp; omega) _⟩
theorem info128 : (Tryz.prog.info? 128).map (fun i => (i.zero, i.size, i.bytes)) = some (some (.agg #[.int .i64 0, .int .i64 0, .int .i64 0]), 3, 24) := by kernel_rfl
set_option maxRecDepth 100000 in
set_option maxHeartbeats 1000000 in
theorem toPartS {ok : Nat → Prop} (A : Option Addr) (c : Nat) (xs : List Part) (w : World) (hx : partK.C w ok A xs) (hn : xs.length ≤ 1048576) :
    Calls Tryz.prog 104 #[.slice A xs.length c] w (RetS 128 partK xs w) := by
  obtain ⟨i0, hi, hz0, hz1, hz2⟩ := info_parts info128
  go_enter Tryz.func104, Tryz.ntmps104
  go_wp2_with (at_make; refine wpList_make_full _ rfl _ _ 77 rfl 0 128 i0 _ 3 Tryz.underlying77 hi hz0 hz1 .i64 .i64 _ _ xs.length rfl rfl rfl rfl (by rw [hz2]; omega) (by unfold maxLen; omega) (Nat.zero_le _) ?_; intro w0 hown hg0)
  go_loopw [4] (fun i wr => ∃ k : Nat, k ≤ xs.length ∧ i = .int .i64 k ∧ Filled 128 3 Part.cs xs w.heap.size k wr ∧ Below w.heap.size w wr) (fun i _ => xs.length - (intOf i).toNat)
  case atStart => exact ⟨0, Nat.zero_le _, rfl, Filled.start hown, ⟨hg0.os, hg0.tape, hg0.output, hg0.size, fun b hb => hg0.block b hb (by simp)⟩⟩
  case round =>
    obtain ⟨k, hk, rfl, HF, hb⟩ := hrel
    by_cases hlt : k < xs.length
    · obtain ⟨a0, rfl, y0, y1, y2, E, g0, g1, g2⟩ := partK_at (Kn.C_below hb hx) k hlt
      have i0 : (0 : Int) ≤ (k : Int) := Int.natCast_nonneg _
      have i1 : (k : Int) < (xs.length : Int) := by omega
      have hgl := HF.lt
      go_wp2_with fail
      refine (toPart ⟨y0, y1, y2⟩ _).mono ?_
      rintro e w1 ⟨rfl, hb1⟩
      obtain ⟨inner, ho, hf⟩ := HF.below hb1
      have HF := Lib.hid hf
      clear hf
      go_wp2_with (refine wpList_store_own rfl _ _ _ rfl [.int .i64 y0, .int .i64 y1, .int .i64 y2] ho rfl rfl ?_ (size_of_info info128) rfl ?_; (simp; omega); intro w2 ho2 hg2)
      go_roundw
      case rel => exact ⟨k + 1, by omega, by go_num, Filled.snoc HF.out E.out rfl ho.1 ho2, below_grown (hb.trans (hb1.mono hb.size)) hg2 (Nat.le_refl _) (Nat.le_trans hb.size hb1.size)⟩
      case measure => simp [intOf]; omega
    · obtain rfl : k = xs.length := by omega
      go_wp2
      go_ret
      exact ⟨_, _, _, rfl, HF.done (fun w x => partK_own w x), fun b hb => by rw [List.mem_singleton.1 hb]; exact Nat.le_refl _, hb⟩
theorem toFlank (x : Flank) (w : World) : Calls Tryz.prog 142 #[x.v] w (RetV x.v w) := by
  obtain ⟨a0, a1, a2, a3⟩ := x
  go_enter Tryz.func142, Tryz.ntmps142
  go_wp2
  exact bodyPost_ret (v := .agg #[.int .i64 a0, .int .i64 a1, .int .i64 a2, .int .i64 a3]) (by simp [results, Tryz.results142, go_sem]) rfl ⟨rfl, ((below_alloc _ _).alloc (by simp) _).alloc (by simp; omega) _⟩
theorem info157 : (Tryz.prog.info? 157).map (fun i => (i.zero, i.size, i.bytes)) = some (some (.agg #[.int .i64 0, .int .i64 0, .int .i64 0, .int .i64 0]), 4, 32) := by kernel_rfl
set_option maxRecDepth 100000 in
set_option maxHeartbeats 1000000 in
theorem toFlankS {ok : Nat → Prop} (A : Option Addr) (c : Nat) (xs : List Flank) (w : World) (hx : flankK.C w ok A xs) (hn : xs.length ≤ 1048576) :
    Calls Tryz.prog 105 #[.slice A xs.length c] w (RetS 157 flankK xs w) := by
  obtain ⟨i0, hi, hz0, hz1, hz2⟩ := info_parts info157
  go_enter Tryz.func105, Tryz.ntmps105
  go_wp2_with (at_make; refine wpList_make_full _ rfl _ _ 78 rfl 0 157 i0 _ 4 Tryz.underlying78 hi hz0 hz1 .i64 .i64 _ _ xs.length rfl rfl rfl rfl (by rw [hz2]; omega) (by unfold maxLen; omega) (Nat.zero_le _) ?_; intro w0 hown hg0)
  go_loopw [4] (fun i wr => ∃ k : Nat, k ≤ xs.length ∧ i = .int .i64 k ∧ Filled 157 4 Flank.cs xs w.heap.size k wr ∧ Below w.heap.size w wr) (fun i _ => xs.length - (intOf i).toNat)
  case atStart => exact ⟨0, Nat.zero_le _, rfl, Filled.start hown, ⟨hg0.os, hg0.tape, hg0.output, hg0.size, fun b hb => hg0.block b hb (by simp)⟩⟩
  case round =>
    obtain ⟨k, hk, rfl, HF, hb⟩ := hrel
    by_cases hlt : k < xs.length
    · obtain ⟨a0, rfl, y0, y1, y2, y3, E, g0, g1, g2, g3⟩ := flankK_at (Kn.C_below hb hx) k hlt
      have i0 : (0 : Int) ≤ (k : Int) := Int.natCast_nonneg _
      have i1 : (k : Int) < (xs.length : Int) := by omega
      have hgl := HF.lt
      go_wp2_with fail
      refine (toFlank ⟨y0, y1, y2, y3⟩ _).mono ?_
      rintro e w1 ⟨rfl, hb1⟩
      obtain ⟨inner, ho, hf⟩ := HF.below hb1
      have HF := Lib.hid hf
      clear hf
      go_wp2_with (refine wpList_store_own rfl _ _ _ rfl [.int .i64 y0, .int .i64 y1, .int .i64 y2, .int .i64 y3] ho rfl rfl ?_ (size_of_info info157) rfl ?_; (simp; omega); intro w2 ho2 hg2)
      go_roundw
      case rel => exact ⟨k + 1, by omega, by go_num, Filled.snoc HF.out E.out rfl ho.1 ho2, below_grown (hb.trans (hb1.mono hb.size)) hg2 (Nat.le_refl _) (Nat.le_trans hb.size hb1.size)⟩
      case measure => simp [intOf]; omega
    · obtain rfl : k = xs.length := by omega
      go_wp2
      go_ret
      exact ⟨_, _, _, rfl, HF.done (fun w x => flankK_own w x), fun b hb => by rw [List.mem_singleton.1 hb]; exact Nat.le_refl _, hb⟩
theorem info3 : (Tryz.prog.info? 3).map (fun i => (i.zero, i.size, i.bytes)) = some (some (.int .i64 0), 1, 8) := by kernel_rfl
theorem intK_own (w : World) (x : Int) : Kn.int.O w x [.int .i64 x] [] := ⟨rfl, rfl⟩
set_option maxRecDepth 100000 in
set_option maxHeartbeats 1000000 in
theorem toIntS {ok : Nat → Prop} (A : Option Addr) (c : Nat) (xs : List Int) (w : World) (hx : Kn.int.C w ok A xs) (hn : xs.length ≤ 1048576) :
    Calls Tryz.prog 22 #[.slice A xs.length c] w (RetS 3 Kn.int xs w) := by
  obtain ⟨i0, hi, hz0, hz1, hz2⟩ := info_parts info3
  go_enter Tryz.func22, Tryz.ntmps22
  go_wp2_with (at_make; refine wpList_make_full _ rfl _ _ 46 rfl 0 3 i0 _ 1 Tryz.underlying46 hi hz0 hz1 .i64 .i64 _ _ xs.length rfl rfl rfl rfl (by rw [hz2]; omega) (by unfold maxLen; omega) (Nat.zero_le _) ?_; intro w0 hown hg0)
  go_loopw [4] (fun i wr => ∃ k : Nat, k ≤ xs.length ∧ i = .int .i64 k ∧ Filled 3 1 (fun x : Int => [.int .i64 x]) xs w.heap.size k wr ∧ Below w.heap.size w wr) (fun i _ => xs.length - (intOf i).toNat)
  case atStart => exact ⟨0, Nat.zero_le _, rfl, Filled.start hown, ⟨hg0.os, hg0.tape, hg0.output, hg0.size, fun b hb => hg0.block b hb (by simp)⟩⟩
  case round =>
    obtain ⟨k, hk, rfl, HF, hb⟩ := hrel
    by_cases hlt : k < xs.length
    · obtain ⟨a0, rfl, y0, E, g0⟩ := int_at (Kn.C_below hb hx) k hlt
      have i0 : (0 : Int) ≤ (k : Int) := Int.natCast_nonneg _
      have i1 : (k : Int) < (xs.length : Int) := by omega
      have hgl := HF.lt
      obtain ⟨inner, ho, hf⟩ := HF
      have HF := Lib.hid hf
      clear hf
      have hil : k < inner.length := by rw [ho.1]; omega
      have hcell : wr.cell? ⟨w.heap.size, k, none⟩ = some inner[k] := by rw [ho.cellAt _ (by omega)]; exact List.getElem?_eq_getElem hil
      have hfr : wr.frozen? ⟨w.heap.size, k, none⟩ = false := ho.frozenAt _
      obtain ⟨ho2, hg2⟩ := ho.stored k (.int .i64 y0)
      have HO2 : Hid ((wr.setCell ⟨w.heap.size, k, none⟩ (.int .i64 y0)).ownsRow 0 3 1 (.slice (some ⟨w.heap.size, 0, none⟩) xs.length xs.length) xs.length (setAll inner (k * 1) [.int .i64 y0])) := Lib.hid (by rw [Nat.mul_one]; exact ho2)
      have HL := Lib.hid ho.1
      clear ho ho2
      go_wp2
      go_roundw
      case rel => exact ⟨k + 1, by omega, by go_num, Filled.snoc HF.out E.out rfl HL.out HO2.out, below_grown hb hg2 (Nat.le_refl _) hb.size⟩
      case measure => simp [intOf]; omega
    · obtain rfl : k = xs.length := by omega
      go_wp2
      go_ret
      exact ⟨_, _, _, rfl, HF.done (fun w x => intK_own w x), fun b hb => by rw [List.mem_singleton.1 hb]; exact Nat.le_refl _, hb⟩
abbrev rK : Kn Route := routeK 124 109 3 128 157
theorem nodup_range {F G : List Nat} {B : Nat} (hF : F.Nodup) (hG : G.Nodup) (h1 : ∀ b, b ∈ F → b < B) (h2 : ∀ b, b ∈ G → B ≤ b) : (F ++ G).Nodup := List.nodup_append.2 ⟨hF, hG, fun a ha b hb => by have := h1 a ha; have := h2 b hb; omega⟩
theorem routeK_own {w : World} {x : Route} {v2 v3 v4 v5 v6 v7 : Value} {F2 F3 F4 F5 F6 F7 : List Nat} (h2 : (Kn.slice 124 stepK).O w x.steps [v2] F2) (h3 : (Kn.slice 109 lieK).O w x.lies [v3] F3) (h4 : (Kn.slice 3 Kn.int).O w x.crosses [v4] F4) (h5 : (Kn.slice 128 partK).O w x.parts [v5] F5) (h6 : (Kn.slice 128 partK).O w x.over [v6] F6) (h7 : (Kn.slice 157 flankK).O w x.flanks [v7] F7) (n2 : (F2 ++ (F3 ++ (F4 ++ (F5 ++ (F6 ++ F7))))).Nodup) :
    rK.O w x [.int .i64 x.frm, .int .i64 x.til, v2, v3, v4, v5, v6, v7] (F2 ++ (F3 ++ (F4 ++ (F5 ++ (F6 ++ F7))))) := by
  have n3 := (List.nodup_append.1 n2).2.1
  have n4 := (List.nodup_append.1 n3).2.1
  have n5 := (List.nodup_append.1 n4).2.1
  have n6 := (List.nodup_append.1 n5).2.1
  exact ⟨_, _, [], _, rfl, rfl, ⟨rfl, rfl⟩, ⟨_, _, [], _, rfl, rfl, ⟨rfl, rfl⟩, ⟨_, _, F2, (F3 ++ (F4 ++ (F5 ++ (F6 ++ F7)))), rfl, rfl, h2, ⟨_, _, F3, (F4 ++ (F5 ++ (F6 ++ F7))), rfl, rfl, h3, ⟨_, _, F4, (F5 ++ (F6 ++ F7)), rfl, rfl, h4, ⟨_, _, F5, (F6 ++ F7), rfl, rfl, h5, ⟨_, _, F6, F7, rfl, rfl, h6, h7, n6⟩, n5⟩, n4⟩, n3⟩, n2⟩, n2⟩, n2⟩
def RetRoute (x : Route) (w : World) (e : Ending) (w' : World) : Prop :=
  ∃ A2 c2 A3 c3 A4 c4 A5 c5 A6 c6 A7 c7 F, e = .returned (.agg #[.int .i64 x.frm, .int .i64 x.til, .slice A2 x.steps.length c2, .slice A3 x.lies.length c3, .slice A4 x.crosses.length c4, .slice A5 x.parts.length c5, .slice A6 x.over.length c6, .slice A7 x.flanks.length c7]) ∧ rK.O w' x [.int .i64 x.frm, .int .i64 x.til, .slice A2 x.steps.length c2, .slice A3 x.lies.length c3, .slice A4 x.crosses.length c4, .slice A5 x.parts.length c5, .slice A6 x.over.length c6, .slice A7 x.flanks.length c7] F ∧ (∀ b, b ∈ F → w.heap.size ≤ b) ∧ Below w.heap.size w w'
set_option maxRecDepth 100000 in
set_option maxHeartbeats 4000000 in
theorem toRoute {ok : Nat → Prop} (x : Route) (A2 A3 A4 A5 A6 A7 : Option Addr) (c2 c3 c4 c5 c6 c7 : Nat) (w : World) (h2 : stepK.C w ok A2 x.steps) (h3 : lieK.C w ok A3 x.lies) (h4 : Kn.int.C w ok A4 x.crosses) (h5 : partK.C w ok A5 x.parts) (h6 : partK.C w ok A6 x.over) (h7 : flankK.C w ok A7 x.flanks) (hn : x.n ≤ 1048576) :
    Calls Tryz.prog 62 #[.agg #[.int .i64 x.frm, .int .i64 x.til, .slice A2 x.steps.length c2, .slice A3 x.lies.length c3, .slice A4 x.crosses.length c4, .slice A5 x.parts.length c5, .slice A6 x.over.length c6, .slice A7 x.flanks.length c7]] w (RetRoute x w) := by
  unfold Route.n at hn
  go_enter Tryz.func62, Tryz.ntmps62
  go_wp2_with fail
  obtain ⟨W1, hW, B1, hz1, G1, Z1, O1⟩ : ∃ W, W = ((w.alloc (.cells #[.int .i64 x.frm, .int .i64 x.til, .slice A2 x.steps.length c2, .slice A3 x.lies.length c3, .slice A4 x.crosses.length c4, .slice A5 x.parts.length c5, .slice A6 x.over.length c6, .slice A7 x.flanks.length c7] 106)).alloc (.cells #[.int .i64 0, .int .i64 0, .slice none 0 0, .slice none 0 0, .slice none 0 0, .slice none 0 0, .slice none 0 0, .slice none 0 0] 80)).alloc (.cells #[.int .i64 x.frm, .int .i64 x.til, .slice none 0 0, .slice none 0 0, .slice none 0 0, .slice none 0 0, .slice none 0 0, .slice none 0 0] 80) ∧ Below w.heap.size w W ∧ w.heap.size + 2 < W.heap.size ∧ Hid (Blk W w.heap.size 106 [.int .i64 x.frm, .int .i64 x.til, .slice A2 x.steps.length c2, .slice A3 x.lies.length c3, .slice A4 x.crosses.length c4, .slice A5 x.parts.length c5, .slice A6 x.over.length c6, .slice A7 x.flanks.length c7]) ∧ Hid (Blk W (w.heap.size + 1) 80 [.int .i64 0, .int .i64 0, .slice none 0 0, .slice none 0 0, .slice none 0 0, .slice none 0 0, .slice none 0 0, .slice none 0 0]) ∧ Hid (Blk W (w.heap.size + 2) 80 [.int .i64 x.frm, .int .i64 x.til, .slice none 0 0, .slice none 0 0, .slice none 0 0, .slice none 0 0, .slice none 0 0, .slice none 0 0]) :=
    ⟨_, rfl, ((below_alloc _ _).alloc (by simp) _).alloc (by simp; omega) _, by simp, Lib.hid (((Blk.new w _ _ rfl).alloc _).alloc _), Lib.hid ((Blk.new _ _ _ (by simp)).alloc _), Lib.hid (Blk.new _ _ _ (by simp))⟩
  rw [← hW]
  clear hW
  refine (toStepS _ _ _ _ (Kn.C_below B1 h2) (by omega)).mono ?_
  rintro e w2 ⟨D2, d2, F2, rfl, o2, f2, hb⟩
  have T2 : Hid (∀ b, b ∈ F2 → b < w2.heap.size) := Lib.hid ((Kn.slice 124 stepK).O_lt o2)
  have o2 := Lib.hid o2
  have f2 := Lib.hid f2
  have G := Lib.hid (G1.out.below hb (by omega))
  have Z := Lib.hid (Z1.out.below hb (by omega))
  have O := Lib.hid (O1.out.below hb (by omega))
  have hs2 := hb.size
  have y0 : w.heap.size < w2.heap.size := by omega
  have y1 : w.heap.size + 1 < w2.heap.size := by omega
  have y2 : w.heap.size + 2 < w2.heap.size := by omega
  have k1 := G.out.cell 3 rfl
  have k3 := O.out.cell 2 rfl
  have z3 := O.out.frozen 2
  have Bn := B1.trans (hb.mono B1.size)
  go_wp2_with fail
  obtain ⟨W2, hW, B2, hz2, hy2, G2, Z2, O2, m2⟩ : ∃ W, W = w2.setCell ⟨w.heap.size + 2, 2, none⟩ (.slice D2 x.steps.length d2) ∧ Below w.heap.size w W ∧ w.heap.size + 2 < W.heap.size ∧ W.heap.size = w2.heap.size ∧ Hid (Blk W w.heap.size 106 [.int .i64 x.frm, .int .i64 x.til, .slice A2 x.steps.length c2, .slice A3 x.lies.length c3, .slice A4 x.crosses.length c4, .slice A5 x.parts.length c5, .slice A6 x.over.length c6, .slice A7 x.flanks.length c7]) ∧ Hid (Blk W (w.heap.size + 1) 80 [.int .i64 0, .int .i64 0, .slice none 0 0, .slice none 0 0, .slice none 0 0, .slice none 0 0, .slice none 0 0, .slice none 0 0]) ∧ Hid (Blk W (w.heap.size + 2) 80 [.int .i64 x.frm, .int .i64 x.til, .slice D2 x.steps.length d2, .slice none 0 0, .slice none 0 0, .slice none 0 0, .slice none 0 0, .slice none 0 0]) ∧ Hid ((Kn.slice 124 stepK).O W x.steps [.slice D2 x.steps.length d2] F2) :=
    ⟨_, rfl, Bn.setCell (by simp) _, by simp; omega, by simp, Lib.hid (G.out.far (by simp) _), Lib.hid (Z.out.far (by simp) _), Lib.hid (O.out.set_ 2 _), Lib.hid (O_set o2.out (fun b hb => by have := f2.out b hb; show b ≠ w.heap.size + 2; omega) _)⟩
  rw [← hW]
  clear hW G Z O k1 k3 z3 hb y0 y1 y2 Bn G1 Z1 O1 o2
  refine (toLieS _ _ _ _ (Kn.C_below B2 h3) (by omega)).mono ?_
  rintro e w3 ⟨D3, d3, F3, rfl, o3, f3, hb⟩
  have T3 : Hid (∀ b, b ∈ F3 → b < w3.heap.size) := Lib.hid ((Kn.slice 109 lieK).O_lt o3)
  have o3 := Lib.hid o3
  have f3 := Lib.hid f3
  have G := Lib.hid (G2.out.below hb (by omega))
  have Z := Lib.hid (Z2.out.below hb (by omega))
  have O := Lib.hid (O2.out.below hb (by omega))
  have hs3 := hb.size
  have y0 : w.heap.size < w3.heap.size := by omega
  have y1 : w.heap.size + 1 < w3.heap.size := by omega
  have y2 : w.heap.size + 2 < w3.heap.size := by omega
  have k1 := G.out.cell 4 rfl
  have k3 := O.out.cell 3 rfl
  have z3 := O.out.frozen 3
  have Bn := B2.trans (hb.mono B2.size)
  go_wp2_with fail
  obtain ⟨W3, hW, B3, hz3, hy3, G3, Z3, O3, m2, m3⟩ : ∃ W, W = w3.setCell ⟨w.heap.size + 2, 3, none⟩ (.slice D3 x.lies.length d3) ∧ Below w.heap.size w W ∧ w.heap.size + 2 < W.heap.size ∧ W.heap.size = w3.heap.size ∧ Hid (Blk W w.heap.size 106 [.int .i64 x.frm, .int .i64 x.til, .slice A2 x.steps.length c2, .slice A3 x.lies.length c3, .slice A4 x.crosses.length c4, .slice A5 x.parts.length c5, .slice A6 x.over.length c6, .slice A7 x.flanks.length c7]) ∧ Hid (Blk W (w.heap.size + 1) 80 [.int .i64 0, .int .i64 0, .slice none 0 0, .slice none 0 0, .slice none 0 0, .slice none 0 0, .slice none 0 0, .slice none 0 0]) ∧ Hid (Blk W (w.heap.size + 2) 80 [.int .i64 x.frm, .int .i64 x.til, .slice D2 x.steps.length d2, .slice D3 x.lies.length d3, .slice none 0 0, .slice none 0 0, .slice none 0 0, .slice none 0 0]) ∧ Hid ((Kn.slice 124 stepK).O W x.steps [.slice D2 x.steps.length d2] F2) ∧ Hid ((Kn.slice 109 lieK).O W x.lies [.slice D3 x.lies.length d3] F3) :=
    ⟨_, rfl, Bn.setCell (by simp) _, by simp; omega, by simp, Lib.hid (G.out.far (by simp) _), Lib.hid (Z.out.far (by simp) _), Lib.hid (O.out.set_ 3 _), Lib.hid (O_set ((Kn.slice 124 stepK).O_move (fun b hbb => hb.block b (by have := (Kn.slice 124 stepK).O_lt m2.out b hbb; omega)) m2.out) (fun b hb => by have := f2.out b hb; show b ≠ w.heap.size + 2; omega) _), Lib.hid (O_set o3.out (fun b hb => by have := f3.out b hb; show b ≠ w.heap.size + 2; omega) _)⟩
  rw [← hW]
  clear hW G Z O k1 k3 z3 hb y0 y1 y2 Bn G2 Z2 O2 o3
  clear B2
  refine (toIntS _ _ _ _ (Kn.C_below B3 h4) (by omega)).mono ?_
  rintro e w4 ⟨D4, d4, F4, rfl, o4, f4, hb⟩
  have T4 : Hid (∀ b, b ∈ F4 → b < w4.heap.size) := Lib.hid ((Kn.slice 3 Kn.int).O_lt o4)
  have o4 := Lib.hid o4
  have f4 := Lib.hid f4
  have G := Lib.hid (G3.out.below hb (by omega))
  have Z := Lib.hid (Z3.out.below hb (by omega))
  have O := Lib.hid (O3.out.below hb (by omega))
  have hs4 := hb.size
  have y0 : w.heap.size < w4.heap.size := by omega
  have y1 : w.heap.size + 1 < w4.heap.size := by omega
  have y2 : w.heap.size + 2 < w4.heap.size := by omega
  have k1 := G.out.cell 5 rfl
  have k3 := O.out.cell 4 rfl
  have z3 := O.out.frozen 4
  have Bn := B3.trans (hb.mono B3.size)
  go_wp2_with fail
  obtain ⟨W4, hW, B4, hz4, hy4, G4, Z4, O4, m2, m3, m4⟩ : ∃ W, W = w4.setCell ⟨w.heap.size + 2, 4, none⟩ (.slice D4 x.crosses.length d4) ∧ Below w.heap.size w W ∧ w.heap.size + 2 < W.heap.size ∧ W.heap.size = w4.heap.size ∧ Hid (Blk W w.heap.size 106 [.int .i64 x.frm, .int .i64 x.til, .slice A2 x.steps.length c2, .slice A3 x.lies.length c3, .slice A4 x.crosses.length c4, .slice A5 x.parts.length c5, .slice A6 x.over.length c6, .slice A7 x.flanks.length c7]) ∧ Hid (Blk W (w.heap.size + 1) 80 [.int .i64 0, .int .i64 0, .slice none 0 0, .slice none 0 0, .slice none 0 0, .slice none 0 0, .slice none 0 0, .slice none 0 0]) ∧ Hid (Blk W (w.heap.size + 2) 80 [.int .i64 x.frm, .int .i64 x.til, .slice D2 x.steps.length d2, .slice D3 x.lies.length d3, .slice D4 x.crosses.length d4, .slice none 0 0, .slice none 0 0, .slice none 0 0]) ∧ Hid ((Kn.slice 124 stepK).O W x.steps [.slice D2 x.steps.length d2] F2) ∧ Hid ((Kn.slice 109 lieK).O W x.lies [.slice D3 x.lies.length d3] F3) ∧ Hid ((Kn.slice 3 Kn.int).O W x.crosses [.slice D4 x.crosses.length d4] F4) :=
    ⟨_, rfl, Bn.setCell (by simp) _, by simp; omega, by simp, Lib.hid (G.out.far (by simp) _), Lib.hid (Z.out.far (by simp) _), Lib.hid (O.out.set_ 4 _), Lib.hid (O_set ((Kn.slice 124 stepK).O_move (fun b hbb => hb.block b (by have := (Kn.slice 124 stepK).O_lt m2.out b hbb; omega)) m2.out) (fun b hb => by have := f2.out b hb; show b ≠ w.heap.size + 2; omega) _), Lib.hid (O_set ((Kn.slice 109 lieK).O_move (fun b hbb => hb.block b (by have := (Kn.slice 109 lieK).O_lt m3.out b hbb; omega)) m3.out) (fun b hb => by have := f3.out b hb; show b ≠ w.heap.size + 2; omega) _), Lib.hid (O_set o4.out (fun b hb => by have := f4.out b hb; show b ≠ w.heap.size + 2; omega) _)⟩
  rw [← hW]
  clear hW G Z O k1 k3 z3 hb y0 y1 y2 Bn G3 Z3 O3 o4
  clear B3
  refine (toPartS _ _ _ _ (Kn.C_below B4 h5) (by omega)).mono ?_
  rintro e w5 ⟨D5, d5, F5, rfl, o5, f5, hb⟩
  have T5 : Hid (∀ b, b ∈ F5 → b < w5.heap.size) := Lib.hid ((Kn.slice 128 partK).O_lt o5)
  have o5 := Lib.hid o5
  have f5 := Lib.hid f5
  have G := Lib.hid (G4.out.below hb (by omega))
  have Z := Lib.hid (Z4.out.below hb (by omega))
  have O := Lib.hid (O4.out.below hb (by omega))
  have hs5 := hb.size
  have y0 : w.heap.size < w5.heap.size := by omega
  have y1 : w.heap.size + 1 < w5.heap.size := by omega
  have y2 : w.heap.size + 2 < w5.heap.size := by omega
  have k1 := G.out.cell 6 rfl
  have k3 := O.out.cell 5 rfl
  have z3 := O.out.frozen 5
  have Bn := B4.trans (hb.mono B4.size)
  go_wp2_with fail
  obtain ⟨W5, hW, B5, hz5, hy5, G5, Z5, O5, m2, m3, m4, m5⟩ : ∃ W, W = w5.setCell ⟨w.heap.size + 2, 5, none⟩ (.slice D5 x.parts.length d5) ∧ Below w.heap.size w W ∧ w.heap.size + 2 < W.heap.size ∧ W.heap.size = w5.heap.size ∧ Hid (Blk W w.heap.size 106 [.int .i64 x.frm, .int .i64 x.til, .slice A2 x.steps.length c2, .slice A3 x.lies.length c3, .slice A4 x.crosses.length c4, .slice A5 x.parts.length c5, .slice A6 x.over.length c6, .slice A7 x.flanks.length c7]) ∧ Hid (Blk W (w.heap.size + 1) 80 [.int .i64 0, .int .i64 0, .slice none 0 0, .slice none 0 0, .slice none 0 0, .slice none 0 0, .slice none 0 0, .slice none 0 0]) ∧ Hid (Blk W (w.heap.size + 2) 80 [.int .i64 x.frm, .int .i64 x.til, .slice D2 x.steps.length d2, .slice D3 x.lies.length d3, .slice D4 x.crosses.length d4, .slice D5 x.parts.length d5, .slice none 0 0, .slice none 0 0]) ∧ Hid ((Kn.slice 124 stepK).O W x.steps [.slice D2 x.steps.length d2] F2) ∧ Hid ((Kn.slice 109 lieK).O W x.lies [.slice D3 x.lies.length d3] F3) ∧ Hid ((Kn.slice 3 Kn.int).O W x.crosses [.slice D4 x.crosses.length d4] F4) ∧ Hid ((Kn.slice 128 partK).O W x.parts [.slice D5 x.parts.length d5] F5) :=
    ⟨_, rfl, Bn.setCell (by simp) _, by simp; omega, by simp, Lib.hid (G.out.far (by simp) _), Lib.hid (Z.out.far (by simp) _), Lib.hid (O.out.set_ 5 _), Lib.hid (O_set ((Kn.slice 124 stepK).O_move (fun b hbb => hb.block b (by have := (Kn.slice 124 stepK).O_lt m2.out b hbb; omega)) m2.out) (fun b hb => by have := f2.out b hb; show b ≠ w.heap.size + 2; omega) _), Lib.hid (O_set ((Kn.slice 109 lieK).O_move (fun b hbb => hb.block b (by have := (Kn.slice 109 lieK).O_lt m3.out b hbb; omega)) m3.out) (fun b hb => by have := f3.out b hb; show b ≠ w.heap.size + 2; omega) _), Lib.hid (O_set ((Kn.slice 3 Kn.int).O_move (fun b hbb => hb.block b (by have := (Kn.slice 3 Kn.int).O_lt m4.out b hbb; omega)) m4.out) (fun b hb => by have := f4.out b hb; show b ≠ w.heap.size + 2; omega) _), Lib.hid (O_set o5.out (fun b hb => by have := f5.out b hb; show b ≠ w.heap.size + 2; omega) _)⟩
  rw [← hW]
  clear hW G Z O k1 k3 z3 hb y0 y1 y2 Bn G4 Z4 O4 o5
  clear B4
  refine (toPartS _ _ _ _ (Kn.C_below B5 h6) (by omega)).mono ?_
  rintro e w6 ⟨D6, d6, F6, rfl, o6, f6, hb⟩
  have T6 : Hid (∀ b, b ∈ F6 → b < w6.heap.size) := Lib.hid ((Kn.slice 128 partK).O_lt o6)
  have o6 := Lib.hid o6
  have f6 := Lib.hid f6
  have G := Lib.hid (G5.out.below hb (by omega))
  have Z := Lib.hid (Z5.out.below hb (by omega))
  have O := Lib.hid (O5.out.below hb (by omega))
  have hs6 := hb.size
  have y0 : w.heap.size < w6.heap.size := by omega
  have y1 : w.heap.size + 1 < w6.heap.size := by omega
  have y2 : w.heap.size + 2 < w6.heap.size := by omega
  have k1 := G.out.cell 7 rfl
  have k3 := O.out.cell 6 rfl
  have z3 := O.out.frozen 6
  have Bn := B5.trans (hb.mono B5.size)
  go_wp2_with fail
  obtain ⟨W6, hW, B6, hz6, hy6, G6, Z6, O6, m2, m3, m4, m5, m6⟩ : ∃ W, W = w6.setCell ⟨w.heap.size + 2, 6, none⟩ (.slice D6 x.over.length d6) ∧ Below w.heap.size w W ∧ w.heap.size + 2 < W.heap.size ∧ W.heap.size = w6.heap.size ∧ Hid (Blk W w.heap.size 106 [.int .i64 x.frm, .int .i64 x.til, .slice A2 x.steps.length c2, .slice A3 x.lies.length c3, .slice A4 x.crosses.length c4, .slice A5 x.parts.length c5, .slice A6 x.over.length c6, .slice A7 x.flanks.length c7]) ∧ Hid (Blk W (w.heap.size + 1) 80 [.int .i64 0, .int .i64 0, .slice none 0 0, .slice none 0 0, .slice none 0 0, .slice none 0 0, .slice none 0 0, .slice none 0 0]) ∧ Hid (Blk W (w.heap.size + 2) 80 [.int .i64 x.frm, .int .i64 x.til, .slice D2 x.steps.length d2, .slice D3 x.lies.length d3, .slice D4 x.crosses.length d4, .slice D5 x.parts.length d5, .slice D6 x.over.length d6, .slice none 0 0]) ∧ Hid ((Kn.slice 124 stepK).O W x.steps [.slice D2 x.steps.length d2] F2) ∧ Hid ((Kn.slice 109 lieK).O W x.lies [.slice D3 x.lies.length d3] F3) ∧ Hid ((Kn.slice 3 Kn.int).O W x.crosses [.slice D4 x.crosses.length d4] F4) ∧ Hid ((Kn.slice 128 partK).O W x.parts [.slice D5 x.parts.length d5] F5) ∧ Hid ((Kn.slice 128 partK).O W x.over [.slice D6 x.over.length d6] F6) :=
    ⟨_, rfl, Bn.setCell (by simp) _, by simp; omega, by simp, Lib.hid (G.out.far (by simp) _), Lib.hid (Z.out.far (by simp) _), Lib.hid (O.out.set_ 6 _), Lib.hid (O_set ((Kn.slice 124 stepK).O_move (fun b hbb => hb.block b (by have := (Kn.slice 124 stepK).O_lt m2.out b hbb; omega)) m2.out) (fun b hb => by have := f2.out b hb; show b ≠ w.heap.size + 2; omega) _), Lib.hid (O_set ((Kn.slice 109 lieK).O_move (fun b hbb => hb.block b (by have := (Kn.slice 109 lieK).O_lt m3.out b hbb; omega)) m3.out) (fun b hb => by have := f3.out b hb; show b ≠ w.heap.size + 2; omega) _), Lib.hid (O_set ((Kn.slice 3 Kn.int).O_move (fun b hbb => hb.block b (by have := (Kn.slice 3 Kn.int).O_lt m4.out b hbb; omega)) m4.out) (fun b hb => by have := f4.out b hb; show b ≠ w.heap.size + 2; omega) _), Lib.hid (O_set ((Kn.slice 128 partK).O_move (fun b hbb => hb.block b (by have := (Kn.slice 128 partK).O_lt m5.out b hbb; omega)) m5.out) (fun b hb => by have := f5.out b hb; show b ≠ w.heap.size + 2; omega) _), Lib.hid (O_set o6.out (fun b hb => by have := f6.out b hb; show b ≠ w.heap.size + 2; omega) _)⟩
  rw [← hW]
  clear hW G Z O k1 k3 z3 hb y0 y1 y2 Bn G5 Z5 O5 o6
  clear B5
  refine (toFlankS _ _ _ _ (Kn.C_below B6 h7) (by omega)).mono ?_
  rintro e w7 ⟨D7, d7, F7, rfl, o7, f7, hb⟩
  have T7 : Hid (∀ b, b ∈ F7 → b < w7.heap.size) := Lib.hid ((Kn.slice 157 flankK).O_lt o7)
  have o7 := Lib.hid o7
  have f7 := Lib.hid f7
  have G := Lib.hid (G6.out.below hb (by omega))
  have Z := Lib.hid (Z6.out.below hb (by omega))
  have O := Lib.hid (O6.out.below hb (by omega))
  have hs7 := hb.size
  have y0 : w.heap.size < w7.heap.size := by omega
  have y1 : w.heap.size + 1 < w7.heap.size := by omega
  have y2 : w.heap.size + 2 < w7.heap.size := by omega
  have k10 := O.out.cell 0 rfl
  have r0 := Z.out.cell 0 rfl
  have s0 := Z.out.frozen 0
  have k11 := O.out.cell 1 rfl
  have r1 := Z.out.cell 1 rfl
  have s1 := Z.out.frozen 1
  have k12 := O.out.cell 2 rfl
  have r2 := Z.out.cell 2 rfl
  have s2 := Z.out.frozen 2
  have k13 := O.out.cell 3 rfl
  have r3 := Z.out.cell 3 rfl
  have s3 := Z.out.frozen 3
  have k14 := O.out.cell 4 rfl
  have r4 := Z.out.cell 4 rfl
  have s4 := Z.out.frozen 4
  have k15 := O.out.cell 5 rfl
  have r5 := Z.out.cell 5 rfl
  have s5 := Z.out.frozen 5
  have k16 := O.out.cell 6 rfl
  have r6 := Z.out.cell 6 rfl
  have s6 := Z.out.frozen 6
  have k17 := O.out.cell 7 rfl
  have r7 := Z.out.cell 7 rfl
  have s7 := Z.out.frozen 7
  have z3 := O.out.frozen 7
  have Bn := B6.trans (hb.mono B6.size)
  go_wp2
  have hm : (Kn.slice 124 stepK).O w7 x.steps [.slice D2 x.steps.length d2] F2 ∧ (Kn.slice 109 lieK).O w7 x.lies [.slice D3 x.lies.length d3] F3 ∧ (Kn.slice 3 Kn.int).O w7 x.crosses [.slice D4 x.crosses.length d4] F4 ∧ (Kn.slice 128 partK).O w7 x.parts [.slice D5 x.parts.length d5] F5 ∧ (Kn.slice 128 partK).O w7 x.over [.slice D6 x.over.length d6] F6 ∧ (Kn.slice 157 flankK).O w7 x.flanks [.slice D7 x.flanks.length d7] F7 := ⟨(Kn.slice 124 stepK).O_move (fun b hbb => hb.block b (by have := (Kn.slice 124 stepK).O_lt m2.out b hbb; omega)) m2.out, (Kn.slice 109 lieK).O_move (fun b hbb => hb.block b (by have := (Kn.slice 109 lieK).O_lt m3.out b hbb; omega)) m3.out, (Kn.slice 3 Kn.int).O_move (fun b hbb => hb.block b (by have := (Kn.slice 3 Kn.int).O_lt m4.out b hbb; omega)) m4.out, (Kn.slice 128 partK).O_move (fun b hbb => hb.block b (by have := (Kn.slice 128 partK).O_lt m5.out b hbb; omega)) m5.out, (Kn.slice 128 partK).O_move (fun b hbb => hb.block b (by have := (Kn.slice 128 partK).O_lt m6.out b hbb; omega)) m6.out, o7.out⟩
  obtain ⟨m2, m3, m4, m5, m6, m7⟩ := hm
  have l2 : ∀ b, b ∈ F2 → w.heap.size + 3 ≤ b := fun b hb => by have := f2.out b hb; omega
  have l3 : ∀ b, b ∈ F3 → w.heap.size + 3 ≤ b := fun b hb => by have := f3.out b hb; omega
  have l4 : ∀ b, b ∈ F4 → w.heap.size + 3 ≤ b := fun b hb => by have := f4.out b hb; omega
  have l5 : ∀ b, b ∈ F5 → w.heap.size + 3 ≤ b := fun b hb => by have := f5.out b hb; omega
  have l6 : ∀ b, b ∈ F6 → w.heap.size + 3 ≤ b := fun b hb => by have := f6.out b hb; omega
  have l7 : ∀ b, b ∈ F7 → w.heap.size + 3 ≤ b := fun b hb => by have := f7.out b hb; omega
  have n7 := (Kn.slice 157 flankK).O_nodup m7
  have n6 : (F6 ++ F7).Nodup := nodup_range (B := w6.heap.size) ((Kn.slice 128 partK).O_nodup m6) n7 (fun b hb => by have := T6.out b hb; omega) (fun b hb => by
    have := f7.out b hb; omega)
  have n5 : (F5 ++ (F6 ++ F7)).Nodup := nodup_range (B := w5.heap.size) ((Kn.slice 128 partK).O_nodup m5) n6 (fun b hb => by have := T5.out b hb; omega) (fun b hb => by
    simp only [List.mem_append] at hb
    rcases hb with hb | hb
    · have := f6.out b hb; omega
    · have := f7.out b hb; omega)
  have n4 : (F4 ++ (F5 ++ (F6 ++ F7))).Nodup := nodup_range (B := w4.heap.size) ((Kn.slice 3 Kn.int).O_nodup m4) n5 (fun b hb => by have := T4.out b hb; omega) (fun b hb => by
    simp only [List.mem_append] at hb
    rcases hb with hb | hb | hb
    · have := f5.out b hb; omega
    · have := f6.out b hb; omega
    · have := f7.out b hb; omega)
  have n3 : (F3 ++ (F4 ++ (F5 ++ (F6 ++ F7)))).Nodup := nodup_range (B := w3.heap.size) ((Kn.slice 109 lieK).O_nodup m3) n4 (fun b hb => by have := T3.out b hb; omega) (fun b hb => by
    simp only [List.mem_append] at hb
    rcases hb with hb | hb | hb | hb
    · have := f4.out b hb; omega
    · have := f5.out b hb; omega
    · have := f6.out b hb; omega
    · have := f7.out b hb; omega)
  have n2 : (F2 ++ (F3 ++ (F4 ++ (F5 ++ (F6 ++ F7))))).Nodup := nodup_range (B := w2.heap.size) ((Kn.slice 124 stepK).O_nodup m2) n3 (fun b hb => by have := T2.out b hb; omega) (fun b hb => by
    simp only [List.mem_append] at hb
    rcases hb with hb | hb | hb | hb | hb
    · have := f3.out b hb; omega
    · have := f4.out b hb; omega
    · have := f5.out b hb; omega
    · have := f6.out b hb; omega
    · have := f7.out b hb; omega)
  refine bodyPost_ret (v := .agg #[.int .i64 x.frm, .int .i64 x.til, .slice D2 x.steps.length d2, .slice D3 x.lies.length d3, .slice D4 x.crosses.length d4, .slice D5 x.parts.length d5, .slice D6 x.over.length d6, .slice D7 x.flanks.length d7]) (by simp [results, Tryz.results62, go_sem, y0, y1, y2, k10, k11, k12, k13, k14, k15, k16, k17, r0, r1, r2, r3, r4, r5, r6, r7]) rfl ⟨_, _, _, _, _, _, _, _, _, _, _, _, (F2 ++ (F3 ++ (F4 ++ (F5 ++ (F6 ++ F7))))), rfl, ?_, ?_, ?_⟩
  · refine routeK_own ?_ ?_ ?_ ?_ ?_ ?_ n2
    · refine (Kn.slice 124 stepK).O_move (w := w7) (fun b hb => ?_) m2
      have hl := l2 b hb
      refine (Below.heap_setCell _ _ _ _ (by simp; omega)).trans ?_
      refine (Below.heap_setCell _ _ _ _ (by simp; omega)).trans ?_
      refine (Below.heap_setCell _ _ _ _ (by simp; omega)).trans ?_
      refine (Below.heap_setCell _ _ _ _ (by simp; omega)).trans ?_
      refine (Below.heap_setCell _ _ _ _ (by simp; omega)).trans ?_
      refine (Below.heap_setCell _ _ _ _ (by simp; omega)).trans ?_
      refine (Below.heap_setCell _ _ _ _ (by simp; omega)).trans ?_
      refine (Below.heap_setCell _ _ _ _ (by simp; omega)).trans ?_
      refine (Below.heap_setCell _ _ _ _ (by simp; omega)).trans ?_
      rfl
    · refine (Kn.slice 109 lieK).O_move (w := w7) (fun b hb => ?_) m3
      have hl := l3 b hb
      refine (Below.heap_setCell _ _ _ _ (by simp; omega)).trans ?_
      refine (Below.heap_setCell _ _ _ _ (by simp; omega)).trans ?_
      refine (Below.heap_setCell _ _ _ _ (by simp; omega)).trans ?_
      refine (Below.heap_setCell _ _ _ _ (by simp; omega)).trans ?_
      refine (Below.heap_setCell _ _ _ _ (by simp; omega)).trans ?_
      refine (Below.heap_setCell _ _ _ _ (by simp; omega)).trans ?_
      refine (Below.heap_setCell _ _ _ _ (by simp; omega)).trans ?_
      refine (Below.heap_setCell _ _ _ _ (by simp; omega)).trans ?_
      refine (Below.heap_setCell _ _ _ _ (by simp; omega)).trans ?_
      rfl
    · refine (Kn.slice 3 Kn.int).O_move (w := w7) (fun b hb => ?_) m4
      have hl := l4 b hb
      refine (Below.heap_setCell _ _ _ _ (by simp; omega)).trans ?_
      refine (Below.heap_setCell _ _ _ _ (by simp; omega)).trans ?_
      refine (Below.heap_setCell _ _ _ _ (by simp; omega)).trans ?_
      refine (Below.heap_setCell _ _ _ _ (by simp; omega)).trans ?_
      refine (Below.heap_setCell _ _ _ _ (by simp; omega)).trans ?_
      refine (Below.heap_setCell _ _ _ _ (by simp; omega)).trans ?_
      refine (Below.heap_setCell _ _ _ _ (by simp; omega)).trans ?_
      refine (Below.heap_setCell _ _ _ _ (by simp; omega)).trans ?_
      refine (Below.heap_setCell _ _ _ _ (by simp; omega)).trans ?_
      rfl
    · refine (Kn.slice 128 partK).O_move (w := w7) (fun b hb => ?_) m5
      have hl := l5 b hb
      refine (Below.heap_setCell _ _ _ _ (by simp; omega)).trans ?_
      refine (Below.heap_setCell _ _ _ _ (by simp; omega)).trans ?_
      refine (Below.heap_setCell _ _ _ _ (by simp; omega)).trans ?_
      refine (Below.heap_setCell _ _ _ _ (by simp; omega)).trans ?_
      refine (Below.heap_setCell _ _ _ _ (by simp; omega)).trans ?_
      refine (Below.heap_setCell _ _ _ _ (by simp; omega)).trans ?_
      refine (Below.heap_setCell _ _ _ _ (by simp; omega)).trans ?_
      refine (Below.heap_setCell _ _ _ _ (by simp; omega)).trans ?_
      refine (Below.heap_setCell _ _ _ _ (by simp; omega)).trans ?_
      rfl
    · refine (Kn.slice 128 partK).O_move (w := w7) (fun b hb => ?_) m6
      have hl := l6 b hb
      refine (Below.heap_setCell _ _ _ _ (by simp; omega)).trans ?_
      refine (Below.heap_setCell _ _ _ _ (by simp; omega)).trans ?_
      refine (Below.heap_setCell _ _ _ _ (by simp; omega)).trans ?_
      refine (Below.heap_setCell _ _ _ _ (by simp; omega)).trans ?_
      refine (Below.heap_setCell _ _ _ _ (by simp; omega)).trans ?_
      refine (Below.heap_setCell _ _ _ _ (by simp; omega)).trans ?_
      refine (Below.heap_setCell _ _ _ _ (by simp; omega)).trans ?_
      refine (Below.heap_setCell _ _ _ _ (by simp; omega)).trans ?_
      refine (Below.heap_setCell _ _ _ _ (by simp; omega)).trans ?_
      rfl
    · refine (Kn.slice 157 flankK).O_move (w := w7) (fun b hb => ?_) m7
      have hl := l7 b hb
      refine (Below.heap_setCell _ _ _ _ (by simp; omega)).trans ?_
      refine (Below.heap_setCell _ _ _ _ (by simp; omega)).trans ?_
      refine (Below.heap_setCell _ _ _ _ (by simp; omega)).trans ?_
      refine (Below.heap_setCell _ _ _ _ (by simp; omega)).trans ?_
      refine (Below.heap_setCell _ _ _ _ (by simp; omega)).trans ?_
      refine (Below.heap_setCell _ _ _ _ (by simp; omega)).trans ?_
      refine (Below.heap_setCell _ _ _ _ (by simp; omega)).trans ?_
      refine (Below.heap_setCell _ _ _ _ (by simp; omega)).trans ?_
      refine (Below.heap_setCell _ _ _ _ (by simp; omega)).trans ?_
      rfl
  · intro b hb
    simp only [List.mem_append] at hb
    rcases hb with hb | hb | hb | hb | hb | hb
    · have := l2 b hb; omega
    · have := l3 b hb; omega
    · have := l4 b hb; omega
    · have := l5 b hb; omega
    · have := l6 b hb; omega
    · have := l7 b hb; omega
  · refine Below.setCell ?_ (by simp; try omega) _
    refine Below.setCell ?_ (by simp; try omega) _
    refine Below.setCell ?_ (by simp; try omega) _
    refine Below.setCell ?_ (by simp; try omega) _
    refine Below.setCell ?_ (by simp; try omega) _
    refine Below.setCell ?_ (by simp; try omega) _
    refine Below.setCell ?_ (by simp; try omega) _
    refine Below.setCell ?_ (by simp; try omega) _
    refine Below.setCell ?_ (by simp; try omega) _
    exact Bn
theorem info80 : (Tryz.prog.info? 80).map (fun i => (i.zero, i.size, i.bytes)) = some (some (.agg #[.int .i64 0, .int .i64 0, .slice none 0 0, .slice none 0 0, .slice none 0 0, .slice none 0 0, .slice none 0 0, .slice none 0 0]), 8, 160) := by kernel_rfl
abbrev rL : Kn Route := routeK 195 197 3 199 201
set_option maxRecDepth 100000 in
set_option maxHeartbeats 1000000 in
theorem toRouteS {ok : Nat → Prop} (A : Option Addr) (c : Nat) (xs : List Route) (w : World) (hx : rL.C w ok A xs) (hn : xs.length ≤ 1048576) (hs : Hid (∀ x ∈ xs, x.n ≤ 1048576)) :
    Calls Tryz.prog 21 #[.slice A xs.length c] w (RetS 80 rK xs w) := by
  obtain ⟨i0, hi, hz0, hz1, hz2⟩ := info_parts info80
  go_enter Tryz.func21, Tryz.ntmps21
  go_wp2_with (at_make; refine wpList_make_full _ rfl _ _ 29 rfl 0 80 i0 _ 8 Tryz.underlying29 hi hz0 hz1 .i64 .i64 _ _ xs.length rfl rfl rfl rfl (by rw [hz2]; omega) (by unfold maxLen; omega) (Nat.zero_le _) ?_; intro w0 hown hg0)
  go_loopw [4] (fun i wr => ∃ k : Nat, k ≤ xs.length ∧ i = .int .i64 k ∧ FilledO rK 80 xs w.heap.size k wr ∧ Below w.heap.size w wr) (fun i _ => xs.length - (intOf i).toNat)
  case atStart => exact ⟨0, Nat.zero_le _, rfl, FilledO.start hown, ⟨hg0.os, hg0.tape, hg0.output, hg0.size, fun b hb => hg0.block b hb (by simp)⟩⟩
  case round =>
    obtain ⟨k, hk, rfl, HF, hb⟩ := hrel
    by_cases hlt : k < xs.length
    · obtain ⟨a0, rfl, x, E, A2, c2, A3, c3, A4, c4, A5, c5, A6, c6, A7, c7, g0, g1, g2, g3, g4, g5, g6, g7, l2, q2, l3, q3, l4, q4, l5, q5, l6, q6, l7, q7⟩ := routeK_at (Kn.C_below hb hx) k hlt
      have hsx := hs.out _ (mem_of_get E.out)
      have i0 : (0 : Int) ≤ (k : Int) := Int.natCast_nonneg _
      have i1 : (k : Int) < (xs.length : Int) := by omega
      have hgl := HF.lt
      go_wp2_with fail
      refine (toRoute x A2 A3 A4 A5 A6 A7 c2 c3 c4 c5 c6 c7 _ q2 q3 q4 q5 q6 q7 hsx).mono ?_
      rintro e w1 ⟨D2, d2, D3, d3, D4, d4, D5, d5, D6, d6, D7, d7, F, rfl, hO, hF, hb1⟩
      obtain ⟨inner, ho, hst⟩ := HF.row hb1
      replace ho : w1.ownsRow 0 80 8 (.slice (some ⟨w.heap.size, 0, none⟩) xs.length xs.length) xs.length inner := ho
      have HO := Lib.hid hO
      have HF := Lib.hid hF
      have HS := Lib.hid hst
      clear hO hF hst
      go_wp2_with (refine wpList_store_own rfl _ _ _ rfl [.int .i64 x.frm, .int .i64 x.til, .slice D2 x.steps.length d2, .slice D3 x.lies.length d3, .slice D4 x.crosses.length d4, .slice D5 x.parts.length d5, .slice D6 x.over.length d6, .slice D7 x.flanks.length d7] ho rfl rfl ?_ (size_of_info info80) rfl ?_; (simp; omega); intro w2 ho2 hg2)
      go_roundw
      case rel => exact ⟨k + 1, by omega, by go_num, HS.out _ _ F _ E.out rfl HO.out HF.out hg2 ho2, below_grown (hb.trans (hb1.mono hb.size)) hg2 (Nat.le_refl _) (Nat.le_trans hb.size hb1.size)⟩
      case measure => simp [intOf]; omega
    · obtain rfl : k = xs.length := by omega
      go_wp2
      go_ret
      obtain ⟨F, h1, h2⟩ := HF.done
      exact ⟨_, _, F, rfl, h1, h2, hb⟩
end Go.Proofs.YtpggopdojhodaaaGreat.L
namespace Go.Proofs.YtpggopdojhodaaaGreat.L
open Go.RowKit
set_option linter.unusedVariables false
set_option linter.unusedSimpArgs false
def atOf (n : Net) (p way far : Int) : Int := if way = 1 then far else pl n p - far
theorem pl_get {n : Net} {u : Nat} {z : Piece} (h : n.pieces[u]? = some z) : pl n (u : Int) = z.len := by
  unfold pl
  rw [Int.toNat_natCast, h]
  rfl
theorem specHead (p way : Int) (w : World) : Calls Tryz.prog 78 #[.int .i64 p, .int .i64 way] w (RetV (headE p way).v w) := by
  by_cases h : way = 1
  · have hv : headE p way = ⟨p, 1⟩ := by unfold headE; rw [if_pos h]
    have d : (way == 1) = true := int_eqt h
    rw [hv]
    clear h hv
    go_enter Tryz.func78, Tryz.ntmps78
    go_wp2
    exact bodyPost_ret (v := .agg #[.int .i64 p, .int .i64 1]) (by simp [results, Tryz.results78, go_sem]) rfl ⟨rfl, below_alloc _ _⟩
  · have hv : headE p way = ⟨p, 0⟩ := by unfold headE; rw [if_neg h]
    have d : (way == 1) = false := int_eqf h
    rw [hv]
    clear h hv
    go_enter Tryz.func78, Tryz.ntmps78
    go_wp2
    exact bodyPost_ret (v := .agg #[.int .i64 p, .int .i64 0]) (by simp [results, Tryz.results78, go_sem]) rfl ⟨rfl, below_alloc _ _⟩
theorem implLooked (p way : Int) (w : World) : Calls Tryz.prog 128 #[.int .i64 p, .int .i64 way] w (RetV (headE p way).v w) := by
  by_cases h : way = 1
  · have hv : headE p way = ⟨p, 1⟩ := by unfold headE; rw [if_pos h]
    have d : (way == 1) = true := int_eqt h
    rw [hv]
    clear h hv
    go_enter Tryz.func128, Tryz.ntmps128
    go_wp2
    exact bodyPost_ret (v := .agg #[.int .i64 p, .int .i64 1]) (by simp [results, Tryz.results128, go_sem]) rfl ⟨rfl, below_alloc _ _⟩
  · have hv : headE p way = ⟨p, 0⟩ := by unfold headE; rw [if_neg h]
    have d : (way == 1) = false := int_eqf h
    rw [hv]
    clear h hv
    go_enter Tryz.func128, Tryz.ntmps128
    go_wp2
    exact bodyPost_ret (v := .agg #[.int .i64 p, .int .i64 0]) (by simp [results, Tryz.results128, go_sem]) rfl ⟨rfl, below_alloc _ _⟩
set_option maxHeartbeats 1000000 in
theorem specFar {ok : Nat → Prop} (n : Net) (v1 : Value) (A0 : Option Addr) (c0 u : Nat) (a way : Int) (w : World) (h : pieceK.C w ok A0 n.pieces) (hg : Hid (Good n)) (hu : u < n.pieces.length) (ha : 0 ≤ a ∧ a ≤ 10000000) :
    Calls Tryz.prog 37 #[.agg #[.slice A0 n.pieces.length c0, v1], .int .i64 u, .int .i64 a, .int .i64 way] w (RetI (farOf n u a way) w) := by
  have hm := h.1
  obtain ⟨a1, a2⟩ := ha
  obtain ⟨ad, rfl, z0, z1, z2, z3, E, g0, g1, g2, g3⟩ := pieceK_at (Kn.C_below (below_alloc w (.cells #[.slice A0 n.pieces.length c0, v1] 34)) h) u hu
  have j0 : (0 : Int) ≤ (u : Int) := Int.natCast_nonneg _
  have j1 : (u : Int) < (n.pieces.length : Int) := by omega
  have HP := Lib.hid (pl_get E.out)
  obtain ⟨b1, b2⟩ : 1 ≤ z1 ∧ z1 ≤ 10000000 := by have := hg.out.piece _ (mem_of_get E.out); exact ⟨this.2.1, this.2.2.1⟩
  by_cases hw : way = 1
  · have hv : Hid (farOf n u a way = a) := Lib.hid (by unfold farOf; rw [if_pos hw])
    have d : (way == 1) = true := int_eqt hw
    clear hw
    go_enter Tryz.func37, Tryz.ntmps37
    go_wp2
    go_ret
    exact ⟨by rw [hv.out]; rfl, below_alloc _ _⟩
  · have hv : Hid (farOf n u a way = z1 - a) := Lib.hid (by unfold farOf; rw [if_neg hw, HP.out])
    have d : (way == 1) = false := int_eqf hw
    clear hw
    go_enter Tryz.func37, Tryz.ntmps37
    go_wp2
    go_ret
    exact ⟨by rw [hv.out]; rfl, below_alloc _ _⟩
set_option maxHeartbeats 1000000 in
theorem specPart {ok : Nat → Prop} (n : Net) (v1 : Value) (A0 : Option Addr) (c0 u : Nat) (way a b : Int) (w : World) (h : pieceK.C w ok A0 n.pieces) (hg : Hid (Good n)) (hu : u < n.pieces.length) (hway : way = 1 ∨ way = -1) (ha : 0 ≤ a ∧ a ≤ 10000000) (hb : 0 ≤ b ∧ b ≤ 10000000) :
    Calls Tryz.prog 74 #[.agg #[.slice A0 n.pieces.length c0, v1], .int .i64 u, .int .i64 way, .int .i64 a, .int .i64 b] w (RetV (partN n u way a b).v w) := by
  have hm := h.1
  obtain ⟨a1, a2⟩ := ha
  obtain ⟨b1, b2⟩ := hb
  rcases hway with rfl | rfl
  · have hv : partN n u 1 a b = ⟨u, a, b⟩ := rfl
    rw [hv]
    clear hv
    go_enter Tryz.func74, Tryz.ntmps74
    go_wp2
    exact bodyPost_ret (v := .agg #[.int .i64 u, .int .i64 a, .int .i64 b]) (by simp [results, Tryz.results74, go_sem]) rfl ⟨rfl, (below_alloc _ _).alloc (by simp) _⟩
  · obtain ⟨ad, rfl, z0, z1, z2, z3, E, g0, g1, g2, g3⟩ := pieceK_at (Kn.C_below ((below_alloc w (.cells #[.slice A0 n.pieces.length c0, v1] 34)).alloc (by simp) (.cells #[.int .i64 0, .int .i64 0, .int .i64 0] 128)) h) u hu
    have j0 : (0 : Int) ≤ (u : Int) := Int.natCast_nonneg _
    have j1 : (u : Int) < (n.pieces.length : Int) := by omega
    obtain ⟨x1, x2⟩ : 1 ≤ z1 ∧ z1 ≤ 10000000 := by have := hg.out.piece _ (mem_of_get E.out); exact ⟨this.2.1, this.2.2.1⟩
    have hv : partN n u (-1) a b = ⟨u, z1 - b, z1 - a⟩ := by unfold partN; rw [if_neg (by decide), pl_get E.out]
    rw [hv]
    clear hv
    go_enter Tryz.func74, Tryz.ntmps74
    go_wp2
    exact bodyPost_ret (v := .agg #[.int .i64 u, .int .i64 (z1 - b), .int .i64 (z1 - a)]) (by simp [results, Tryz.results74, go_sem]) rfl ⟨rfl, (below_alloc _ _).alloc (by simp) _⟩
theorem implPartOf (p a b : Int) (w : World) : Calls Tryz.prog 126 #[.int .i64 p, .int .i64 a, .int .i64 b] w (RetV (Part.v ⟨p, min a b, max a b⟩) w) := by
  rcases Int.lt_trichotomy a b with h | h | h
  · have h1 : min a b = a := by omega
    have h2 : max a b = b := by omega
    rw [h1, h2]
    clear h1 h2
    have d1 : decide (a < b) = true := decide_eq_true h
    have d2 : decide (b < a) = false := decide_eq_false (by omega)
    go_enter Tryz.func126, Tryz.ntmps126
    go_wp2
    exact bodyPost_ret (v := .agg #[.int .i64 p, .int .i64 a, .int .i64 b]) (by simp [results, Tryz.results126, go_sem]) rfl ⟨rfl, below_alloc _ _⟩
  · subst h
    have h1 : min a a = a := by omega
    have h2 : max a a = a := by omega
    rw [h1, h2]
    clear h1 h2
    go_enter Tryz.func126, Tryz.ntmps126
    go_wp2
    exact bodyPost_ret (v := .agg #[.int .i64 p, .int .i64 a, .int .i64 a]) (by simp [results, Tryz.results126, go_sem]) rfl ⟨rfl, below_alloc _ _⟩
  · have h1 : min a b = b := by omega
    have h2 : max a b = a := by omega
    rw [h1, h2]
    clear h1 h2
    have d1 : decide (a < b) = false := decide_eq_false (by omega)
    have d2 : decide (b < a) = true := decide_eq_true h
    go_enter Tryz.func126, Tryz.ntmps126
    go_wp2
    exact bodyPost_ret (v := .agg #[.int .i64 p, .int .i64 b, .int .i64 a]) (by simp [results, Tryz.results126, go_sem]) rfl ⟨rfl, below_alloc _ _⟩
set_option maxHeartbeats 1000000 in
theorem implEnter {ok : Nat → Prop} (n : Net) (v1 : Value) (A0 : Option Addr) (c0 : Nat) (e : End) (w : World) (h : pieceK.C w ok A0 n.pieces) (hg : Hid (Good n)) (he : endP n.pieces.length e) :
    Calls Tryz.prog 133 #[.agg #[.slice A0 n.pieces.length c0, v1], e.v] w (RetV (.agg #[.int .i64 e.piece, .int .i64 (atOf n e.piece (wayOf e) 0), .int .i64 (wayOf e)]) w) := by
  have hm := h.1
  obtain ⟨p, s⟩ := e
  obtain ⟨⟨h0, h1⟩, h2, h3⟩ := he
  simp only at h0 h1 h2 h3
  rcases (show s = 0 ∨ s = 1 by omega) with rfl | rfl
  · have hv : atOf n p (wayOf ⟨p, 0⟩) 0 = 0 := rfl
    have hw : wayOf ⟨p, 0⟩ = 1 := rfl
    rw [hv, hw]
    clear hv hw
    go_enter Tryz.func133, Tryz.ntmps133
    go_wp2
    exact bodyPost_ret (v := .agg #[.int .i64 p, .int .i64 0, .int .i64 1]) (by simp [results, Tryz.results133, go_sem]) rfl ⟨rfl, ((below_alloc _ _).alloc (by simp) _).alloc (by simp; omega) _⟩
  · obtain ⟨u, rfl⟩ : ∃ u : Nat, p = u := ⟨p.toNat, by omega⟩
    obtain ⟨W0, hW, HB, k0, k1, k2, k3, k4, k5, k6⟩ : ∃ W, W = ((w.alloc (.cells #[.slice A0 n.pieces.length c0, v1] 34)).alloc (.cells #[.int .i64 u, .int .i64 1] 136)).alloc (.cells #[.int .i64 0, .int .i64 0, .int .i64 0] 150) ∧ Below w.heap.size w W ∧
      W.cell? ⟨w.heap.size, 0, none⟩ = some (.slice A0 n.pieces.length c0) ∧ W.cell? ⟨w.heap.size + 1, 0, none⟩ = some (.int .i64 u) ∧ W.cell? ⟨w.heap.size + 1, 1, none⟩ = some (.int .i64 1) ∧ Blk W (w.heap.size + 2) 150 [.int .i64 0, .int .i64 0, .int .i64 0] ∧ w.heap.size < W.heap.size ∧ w.heap.size + 1 < W.heap.size ∧ w.heap.size + 2 < W.heap.size :=
      ⟨_, rfl, ((below_alloc _ _).alloc (by simp) _).alloc (by simp; omega) _, (((Blk.new w 34 [.slice A0 n.pieces.length c0, v1] rfl).alloc _).alloc _).cell 0 rfl, ((Blk.new _ 136 [.int .i64 u, .int .i64 1] (by simp)).alloc _).cell 0 rfl, ((Blk.new _ 136 [.int .i64 u, .int .i64 1] (by simp)).alloc _).cell 1 rfl, Blk.new _ _ _ (by simp), by simp; omega, by simp, by simp⟩
    obtain ⟨ad, rfl, z0, z1, z2, z3, E, g0, g1, g2, g3⟩ := pieceK_at (Kn.C_below HB h) u (by omega)
    have j0 : (0 : Int) ≤ (u : Int) := Int.natCast_nonneg _
    have j1 : (u : Int) < (n.pieces.length : Int) := by omega
    have hw : wayOf ⟨(u : Int), 1⟩ = -1 := rfl
    have hv : atOf n u (-1) 0 = z1 := by unfold atOf; rw [if_neg (by decide), pl_get E.out]; show z1 - 0 = z1; omega
    rw [hw, hv]
    have y0 := k3.cell 0 rfl
    have y1 := k3.cell 1 rfl
    have y2 := k3.cell 2 rfl
    have x0 := k3.frozen 0
    have x1 := k3.frozen 1
    have x2 := k3.frozen 2
    clear hv hw k3
    go_enter Tryz.func133, Tryz.ntmps133
    go_wp2
    rw [← hW]
    clear hW
    go_region
    all_goals (try go_wp2)
    all_goals exact bodyPost_ret (v := .agg #[.int .i64 u, .int .i64 z1, .int .i64 (-1)]) (by simp [results, Tryz.results133, go_sem, y0, y1, y2]) rfl ⟨rfl, by repeat' first | exact HB | (refine Below.drew ?_) | (refine below_drewN ?_ _) | (refine Below.setCell ?_ (by simp; try omega) _)⟩
end Go.Proofs.YtpggopdojhodaaaGreat.L
