/- The program's NetOk answers the first fault of a net, as the reference's. -/
import Derived.Test.YtpggopdojhodaaaGreatDoorVb
import Derived.Test.YtpggopdojhodaaaGreatDoorProg
import Derived.BigRegion
import Derived.OneCell
import Derived.StillTailTactics
import Derived.StillTail
import Derived.Deep.RegionHeld3
import Derived.KernelRfl
import Derived.RegionTactic
import Derived.WideKeyEntry
import Derived.Maps.Own
import Derived.DeepKeys4
namespace Go.Proofs.YtpggopdojhodaaaGreatDoor.L
open Go.RowKit
set_option linter.unusedVariables false
set_option linter.unusedSimpArgs false
set_option maxRecDepth 100000 in
set_option maxHeartbeats 1000000 in
theorem szRoute (x : Route) (v0 v1 : Value) (A2 A3 A4 A5 A6 A7 : Option Addr) (c2 c3 c4 c5 c6 c7 : Nat) (l2 : x.steps.length ≤ 9223372036854775807) (l3 : x.lies.length ≤ 9223372036854775807) (l4 : x.crosses.length ≤ 9223372036854775807) (l5 : x.parts.length ≤ 9223372036854775807) (l6 : x.over.length ≤ 9223372036854775807) (l7 : x.flanks.length ≤ 9223372036854775807) (left : Int) (w : World) (h0 : 0 ≤ left) (h1 : left ≤ 1048576) :
    Calls Tryz.prog 18 #[.agg #[v0, v1, .slice A2 x.steps.length c2, .slice A3 x.lies.length c3, .slice A4 x.crosses.length c4, .slice A5 x.parts.length c5, .slice A6 x.over.length c6, .slice A7 x.flanks.length c7], .int .i64 left] w (RetI (cut (left - (x.n : Nat))) w) := by
  unfold Route.n
  by_cases h2 : left - (x.steps.length : Int) < 0
  · rw [cut_neg (by omega)]
    have e0 : Hid (cut (left - (x.steps.length : Int)) = -1) := Lib.hid (cut_neg h2)
    go_enter Tryz.func18, Tryz.ntmps18
    go_wp2_with fail
    refine (szStepS _ _ _ _ _ (by omega) (by omega) (by omega)).mono ?_
    rintro e w0 ⟨rfl, hb0⟩
    obtain ⟨hc0, hf0⟩ := bcell hb0
    have BB0 := Lib.hid ((below_alloc w _).trans (hb0.mono (by simp)))
    rw [e0.out]
    have z0 : w.heap.size < w0.heap.size := by have := hb0.size; simp at this; omega
    go_wp2
    go_ret
    exact ⟨by first | rfl | exact ret_int (by simp; omega), BB0.out⟩
  have e0 : Hid (cut (left - (x.steps.length : Int)) = left - x.steps.length) := Lib.hid (cut_pos (by omega))
  by_cases h3 : left - (x.steps.length : Int) - (x.lies.length : Int) < 0
  · rw [cut_neg (by omega)]
    have e1 : Hid (cut (left - (x.steps.length : Int) - (x.lies.length : Int)) = -1) := Lib.hid (cut_neg h3)
    go_enter Tryz.func18, Tryz.ntmps18
    go_wp2_with fail
    refine (szStepS _ _ _ _ _ (by omega) (by omega) (by omega)).mono ?_
    rintro e w0 ⟨rfl, hb0⟩
    obtain ⟨hc0, hf0⟩ := bcell hb0
    have BB0 := Lib.hid ((below_alloc w _).trans (hb0.mono (by simp)))
    rw [e0.out]
    have z0 : w.heap.size < w0.heap.size := by have := hb0.size; simp at this; omega
    go_wp2_with fail
    refine (szLieS _ _ _ _ _ (by omega) (by omega) (by omega)).mono ?_
    rintro e w1 ⟨rfl, hb1⟩
    obtain ⟨hc1, hf1⟩ := bcell hb1
    have BB1 := Lib.hid (BB0.out.trans (hb1.mono BB0.out.size))
    rw [e1.out]
    have z1 : w.heap.size < w1.heap.size := by have := hb1.size; omega
    go_wp2
    go_ret
    exact ⟨by first | rfl | exact ret_int (by simp; omega), BB1.out⟩
  have e1 : Hid (cut (left - (x.steps.length : Int) - (x.lies.length : Int)) = left - (x.steps.length : Int) - x.lies.length) := Lib.hid (cut_pos (by omega))
  by_cases h4 : left - (x.steps.length : Int) - (x.lies.length : Int) - (x.crosses.length : Int) < 0
  · rw [cut_neg (by omega)]
    have e2 : Hid (cut (left - (x.steps.length : Int) - (x.lies.length : Int) - (x.crosses.length : Int)) = -1) := Lib.hid (cut_neg h4)
    go_enter Tryz.func18, Tryz.ntmps18
    go_wp2_with fail
    refine (szStepS _ _ _ _ _ (by omega) (by omega) (by omega)).mono ?_
    rintro e w0 ⟨rfl, hb0⟩
    obtain ⟨hc0, hf0⟩ := bcell hb0
    have BB0 := Lib.hid ((below_alloc w _).trans (hb0.mono (by simp)))
    rw [e0.out]
    have z0 : w.heap.size < w0.heap.size := by have := hb0.size; simp at this; omega
    go_wp2_with fail
    refine (szLieS _ _ _ _ _ (by omega) (by omega) (by omega)).mono ?_
    rintro e w1 ⟨rfl, hb1⟩
    obtain ⟨hc1, hf1⟩ := bcell hb1
    have BB1 := Lib.hid (BB0.out.trans (hb1.mono BB0.out.size))
    rw [e1.out]
    have z1 : w.heap.size < w1.heap.size := by have := hb1.size; omega
    go_wp2_with fail
    refine (szIntS _ _ _ _ _ (by omega) (by omega) (by omega)).mono ?_
    rintro e w2 ⟨rfl, hb2⟩
    obtain ⟨hc2, hf2⟩ := bcell hb2
    have BB2 := Lib.hid (BB1.out.trans (hb2.mono BB1.out.size))
    rw [e2.out]
    have z2 : w.heap.size < w2.heap.size := by have := hb2.size; omega
    go_wp2
    go_ret
    exact ⟨by first | rfl | exact ret_int (by simp; omega), BB2.out⟩
  have e2 : Hid (cut (left - (x.steps.length : Int) - (x.lies.length : Int) - (x.crosses.length : Int)) = left - (x.steps.length : Int) - (x.lies.length : Int) - x.crosses.length) := Lib.hid (cut_pos (by omega))
  by_cases h5 : left - (x.steps.length : Int) - (x.lies.length : Int) - (x.crosses.length : Int) - (x.parts.length : Int) < 0
  · rw [cut_neg (by omega)]
    have e3 : Hid (cut (left - (x.steps.length : Int) - (x.lies.length : Int) - (x.crosses.length : Int) - (x.parts.length : Int)) = -1) := Lib.hid (cut_neg h5)
    go_enter Tryz.func18, Tryz.ntmps18
    go_wp2_with fail
    refine (szStepS _ _ _ _ _ (by omega) (by omega) (by omega)).mono ?_
    rintro e w0 ⟨rfl, hb0⟩
    obtain ⟨hc0, hf0⟩ := bcell hb0
    have BB0 := Lib.hid ((below_alloc w _).trans (hb0.mono (by simp)))
    rw [e0.out]
    have z0 : w.heap.size < w0.heap.size := by have := hb0.size; simp at this; omega
    go_wp2_with fail
    refine (szLieS _ _ _ _ _ (by omega) (by omega) (by omega)).mono ?_
    rintro e w1 ⟨rfl, hb1⟩
    obtain ⟨hc1, hf1⟩ := bcell hb1
    have BB1 := Lib.hid (BB0.out.trans (hb1.mono BB0.out.size))
    rw [e1.out]
    have z1 : w.heap.size < w1.heap.size := by have := hb1.size; omega
    go_wp2_with fail
    refine (szIntS _ _ _ _ _ (by omega) (by omega) (by omega)).mono ?_
    rintro e w2 ⟨rfl, hb2⟩
    obtain ⟨hc2, hf2⟩ := bcell hb2
    have BB2 := Lib.hid (BB1.out.trans (hb2.mono BB1.out.size))
    rw [e2.out]
    have z2 : w.heap.size < w2.heap.size := by have := hb2.size; omega
    go_wp2_with fail
    refine (szPartS _ _ _ _ _ (by omega) (by omega) (by omega)).mono ?_
    rintro e w3 ⟨rfl, hb3⟩
    obtain ⟨hc3, hf3⟩ := bcell hb3
    have BB3 := Lib.hid (BB2.out.trans (hb3.mono BB2.out.size))
    rw [e3.out]
    have z3 : w.heap.size < w3.heap.size := by have := hb3.size; omega
    go_wp2
    go_ret
    exact ⟨by first | rfl | exact ret_int (by simp; omega), BB3.out⟩
  have e3 : Hid (cut (left - (x.steps.length : Int) - (x.lies.length : Int) - (x.crosses.length : Int) - (x.parts.length : Int)) = left - (x.steps.length : Int) - (x.lies.length : Int) - (x.crosses.length : Int) - x.parts.length) := Lib.hid (cut_pos (by omega))
  by_cases h6 : left - (x.steps.length : Int) - (x.lies.length : Int) - (x.crosses.length : Int) - (x.parts.length : Int) - (x.over.length : Int) < 0
  · rw [cut_neg (by omega)]
    have e4 : Hid (cut (left - (x.steps.length : Int) - (x.lies.length : Int) - (x.crosses.length : Int) - (x.parts.length : Int) - (x.over.length : Int)) = -1) := Lib.hid (cut_neg h6)
    go_enter Tryz.func18, Tryz.ntmps18
    go_wp2_with fail
    refine (szStepS _ _ _ _ _ (by omega) (by omega) (by omega)).mono ?_
    rintro e w0 ⟨rfl, hb0⟩
    obtain ⟨hc0, hf0⟩ := bcell hb0
    have BB0 := Lib.hid ((below_alloc w _).trans (hb0.mono (by simp)))
    rw [e0.out]
    have z0 : w.heap.size < w0.heap.size := by have := hb0.size; simp at this; omega
    go_wp2_with fail
    refine (szLieS _ _ _ _ _ (by omega) (by omega) (by omega)).mono ?_
    rintro e w1 ⟨rfl, hb1⟩
    obtain ⟨hc1, hf1⟩ := bcell hb1
    have BB1 := Lib.hid (BB0.out.trans (hb1.mono BB0.out.size))
    rw [e1.out]
    have z1 : w.heap.size < w1.heap.size := by have := hb1.size; omega
    go_wp2_with fail
    refine (szIntS _ _ _ _ _ (by omega) (by omega) (by omega)).mono ?_
    rintro e w2 ⟨rfl, hb2⟩
    obtain ⟨hc2, hf2⟩ := bcell hb2
    have BB2 := Lib.hid (BB1.out.trans (hb2.mono BB1.out.size))
    rw [e2.out]
    have z2 : w.heap.size < w2.heap.size := by have := hb2.size; omega
    go_wp2_with fail
    refine (szPartS _ _ _ _ _ (by omega) (by omega) (by omega)).mono ?_
    rintro e w3 ⟨rfl, hb3⟩
    obtain ⟨hc3, hf3⟩ := bcell hb3
    have BB3 := Lib.hid (BB2.out.trans (hb3.mono BB2.out.size))
    rw [e3.out]
    have z3 : w.heap.size < w3.heap.size := by have := hb3.size; omega
    go_wp2_with fail
    refine (szPartS _ _ _ _ _ (by omega) (by omega) (by omega)).mono ?_
    rintro e w4 ⟨rfl, hb4⟩
    obtain ⟨hc4, hf4⟩ := bcell hb4
    have BB4 := Lib.hid (BB3.out.trans (hb4.mono BB3.out.size))
    rw [e4.out]
    have z4 : w.heap.size < w4.heap.size := by have := hb4.size; omega
    go_wp2
    go_ret
    exact ⟨by first | rfl | exact ret_int (by simp; omega), BB4.out⟩
  have e4 : Hid (cut (left - (x.steps.length : Int) - (x.lies.length : Int) - (x.crosses.length : Int) - (x.parts.length : Int) - (x.over.length : Int)) = left - (x.steps.length : Int) - (x.lies.length : Int) - (x.crosses.length : Int) - (x.parts.length : Int) - x.over.length) := Lib.hid (cut_pos (by omega))
  by_cases h7 : left - (x.steps.length : Int) - (x.lies.length : Int) - (x.crosses.length : Int) - (x.parts.length : Int) - (x.over.length : Int) - (x.flanks.length : Int) < 0
  · rw [cut_neg (by omega)]
    have e5 : Hid (cut (left - (x.steps.length : Int) - (x.lies.length : Int) - (x.crosses.length : Int) - (x.parts.length : Int) - (x.over.length : Int) - (x.flanks.length : Int)) = -1) := Lib.hid (cut_neg h7)
    go_enter Tryz.func18, Tryz.ntmps18
    go_wp2_with fail
    refine (szStepS _ _ _ _ _ (by omega) (by omega) (by omega)).mono ?_
    rintro e w0 ⟨rfl, hb0⟩
    obtain ⟨hc0, hf0⟩ := bcell hb0
    have BB0 := Lib.hid ((below_alloc w _).trans (hb0.mono (by simp)))
    rw [e0.out]
    have z0 : w.heap.size < w0.heap.size := by have := hb0.size; simp at this; omega
    go_wp2_with fail
    refine (szLieS _ _ _ _ _ (by omega) (by omega) (by omega)).mono ?_
    rintro e w1 ⟨rfl, hb1⟩
    obtain ⟨hc1, hf1⟩ := bcell hb1
    have BB1 := Lib.hid (BB0.out.trans (hb1.mono BB0.out.size))
    rw [e1.out]
    have z1 : w.heap.size < w1.heap.size := by have := hb1.size; omega
    go_wp2_with fail
    refine (szIntS _ _ _ _ _ (by omega) (by omega) (by omega)).mono ?_
    rintro e w2 ⟨rfl, hb2⟩
    obtain ⟨hc2, hf2⟩ := bcell hb2
    have BB2 := Lib.hid (BB1.out.trans (hb2.mono BB1.out.size))
    rw [e2.out]
    have z2 : w.heap.size < w2.heap.size := by have := hb2.size; omega
    go_wp2_with fail
    refine (szPartS _ _ _ _ _ (by omega) (by omega) (by omega)).mono ?_
    rintro e w3 ⟨rfl, hb3⟩
    obtain ⟨hc3, hf3⟩ := bcell hb3
    have BB3 := Lib.hid (BB2.out.trans (hb3.mono BB2.out.size))
    rw [e3.out]
    have z3 : w.heap.size < w3.heap.size := by have := hb3.size; omega
    go_wp2_with fail
    refine (szPartS _ _ _ _ _ (by omega) (by omega) (by omega)).mono ?_
    rintro e w4 ⟨rfl, hb4⟩
    obtain ⟨hc4, hf4⟩ := bcell hb4
    have BB4 := Lib.hid (BB3.out.trans (hb4.mono BB3.out.size))
    rw [e4.out]
    have z4 : w.heap.size < w4.heap.size := by have := hb4.size; omega
    go_wp2_with fail
    refine (szFlankS _ _ _ _ _ (by omega) (by omega) (by omega)).mono ?_
    rintro e w5 ⟨rfl, hb5⟩
    obtain ⟨hc5, hf5⟩ := bcell hb5
    have BB5 := Lib.hid (BB4.out.trans (hb5.mono BB4.out.size))
    rw [e5.out]
    have z5 : w.heap.size < w5.heap.size := by have := hb5.size; omega
    go_wp2
    go_ret
    exact ⟨by first | rfl | exact ret_int (by simp; omega), BB5.out⟩
  have e5 : Hid (cut (left - (x.steps.length : Int) - (x.lies.length : Int) - (x.crosses.length : Int) - (x.parts.length : Int) - (x.over.length : Int) - (x.flanks.length : Int)) = left - (x.steps.length : Int) - (x.lies.length : Int) - (x.crosses.length : Int) - (x.parts.length : Int) - (x.over.length : Int) - x.flanks.length) := Lib.hid (cut_pos (by omega))
  rw [cut_pos (by omega)]
  go_enter Tryz.func18, Tryz.ntmps18
  go_wp2_with fail
  refine (szStepS _ _ _ _ _ (by omega) (by omega) (by omega)).mono ?_
  rintro e w0 ⟨rfl, hb0⟩
  obtain ⟨hc0, hf0⟩ := bcell hb0
  have BB0 := Lib.hid ((below_alloc w _).trans (hb0.mono (by simp)))
  rw [e0.out]
  have z0 : w.heap.size < w0.heap.size := by have := hb0.size; simp at this; omega
  go_wp2_with fail
  refine (szLieS _ _ _ _ _ (by omega) (by omega) (by omega)).mono ?_
  rintro e w1 ⟨rfl, hb1⟩
  obtain ⟨hc1, hf1⟩ := bcell hb1
  have BB1 := Lib.hid (BB0.out.trans (hb1.mono BB0.out.size))
  rw [e1.out]
  have z1 : w.heap.size < w1.heap.size := by have := hb1.size; omega
  go_wp2_with fail
  refine (szIntS _ _ _ _ _ (by omega) (by omega) (by omega)).mono ?_
  rintro e w2 ⟨rfl, hb2⟩
  obtain ⟨hc2, hf2⟩ := bcell hb2
  have BB2 := Lib.hid (BB1.out.trans (hb2.mono BB1.out.size))
  rw [e2.out]
  have z2 : w.heap.size < w2.heap.size := by have := hb2.size; omega
  go_wp2_with fail
  refine (szPartS _ _ _ _ _ (by omega) (by omega) (by omega)).mono ?_
  rintro e w3 ⟨rfl, hb3⟩
  obtain ⟨hc3, hf3⟩ := bcell hb3
  have BB3 := Lib.hid (BB2.out.trans (hb3.mono BB2.out.size))
  rw [e3.out]
  have z3 : w.heap.size < w3.heap.size := by have := hb3.size; omega
  go_wp2_with fail
  refine (szPartS _ _ _ _ _ (by omega) (by omega) (by omega)).mono ?_
  rintro e w4 ⟨rfl, hb4⟩
  obtain ⟨hc4, hf4⟩ := bcell hb4
  have BB4 := Lib.hid (BB3.out.trans (hb4.mono BB3.out.size))
  rw [e4.out]
  have z4 : w.heap.size < w4.heap.size := by have := hb4.size; omega
  go_wp2_with fail
  refine (szFlankS _ _ _ _ _ (by omega) (by omega) (by omega)).mono ?_
  rintro e w5 ⟨rfl, hb5⟩
  obtain ⟨hc5, hf5⟩ := bcell hb5
  have BB5 := Lib.hid (BB4.out.trans (hb5.mono BB4.out.size))
  rw [e5.out]
  have z5 : w.heap.size < w5.heap.size := by have := hb5.size; omega
  go_wp2
  go_ret
  exact ⟨by first | rfl | exact ret_int (by simp; omega), BB5.out⟩
set_option maxRecDepth 100000 in
set_option maxHeartbeats 1000000 in
theorem szRouteS {ok : Nat → Prop} (A : Option Addr) (c : Nat) (xs : List Route) (left : Int) (w : World) (hx : (routeK 142 144 3 148 150).C w ok A xs) (h0 : 0 ≤ left) (h1 : left ≤ 1048576) :
    Calls Tryz.prog 6 #[.slice A xs.length c, .int .i64 left] w (RetI (cut (left - (lenS Route.n xs : Nat))) w) := by
  have hm := hx.1
  unfold lenS
  by_cases h : left - (xs.length : Int) < 0
  · rw [cut_neg (by omega)]
    go_enter Tryz.func6, Tryz.ntmps6
    go_wp2
    go_ret
    exact ⟨rfl, Below.refl _ _⟩
  · have hd : decide (left - (xs.length : Int) < 0) = false := by simpa using h
    go_enter Tryz.func6, Tryz.ntmps6
    go_wp2
    go_loopw [1, 5] (fun l i wr => ∃ (k : Nat) (y : Int), k ≤ xs.length ∧ i = .int .i64 k ∧ l = .int .i64 y ∧ 0 ≤ y ∧ y ≤ left ∧ Hid (y = left - (xs.length + tot Route.n (xs.take k) : Nat)) ∧ Below w.heap.size w wr) (fun _ i _ => xs.length - (intOf i).toNat)
    case atStart => exact ⟨0, left - xs.length, Nat.zero_le _, rfl, rfl, by omega, by omega, Lib.hid (by rw [List.take_zero, tot_nil]; omega), Below.refl _ _⟩
    case round =>
      obtain ⟨k, y, hk, rfl, rfl, hy0, hy1, HY, hb⟩ := hrel
      by_cases hlt : k < xs.length
      · obtain ⟨a0, rfl, x, E, A2, c2, A3, c3, A4, c4, A5, c5, A6, c6, A7, c7, g0, g1, g2, g3, g4, g5, g6, g7, l2, q2, l3, q3, l4, q4, l5, q5, l6, q6, l7, q7⟩ := routeK_at (Kn.C_below hb hx) k hlt
        have i0 : (0 : Int) ≤ (k : Int) := Int.natCast_nonneg _
        have i1 : (k : Int) < (xs.length : Int) := by omega
        have hc : Hid (tot Route.n (xs.take (k + 1)) = tot Route.n (xs.take k) + x.n) := Lib.hid (tot_snoc _ _ _ _ E.out)
        by_cases hr : y - (x.n : Int) < 0
        · have hcut : Hid (cut (y - (x.n : Int)) = -1) := Lib.hid (cut_neg hr)
          go_wp2_with (go_at_call 18; refine (szRoute x _ _ A2 A3 A4 A5 A6 A7 c2 c3 c4 c5 c6 c7 q2.1 q3.1 q4.1 q5.1 q6.1 q7.1 _ _ (by omega) (by omega)).mono ?_; rintro e w1 ⟨rfl, hb1⟩; rw [hcut.out])
          go_ret
          refine ⟨ret_int ?_, hb.trans (hb1.mono hb.size)⟩
          have h3 := HY.out
          have h4 := tot_le Route.n xs (k + 1)
          rw [hc.out] at h4
          rw [cut_neg (by omega)]
        · have hcut : Hid (cut (y - (x.n : Int)) = y - (x.n : Int)) := Lib.hid (cut_pos (by omega))
          go_wp2_with (go_at_call 18; refine (szRoute x _ _ A2 A3 A4 A5 A6 A7 c2 c3 c4 c5 c6 c7 q2.1 q3.1 q4.1 q5.1 q6.1 q7.1 _ _ (by omega) (by omega)).mono ?_; rintro e w1 ⟨rfl, hb1⟩; rw [hcut.out])
          go_roundw
          case rel => exact ⟨k + 1, y - x.n, by omega, by go_num, rfl, by omega, by omega, Lib.hid (by rw [hc.out]; have := HY.out; omega), hb.trans (hb1.mono hb.size)⟩
          case measure => simp [intOf]; omega
      · obtain rfl : k = xs.length := by omega
        go_wp2
        go_ret
        refine ⟨ret_int ?_, hb⟩
        have h3 := HY.out
        rw [List.take_length] at h3
        rw [cut_pos (by omega)]
        omega
end Go.Proofs.YtpggopdojhodaaaGreatDoor.L
namespace Go.Proofs.YtpggopdojhodaaaGreatDoor.L
open Go.RowKit
open Classical
set_option linter.unusedVariables false
section
variable {ls : List Lie} {fs : List Flank} {k : Nat} {f : Flank}
end
section
variable {ls : List Lie} {fs : List Flank} {k : Nat} {f : Flank}
end
def inTo {α : Type} (xs : List α) (k : Nat) (x : α) : Prop := ∃ j, j < k ∧ xs[j]? = some x
theorem inTo_zero {α : Type} {xs : List α} {x : α} : ¬ inTo xs 0 x := fun ⟨j, h, _⟩ => by omega
theorem inTo_snoc {α : Type} {xs : List α} {k : Nat} {x y : α} (h : ¬ inTo xs k x) (hy : xs[k]? = some y) (hne : ¬ y = x) : ¬ inTo xs (k + 1) x := by
  rintro ⟨j, hj, hx⟩
  by_cases e : j = k
  · subst e
    rw [hy] at hx
    exact hne (Option.some.inj hx)
  · exact h ⟨j, by omega, hx⟩
theorem inTo_all {α : Type} {xs : List α} {x : α} (h : ¬ inTo xs xs.length x) : ¬ x ∈ xs := fun hm => by
  obtain ⟨j, hj⟩ := List.mem_iff_getElem?.1 hm
  exact h ⟨j, (List.getElem?_eq_some_iff.1 hj).1, hj⟩
end Go.Proofs.YtpggopdojhodaaaGreatDoor.L
namespace Go.Proofs.YtpggopdojhodaaaGreatDoor.L
open Go.RowKit
set_option linter.unusedVariables false
set_option linter.unusedSimpArgs false
theorem new_cells (W : World) (cs : List Value) (t : TypeId) {g : Nat} (hg : g = W.heap.size) : ∀ (i : Nat) (u : Value), cs[i]? = some u → (W.alloc (.cells cs.toArray t)).cell? ((⟨g, 0, none⟩ : Addr).add i) = some u := by
  intro i u hu
  subst hg
  rw [add_zero, cell_of_row _ _ _ _ _ _ (heap_alloc_new W _)]
  simpa using hu
theorem own_next {v v' : Value} {B s : Nat} (h : ∀ b, v.ownBlock = some b → B ≤ b) (ha : v'.ownBlock = v.ownBlock ∨ v'.ownBlock = some s) (hs : B ≤ s) : ∀ b, v'.ownBlock = some b → B ≤ b := by
  intro b hb
  rcases ha with ha | ha
  · exact h b (ha ▸ hb)
  · rw [ha] at hb
    injection hb with hb
    omega
theorem below_push {B : Nat} {W w1 w2 : World} {v : Value} (hb : Below B W w1) (hg : w1.grownBy w2 v.ownBlock) (ho : ∀ b, v.ownBlock = some b → B ≤ b) (hs : B ≤ w1.heap.size) : Below B W w2 := hb.grown hg hs (fun k hk => ho k hk)
end Go.Proofs.YtpggopdojhodaaaGreatDoor.L
namespace Go.Proofs.YtpggopdojhodaaaGreatDoor.L
open Go.RowKit
set_option linter.unusedVariables false
set_option linter.unusedSimpArgs false
def RetIdx {α : Type} (xs : List α) (x : α) (w : World) (e : Ending) (w' : World) : Prop := ∃ j : Int, e = .returned (.int .i64 j) ∧ ((x ∈ xs ∧ 0 ≤ j) ∨ (¬ x ∈ xs ∧ j < 0)) ∧ Below w.heap.size w w'
set_option maxHeartbeats 2000000 in
theorem indexLie {ok : Nat → Prop} (A : Option Addr) (c : Nat) (xs : List Lie) (x : Lie) (w : World) (hx : lieK.C w ok A xs) :
    Calls Tryz.prog 144 #[.slice A xs.length c, x.v] w (RetIdx xs x w) := by
  have hm := hx.1
  obtain ⟨x0, x1⟩ := x
  go_enter Tryz.func144, Tryz.ntmps144
  go_wp2
  obtain ⟨W0, hW0, hB0, hs0, f0, f1⟩ : ∃ W0, W0 = w.alloc (.cells #[.int .i64 x0, .int .i64 x1] 89) ∧ Below w.heap.size w W0 ∧ w.heap.size < W0.heap.size ∧
    W0.cell? ⟨w.heap.size, 0, none⟩ = some (.int .i64 x0) ∧ W0.cell? ⟨w.heap.size, 1, none⟩ = some (.int .i64 x1) := ⟨_, rfl, below_alloc _ _, by simp, by simp, by simp⟩
  rw [← hW0]
  clear hW0
  go_loopw [8] (fun i wr => ∃ k : Nat, k ≤ xs.length ∧ i = .int .i64 k ∧ Hid (¬ inTo xs k ⟨x0, x1⟩) ∧ Below W0.heap.size W0 wr) (fun i _ => xs.length - (intOf i).toNat)
  case atStart => exact ⟨0, Nat.zero_le _, rfl, Lib.hid inTo_zero, Below.refl _ _⟩
  case round =>
    obtain ⟨k, hk, rfl, HT, hb⟩ := hrel
    obtain ⟨hc, hf⟩ := bcell hb
    have hs2 : w.heap.size < wr.heap.size := by have := hb.size; omega
    have hbw := hB0.trans (hb.mono hB0.size)
    by_cases hlt : k < xs.length
    · obtain ⟨a0, rfl, y0, y1, E, g0, g1⟩ := lieK_at (Kn.C_below hbw hx) k hlt
      have i0 : (0 : Int) ≤ (k : Int) := Int.natCast_nonneg _
      have i1 : (k : Int) < (xs.length : Int) := by omega
      have k0 := cell_below hb f0
      have k1 := cell_below hb f1
      by_cases e0 : x0 = y0
      rotate_left
      · have d : (x0 == y0) = false := int_eqf e0
        have HN := Lib.hid (inTo_snoc HT.out E.out (fun h => e0 (by injection h with h1 h2; exact h1.symm)))
        clear e0 HT
        go_wp2
        go_quiet (fail)
        go_wp2
        go_roundw
        case rel => exact ⟨k + 1, by omega, by go_num, HN, below_drewN hb _⟩
        case measure => simp [intOf]; omega
      subst e0
      by_cases e1 : x1 = y1
      rotate_left
      · have d : (x1 == y1) = false := int_eqf e1
        have HN := Lib.hid (inTo_snoc HT.out E.out (fun h => e1 (by injection h with h1 h2; exact h2.symm)))
        clear e1 HT
        go_wp2
        go_quiet (fail)
        go_wp2
        go_roundw
        case rel => exact ⟨k + 1, by omega, by go_num, HN, below_drewN hb _⟩
        case measure => simp [intOf]; omega
      subst e1
      have HN := Lib.hid (mem_of_get E.out)
      clear HT
      go_wp2
      go_quiet (fail)
      go_wp2
      go_ret
      exact ⟨_, rfl, .inl ⟨HN.out, i0⟩, below_drewN hbw _⟩
    · obtain rfl : k = xs.length := by omega
      have HN := Lib.hid (inTo_all HT.out)
      go_wp2
      go_ret
      exact ⟨_, rfl, .inr ⟨HN.out, by decide⟩, hbw⟩
set_option maxHeartbeats 1000000 in
theorem containsLie {ok : Nat → Prop} (A : Option Addr) (c : Nat) (xs : List Lie) (x : Lie) (w : World) (hx : lieK.C w ok A xs) :
    Calls Tryz.prog 140 #[.slice A xs.length c, x.v] w (RetB (pv (x ∈ xs)) w) := by
  obtain ⟨x0, x1⟩ := x
  go_enter Tryz.func140, Tryz.ntmps140
  go_wp2_with fail
  refine (indexLie _ _ xs ⟨x0, x1⟩ _ (Kn.C_below (below_alloc _ _) hx)).mono ?_
  rintro e w1 ⟨j, rfl, h, hb⟩
  have hB := (below_alloc w (.cells #[.int .i64 x0, .int .i64 x1] 89)).trans (hb.mono (by simp))
  rcases h with ⟨h1, h2⟩ | ⟨h1, h2⟩
  · have HN : Hid (pv (⟨x0, x1⟩ ∈ xs) = true) := Lib.hid (pv_true h1)
    clear h1
    go_wp2
    go_ret
    exact ⟨by rw [HN.out]; rfl, hB⟩
  · have HN : Hid (pv (⟨x0, x1⟩ ∈ xs) = false) := Lib.hid (pv_false h1)
    clear h1
    have h3 : decide (0 ≤ j) = false := decide_eq_false (by omega)
    go_wp2
    go_ret
    exact ⟨by rw [HN.out]; rfl, hB⟩
set_option maxHeartbeats 2000000 in
theorem indexStep {ok : Nat → Prop} (A : Option Addr) (c : Nat) (xs : List Step) (x : Step) (w : World) (hx : stepK.C w ok A xs) :
    Calls Tryz.prog 128 #[.slice A xs.length c, x.v] w (RetIdx xs x w) := by
  have hm := hx.1
  obtain ⟨x0, x1⟩ := x
  go_enter Tryz.func128, Tryz.ntmps128
  go_wp2
  obtain ⟨W0, hW0, hB0, hs0, f0, f1⟩ : ∃ W0, W0 = w.alloc (.cells #[.int .i64 x0, .int .i64 x1] 85) ∧ Below w.heap.size w W0 ∧ w.heap.size < W0.heap.size ∧
    W0.cell? ⟨w.heap.size, 0, none⟩ = some (.int .i64 x0) ∧ W0.cell? ⟨w.heap.size, 1, none⟩ = some (.int .i64 x1) := ⟨_, rfl, below_alloc _ _, by simp, by simp, by simp⟩
  rw [← hW0]
  clear hW0
  go_loopw [8] (fun i wr => ∃ k : Nat, k ≤ xs.length ∧ i = .int .i64 k ∧ Hid (¬ inTo xs k ⟨x0, x1⟩) ∧ Below W0.heap.size W0 wr) (fun i _ => xs.length - (intOf i).toNat)
  case atStart => exact ⟨0, Nat.zero_le _, rfl, Lib.hid inTo_zero, Below.refl _ _⟩
  case round =>
    obtain ⟨k, hk, rfl, HT, hb⟩ := hrel
    obtain ⟨hc, hf⟩ := bcell hb
    have hs2 : w.heap.size < wr.heap.size := by have := hb.size; omega
    have hbw := hB0.trans (hb.mono hB0.size)
    by_cases hlt : k < xs.length
    · obtain ⟨a0, rfl, y0, y1, E, g0, g1⟩ := stepK_at (Kn.C_below hbw hx) k hlt
      have i0 : (0 : Int) ≤ (k : Int) := Int.natCast_nonneg _
      have i1 : (k : Int) < (xs.length : Int) := by omega
      have k0 := cell_below hb f0
      have k1 := cell_below hb f1
      by_cases e0 : x0 = y0
      rotate_left
      · have d : (x0 == y0) = false := int_eqf e0
        have HN := Lib.hid (inTo_snoc HT.out E.out (fun h => e0 (by injection h with h1 h2; exact h1.symm)))
        clear e0 HT
        go_wp2
        go_quiet (fail)
        go_wp2
        go_roundw
        case rel => exact ⟨k + 1, by omega, by go_num, HN, below_drewN hb _⟩
        case measure => simp [intOf]; omega
      subst e0
      by_cases e1 : x1 = y1
      rotate_left
      · have d : (x1 == y1) = false := int_eqf e1
        have HN := Lib.hid (inTo_snoc HT.out E.out (fun h => e1 (by injection h with h1 h2; exact h2.symm)))
        clear e1 HT
        go_wp2
        go_quiet (fail)
        go_wp2
        go_roundw
        case rel => exact ⟨k + 1, by omega, by go_num, HN, below_drewN hb _⟩
        case measure => simp [intOf]; omega
      subst e1
      have HN := Lib.hid (mem_of_get E.out)
      clear HT
      go_wp2
      go_quiet (fail)
      go_wp2
      go_ret
      exact ⟨_, rfl, .inl ⟨HN.out, i0⟩, below_drewN hbw _⟩
    · obtain rfl : k = xs.length := by omega
      have HN := Lib.hid (inTo_all HT.out)
      go_wp2
      go_ret
      exact ⟨_, rfl, .inr ⟨HN.out, by decide⟩, hbw⟩
set_option maxHeartbeats 1000000 in
theorem containsStep {ok : Nat → Prop} (A : Option Addr) (c : Nat) (xs : List Step) (x : Step) (w : World) (hx : stepK.C w ok A xs) :
    Calls Tryz.prog 106 #[.slice A xs.length c, x.v] w (RetB (pv (x ∈ xs)) w) := by
  obtain ⟨x0, x1⟩ := x
  go_enter Tryz.func106, Tryz.ntmps106
  go_wp2_with fail
  refine (indexStep _ _ xs ⟨x0, x1⟩ _ (Kn.C_below (below_alloc _ _) hx)).mono ?_
  rintro e w1 ⟨j, rfl, h, hb⟩
  have hB := (below_alloc w (.cells #[.int .i64 x0, .int .i64 x1] 85)).trans (hb.mono (by simp))
  rcases h with ⟨h1, h2⟩ | ⟨h1, h2⟩
  · have HN : Hid (pv (⟨x0, x1⟩ ∈ xs) = true) := Lib.hid (pv_true h1)
    clear h1
    go_wp2
    go_ret
    exact ⟨by rw [HN.out]; rfl, hB⟩
  · have HN : Hid (pv (⟨x0, x1⟩ ∈ xs) = false) := Lib.hid (pv_false h1)
    clear h1
    have h3 : decide (0 ≤ j) = false := decide_eq_false (by omega)
    go_wp2
    go_ret
    exact ⟨by rw [HN.out]; rfl, hB⟩
end Go.Proofs.YtpggopdojhodaaaGreatDoor.L
namespace Go.Proofs.YtpggopdojhodaaaGreatDoor.L
open Go.RowKit
set_option linter.unusedVariables false
set_option linter.unusedSimpArgs false
theorem lieK_flat : ∀ (w : World) (ok ok' : Nat → Prop) (x : Lie) (cs : List Value), lieK.K w ok x cs → lieK.K w ok' x cs := fun _ _ _ _ _ h => h
end Go.Proofs.YtpggopdojhodaaaGreatDoor.L
namespace Go.Proofs.YtpggopdojhodaaaGreatDoor.L
open Go.RowKit
set_option linter.unusedVariables false
set_option linter.unusedSimpArgs false
section
variable {a b : Route}
end
theorem RetW.open {α : Type} {e : Nat} {d : Kn α} {ok : Nat → Prop} {xs : List α} {w w' : World} {en : Ending} (h : RetW e d ok xs w en w') : ∃ A c, en = .returned (.slice A xs.length c) ∧ xs.length ≤ c ∧ Hid (d.C w' (fun _ => True) A xs) ∧ Below w.heap.size w w' := by
  obtain ⟨v, rfl, h1, h2, h3⟩ := h
  obtain ⟨A, c, rfl, hc, hC⟩ := h1.C
  exact ⟨A, c, rfl, hc, Lib.hid (Kn.C_mono (fun _ _ => trivial) hC), h3⟩
end Go.Proofs.YtpggopdojhodaaaGreatDoor.L
namespace Go.Proofs.YtpggopdojhodaaaGreatDoor.L
open Go.RowKit
set_option linter.unusedVariables false
theorem C_dr {α : Type} {d : Kn α} {w : World} {ok : Nat → Prop} {A : Option Addr} {xs : List α} (h : d.C w ok A xs) : d.C w.drew ok A xs := Kn.C_move (w := w) (fun _ _ => rfl) h
structure RC (w : World) (ok : Nat → Prop) (x : Route) (A2 A3 A4 A5 A6 A7 : Option Addr) : Prop where
  h2 : stepK.C w ok A2 x.steps
  h3 : lieK.C w ok A3 x.lies
  h4 : Kn.int.C w ok A4 x.crosses
  h5 : partK.C w ok A5 x.parts
  h6 : partK.C w ok A6 x.over
  h7 : flankK.C w ok A7 x.flanks
section
variable {w w1 : World} {ok ok' : Nat → Prop} {x : Route} {A2 A3 A4 A5 A6 A7 : Option Addr}
theorem RC.below (hb : Below w.heap.size w w1) (h : RC w ok x A2 A3 A4 A5 A6 A7) : RC w1 ok x A2 A3 A4 A5 A6 A7 := ⟨Kn.C_below hb h.h2, Kn.C_below hb h.h3, Kn.C_below hb h.h4, Kn.C_below hb h.h5, Kn.C_below hb h.h6, Kn.C_below hb h.h7⟩
theorem RC.mono (hm : ∀ b, ok b → ok' b) (h : RC w ok x A2 A3 A4 A5 A6 A7) : RC w ok' x A2 A3 A4 A5 A6 A7 := ⟨Kn.C_mono hm h.h2, Kn.C_mono hm h.h3, Kn.C_mono hm h.h4, Kn.C_mono hm h.h5, Kn.C_mono hm h.h6, Kn.C_mono hm h.h7⟩
theorem RC.drew (h : RC w ok x A2 A3 A4 A5 A6 A7) : RC w.drew ok x A2 A3 A4 A5 A6 A7 := ⟨C_dr h.h2, C_dr h.h3, C_dr h.h4, C_dr h.h5, C_dr h.h6, C_dr h.h7⟩
theorem RC.keep {S S' : Nat → Prop} (hk : Keep S w w1) (hs : ∀ x, x < w.heap.size → S' x → S x) (h : RC w (Out w S) x A2 A3 A4 A5 A6 A7) : RC w1 (Out w1 S') x A2 A3 A4 A5 A6 A7 := ⟨Kn.C_keep hk hs h.h2, Kn.C_keep hk hs h.h3, Kn.C_keep hk hs h.h4, Kn.C_keep hk hs h.h5, Kn.C_keep hk hs h.h6, Kn.C_keep hk hs h.h7⟩
end
theorem RetRoute.opened {x : Route} {w w' : World} {e : Ending} (h : RetRoute x w e w') :
    ∃ A2 A3 A4 A5 A6 A7 c2 c3 c4 c5 c6 c7, e = .returned (.agg #[.int .i64 x.frm, .int .i64 x.til, .slice A2 x.steps.length c2, .slice A3 x.lies.length c3, .slice A4 x.crosses.length c4, .slice A5 x.parts.length c5, .slice A6 x.over.length c6, .slice A7 x.flanks.length c7]) ∧ Hid (RC w' (fun _ => True) x A2 A3 A4 A5 A6 A7) ∧ Below w.heap.size w w' := by
  obtain ⟨A2, c2, A3, c3, A4, c4, A5, c5, A6, c6, A7, c7, F, rfl, o, hf, hb⟩ := h
  obtain ⟨D2, d2, D3, d3, D4, d4, D5, d5, D6, d6, D7, d7, he, l2, q2, l3, q3, l4, q4, l5, q5, l6, q6, l7, q7⟩ := routeK_open (rK.K_of o)
  injection he with _ he
  injection he with _ he
  injection he with e2 he
  injection e2 with e2 _ _
  subst e2
  injection he with e3 he
  injection e3 with e3 _ _
  subst e3
  injection he with e4 he
  injection e4 with e4 _ _
  subst e4
  injection he with e5 he
  injection e5 with e5 _ _
  subst e5
  injection he with e6 he
  injection e6 with e6 _ _
  subst e6
  injection he with e7 he
  injection e7 with e7 _ _
  subst e7
  exact ⟨_, _, _, _, _, _, _, _, _, _, _, _, rfl, Lib.hid ⟨Kn.C_mono (fun _ _ => trivial) q2, Kn.C_mono (fun _ _ => trivial) q3, Kn.C_mono (fun _ _ => trivial) q4, Kn.C_mono (fun _ _ => trivial) q5, Kn.C_mono (fun _ _ => trivial) q6, Kn.C_mono (fun _ _ => trivial) q7⟩, hb⟩
theorem eqRouteC {ok ok' : Nat → Prop} (x y : Route) (A2 A3 A4 A5 A6 A7 : Option Addr) (c2 c3 c4 c5 c6 c7 : Nat) (B2 B3 B4 B5 B6 B7 : Option Addr) (d2 d3 d4 d5 d6 d7 : Nat) (w : World) (h : RC w ok x A2 A3 A4 A5 A6 A7) (h' : RC w ok' y B2 B3 B4 B5 B6 B7) :
    Calls Tryz.prog 34 #[.agg #[.int .i64 x.frm, .int .i64 x.til, .slice A2 x.steps.length c2, .slice A3 x.lies.length c3, .slice A4 x.crosses.length c4, .slice A5 x.parts.length c5, .slice A6 x.over.length c6, .slice A7 x.flanks.length c7], .agg #[.int .i64 y.frm, .int .i64 y.til, .slice B2 y.steps.length d2, .slice B3 y.lies.length d3, .slice B4 y.crosses.length d4, .slice B5 y.parts.length d5, .slice B6 y.over.length d6, .slice B7 y.flanks.length d7]] w (RetB (eqv x y) w) := eqRoute x y A2 A3 A4 A5 A6 A7 B2 B3 B4 B5 B6 B7 c2 c3 c4 c5 c6 c7 d2 d3 d4 d5 d6 d7 w h.h2 h.h3 h.h4 h.h5 h.h6 h.h7 h'.h2 h'.h3 h'.h4 h'.h5 h'.h6 h'.h7
end Go.Proofs.YtpggopdojhodaaaGreatDoor.L
namespace Go.Proofs.YtpggopdojhodaaaGreatDoor.L
open Go.RowKit
set_option linter.unusedVariables false
set_option linter.unusedSimpArgs false
theorem rC_at {eS eL eI eP eF : Nat} {w : World} {ok : Nat → Prop} {A : Option Addr} {xs : List Route} (h : (routeK eS eL eI eP eF).C w ok A xs) (k : Nat) (hk : k < xs.length) :
    ∃ ad, A = some ad ∧ ∃ x, Hid (xs[k]? = some x) ∧ ∃ A2 A3 A4 A5 A6 A7 c2 c3 c4 c5 c6 c7, w.cell? (ad.add (k * 8)) = some (.int .i64 x.frm) ∧ w.cell? ⟨(ad.add (k * 8)).block, (ad.add (k * 8)).off + 1, none⟩ = some (.int .i64 x.til) ∧ w.cell? ⟨(ad.add (k * 8)).block, (ad.add (k * 8)).off + 2, none⟩ = some (.slice A2 x.steps.length c2) ∧ w.cell? ⟨(ad.add (k * 8)).block, (ad.add (k * 8)).off + 3, none⟩ = some (.slice A3 x.lies.length c3) ∧ w.cell? ⟨(ad.add (k * 8)).block, (ad.add (k * 8)).off + 4, none⟩ = some (.slice A4 x.crosses.length c4) ∧ w.cell? ⟨(ad.add (k * 8)).block, (ad.add (k * 8)).off + 5, none⟩ = some (.slice A5 x.parts.length c5) ∧ w.cell? ⟨(ad.add (k * 8)).block, (ad.add (k * 8)).off + 6, none⟩ = some (.slice A6 x.over.length c6) ∧ w.cell? ⟨(ad.add (k * 8)).block, (ad.add (k * 8)).off + 7, none⟩ = some (.slice A7 x.flanks.length c7) ∧ Hid (RC w ok x A2 A3 A4 A5 A6 A7) := by
  obtain ⟨ad, e, x, E, A2, c2, A3, c3, A4, c4, A5, c5, A6, c6, A7, c7, g0, g1, g2, g3, g4, g5, g6, g7, l2, q2, l3, q3, l4, q4, l5, q5, l6, q6, l7, q7⟩ := routeK_at h k hk
  exact ⟨ad, e, x, E, A2, A3, A4, A5, A6, A7, c2, c3, c4, c5, c6, c7, g0, g1, g2, g3, g4, g5, g6, g7, Lib.hid ⟨q2, q3, q4, q5, q6, q7⟩⟩
end Go.Proofs.YtpggopdojhodaaaGreatDoor.L
namespace Go.Proofs.YtpggopdojhodaaaGreatDoor.L
open Go
set_option linter.unusedVariables false
section
variable {P : Program} {l : List Oper} {Q : Exit → Act → World → Prop} {S : World → Prop} {t : Nat}
def Rg (P : Program) (ops : Array Oper) (Q : Exit → Act → World → Prop) (S : World → Prop) (t : Nat) : Nat → Array Bool → Act → World → Prop
  | 0, listed, a, w => Region.ready .any ops listed = [] ∧ Q .normal a w
  | fuel + 1, listed, a, w => (Region.ready .any ops listed = [] → Q .normal a w) ∧
    ∀ i ∈ Region.ready .any ops listed, wpOp P ops Q i (fun a' w' => (S w' ∨ (listed.setIfInBounds i true).getD t false = true) ∧ Rg P ops Q S t fuel (listed.setIfInBounds i true) a' w') a w
theorem Rg.any {ops : Array Oper} : ∀ (fuel : Nat) (listed : Array Bool) (a : Act) (w : World), Rg P ops Q S t fuel listed a w → wpAny P .any ops Q fuel listed a w
  | 0, _, _, _, h => h
  | fuel + 1, _, _, _, h => ⟨h.1, fun i hi => wpOp_mono (fun a' w' h' => Rg.any fuel _ a' w' h'.2) (h.2 i hi)⟩
def RgC (ops : Array Oper) (listed : Array Bool) : Prop := ∀ j oj, ops[j]? = some oj → listed.getD j false = true → ∀ e ∈ oj.after, Region.binds .any e = true → listed.getD e.on false = true
def rgC (ops : Array Oper) (listed : Array Bool) : Bool := (List.range ops.size).all fun j => !listed.getD j false || ((ops[j]?).map (·.after.all fun e => !Region.binds .any e || listed.getD e.on false)).getD true
theorem rgC_spec {ops : Array Oper} {listed : Array Bool} (h : rgC ops listed = true) : RgC ops listed := fun j oj hj hl e he hb => by
  have hlt : j < ops.size := (Array.getElem?_eq_some_iff.1 hj).1
  have h1 := List.all_eq_true.1 h j (List.mem_range.2 hlt)
  rw [hl, hj] at h1
  simp only [Bool.not_true, Bool.false_or, Option.map_some, Option.getD_some] at h1
  have h2 := Array.all_eq_true'.1 h1 e he
  rw [hb] at h2
  simpa using h2
theorem RgC.set {ops : Array Oper} {listed : Array Bool} {i : Nat} (inv : RgC ops listed) (hi : i ∈ Region.ready .any ops listed) : RgC ops (listed.setIfInBounds i true) := fun j oj hj hl e he hb => by
  obtain ⟨_, oi, hoi, hall⟩ := mem_ready.1 hi
  by_cases hij : i = j
  · subst hij
    have : oj = oi := Option.some.inj (hj.symm.trans hoi)
    subst this
    exact getD_set_true (hall e he hb)
  · rw [getD_set_ne false hij] at hl
    exact getD_set_true (inv j oj hj hl e he hb)
def rgA (ops : Array Oper) : Nat → Nat → Nat → Bool
  | 0, t, i => Region.waitsFor .any ops t i
  | f + 1, t, i => Region.waitsFor .any ops t i || (List.range ops.size).any fun k => Region.waitsFor .any ops t k && rgA ops f k i
theorem rgA_listed {ops : Array Oper} {listed : Array Bool} (inv : RgC ops listed) : ∀ (f t i : Nat), (∀ ot, ops[t]? = some ot → ∀ e ∈ ot.after, Region.binds .any e = true → listed.getD e.on false = true) → rgA ops f t i = true → listed.getD i false = true
  | 0, t, i, hd, h => by
    obtain ⟨ot, hot, e, he, hb, hon⟩ := Region.waitsFor_spec h
    rw [← hon]
    exact hd ot hot e he hb
  | f + 1, t, i, hd, h => by
    rw [rgA, Bool.or_eq_true] at h
    rcases h with h | h
    · obtain ⟨ot, hot, e, he, hb, hon⟩ := Region.waitsFor_spec h
      rw [← hon]
      exact hd ot hot e he hb
    · obtain ⟨k, hk, h⟩ := List.any_eq_true.1 h
      rw [Bool.and_eq_true] at h
      obtain ⟨ot, hot, e, he, hb, hon⟩ := Region.waitsFor_spec h.1
      have hl : listed.getD k false = true := by
        rw [← hon]
        exact hd ot hot e he hb
      exact rgA_listed inv f k i (fun ok hok e he hb => inv k ok hok hl e he hb) h.2
theorem Rg.first {ops : Array Oper} {S' : World → Prop} {i : Nat} {oi : Oper} {v : Value} (hi : ops[i]? = some oi) (hsel : ∀ (j : Nat) (o : Oper) cs b, ops[j]? = some o → o.op ≠ .select cs b)
    (hQ : ∀ c a w, Q (.panic c) (a.put oi.dst v) w → Q (.panic c) a w) (hit : i ≠ t)
    (hS' : ∀ (listed : Array Bool) (j : Nat) (w : World), RgC ops listed → listed.getD i false = false → j ∈ Region.ready .any ops listed → j ≠ i → (S w ∨ (listed.setIfInBounds j true).getD t false = true) → S' w) :
    ∀ (fuel : Nat) (listed : Array Bool) (a : Act) (w : World), RgC ops listed →
      (∀ j oj, ops[j]? = some oj → j ≠ i → listed.getD j true = false → (∀ e ∈ oj.after, Region.binds .any e = true → e.on ≠ i) → oi.apart ops oj = true) →
      i ∈ Region.ready .any ops listed → YieldsIf P ops S' oi v a → S' w → (S w ∨ listed.getD t false = true) →
      Rg P ops Q S t fuel (listed.setIfInBounds i true) (a.put oi.dst v) w → Rg P ops Q S t (fuel + 1) listed a w := by
  intro fuel
  induction fuel with
  | zero =>
    intro listed a w inv _ hr hy hS hT H
    refine ⟨fun h => (by rw [h] at hr; cases hr), fun j hj => ?_⟩
    by_cases hji : j = i
    · subst hji
      exact hy.wpOp hi hS ⟨by rw [getD_set_ne false hit]; exact hT, H⟩
    · have := ready_mono hj hji
      rw [H.1] at this
      cases this
  | succ fuel ih =>
    intro listed a w inv hfree hr hy hS hT H
    refine ⟨fun h => (by rw [h] at hr; cases hr), fun j hj => ?_⟩
    by_cases hji : j = i
    · subst hji
      exact hy.wpOp hi hS ⟨by rw [getD_set_ne false hit]; exact hT, H⟩
    · have h1 := H.2 j (ready_mono hj hji)
      obtain ⟨hjun, oj, hoj, hall⟩ := mem_ready.1 hj
      have hnot : ∀ e ∈ oj.after, Region.binds .any e = true → e.on ≠ i := fun e he hb heq => by
        have h1 := hall e he hb
        have h0 := (mem_ready.1 hr).1
        rw [heq, getD_both h0] at h1
        cases h1
      have h2 := wpOp_putIf hoj (hfree j oj hoj hji hjun hnot) (fun cs b => hsel i oi cs b hi) (fun cs b => hsel j oj cs b hoj) hQ hy h1
      have hfree' : ∀ k ok, ops[k]? = some ok → k ≠ i → (listed.setIfInBounds j true).getD k true = false →
          (∀ e ∈ ok.after, Region.binds .any e = true → e.on ≠ i) → oi.apart ops ok = true := fun k ok hk hki hun hno => by
        refine hfree k ok hk hki ?_ hno
        by_cases hjk : j = k
        · subst hjk; exact hjun
        · rw [getD_set_ne true hjk] at hun; exact hun
      have hiun : listed.getD i false = false := getD_both (mem_ready.1 hr).1
      refine wpOp_mono (fun a' w' h3 => ?_) h2
      have hT' : S w' ∨ (listed.setIfInBounds j true).getD t false = true := h3.2.1.imp id (fun h => by
        rw [Array.setIfInBounds_comm _ _ (Ne.symm hji), getD_set_ne false hit] at h
        exact h)
      refine ⟨hT', ih (listed.setIfInBounds j true) a' w' (inv.set hj) hfree' (ready_mono hr (Ne.symm hji)) h3.1 (hS' listed j w' inv hiun hj hji hT') hT' ?_⟩
      rw [Array.setIfInBounds_comm _ _ hji]
      exact h3.2.2
theorem head_get {i : Nat} {o : Oper} (h : (l.drop i).head? = some o) : l.toArray[i]? = some o := by
  rw [List.getElem?_toArray]
  rw [List.head?_drop] at h
  exact h
def rgT (l : List Oper) (listed : Array Bool) (t i : Nat) : Bool :=
  Region.noSelect l.toArray && Region.free .any l.toArray listed i && (Region.ready .any l.toArray listed).contains i && decide (i ≠ t) && rgC l.toArray listed
theorem Rg.held {fuel : Nat} {listed : Array Bool} {a : Act} {w : World} (i : Nat) {oi : Oper} {v : Value} (ho : (l.drop i).head? = some oi) (hB : (rgT l listed t i && rgA l.toArray 6 t i) = true)
    (hQ : ∀ c a w, Q (.panic c) (a.put oi.dst v) w → Q (.panic c) a w) (hw : Region.wanted oi (yielded l.toArray a.tmps) = true) (hS : S w) (hy : ∀ w, S w → (execOp a.eval oi).run P w = .ok (.value v) w)
    (h : Rg P l.toArray Q S t fuel (listed.setIfInBounds i true) (a.put oi.dst v) w) : Rg P l.toArray Q S t (fuel + 1) listed a w := by
  have hi := head_get ho
  simp only [rgT, Bool.and_eq_true, decide_eq_true_eq] at hB
  obtain ⟨⟨⟨⟨⟨h1, h2⟩, h3⟩, h4⟩, h5⟩, h6⟩ := hB
  refine Rg.first (S' := S) hi (Region.noSelect_spec h1) hQ h4 (fun L j w' inv hun hj hji hT => ?_) fuel listed a w (rgC_spec h5) (Region.free_spec hi h2) (by simpa using h3) (.inl ⟨hw, hy⟩) hS (.inl hS) h
  rcases hT with hT | hT
  · exact hT
  · exfalso
    have hd : ∀ ot, l.toArray[t]? = some ot → ∀ e ∈ ot.after, Region.binds .any e = true → L.getD e.on false = true := fun ot hot e he hb => by
      by_cases hjt : j = t
      · subst hjt
        obtain ⟨_, o', ho', hall⟩ := mem_ready.1 hj
        obtain rfl : ot = o' := Option.some.inj (hot.symm.trans ho')
        exact hall e he hb
      · rw [getD_set_ne false hjt] at hT
        exact inv t ot hot hT e he hb
    have := rgA_listed inv 6 t i hd h6
    rw [hun] at this
    cases this
theorem Rg.pure {fuel : Nat} {listed : Array Bool} {a : Act} {w : World} (i : Nat) {oi : Oper} {v : Value} (ho : (l.drop i).head? = some oi) (hB : rgT l listed t i = true)
    (hQ : ∀ c a w, Q (.panic c) (a.put oi.dst v) w → Q (.panic c) a w) (hw : Region.wanted oi (yielded l.toArray a.tmps) = true) (hS : S w) (hy : ∀ w, (execOp a.eval oi).run P w = .ok (.value v) w)
    (h : Rg P l.toArray Q S t fuel (listed.setIfInBounds i true) (a.put oi.dst v) w) : Rg P l.toArray Q S t (fuel + 1) listed a w := by
  have hi := head_get ho
  simp only [rgT, Bool.and_eq_true, decide_eq_true_eq] at hB
  obtain ⟨⟨⟨⟨h1, h2⟩, h3⟩, h4⟩, h5⟩ := hB
  exact Rg.first (S' := fun _ => True) hi (Region.noSelect_spec h1) hQ h4 (fun _ _ _ _ _ _ _ _ => trivial) fuel listed a w (rgC_spec h5) (Region.free_spec hi h2) (by simpa using h3) (.inl ⟨hw, fun w _ => hy w⟩) trivial (.inl hS) h
theorem Rg.one {fuel : Nat} {listed : Array Bool} {a : Act} {w : World} (i : Nat) {o : Oper} (ho : (l.drop i).head? = some o) (hr : Region.ready .any l.toArray listed = [i])
    (h : ∀ K : Act → World → Prop, Shut (∀ a w, S w → Rg P l.toArray Q S t fuel (listed.setIfInBounds i true) a w → K a w) → if Region.wanted o (yielded l.toArray a.tmps) = true then Oper.wp P o a w K Q else K (a.put o.dst undef) w) : Rg P l.toArray Q S t (fuel + 1) listed a w := by
  refine ⟨fun h => (by rw [hr] at h; cases h), fun j hj => ?_⟩
  rw [hr] at hj
  obtain rfl : j = i := by simpa using hj
  exact wpOp_step (head_get ho) (fun K hK => h K (fun a w hS hR => hK a w ⟨.inl hS, hR⟩))
theorem Rg.two {fuel : Nat} {listed : Array Bool} {a : Act} {w : World} (i j : Nat) {o o' : Oper} (ho : (l.drop i).head? = some o) (ho' : (l.drop j).head? = some o') (hr : Region.ready .any l.toArray listed = [i, j])
    (h : ∀ K : Act → World → Prop, Shut (∀ a w, S w → Rg P l.toArray Q S t fuel (listed.setIfInBounds i true) a w → K a w) → if Region.wanted o (yielded l.toArray a.tmps) = true then Oper.wp P o a w K Q else K (a.put o.dst undef) w)
    (h' : ∀ K : Act → World → Prop, Shut (∀ a w, S w → Rg P l.toArray Q S t fuel (listed.setIfInBounds j true) a w → K a w) → if Region.wanted o' (yielded l.toArray a.tmps) = true then Oper.wp P o' a w K Q else K (a.put o'.dst undef) w) : Rg P l.toArray Q S t (fuel + 1) listed a w := by
  refine ⟨fun h => (by rw [hr] at h; cases h), fun k hk => ?_⟩
  rw [hr] at hk
  rcases List.mem_cons.1 hk with rfl | hk
  · exact wpOp_step (head_get ho) (fun K hK => h K (fun a w hS hR => hK a w ⟨.inl hS, hR⟩))
  · obtain rfl : k = j := by simpa using hk
    exact wpOp_step (head_get ho') (fun K hK => h' K (fun a w hS hR => hK a w ⟨.inl hS, hR⟩))
def rgS (ops : Array Oper) (t : Nat) : List Nat → Array Bool → Bool
  | [], listed => (Region.ready .any ops listed).isEmpty
  | k :: r, listed => decide (Region.ready .any ops listed = [k]) && (listed.setIfInBounds k true).getD t false && rgS ops t r (listed.setIfInBounds k true)
theorem Rg.rowAux : ∀ (r : List Nat) (listed : Array Bool) (a : Act) (w : World) (fuel : Nat), r.length ≤ fuel → (∀ k ∈ r, k < l.length) → rgS l.toArray t r listed = true → wpList P l.toArray Q (r.filterMap fun k => (l.drop k).head?) a w → Rg P l.toArray Q S t fuel listed a w
  | [], listed, a, w, fuel, hf, hl, hB, h => by
    have hr : Region.ready .any l.toArray listed = [] := by simpa [rgS] using hB
    cases fuel with
    | zero => exact ⟨hr, h⟩
    | succ fuel => exact ⟨fun _ => h, by rw [hr]; simp⟩
  | k :: r, listed, a, w, fuel, hf, hl, hB, h => by
    obtain ⟨fuel, rfl⟩ : ∃ m, fuel = m + 1 := ⟨fuel - 1, by simp at hf; omega⟩
    simp only [rgS, Bool.and_eq_true, decide_eq_true_eq] at hB
    obtain ⟨⟨hr, ht⟩, hB⟩ := hB
    have hk : k < l.length := hl k (by simp)
    have h0 : (l.drop k).head? = some l[k] := by rw [List.head?_drop, List.getElem?_eq_getElem hk]
    refine ⟨fun h => (by rw [hr] at h; cases h), fun j hj => ?_⟩
    rw [hr] at hj
    obtain rfl : j = k := by simpa using hj
    rw [List.filterMap_cons, h0] at h
    have hw : wpOp P l.toArray Q j (wpList P l.toArray Q (r.filterMap fun k => (l.drop k).head?)) a w := by
      unfold wpOp
      rw [head_get h0]
      exact h
    exact wpOp_mono (fun a' w' h' => ⟨.inr ht, Rg.rowAux r _ a' w' fuel (by simp at hf; omega) (fun k hk => hl k (by simp [hk])) hB h'⟩) hw
theorem Rg.row {fuel : Nat} {listed : Array Bool} {a : Act} {w : World} (r : List Nat) (os : List Oper) (ho : (r.filterMap fun k => (l.drop k).head?) = os) (hB : (decide (r.length ≤ fuel) && r.all (fun k => decide (k < l.length)) && rgS l.toArray t r listed) = true)
    (h : wpList P l.toArray Q os a w) : Rg P l.toArray Q S t fuel listed a w := by
  simp only [Bool.and_eq_true, decide_eq_true_eq, List.all_eq_true] at hB
  subst ho
  exact Rg.rowAux r listed a w fuel hB.1.1 hB.1.2 hB.2 h
theorem Rg.start {id : Nat} {a : Act} {w : World} (t : Nat) (S : World → Prop) (m : Nat) (hl : l.length = m) (hm : P.follows .mixedOrders = true) (h : Rg P l.toArray Q S t m (Array.replicate m false) a w.drew) : (Code.region id l.toArray true).wp P Q a w := by
  subst hl
  exact wp_region_any hm (Rg.any _ _ _ _ h)
end
end Go.Proofs.YtpggopdojhodaaaGreatDoor.L
namespace Go.Proofs.YtpggopdojhodaaaGreatDoor.L
open Go.RowKit
open Classical
set_option linter.unusedVariables false
set_option linter.unusedSimpArgs false
theorem jointK_name {e : Nat} {w : World} {ok : Nat → Prop} {A : Option Addr} {xs : List Joint} (h : (jointK e).C w ok A xs) (k : Nat) (hk : k < xs.length) : ∃ ad, A = some ad ∧ ∃ x, Hid (xs[k]? = some x) ∧ w.cell? ⟨(ad.add (k * 3)).block, (ad.add (k * 3)).off + 1, none⟩ = some (.string x.name) := by
  obtain ⟨ad, e, x, E, A0, c0, _, g1, _⟩ := jointK_at h k hk
  exact ⟨ad, e, x, E, g1⟩
set_option maxRecDepth 100000 in
set_option maxHeartbeats 4000000 in
theorem l4lie {ok : Nat → Prop} (n : Net) (j : Nat) (l : Int) (A0 A1 : Option Addr) (c0 c1 : Nat) (w : World) (h : (jointK 177).C w ok A1 n.joints) (hj : j < n.joints.length) (hl : l = 1 ∨ l = 2) (hz : (jName n j).size ≤ 20) :
    Calls Tryz.prog 45 #[.agg #[.slice A0 n.pieces.length c0, .slice A1 n.joints.length c1], .agg #[.int .i64 j, .int .i64 l]] w (RetStr (lieT n ⟨j, l⟩) w) := by
  obtain ⟨W, hW0, hB0, f1, f2, f3, z1, z2, hs⟩ : ∃ W, W = (w.alloc (.cells #[.slice A0 n.pieces.length c0, .slice A1 n.joints.length c1] 35)).alloc (.cells #[.int .i64 j, .int .i64 l] 89) ∧ Below w.heap.size w W ∧ W.cell? ⟨w.heap.size, 1, none⟩ = some (.slice A1 n.joints.length c1) ∧ W.cell? ⟨w.heap.size + 1, 0, none⟩ = some (.int .i64 j) ∧ W.cell? ⟨w.heap.size + 1, 1, none⟩ = some (.int .i64 l) ∧ w.heap.size < W.heap.size ∧ w.heap.size + 1 < W.heap.size ∧ W.heap.size = w.heap.size + 2 :=
    ⟨_, rfl, (below_alloc _ _).alloc (by simp) _, by simp, by simp, by simp, by simp; omega, by simp, by simp⟩
  have hjm := h.1
  obtain ⟨ad, rfl, x, Ex, g1⟩ := jointK_name (Kn.C_below hB0 h) j hj
  have hn : Hid (jName n j = x.name) := Lib.hid (jName_at Ex.out)
  have hxs : x.name.size ≤ 20 := by rw [← hn.out]; exact hz
  have j0 : (0 : Int) ≤ (j : Int) := Int.natCast_nonneg _
  have j1 : (j : Int) < (n.joints.length : Int) := by omega
  have s1 : 1 + x.name.size ≤ 9223372036854775807 := by omega
  have s2 : ((⟨#[32]⟩ : ByteArray) ++ x.name).size ≤ 21 := by rw [ByteArray.size_append]; show 1 + _ ≤ _; omega
  have HS := Lib.hid hs
  clear h hs hz
  rcases hl with rfl | rfl
  · have s3 : 1 + x.name.size + 1 ≤ 9223372036854775807 := by omega
    have HF : Hid (lieT n ⟨j, 1⟩ = (⟨#[32]⟩ : ByteArray) ++ x.name ++ ⟨#[60]⟩) := Lib.hid (by unfold lieT lieSign; rw [hn.out]; rfl)
    go_enter Tryz.func45, Tryz.ntmps45
    go_upto_region 1 with (fail)
    rw [← hW0]
    clear hW0
    refine Rg.start 13 (fun w' => w'.cell? ⟨w.heap.size, 1, none⟩ = some (.slice (some ad) n.joints.length c1) ∧ w'.cell? ⟨w.heap.size + 1, 0, none⟩ = some (.int .i64 j) ∧ w'.cell? ⟨w.heap.size + 1, 1, none⟩ = some (.int .i64 1) ∧ w'.cell? ⟨(ad.add (j * 3)).block, (ad.add (j * 3)).off + 1, none⟩ = some (.string x.name)) 15 rfl (by kernel_rfl) ?_
    have hHeld : W.drew.cell? ⟨w.heap.size, 1, none⟩ = some (.slice (some ad) n.joints.length c1) ∧ W.drew.cell? ⟨w.heap.size + 1, 0, none⟩ = some (.int .i64 j) ∧ W.drew.cell? ⟨w.heap.size + 1, 1, none⟩ = some (.int .i64 1) ∧ W.drew.cell? ⟨(ad.add (j * 3)).block, (ad.add (j * 3)).off + 1, none⟩ = some (.string x.name) := ⟨f1, f2, f3, g1⟩
    refine Rg.pure 0 (v := ?v27) rfl (by kernel_rfl) (fun _ _ _ h => h) (by rfl) hHeld ?y27 ?h27
    case y27 => (intro wA; go_simp; first | done | with_reducible rfl | (rw [if_neg (by omega)]))
    simp only [Act.put, List.setIfInBounds_toArray, List.set_cons_zero, List.set_cons_succ]
    refine Rg.held 1 (v := ?v28) rfl (by kernel_rfl) (fun _ _ _ h => h) (by rfl) hHeld ?y28 ?h28
    case y28 => (intro wA hSw; (try dsimp only at hSw); go_simp; first | done | with_reducible rfl | (rw [if_neg (by omega)]))
    simp only [Act.put, List.setIfInBounds_toArray, List.set_cons_zero, List.set_cons_succ]
    refine Rg.pure 2 (v := ?v29) rfl (by kernel_rfl) (fun _ _ _ h => h) (by rfl) hHeld ?y29 ?h29
    case y29 => (intro wA; go_simp; first | done | with_reducible rfl | (rw [if_neg (by omega)]))
    simp only [Act.put, List.setIfInBounds_toArray, List.set_cons_zero, List.set_cons_succ]
    refine Rg.held 3 (v := ?v30) rfl (by kernel_rfl) (fun _ _ _ h => h) (by rfl) hHeld ?y30 ?h30
    case y30 => (intro wA hSw; (try dsimp only at hSw); go_simp; first | done | with_reducible rfl | (rw [if_neg (by omega)]))
    simp only [Act.put, List.setIfInBounds_toArray, List.set_cons_zero, List.set_cons_succ]
    refine Rg.pure 4 (v := ?v31) rfl (by kernel_rfl) (fun _ _ _ h => h) (by rfl) hHeld ?y31 ?h31
    case y31 => (intro wA; go_simp; first | done | with_reducible rfl | (rw [if_neg (by omega)]))
    simp only [Act.put, List.setIfInBounds_toArray, List.set_cons_zero, List.set_cons_succ]
    refine Rg.pure 5 (v := ?v32) rfl (by kernel_rfl) (fun _ _ _ h => h) (by rfl) hHeld ?y32 ?h32
    case y32 => (intro wA; go_simp; first | done | with_reducible rfl | (rw [if_neg (by omega)]))
    simp only [Act.put, List.setIfInBounds_toArray, List.set_cons_zero, List.set_cons_succ]
    refine Rg.held 6 (v := ?v33) rfl (by kernel_rfl) (fun _ _ _ h => h) (by rfl) hHeld ?y33 ?h33
    case y33 => (intro wA hSw; (try dsimp only at hSw); go_simp; first | done | with_reducible rfl | (rw [if_neg (by omega)]))
    simp only [Act.put, List.setIfInBounds_toArray, List.set_cons_zero, List.set_cons_succ]
    refine Rg.pure 7 (v := ?v34) rfl (by kernel_rfl) (fun _ _ _ h => h) (by rfl) hHeld ?y34 ?h34
    case y34 => (intro wA; go_simp; first | done | with_reducible rfl | (rw [if_neg (by omega)]))
    simp only [Act.put, List.setIfInBounds_toArray, List.set_cons_zero, List.set_cons_succ]
    refine Rg.pure 9 (v := ?v35) rfl (by kernel_rfl) (fun _ _ _ h => h) (by rfl) hHeld ?y35 ?h35
    case y35 => (intro wA; go_simp; first | done | with_reducible rfl | (rw [if_neg (by omega)]))
    simp only [Act.put, List.setIfInBounds_toArray, List.set_cons_zero, List.set_cons_succ]
    refine Rg.held 10 (v := ?v36) rfl (by kernel_rfl) (fun _ _ _ h => h) (by rfl) hHeld ?y36 ?h36
    case y36 => (intro wA hSw; (try dsimp only at hSw); go_simp; first | done | with_reducible rfl | (rw [if_neg (by omega)]))
    simp only [Act.put, List.setIfInBounds_toArray, List.set_cons_zero, List.set_cons_succ]
    refine Rg.one 8 rfl (by kernel_rfl) (fun K hK => ?_)
    go_simp
    have hba : Below W.heap.size W (W.alloc (.cells #[.string ⟨#[]⟩, .string ⟨#[60]⟩, .string ⟨#[62]⟩] 9)).drew := ((Below.refl _ _).alloc (Nat.le_refl _) _).drew
    have hHeld2 : (W.alloc (.cells #[.string ⟨#[]⟩, .string ⟨#[60]⟩, .string ⟨#[62]⟩] 9)).drew.cell? ⟨w.heap.size, 1, none⟩ = some (.slice (some ad) n.joints.length c1) ∧ (W.alloc (.cells #[.string ⟨#[]⟩, .string ⟨#[60]⟩, .string ⟨#[62]⟩] 9)).drew.cell? ⟨w.heap.size + 1, 0, none⟩ = some (.int .i64 j) ∧ (W.alloc (.cells #[.string ⟨#[]⟩, .string ⟨#[60]⟩, .string ⟨#[62]⟩] 9)).drew.cell? ⟨w.heap.size + 1, 1, none⟩ = some (.int .i64 1) ∧ (W.alloc (.cells #[.string ⟨#[]⟩, .string ⟨#[60]⟩, .string ⟨#[62]⟩] 9)).drew.cell? ⟨(ad.add (j * 3)).block, (ad.add (j * 3)).off + 1, none⟩ = some (.string x.name) := ⟨cell_below hba f1, cell_below hba f2, cell_below hba f3, cell_below hba g1⟩
    refine hK.out _ _ hHeld2 ?_
    clear hK K hHeld
    try simp only [Act.put, List.setIfInBounds_toArray, List.set_cons_zero, List.set_cons_succ]
    refine Rg.pure 11 (v := ?v37) rfl (by kernel_rfl) (fun _ _ _ h => h) (by rfl) hHeld2 ?y37 ?h37
    case y37 => (intro wA; go_simp; first | done | with_reducible rfl)
    simp only [Act.put, List.setIfInBounds_toArray, List.set_cons_zero, List.set_cons_succ]
    refine Rg.one 12 rfl (by kernel_rfl) (fun K hK => ?_)
    go_simp
    refine hK.out _ _ hHeld2 ?_
    clear hK K hHeld2
    try simp only [Act.put, List.setIfInBounds_toArray, List.set_cons_zero, List.set_cons_succ]
    refine Rg.row [13, 14] [_, _] rfl (by kernel_rfl) ?_
    go_wp2
    go_ret
    exact ⟨by rw [HF.out]; rfl, hB0.trans (hba.mono hB0.size)⟩
  · have s3 : 1 + x.name.size + 1 ≤ 9223372036854775807 := by omega
    have HF : Hid (lieT n ⟨j, 2⟩ = (⟨#[32]⟩ : ByteArray) ++ x.name ++ ⟨#[62]⟩) := Lib.hid (by unfold lieT lieSign; rw [hn.out]; rfl)
    go_enter Tryz.func45, Tryz.ntmps45
    go_upto_region 1 with (fail)
    rw [← hW0]
    clear hW0
    refine Rg.start 13 (fun w' => w'.cell? ⟨w.heap.size, 1, none⟩ = some (.slice (some ad) n.joints.length c1) ∧ w'.cell? ⟨w.heap.size + 1, 0, none⟩ = some (.int .i64 j) ∧ w'.cell? ⟨w.heap.size + 1, 1, none⟩ = some (.int .i64 2) ∧ w'.cell? ⟨(ad.add (j * 3)).block, (ad.add (j * 3)).off + 1, none⟩ = some (.string x.name)) 15 rfl (by kernel_rfl) ?_
    have hHeld : W.drew.cell? ⟨w.heap.size, 1, none⟩ = some (.slice (some ad) n.joints.length c1) ∧ W.drew.cell? ⟨w.heap.size + 1, 0, none⟩ = some (.int .i64 j) ∧ W.drew.cell? ⟨w.heap.size + 1, 1, none⟩ = some (.int .i64 2) ∧ W.drew.cell? ⟨(ad.add (j * 3)).block, (ad.add (j * 3)).off + 1, none⟩ = some (.string x.name) := ⟨f1, f2, f3, g1⟩
    refine Rg.pure 0 (v := ?v38) rfl (by kernel_rfl) (fun _ _ _ h => h) (by rfl) hHeld ?y38 ?h38
    case y38 => (intro wA; go_simp; first | done | with_reducible rfl | (rw [if_neg (by omega)]))
    simp only [Act.put, List.setIfInBounds_toArray, List.set_cons_zero, List.set_cons_succ]
    refine Rg.held 1 (v := ?v39) rfl (by kernel_rfl) (fun _ _ _ h => h) (by rfl) hHeld ?y39 ?h39
    case y39 => (intro wA hSw; (try dsimp only at hSw); go_simp; first | done | with_reducible rfl | (rw [if_neg (by omega)]))
    simp only [Act.put, List.setIfInBounds_toArray, List.set_cons_zero, List.set_cons_succ]
    refine Rg.pure 2 (v := ?v40) rfl (by kernel_rfl) (fun _ _ _ h => h) (by rfl) hHeld ?y40 ?h40
    case y40 => (intro wA; go_simp; first | done | with_reducible rfl | (rw [if_neg (by omega)]))
    simp only [Act.put, List.setIfInBounds_toArray, List.set_cons_zero, List.set_cons_succ]
    refine Rg.held 3 (v := ?v41) rfl (by kernel_rfl) (fun _ _ _ h => h) (by rfl) hHeld ?y41 ?h41
    case y41 => (intro wA hSw; (try dsimp only at hSw); go_simp; first | done | with_reducible rfl | (rw [if_neg (by omega)]))
    simp only [Act.put, List.setIfInBounds_toArray, List.set_cons_zero, List.set_cons_succ]
    refine Rg.pure 4 (v := ?v42) rfl (by kernel_rfl) (fun _ _ _ h => h) (by rfl) hHeld ?y42 ?h42
    case y42 => (intro wA; go_simp; first | done | with_reducible rfl | (rw [if_neg (by omega)]))
    simp only [Act.put, List.setIfInBounds_toArray, List.set_cons_zero, List.set_cons_succ]
    refine Rg.pure 5 (v := ?v43) rfl (by kernel_rfl) (fun _ _ _ h => h) (by rfl) hHeld ?y43 ?h43
    case y43 => (intro wA; go_simp; first | done | with_reducible rfl | (rw [if_neg (by omega)]))
    simp only [Act.put, List.setIfInBounds_toArray, List.set_cons_zero, List.set_cons_succ]
    refine Rg.held 6 (v := ?v44) rfl (by kernel_rfl) (fun _ _ _ h => h) (by rfl) hHeld ?y44 ?h44
    case y44 => (intro wA hSw; (try dsimp only at hSw); go_simp; first | done | with_reducible rfl | (rw [if_neg (by omega)]))
    simp only [Act.put, List.setIfInBounds_toArray, List.set_cons_zero, List.set_cons_succ]
    refine Rg.pure 7 (v := ?v45) rfl (by kernel_rfl) (fun _ _ _ h => h) (by rfl) hHeld ?y45 ?h45
    case y45 => (intro wA; go_simp; first | done | with_reducible rfl | (rw [if_neg (by omega)]))
    simp only [Act.put, List.setIfInBounds_toArray, List.set_cons_zero, List.set_cons_succ]
    refine Rg.pure 9 (v := ?v46) rfl (by kernel_rfl) (fun _ _ _ h => h) (by rfl) hHeld ?y46 ?h46
    case y46 => (intro wA; go_simp; first | done | with_reducible rfl | (rw [if_neg (by omega)]))
    simp only [Act.put, List.setIfInBounds_toArray, List.set_cons_zero, List.set_cons_succ]
    refine Rg.held 10 (v := ?v47) rfl (by kernel_rfl) (fun _ _ _ h => h) (by rfl) hHeld ?y47 ?h47
    case y47 => (intro wA hSw; (try dsimp only at hSw); go_simp; first | done | with_reducible rfl | (rw [if_neg (by omega)]))
    simp only [Act.put, List.setIfInBounds_toArray, List.set_cons_zero, List.set_cons_succ]
    refine Rg.one 8 rfl (by kernel_rfl) (fun K hK => ?_)
    go_simp
    have hba : Below W.heap.size W (W.alloc (.cells #[.string ⟨#[]⟩, .string ⟨#[60]⟩, .string ⟨#[62]⟩] 9)).drew := ((Below.refl _ _).alloc (Nat.le_refl _) _).drew
    have hHeld2 : (W.alloc (.cells #[.string ⟨#[]⟩, .string ⟨#[60]⟩, .string ⟨#[62]⟩] 9)).drew.cell? ⟨w.heap.size, 1, none⟩ = some (.slice (some ad) n.joints.length c1) ∧ (W.alloc (.cells #[.string ⟨#[]⟩, .string ⟨#[60]⟩, .string ⟨#[62]⟩] 9)).drew.cell? ⟨w.heap.size + 1, 0, none⟩ = some (.int .i64 j) ∧ (W.alloc (.cells #[.string ⟨#[]⟩, .string ⟨#[60]⟩, .string ⟨#[62]⟩] 9)).drew.cell? ⟨w.heap.size + 1, 1, none⟩ = some (.int .i64 2) ∧ (W.alloc (.cells #[.string ⟨#[]⟩, .string ⟨#[60]⟩, .string ⟨#[62]⟩] 9)).drew.cell? ⟨(ad.add (j * 3)).block, (ad.add (j * 3)).off + 1, none⟩ = some (.string x.name) := ⟨cell_below hba f1, cell_below hba f2, cell_below hba f3, cell_below hba g1⟩
    refine hK.out _ _ hHeld2 ?_
    clear hK K hHeld
    try simp only [Act.put, List.setIfInBounds_toArray, List.set_cons_zero, List.set_cons_succ]
    refine Rg.pure 11 (v := ?v48) rfl (by kernel_rfl) (fun _ _ _ h => h) (by rfl) hHeld2 ?y48 ?h48
    case y48 => (intro wA; go_simp; first | done | with_reducible rfl)
    simp only [Act.put, List.setIfInBounds_toArray, List.set_cons_zero, List.set_cons_succ]
    refine Rg.one 12 rfl (by kernel_rfl) (fun K hK => ?_)
    go_simp
    refine hK.out _ _ hHeld2 ?_
    clear hK K hHeld2
    try simp only [Act.put, List.setIfInBounds_toArray, List.set_cons_zero, List.set_cons_succ]
    refine Rg.row [13, 14] [_, _] rfl (by kernel_rfl) ?_
    go_wp2
    go_ret
    exact ⟨by rw [HF.out]; rfl, hB0.trans (hba.mono hB0.size)⟩
set_option maxRecDepth 100000 in
set_option maxHeartbeats 16000000 in
theorem l4line {ok ok' ok'' : Nat → Prop} (n : Net) (ss : List Signal) (r : Route) (A0 A1 A2 E2 E3 E4 E5 E6 E7 : Option Addr) (c0 c1 c2 e2 e3 e4 e5 e6 e7 : Nat) (w : World) (hp : pieceK.C w ok A0 n.pieces) (hj : (jointK 177).C w ok A1 n.joints) (hs : signalK.C w ok' A2 ss) (HR : RC w ok'' r E2 E3 E4 E5 E6 E7) (hN : Hid (Named n ss r)) (hS : Hid (Short n ss)) :
    Calls Tryz.prog 21 #[.agg #[.slice A0 n.pieces.length c0, .slice A1 n.joints.length c1], .slice A2 ss.length c2, .agg #[.int .i64 r.frm, .int .i64 r.til, .slice E2 r.steps.length e2, .slice E3 r.lies.length e3, .slice E4 r.crosses.length e4, .slice E5 r.parts.length e5, .slice E6 r.over.length e6, .slice E7 r.flanks.length e7]] w (RetStr (lineT n ss r) w) := by
  obtain ⟨i, hi, hil⟩ := hN.out.frm
  have hpm := hp.1
  have hjm := hj.1
  have hsm := hs.1
  have hsl := HR.h2.1
  have hll := HR.h3.1
  have hfl := HR.h7.1
  obtain ⟨W, hW, hB0, f0, f1, r0, r1, r2, r3, r7, z1, z2⟩ : ∃ W, W = (w.alloc (.cells #[.slice A0 n.pieces.length c0, .slice A1 n.joints.length c1] 35)).alloc (.cells #[.int .i64 i, .int .i64 r.til, .slice E2 r.steps.length e2, .slice E3 r.lies.length e3, .slice E4 r.crosses.length e4, .slice E5 r.parts.length e5, .slice E6 r.over.length e6, .slice E7 r.flanks.length e7] 65) ∧ Below w.heap.size w W ∧ W.cell? ⟨w.heap.size, 0, none⟩ = some (.slice A0 n.pieces.length c0) ∧ W.cell? ⟨w.heap.size, 1, none⟩ = some (.slice A1 n.joints.length c1) ∧ W.cell? ⟨w.heap.size + 1, 0, none⟩ = some (.int .i64 i) ∧ W.cell? ⟨w.heap.size + 1, 1, none⟩ = some (.int .i64 r.til) ∧ W.cell? ⟨w.heap.size + 1, 2, none⟩ = some (.slice E2 r.steps.length e2) ∧ W.cell? ⟨w.heap.size + 1, 3, none⟩ = some (.slice E3 r.lies.length e3) ∧ W.cell? ⟨w.heap.size + 1, 7, none⟩ = some (.slice E7 r.flanks.length e7) ∧ w.heap.size < W.heap.size ∧ w.heap.size + 1 < W.heap.size := by
    exact ⟨_, rfl, (below_alloc _ _).alloc (by simp) _, by simp, by simp, by simp, by simp, by simp, by simp, by simp, by simp; omega, by simp⟩
  have HP := Lib.hid (Kn.C_below hB0 hp)
  have HJ := Lib.hid (Kn.C_below hB0 hj)
  have HS := Lib.hid (Kn.C_below hB0 hs)
  have HX := Lib.hid (HR.below hB0)
  clear hp hj hs HR
  obtain ⟨az, rfl, z0, u1, u2, u3, EZ, q0, q1, q2, q3⟩ := signalK_at HS.out i hil
  clear q1 q2 q3
  have i0 : (0 : Int) ≤ (i : Int) := Int.natCast_nonneg _
  have i1 : (i : Int) < (ss.length : Int) := by omega
  have hn0 : Hid (sName ss r.frm = z0) := Lib.hid (by rw [hi]; exact sName_at EZ.out)
  have hz0 : z0.size ≤ 20 := by rw [← hn0.out]; exact hS.out.s _
  have s1 : z0.size + 4 ≤ 9223372036854775807 := by omega
  have HB0 := Lib.hid hB0
  rw [hi]
  have HI := Lib.hid hi
  clear hi
  go_enter Tryz.func21, Tryz.ntmps21
  go_upto_region 1 with (fail)
  rw [← hW]
  clear hW hB0
  go_upto_if 23 with (fail)
  go_cut [7] (fun s wc => ∃ z : ByteArray, s = .string z ∧ Hid (z = sName ss r.frm ++ ⟨#[32, 45, 62, 32]⟩ ++ tilT ss r) ∧ z.size ≤ 50 ∧ wc = W)
  case first =>
    have s2 : (z0 ++ (⟨#[32, 45, 62, 32]⟩ : ByteArray)).size ≤ 30 := by rw [ByteArray.size_append]; show _ + 4 ≤ 30; omega
    rcases hN.out.til with h | ⟨b, hb, hbl⟩
    · have HT : Hid (tilT ss r = ⟨#[98, 117, 102, 102, 101, 114]⟩) := Lib.hid (by unfold tilT; rw [if_pos (by omega)])
      have s3 : z0.size + 4 + 6 ≤ 9223372036854775807 := by omega
      have d1 : decide (r.til < 0) = true := decide_eq_true (by omega)
      have d2 : r.til < 0 := by omega
      clear h
      go_wp2
      go_meet
      case rel =>
        refine ⟨_, rfl, Lib.hid ?_, ?_, rfl⟩
        · rw [hn0.out, HT.out]
        · rw [ByteArray.size_append]
          show _ + 6 ≤ 50
          omega
    · obtain ⟨az', he, y0, u1, u2, u3, EY, p0, p1, p2, p3⟩ := signalK_at HS.out b hbl
      obtain rfl := Option.some.inj he
      clear he p1 p2 p3
      have d1 : decide (r.til < 0) = false := decide_eq_false (by omega)
      have d2 : ¬ r.til < 0 := by omega
      have hbn : r.til.toNat = b := by omega
      have p0 : W.cell? (az.add (r.til.toNat * 4)) = some (.string y0) := by rw [hbn]; exact p0
      have b0 : (0 : Int) ≤ r.til := by omega
      have b1 : r.til < (ss.length : Int) := by omega
      have HT : Hid (tilT ss r = y0) := Lib.hid (by unfold tilT; rw [if_neg (by omega), hb]; exact sName_at EY.out)
      have hy0 : y0.size ≤ 20 := by rw [← HT.out]; unfold tilT; rw [if_neg (by omega)]; exact hS.out.s _
      have s3 : z0.size + 4 + y0.size ≤ 9223372036854775807 := by omega
      clear hb hbn
      go_wp2
      go_meet
      case rel =>
        refine ⟨_, rfl, Lib.hid ?_, ?_, rfl⟩
        · rw [hn0.out, HT.out]
        · rw [ByteArray.size_append]
          omega
  obtain ⟨z, rfl, HZ, hz, rfl⟩ := hcut
  have s4 : z.size + 2 ≤ 9223372036854775807 := by omega
  clear s1 q0 r0 r1
  go_wp2
  go_loopw [7, 39] (fun o iv wr => ∃ (k : Nat) (s : ByteArray), k ≤ r.steps.length ∧ iv = .int .i64 k ∧ o = .string s ∧ s.size ≤ 60 + k * 30 ∧ Hid (s = headT ss r ++ catT (stepT n) (r.steps.take k)) ∧ Below wc.heap.size wc wr) (fun _ i _ => r.steps.length - (intOf i).toNat)
  case atStart => exact ⟨0, _, Nat.zero_le _, rfl, rfl, by rw [ByteArray.size_append]; show _ + 2 ≤ _; omega, Lib.hid (by rw [HZ.out, List.take_zero]; unfold headT catT; rw [ba_nil]), Below.refl _ _⟩
  case round =>
    obtain ⟨k, s, hk, rfl, rfl, hsz, HO, hb⟩ := hrel
    by_cases hlt : k < r.steps.length
    · have hstl := hN.out.len.1
      obtain ⟨ae, rfl, x0, x1, EX, g0, g1⟩ := stepK_at (Kn.C_below hb HX.out.h2) k hlt
      obtain ⟨hx0, hx1⟩ := hN.out.steps _ (mem_of_get EX.out)
      obtain ⟨p, rfl⟩ : ∃ p : Nat, x0 = p := ⟨x0.toNat, by have := hx0.1; simp only at this; omega⟩
      have hpl : p < n.pieces.length := by have := hx0.2; simp only at this; omega
      clear hx0
      obtain ⟨ap, rfl, y0, y1, y2, y3, EP, k0, k1, k2, k3⟩ := pieceK_at (Kn.C_below hb HP.out) p hpl
      clear k1 k2 k3
      have hpn : Hid (pName n p = y0) := Lib.hid (pName_at EP.out)
      have hys : y0.size ≤ 20 := by rw [← hpn.out]; exact hS.out.p _
      have n0 : (0 : Int) ≤ (p : Int) := Int.natCast_nonneg _
      have n1 : (p : Int) < (n.pieces.length : Int) := by omega
      have k0' : (0 : Int) ≤ (k : Int) := Int.natCast_nonneg _
      have k1' : (k : Int) < (r.steps.length : Int) := by omega
      have m0 := cell_below hb f0
      have HBE := Lib.hid hb
      have s5 : 1 + y0.size ≤ 9223372036854775807 := by omega
      have s6 : 1 + y0.size + 1 ≤ 9223372036854775807 := by omega
      have s7 : s.size + (1 + y0.size + 1) ≤ 9223372036854775807 := by omega
      have HST : Hid (s.size + (1 + y0.size + 1) ≤ 60 + (k + 1) * 30) := Lib.hid (by omega)
      have hsn := Lib.hid (catT_snoc (stepT n) r.steps k _ EX.out)
      clear f0 f1 r2 r3 r7 hb
      go_upto_region 9 with (fail)
      obtain ⟨V, hV, hBV, v0, v1, v2, v3⟩ : ∃ V, V = wr.alloc (.cells #[.int .i64 p, .int .i64 x1] 85) ∧ Below wr.heap.size wr V ∧ V.cell? ⟨w.heap.size, 0, none⟩ = some (.slice (some ap) n.pieces.length c0) ∧ V.cell? ⟨wr.heap.size, 0, none⟩ = some (.int .i64 p) ∧ V.cell? ⟨wr.heap.size, 1, none⟩ = some (.int .i64 x1) ∧ V.cell? (ap.add (p * 4)) = some (.string y0) := ⟨_, rfl, below_alloc _ _, cell_below (below_alloc _ _) m0, by simp, by simp, cell_below (below_alloc _ _) k0⟩
      rw [← hV]
      clear hV m0 k0 g0 g1
      simp only at hx1
      rcases hx1 with rfl | rfl
      · have HF : Hid (stepT n ⟨p, 1⟩ = (⟨#[32]⟩ : ByteArray) ++ y0 ++ ⟨#[43]⟩) := Lib.hid (by unfold stepT; rw [hpn.out]; rfl)
        refine Rg.start 15 (fun w' => w'.cell? ⟨w.heap.size, 0, none⟩ = some (.slice (some ap) n.pieces.length c0) ∧ w'.cell? ⟨wr.heap.size, 0, none⟩ = some (.int .i64 p) ∧ w'.cell? ⟨wr.heap.size, 1, none⟩ = some (.int .i64 1) ∧ w'.cell? (ap.add (p * 4)) = some (.string y0)) 18 rfl (by kernel_rfl) ?_
        have hHeld : V.drew.cell? ⟨w.heap.size, 0, none⟩ = some (.slice (some ap) n.pieces.length c0) ∧ V.drew.cell? ⟨wr.heap.size, 0, none⟩ = some (.int .i64 p) ∧ V.drew.cell? ⟨wr.heap.size, 1, none⟩ = some (.int .i64 1) ∧ V.drew.cell? (ap.add (p * 4)) = some (.string y0) := ⟨v0, v1, v2, v3⟩
        refine Rg.pure 0 (v := ?v1) rfl (by kernel_rfl) (fun _ _ _ h => h) (by rfl) hHeld ?y1 ?h1
        case y1 => (intro wA; go_simp; first | done | with_reducible rfl | (rw [if_neg (by omega)]) | rfl)
        simp only [Act.put, List.setIfInBounds_toArray, List.set_cons_zero, List.set_cons_succ]
        refine Rg.pure 1 (v := ?v2) rfl (by kernel_rfl) (fun _ _ _ h => h) (by rfl) hHeld ?y2 ?h2
        case y2 => (intro wA; go_simp; first | done | with_reducible rfl | (rw [if_neg (by omega)]) | rfl)
        simp only [Act.put, List.setIfInBounds_toArray, List.set_cons_zero, List.set_cons_succ]
        refine Rg.held 2 (v := ?v3) rfl (by kernel_rfl) (fun _ _ _ h => h) (by rfl) hHeld ?y3 ?h3
        case y3 => (intro wA hSw; (try dsimp only at hSw); go_simp; first | done | with_reducible rfl | (rw [if_neg (by omega)]) | rfl)
        simp only [Act.put, List.setIfInBounds_toArray, List.set_cons_zero, List.set_cons_succ]
        refine Rg.pure 3 (v := ?v4) rfl (by kernel_rfl) (fun _ _ _ h => h) (by rfl) hHeld ?y4 ?h4
        case y4 => (intro wA; go_simp; first | done | with_reducible rfl | (rw [if_neg (by omega)]) | rfl)
        simp only [Act.put, List.setIfInBounds_toArray, List.set_cons_zero, List.set_cons_succ]
        refine Rg.held 4 (v := ?v5) rfl (by kernel_rfl) (fun _ _ _ h => h) (by rfl) hHeld ?y5 ?h5
        case y5 => (intro wA hSw; (try dsimp only at hSw); go_simp; first | done | with_reducible rfl | (rw [if_neg (by omega)]) | rfl)
        simp only [Act.put, List.setIfInBounds_toArray, List.set_cons_zero, List.set_cons_succ]
        refine Rg.pure 5 (v := ?v6) rfl (by kernel_rfl) (fun _ _ _ h => h) (by rfl) hHeld ?y6 ?h6
        case y6 => (intro wA; go_simp; first | done | with_reducible rfl | (rw [if_neg (by omega)]) | rfl)
        simp only [Act.put, List.setIfInBounds_toArray, List.set_cons_zero, List.set_cons_succ]
        refine Rg.pure 6 (v := ?v7) rfl (by kernel_rfl) (fun _ _ _ h => h) (by rfl) hHeld ?y7 ?h7
        case y7 => (intro wA; go_simp; first | done | with_reducible rfl | (rw [if_neg (by omega)]) | rfl)
        simp only [Act.put, List.setIfInBounds_toArray, List.set_cons_zero, List.set_cons_succ]
        refine Rg.held 7 (v := ?v8) rfl (by kernel_rfl) (fun _ _ _ h => h) (by rfl) hHeld ?y8 ?h8
        case y8 => (intro wA hSw; (try dsimp only at hSw); go_simp; first | done | with_reducible rfl | (rw [if_neg (by omega)]) | rfl)
        simp only [Act.put, List.setIfInBounds_toArray, List.set_cons_zero, List.set_cons_succ]
        refine Rg.pure 8 (v := ?v9) rfl (by kernel_rfl) (fun _ _ _ h => h) (by rfl) hHeld ?y9 ?h9
        case y9 => (intro wA; go_simp; first | done | with_reducible rfl | (rw [if_neg (by omega)]) | rfl)
        simp only [Act.put, List.setIfInBounds_toArray, List.set_cons_zero, List.set_cons_succ]
        refine Rg.pure 10 (v := ?v10) rfl (by kernel_rfl) (fun _ _ _ h => h) (by rfl) hHeld ?y10 ?h10
        case y10 => (intro wA; go_simp; first | done | with_reducible rfl | (rw [if_neg (by omega)]) | rfl)
        simp only [Act.put, List.setIfInBounds_toArray, List.set_cons_zero, List.set_cons_succ]
        refine Rg.held 11 (v := ?v11) rfl (by kernel_rfl) (fun _ _ _ h => h) (by rfl) hHeld ?y11 ?h11
        case y11 => (intro wA hSw; (try dsimp only at hSw); go_simp; first | done | with_reducible rfl | (rw [if_neg (by omega)]) | rfl)
        simp only [Act.put, List.setIfInBounds_toArray, List.set_cons_zero, List.set_cons_succ]
        refine Rg.pure 12 (v := .int .i64 2) rfl (by kernel_rfl) (fun _ _ _ h => h) (by rfl) hHeld ?y12 ?h12
        case y12 => (intro wA; go_simp; first | done | with_reducible rfl | (rw [if_neg (by omega)]) | rfl)
        simp only [Act.put, List.setIfInBounds_toArray, List.set_cons_zero, List.set_cons_succ]
        refine Rg.one 9 rfl (by kernel_rfl) (fun K hK => ?_)
        go_simp
        have hba : Below V.heap.size V (V.alloc (.cells #[.string ⟨#[45]⟩, .string ⟨#[]⟩, .string ⟨#[43]⟩] 9)).drew := ((Below.refl _ _).alloc (Nat.le_refl _) _).drew
        have hHeld2 : (V.alloc (.cells #[.string ⟨#[45]⟩, .string ⟨#[]⟩, .string ⟨#[43]⟩] 9)).drew.cell? ⟨w.heap.size, 0, none⟩ = some (.slice (some ap) n.pieces.length c0) ∧ (V.alloc (.cells #[.string ⟨#[45]⟩, .string ⟨#[]⟩, .string ⟨#[43]⟩] 9)).drew.cell? ⟨wr.heap.size, 0, none⟩ = some (.int .i64 p) ∧ (V.alloc (.cells #[.string ⟨#[45]⟩, .string ⟨#[]⟩, .string ⟨#[43]⟩] 9)).drew.cell? ⟨wr.heap.size, 1, none⟩ = some (.int .i64 1) ∧ (V.alloc (.cells #[.string ⟨#[45]⟩, .string ⟨#[]⟩, .string ⟨#[43]⟩] 9)).drew.cell? (ap.add (p * 4)) = some (.string y0) := ⟨cell_below hba v0, cell_below hba v1, cell_below hba v2, cell_below hba v3⟩
        refine hK.out _ _ hHeld2 ?_
        clear hK K hHeld
        try simp only [Act.put, List.setIfInBounds_toArray, List.set_cons_zero, List.set_cons_succ]
        refine Rg.pure 13 (v := ?v13) rfl (by kernel_rfl) (fun _ _ _ h => h) (by rfl) hHeld2 ?y13 ?h13
        case y13 => (intro wA; go_simp; first | done | with_reducible rfl)
        simp only [Act.put, List.setIfInBounds_toArray, List.set_cons_zero, List.set_cons_succ]
        refine Rg.one 14 rfl (by kernel_rfl) (fun K hK => ?_)
        go_simp
        refine hK.out _ _ hHeld2 ?_
        clear hK K hHeld2
        try simp only [Act.put, List.setIfInBounds_toArray, List.set_cons_zero, List.set_cons_succ]
        refine Rg.row [15, 16, 17] [_, _, _] rfl (by kernel_rfl) ?_
        go_wp2
        go_roundw
        case rel => exact ⟨k + 1, _, by omega, by go_num, rfl, by rw [ByteArray.size_append, ByteArray.size_append, ByteArray.size_append]; exact HST.out, Lib.hid (by rw [hsn.out, HF.out, HO.out]; exact ByteArray.append_assoc), HBE.out.trans ((hBV.trans (hba.mono hBV.size)).mono HBE.out.size)⟩
        case measure => simp [intOf]; omega
      · have HF : Hid (stepT n ⟨p, -1⟩ = (⟨#[32]⟩ : ByteArray) ++ y0 ++ ⟨#[45]⟩) := Lib.hid (by unfold stepT; rw [hpn.out]; rfl)
        refine Rg.start 15 (fun w' => w'.cell? ⟨w.heap.size, 0, none⟩ = some (.slice (some ap) n.pieces.length c0) ∧ w'.cell? ⟨wr.heap.size, 0, none⟩ = some (.int .i64 p) ∧ w'.cell? ⟨wr.heap.size, 1, none⟩ = some (.int .i64 (-1)) ∧ w'.cell? (ap.add (p * 4)) = some (.string y0)) 18 rfl (by kernel_rfl) ?_
        have hHeld : V.drew.cell? ⟨w.heap.size, 0, none⟩ = some (.slice (some ap) n.pieces.length c0) ∧ V.drew.cell? ⟨wr.heap.size, 0, none⟩ = some (.int .i64 p) ∧ V.drew.cell? ⟨wr.heap.size, 1, none⟩ = some (.int .i64 (-1)) ∧ V.drew.cell? (ap.add (p * 4)) = some (.string y0) := ⟨v0, v1, v2, v3⟩
        refine Rg.pure 0 (v := ?v14) rfl (by kernel_rfl) (fun _ _ _ h => h) (by rfl) hHeld ?y14 ?h14
        case y14 => (intro wA; go_simp; first | done | with_reducible rfl | (rw [if_neg (by omega)]) | rfl)
        simp only [Act.put, List.setIfInBounds_toArray, List.set_cons_zero, List.set_cons_succ]
        refine Rg.pure 1 (v := ?v15) rfl (by kernel_rfl) (fun _ _ _ h => h) (by rfl) hHeld ?y15 ?h15
        case y15 => (intro wA; go_simp; first | done | with_reducible rfl | (rw [if_neg (by omega)]) | rfl)
        simp only [Act.put, List.setIfInBounds_toArray, List.set_cons_zero, List.set_cons_succ]
        refine Rg.held 2 (v := ?v16) rfl (by kernel_rfl) (fun _ _ _ h => h) (by rfl) hHeld ?y16 ?h16
        case y16 => (intro wA hSw; (try dsimp only at hSw); go_simp; first | done | with_reducible rfl | (rw [if_neg (by omega)]) | rfl)
        simp only [Act.put, List.setIfInBounds_toArray, List.set_cons_zero, List.set_cons_succ]
        refine Rg.pure 3 (v := ?v17) rfl (by kernel_rfl) (fun _ _ _ h => h) (by rfl) hHeld ?y17 ?h17
        case y17 => (intro wA; go_simp; first | done | with_reducible rfl | (rw [if_neg (by omega)]) | rfl)
        simp only [Act.put, List.setIfInBounds_toArray, List.set_cons_zero, List.set_cons_succ]
        refine Rg.held 4 (v := ?v18) rfl (by kernel_rfl) (fun _ _ _ h => h) (by rfl) hHeld ?y18 ?h18
        case y18 => (intro wA hSw; (try dsimp only at hSw); go_simp; first | done | with_reducible rfl | (rw [if_neg (by omega)]) | rfl)
        simp only [Act.put, List.setIfInBounds_toArray, List.set_cons_zero, List.set_cons_succ]
        refine Rg.pure 5 (v := ?v19) rfl (by kernel_rfl) (fun _ _ _ h => h) (by rfl) hHeld ?y19 ?h19
        case y19 => (intro wA; go_simp; first | done | with_reducible rfl | (rw [if_neg (by omega)]) | rfl)
        simp only [Act.put, List.setIfInBounds_toArray, List.set_cons_zero, List.set_cons_succ]
        refine Rg.pure 6 (v := ?v20) rfl (by kernel_rfl) (fun _ _ _ h => h) (by rfl) hHeld ?y20 ?h20
        case y20 => (intro wA; go_simp; first | done | with_reducible rfl | (rw [if_neg (by omega)]) | rfl)
        simp only [Act.put, List.setIfInBounds_toArray, List.set_cons_zero, List.set_cons_succ]
        refine Rg.held 7 (v := ?v21) rfl (by kernel_rfl) (fun _ _ _ h => h) (by rfl) hHeld ?y21 ?h21
        case y21 => (intro wA hSw; (try dsimp only at hSw); go_simp; first | done | with_reducible rfl | (rw [if_neg (by omega)]) | rfl)
        simp only [Act.put, List.setIfInBounds_toArray, List.set_cons_zero, List.set_cons_succ]
        refine Rg.pure 8 (v := ?v22) rfl (by kernel_rfl) (fun _ _ _ h => h) (by rfl) hHeld ?y22 ?h22
        case y22 => (intro wA; go_simp; first | done | with_reducible rfl | (rw [if_neg (by omega)]) | rfl)
        simp only [Act.put, List.setIfInBounds_toArray, List.set_cons_zero, List.set_cons_succ]
        refine Rg.pure 10 (v := ?v23) rfl (by kernel_rfl) (fun _ _ _ h => h) (by rfl) hHeld ?y23 ?h23
        case y23 => (intro wA; go_simp; first | done | with_reducible rfl | (rw [if_neg (by omega)]) | rfl)
        simp only [Act.put, List.setIfInBounds_toArray, List.set_cons_zero, List.set_cons_succ]
        refine Rg.held 11 (v := ?v24) rfl (by kernel_rfl) (fun _ _ _ h => h) (by rfl) hHeld ?y24 ?h24
        case y24 => (intro wA hSw; (try dsimp only at hSw); go_simp; first | done | with_reducible rfl | (rw [if_neg (by omega)]) | rfl)
        simp only [Act.put, List.setIfInBounds_toArray, List.set_cons_zero, List.set_cons_succ]
        refine Rg.pure 12 (v := .int .i64 0) rfl (by kernel_rfl) (fun _ _ _ h => h) (by rfl) hHeld ?y25 ?h25
        case y25 => (intro wA; go_simp; first | done | with_reducible rfl | (rw [if_neg (by omega)]) | rfl)
        simp only [Act.put, List.setIfInBounds_toArray, List.set_cons_zero, List.set_cons_succ]
        refine Rg.one 9 rfl (by kernel_rfl) (fun K hK => ?_)
        go_simp
        have hba : Below V.heap.size V (V.alloc (.cells #[.string ⟨#[45]⟩, .string ⟨#[]⟩, .string ⟨#[43]⟩] 9)).drew := ((Below.refl _ _).alloc (Nat.le_refl _) _).drew
        have hHeld2 : (V.alloc (.cells #[.string ⟨#[45]⟩, .string ⟨#[]⟩, .string ⟨#[43]⟩] 9)).drew.cell? ⟨w.heap.size, 0, none⟩ = some (.slice (some ap) n.pieces.length c0) ∧ (V.alloc (.cells #[.string ⟨#[45]⟩, .string ⟨#[]⟩, .string ⟨#[43]⟩] 9)).drew.cell? ⟨wr.heap.size, 0, none⟩ = some (.int .i64 p) ∧ (V.alloc (.cells #[.string ⟨#[45]⟩, .string ⟨#[]⟩, .string ⟨#[43]⟩] 9)).drew.cell? ⟨wr.heap.size, 1, none⟩ = some (.int .i64 (-1)) ∧ (V.alloc (.cells #[.string ⟨#[45]⟩, .string ⟨#[]⟩, .string ⟨#[43]⟩] 9)).drew.cell? (ap.add (p * 4)) = some (.string y0) := ⟨cell_below hba v0, cell_below hba v1, cell_below hba v2, cell_below hba v3⟩
        refine hK.out _ _ hHeld2 ?_
        clear hK K hHeld
        try simp only [Act.put, List.setIfInBounds_toArray, List.set_cons_zero, List.set_cons_succ]
        refine Rg.pure 13 (v := ?v26) rfl (by kernel_rfl) (fun _ _ _ h => h) (by rfl) hHeld2 ?y26 ?h26
        case y26 => (intro wA; go_simp; first | done | with_reducible rfl)
        simp only [Act.put, List.setIfInBounds_toArray, List.set_cons_zero, List.set_cons_succ]
        refine Rg.one 14 rfl (by kernel_rfl) (fun K hK => ?_)
        go_simp
        refine hK.out _ _ hHeld2 ?_
        clear hK K hHeld2
        try simp only [Act.put, List.setIfInBounds_toArray, List.set_cons_zero, List.set_cons_succ]
        refine Rg.row [15, 16, 17] [_, _, _] rfl (by kernel_rfl) ?_
        go_wp2
        go_roundw
        case rel => exact ⟨k + 1, _, by omega, by go_num, rfl, by rw [ByteArray.size_append, ByteArray.size_append, ByteArray.size_append]; exact HST.out, Lib.hid (by rw [hsn.out, HF.out, HO.out]; exact ByteArray.append_assoc), HBE.out.trans ((hBV.trans (hba.mono hBV.size)).mono HBE.out.size)⟩
        case measure => simp [intOf]; omega
    · obtain rfl : k = r.steps.length := by omega
      have HO : Hid (s = headT ss r ++ catT (stepT n) r.steps) := Lib.hid (by have := HO.out; rwa [List.take_length] at this)
      have hsl1 := hN.out.len.1
      have hsb : s.size ≤ 6100 := by omega
      clear hsz hlt
      have f0 := cell_below hb f0
      have f1 := cell_below hb f1
      have r3 := cell_below hb r3
      have r7 := cell_below hb r7
      have HP := Lib.hid (Kn.C_below hb HP.out)
      have HJ := Lib.hid (Kn.C_below hb HJ.out)
      have HS := Lib.hid (Kn.C_below hb HS.out)
      have HX := Lib.hid (HX.out.below hb)
      have HB0 := Lib.hid (HB0.out.trans (hb.mono HB0.out.size))
      have z1 : w.heap.size < wr.heap.size := Nat.lt_of_lt_of_le z1 hb.size
      have z2 : w.heap.size + 1 < wr.heap.size := Nat.lt_of_lt_of_le z2 hb.size
      clear hb r2
      clear HZ hz s4
      go_upto_if 64 with (fail)
      obtain ⟨wa, rfl⟩ : ∃ wa : World, wa = wr := ⟨_, rfl⟩
      go_cut [7] (fun v wc => ∃ z : ByteArray, v = .string z ∧ Hid (z = s ++ (if 0 < r.lies.length then ⟨#[32, 108, 105, 101, 115]⟩ else ByteArray.empty)) ∧ z.size ≤ 6200 ∧ wc = wa)
      case first =>
        by_cases h : 0 < r.lies.length
        · have d1 : decide ((0 : Int) < (r.lies.length : Int)) = true := decide_eq_true (by omega)
          have d2 : decide (0 < r.lies.length) = true := decide_eq_true h
          have s5 : s.size + 5 ≤ 9223372036854775807 := by omega
          go_wp2
          go_meet
          case rel => exact ⟨_, rfl, Lib.hid (by rw [if_pos h]), by rw [ByteArray.size_append]; show _ + 5 ≤ _; omega, rfl⟩
        · have d1 : decide ((0 : Int) < (r.lies.length : Int)) = false := decide_eq_false (by omega)
          have d2 : decide (0 < r.lies.length) = false := decide_eq_false h
          go_wp2
          go_meet
          case rel => exact ⟨_, rfl, Lib.hid (by rw [if_neg h, ba_nil]), by omega, rfl⟩
      obtain ⟨z, rfl, HZ, hz, rfl⟩ := hcut
      go_wp2
      go_loopw [7, 70] (fun o iv wr => ∃ (k : Nat) (s : ByteArray), k ≤ r.lies.length ∧ iv = .int .i64 k ∧ o = .string s ∧ s.size ≤ 6200 + k * 30 ∧ Hid (s = z ++ catT (lieT n) (r.lies.take k)) ∧ Below wc.heap.size wc wr) (fun _ i _ => r.lies.length - (intOf i).toNat)
      case atStart => exact ⟨0, _, Nat.zero_le _, rfl, rfl, by omega, Lib.hid (by rw [List.take_zero]; unfold catT; rw [ba_nil]), Below.refl _ _⟩
      case round =>
        obtain ⟨k, s2, hk, rfl, rfl, hsz, HO2, hb⟩ := hrel
        by_cases hlt : k < r.lies.length
        · have hstl := hN.out.len.2.1
          obtain ⟨ae, rfl, x0, x1, EX, g0, g1⟩ := lieK_at (Kn.C_below hb HX.out.h3) k hlt
          obtain ⟨j, hj, hjl, _, hl⟩ := hN.out.lies _ (mem_of_get EX.out)
          simp only at hj hl
          subst hj
          have hjn : (jName n j).size ≤ 20 := hS.out.j _
          have hlz := lieT_size hS.out ⟨j, x1⟩
          have k0' : (0 : Int) ≤ (k : Int) := Int.natCast_nonneg _
          have k1' : (k : Int) < (r.lies.length : Int) := by omega
          have m0 := cell_below hb f0
          have m1 := cell_below hb f1
          have HJ2 := Lib.hid (Kn.C_below hb HJ.out)
          have HBE := Lib.hid hb
          have hwr : w.heap.size < wr.heap.size := Nat.lt_of_lt_of_le z1 hb.size
          obtain ⟨L, HL⟩ : ∃ L, Hid (lieT n ⟨j, x1⟩ = L) := ⟨_, Lib.hid rfl⟩
          rw [HL.out] at hlz
          have s5 : s2.size + L.size ≤ 9223372036854775807 := by omega
          have hsn := Lib.hid (catT_snoc (lieT n) r.lies k _ EX.out)
          have hl := Lib.hid hl
          clear f0 f1 r3 r7 hb
          go_wp2_with (go_at_call 45; refine (l4lie n j x1 A0 A1 c0 c1 _ (Kn.C_below (below_alloc _ _) HJ2.out) hjl hl.out hjn).mono ?_; rintro e w1 ⟨rfl, hb1⟩; rw [HL.out])
          go_roundw
          case rel => exact ⟨k + 1, _, by omega, by go_num, rfl, by rw [ByteArray.size_append]; omega, Lib.hid (by rw [hsn.out, HL.out, HO2.out]; exact ByteArray.append_assoc), HBE.out.trans (((below_alloc _ _).trans (hb1.mono (by simp))).mono HBE.out.size)⟩
          case measure => simp [intOf]; omega
        · obtain rfl : k = r.lies.length := by omega
          have HO2 : Hid (s2 = z ++ catT (lieT n) r.lies) := Lib.hid (by have := HO2.out; rwa [List.take_length] at this)
          have hsl1 := hN.out.len.2.1
          have hsb : s2.size ≤ 12300 := by omega
          clear hsz hlt
          have f0 := cell_below hb f0
          have f1 := cell_below hb f1
          have r7 := cell_below hb r7
          have HJ := Lib.hid (Kn.C_below hb HJ.out)
          have HS := Lib.hid (Kn.C_below hb HS.out)
          have HX := Lib.hid (HX.out.below hb)
          have HB0 := Lib.hid (HB0.out.trans (hb.mono HB0.out.size))
          have z1 : w.heap.size < wr.heap.size := Nat.lt_of_lt_of_le z1 hb.size
          have z2 : w.heap.size + 1 < wr.heap.size := Nat.lt_of_lt_of_le z2 hb.size
          clear hb r3
          go_upto_if 83 with (fail)
          obtain ⟨wb, rfl⟩ : ∃ wb : World, wb = wr := ⟨_, rfl⟩
          go_cut [7] (fun v wc => ∃ y : ByteArray, v = .string y ∧ Hid (y = s2 ++ (if 0 < r.flanks.length then ⟨#[32, 102, 108, 97, 110, 107, 115]⟩ else ByteArray.empty)) ∧ y.size ≤ 12400 ∧ wc = wb)
          case first =>
            by_cases h : 0 < r.flanks.length
            · have d1 : decide ((0 : Int) < (r.flanks.length : Int)) = true := decide_eq_true (by omega)
              have d2 : decide (0 < r.flanks.length) = true := decide_eq_true h
              have s5 : s2.size + 7 ≤ 9223372036854775807 := by omega
              go_wp2
              go_meet
              case rel => exact ⟨_, rfl, Lib.hid (by rw [if_pos h]), by rw [ByteArray.size_append]; show _ + 7 ≤ _; omega, rfl⟩
            · have d1 : decide ((0 : Int) < (r.flanks.length : Int)) = false := decide_eq_false (by omega)
              have d2 : decide (0 < r.flanks.length) = false := decide_eq_false h
              go_wp2
              go_meet
              case rel => exact ⟨_, rfl, Lib.hid (by rw [if_neg h, ba_nil]), by omega, rfl⟩
          obtain ⟨y, rfl, HY, hy, rfl⟩ := hcut
          have HFIN : Hid (lineT n ss r = y ++ catT (flankT n ss) r.flanks ++ ⟨#[10]⟩) := Lib.hid (by
            rw [HY.out, HO2.out, HZ.out, HO.out]
            unfold lineT liesT flanksT
            simp only [ByteArray.append_assoc])
          clear HY HO2 HZ HO
          go_wp2
          go_loopw [7, 89] (fun o iv wr => ∃ (k : Nat) (s : ByteArray), k ≤ r.flanks.length ∧ iv = .int .i64 k ∧ o = .string s ∧ s.size ≤ 12400 + k * 30 ∧ Hid (s = y ++ catT (flankT n ss) (r.flanks.take k)) ∧ Below wc.heap.size wc wr) (fun _ i _ => r.flanks.length - (intOf i).toNat)
          case atStart => exact ⟨0, _, Nat.zero_le _, rfl, rfl, by omega, Lib.hid (by rw [List.take_zero]; unfold catT; rw [ba_nil]), Below.refl _ _⟩
          case round =>
            obtain ⟨k, s3, hk, rfl, rfl, hsz, HO3, hb⟩ := hrel
            have hstl := hN.out.len.2.2
            by_cases hlt : k < r.flanks.length
            · obtain ⟨ae, rfl, x0, x1, x2, x3, EX, g0, g1, g2, g3⟩ := flankK_at (Kn.C_below hb HX.out.h7) k hlt
              have hsn := Lib.hid (catT_snoc (flankT n ss) r.flanks k _ EX.out)
              have hlz := flankT_size hS.out ⟨x0, x1, x2, x3⟩
              have k0' : (0 : Int) ≤ (k : Int) := Int.natCast_nonneg _
              have k1' : (k : Int) < (r.flanks.length : Int) := by omega
              have m0 := cell_below hb f0
              have m1 := cell_below hb f1
              have HBE := Lib.hid hb
              have hwr : w.heap.size < wr.heap.size := Nat.lt_of_lt_of_le z1 hb.size
              rcases hN.out.flanks _ (mem_of_get EX.out) with h | ⟨h, b, hb2, hbl⟩ | ⟨h, ⟨j, hj, hjl, _⟩, hl⟩ | h
              · simp only at h
                subst h
                have HF : Hid (flankT n ss ⟨x0, 1, x2, x3⟩ = ⟨#[32, 98, 117, 102, 102, 101, 114]⟩) := Lib.hid rfl
                have s5 : s3.size + 7 ≤ 9223372036854775807 := by omega
                have HZZ : Hid (s3.size + 7 ≤ 12400 + (k + 1) * 30) := Lib.hid (by omega)
                clear f0 f1 r7 hb hlz m0 m1
                go_wp2
                go_roundw
                case rel => exact ⟨k + 1, _, by omega, by go_num, rfl, by rw [ByteArray.size_append]; exact HZZ.out, Lib.hid (by rw [hsn.out, HF.out, HO3.out]; exact ByteArray.append_assoc), HBE.out.trans ((below_alloc _ _).mono HBE.out.size)⟩
                case measure => simp [intOf]; omega
              · simp only at h hb2
                subst h hb2
                obtain ⟨az', he, y0, u1, u2, u3, EY, p0, p1, p2, p3⟩ := signalK_at (Kn.C_below hb HS.out) b hbl
                obtain rfl := Option.some.inj he
                clear he p1 p2 p3
                have p0 := cell_below (below_alloc wr (.cells #[.int .i64 x0, .int .i64 2, .int .i64 b, .int .i64 x3] 91)) p0
                have b0 : (0 : Int) ≤ (b : Int) := Int.natCast_nonneg _
                have b1 : (b : Int) < (ss.length : Int) := by omega
                have HF : Hid (flankT n ss ⟨x0, 2, b, x3⟩ = (⟨#[32]⟩ : ByteArray) ++ y0) := Lib.hid (by show (⟨#[32]⟩ : ByteArray) ++ sName ss b = _; rw [sName_at EY.out])
                rw [HF.out, ByteArray.size_append] at hlz
                have hy0 : 1 + y0.size ≤ 30 := hlz
                have s5 : 1 + y0.size ≤ 9223372036854775807 := by omega
                have s6 : s3.size + (1 + y0.size) ≤ 9223372036854775807 := by omega
                have HZZ : Hid (s3.size + (1 + y0.size) ≤ 12400 + (k + 1) * 30) := Lib.hid (by omega)
                clear f0 f1 r7 hb hlz m0 m1
                go_wp2
                go_roundw
                case rel => exact ⟨k + 1, _, by omega, by go_num, rfl, by rw [ByteArray.size_append, ByteArray.size_append]; exact HZZ.out, Lib.hid (by rw [hsn.out, HF.out, HO3.out]; exact ByteArray.append_assoc), HBE.out.trans ((below_alloc _ _).mono HBE.out.size)⟩
                case measure => simp [intOf]; omega
              · simp only at h hj hl
                subst h hj
                have hjn : (jName n j).size ≤ 20 := hS.out.j _
                have HJ2 := Lib.hid (Kn.C_below hb HJ.out)
                obtain ⟨L, HL⟩ : ∃ L, Hid (lieT n ⟨j, x3⟩ = L) := ⟨_, Lib.hid rfl⟩
                have HF : Hid (flankT n ss ⟨x0, 3, j, x3⟩ = L) := Lib.hid HL.out
                rw [HF.out] at hlz
                have s5 : s3.size + L.size ≤ 9223372036854775807 := by omega
                have hl := Lib.hid hl
                clear f0 f1 r7 hb
                go_wp2_with (go_at_call 45; refine (l4lie n j x3 A0 A1 c0 c1 _ (Kn.C_below (below_alloc _ _) HJ2.out) hjl hl.out hjn).mono ?_; rintro e w1 ⟨rfl, hb1⟩; rw [HL.out])
                go_roundw
                case rel => exact ⟨k + 1, _, by omega, by go_num, rfl, by rw [ByteArray.size_append]; omega, Lib.hid (by rw [hsn.out, HF.out, HO3.out]; exact ByteArray.append_assoc), HBE.out.trans (((below_alloc _ _).trans (hb1.mono (by simp))).mono HBE.out.size)⟩
                case measure => simp [intOf]; omega
              · simp only at h
                subst h
                have HF : Hid (flankT n ss ⟨x0, 4, x2, x3⟩ = ⟨#[32, 111, 112, 101, 110]⟩) := Lib.hid rfl
                have s5 : s3.size + 5 ≤ 9223372036854775807 := by omega
                have HZZ : Hid (s3.size + 5 ≤ 12400 + (k + 1) * 30) := Lib.hid (by omega)
                clear f0 f1 r7 hb hlz m0 m1
                go_wp2
                go_roundw
                case rel => exact ⟨k + 1, _, by omega, by go_num, rfl, by rw [ByteArray.size_append]; exact HZZ.out, Lib.hid (by rw [hsn.out, HF.out, HO3.out]; exact ByteArray.append_assoc), HBE.out.trans ((below_alloc _ _).mono HBE.out.size)⟩
                case measure => simp [intOf]; omega
            · obtain rfl : k = r.flanks.length := by omega
              have HO3 : Hid (s3 = y ++ catT (flankT n ss) r.flanks) := Lib.hid (by have := HO3.out; rwa [List.take_length] at this)
              have s5 : s3.size + 1 ≤ 9223372036854775807 := by omega
              go_wp2
              go_ret
              exact ⟨by rw [HFIN.out, ← HO3.out]; rfl, HB0.out.trans (hb.mono HB0.out.size)⟩
end Go.Proofs.YtpggopdojhodaaaGreatDoor.L
namespace Go.Proofs.YtpggopdojhodaaaGreatDoor.L
open Go.RowKit
set_option linter.unusedVariables false
set_option linter.unusedSimpArgs false
set_option maxRecDepth 100000 in
set_option maxHeartbeats 8000000 in
theorem specSignalsOk {ok ok' : Nat → Prop} (n : Net) (ss : List Signal) (A0 A1 A2 : Option Addr) (c0 c1 c2 : Nat) (w : World) (hp : pieceK.C w ok A0 n.pieces) (hj : (jointK 177).C w ok A1 n.joints) (hs : signalK.C w ok' A2 ss) (hfit : Hid n.fit) (hu : Hid (∀ e, uses n.joints e ≤ 1048576)) (hsf : Hid (∀ s ∈ ss, s.fit)) :
    Calls Tryz.prog 65 #[.agg #[.slice A0 n.pieces.length c0, .slice A1 n.joints.length c1], .slice A2 ss.length c2] w (RetV (signalsOk n ss).v w) := by
  have hm2 := hs.1
  obtain ⟨W0, hW0, hB0, f0, f1, f2, f3, f4, f5, hs0, hs1⟩ : ∃ W0, W0 = (w.alloc (.cells #[.slice A0 n.pieces.length c0, .slice A1 n.joints.length c1] 35)).alloc (.cells #[.int .i64 0, .int .i64 0] 132) ∧ Below w.heap.size w W0 ∧
      W0.cell? ⟨w.heap.size, 0, none⟩ = some (.slice A0 n.pieces.length c0) ∧ W0.cell? ⟨w.heap.size, 1, none⟩ = some (.slice A1 n.joints.length c1) ∧ W0.cell? ⟨w.heap.size + 1, 0, none⟩ = some (.int .i64 0) ∧ W0.cell? ⟨w.heap.size + 1, 1, none⟩ = some (.int .i64 0) ∧
      W0.frozen? ⟨w.heap.size + 1, 0, none⟩ = false ∧ W0.frozen? ⟨w.heap.size + 1, 1, none⟩ = false ∧ w.heap.size < W0.heap.size ∧ w.heap.size + 1 < W0.heap.size := ⟨_, rfl, (below_alloc _ _).alloc (by simp) _, by simp, by simp, by simp, by simp, by simp, by simp, by simp; omega, by simp⟩
  have hp0 := Kn.C_below hB0 hp
  have hj0 := Kn.C_below hB0 hj
  by_cases g : netOk n = ⟨0, 0⟩
  rotate_left
  · have HE : Hid (eqv (netOk n) ⟨0, 0⟩ = false) := Lib.hid (eqv_false g)
    have HN : Hid (signalsOk n ss = ⟨1, 0⟩) := Lib.hid (signalsOk_1 g)
    clear g
    go_enter Tryz.func65, Tryz.ntmps65
    go_wp2_with fail
    rw [← hW0]
    clear hW0
    refine (l1ok n A0 A1 c0 c1 _ hp0 hj0 hfit hu).mono ?_
    rintro e w1 ⟨rfl, hb⟩
    rw [HE.out]
    obtain ⟨hc, hf⟩ := bcell hb
    have hs2 : w.heap.size < w1.heap.size := by have := hb.size; omega
    have hs3 : w.heap.size + 1 < w1.heap.size := by have := hb.size; omega
    have hbw := hB0.trans (hb.mono hB0.size)
    go_wp2
    exact bodyPost_ret (v := .agg #[.int .i64 1, .int .i64 0]) (by simp [results, Tryz.results65, go_sem, hc, hs0, hs1, hs2, hs3, f2, f3]) rfl ⟨by rw [HN.out], by repeat' first | exact hbw | (refine below_drewN ?_ _) | (refine Below.alloc ?_ ?_ _) | (refine Below.setCell ?_ ?_ _) | omega | (simp; done) | (simp; omega)⟩
  have HE : Hid (eqv (netOk n) ⟨0, 0⟩ = true) := Lib.hid (eqv_true g)
  have G := Lib.hid g
  obtain ⟨n0, n1, n2, n3⟩ := pieces_of_ok g
  have HP := Lib.hid n3
  clear g n3
  by_cases b2 : 60 < ss.length
  · have HN : Hid (signalsOk n ss = ⟨2, 0⟩) := Lib.hid (signalsOk_2 G.out b2)
    go_enter Tryz.func65, Tryz.ntmps65
    go_wp2_with fail
    rw [← hW0]
    clear hW0
    refine (l1ok n A0 A1 c0 c1 _ hp0 hj0 hfit hu).mono ?_
    rintro e w1 ⟨rfl, hb⟩
    rw [HE.out]
    obtain ⟨hc, hf⟩ := bcell hb
    have hs2 : w.heap.size < w1.heap.size := by have := hb.size; omega
    have hs3 : w.heap.size + 1 < w1.heap.size := by have := hb.size; omega
    have hbw := hB0.trans (hb.mono hB0.size)
    go_wp2
    exact bodyPost_ret (v := .agg #[.int .i64 2, .int .i64 0]) (by simp [results, Tryz.results65, go_sem, hc, hs0, hs1, hs2, hs3, f2, f3]) rfl ⟨by rw [HN.out], by repeat' first | exact hbw | (refine below_drewN ?_ _) | (refine Below.alloc ?_ ?_ _) | (refine Below.setCell ?_ ?_ _) | omega | (simp; done) | (simp; omega)⟩
  have B2 := Lib.hid b2
  go_enter Tryz.func65, Tryz.ntmps65
  go_wp2_with fail
  rw [← hW0]
  clear hW0
  refine (l1ok n A0 A1 c0 c1 _ hp0 hj0 hfit hu).mono ?_
  rintro e wq ⟨rfl, hbq⟩
  rw [HE.out]
  clear hj0
  go_upto_region 5 with (fail)
  go_wp2
  go_loopw [18] (fun i wr => ∃ k : Nat, k ≤ ss.length ∧ i = .int .i64 k ∧ Hid (∀ j, j < k → ¬ sbad3 n ss j) ∧ Below W0.heap.size W0 wr) (fun i _ => ss.length - (intOf i).toNat)
  case atStart => exact ⟨0, Nat.zero_le _, rfl, Lib.hid (fun j h => absurd h (by omega)), hbq⟩
  case round =>
    clear hbq
    obtain ⟨k, hk, rfl, HB3, hb⟩ := hrel
    obtain ⟨hc, hf⟩ := bcell hb
    have hs2 : w.heap.size < wr.heap.size := by have := hb.size; omega
    have hs3 : w.heap.size + 1 < wr.heap.size := by have := hb.size; omega
    have hbw := hB0.trans (hb.mono hB0.size)
    obtain ⟨wo, rfl⟩ : ∃ wo : World, wo = wr := ⟨_, rfl⟩
    by_cases hlt : k < ss.length
    · obtain ⟨a0, rfl, y0, y1, y2, y3, E, g0, g1, g2, g3⟩ := signalK_at (Kn.C_below hbw hs) k hlt
      have i0 : (0 : Int) ≤ (k : Int) := Int.natCast_nonneg _
      have i1 : (k : Int) < (ss.length : Int) := by omega
      have hys : y0.size ≤ 9223372036854775807 := hsf.out _ (mem_of_get E.out)
      have hbx := hbw.alloc hbw.size (Obj.cells #[.string y0, .int .i64 y1, .int .i64 y2, .int .i64 y3] 70)
      by_cases q0 : nameP y0
      rotate_left
      · have D0 : Hid (pv (nameP y0) = false) := Lib.hid (pv_false q0)
        have HN : Hid (signalsOk n ss = ⟨3, k⟩) := Lib.hid (signalsOk_3 G.out B2.out hlt ⟨_, E.out, fun (h : signalP n ⟨y0, y1, y2, y3⟩) => q0 h.1⟩ HB3.out)
        clear q0
        go_wp2_with fail
        refine (l1name _ _ hys).mono ?_
        rintro e w1 ⟨rfl, rfl⟩
        rw [D0.out]
        go_wp2
        exact bodyPost_ret (v := .agg #[.int .i64 3, .int .i64 k]) (by simp [results, Tryz.results65, go_sem, hc, hs0, hs1, hs2, hs3, f2, f3]) rfl ⟨by rw [HN.out], by repeat' first | exact hbw | (refine below_drewN ?_ _) | (refine Below.alloc ?_ ?_ _) | (refine Below.setCell ?_ ?_ _) | omega | (simp; done) | (simp; omega)⟩
      have D0 : Hid (pv (nameP y0) = true) := Lib.hid (pv_true q0)
      by_cases q1 : 0 ≤ y1 ∧ y1 ≤ (n.pieces.length : Int) - 1
      rotate_left
      · have D1 : Hid (decide (0 ≤ y1 ∧ y1 ≤ (n.pieces.length : Int) - 1) = false) := Lib.hid (decide_eq_false q1)
        have HN : Hid (signalsOk n ss = ⟨3, k⟩) := Lib.hid (signalsOk_3 G.out B2.out hlt ⟨_, E.out, fun (h : signalP n ⟨y0, y1, y2, y3⟩) => q1 h.2.1⟩ HB3.out)
        clear q0 q1
        go_wp2_with fail
        refine (l1name _ _ hys).mono ?_
        rintro e w1 ⟨rfl, rfl⟩
        rw [D0.out]
        go_wp2_with fail
        refine (l1in _ _ _ _).mono ?_
        rintro e w1 ⟨rfl, rfl⟩
        rw [D1.out]
        go_wp2
        exact bodyPost_ret (v := .agg #[.int .i64 3, .int .i64 k]) (by simp [results, Tryz.results65, go_sem, hc, hs0, hs1, hs2, hs3, f2, f3]) rfl ⟨by rw [HN.out], by repeat' first | exact hbw | (refine below_drewN ?_ _) | (refine Below.alloc ?_ ?_ _) | (refine Below.setCell ?_ ?_ _) | omega | (simp; done) | (simp; omega)⟩
      have D1 : Hid (decide (0 ≤ y1 ∧ y1 ≤ (n.pieces.length : Int) - 1) = true) := Lib.hid (decide_eq_true q1)
      by_cases q2 : y3 = 1 ∨ y3 = -1
      rotate_left
      · have d2 : (y3 != 1) = true := int_ne (fun h => q2 (.inl h))
        have d3 : (y3 != -1) = true := int_ne (fun h => q2 (.inr h))
        have HN : Hid (signalsOk n ss = ⟨3, k⟩) := Lib.hid (signalsOk_3 G.out B2.out hlt ⟨_, E.out, fun (h : signalP n ⟨y0, y1, y2, y3⟩) => q2 h.2.2.1⟩ HB3.out)
        clear q0 q1 q2
        go_wp2_with fail
        refine (l1name _ _ hys).mono ?_
        rintro e w1 ⟨rfl, rfl⟩
        rw [D0.out]
        go_wp2_with fail
        refine (l1in _ _ _ _).mono ?_
        rintro e w1 ⟨rfl, rfl⟩
        rw [D1.out]
        go_wp2
        exact bodyPost_ret (v := .agg #[.int .i64 3, .int .i64 k]) (by simp [results, Tryz.results65, go_sem, hc, hs0, hs1, hs2, hs3, f2, f3]) rfl ⟨by rw [HN.out], by repeat' first | exact hbw | (refine below_drewN ?_ _) | (refine Below.alloc ?_ ?_ _) | (refine Below.setCell ?_ ?_ _) | omega | (simp; done) | (simp; omega)⟩
      obtain ⟨u, hu1, hu2⟩ : ∃ u : Nat, y1 = (u : Int) ∧ u < n.pieces.length := ⟨y1.toNat, by omega, by omega⟩
      obtain ⟨ap, rfl, z0, z1, z2, z3, EZ, p0, p1, p2, p3⟩ := pieceK_at (Kn.C_below hbx hp) u hu2
      obtain ⟨_, z1a, z1b, _⟩ := HP.out _ (mem_of_get EZ.out)
      simp only at z1a z1b
      have j0 : (0 : Int) ≤ (u : Int) := Int.natCast_nonneg _
      have j1 : (u : Int) < (n.pieces.length : Int) := by omega
      have SP : Hid (signalP n ⟨y0, y1, y2, y3⟩ ↔ (1 ≤ y2 ∧ y2 ≤ z1 - 1)) := Lib.hid ⟨fun h => by
          obtain ⟨p, h1, h2, h3⟩ := h.2.2.2
          simp only [hu1, Int.toNat_natCast] at h1
          rw [EZ.out] at h1
          obtain rfl := Option.some.inj h1
          exact ⟨h2, h3⟩, fun h => ⟨q0, q1, q2, _, by simp only [hu1, Int.toNat_natCast]; exact EZ.out, h.1, h.2⟩⟩
      have Q2 := Lib.hid q2
      clear q0 q1 q2
      subst hu1
      by_cases q4 : 1 ≤ y2 ∧ y2 ≤ z1 - 1
      rotate_left
      · have D4 : Hid (decide (1 ≤ y2 ∧ y2 ≤ z1 - 1) = false) := Lib.hid (decide_eq_false q4)
        have HN : Hid (signalsOk n ss = ⟨3, k⟩) := Lib.hid (signalsOk_3 G.out B2.out hlt ⟨_, E.out, fun h => q4 (SP.out.1 h)⟩ HB3.out)
        clear q4
        rcases Q2.out with q2 | q2
        · have d2 : (y3 != 1) = false := by rw [q2]; rfl
          clear q2
          go_wp2_with fail
          refine (l1name _ _ hys).mono ?_
          rintro e w1 ⟨rfl, rfl⟩
          rw [D0.out]
          go_wp2_with fail
          refine (l1in _ _ _ _).mono ?_
          rintro e w1 ⟨rfl, rfl⟩
          rw [D1.out]
          go_upto_region 10 with (fail)
          go_quiet ((go_at_call 66; exact Calls.quiet_of_same (l1in_q D4.out)))
          go_wp2
          exact bodyPost_ret (v := .agg #[.int .i64 3, .int .i64 k]) (by simp [results, Tryz.results65, go_sem, hc, hs0, hs1, hs2, hs3, f2, f3]) rfl ⟨by rw [HN.out], by repeat' first | exact hbw | (refine below_drewN ?_ _) | (refine Below.alloc ?_ ?_ _) | (refine Below.setCell ?_ ?_ _) | omega | (simp; done) | (simp; omega)⟩
        · have d2 : (y3 != 1) = true := by rw [q2]; rfl
          have d3 : (y3 != -1) = false := by rw [q2]; rfl
          clear q2
          go_wp2_with fail
          refine (l1name _ _ hys).mono ?_
          rintro e w1 ⟨rfl, rfl⟩
          rw [D0.out]
          go_wp2_with fail
          refine (l1in _ _ _ _).mono ?_
          rintro e w1 ⟨rfl, rfl⟩
          rw [D1.out]
          go_upto_region 10 with (fail)
          go_quiet ((go_at_call 66; exact Calls.quiet_of_same (l1in_q D4.out)))
          go_wp2
          exact bodyPost_ret (v := .agg #[.int .i64 3, .int .i64 k]) (by simp [results, Tryz.results65, go_sem, hc, hs0, hs1, hs2, hs3, f2, f3]) rfl ⟨by rw [HN.out], by repeat' first | exact hbw | (refine below_drewN ?_ _) | (refine Below.alloc ?_ ?_ _) | (refine Below.setCell ?_ ?_ _) | omega | (simp; done) | (simp; omega)⟩
      have D4 : Hid (decide (1 ≤ y2 ∧ y2 ≤ z1 - 1) = true) := Lib.hid (decide_eq_true q4)
      have HN := Lib.hid (none_snoc HB3.out (fun ⟨s, h1, h2⟩ => by
        rw [E.out] at h1
        obtain rfl := Option.some.inj h1
        exact h2 (SP.out.2 q4)))
      clear q4
      rcases Q2.out with q2 | q2
      · have d2 : (y3 != 1) = false := by rw [q2]; rfl
        clear q2
        go_wp2_with fail
        refine (l1name _ _ hys).mono ?_
        rintro e w1 ⟨rfl, rfl⟩
        rw [D0.out]
        go_wp2_with fail
        refine (l1in _ _ _ _).mono ?_
        rintro e w1 ⟨rfl, rfl⟩
        rw [D1.out]
        go_upto_region 10 with (fail)
        go_quiet ((go_at_call 66; exact Calls.quiet_of_same (l1in_q D4.out)))
        go_wp2
        go_roundw
        case rel => exact ⟨k + 1, by omega, by go_num, HN, below_drewN (hb.alloc hb.size _) _⟩
        case measure => simp [intOf]; omega
      · have d2 : (y3 != 1) = true := by rw [q2]; rfl
        have d3 : (y3 != -1) = false := by rw [q2]; rfl
        clear q2
        go_wp2_with fail
        refine (l1name _ _ hys).mono ?_
        rintro e w1 ⟨rfl, rfl⟩
        rw [D0.out]
        go_wp2_with fail
        refine (l1in _ _ _ _).mono ?_
        rintro e w1 ⟨rfl, rfl⟩
        rw [D1.out]
        go_upto_region 10 with (fail)
        go_quiet ((go_at_call 66; exact Calls.quiet_of_same (l1in_q D4.out)))
        go_wp2
        go_roundw
        case rel => exact ⟨k + 1, by omega, by go_num, HN, below_drewN (hb.alloc hb.size _) _⟩
        case measure => simp [intOf]; omega
    · have hge : ss.length ≤ k := by omega
      have HB3' : Hid (∀ j, j < ss.length → ¬ sbad3 n ss j) := Lib.hid (fun j h => HB3.out j (by omega))
      clear HB3 hc hf hs2 hs3 hbw
      go_wp2
      go_loopw [66] (fun i wr => ∃ k : Nat, k ≤ ss.length ∧ i = .int .i64 k ∧ Hid (∀ j, j < k → ¬ sbad4 ss j) ∧ Below W0.heap.size W0 wr) (fun i _ => ss.length - (intOf i).toNat)
      case atStart => exact ⟨0, Nat.zero_le _, rfl, Lib.hid (fun j h => absurd h (by omega)), hb⟩
      case round =>
        clear hk hge hb
        obtain ⟨k, hk, rfl, HB4, hb⟩ := hrel
        obtain ⟨hc, hf⟩ := bcell hb
        have hs2 : w.heap.size < wr.heap.size := by have := hb.size; omega
        have hs3 : w.heap.size + 1 < wr.heap.size := by have := hb.size; omega
        have hbw := hB0.trans (hb.mono hB0.size)
        by_cases hlt : k < ss.length
        · have i0 : (0 : Int) ≤ (k : Int) := Int.natCast_nonneg _
          have i1 : (k : Int) < (ss.length : Int) := by omega
          by_cases q : before ss k k
          · have HE : Hid (pv (before ss k k) = true) := Lib.hid (pv_true q)
            have HN : Hid (signalsOk n ss = ⟨4, k⟩) := Lib.hid (signalsOk_4 G.out B2.out HB3'.out hlt q HB4.out)
            clear q
            go_wp2_with fail
            refine (l1before ss A2 c2 k _ (Kn.C_below hbw hs) hlt).mono ?_
            rintro e w1 ⟨rfl, hb1⟩
            rw [HE.out]
            have hbj := hb.trans (hb1.mono hb.size)
            obtain ⟨hcj, hfj⟩ := bcell hbj
            have hs7 : w.heap.size < w1.heap.size := by have := hbj.size; omega
            have hs8 : w.heap.size + 1 < w1.heap.size := by have := hbj.size; omega
            have hbw2 := hB0.trans (hbj.mono hB0.size)
            go_wp2
            exact bodyPost_ret (v := .agg #[.int .i64 4, .int .i64 k]) (by simp [results, Tryz.results65, go_sem, hcj, hs0, hs1, hs7, hs8, f2, f3]) rfl ⟨by rw [HN.out], by repeat' first | exact hbw2 | (refine below_drewN ?_ _) | (refine Below.alloc ?_ ?_ _) | (refine Below.setCell ?_ ?_ _) | omega | (simp; done) | (simp; omega)⟩
          · have HE : Hid (pv (before ss k k) = false) := Lib.hid (pv_false q)
            have HN := Lib.hid (none_snoc HB4.out q)
            clear q
            go_wp2_with fail
            refine (l1before ss A2 c2 k _ (Kn.C_below hbw hs) hlt).mono ?_
            rintro e w1 ⟨rfl, hb1⟩
            rw [HE.out]
            go_wp2
            go_roundw
            case rel => exact ⟨k + 1, by omega, by go_num, HN, hb.trans (hb1.mono hb.size)⟩
            case measure => simp [intOf]; omega
        · have HN : Hid (signalsOk n ss = ⟨0, 0⟩) := Lib.hid (signalsOk_0 G.out B2.out HB3'.out (fun j h => HB4.out j (by omega)))
          go_wp2
          exact bodyPost_ret (v := .agg #[.int .i64 0, .int .i64 0]) (by simp [results, Tryz.results65, go_sem, hc, hs0, hs1, hs2, hs3, f2, f3]) rfl ⟨by rw [HN.out], by repeat' first | exact hbw | (refine below_drewN ?_ _) | (refine Below.alloc ?_ ?_ _) | (refine Below.setCell ?_ ?_ _) | omega | (simp; done) | (simp; omega)⟩
end Go.Proofs.YtpggopdojhodaaaGreatDoor.L
namespace Go.Proofs.YtpggopdojhodaaaGreatDoor.L
open Go.RowKit Go.MapKept Go.ChangeMaps Go.WideElems
open Go.WideMaps (KeyLaw)
set_option linter.unusedVariables false
def EM (P : Program) (k : TypeId) (w : World) (b n : Nat) (f : Value → Option Value) : Prop :=
  ∃ es clock, w.heap[b]? = some (.map es clock) ∧ Stamped es clock ∧ (∀ x ∈ es.toList, ∃ l, keyOf P k x.key = some l) ∧ (∀ x ∈ es.toList, f x.key = some x.val) ∧ (∀ key v, f key = some v → ∃ x ∈ es.toList, x.key = key) ∧ es.size ≤ n
noncomputable def upd (f : Value → Option Value) (key val : Value) : Value → Option Value := fun x => @ite _ (x = key) (Classical.propDecidable _) (some val) (f x)
theorem upd_same (f : Value → Option Value) (key val : Value) : upd f key val key = some val := by unfold upd; rw [if_pos rfl]
theorem upd_other (f : Value → Option Value) {key val x : Value} (h : ¬ x = key) : upd f key val x = f x := by unfold upd; rw [if_neg h]
section
variable {P : Program} {t k e : TypeId} {w : World} {b n : Nat} {f : Value → Option Value}
theorem EM.made (w : World) (P : Program) (k : TypeId) : EM P k (w.alloc (.map #[] 0)) w.heap.size 0 (fun _ => none) :=
  ⟨#[], 0, heap_alloc_new w _, stamped_empty 0, by simp, by simp, fun _ _ h => (by cases h), Nat.le_refl _⟩
theorem EM.lt (h : EM P k w b n f) : b < w.heap.size := by
  obtain ⟨es, clock, hb, _⟩ := h
  exact lt_of_get hb
theorem EM.move {w1 : World} (h : EM P k w b n f) (hm : w1.heap[b]? = w.heap[b]?) : EM P k w1 b n f := by
  obtain ⟨es, clock, hb, r⟩ := h
  exact ⟨es, clock, hm.trans hb, r⟩
theorem EM.below {w1 : World} (h : EM P k w b n f) (hb : Below w.heap.size w w1) : EM P k w1 b n f := h.move (hb.block b h.lt)
theorem EM.more (h : EM P k w b n f) : EM P k w b (n + 1) f := by
  obtain ⟨es, clock, hb, h1, h2, h3, h4, h5⟩ := h
  exact ⟨es, clock, hb, h1, h2, h3, h4, by omega⟩
theorem idx_of_two {l : List MapEntry} (h : (l.map (·.key)).Nodup) {i j : Nat} {x y : MapEntry} (hi : l[i]? = some x) (hj : l[j]? = some y) (he : x.key = y.key) : i = j := by
  induction l generalizing i j with
  | nil => simp at hi
  | cons a r ih =>
    rw [List.map_cons, List.nodup_cons] at h
    cases i with
    | zero =>
      cases j with
      | zero => rfl
      | succ j =>
        simp at hi hj
        subst hi
        exact absurd (List.mem_map.2 ⟨y, List.mem_of_getElem? hj, he.symm⟩) h.1
    | succ i =>
      cases j with
      | zero =>
        simp at hi hj
        subst hj
        exact absurd (List.mem_map.2 ⟨x, List.mem_of_getElem? hi, he⟩) h.1
      | succ j =>
        simp at hi hj
        rw [ih h.2 hi hj]
theorem EM.look (h : EM P k w b n f) (K : KeyLaw P k) (ht : P.underlying t = some (.map k e)) {z : Value} (hz : (zeroValue e).run P w = .ok z w) {key : Value} {kl : Lit} (hkey : keyOf P k key = some kl) :
    (Instr.lookup t (.map (some b)) key false).run P w = .ok ((f key).getD z) w := by
  obtain ⟨es, clock, hb, hst, hks, h1, h2, hs⟩ := h
  rcases K.find w hkey es.toList hks with ⟨r1, r2⟩ | ⟨j, e0, r1, r2, r3⟩
  · have hf : f key = none := by
      cases hfk : f key with
      | none => rfl
      | some v =>
        obtain ⟨x, hx, hxk⟩ := h2 key v hfk
        exact absurd hxk (r2 x hx)
    simp [Instr.lookup, run_underlying ht, MapKept.run_getObj_map hb, K.check w _ hkey, r1, hz, Result.andThen, hf]
  · have hf : f key = some e0.val := by rw [← r3]; exact h1 e0 (List.mem_of_getElem? r2)
    simp [Instr.lookup, run_underlying ht, MapKept.run_getObj_map hb, K.check w _ hkey, r1, Result.andThen, hf]
theorem grown_setBlock {es : Array MapEntry} {clock : Nat} (hb : w.heap[b]? = some (.map es clock)) (o' : Obj) : w.grownBy (setBlock w b o') (some b) := ⟨rfl, rfl, rfl, by simp [setBlock], fun i _ hi => heap_setBlock_other hb _ (fun e => hi (by rw [e]))⟩
section
variable {es : Array MapEntry} {clock : Nat}
def Tells (P : Program) (k : TypeId) (es : Array MapEntry) (clock : Nat) (f : Value → Option Value) : Prop :=
  Stamped es clock ∧ (∀ x ∈ es.toList, ∃ l, keyOf P k x.key = some l) ∧ (∀ x ∈ es.toList, f x.key = some x.val) ∧ (∀ key v, f key = some v → ∃ x ∈ es.toList, x.key = key)
theorem tells_push (h : Tells P k es clock f) {key val : Value} {l : Lit} (hkey : keyOf P k key = some l) (hne : ∀ x ∈ es.toList, x.key ≠ key) : Tells P k (es.push ⟨key, val, clock⟩) (clock + 1) (upd f key val) := by
  obtain ⟨hst, hks, h1, h2⟩ := h
  refine ⟨stamped_push hst hne, ?_, ?_, ?_⟩
  · intro x hx
    rw [Array.toList_push, List.mem_append, List.mem_singleton] at hx
    rcases hx with hx | rfl
    · exact hks x hx
    · exact ⟨l, hkey⟩
  · intro x hx
    rw [Array.toList_push, List.mem_append, List.mem_singleton] at hx
    rcases hx with hx | rfl
    · rw [upd_other f (hne x hx)]
      exact h1 x hx
    · exact upd_same f key val
  · intro key' v hv
    rw [Array.toList_push]
    by_cases hkk : key' = key
    · exact ⟨_, List.mem_append_right _ (List.mem_singleton.2 rfl), hkk.symm⟩
    · rw [upd_other f hkk] at hv
      obtain ⟨x, hx, hxk⟩ := h2 key' v hv
      exact ⟨x, List.mem_append_left _ hx, hxk⟩
theorem tells_set (h : Tells P k es clock f) {key val : Value} {j : Nat} {e0 : MapEntry} (hj : es.toList[j]? = some e0) (hk : e0.key = key) : Tells P k (es.modify j fun x => { x with key := key, val := val }) clock (upd f key val) := by
  obtain ⟨hst, hks, h1, h2⟩ := h
  have hnd := hst.2.2
  have hl : (es.modify j fun x => { x with key := key, val := val }).toList = es.toList.modify j (fun x => { x with key := key, val := val }) := by rw [Array.toList_modify]
  have hmem : ∀ x, x ∈ es.toList.modify j (fun x => { x with key := key, val := val }) → (x = ⟨key, val, e0.born⟩) ∨ (x ∈ es.toList ∧ ¬ x.key = key) := by
    intro x hx
    obtain ⟨i, hi⟩ := List.mem_iff_getElem?.1 hx
    rw [List.getElem?_modify] at hi
    by_cases hij : j = i
    · subst hij
      rw [hj] at hi
      simp only [if_true, Option.map_eq_map, Option.map_some, Option.some.injEq] at hi
      exact .inl hi.symm
    · simp only [if_neg hij] at hi
      replace hi : es.toList[i]? = some x := by simpa using hi
      refine .inr ⟨List.mem_of_getElem? hi, fun he => hij ?_⟩
      exact (idx_of_two hnd hi hj (he.trans hk.symm)).symm
  refine ⟨stamped_modify hst j _ (fun _ _ => rfl) (fun x hx hxj => ?_), ?_, ?_, ?_⟩
  · have : x = e0 := by
      have h3 : es.toList[j]? = some x := by simpa using hxj
      exact Option.some.inj (h3.symm.trans hj)
    rw [this, hk]
  · rw [hl]
    intro x hx
    rcases hmem x hx with rfl | ⟨hx, _⟩
    · obtain ⟨l, hl⟩ := hks e0 (List.mem_of_getElem? hj)
      exact ⟨l, by rw [hk] at hl; exact hl⟩
    · exact hks x hx
  · rw [hl]
    intro x hx
    rcases hmem x hx with rfl | ⟨hx, hne⟩
    · exact upd_same f key val
    · rw [upd_other f hne]
      exact h1 x hx
  · rw [hl]
    intro key' v hv
    by_cases hkk : key' = key
    · refine ⟨⟨key, val, e0.born⟩, List.mem_of_getElem? (i := j) ?_, hkk.symm⟩
      rw [List.getElem?_modify, hj]
      simp
    · rw [upd_other f hkk] at hv
      obtain ⟨x, hx, hxk⟩ := h2 key' v hv
      obtain ⟨i, hi⟩ := List.mem_iff_getElem?.1 hx
      have hij : ¬ j = i := fun he => by
        subst he
        rw [hj] at hi
        obtain rfl := Option.some.inj hi
        exact hkk (hxk.symm.trans hk)
      exact ⟨x, List.mem_of_getElem? (i := i) (by rw [List.getElem?_modify]; simp only [if_neg hij]; simpa using hi), hxk⟩
end
theorem EM.tells {es : Array MapEntry} {clock : Nat} (hb : w.heap[b]? = some (.map es clock)) (h : Tells P k es clock f) (hs : es.size ≤ n) : EM P k w b n f := ⟨es, clock, hb, h.1, h.2.1, h.2.2.1, h.2.2.2, hs⟩
theorem EM.store (h : EM P k w b n f) (K : KeyLaw P k) (ht : P.underlying t = some (.map k e)) {key : Value} {kl : Lit} (hkey : keyOf P k key = some kl) (val : Value) :
    ∃ w1, (Instr.mapUpdate t (.map (some b)) key val).run P w = .ok () w1 ∧ EM P k w1 b (n + 1) (upd f key val) ∧ w.grownBy w1 (some b) := by
  obtain ⟨es, clock, hb, hst, hks, h1, h2, hs⟩ := h
  rcases K.find w hkey es.toList hks with ⟨r1, r2⟩ | ⟨j, e0, r1, r2, r3⟩
  · refine ⟨setBlock w b (.map (es.push ⟨key, val, clock⟩) (clock + 1)), ?_, EM.tells (heap_setBlock_same hb _) (tells_push ⟨hst, hks, h1, h2⟩ hkey r2) (by simp; omega), grown_setBlock hb _⟩
    simp [Instr.mapUpdate, run_underlying ht, MapKept.run_getObj_map hb, K.check w false hkey, r1, MapKept.run_setObj_map _ hb, Result.andThen, setBlock]
  · have hj : es[j]? = some e0 := by simpa using r2
    refine ⟨setBlock w b (.map (es.modify j fun x => { x with key := key, val := val }) clock), ?_, EM.tells (heap_setBlock_same hb _) (tells_set ⟨hst, hks, h1, h2⟩ r2 r3) (by simp; omega), grown_setBlock hb _⟩
    simp [Instr.mapUpdate, run_underlying ht, MapKept.run_getObj_map hb, K.check w false hkey, r1, hj, r3, K.stays w hkey, MapKept.run_setObj_map _ hb, Result.andThen, setBlock]
theorem findIdx_last {es : Array MapEntry} {clock : Nat} (hst : Stamped es clock) (key z : Value) : (es.push ⟨key, z, clock⟩).findIdx? (fun e => ((e.born : Nat) : Int) == ((clock : Nat) : Int)) = some es.size := by
  rw [findIdx_arr]
  exact findIdx_born (l := (es.push ⟨key, z, clock⟩).toList) (j := es.size) (e0 := ⟨key, z, clock⟩) (by
    simp only [Array.toList_push, List.map_append, List.map_cons, List.map_nil]
    refine List.nodup_append.2 ⟨hst.2.1, by simp, fun a ha c hc e1 => ?_⟩
    simp only [List.mem_singleton] at hc
    obtain ⟨x, hx, rfl⟩ := List.mem_map.1 ha
    have := hst.1 x hx
    omega) (by simp)
theorem EM.entry (h : EM P k w b n f) (K : KeyLaw P k) (ht : P.underlying t = some (.map k e)) {z : Value} (hz : ∀ u : World, (zeroValue e).run P u = .ok z u) {key : Value} {kl : Lit} (hkey : keyOf P k key = some kl) (val : Value) :
    ∃ w1 st, (Instr.mapEntry t (.map (some b)) key).run P w = .ok (.tuple #[(f key).getD z, goInt st]) w1 ∧ w.grownBy w1 (some b) ∧ w1.heap.size = w.heap.size ∧
      (Instr.lookup t (.map (some b)) key false).run P w1 = .ok ((f key).getD z) w1 ∧
      ∃ w2, (Instr.entryStore t (.map (some b)) (goInt st) val).run P w1 = .ok () w2 ∧ EM P k w2 b (n + 1) (upd f key val) ∧ w.grownBy w2 (some b) := by
  obtain ⟨es, clock, hb, hst, hks, h1, h2, hs⟩ := h
  rcases K.find w hkey es.toList hks with ⟨r1, r2⟩ | ⟨j, e0, r1, r2, r3⟩
  · have hf : f key = none := by
      cases hfk : f key with
      | none => rfl
      | some v =>
        obtain ⟨x, hx, hxk⟩ := h2 key v hfk
        exact absurd hxk (r2 x hx)
    have T1 := tells_push ⟨hst, hks, h1, h2⟩ hkey r2 (val := z)
    have hb1 := heap_setBlock_same hb (.map (es.push ⟨key, z, clock⟩) (clock + 1))
    have E1 : EM P k (setBlock w b (.map (es.push ⟨key, z, clock⟩) (clock + 1))) b (n + 1) (upd f key z) := EM.tells hb1 T1 (by simp; omega)
    have hidx := findIdx_last hst key z
    have hat : (es.push ⟨key, z, clock⟩).toList[es.size]? = some ⟨key, z, clock⟩ := by simp
    have T2 := tells_push ⟨hst, hks, h1, h2⟩ hkey r2 (val := val)
    have hmod : (es.push ⟨key, z, clock⟩).modify es.size (fun e => { e with val := val }) = es.push ⟨key, val, clock⟩ := by
      apply Array.ext'
      rw [Array.toList_modify, Array.toList_push, Array.toList_push, ← Array.length_toList, modify_last]
    refine ⟨setBlock w b (.map (es.push ⟨key, z, clock⟩) (clock + 1)), clock, ?_, grown_setBlock hb _, by simp [setBlock], ?_, setBlock (setBlock w b (.map (es.push ⟨key, z, clock⟩) (clock + 1))) b (.map (es.push ⟨key, val, clock⟩) (clock + 1)), ?_, EM.tells (heap_setBlock_same hb1 _) T2 (by simp; omega), World.grownBy.trans (grown_setBlock hb _) (grown_setBlock hb1 _)⟩
    · simp [Instr.mapEntry, run_underlying ht, MapKept.run_getObj_map hb, K.check w false hkey, r1, hz, hf, MapKept.run_setObj_map _ hb, Result.andThen, setBlock]
    · have := E1.look K ht (hz _) hkey
      rw [upd_same] at this
      rw [hf]
      exact this
    · generalize setBlock w b _ = W1 at hb1 ⊢
      simp [Instr.entryStore, MapKept.run_getObj_map hb1, asInt, asIntOf, goInt, hidx, hmod, MapKept.run_setObj_map _ hb1, Result.andThen, setBlock]
  · have hj : es[j]? = some e0 := by simpa using r2
    have hf : f key = some e0.val := by rw [← r3]; exact h1 e0 (List.mem_of_getElem? r2)
    have hsame : es.modify j (fun e => { e with key := key }) = es := by
      apply Array.ext'
      rw [Array.toList_modify, modify_eq_set _ _ _ _ r2]
      have : ({ e0 with key := key } : MapEntry) = e0 := by rw [← r3]
      rw [this]
      exact set_self _ _ _ r2
    have hidx : es.findIdx? (fun e => ((e.born : Nat) : Int) == ((e0.born : Nat) : Int)) = some j := by
      rw [findIdx_arr]
      exact findIdx_born hst.2.1 r2
    have hmod : es.modify j (fun e => { e with val := val }) = es.modify j (fun e' => { e' with key := key, val := val }) := by
      apply Array.ext'
      rw [Array.toList_modify, Array.toList_modify, modify_eq_set _ _ _ _ r2, modify_eq_set _ _ _ _ r2, ← r3]
    have T2 := tells_set ⟨hst, hks, h1, h2⟩ r2 r3 (val := val)
    have hb1 := heap_setBlock_same hb (.map es clock)
    refine ⟨setBlock w b (.map es clock), e0.born, ?_, grown_setBlock hb _, by simp [setBlock], ?_, setBlock (setBlock w b (.map es clock)) b (.map (es.modify j fun x => { x with key := key, val := val }) clock), ?_, EM.tells (heap_setBlock_same hb1 _) T2 (by simp; omega), World.grownBy.trans (grown_setBlock hb _) (grown_setBlock hb1 _)⟩
    · simp [Instr.mapEntry, run_underlying ht, MapKept.run_getObj_map hb, K.check w false hkey, r1, hj, r3, hf, K.stays w hkey, hsame, MapKept.run_setObj_map _ hb, Result.andThen, setBlock]
    · exact EM.look (n := n) (EM.tells hb1 ⟨hst, hks, h1, h2⟩ hs) K ht (hz _) hkey
    · generalize setBlock w b _ = W1 at hb1 ⊢
      simp [Instr.entryStore, MapKept.run_getObj_map hb1, asInt, asIntOf, goInt, hidx, hmod, MapKept.run_setObj_map _ hb1, Result.andThen, setBlock]
end
end Go.Proofs.YtpggopdojhodaaaGreatDoor.L
namespace Go.Proofs.YtpggopdojhodaaaGreatDoor.L
open Go.RowKit
set_option linter.unusedVariables false
set_option linter.unusedSimpArgs false
theorem netLaid : laidOutB Tryz.prog = true := by kernel_rfl
theorem lawStr : WideMaps.KeyLaw Tryz.prog 9 := WideMaps.string_law Tryz.underlying9
theorem lawEnd : WideMaps.KeyLaw Tryz.prog 177 := deep_law_laid netLaid (m := 2) (by omega) (of_decide_eq_true (by kernel_rfl)) (by kernel_rfl) (by kernel_rfl)
theorem zeroBool (w : World) : (zeroValue 4).run Tryz.prog w = .ok (.bool false) w := by kernel_rfl
theorem zeroInt (w : World) : (zeroValue 3).run Tryz.prog w = .ok (.int .i64 0) w := by kernel_rfl
theorem keyStr {s : ByteArray} (hs : s.size ≤ 9223372036854775807) : keyOf Tryz.prog 9 (.string s) = some (.string s.data.toList) := WideMaps.keyOf_string_mk Tryz.underlying9 hs
theorem keyEnd (a b : Int) (wa : (Lit.int .i64 a).wf = true) (wb : (Lit.int .i64 b).wf = true) : ∃ l, keyOf Tryz.prog 177 (.agg #[.int .i64 a, .int .i64 b]) = some l := by
  have hk : Tryz.prog.keyType 177 = true := by kernel_rfl
  obtain ⟨m, hm⟩ : ∃ m, Tryz.prog.types.size = m + 1 + 1 := ⟨Tryz.prog.types.size - 2, by kernel_rfl⟩
  have hc : Tryz.prog.cellsOf 177 = 2 := by kernel_rfl
  have hc3 : Tryz.prog.cellsOf 3 = 1 := by kernel_rfl
  have hl : Tryz.prog.keyLits (Tryz.prog.types.size + 1) 177 [.int .i64 a, .int .i64 b] = some [.int .i64 a, .int .i64 b] := by
    simp [Program.keyLits, hm, Tryz.underlying177, Tryz.underlying3, hc, hc3, wa, wb]
  have hf : (Value.agg #[.int .i64 a, .int .i64 b]).formed Tryz.prog 177 = true := by
    simp [Value.formed, Tryz.underlying177, hc]
  exact ⟨.string (keyBytes [.int .i64 a, .int .i64 b]), by
    unfold keyOf
    rw [Tryz.underlying177]
    simp [hk, hf, Value.cells]
    exact ⟨_, by simpa using hl, rfl⟩⟩
noncomputable def nameSet (ns : List ByteArray) : Value → Option Value := fun v => @ite _ (∃ s, s ∈ ns ∧ v = .string s) (Classical.propDecidable _) (some (.bool true)) none
theorem nameSet_nil : nameSet [] = fun _ => none := by
  funext v
  unfold nameSet
  rw [if_neg (fun ⟨s, h, _⟩ => by cases h)]
theorem nameSet_at (ns : List ByteArray) (s : ByteArray) : (nameSet ns (.string s)).getD (.bool false) = .bool (pv (s ∈ ns)) := by
  unfold nameSet
  by_cases h : s ∈ ns
  · rw [if_pos ⟨s, h, rfl⟩, pv_true h]
    rfl
  · rw [if_neg (fun ⟨t, ht, he⟩ => h (by injection he with he; rw [he]; exact ht)), pv_false h]
    rfl
theorem nameSet_snoc (ns : List ByteArray) (s : ByteArray) : upd (nameSet ns) (.string s) (.bool true) = nameSet (ns ++ [s]) := by
  funext v
  by_cases h : v = .string s
  · subst h
    rw [upd_same]
    unfold nameSet
    rw [if_pos ⟨s, List.mem_append_right _ (List.mem_singleton.2 rfl), rfl⟩]
  · rw [upd_other _ h]
    unfold nameSet
    by_cases h2 : ∃ t, t ∈ ns ∧ v = .string t
    · obtain ⟨t, h3, h4⟩ := h2
      rw [if_pos ⟨t, h3, h4⟩, if_pos ⟨t, List.mem_append_left _ h3, h4⟩]
    · rw [if_neg h2, if_neg (fun ⟨t, h3, h4⟩ => by
        rcases List.mem_append.1 h3 with h3 | h3
        · exact h2 ⟨t, h3, h4⟩
        · rw [List.mem_singleton.1 h3] at h4
          exact h h4)]
noncomputable def cntF (g : End → Nat) : Value → Option Value := fun v => @dite _ (∃ e : End, v = e.v ∧ g e ≠ 0) (Classical.propDecidable _) (fun h => some (.int .i64 (g h.choose))) (fun _ => none)
theorem endv_inj {x y : End} (h : x.v = y.v) : x = y := by
  obtain ⟨a, b⟩ := x
  obtain ⟨c, d⟩ := y
  simp at h
  rw [h.1, h.2]
theorem cntF_pos {g : End → Nat} {e : End} (h : g e ≠ 0) : cntF g e.v = some (.int .i64 (g e)) := by
  unfold cntF
  have hx : ∃ x : End, e.v = x.v ∧ g x ≠ 0 := ⟨e, rfl, h⟩
  rw [dif_pos hx]
  rw [← endv_inj hx.choose_spec.1]
theorem cntF_zero {g : End → Nat} {e : End} (h : g e = 0) : cntF g e.v = none := by
  unfold cntF
  rw [dif_neg (fun ⟨x, h1, h2⟩ => h2 (by rw [← endv_inj h1]; exact h))]
theorem cntF_at (g : End → Nat) (e : End) : (cntF g e.v).getD (.int .i64 0) = .int .i64 (g e) := by
  by_cases h : g e = 0
  · rw [cntF_zero h, h]
    rfl
  · rw [cntF_pos h]
    rfl
theorem cntF_nil : cntF (fun _ => 0) = fun _ => none := by
  funext v
  unfold cntF
  rw [dif_neg (fun ⟨x, _, h⟩ => h rfl)]
theorem cntF_snoc (g g' : End → Nat) (e : End) (h1 : g' e = g e + 1) (h2 : ∀ x, ¬ x = e → g' x = g x) : upd (cntF g) e.v (.int .i64 (g e + 1 : Nat)) = cntF g' := by
  funext v
  by_cases h : v = e.v
  · subst h
    rw [upd_same, cntF_pos (by omega), h1]
  · rw [upd_other _ h]
    by_cases hv : ∃ x : End, v = x.v
    · obtain ⟨x, rfl⟩ := hv
      have hx : ¬ x = e := fun he => h (by rw [he])
      have := h2 x hx
      by_cases h0 : g x = 0
      · rw [cntF_zero h0, cntF_zero (by omega)]
      · rw [cntF_pos h0, cntF_pos (by omega), this]
    · unfold cntF
      rw [dif_neg (fun ⟨x, hx, _⟩ => hv ⟨x, hx⟩), dif_neg (fun ⟨x, hx, _⟩ => hv ⟨x, hx⟩)]
end Go.Proofs.YtpggopdojhodaaaGreatDoor.L
