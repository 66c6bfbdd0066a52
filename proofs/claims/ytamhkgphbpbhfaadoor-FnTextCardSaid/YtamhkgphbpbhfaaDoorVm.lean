/- The row FnText: its arguments opened; the walk (Derived.Test.YtamhkgphbpbhfaaDoorLText) in the row's frame. -/
import Derived.Test.YtamhkgphbpbhfaaDoorVl
import Derived.Lib.AppendStr
import Derived.Shelf.Strings.Builder1
import Derived.Shelf.Strconv.Itoa0
import Derived.Shelf.Strconv.Itoa1
import Derived.Shelf.LaysM
import Derived.Shelf.Strconv.Itoa2
import Derived.Shelf.Strconv.Itoa3
import Derived.Shelf.Slices.Equal
import Derived.Ground.Names2Prog
import Derived.Shelf.Slices.Clone
import Derived.Ground.SlgnProg
import Derived.Shelf.SlicesE.Clone
import Derived.Test.YtamhkgphbpbhfaaDoorProg
import Derived.Lib.OthersKept
import Derived.Lib.ItoaMem
import Derived.Lib.AppendIntMem
import Derived.Handed
import Derived.LaidLaws
import Derived.LaidHandle
import Derived.Stop.Joined
import Derived.Stop.LaidErr
import Derived.Lib.LaidTab
namespace Go.Proofs.YtamhkgphbpbhfaaDoor.L
open Go.RowKit
set_option linter.unusedVariables false
set_option linter.unusedSimpArgs false
noncomputable def sameF (a b : Route) : Int :=
  if eqv a.frm b.frm && eqv a.til b.til && eqv a.steps b.steps then
    if eqv a.lies b.lies && eqv a.crosses b.crosses then
      if eqv a.parts b.parts && eqv a.over b.over then
        if eqv a.flanks b.flanks then 0 else 4
      else 3
    else 2
  else 1
theorem sameF_zero {a b : Route} : sameF a b = 0 ↔ a = b := by
  obtain ⟨a0, a1, a2, a3, a4, a5, a6, a7⟩ := a
  obtain ⟨b0, b1, b2, b3, b4, b5, b6, b7⟩ := b
  refine ⟨fun h => ?_, fun h => ?_⟩
  · unfold sameF at h
    simp only at h
    split at h
    · rename_i h1
      split at h
      · rename_i h2
        split at h
        · rename_i h3
          split at h
          · rename_i h4
            simp only [Bool.and_eq_true] at h1 h2 h3
            rw [of_eqv h1.1.1, of_eqv h1.1.2, of_eqv h1.2, of_eqv h2.1, of_eqv h2.2, of_eqv h3.1, of_eqv h3.2, of_eqv h4]
          · omega
        · omega
      · omega
    · omega
  · rw [h]
    simp [sameF, eqv_self]
theorem sameF_range (a b : Route) : 0 ≤ sameF a b ∧ sameF a b ≤ 4 := by
  unfold sameF
  split
  · split
    · split
      · split <;> omega
      · omega
    · omega
  · omega
noncomputable def partsF (a b : Route) : Int := if sameF a b = 0 then 0 else sameF a b + 2
theorem partsF_zero {a b : Route} : partsF a b = 0 ↔ a = b := by
  have := sameF_range a b
  unfold partsF
  split
  · rename_i h
    exact ⟨fun _ => sameF_zero.1 h, fun _ => rfl⟩
  · rename_i h
    exact ⟨fun e => by omega, fun e => absurd (sameF_zero.2 e) h⟩
theorem part_alloc1 (w : World) (o : Obj) : (w.alloc o).heap.size = w.heap.size + 1 := by simp
theorem neq_f {a b : Int} (h : a = b) : (a != b) = false := by simp [h]
set_option maxRecDepth 100000 in
set_option maxHeartbeats 8000000 in
theorem implParts {ok ok' : Nat → Prop} (a b : Route) (A2 A3 A4 A5 A6 A7 : Option Addr) (c2 c3 c4 c5 c6 c7 : Nat) (B2 B3 B4 B5 B6 B7 : Option Addr) (d2 d3 d4 d5 d6 d7 : Nat) (w : World) (h : RC w ok a A2 A3 A4 A5 A6 A7) (h' : RC w ok' b B2 B3 B4 B5 B6 B7) :
    Calls Tryd.prog 40 #[.agg #[.int .i64 a.frm, .int .i64 a.til, .slice A2 a.steps.length c2, .slice A3 a.lies.length c3, .slice A4 a.crosses.length c4, .slice A5 a.parts.length c5, .slice A6 a.over.length c6, .slice A7 a.flanks.length c7], .agg #[.int .i64 b.frm, .int .i64 b.til, .slice B2 b.steps.length d2, .slice B3 b.lies.length d3, .slice B4 b.crosses.length d4, .slice B5 b.parts.length d5, .slice B6 b.over.length d6, .slice B7 b.flanks.length d7]] w (RetI (partsF a b) w) := by
  obtain ⟨W0, hW0, hB0, HA, HB, HC, HD⟩ : ∃ W, W = (w.alloc (.cells #[.int .i64 a.frm, .int .i64 a.til, .slice A2 a.steps.length c2, .slice A3 a.lies.length c3, .slice A4 a.crosses.length c4, .slice A5 a.parts.length c5, .slice A6 a.over.length c6, .slice A7 a.flanks.length c7] 56)).alloc (.cells #[.int .i64 b.frm, .int .i64 b.til, .slice B2 b.steps.length d2, .slice B3 b.lies.length d3, .slice B4 b.crosses.length d4, .slice B5 b.parts.length d5, .slice B6 b.over.length d6, .slice B7 b.flanks.length d7] 56) ∧ Below w.heap.size w W ∧ Hid (Blk W w.heap.size 56 [.int .i64 a.frm, .int .i64 a.til, .slice A2 a.steps.length c2, .slice A3 a.lies.length c3, .slice A4 a.crosses.length c4, .slice A5 a.parts.length c5, .slice A6 a.over.length c6, .slice A7 a.flanks.length c7]) ∧ Hid (Blk W (w.heap.size + 1) 56 [.int .i64 b.frm, .int .i64 b.til, .slice B2 b.steps.length d2, .slice B3 b.lies.length d3, .slice B4 b.crosses.length d4, .slice B5 b.parts.length d5, .slice B6 b.over.length d6, .slice B7 b.flanks.length d7]) ∧ Hid (RC W ok a A2 A3 A4 A5 A6 A7) ∧ Hid (RC W ok' b B2 B3 B4 B5 B6 B7) := by
    have h1 := below_alloc w (.cells #[.int .i64 a.frm, .int .i64 a.til, .slice A2 a.steps.length c2, .slice A3 a.lies.length c3, .slice A4 a.crosses.length c4, .slice A5 a.parts.length c5, .slice A6 a.over.length c6, .slice A7 a.flanks.length c7] 56)
    have h2 : Below w.heap.size w ((w.alloc (.cells #[.int .i64 a.frm, .int .i64 a.til, .slice A2 a.steps.length c2, .slice A3 a.lies.length c3, .slice A4 a.crosses.length c4, .slice A5 a.parts.length c5, .slice A6 a.over.length c6, .slice A7 a.flanks.length c7] 56)).alloc (.cells #[.int .i64 b.frm, .int .i64 b.til, .slice B2 b.steps.length d2, .slice B3 b.lies.length d3, .slice B4 b.crosses.length d4, .slice B5 b.parts.length d5, .slice B6 b.over.length d6, .slice B7 b.flanks.length d7] 56)) := h1.alloc h1.size _
    exact ⟨_, rfl, h2, Lib.hid ((Blk.new w 56 [.int .i64 a.frm, .int .i64 a.til, .slice A2 a.steps.length c2, .slice A3 a.lies.length c3, .slice A4 a.crosses.length c4, .slice A5 a.parts.length c5, .slice A6 a.over.length c6, .slice A7 a.flanks.length c7] rfl).alloc _), Lib.hid (Blk.new _ _ _ (part_alloc1 _ _).symm), Lib.hid (h.below h2), Lib.hid (h'.below h2)⟩
  have hlen : True := trivial
  have m2 := h.h2.1
  have n2 := h'.h2.1
  have m3 := h.h3.1
  have n3 := h'.h3.1
  have m4 := h.h4.1
  have n4 := h'.h4.1
  have m5 := h.h5.1
  have n5 := h'.h5.1
  have m6 := h.h6.1
  have n6 := h'.h6.1
  have m7 := h.h7.1
  have n7 := h'.h7.1
  clear h h'
  by_cases e0 : a.frm = b.frm
  rotate_left
  · have d0 : (a.frm == b.frm) = false := int_eqf e0
    have d1 : (a.frm != b.frm) = true := neq_t e0
    have HN : Hid (partsF a b = 3) := Lib.hid (by have := eqv_false e0; simp [partsF, sameF, this])
    clear e0
    go_enter Tryd.func40, Tryd.ntmps40
    go_wp2
    go_ret
    exact ⟨by rw [HN.out]; rfl, by rw [← hW0]; exact hB0⟩
  have HE0 : Hid (eqv a.frm b.frm = true) := Lib.hid (eqv_true e0)
  have p0 : (a.frm == b.frm) = true := by rw [e0]; exact beq_self_eq_true _
  have r0 : (a.frm != b.frm) = false := neq_f e0
  clear e0
  by_cases e1 : a.til = b.til
  rotate_left
  · have d0 : (a.til == b.til) = false := int_eqf e1
    have d1 : (a.til != b.til) = true := neq_t e1
    have HN : Hid (partsF a b = 3) := Lib.hid (by have := eqv_false e1; simp [partsF, sameF, this])
    clear e1
    go_enter Tryd.func40, Tryd.ntmps40
    go_wp2
    go_ret
    exact ⟨by rw [HN.out]; rfl, by rw [← hW0]; exact hB0⟩
  have HE1 : Hid (eqv a.til b.til = true) := Lib.hid (eqv_true e1)
  have p1 : (a.til == b.til) = true := by rw [e1]; exact beq_self_eq_true _
  have r1 : (a.til != b.til) = false := neq_f e1
  clear e1
  go_enter Tryd.func40, Tryd.ntmps40
  go_wp2_with fail
  rw [← hW0]
  clear hW0
  refine (equalStep A2 B2 c2 d2 a.steps b.steps _ HC.out.h2 HD.out.h2).mono ?_
  rintro e w1 ⟨rfl, hb⟩
  have BW : Hid (Below w.heap.size w W0) := Lib.hid hB0
  clear hB0
  have HA := Lib.hid (HA.out.below hb HA.out.lt)
  have HB := Lib.hid (HB.out.below hb HB.out.lt)
  have HC := Lib.hid (HC.out.below hb)
  have HD := Lib.hid (HD.out.below hb)
  have BW := Lib.hid (BW.out.trans (hb.mono BW.out.size))
  have za : w.heap.size < w1.heap.size := HA.out.lt
  have zb : w.heap.size + 1 < w1.heap.size := HB.out.lt
  clear hb
  by_cases hE : a.steps = b.steps
  rotate_left
  · rw [eqv_false hE]
    have HN : Hid (partsF a b = 3) := Lib.hid (by have := eqv_false hE; simp [partsF, sameF, this, HE0.out, HE1.out])
    clear hE
    go_wp2
    go_ret
    exact ⟨by rw [HN.out]; rfl, BW.out⟩
  rw [eqv_true hE]
  have HE2 : Hid (eqv a.steps b.steps = true) := Lib.hid (eqv_true hE)
  clear hE
  have x3 := HA.out.cell 3 rfl
  have y3 := HB.out.cell 3 rfl
  go_wp2_with fail
  refine (equalLie A3 B3 c3 d3 a.lies b.lies _ HC.out.h3 HD.out.h3).mono ?_
  rintro e w2 ⟨rfl, hb⟩
  clear x3 y3
  have HA := Lib.hid (HA.out.below hb HA.out.lt)
  have HB := Lib.hid (HB.out.below hb HB.out.lt)
  have HC := Lib.hid (HC.out.below hb)
  have HD := Lib.hid (HD.out.below hb)
  have BW := Lib.hid (BW.out.trans (hb.mono BW.out.size))
  have za : w.heap.size < w2.heap.size := HA.out.lt
  have zb : w.heap.size + 1 < w2.heap.size := HB.out.lt
  clear hb
  by_cases hE : a.lies = b.lies
  rotate_left
  · rw [eqv_false hE]
    have HN : Hid (partsF a b = 4) := Lib.hid (by have := eqv_false hE; simp [partsF, sameF, this, HE0.out, HE1.out, HE2.out])
    clear hE
    go_wp2
    go_ret
    exact ⟨by rw [HN.out]; rfl, BW.out⟩
  rw [eqv_true hE]
  have HE3 : Hid (eqv a.lies b.lies = true) := Lib.hid (eqv_true hE)
  clear hE
  have x4 := HA.out.cell 4 rfl
  have y4 := HB.out.cell 4 rfl
  go_wp2_with fail
  refine (equalInt A4 B4 c4 d4 a.crosses b.crosses _ HC.out.h4 HD.out.h4).mono ?_
  rintro e w3 ⟨rfl, hb⟩
  clear x4 y4
  have HA := Lib.hid (HA.out.below hb HA.out.lt)
  have HB := Lib.hid (HB.out.below hb HB.out.lt)
  have HC := Lib.hid (HC.out.below hb)
  have HD := Lib.hid (HD.out.below hb)
  have BW := Lib.hid (BW.out.trans (hb.mono BW.out.size))
  have za : w.heap.size < w3.heap.size := HA.out.lt
  have zb : w.heap.size + 1 < w3.heap.size := HB.out.lt
  clear hb
  by_cases hE : a.crosses = b.crosses
  rotate_left
  · rw [eqv_false hE]
    have HN : Hid (partsF a b = 4) := Lib.hid (by have := eqv_false hE; simp [partsF, sameF, this, HE0.out, HE1.out, HE2.out, HE3.out])
    clear hE
    go_wp2
    go_ret
    exact ⟨by rw [HN.out]; rfl, BW.out⟩
  rw [eqv_true hE]
  have HE4 : Hid (eqv a.crosses b.crosses = true) := Lib.hid (eqv_true hE)
  clear hE
  have x5 := HA.out.cell 5 rfl
  have y5 := HB.out.cell 5 rfl
  go_wp2_with fail
  refine (equalPart A5 B5 c5 d5 a.parts b.parts _ HC.out.h5 HD.out.h5).mono ?_
  rintro e w4 ⟨rfl, hb⟩
  clear x5 y5
  have HA := Lib.hid (HA.out.below hb HA.out.lt)
  have HB := Lib.hid (HB.out.below hb HB.out.lt)
  have HC := Lib.hid (HC.out.below hb)
  have HD := Lib.hid (HD.out.below hb)
  have BW := Lib.hid (BW.out.trans (hb.mono BW.out.size))
  have za : w.heap.size < w4.heap.size := HA.out.lt
  have zb : w.heap.size + 1 < w4.heap.size := HB.out.lt
  clear hb
  by_cases hE : a.parts = b.parts
  rotate_left
  · rw [eqv_false hE]
    have HN : Hid (partsF a b = 5) := Lib.hid (by have := eqv_false hE; simp [partsF, sameF, this, HE0.out, HE1.out, HE2.out, HE3.out, HE4.out])
    clear hE
    go_wp2
    go_ret
    exact ⟨by rw [HN.out]; rfl, BW.out⟩
  rw [eqv_true hE]
  have HE5 : Hid (eqv a.parts b.parts = true) := Lib.hid (eqv_true hE)
  clear hE
  have x6 := HA.out.cell 6 rfl
  have y6 := HB.out.cell 6 rfl
  go_wp2_with fail
  refine (equalPart A6 B6 c6 d6 a.over b.over _ HC.out.h6 HD.out.h6).mono ?_
  rintro e w5 ⟨rfl, hb⟩
  clear x6 y6
  have HA := Lib.hid (HA.out.below hb HA.out.lt)
  have HB := Lib.hid (HB.out.below hb HB.out.lt)
  have HC := Lib.hid (HC.out.below hb)
  have HD := Lib.hid (HD.out.below hb)
  have BW := Lib.hid (BW.out.trans (hb.mono BW.out.size))
  have za : w.heap.size < w5.heap.size := HA.out.lt
  have zb : w.heap.size + 1 < w5.heap.size := HB.out.lt
  clear hb
  by_cases hE : a.over = b.over
  rotate_left
  · rw [eqv_false hE]
    have HN : Hid (partsF a b = 5) := Lib.hid (by have := eqv_false hE; simp [partsF, sameF, this, HE0.out, HE1.out, HE2.out, HE3.out, HE4.out, HE5.out])
    clear hE
    go_wp2
    go_ret
    exact ⟨by rw [HN.out]; rfl, BW.out⟩
  rw [eqv_true hE]
  have HE6 : Hid (eqv a.over b.over = true) := Lib.hid (eqv_true hE)
  clear hE
  have x7 := HA.out.cell 7 rfl
  have y7 := HB.out.cell 7 rfl
  go_wp2_with fail
  refine (equalFlank A7 B7 c7 d7 a.flanks b.flanks _ HC.out.h7 HD.out.h7).mono ?_
  rintro e w6 ⟨rfl, hb⟩
  clear x7 y7
  have HA := Lib.hid (HA.out.below hb HA.out.lt)
  have HB := Lib.hid (HB.out.below hb HB.out.lt)
  have HC := Lib.hid (HC.out.below hb)
  have HD := Lib.hid (HD.out.below hb)
  have BW := Lib.hid (BW.out.trans (hb.mono BW.out.size))
  have za : w.heap.size < w6.heap.size := HA.out.lt
  have zb : w.heap.size + 1 < w6.heap.size := HB.out.lt
  clear hb
  by_cases hE : a.flanks = b.flanks
  rotate_left
  · rw [eqv_false hE]
    have HN : Hid (partsF a b = 6) := Lib.hid (by have := eqv_false hE; simp [partsF, sameF, this, HE0.out, HE1.out, HE2.out, HE3.out, HE4.out, HE5.out, HE6.out])
    clear hE
    go_wp2
    go_ret
    exact ⟨by rw [HN.out]; rfl, BW.out⟩
  rw [eqv_true hE]
  have HE7 : Hid (eqv a.flanks b.flanks = true) := Lib.hid (eqv_true hE)
  clear hE
  have HN : Hid (partsF a b = 0) := Lib.hid (by simp [partsF, sameF, HE0.out, HE1.out, HE2.out, HE3.out, HE4.out, HE5.out, HE6.out, HE7.out])
  go_wp2
  go_ret
  exact ⟨by rw [HN.out]; rfl, BW.out⟩
set_option maxRecDepth 100000 in
set_option maxHeartbeats 8000000 in
theorem specSame {ok ok' : Nat → Prop} (a b : Route) (A2 A3 A4 A5 A6 A7 : Option Addr) (c2 c3 c4 c5 c6 c7 : Nat) (B2 B3 B4 B5 B6 B7 : Option Addr) (d2 d3 d4 d5 d6 d7 : Nat) (w : World) (h : RC w ok a A2 A3 A4 A5 A6 A7) (h' : RC w ok' b B2 B3 B4 B5 B6 B7) :
    Calls Tryd.prog 43 #[.agg #[.int .i64 a.frm, .int .i64 a.til, .slice A2 a.steps.length c2, .slice A3 a.lies.length c3, .slice A4 a.crosses.length c4, .slice A5 a.parts.length c5, .slice A6 a.over.length c6, .slice A7 a.flanks.length c7], .agg #[.int .i64 b.frm, .int .i64 b.til, .slice B2 b.steps.length d2, .slice B3 b.lies.length d3, .slice B4 b.crosses.length d4, .slice B5 b.parts.length d5, .slice B6 b.over.length d6, .slice B7 b.flanks.length d7]] w (RetI (sameF a b) w) := by
  obtain ⟨W0, hW0, hB0, HA, HB, HC, HD⟩ : ∃ W, W = (w.alloc (.cells #[.int .i64 a.frm, .int .i64 a.til, .slice A2 a.steps.length c2, .slice A3 a.lies.length c3, .slice A4 a.crosses.length c4, .slice A5 a.parts.length c5, .slice A6 a.over.length c6, .slice A7 a.flanks.length c7] 56)).alloc (.cells #[.int .i64 b.frm, .int .i64 b.til, .slice B2 b.steps.length d2, .slice B3 b.lies.length d3, .slice B4 b.crosses.length d4, .slice B5 b.parts.length d5, .slice B6 b.over.length d6, .slice B7 b.flanks.length d7] 56) ∧ Below w.heap.size w W ∧ Hid (Blk W w.heap.size 56 [.int .i64 a.frm, .int .i64 a.til, .slice A2 a.steps.length c2, .slice A3 a.lies.length c3, .slice A4 a.crosses.length c4, .slice A5 a.parts.length c5, .slice A6 a.over.length c6, .slice A7 a.flanks.length c7]) ∧ Hid (Blk W (w.heap.size + 1) 56 [.int .i64 b.frm, .int .i64 b.til, .slice B2 b.steps.length d2, .slice B3 b.lies.length d3, .slice B4 b.crosses.length d4, .slice B5 b.parts.length d5, .slice B6 b.over.length d6, .slice B7 b.flanks.length d7]) ∧ Hid (RC W ok a A2 A3 A4 A5 A6 A7) ∧ Hid (RC W ok' b B2 B3 B4 B5 B6 B7) := by
    have h1 := below_alloc w (.cells #[.int .i64 a.frm, .int .i64 a.til, .slice A2 a.steps.length c2, .slice A3 a.lies.length c3, .slice A4 a.crosses.length c4, .slice A5 a.parts.length c5, .slice A6 a.over.length c6, .slice A7 a.flanks.length c7] 56)
    have h2 : Below w.heap.size w ((w.alloc (.cells #[.int .i64 a.frm, .int .i64 a.til, .slice A2 a.steps.length c2, .slice A3 a.lies.length c3, .slice A4 a.crosses.length c4, .slice A5 a.parts.length c5, .slice A6 a.over.length c6, .slice A7 a.flanks.length c7] 56)).alloc (.cells #[.int .i64 b.frm, .int .i64 b.til, .slice B2 b.steps.length d2, .slice B3 b.lies.length d3, .slice B4 b.crosses.length d4, .slice B5 b.parts.length d5, .slice B6 b.over.length d6, .slice B7 b.flanks.length d7] 56)) := h1.alloc h1.size _
    exact ⟨_, rfl, h2, Lib.hid ((Blk.new w 56 [.int .i64 a.frm, .int .i64 a.til, .slice A2 a.steps.length c2, .slice A3 a.lies.length c3, .slice A4 a.crosses.length c4, .slice A5 a.parts.length c5, .slice A6 a.over.length c6, .slice A7 a.flanks.length c7] rfl).alloc _), Lib.hid (Blk.new _ _ _ (part_alloc1 _ _).symm), Lib.hid (h.below h2), Lib.hid (h'.below h2)⟩
  have hlen : True := trivial
  have m2 := h.h2.1
  have n2 := h'.h2.1
  have m3 := h.h3.1
  have n3 := h'.h3.1
  have m4 := h.h4.1
  have n4 := h'.h4.1
  have m5 := h.h5.1
  have n5 := h'.h5.1
  have m6 := h.h6.1
  have n6 := h'.h6.1
  have m7 := h.h7.1
  have n7 := h'.h7.1
  clear h h'
  by_cases e0 : a.frm = b.frm
  rotate_left
  · have d0 : (a.frm == b.frm) = false := int_eqf e0
    have d1 : (a.frm != b.frm) = true := neq_t e0
    have HN : Hid (sameF a b = 1) := Lib.hid (by have := eqv_false e0; simp [sameF, this])
    clear e0
    go_enter Tryd.func43, Tryd.ntmps43
    go_wp2
    go_ret
    exact ⟨by rw [HN.out]; rfl, by rw [← hW0]; exact hB0⟩
  have HE0 : Hid (eqv a.frm b.frm = true) := Lib.hid (eqv_true e0)
  have p0 : (a.frm == b.frm) = true := by rw [e0]; exact beq_self_eq_true _
  have r0 : (a.frm != b.frm) = false := neq_f e0
  clear e0
  by_cases e1 : a.til = b.til
  rotate_left
  · have d0 : (a.til == b.til) = false := int_eqf e1
    have d1 : (a.til != b.til) = true := neq_t e1
    have HN : Hid (sameF a b = 1) := Lib.hid (by have := eqv_false e1; simp [sameF, this])
    clear e1
    go_enter Tryd.func43, Tryd.ntmps43
    go_wp2
    go_ret
    exact ⟨by rw [HN.out]; rfl, by rw [← hW0]; exact hB0⟩
  have HE1 : Hid (eqv a.til b.til = true) := Lib.hid (eqv_true e1)
  have p1 : (a.til == b.til) = true := by rw [e1]; exact beq_self_eq_true _
  have r1 : (a.til != b.til) = false := neq_f e1
  clear e1
  go_enter Tryd.func43, Tryd.ntmps43
  go_wp2_with fail
  rw [← hW0]
  clear hW0
  refine (l3steps A2 B2 c2 d2 a.steps b.steps _ HC.out.h2 HD.out.h2).mono ?_
  rintro e w1 ⟨rfl, hb⟩
  have BW : Hid (Below w.heap.size w W0) := Lib.hid hB0
  clear hB0
  have HA := Lib.hid (HA.out.below hb HA.out.lt)
  have HB := Lib.hid (HB.out.below hb HB.out.lt)
  have HC := Lib.hid (HC.out.below hb)
  have HD := Lib.hid (HD.out.below hb)
  have BW := Lib.hid (BW.out.trans (hb.mono BW.out.size))
  have za : w.heap.size < w1.heap.size := HA.out.lt
  have zb : w.heap.size + 1 < w1.heap.size := HB.out.lt
  clear hb
  by_cases hE : a.steps = b.steps
  rotate_left
  · rw [eqv_false hE]
    have HN : Hid (sameF a b = 1) := Lib.hid (by have := eqv_false hE; simp [sameF, this, HE0.out, HE1.out])
    clear hE
    go_wp2
    go_ret
    exact ⟨by rw [HN.out]; rfl, BW.out⟩
  rw [eqv_true hE]
  have HE2 : Hid (eqv a.steps b.steps = true) := Lib.hid (eqv_true hE)
  clear hE
  have x3 := HA.out.cell 3 rfl
  have y3 := HB.out.cell 3 rfl
  have x4 := HA.out.cell 4 rfl
  have y4 := HB.out.cell 4 rfl
  by_cases hl3 : a.lies.length = b.lies.length
  rotate_left
  · have g0 := len_ne hl3
    have HN : Hid (sameF a b = 2) := Lib.hid (by have := eqv_false (fun h => hl3 (congrArg List.length h)); simp [sameF, this, HE0.out, HE1.out, HE2.out])
    clear hl3
    go_wp2
    go_ret
    exact ⟨by rw [HN.out]; rfl, BW.out⟩
  have g3 := len_eq hl3
  have HL3 := Lib.hid hl3
  clear hl3
  by_cases hl4 : a.crosses.length = b.crosses.length
  rotate_left
  · have g0 := len_ne hl4
    have HN : Hid (sameF a b = 2) := Lib.hid (by have := eqv_false (fun h => hl4 (congrArg List.length h)); simp [sameF, this, HE0.out, HE1.out, HE2.out])
    clear hl4
    go_wp2
    go_ret
    exact ⟨by rw [HN.out]; rfl, BW.out⟩
  have g4 := len_eq hl4
  have HL4 := Lib.hid hl4
  clear hl4
  go_wp2
  clear x3 y3 x4 y4
  go_loopw [47] (fun iv wr => ∃ k : Nat, k ≤ a.lies.length ∧ iv = .int .i64 k ∧ Hid (a.lies.take k = b.lies.take k) ∧ Hid (Below w1.heap.size w1 wr)) (fun iv _ => a.lies.length - (intOf iv).toNat)
  case atStart => exact ⟨0, Nat.zero_le _, rfl, Lib.hid rfl, Lib.hid (Below.refl _ _)⟩
  case round =>
  obtain ⟨k, hk, rfl, HT, HBr⟩ := hrel
  have HAr := Lib.hid (HA.out.below HBr.out HA.out.lt)
  have HBb := Lib.hid (HB.out.below HBr.out HB.out.lt)
  have HCr := Lib.hid (HC.out.below HBr.out)
  have HDr := Lib.hid (HD.out.below HBr.out)
  have BWr := Lib.hid (BW.out.trans (HBr.out.mono BW.out.size))
  have za : w.heap.size < wr.heap.size := HAr.out.lt
  have zb : w.heap.size + 1 < wr.heap.size := HBb.out.lt
  by_cases hlt : k < a.lies.length
  · have i0 : (0 : Int) ≤ (k : Int) := Int.natCast_nonneg _
    have i1 : (k : Int) < (a.lies.length : Int) := by omega
    have i2 : (k : Int) < (b.lies.length : Int) := by have := HL3.out; omega
    have x3 := HAr.out.cell 3 rfl
    have y3 := HBb.out.cell 3 rfl
    obtain ⟨s0, rfl, p0, p1, E0, gp0, gp1⟩ := lieK_at HCr.out.h3 k hlt
    have x3 := HAr.out.cell 3 rfl
    obtain ⟨s1, rfl, q0, q1, E1, gq0, gq1⟩ := lieK_at HDr.out.h3 k (HL3.out ▸ hlt)
    have x3 := HAr.out.cell 3 rfl
    have y3 := HBb.out.cell 3 rfl
    by_cases e0 : p0 = q0
    rotate_left
    · have t0 : (p0 == q0) = false := int_eqf e0
      have t1 : (p0 != q0) = true := neq_t e0
      have HN : Hid (sameF a b = 2) := Lib.hid (by have := eqv_false (take_ne E0.out E1.out (fun h => e0 (by injection h))); simp [sameF, this, HE0.out, HE1.out, HE2.out])
      clear e0 HT
      go_wp2
      go_quiet (fail)
      go_wp2
      go_ret
      exact ⟨by rw [HN.out]; rfl, below_drewN BWr.out _⟩
    subst e0
    by_cases e1 : p1 = q1
    rotate_left
    · have t0 : (p1 == q1) = false := int_eqf e1
      have t1 : (p1 != q1) = true := neq_t e1
      have HN : Hid (sameF a b = 2) := Lib.hid (by have := eqv_false (take_ne E0.out E1.out (fun h => e1 (by injection h))); simp [sameF, this, HE0.out, HE1.out, HE2.out])
      clear e1 HT
      go_wp2
      go_quiet (fail)
      go_wp2
      go_ret
      exact ⟨by rw [HN.out]; rfl, below_drewN BWr.out _⟩
    subst e1
    have HN : Hid (a.lies.take (k + 1) = b.lies.take (k + 1)) := Lib.hid (take_eq_snoc HT.out E0.out E1.out)
    clear HT
    go_wp2
    go_quiet (fail)
    go_wp2
    go_roundw
    case rel => exact ⟨k + 1, by omega, by go_num, HN, Lib.hid (below_drewN HBr.out _)⟩
    case measure => simp [intOf]; omega
  obtain rfl : k = a.lies.length := by omega
  have HE3 : Hid (eqv a.lies b.lies = true) := Lib.hid (eqv_true (by have := HT.out; rw [List.take_length, HL3.out, List.take_length] at this; exact this))
  obtain ⟨w2, rfl⟩ : ∃ W, W = wr := ⟨_, rfl⟩
  have HA := HAr
  have HB := HBb
  have HC := HCr
  have HD := HDr
  have BW := BWr
  clear HAr HBb HCr HDr BWr HT HBr hlt
  have x4 := HA.out.cell 4 rfl
  have y4 := HB.out.cell 4 rfl
  go_wp2
  clear x4 y4
  go_loopw [65] (fun iv wr => ∃ k : Nat, k ≤ a.crosses.length ∧ iv = .int .i64 k ∧ Hid (a.crosses.take k = b.crosses.take k) ∧ Hid (Below w2.heap.size w2 wr)) (fun iv _ => a.crosses.length - (intOf iv).toNat)
  case atStart => exact ⟨0, Nat.zero_le _, rfl, Lib.hid rfl, Lib.hid (Below.refl _ _)⟩
  case round =>
  obtain ⟨k, hk, rfl, HT, HBr⟩ := hrel
  have HAr := Lib.hid (HA.out.below HBr.out HA.out.lt)
  have HBb := Lib.hid (HB.out.below HBr.out HB.out.lt)
  have HCr := Lib.hid (HC.out.below HBr.out)
  have HDr := Lib.hid (HD.out.below HBr.out)
  have BWr := Lib.hid (BW.out.trans (HBr.out.mono BW.out.size))
  have za : w.heap.size < wr.heap.size := HAr.out.lt
  have zb : w.heap.size + 1 < wr.heap.size := HBb.out.lt
  by_cases hlt : k < a.crosses.length
  · have i0 : (0 : Int) ≤ (k : Int) := Int.natCast_nonneg _
    have i1 : (k : Int) < (a.crosses.length : Int) := by omega
    have i2 : (k : Int) < (b.crosses.length : Int) := by have := HL4.out; omega
    have x4 := HAr.out.cell 4 rfl
    have y4 := HBb.out.cell 4 rfl
    obtain ⟨s0, rfl, p0, E0, gp0⟩ := int_at HCr.out.h4 k hlt
    have x4 := HAr.out.cell 4 rfl
    obtain ⟨s1, rfl, q0, E1, gq0⟩ := int_at HDr.out.h4 k (HL4.out ▸ hlt)
    have x4 := HAr.out.cell 4 rfl
    have y4 := HBb.out.cell 4 rfl
    by_cases e0 : p0 = q0
    rotate_left
    · have t0 : (p0 == q0) = false := int_eqf e0
      have t1 : (p0 != q0) = true := neq_t e0
      have HN : Hid (sameF a b = 2) := Lib.hid (by have := eqv_false (take_ne E0.out E1.out (fun h => e0 h)); simp [sameF, this, HE0.out, HE1.out, HE2.out, HE3.out])
      clear e0 HT
      go_wp2
      go_quiet (fail)
      go_wp2
      go_ret
      exact ⟨by rw [HN.out]; rfl, below_drewN BWr.out _⟩
    subst e0
    have HN : Hid (a.crosses.take (k + 1) = b.crosses.take (k + 1)) := Lib.hid (take_eq_snoc HT.out E0.out E1.out)
    clear HT
    go_wp2
    go_quiet (fail)
    go_wp2
    go_roundw
    case rel => exact ⟨k + 1, by omega, by go_num, HN, Lib.hid (below_drewN HBr.out _)⟩
    case measure => simp [intOf]; omega
  obtain rfl : k = a.crosses.length := by omega
  have HE4 : Hid (eqv a.crosses b.crosses = true) := Lib.hid (eqv_true (by have := HT.out; rw [List.take_length, HL4.out, List.take_length] at this; exact this))
  obtain ⟨w3, rfl⟩ : ∃ W, W = wr := ⟨_, rfl⟩
  have HA := HAr
  have HB := HBb
  have HC := HCr
  have HD := HDr
  have BW := BWr
  clear HAr HBb HCr HDr BWr HT HBr hlt
  have x5 := HA.out.cell 5 rfl
  have y5 := HB.out.cell 5 rfl
  go_wp2_with fail
  refine (l3parts A5 B5 c5 d5 a.parts b.parts _ HC.out.h5 HD.out.h5).mono ?_
  rintro e w4 ⟨rfl, hb⟩
  clear x5 y5
  have HA := Lib.hid (HA.out.below hb HA.out.lt)
  have HB := Lib.hid (HB.out.below hb HB.out.lt)
  have HC := Lib.hid (HC.out.below hb)
  have HD := Lib.hid (HD.out.below hb)
  have BW := Lib.hid (BW.out.trans (hb.mono BW.out.size))
  have za : w.heap.size < w4.heap.size := HA.out.lt
  have zb : w.heap.size + 1 < w4.heap.size := HB.out.lt
  clear hb
  by_cases hE : a.parts = b.parts
  rotate_left
  · rw [eqv_false hE]
    have HN : Hid (sameF a b = 3) := Lib.hid (by have := eqv_false hE; simp [sameF, this, HE0.out, HE1.out, HE2.out, HE3.out, HE4.out])
    clear hE
    go_wp2
    go_ret
    exact ⟨by rw [HN.out]; rfl, BW.out⟩
  rw [eqv_true hE]
  have HE5 : Hid (eqv a.parts b.parts = true) := Lib.hid (eqv_true hE)
  clear hE
  have x6 := HA.out.cell 6 rfl
  have y6 := HB.out.cell 6 rfl
  go_wp2_with fail
  refine (l3parts A6 B6 c6 d6 a.over b.over _ HC.out.h6 HD.out.h6).mono ?_
  rintro e w5 ⟨rfl, hb⟩
  clear x6 y6
  have HA := Lib.hid (HA.out.below hb HA.out.lt)
  have HB := Lib.hid (HB.out.below hb HB.out.lt)
  have HC := Lib.hid (HC.out.below hb)
  have HD := Lib.hid (HD.out.below hb)
  have BW := Lib.hid (BW.out.trans (hb.mono BW.out.size))
  have za : w.heap.size < w5.heap.size := HA.out.lt
  have zb : w.heap.size + 1 < w5.heap.size := HB.out.lt
  clear hb
  by_cases hE : a.over = b.over
  rotate_left
  · rw [eqv_false hE]
    have HN : Hid (sameF a b = 3) := Lib.hid (by have := eqv_false hE; simp [sameF, this, HE0.out, HE1.out, HE2.out, HE3.out, HE4.out, HE5.out])
    clear hE
    go_wp2
    go_ret
    exact ⟨by rw [HN.out]; rfl, BW.out⟩
  rw [eqv_true hE]
  have HE6 : Hid (eqv a.over b.over = true) := Lib.hid (eqv_true hE)
  clear hE
  have x7 := HA.out.cell 7 rfl
  have y7 := HB.out.cell 7 rfl
  by_cases hl7 : a.flanks.length = b.flanks.length
  rotate_left
  · have g0 := len_ne hl7
    have HN : Hid (sameF a b = 4) := Lib.hid (by have := eqv_false (fun h => hl7 (congrArg List.length h)); simp [sameF, this, HE0.out, HE1.out, HE2.out, HE3.out, HE4.out, HE5.out, HE6.out])
    clear hl7
    go_wp2
    go_ret
    exact ⟨by rw [HN.out]; rfl, BW.out⟩
  have g7 := len_eq hl7
  have HL7 := Lib.hid hl7
  clear hl7
  go_wp2
  clear x7 y7
  go_loopw [104] (fun iv wr => ∃ k : Nat, k ≤ a.flanks.length ∧ iv = .int .i64 k ∧ Hid (a.flanks.take k = b.flanks.take k) ∧ Hid (Below w5.heap.size w5 wr)) (fun iv _ => a.flanks.length - (intOf iv).toNat)
  case atStart => exact ⟨0, Nat.zero_le _, rfl, Lib.hid rfl, Lib.hid (Below.refl _ _)⟩
  case round =>
  obtain ⟨k, hk, rfl, HT, HBr⟩ := hrel
  have HAr := Lib.hid (HA.out.below HBr.out HA.out.lt)
  have HBb := Lib.hid (HB.out.below HBr.out HB.out.lt)
  have HCr := Lib.hid (HC.out.below HBr.out)
  have HDr := Lib.hid (HD.out.below HBr.out)
  have BWr := Lib.hid (BW.out.trans (HBr.out.mono BW.out.size))
  have za : w.heap.size < wr.heap.size := HAr.out.lt
  have zb : w.heap.size + 1 < wr.heap.size := HBb.out.lt
  by_cases hlt : k < a.flanks.length
  · have i0 : (0 : Int) ≤ (k : Int) := Int.natCast_nonneg _
    have i1 : (k : Int) < (a.flanks.length : Int) := by omega
    have i2 : (k : Int) < (b.flanks.length : Int) := by have := HL7.out; omega
    have x7 := HAr.out.cell 7 rfl
    have y7 := HBb.out.cell 7 rfl
    obtain ⟨s0, rfl, p0, p1, p2, p3, E0, gp0, gp1, gp2, gp3⟩ := flankK_at HCr.out.h7 k hlt
    have x7 := HAr.out.cell 7 rfl
    obtain ⟨s1, rfl, q0, q1, q2, q3, E1, gq0, gq1, gq2, gq3⟩ := flankK_at HDr.out.h7 k (HL7.out ▸ hlt)
    have x7 := HAr.out.cell 7 rfl
    have y7 := HBb.out.cell 7 rfl
    by_cases e0 : p0 = q0
    rotate_left
    · have t0 : (p0 == q0) = false := int_eqf e0
      have t1 : (p0 != q0) = true := neq_t e0
      have HN : Hid (sameF a b = 4) := Lib.hid (by have := eqv_false (take_ne E0.out E1.out (fun h => e0 (by injection h))); simp [sameF, this, HE0.out, HE1.out, HE2.out, HE3.out, HE4.out, HE5.out, HE6.out])
      clear e0 HT
      go_wp2
      go_quiet (fail)
      go_wp2
      go_ret
      exact ⟨by rw [HN.out]; rfl, below_drewN BWr.out _⟩
    subst e0
    by_cases e1 : p1 = q1
    rotate_left
    · have t0 : (p1 == q1) = false := int_eqf e1
      have t1 : (p1 != q1) = true := neq_t e1
      have HN : Hid (sameF a b = 4) := Lib.hid (by have := eqv_false (take_ne E0.out E1.out (fun h => e1 (by injection h))); simp [sameF, this, HE0.out, HE1.out, HE2.out, HE3.out, HE4.out, HE5.out, HE6.out])
      clear e1 HT
      go_wp2
      go_quiet (fail)
      go_wp2
      go_ret
      exact ⟨by rw [HN.out]; rfl, below_drewN BWr.out _⟩
    subst e1
    by_cases e2 : p2 = q2
    rotate_left
    · have t0 : (p2 == q2) = false := int_eqf e2
      have t1 : (p2 != q2) = true := neq_t e2
      have HN : Hid (sameF a b = 4) := Lib.hid (by have := eqv_false (take_ne E0.out E1.out (fun h => e2 (by injection h))); simp [sameF, this, HE0.out, HE1.out, HE2.out, HE3.out, HE4.out, HE5.out, HE6.out])
      clear e2 HT
      go_wp2
      go_quiet (fail)
      go_wp2
      go_ret
      exact ⟨by rw [HN.out]; rfl, below_drewN BWr.out _⟩
    subst e2
    by_cases e3 : p3 = q3
    rotate_left
    · have t0 : (p3 == q3) = false := int_eqf e3
      have t1 : (p3 != q3) = true := neq_t e3
      have HN : Hid (sameF a b = 4) := Lib.hid (by have := eqv_false (take_ne E0.out E1.out (fun h => e3 (by injection h))); simp [sameF, this, HE0.out, HE1.out, HE2.out, HE3.out, HE4.out, HE5.out, HE6.out])
      clear e3 HT
      go_wp2
      go_quiet (fail)
      go_wp2
      go_ret
      exact ⟨by rw [HN.out]; rfl, below_drewN BWr.out _⟩
    subst e3
    have HN : Hid (a.flanks.take (k + 1) = b.flanks.take (k + 1)) := Lib.hid (take_eq_snoc HT.out E0.out E1.out)
    clear HT
    go_wp2
    go_quiet (fail)
    go_wp2
    go_roundw
    case rel => exact ⟨k + 1, by omega, by go_num, HN, Lib.hid (below_drewN HBr.out _)⟩
    case measure => simp [intOf]; omega
  obtain rfl : k = a.flanks.length := by omega
  have HE7 : Hid (eqv a.flanks b.flanks = true) := Lib.hid (eqv_true (by have := HT.out; rw [List.take_length, HL7.out, List.take_length] at this; exact this))
  obtain ⟨w6, rfl⟩ : ∃ W, W = wr := ⟨_, rfl⟩
  have HA := HAr
  have HB := HBb
  have HC := HCr
  have HD := HDr
  have BW := BWr
  clear HAr HBb HCr HDr BWr HT HBr hlt
  have HN : Hid (sameF a b = 0) := Lib.hid (by simp [sameF, HE0.out, HE1.out, HE2.out, HE3.out, HE4.out, HE5.out, HE6.out, HE7.out])
  go_wp2
  go_ret
  exact ⟨by rw [HN.out]; rfl, BW.out⟩
end Go.Proofs.YtamhkgphbpbhfaaDoor.L
namespace Go.Proofs.YtamhkgphbpbhfaaDoor.L
open Go.RowKit
open Classical
set_option linter.unusedVariables false
set_option linter.unusedSimpArgs false
theorem RetRR.Ct {rs : List Route} {w w' : World} {e : Ending} (h : RetRR rs w e w') : ∃ A c, e = .returned (.slice A rs.length c) ∧ rs.length ≤ c ∧ Hid (rK.C w' (fun _ => True) A rs) ∧ Below w.heap.size w w' := by
  obtain ⟨A, c, rfl, hl, hR, _, hb⟩ := h
  exact ⟨A, c, rfl, hl, Lib.hid (Kn.C_mono (fun _ _ => trivial) (Rw_slice hR.out).2.2), hb⟩
def bare (r : Route) : Route := { r with over := [] }
def listedF (n : Net) (ss : List Signal) (gs : List Route) : Prop := signalsOk n ss = ⟨0, 0⟩ ∧ gs.length ≤ 300 ∧ ∀ r ∈ gs, bare r ∈ routesF n ss 0
theorem bare_of {n : Net} {ss : List Signal} {r : Route} (h : r ∈ routesF n ss 0) : bare r = r := by
  obtain ⟨hr, _, _, hrt⟩ := routesF_rt h
  have : r.over = [] := List.eq_nil_of_length_eq_zero (by have := hrt.overN; omega)
  obtain ⟨a0, a1, a2, a3, a4, a5, a6, a7⟩ := r
  unfold bare
  simp only at this ⊢
  rw [this]
theorem inTo_here {α : Type} {xs : List α} {k : Nat} {x : α} (hx : xs[k]? = some x) : inTo xs (k + 1) x := ⟨k, Nat.lt_succ_self k, hx⟩
theorem inTo_up {α : Type} {xs : List α} {k : Nat} {x : α} (h : inTo xs k x) : inTo xs (k + 1) x := by
  obtain ⟨i, hi, hx⟩ := h
  exact ⟨i, by omega, hx⟩
theorem inTo_mem {α : Type} {xs : List α} {k : Nat} {x : α} (h : inTo xs k x) : x ∈ xs := by
  obtain ⟨i, hi, hx⟩ := h
  exact List.mem_of_getElem? hx
theorem RC.bare {w : World} {ok : Nat → Prop} {x : Route} {A2 A3 A4 A5 A6 A7 : Option Addr} (h : RC w ok x A2 A3 A4 A5 A6 A7) : RC w ok (bare x) A2 A3 A4 A5 none A7 := ⟨h.h2, h.h3, h.h4, h.h5, Kn.C_nil, h.h7⟩
set_option maxRecDepth 100000 in
set_option maxHeartbeats 8000000 in
theorem specListed {ok ok' ok2 : Nat → Prop} (n : Net) (ss : List Signal) (gs : List Route) (A0 A1 A2 A3 : Option Addr) (c0 c1 c2 c3 : Nat) (w : World) (h : NC 95 w ok n A0 A1) (hs : signalK.C w ok' A2 ss) (hc : ss.length ≤ c2) (hg : rK.C w ok2 A3 gs) (hn : NetIn n) (hi : SigIn ss) {b : Bool} (hbb : Hid (pv (listedF n ss gs) = b)) :
    Calls Tryd.prog 21 #[.agg #[.slice A0 n.pieces.length c0, .slice A1 n.joints.length c1], .slice A2 ss.length c2, .slice A3 gs.length c3] w (RetB b w) := by
  have hgm := hg.1
  have hb0 : Below w.heap.size w (w.alloc (.cells #[.slice A0 n.pieces.length c0, .slice A1 n.joints.length c1] 26)) := below_alloc _ _
  by_cases hk : signalsOk n ss = ⟨0, 0⟩
  rotate_left
  · have HB : Hid (eqv (signalsOk n ss) ⟨0, 0⟩ = false) := Lib.hid (eqv_false hk)
    obtain rfl : false = b := by rw [← hbb.out]; exact (pv_false (fun e => hk e.1)).symm
    clear hk hbb
    go_enter Tryd.func21, Tryd.ntmps21
    go_wp2_with (go_at_call 12; refine (l1all n ss A0 A1 A2 c0 c1 c2 _ (h.below hb0) (Kn.C_below hb0 hs) hn hi HB).mono ?_; rintro e w1 ⟨rfl, hb1⟩)
    go_ret
    exact ⟨rfl, hb0.trans (hb1.mono (by simp))⟩
  have HB : Hid (eqv (signalsOk n ss) ⟨0, 0⟩ = true) := Lib.hid (eqv_true hk)
  by_cases hl : 300 < gs.length
  · obtain rfl : false = b := by rw [← hbb.out]; exact (pv_false (fun e => by have := e.2.1; omega)).symm
    clear hk hbb
    go_enter Tryd.func21, Tryd.ntmps21
    go_wp2_with (go_at_call 12; refine (l1all n ss A0 A1 A2 c0 c1 c2 _ (h.below hb0) (Kn.C_below hb0 hs) hn hi HB).mono ?_; rintro e w1 ⟨rfl, hb1⟩)
    go_ret
    exact ⟨rfl, hb0.trans (hb1.mono (by simp))⟩
  have hl2 : gs.length ≤ 300 := by omega
  have HS : Hid (signalsOk n ss = ⟨0, 0⟩) := Lib.hid hk
  have Hh := Lib.hid (h : NC 95 w ok n A0 A1)
  have Hs := Lib.hid hs
  have Hg := Lib.hid hg
  have HN := Lib.hid (h.below hb0)
  have HSS := Lib.hid (Kn.C_below hb0 hs)
  obtain ⟨W0, hW0, hB0, f0, f1, hz0⟩ : ∃ W, W = w.alloc (.cells #[.slice A0 n.pieces.length c0, .slice A1 n.joints.length c1] 26) ∧ Below w.heap.size w W ∧ Hid (W.cell? ⟨w.heap.size, 0, none⟩ = some (.slice A0 n.pieces.length c0)) ∧ Hid (W.cell? ⟨w.heap.size, 1, none⟩ = some (.slice A1 n.joints.length c1)) ∧ Hid (w.heap.size < W.heap.size) := ⟨_, rfl, hb0, Lib.hid (by simp), Lib.hid (by simp), Lib.hid (by simp)⟩
  rw [← hW0] at HN HSS
  obtain ⟨rs, hrs⟩ : ∃ rs, Hid (routesF n ss 0 = rs) := ⟨_, Lib.hid rfl⟩
  have hrl : rs.length ≤ 300 := by rw [← hrs.out]; exact routesF_len _ _ _
  have HBR : Hid (∀ r ∈ rs, bare r = r) := Lib.hid (by rw [← hrs.out]; exact fun r hr => bare_of hr)
  clear h hs hg hk hl hb0
  go_enter Tryd.func21, Tryd.ntmps21
  go_wp2_with fail
  rw [← hW0]
  clear hW0
  refine (l1all n ss A0 A1 A2 c0 c1 c2 _ HN.out HSS.out hn hi HB).mono ?_
  rintro e w1 ⟨rfl, hb1⟩
  have g0 := cell_below hb1 f0.out
  have g1 := cell_below hb1 f1.out
  have gz : w.heap.size < w1.heap.size := Nat.lt_of_lt_of_le hz0.out hb1.size
  have HN := Lib.hid (HN.out.below hb1)
  have HSS := Lib.hid (Kn.C_below hb1 HSS.out)
  go_wp2_with fail
  refine (specRoutes n ss 0 A0 A1 A2 c0 c1 c2 _ HN.out HSS.out hn hi).mono ?_
  rw [hrs.out]
  intro e w2 hr
  obtain ⟨N0, n0, rfl, hn0, C0, hb2⟩ := RetRR.Ct hr
  have BW : Hid (Below w.heap.size w w2) := Lib.hid ((hB0.trans (hb1.mono hB0.size)).trans (hb2.mono (Nat.le_trans hB0.size hb1.size)))
  clear hr hb1 hb2 g0 g1 gz HN HSS hB0
  have HG := Lib.hid (Kn.C_below BW.out Hg.out)
  go_wp2
  go_loopw [29] (fun iv wr => ∃ k : Nat, k ≤ gs.length ∧ iv = .int .i64 k ∧ Hid (∀ i r, i < k → gs[i]? = some r → bare r ∈ rs) ∧ Hid (Below w2.heap.size w2 wr)) (fun iv _ => gs.length - (intOf iv).toNat)
  case atStart => exact ⟨0, Nat.zero_le _, rfl, Lib.hid (fun i r hi => absurd hi (by omega)), Lib.hid (Below.refl _ _)⟩
  case round =>
  obtain ⟨k, hk, rfl, HT, HBr⟩ := hrel
  obtain ⟨wo, rfl⟩ : ∃ W, W = wr := ⟨_, rfl⟩
  by_cases hlt : k < gs.length
  rotate_left
  · obtain rfl : k = gs.length := by omega
    have HF : Hid (true = b) := Lib.hid (by
      rw [← hbb.out]
      refine (pv_true ⟨HS.out, hl2, fun r hr => ?_⟩).symm
      obtain ⟨i, hi⟩ := List.mem_iff_getElem?.1 hr
      rw [hrs.out]
      exact HT.out i r (List.getElem?_eq_some_iff.1 hi).1 hi)
    have hfin := BW.out.trans (HBr.out.mono BW.out.size)
    go_wp2
    go_ret
    exact ⟨by rw [← HF.out]; rfl, hfin⟩
  have i0 : (0 : Int) ≤ (k : Int) := Int.natCast_nonneg _
  have i1 : (k : Int) < (gs.length : Int) := by omega
  obtain ⟨ra, rfl, r, Er, D2, D3, D4, D5, D6, D7, d2, d3, d4, d5, d6, d7, p0, p1, p2, p3, p4, p5, p6, p7, HRr⟩ := rC_at (Kn.C_below HBr.out HG.out) k hlt
  obtain ⟨W3, hW3, HQ, HB3⟩ : ∃ W, W = wo.alloc (.cells #[.int .i64 r.frm, .int .i64 r.til, .slice D2 r.steps.length d2, .slice D3 r.lies.length d3, .slice D4 r.crosses.length d4, .slice D5 r.parts.length d5, .slice D6 r.over.length d6, .slice D7 r.flanks.length d7] 56) ∧ Hid (Blk W wo.heap.size 56 [.int .i64 r.frm, .int .i64 r.til, .slice D2 r.steps.length d2, .slice D3 r.lies.length d3, .slice D4 r.crosses.length d4, .slice D5 r.parts.length d5, .slice D6 r.over.length d6, .slice D7 r.flanks.length d7]) ∧ Hid (Below w2.heap.size w2 W) := ⟨_, rfl, Lib.hid (Blk.new _ _ _ rfl), Lib.hid (HBr.out.alloc HBr.out.size _)⟩
  have HRB := Lib.hid (HRr.out.below (below_alloc wo (.cells #[.int .i64 r.frm, .int .i64 r.til, .slice D2 r.steps.length d2, .slice D3 r.lies.length d3, .slice D4 r.crosses.length d4, .slice D5 r.parts.length d5, .slice D6 r.over.length d6, .slice D7 r.flanks.length d7] 56)))
  rw [← hW3] at HRB
  go_wp2
  rw [← hW3]
  clear hW3
  obtain ⟨rb, hrb⟩ : ∃ g, Hid (wo.heap.size = g) := ⟨_, Lib.hid rfl⟩
  rw [hrb.out] at HQ
  rw [hrb.out]
  have HC0 := Lib.hid (Kn.C_below HB3.out C0.out)
  clear p0 p1 p2 p3 p4 p5 p6 p7 HRr
  go_loopw [35, 10] (fun iv mv wr => ∃ i : Nat, ∃ m : Bool, i ≤ rs.length ∧ iv = .int .i64 i ∧ mv = .bool m ∧ Hid (m = pv (inTo rs i (bare r))) ∧ Hid (Below W3.heap.size W3 wr)) (fun iv _ _ => rs.length - (intOf iv).toNat)
  case atStart => exact ⟨0, false, Nat.zero_le _, rfl, rfl, Lib.hid (pv_false inTo_zero).symm, Lib.hid (Below.refl _ _)⟩
  case round =>
    obtain ⟨i, m, hi, rfl, rfl, HM, HBi⟩ := hrel
    have HQi := Lib.hid (HQ.out.below HBi.out HQ.out.lt)
    have zr : rb < wr.heap.size := HQi.out.lt
    by_cases hit : i < rs.length
    · have j0 : (0 : Int) ≤ (i : Int) := Int.natCast_nonneg _
      have j1 : (i : Int) < (rs.length : Int) := by omega
      obtain ⟨xa, rfl, x, Ex, E2, E3, E4, E5, E6, E7, e2, e3, e4, e5, e6, e7, q0, q1, q2, q3, q4, q5, q6, q7, HRx⟩ := rC_at (Kn.C_below HBi.out HC0.out) i hit
      have HRx2 := Lib.hid (HRB.out.below HBi.out)
      have s0 := HQi.out.cell 0 rfl
      have s1 := HQi.out.cell 1 rfl
      have s2 := HQi.out.cell 2 rfl
      have s3 := HQi.out.cell 3 rfl
      have s4 := HQi.out.cell 4 rfl
      have s5 := HQi.out.cell 5 rfl
      have s6 := HQi.out.cell 6 rfl
      have s7 := HQi.out.cell 7 rfl
      obtain ⟨W4, hW4, hb4, HX4, HR4⟩ : ∃ W, W = (wr.alloc (.cells #[.int .i64 x.frm, .int .i64 x.til, .slice E2 x.steps.length e2, .slice E3 x.lies.length e3, .slice E4 x.crosses.length e4, .slice E5 x.parts.length e5, .slice E6 x.over.length e6, .slice E7 x.flanks.length e7] 56)).alloc (.cells #[.int .i64 r.frm, .int .i64 r.til, .slice D2 r.steps.length d2, .slice D3 r.lies.length d3, .slice D4 r.crosses.length d4, .slice D5 r.parts.length d5, .slice none 0 0, .slice D7 r.flanks.length d7] 56) ∧ Below wr.heap.size wr W ∧ Hid (RC W (fun _ => True) x E2 E3 E4 E5 E6 E7) ∧ Hid (RC W ok2 (bare r) D2 D3 D4 D5 none D7) := by
        have hb : Below wr.heap.size wr ((wr.alloc (.cells #[.int .i64 x.frm, .int .i64 x.til, .slice E2 x.steps.length e2, .slice E3 x.lies.length e3, .slice E4 x.crosses.length e4, .slice E5 x.parts.length e5, .slice E6 x.over.length e6, .slice E7 x.flanks.length e7] 56)).alloc (.cells #[.int .i64 r.frm, .int .i64 r.til, .slice D2 r.steps.length d2, .slice D3 r.lies.length d3, .slice D4 r.crosses.length d4, .slice D5 r.parts.length d5, .slice none 0 0, .slice D7 r.flanks.length d7] 56)) := (below_alloc _ _).alloc (by simp) _
        exact ⟨_, rfl, hb, Lib.hid (HRx.out.below hb), Lib.hid (HRx2.out.below hb).bare⟩
      go_wp2_with fail
      rw [← hW4]
      clear hW4 q0 q1 q2 q3 q4 q5 q6 q7 s0 s1 s2 s3 s4 s5 s6 s7
      refine (specSame x (bare r) E2 E3 E4 E5 E6 E7 e2 e3 e4 e5 e6 e7 D2 D3 D4 D5 none D7 d2 d3 d4 d5 0 d7 _ HX4.out HR4.out).mono ?_
      rintro e w5 ⟨rfl, hb5⟩
      have HB5 : Hid (Below W3.heap.size W3 w5) := Lib.hid (HBi.out.trans ((hb4.trans (hb5.mono hb4.size)).mono HBi.out.size))
      clear hb4 hb5
      by_cases hm : inTo rs i (bare r)
      · obtain rfl : m = true := by rw [HM.out]; exact pv_true hm
        have HM2 : Hid (true = pv (inTo rs (i + 1) (bare r))) := Lib.hid (pv_true (inTo_up hm)).symm
        clear hm
        go_wp2
        go_roundw
        case rel => exact ⟨i + 1, true, by omega, by go_num, rfl, HM2, HB5⟩
        case measure => simp [intOf]; omega
      obtain rfl : m = false := by rw [HM.out]; exact pv_false hm
      by_cases hx : x = bare r
      · have t0 : (sameF x (bare r) == 0) = true := by rw [sameF_zero.2 hx]; rfl
        have HM2 : Hid (true = pv (inTo rs (i + 1) (bare r))) := Lib.hid (pv_true (inTo_here (by rw [← hx]; exact Ex.out))).symm
        clear hm hx
        go_wp2
        go_roundw
        case rel => exact ⟨i + 1, true, by omega, by go_num, rfl, HM2, HB5⟩
        case measure => simp [intOf]; omega
      · have t0 : (sameF x (bare r) == 0) = false := int_eqf (fun e => hx (sameF_zero.1 e))
        have HM2 : Hid (false = pv (inTo rs (i + 1) (bare r))) := Lib.hid (pv_false (inTo_snoc hm Ex.out hx)).symm
        clear hm hx
        go_wp2
        go_roundw
        case rel => exact ⟨i + 1, false, by omega, by go_num, rfl, HM2, HB5⟩
        case measure => simp [intOf]; omega
    · obtain rfl : i = rs.length := by omega
      have HB6 : Hid (Below w2.heap.size w2 wr) := Lib.hid (HB3.out.trans (HBi.out.mono HB3.out.size))
      by_cases hm : bare r ∈ rs
      · obtain rfl : m = true := by
          rw [HM.out]
          obtain ⟨i, hi⟩ := List.mem_iff_getElem?.1 hm
          exact pv_true ⟨i, (List.getElem?_eq_some_iff.1 hi).1, hi⟩
        have HT2 : Hid (∀ i r, i < k + 1 → gs[i]? = some r → bare r ∈ rs) := Lib.hid (fun i y hi hy => by
          by_cases e : i = k
          · subst e
            obtain rfl := Option.some.inj (Er.out.symm.trans hy)
            exact hm
          · exact HT.out i y (by omega) hy)
        clear hm HM
        go_wp2
        go_roundw
        case rel => exact ⟨k + 1, by omega, by go_num, HT2, HB6⟩
        case measure => simp [intOf]; omega
      · obtain rfl : m = false := by
          rw [HM.out]
          exact pv_false (fun e => hm (inTo_mem e))
        have HF : Hid (false = b) := Lib.hid (by
          rw [← hbb.out]
          refine (pv_false (fun e => hm ?_)).symm
          rw [← hrs.out]
          exact e.2.2 r (List.mem_of_getElem? Er.out))
        have hfin := BW.out.trans (HB6.out.mono BW.out.size)
        clear hm HM
        go_wp2
        go_ret
        exact ⟨by rw [← HF.out]; rfl, hfin⟩
set_option maxRecDepth 100000 in
set_option maxHeartbeats 8000000 in
theorem implListed {ok ok' ok2 : Nat → Prop} (n : Net) (ss : List Signal) (gs : List Route) (A0 A1 A2 A3 : Option Addr) (c0 c1 c2 c3 : Nat) (w : World) (h : NC 95 w ok n A0 A1) (hs : signalK.C w ok' A2 ss) (hc : ss.length ≤ c2) (hg : rK.C w ok2 A3 gs) (hn : NetIn n) (hi : SigIn ss) {b : Bool} (hbb : Hid (pv (listedF n ss gs) = b)) :
    Calls Tryd.prog 16 #[.agg #[.slice A0 n.pieces.length c0, .slice A1 n.joints.length c1], .slice A2 ss.length c2, .slice A3 gs.length c3] w (RetB b w) := by
  have hgm := hg.1
  have hb0 : Below w.heap.size w (w.alloc (.cells #[.slice A0 n.pieces.length c0, .slice A1 n.joints.length c1] 26)) := below_alloc _ _
  by_cases hl : 300 < gs.length
  · obtain rfl : false = b := by rw [← hbb.out]; exact (pv_false (fun e => by have := e.2.1; omega)).symm
    clear hbb
    go_enter Tryd.func16, Tryd.ntmps16
    go_wp2
    go_ret
    exact ⟨rfl, hb0⟩
  have hl' : gs.length ≤ 300 := by omega
  by_cases hk : signalsOk n ss = ⟨0, 0⟩
  rotate_left
  · have HB : Hid (askOk n ss 0 = false) := Lib.hid (pv_false (fun e => hk e.1))
    obtain rfl : false = b := by rw [← hbb.out]; exact (pv_false (fun e => hk e.1)).symm
    clear hk hbb hl
    go_enter Tryd.func16, Tryd.ntmps16
    go_wp2_with fail
    refine (implRoutes0 n ss 0 A0 A1 A2 c0 c1 c2 _ (h.below hb0) (Kn.C_below hb0 hs) hc hn hi).mono ?_
    rw [HB.out]
    rintro e w1 ⟨A, c, rfl, hcl, HR, HO, hb1⟩
    go_wp2
    go_ret
    exact ⟨rfl, hb0.trans (hb1.mono (by simp))⟩
  have HB : Hid (askOk n ss 0 = true) := Lib.hid (pv_true ⟨hk, by omega⟩)
  have hl2 : gs.length ≤ 300 := by omega
  have HS : Hid (signalsOk n ss = ⟨0, 0⟩) := Lib.hid hk
  have Hh := Lib.hid (h : NC 95 w ok n A0 A1)
  have Hs := Lib.hid hs
  have Hg := Lib.hid hg
  have HN := Lib.hid (h.below hb0)
  have HSS := Lib.hid (Kn.C_below hb0 hs)
  obtain ⟨W0, hW0, hB0, f0, f1, hz0⟩ : ∃ W, W = w.alloc (.cells #[.slice A0 n.pieces.length c0, .slice A1 n.joints.length c1] 26) ∧ Below w.heap.size w W ∧ Hid (W.cell? ⟨w.heap.size, 0, none⟩ = some (.slice A0 n.pieces.length c0)) ∧ Hid (W.cell? ⟨w.heap.size, 1, none⟩ = some (.slice A1 n.joints.length c1)) ∧ Hid (w.heap.size < W.heap.size) := ⟨_, rfl, hb0, Lib.hid (by simp), Lib.hid (by simp), Lib.hid (by simp)⟩
  rw [← hW0] at HN HSS
  obtain ⟨rs, hrs⟩ : ∃ rs, Hid (routesF n ss 0 = rs) := ⟨_, Lib.hid rfl⟩
  have hrl : rs.length ≤ 300 := by rw [← hrs.out]; exact routesF_len _ _ _
  have HBR : Hid (∀ r ∈ rs, bare r = r) := Lib.hid (by rw [← hrs.out]; exact fun r hr => bare_of hr)
  clear h hs hg hk hl hb0
  go_enter Tryd.func16, Tryd.ntmps16
  go_wp2_with fail
  rw [← hW0]
  clear hW0
  refine (implRoutes0 n ss 0 A0 A1 A2 c0 c1 c2 _ HN.out HSS.out hc hn hi).mono ?_
  rw [HB.out, hrs.out]
  rintro e w2 ⟨N0, n0, rfl, hn0, HR, HO, hb2⟩
  have C0 : Hid (rK.C w2 (fun _ => True) N0 rs) := Lib.hid (Kn.C_mono (fun _ _ => trivial) (Rw_slice HR.out).2.2)
  have BW : Hid (Below w.heap.size w w2) := Lib.hid (hB0.trans (hb2.mono hB0.size))
  clear hb2 HR HO HN HSS hB0
  have HG := Lib.hid (Kn.C_below BW.out Hg.out)
  go_wp2
  go_loopw [27] (fun iv wr => ∃ k : Nat, k ≤ gs.length ∧ iv = .int .i64 k ∧ Hid (∀ i r, i < k → gs[i]? = some r → bare r ∈ rs) ∧ Hid (Below w2.heap.size w2 wr)) (fun iv _ => gs.length - (intOf iv).toNat)
  case atStart => exact ⟨0, Nat.zero_le _, rfl, Lib.hid (fun i r hi => absurd hi (by omega)), Lib.hid (Below.refl _ _)⟩
  case round =>
  obtain ⟨k, hk, rfl, HT, HBr⟩ := hrel
  obtain ⟨wo, rfl⟩ : ∃ W, W = wr := ⟨_, rfl⟩
  by_cases hlt : k < gs.length
  rotate_left
  · obtain rfl : k = gs.length := by omega
    have HF : Hid (true = b) := Lib.hid (by
      rw [← hbb.out]
      refine (pv_true ⟨HS.out, hl2, fun r hr => ?_⟩).symm
      obtain ⟨i, hi⟩ := List.mem_iff_getElem?.1 hr
      rw [hrs.out]
      exact HT.out i r (List.getElem?_eq_some_iff.1 hi).1 hi)
    have hfin := BW.out.trans (HBr.out.mono BW.out.size)
    go_wp2
    go_ret
    exact ⟨by rw [← HF.out]; rfl, hfin⟩
  have i0 : (0 : Int) ≤ (k : Int) := Int.natCast_nonneg _
  have i1 : (k : Int) < (gs.length : Int) := by omega
  obtain ⟨ra, rfl, r, Er, D2, D3, D4, D5, D6, D7, d2, d3, d4, d5, d6, d7, p0, p1, p2, p3, p4, p5, p6, p7, HRr⟩ := rC_at (Kn.C_below HBr.out HG.out) k hlt
  obtain ⟨W3, hW3, HQ, HB3⟩ : ∃ W, W = wo.alloc (.cells #[.int .i64 r.frm, .int .i64 r.til, .slice D2 r.steps.length d2, .slice D3 r.lies.length d3, .slice D4 r.crosses.length d4, .slice D5 r.parts.length d5, .slice none 0 0, .slice D7 r.flanks.length d7] 56) ∧ Hid (Blk W wo.heap.size 56 [.int .i64 r.frm, .int .i64 r.til, .slice D2 r.steps.length d2, .slice D3 r.lies.length d3, .slice D4 r.crosses.length d4, .slice D5 r.parts.length d5, .slice none 0 0, .slice D7 r.flanks.length d7]) ∧ Hid (Below w2.heap.size w2 W) :=
    ⟨_, rfl, Lib.hid (Blk.new _ _ _ rfl), Lib.hid (HBr.out.alloc HBr.out.size _)⟩
  have HRB : Hid (RC W3 ok2 r D2 D3 D4 D5 D6 D7) := Lib.hid (HRr.out.below (by rw [hW3]; exact below_alloc _ _))
  go_wp2
  rw [← hW3]
  clear hW3
  obtain ⟨rb, hrb⟩ : ∃ g, Hid (wo.heap.size = g) := ⟨_, Lib.hid rfl⟩
  rw [hrb.out] at HQ
  rw [hrb.out]
  have HC0 := Lib.hid (Kn.C_below HB3.out C0.out)
  clear p0 p1 p2 p3 p4 p5 p6 p7 HRr
  go_loopw [34, 11] (fun iv mv wr => ∃ i : Nat, ∃ m : Bool, i ≤ rs.length ∧ iv = .int .i64 i ∧ mv = .bool m ∧ Hid (m = pv (inTo rs i (bare r))) ∧ Hid (Below W3.heap.size W3 wr)) (fun iv _ _ => rs.length - (intOf iv).toNat)
  case atStart => exact ⟨0, false, Nat.zero_le _, rfl, rfl, Lib.hid (pv_false inTo_zero).symm, Lib.hid (Below.refl _ _)⟩
  case round =>
    obtain ⟨i, m, hi, rfl, rfl, HM, HBi⟩ := hrel
    have HQi := Lib.hid (HQ.out.below HBi.out HQ.out.lt)
    have zr : rb < wr.heap.size := HQi.out.lt
    by_cases hit : i < rs.length
    · have j0 : (0 : Int) ≤ (i : Int) := Int.natCast_nonneg _
      have j1 : (i : Int) < (rs.length : Int) := by omega
      obtain ⟨xa, rfl, x, Ex, E2, E3, E4, E5, E6, E7, e2, e3, e4, e5, e6, e7, q0, q1, q2, q3, q4, q5, q6, q7, HRx⟩ := rC_at (Kn.C_below HBi.out HC0.out) i hit
      have HRx2 := Lib.hid (HRB.out.below HBi.out)
      have s0 := HQi.out.cell 0 rfl
      have s1 := HQi.out.cell 1 rfl
      have s2 := HQi.out.cell 2 rfl
      have s3 := HQi.out.cell 3 rfl
      have s4 := HQi.out.cell 4 rfl
      have s5 := HQi.out.cell 5 rfl
      have s6 := HQi.out.cell 6 rfl
      have s7 := HQi.out.cell 7 rfl
      have HXB : Hid (bare x = x) := Lib.hid (HBR.out x (List.mem_of_getElem? Ex.out))
      by_cases hm : inTo rs i (bare r)
      · obtain rfl : m = true := by rw [HM.out]; exact pv_true hm
        have HM2 : Hid (true = pv (inTo rs (i + 1) (bare r))) := Lib.hid (pv_true (inTo_up hm)).symm
        have HB5 : Hid (Below W3.heap.size W3 (wr.alloc (.cells #[.int .i64 x.frm, .int .i64 x.til, .slice E2 x.steps.length e2, .slice E3 x.lies.length e3, .slice E4 x.crosses.length e4, .slice E5 x.parts.length e5, .slice none 0 0, .slice E7 x.flanks.length e7] 56))) := Lib.hid (HBi.out.alloc HBi.out.size _)
        clear hm
        go_wp2
        go_roundw
        case rel => exact ⟨i + 1, true, by omega, by go_num, rfl, HM2, HB5⟩
        case measure => simp [intOf]; omega
      obtain rfl : m = false := by rw [HM.out]; exact pv_false hm
      by_cases hf : x.frm = r.frm
      rotate_left
      · have t0 : (x.frm == r.frm) = false := int_eqf hf
        have HM2 : Hid (false = pv (inTo rs (i + 1) (bare r))) := Lib.hid (pv_false (inTo_snoc hm Ex.out (fun e => hf (by rw [e]; rfl)))).symm
        have HB5 : Hid (Below W3.heap.size W3 (wr.alloc (.cells #[.int .i64 x.frm, .int .i64 x.til, .slice E2 x.steps.length e2, .slice E3 x.lies.length e3, .slice E4 x.crosses.length e4, .slice E5 x.parts.length e5, .slice none 0 0, .slice E7 x.flanks.length e7] 56))) := Lib.hid (HBi.out.alloc HBi.out.size _)
        clear hm hf
        go_wp2
        go_roundw
        case rel => exact ⟨i + 1, false, by omega, by go_num, rfl, HM2, HB5⟩
        case measure => simp [intOf]; omega
      have t1 : (x.frm == r.frm) = true := by rw [hf]; exact beq_self_eq_true _
      clear hf
      obtain ⟨W4, hW4, hb4, HX4, HR4⟩ : ∃ W, W = wr.alloc (.cells #[.int .i64 x.frm, .int .i64 x.til, .slice E2 x.steps.length e2, .slice E3 x.lies.length e3, .slice E4 x.crosses.length e4, .slice E5 x.parts.length e5, .slice none 0 0, .slice E7 x.flanks.length e7] 56) ∧ Below wr.heap.size wr W ∧ Hid (RC W (fun _ => True) (bare x) E2 E3 E4 E5 none E7) ∧ Hid (RC W ok2 (bare r) D2 D3 D4 D5 none D7) := by
        have hb : Below wr.heap.size wr (wr.alloc (.cells #[.int .i64 x.frm, .int .i64 x.til, .slice E2 x.steps.length e2, .slice E3 x.lies.length e3, .slice E4 x.crosses.length e4, .slice E5 x.parts.length e5, .slice none 0 0, .slice E7 x.flanks.length e7] 56)) := below_alloc _ _
        exact ⟨_, rfl, hb, Lib.hid (HRx.out.below hb).bare, Lib.hid (HRx2.out.below hb).bare⟩
      go_wp2_with fail
      rw [← hW4]
      clear hW4 q0 q1 q2 q3 q4 q5 q6 q7 s0 s1 s2 s3 s4 s5 s6 s7
      refine (implParts (bare x) (bare r) E2 E3 E4 E5 none E7 e2 e3 e4 e5 0 e7 D2 D3 D4 D5 none D7 d2 d3 d4 d5 0 d7 _ HX4.out HR4.out).mono ?_
      rintro e w5 ⟨rfl, hb5⟩
      have HB5 : Hid (Below W3.heap.size W3 w5) := Lib.hid (HBi.out.trans ((hb4.trans (hb5.mono hb4.size)).mono HBi.out.size))
      clear hb4 hb5
      rw [HXB.out]
      by_cases hx : x = bare r
      · have t0 : (partsF x (bare r) == 0) = true := by rw [partsF_zero.2 hx]; rfl
        have HM2 : Hid (true = pv (inTo rs (i + 1) (bare r))) := Lib.hid (pv_true (inTo_here (by rw [← hx]; exact Ex.out))).symm
        clear hm hx
        go_wp2
        go_roundw
        case rel => exact ⟨i + 1, true, by omega, by go_num, rfl, HM2, HB5⟩
        case measure => simp [intOf]; omega
      · have t0 : (partsF x (bare r) == 0) = false := int_eqf (fun e => hx (partsF_zero.1 e))
        have HM2 : Hid (false = pv (inTo rs (i + 1) (bare r))) := Lib.hid (pv_false (inTo_snoc hm Ex.out hx)).symm
        clear hm hx
        go_wp2
        go_roundw
        case rel => exact ⟨i + 1, false, by omega, by go_num, rfl, HM2, HB5⟩
        case measure => simp [intOf]; omega
    · obtain rfl : i = rs.length := by omega
      have HB6 : Hid (Below w2.heap.size w2 wr) := Lib.hid (HB3.out.trans (HBi.out.mono HB3.out.size))
      by_cases hm : bare r ∈ rs
      · obtain rfl : m = true := by
          rw [HM.out]
          obtain ⟨i, hi⟩ := List.mem_iff_getElem?.1 hm
          exact pv_true ⟨i, (List.getElem?_eq_some_iff.1 hi).1, hi⟩
        have HT2 : Hid (∀ i r, i < k + 1 → gs[i]? = some r → bare r ∈ rs) := Lib.hid (fun i y hi hy => by
          by_cases e : i = k
          · subst e
            obtain rfl := Option.some.inj (Er.out.symm.trans hy)
            exact hm
          · exact HT.out i y (by omega) hy)
        clear hm HM
        go_wp2
        go_roundw
        case rel => exact ⟨k + 1, by omega, by go_num, HT2, HB6⟩
        case measure => simp [intOf]; omega
      · obtain rfl : m = false := by
          rw [HM.out]
          exact pv_false (fun e => hm (inTo_mem e))
        have HF : Hid (false = b) := Lib.hid (by
          rw [← hbb.out]
          refine (pv_false (fun e => hm ?_)).symm
          rw [← hrs.out]
          exact e.2.2 r (List.mem_of_getElem? Er.out))
        have hfin := BW.out.trans (HB6.out.mono BW.out.size)
        clear hm HM
        go_wp2
        go_ret
        exact ⟨by rw [← HF.out]; rfl, hfin⟩
end Go.Proofs.YtamhkgphbpbhfaaDoor.L
namespace Go.Proofs.YtamhkgphbpbhfaaDoor.L
open Go.RowKit
open Classical
set_option linter.unusedVariables false
set_option linter.unusedSimpArgs false
theorem strCells_app (s t : ByteArray) : Lib.strCells (s ++ t) = Lib.strCells s ++ Lib.strCells t := by
  unfold Lib.strCells
  rw [ByteArray.data_append, Array.toList_append, List.map_append]
theorem run_conv_own {P : Program} (w : World) (src e : TypeId) (hs : P.underlying src = some (.slice e)) (he : P.underlying e = some (.int .u8)) {B t : Nat} {v : Value} {s : ByteArray} (hown : w.ownsRow B t 1 v s.size (Lib.strCells s)) :
    ∀ dst, P.underlying dst = some .string → (convert src dst v).run P w = .ok (.string s) w := by
  intro dst hd
  rcases hown.2 with ⟨rfl, h0⟩ | ⟨g, cap, cur, rfl, _, hg, hnc, _, hcs, htake⟩
  · rw [run_convert_bytes_nil w src e hs he _ _ dst hd]
    congr 2
    apply ByteArray.ext
    have : s.data.size = 0 := h0
    exact (Array.eq_empty_of_size_eq_zero this).symm
  · have hl : (s.data.toList.map (fun b => (b.toNat : Int))).length = s.size := by rw [List.length_map, Array.length_toList]; rfl
    rw [run_convert_bytes_arg w src e hs he g 0 s.size cap (s.data.toList.map (fun b => (b.toNat : Int))) hl (fun i hi => ?_) dst hd]
    · congr 2
      apply ByteArray.ext
      apply Array.ext'
      rw [strOfNums_data, List.map_map]
      refine (List.map_congr_left (fun b _ => ?_)).trans (List.map_id _)
      show UInt8.ofNat ((b.toNat : Int)).toNat = b
      rw [Int.toNat_natCast]
      exact UInt8.ofNat_toNat
    · have hi' : i < s.data.toList.length := by rw [Array.length_toList]; exact hi
      have h := hown.cells (g := g) rfl i _ (by
        unfold Lib.strCells
        rw [List.getElem?_map, List.getElem?_eq_getElem hi']
        rfl)
      rw [Addr.add_lit] at h
      rw [h]
      congr 2
      rw [List.getD_eq_getElem?_getD, List.getElem?_map, List.getElem?_eq_getElem hi']
      rfl
theorem decT_size (u : Nat) : (decT u).size ≤ u + 1 := by
  have key : ∀ m u, u ≤ m → (Lib.decDigits u).length ≤ u + 1 := by
    intro m
    induction m with
    | zero =>
      intro u hu
      rw [Lib.decDigits, dif_pos (by omega)]
      exact Nat.succ_le_succ (Nat.zero_le _)
    | succ m ih =>
      intro u hu
      by_cases h : u < 10
      · rw [Lib.decDigits, dif_pos h]
        exact Nat.succ_le_succ (Nat.zero_le _)
      · rw [Lib.decDigits, dif_neg h, List.length_append, List.length_singleton]
        have := ih (u / 10) (by omega)
        omega
  exact key u u (Nat.le_refl _)
noncomputable def listF (n : Net) (ss : List Signal) (gs : List Route) : ByteArray := if listedF n ss gs then listT n ss gs 0 else ByteArray.empty
theorem named_listed {n : Net} {ss : List Signal} {gs : List Route} (h : listedF n ss gs) : ∀ r ∈ gs, Named n ss r := fun r hr => named_of (h.2.2 r hr)
theorem info5 : (Tryd.prog.info? 5).map (fun i => (i.zero, i.size, i.bytes)) = some (some (.int .u8 0), 1, 1) := by kernel_rfl
theorem step_call2 {P : Program} {ops : Array Oper} {o : Oper} {a : Act} {w : World} {K : Act → World → Prop} {Q : Exit → Act → World → Prop} {E : Prop} (f : Nat) (hgd : o.guard = none) {xs : Array Operand} {ts : Array TypeId}
    (ho : o.op = .call { callee := .value (.func f), args := xs, argTypes := ts }) (h : Oper.wp P o a w K Q) : if Region.wanted o (yielded ops a.tmps) = true then Oper.wp P o a w K Q else E := by
  have hw : Region.wanted o (yielded ops a.tmps) = true := by simp [Region.wanted, hgd]
  rw [if_pos hw]
  exact h
theorem own_form {w : World} {B t n : Nat} {v : Value} {xs : List Value} (h : w.ownsRow B t 1 v n xs) : ∃ A c, v = .slice A n c := by
  rcases h.2 with ⟨rfl, rfl⟩ | ⟨g, cap, cur, rfl, _⟩
  · exact ⟨none, 0, rfl⟩
  · exact ⟨_, _, rfl⟩
theorem own_old {w w1 : World} {B B' t n : Nat} {v : Value} {xs : List Value} (h : w.ownsRow B t 1 v n xs) (hb : Below B' w w1) (hB : w.heap.size ≤ B') : w1.ownsRow B t 1 v n xs := Kn.own_move h (fun k hk => hb.block k (Nat.lt_of_lt_of_le (h.lt k hk).2 hB))
set_option maxRecDepth 100000 in
set_option maxHeartbeats 16000000 in
theorem specListing {ok ok' ok2 : Nat → Prop} (n : Net) (ss : List Signal) (gs : List Route) (A0 A1 A2 A3 : Option Addr) (c0 c1 c2 c3 : Nat) (w : World) (h : NC 95 w ok n A0 A1) (hs : signalK.C w ok' A2 ss) (hc : ss.length ≤ c2) (hg : rK.C w ok2 A3 gs) (hn : NetIn n) (hi : SigIn ss) :
    Calls Tryd.prog 7 #[.agg #[.slice A0 n.pieces.length c0, .slice A1 n.joints.length c1], .slice A2 ss.length c2, .slice A3 gs.length c3] w (RetStr (listF n ss gs) w) := by
  have hgm := hg.1
  obtain ⟨W, hW, hB0, f0, f1, z1⟩ : ∃ W, W = w.alloc (.cells #[.slice A0 n.pieces.length c0, .slice A1 n.joints.length c1] 26) ∧ Below w.heap.size w W ∧ W.cell? ⟨w.heap.size, 0, none⟩ = some (.slice A0 n.pieces.length c0) ∧ W.cell? ⟨w.heap.size, 1, none⟩ = some (.slice A1 n.joints.length c1) ∧ w.heap.size < W.heap.size := ⟨_, rfl, below_alloc _ _, by simp, by simp, by simp⟩
  by_cases hli : listedF n ss gs
  rotate_left
  · have HB : Hid (pv (listedF n ss gs) = false) := Lib.hid (pv_false hli)
    have HF : Hid (listF n ss gs = ByteArray.empty) := Lib.hid (by unfold listF; rw [if_neg hli])
    clear hli
    go_enter Tryd.func7, Tryd.ntmps7
    go_upto_region 1 with (fail)
    rw [← hW]
    clear hW
    go_wp2_with (go_at_call 21; refine (specListed n ss gs A0 A1 A2 A3 c0 c1 c2 c3 _ (h.below hB0) (Kn.C_below hB0 hs) hc (Kn.C_below hB0 hg) hn hi HB).mono ?_; rintro e w1 ⟨rfl, hb1⟩)
    go_ret
    exact ⟨by rw [HF.out]; rfl, hB0.trans (hb1.mono hB0.size)⟩
  have HB : Hid (pv (listedF n ss gs) = true) := Lib.hid (pv_true hli)
  have HF : Hid (listF n ss gs = listT n ss gs 0) := Lib.hid (by unfold listF; rw [if_pos hli])
  have HN := Lib.hid (named_listed hli)
  have HS := Lib.hid (short_of_ok hli.1)
  have hg3 := hli.2.1
  clear hli
  have hNC := Lib.hid (h.below hB0)
  have hSC := Lib.hid (Kn.C_below hB0 hs)
  have hGC := Lib.hid (Kn.C_below hB0 hg)
  have HB0 := Lib.hid hB0
  clear h hs hg
  obtain ⟨b0, bi, bz, bs, bb⟩ := info_parts info5
  have hty : Tryd.prog.underlying 22 = some (.slice 5) := Tryd.underlying22
  go_enter Tryd.func7, Tryd.ntmps7
  go_upto_region 1 with (fail)
  rw [← hW]
  clear hW hB0
  go_wp2_with (go_at_call 21; refine (specListed n ss gs A0 A1 A2 A3 c0 c1 c2 c3 _ hNC.out hSC.out hc hGC.out hn hi HB).mono ?_; rintro e w1 ⟨rfl, hb1⟩)
  go_loopw [7, 18] (fun v iv wr => ∃ (k : Nat) (s : ByteArray) (As : Option Addr) (cs : Nat), k ≤ gs.length ∧ iv = .int .i64 k ∧ v = .slice As s.size cs ∧ Hid (wr.ownsRow W.heap.size 5 1 (.slice As s.size cs) s.size (Lib.strCells s)) ∧ s.size ≤ k * 1400500 ∧ Hid (s = listT n ss (gs.take k) 0) ∧ Below W.heap.size W wr) (fun _ i _ => gs.length - (intOf i).toNat)
  case atStart => exact ⟨0, ByteArray.empty, none, 0, Nat.zero_le _, rfl, rfl, Lib.hid ⟨rfl, .inl ⟨rfl, rfl⟩⟩, Nat.zero_le _, Lib.hid (by rw [List.take_zero]; rfl), hb1⟩
  case round =>
    obtain ⟨k, s, As, cs, hk, rfl, rfl, HO, hsz, HL, hb⟩ := hrel
    by_cases hlt : k < gs.length
    · obtain ⟨ae, rfl, x, EX, B2, B3, B4, B5, B6, B7, d2, d3, d4, d5, d6, d7, g0, g1, g2, g3, g4, g5, g6, g7, RX⟩ := rC_at (Kn.C_below hb hGC.out) k hlt
      have hNx : Hid (Named n ss x) := Lib.hid (HN.out x (mem_of_get EX.out))
      have hsn := Lib.hid (listT_snoc n ss gs k 0 x EX.out)
      have hlz := lineT_size HS.out hNx.out
      have hdz := decT_size k
      have k0 : (0 : Int) ≤ (k : Int) := Int.natCast_nonneg _
      have k1 : (k : Int) < (gs.length : Int) := by omega
      have m0 := cell_below hb f0
      have m1 := cell_below hb f1
      obtain ⟨D, HD⟩ : ∃ D, Hid (decT k = D) := ⟨_, Lib.hid rfl⟩
      obtain ⟨L, HLL⟩ : ∃ L, Hid (lineT n ss x = L) := ⟨_, Lib.hid rfl⟩
      rw [HD.out] at hdz
      rw [HLL.out] at hlz
      have s1 : D.size + 1 ≤ 9223372036854775807 := by omega
      have s2 : D.size + 1 + L.size ≤ 9223372036854775807 := by omega
      have s3 : s.size + (D ++ (⟨#[32]⟩ : ByteArray) ++ L).size ≤ maxLen := by rw [ByteArray.size_append, ByteArray.size_append]; show _ + (_ + 1 + _) ≤ 9223372036854775807; omega
      have s4 : s.size + (D ++ (⟨#[32]⟩ : ByteArray) ++ L).size ≤ 140737488355328 := by rw [ByteArray.size_append, ByteArray.size_append]; show _ + (_ + 1 + _) ≤ _; omega
      have HZZ : Hid (s.size + (D ++ (⟨#[32]⟩ : ByteArray) ++ L).size ≤ (k + 1) * 1400500) := Lib.hid (by rw [ByteArray.size_append, ByteArray.size_append]; show _ + (_ + 1 + _) ≤ _; omega)
      have s3 := Lib.hid s3
      have s4 := Lib.hid s4
      clear f0 f1
      go_upto_region 7 with (fail)
      obtain ⟨V, hV, hBV, v0, v1, r0, r1, r2, r3, r4, r5, r6, r7⟩ : ∃ V, V = wr.alloc (.cells #[.int .i64 x.frm, .int .i64 x.til, .slice B2 x.steps.length d2, .slice B3 x.lies.length d3, .slice B4 x.crosses.length d4, .slice B5 x.parts.length d5, .slice B6 x.over.length d6, .slice B7 x.flanks.length d7] 56) ∧ Below wr.heap.size wr V ∧ V.cell? ⟨w.heap.size, 0, none⟩ = some (.slice A0 n.pieces.length c0) ∧ V.cell? ⟨w.heap.size, 1, none⟩ = some (.slice A1 n.joints.length c1) ∧ V.cell? ⟨wr.heap.size, 0, none⟩ = some (.int .i64 x.frm) ∧ V.cell? ⟨wr.heap.size, 1, none⟩ = some (.int .i64 x.til) ∧ V.cell? ⟨wr.heap.size, 2, none⟩ = some (.slice B2 x.steps.length d2) ∧ V.cell? ⟨wr.heap.size, 3, none⟩ = some (.slice B3 x.lies.length d3) ∧ V.cell? ⟨wr.heap.size, 4, none⟩ = some (.slice B4 x.crosses.length d4) ∧ V.cell? ⟨wr.heap.size, 5, none⟩ = some (.slice B5 x.parts.length d5) ∧ V.cell? ⟨wr.heap.size, 6, none⟩ = some (.slice B6 x.over.length d6) ∧ V.cell? ⟨wr.heap.size, 7, none⟩ = some (.slice B7 x.flanks.length d7) := ⟨_, rfl, below_alloc _ _, cell_below (below_alloc _ _) m0, cell_below (below_alloc _ _) m1, by simp, by simp, by simp, by simp, by simp, by simp, by simp, by simp⟩
      rw [← hV]
      have hNV := Lib.hid ((hNC.out.below hb).below hBV)
      have hSV := Lib.hid (Kn.C_below hBV (Kn.C_below hb hSC.out))
      have RV := Lib.hid (RX.out.below hBV)
      have HBE := Lib.hid hb
      have HBV := Lib.hid hBV
      clear hV hb hBV m0 m1 g0 g1 g2 g3 g4 g5 g6 g7
      go_cut [10] (fun lv wc => lv = .string (D ++ ⟨#[32]⟩ ++ L) ∧ Hid (Below V.heap.size V wc))
      case first =>
        clear HO HL HF hsn
        refine Rg.start 7 (fun w' => w'.cell? ⟨w.heap.size, 0, none⟩ = some (.slice A0 n.pieces.length c0) ∧ w'.cell? ⟨w.heap.size, 1, none⟩ = some (.slice A1 n.joints.length c1) ∧ w'.cell? ⟨wr.heap.size, 0, none⟩ = some (.int .i64 x.frm) ∧ w'.cell? ⟨wr.heap.size, 1, none⟩ = some (.int .i64 x.til) ∧ w'.cell? ⟨wr.heap.size, 2, none⟩ = some (.slice B2 x.steps.length d2) ∧ w'.cell? ⟨wr.heap.size, 3, none⟩ = some (.slice B3 x.lies.length d3) ∧ w'.cell? ⟨wr.heap.size, 4, none⟩ = some (.slice B4 x.crosses.length d4) ∧ w'.cell? ⟨wr.heap.size, 5, none⟩ = some (.slice B5 x.parts.length d5) ∧ w'.cell? ⟨wr.heap.size, 6, none⟩ = some (.slice B6 x.over.length d6) ∧ w'.cell? ⟨wr.heap.size, 7, none⟩ = some (.slice B7 x.flanks.length d7)) 9 rfl (by kernel_rfl) ?_
        have hHeld : V.drew.cell? ⟨w.heap.size, 0, none⟩ = some (.slice A0 n.pieces.length c0) ∧ V.drew.cell? ⟨w.heap.size, 1, none⟩ = some (.slice A1 n.joints.length c1) ∧ V.drew.cell? ⟨wr.heap.size, 0, none⟩ = some (.int .i64 x.frm) ∧ V.drew.cell? ⟨wr.heap.size, 1, none⟩ = some (.int .i64 x.til) ∧ V.drew.cell? ⟨wr.heap.size, 2, none⟩ = some (.slice B2 x.steps.length d2) ∧ V.drew.cell? ⟨wr.heap.size, 3, none⟩ = some (.slice B3 x.lies.length d3) ∧ V.drew.cell? ⟨wr.heap.size, 4, none⟩ = some (.slice B4 x.crosses.length d4) ∧ V.drew.cell? ⟨wr.heap.size, 5, none⟩ = some (.slice B5 x.parts.length d5) ∧ V.drew.cell? ⟨wr.heap.size, 6, none⟩ = some (.slice B6 x.over.length d6) ∧ V.drew.cell? ⟨wr.heap.size, 7, none⟩ = some (.slice B7 x.flanks.length d7) := ⟨v0, v1, r0, r1, r2, r3, r4, r5, r6, r7⟩
        refine Rg.pure 0 (v := ?v1) rfl (by kernel_rfl) (fun _ _ _ h => h) (by rfl) hHeld ?y1 ?h1
        case y1 => (intro wA; go_simp; first | done | with_reducible rfl)
        simp only [Act.put, List.setIfInBounds_toArray, List.set_cons_zero, List.set_cons_succ]
        refine Rg.held 3 (v := ?v2) rfl (by kernel_rfl) (fun _ _ _ h => h) (by rfl) hHeld ?y2 ?h2
        case y2 => (intro wA hSw; (try dsimp only at hSw); go_simp; first | done | with_reducible rfl)
        simp only [Act.put, List.setIfInBounds_toArray, List.set_cons_zero, List.set_cons_succ]
        refine Rg.pure 4 (v := ?v3) rfl (by kernel_rfl) (fun _ _ _ h => h) (by rfl) hHeld ?y3 ?h3
        case y3 => (intro wA; go_simp; first | done | with_reducible rfl)
        simp only [Act.put, List.setIfInBounds_toArray, List.set_cons_zero, List.set_cons_succ]
        refine Rg.held 5 (v := ?v4) rfl (by kernel_rfl) (fun _ _ _ h => h) (by rfl) hHeld ?y4 ?h4
        case y4 => (intro wA hSw; (try dsimp only at hSw); go_simp; first | done | with_reducible rfl)
        simp only [Act.put, List.setIfInBounds_toArray, List.set_cons_zero, List.set_cons_succ]
        refine Rg.one 1 rfl (by kernel_rfl) (fun K hK => ?_)
        refine step_call2 22 rfl rfl ?_
        go_simp
        go_at_call 22
        (with_reducible refine (l4decimal k _ (by omega)).mono ?_)
        rintro e w1 ⟨rfl, hb1⟩
        rw [HD.out]
        have hb1 : Below V.heap.size V w1 := ((Below.refl _ _).drew).trans hb1
        have hHeld2 : w1.cell? ⟨w.heap.size, 0, none⟩ = some (.slice A0 n.pieces.length c0) ∧ w1.cell? ⟨w.heap.size, 1, none⟩ = some (.slice A1 n.joints.length c1) ∧ w1.cell? ⟨wr.heap.size, 0, none⟩ = some (.int .i64 x.frm) ∧ w1.cell? ⟨wr.heap.size, 1, none⟩ = some (.int .i64 x.til) ∧ w1.cell? ⟨wr.heap.size, 2, none⟩ = some (.slice B2 x.steps.length d2) ∧ w1.cell? ⟨wr.heap.size, 3, none⟩ = some (.slice B3 x.lies.length d3) ∧ w1.cell? ⟨wr.heap.size, 4, none⟩ = some (.slice B4 x.crosses.length d4) ∧ w1.cell? ⟨wr.heap.size, 5, none⟩ = some (.slice B5 x.parts.length d5) ∧ w1.cell? ⟨wr.heap.size, 6, none⟩ = some (.slice B6 x.over.length d6) ∧ w1.cell? ⟨wr.heap.size, 7, none⟩ = some (.slice B7 x.flanks.length d7) := ⟨cell_below hb1 v0, cell_below hb1 v1, cell_below hb1 r0, cell_below hb1 r1, cell_below hb1 r2, cell_below hb1 r3, cell_below hb1 r4, cell_below hb1 r5, cell_below hb1 r6, cell_below hb1 r7⟩
        refine hK.out _ _ hHeld2 ?_
        clear hK K hHeld
        try simp only [Act.put, List.setIfInBounds_toArray, List.set_cons_zero, List.set_cons_succ]
        refine Rg.pure 2 (v := ?v5) rfl (by kernel_rfl) (fun _ _ _ h => h) (by rfl) hHeld2 ?y5 ?h5
        case y5 => (intro wA; go_simp; first | done | with_reducible rfl | (rw [if_neg (by omega)]))
        simp only [Act.put, List.setIfInBounds_toArray, List.set_cons_zero, List.set_cons_succ]
        refine Rg.one 6 rfl (by kernel_rfl) (fun K hK => ?_)
        refine step_call2 23 rfl rfl ?_
        go_simp
        go_at_call 23
        (with_reducible refine (l4line n ss x A0 A1 A2 B2 B3 B4 B5 B6 B7 c0 c1 c2 d2 d3 d4 d5 d6 d7 _ (hNV.out.below hb1).p (hNV.out.below hb1).j (Kn.C_below hb1 hSV.out) (RV.out.below hb1) hNx HS).mono ?_)
        rintro e w2 ⟨rfl, hb2⟩
        rw [HLL.out]
        have hb2 : Below V.heap.size V w2 := hb1.trans (hb2.mono hb1.size)
        have hHeld3 : w2.cell? ⟨w.heap.size, 0, none⟩ = some (.slice A0 n.pieces.length c0) ∧ w2.cell? ⟨w.heap.size, 1, none⟩ = some (.slice A1 n.joints.length c1) ∧ w2.cell? ⟨wr.heap.size, 0, none⟩ = some (.int .i64 x.frm) ∧ w2.cell? ⟨wr.heap.size, 1, none⟩ = some (.int .i64 x.til) ∧ w2.cell? ⟨wr.heap.size, 2, none⟩ = some (.slice B2 x.steps.length d2) ∧ w2.cell? ⟨wr.heap.size, 3, none⟩ = some (.slice B3 x.lies.length d3) ∧ w2.cell? ⟨wr.heap.size, 4, none⟩ = some (.slice B4 x.crosses.length d4) ∧ w2.cell? ⟨wr.heap.size, 5, none⟩ = some (.slice B5 x.parts.length d5) ∧ w2.cell? ⟨wr.heap.size, 6, none⟩ = some (.slice B6 x.over.length d6) ∧ w2.cell? ⟨wr.heap.size, 7, none⟩ = some (.slice B7 x.flanks.length d7) := ⟨cell_below hb2 v0, cell_below hb2 v1, cell_below hb2 r0, cell_below hb2 r1, cell_below hb2 r2, cell_below hb2 r3, cell_below hb2 r4, cell_below hb2 r5, cell_below hb2 r6, cell_below hb2 r7⟩
        refine hK.out _ _ hHeld3 ?_
        clear hK K hHeld2
        try simp only [Act.put, List.setIfInBounds_toArray, List.set_cons_zero, List.set_cons_succ]
        refine Rg.row [7, 8] [_, _] rfl (by kernel_rfl) ?_
        go_wp2
        go_meet
        case rel => exact ⟨rfl, Lib.hid hb2⟩
      obtain ⟨rfl, hBc⟩ := hcut
      have HBc := Lib.hid (HBE.out.trans ((HBV.out.trans (hBc.out.mono HBV.out.size)).mono HBE.out.size))
      have HO2 := Lib.hid (own_old HO.out (HBV.out.trans (hBc.out.mono HBV.out.size)) (Nat.le_refl _))
      have HB3 : Hid (W.heap.size ≤ wc.heap.size) := Lib.hid HBc.out.size
      go_wp2_with (at_builtin; go_loud (refine Lib.wpList_append_own_string _ rfl (.tmp 31) (.tmp 32) 22 9 rfl W.heap.size 5 b0 Tryd.underlying22 Tryd.underlying9 bi bz bs bb (.slice As s.size cs) s.size (Lib.strCells s) rfl HO2.out (D ++ ⟨#[32]⟩ ++ L) rfl s3.out s4.out HB3.out ?_; intro v' w2 hO2 hG2 hN2))
      have e1 : s.size + (D ++ (⟨#[32]⟩ : ByteArray) ++ L).size = (s ++ (D ++ (⟨#[32]⟩ : ByteArray) ++ L)).size := ByteArray.size_append.symm
      rw [← strCells_app, e1] at hO2
      obtain ⟨A9, c9, rfl⟩ := own_form hO2
      have HG : Hid (Below W.heap.size W w2) := Lib.hid (below_push HBc.out hG2 (fun b hb => (HO.out.lt b hb).1) HB3.out)
      have HO9 := Lib.hid hO2
      clear hO2 hG2 hN2 e1
      go_roundw
      case rel => exact ⟨k + 1, s ++ (D ++ ⟨#[32]⟩ ++ L), A9, c9, by omega, by go_num, rfl, HO9, by rw [ByteArray.size_append]; exact HZZ.out, Lib.hid (by rw [hsn.out, Nat.zero_add, HD.out, HLL.out, HL.out]), HG.out⟩
      case measure => simp [intOf]; omega
    · obtain rfl : k = gs.length := by omega
      have HL : Hid (s = listT n ss gs 0) := Lib.hid (by have := HL.out; rwa [List.take_length] at this)
      have hcv := run_conv_own (P := Tryd.prog) wr 22 5 Tryd.underlying22 Tryd.underlying5 HO.out 9 Tryd.underlying9
      go_wp2
      go_ret
      exact ⟨by rw [HF.out, ← HL.out]; rfl, HB0.out.trans (hb.mono HB0.out.size)⟩
end Go.Proofs.YtamhkgphbpbhfaaDoor.L
namespace Go.Proofs
open Go.Shelf
def Tryd.lays169_ren : Go.Shelf.Ren := ⟨fun | 169 => 20 | n => n, fun | 70 => 62 | 9 => 9 | 0 => 0 | 72 => 64 | 37 => 22 | 127 => 103 | 3 => 3 | 5 => 5 | n => n, fun | n => n⟩
theorem Tryd.lays169 : Go.Proofs.Lays.n169 Tryd.prog Tryd.lays169_ren := {
  mixed := by kernel_rfl
  f169 := Tryd.func20.trans (congrArg some (by kernel_rfl))
  t0 := Tryd.underlying0
  a0 := Tryd.isAgg0
  z0 := Tryd.sizeOf0
  v0 := Tryd.zeroValue0
  t3 := Tryd.underlying3
  a3 := Tryd.isAgg3
  z3 := Tryd.sizeOf3
  v3 := Tryd.zeroValue3
  t9 := Tryd.underlying9
  a9 := Tryd.isAgg9
  z9 := Tryd.sizeOf9
  v9 := Tryd.zeroValue9
  t37 := Tryd.underlying22
  a37 := Tryd.isAgg22
  z37 := Tryd.sizeOf22
  v37 := Tryd.zeroValue22
  t70 := Tryd.underlying62
  a70 := Tryd.isAgg62
  z70 := Tryd.sizeOf62
  v70 := Tryd.zeroValue62
  t72 := Tryd.underlying64
  a72 := Tryd.isAgg64
  z72 := Tryd.sizeOf64
  v72 := Tryd.zeroValue64
  t127 := Tryd.underlying103
  a127 := Tryd.isAgg103
  z127 := Tryd.sizeOf103
  v127 := Tryd.zeroValue103 }
theorem Tryd.Builder_Extra_169 : Builder.Extra Tryd.prog Tryd.lays169_ren := {
  sizeBuilder := by kernel_rfl
  liesBuilder := by kernel_rfl
  t5 := Tryd.underlying5
  a5 := Tryd.isAgg5
  z5 := Tryd.sizeOf5
  v5 := Tryd.zeroValue5
  infoByte := by kernel_rfl
  cellsByte := by kernel_rfl
  sizeByte := by kernel_rfl
  neB5 := by decide }
open Go.RowKit in
/-- (*strings.Builder).String: "String returns the accumulated string.": WHATEVER THE BUILDER HOLDS. (LAID: no walk: one application.) -/
theorem Tryd.Builder_String_any (B b : Nat) (l : List UInt8) (w : World) (h : Lib.IsBuilder 64 5 B b (Lib.byteCells l) w) (hBw : B ≤ w.heap.size) :
    Calls Tryd.prog 20 #[.pointer (some ⟨b, 0, none⟩)] w fun e w' => e = .returned (.string ⟨l.toArray⟩) ∧ Below B w w' := Any.Builder_String_any Tryd.lays169 Tryd.Builder_Extra_169 B b l w h hBw
def Tryd.laysM171_ren : Go.Shelf.Ren := ⟨fun | 171 => 19 | 243 => 42 | 246 => 59 | 283 => 79 | 284 => 80 | 285 => 81 | 286 => 82 | 129 => 90 | 317 => 89 | 318 => 91 | 319 => 92 | 320 => 93 | 337 => 98 | 338 => 99 | n => n, fun | 3 => 3 | 9 => 9 | 2 => 2 | 4 => 4 | 171 => 144 | 0 => 0 | 53 => 35 | 37 => 22 | 5 => 5 | 173 => 147 | 212 => 155 | 51 => 156 | 20 => 20 | 213 => 157 | 46 => 110 | 232 => 169 | 233 => 170 | n => n, fun | 17 => 0 | 18 => 1 | 19 => 2 | n => n⟩
theorem Tryd.laysM171 : Go.Proofs.LaysM.n171 Tryd.prog Tryd.laysM171_ren := {
  mixed := by kernel_rfl
  f129 := Tryd.func90.trans (congrArg some (by kernel_rfl))
  f171 := Tryd.func19.trans (congrArg some (by kernel_rfl))
  f243 := Tryd.func42.trans (congrArg some (by kernel_rfl))
  f246 := Tryd.func59.trans (congrArg some (by kernel_rfl))
  f283 := Tryd.func79.trans (congrArg some (by kernel_rfl))
  f284 := Tryd.func80.trans (congrArg some (by kernel_rfl))
  f285 := Tryd.func81.trans (congrArg some (by kernel_rfl))
  f286 := Tryd.func82.trans (congrArg some (by kernel_rfl))
  f317 := Tryd.func89.trans (congrArg some (by kernel_rfl))
  f318 := Tryd.func91.trans (congrArg some (by kernel_rfl))
  f319 := Tryd.func92.trans (congrArg some (by kernel_rfl))
  f320 := Tryd.func93.trans (congrArg some (by kernel_rfl))
  f337 := Tryd.func98.trans (congrArg some (by kernel_rfl))
  f338 := Tryd.func99.trans (congrArg some (by kernel_rfl))
  t0 := Tryd.underlying0
  a0 := Tryd.isAgg0
  z0 := Tryd.sizeOf0
  v0 := Tryd.zeroValue0
  t2 := Tryd.underlying2
  a2 := Tryd.isAgg2
  z2 := Tryd.sizeOf2
  v2 := Tryd.zeroValue2
  t3 := Tryd.underlying3
  a3 := Tryd.isAgg3
  z3 := Tryd.sizeOf3
  v3 := Tryd.zeroValue3
  t4 := Tryd.underlying4
  a4 := Tryd.isAgg4
  z4 := Tryd.sizeOf4
  v4 := Tryd.zeroValue4
  t5 := Tryd.underlying5
  a5 := Tryd.isAgg5
  z5 := Tryd.sizeOf5
  v5 := Tryd.zeroValue5
  t9 := Tryd.underlying9
  a9 := Tryd.isAgg9
  z9 := Tryd.sizeOf9
  v9 := Tryd.zeroValue9
  t20 := Tryd.underlying20
  a20 := Tryd.isAgg20
  z20 := Tryd.sizeOf20
  v20 := Tryd.zeroValue20
  t37 := Tryd.underlying22
  a37 := Tryd.isAgg22
  z37 := Tryd.sizeOf22
  v37 := Tryd.zeroValue22
  t46 := Tryd.underlying110
  a46 := Tryd.isAgg110
  z46 := Tryd.sizeOf110
  v46 := Tryd.zeroValue110
  t51 := Tryd.underlying156
  a51 := Tryd.isAgg156
  z51 := Tryd.sizeOf156
  v51 := Tryd.zeroValue156
  t53 := Tryd.underlying35
  a53 := Tryd.isAgg35
  z53 := Tryd.sizeOf35
  v53 := Tryd.zeroValue35
  t171 := Tryd.underlying144
  a171 := Tryd.isAgg144
  z171 := Tryd.sizeOf144
  v171 := Tryd.zeroValue144
  t173 := Tryd.underlying147
  a173 := Tryd.isAgg147
  z173 := Tryd.sizeOf147
  v173 := Tryd.zeroValue147
  t212 := Tryd.underlying155
  a212 := Tryd.isAgg155
  z212 := Tryd.sizeOf155
  v212 := Tryd.zeroValue155
  t213 := Tryd.underlying157
  a213 := Tryd.isAgg157
  z213 := Tryd.sizeOf157
  t232 := Tryd.underlying169
  a232 := Tryd.isAgg169
  z232 := Tryd.sizeOf169
  v232 := Tryd.zeroValue169
  t233 := Tryd.underlying170
  a233 := Tryd.isAgg170
  z233 := Tryd.sizeOf170
  v233 := Tryd.zeroValue170
  g17 := by kernel_rfl
  g18 := by kernel_rfl
  g19 := by kernel_rfl
  i0 := by kernel_rfl
  i2 := by kernel_rfl
  i3 := by kernel_rfl
  i4 := by kernel_rfl
  i5 := by kernel_rfl
  i9 := by kernel_rfl
  i20 := by kernel_rfl
  i37 := by kernel_rfl
  i46 := by kernel_rfl
  i51 := by kernel_rfl
  i53 := by kernel_rfl
  i171 := by kernel_rfl
  i173 := by kernel_rfl
  i212 := by kernel_rfl
  i232 := by kernel_rfl
  i233 := by kernel_rfl
  m17 := by kernel_rfl
  m18 := by kernel_rfl
  m19 := by kernel_rfl }
open Go.RowKit Go.Sort Go.Lib in
/-- strconv.Itoa: "Itoa is equivalent to FormatInt(int64(i), 10).": i's DECIMAL NUMERAL ('Lib.itoa': a '-' where i is negative, then the digits), FOR EVERY int. The world behind the call: the world before it, new blocks behind the heap (the library's 'var a [24]byte'), draws. (LAID: no walk: one application.) -/
theorem Tryd.strconv_Itoa (n : Int) (h0 : -9223372036854775808 ≤ n) (h1 : n ≤ 9223372036854775807) (w : World) (htab : Lib.TabIs Tryd.prog w "internal/strconv.uint64pow10" .u64 Lib.pow10Tab) :
    Calls Tryd.prog 19 #[.int .i64 n] w fun e w' => e = .returned (.string ⟨(Lib.itoa n).toArray⟩) ∧ ∃ k os, w' = grow (w.drewN k) os := Any.strconv_Itoa Tryd.laysM171 n h0 h1 w htab
end Go.Proofs
namespace Go.Proofs.YtamhkgphbpbhfaaDoor.L
open Go.RowKit Go.Proofs
set_option linter.unusedVariables false
set_option linter.unusedSimpArgs false
theorem bldSize : (Tryd.prog.info? 64).map (·.size) = some 2 := by kernel_rfl
theorem bldLies : liesAt Tryd.prog Tryd.prog.depth 64 (2 / Tryd.prog.cellsOf 64) 0 64 1 = true := by kernel_rfl
structure Kp (B b : Nat) (w w' : World) : Prop where
  low : Below B w w'
  oth : Lib.OthersKept 5 (some b) w w'
section
variable {B b : Nat} {w w1 w2 : World}
theorem Kp.refl : Kp B b w w := ⟨Below.refl _ _, Lib.OthersKept.refl _ _ _⟩
theorem Kp.trans (h : Kp B b w w1) (k : Kp B b w1 w2) : Kp B b w w2 := ⟨h.low.trans k.low, h.oth.trans k.oth⟩
theorem heap_lt {w : World} {k : Nat} {o : Obj} (h : w.heap[k]? = some o) : k < w.heap.size := (Array.getElem?_eq_some_iff.1 h).1
theorem Kp.of_below (h : Below w.heap.size w w1) (hB : B ≤ w.heap.size) : Kp B b w w1 := ⟨h.mono hB, fun k o hk _ _ => by rw [h.block k (heap_lt hk)]; exact hk⟩
theorem Kp.size (h : Kp B b w w1) : w.heap.size ≤ w1.heap.size := h.low.size
theorem Blk.kept {q t : Nat} {cs : List Value} (h : Blk w q t cs) (hk : Kp B b w w1) (ht : t ≠ 5) (hq : q ≠ b) : Blk w1 q t cs := by
  refine hk.oth q _ h (fun e => hq (Option.some.inj e)) (fun c fz e => ht ?_)
  injection e
end
structure Bl (B b : Nat) (s : ByteArray) (w : World) : Prop where
  at_ : Lib.IsBuilder 64 5 B b (Lib.strCells s) w
  le : B ≤ w.heap.size
section
variable {B b : Nat} {w w1 w2 : World} {s : ByteArray}
theorem bldAt_below {p : Value} {bs : List Value} (h : Lib.BuilderAt 64 5 B b p bs w) (hb : Below w.heap.size w w1) : Lib.BuilderAt 64 5 B b p bs w1 := by
  obtain ⟨hB, v, hbk, hown, hne⟩ := h
  exact ⟨hB, v, by rw [hb.block b (heap_lt hbk)]; exact hbk, own_old hown hb (Nat.le_refl _), hne⟩
theorem Bl.below (h : Bl B b s w) (hb : Below w.heap.size w w1) : Bl B b s w1 := ⟨h.at_.elim (fun x => .inl (bldAt_below x hb)) (fun x => .inr (bldAt_below x hb)), Nat.le_trans h.le hb.size⟩
theorem Bl.lt (h : Bl B b s w) : b < w.heap.size := h.at_.elim (fun x => x.lt) (fun x => x.lt)
theorem Bl.apart (h : Bl B b s w) {q t : Nat} {cs : List Value} (hq : Blk w q t cs) (ht : t ≠ 64) : q ≠ b := fun e => by
  subst e
  have key : ∀ p, Lib.BuilderAt 64 5 B q p (Lib.strCells s) w → False := fun p hp => by
    obtain ⟨_, v, hbk, _⟩ := hp
    unfold Blk at hq
    rw [hbk] at hq
    injection hq with hq
    injection hq with _ hq _
    exact ht hq.symm
  exact h.at_.elim (key _) (key _)
theorem Bl.fresh (w : World) : Bl w.heap.size w.heap.size ByteArray.empty (w.alloc (.cells #[.pointer none, .slice none 0 0] 64)) :=
  ⟨.inl ⟨Nat.le_refl _, .slice none 0 0, heap_alloc_new _ _, ⟨rfl, .inl ⟨rfl, rfl⟩⟩, by simp [Value.ownBlock]⟩, by simp⟩
end
set_option maxHeartbeats 1000000 in
set_option maxRecDepth 100000 in
theorem bld_used (b : Nat) (w : World) (h0 : w.cell? ⟨b, 0, none⟩ = some (.pointer (some ⟨b, 0, none⟩))) :
    Calls Tryd.prog 41 #[.pointer (some ⟨b, 0, none⟩)] w fun e w' => e = .returned (.tuple #[]) ∧ w' = w := by
  obtain ⟨j, hj, _⟩ := Option.map_eq_some_iff.1 bldSize
  go_enter Tryd.func41, Tryd.ntmps41
  go_wp2
  rw [Lib.run_neq_ptr_same w _ Tryd.underlying62 hj]
  go_wp2
  go_end0
  exact ⟨rfl, rfl⟩
set_option maxHeartbeats 1000000 in
set_option maxRecDepth 100000 in
theorem bld_fresh (b : Nat) (w : World) (h0 : w.cell? ⟨b, 0, none⟩ = some (.pointer none)) (hsh : w.shape? b = some (64, 2)) (hfz : w.frozen? ⟨b, 0, none⟩ = false) :
    Calls Tryd.prog 41 #[.pointer (some ⟨b, 0, none⟩)] w fun e w' => e = .returned (.tuple #[]) ∧ w' = w.setCell ⟨b, 0, none⟩ (.pointer (some ⟨b, 0, none⟩)) := by
  obtain ⟨j, hj, hjs⟩ := Option.map_eq_some_iff.1 bldSize
  go_enter Tryd.func41, Tryd.ntmps41
  go_wp2
  rw [Lib.run_to_unsafe w ⟨b, 0, none⟩ Tryd.underlying62 Tryd.underlying126 hj (by rw [hjs]; decide) hsh (Nat.zero_lt_succ 1)]
  simp only [Result.andThen]
  rw [Oper.upon_value]
  go_wp2
  rw [run_callFunc_extern Tryd.func58 (by kernel_rfl) (by kernel_rfl) (by kernel_rfl) (e := Extern.AbiNoEscape.same) (by kernel_rfl)]
  rw [Lib.run_noEscape]
  simp only [Result.andThen]
  rw [Oper.upon_value]
  go_wp2
  rw [Lib.run_from_unsafe w ⟨b, 0, none⟩ Tryd.underlying126 Tryd.underlying62 hj hsh bldLies]
  simp only [Result.andThen]
  rw [Oper.upon_value]
  go_wp2
  go_end0
  exact ⟨rfl, rfl⟩
theorem bld_check {B b : Nat} {bs : List Value} {w : World} (h : Lib.IsBuilder 64 5 B b bs w) :
    Calls Tryd.prog 41 #[.pointer (some ⟨b, 0, none⟩)] w fun e w' => e = .returned (.tuple #[]) ∧ Lib.BuilderAt 64 5 B b (.pointer (some ⟨b, 0, none⟩)) bs w' ∧ Kp B b w w' := by
  rcases h with h | h
  · refine (bld_fresh b w h.cell0 h.shape h.frozen0).mono ?_
    rintro e w' ⟨rfl, rfl⟩
    exact ⟨rfl, h.used _, (Below.refl B w).setCell (p := ⟨b, 0, none⟩) h.1 _, (Lib.OthersKept.refl _ _ _).setCell ⟨b, 0, none⟩ rfl _⟩
  · refine (bld_used b w h.cell0).mono ?_
    rintro e w' ⟨rfl, rfl⟩
    exact ⟨rfl, h, Kp.refl⟩
set_option maxHeartbeats 2000000 in
set_option maxRecDepth 100000 in
theorem bld_write {B b : Nat} {s : ByteArray} {w : World} (h : Bl B b s w) (y : ByteArray) (hlen : s.size + y.size ≤ 140737488355328) :
    Calls Tryd.prog 18 #[.pointer (some ⟨b, 0, none⟩), .string y] w fun e w' => e = .returned (.tuple #[.int .i64 y.size, .nilIface]) ∧ Bl B b (s ++ y) w' ∧ Kp B b w w' := by
  obtain ⟨i0, hi, hz0, hz1, hz2⟩ := info_parts info5
  have hsl := Lib.strCells_length s
  go_enter Tryd.func18, Tryd.ntmps18
  go_wp2_with (go_at_call 41; refine (bld_check h.at_).mono ?_)
  rintro e w1 ⟨rfl, h1, hb1⟩
  obtain ⟨hB, v, hbk, hown, hne⟩ := h1
  have c0 : w1.cell? ⟨b, 0, none⟩ = some (.pointer (some ⟨b, 0, none⟩)) := by rw [Lib.cell_of_heap hbk]; rfl
  have c1 : w1.cell? ⟨b, 1, none⟩ = some v := by rw [Lib.cell_of_heap hbk]; rfl
  have hle : B ≤ w1.heap.size := Nat.le_trans h.le hb1.size
  go_wp2_with (at_builtin; refine Lib.wpList_append_own_string _ rfl _ _ 22 9 rfl B 5 i0 Tryd.underlying22 Tryd.underlying9 hi hz0 hz1 hz2 _ _ _ rfl hown y rfl ?c3 ?c4 ?c5 ?_)
  case c3 => unfold maxLen; omega
  case c4 => omega
  case c5 => exact hle
  intro v' w2 hown' hgrow _
  have hlt : b < w1.heap.size := heap_lt hbk
  have hb2 : w2.heap[b]? = some (.cells #[.pointer (some ⟨b, 0, none⟩), v] 64 (0, 0)) := by
    rw [hgrow.block b hlt (fun e => hne e.symm)]
    exact hbk
  have d0 : w2.cell? ⟨b, 0, none⟩ = some (.pointer (some ⟨b, 0, none⟩)) := by rw [Lib.cell_of_heap hb2]; rfl
  have d1 : w2.cell? ⟨b, 1, none⟩ = some v := by rw [Lib.cell_of_heap hb2]; rfl
  have f1 : w2.frozen? ⟨b, 1, none⟩ = false := Lib.frozen_of_heap hb2 1
  obtain ⟨ao, n', cap, rfl⟩ : ∃ ao n' cap, v' = .slice ao n' cap := by
    rcases hown'.2 with ⟨hv, _⟩ | ⟨g, cap, cur, hv, _⟩
    · exact ⟨_, _, _, hv⟩
    · exact ⟨_, _, _, hv⟩
  go_wp2
  go_ret2
  refine ⟨rfl, ⟨.inr ?_, ?_⟩, ?_, ?_⟩
  · rw [strCells_app]
    exact Lib.BuilderAt.put (T := 64) (e := 5) hB hb2 (bs' := Lib.strCells s ++ Lib.strCells y) (by simpa [Lib.strCells_length] using hown') (by decide)
  · have := hgrow.size
    simp only [World.size_setCell]
    omega
  · exact (hb1.low.grown hgrow hle (fun k hk => (hown.lt k hk).1)).setCell (p := ⟨b, 1, none⟩) hB _
  · refine (hb1.oth.grown hgrow (fun g hg => ?_)).setCell ⟨b, 1, none⟩ rfl _
    rcases hown.2 with ⟨rfl, _⟩ | ⟨g', cap', cur', rfl, _, hh, _⟩
    · simp [Value.ownBlock] at hg
    · obtain rfl : g' = g := by simpa [Value.ownBlock] using hg
      exact ⟨_, _, hh⟩
theorem bld_string {B b : Nat} {s : ByteArray} {w : World} (h : Bl B b s w) :
    Calls Tryd.prog 20 #[.pointer (some ⟨b, 0, none⟩)] w fun e w' => e = .returned (.string s) ∧ Below B w w' :=
  (Tryd.Builder_String_any B b s.data.toList w h.at_ h.le).mono fun e w' k => ⟨by rw [k.1], k.2⟩
def Pows (w : World) : Prop := Lib.TabIs Tryd.prog w "internal/strconv.uint64pow10" .u64 Lib.pow10Tab
end Go.Proofs.YtamhkgphbpbhfaaDoor.L
namespace Go.Proofs.YtamhkgphbpbhfaaDoor.L
open Go.RowKit Go.Proofs
open Classical
set_option linter.unusedVariables false
set_option linter.unusedSimpArgs false
theorem Pows.below {w w' : World} (h : Pows w) (hb : Below w.heap.size w w') : Pows w' := by
  obtain ⟨g, hg⟩ : ∃ g, Tryd.prog.globalNamed "internal/strconv.uint64pow10" = some g := by
    unfold Pows Lib.TabIs World.var? at h
    cases hh : Tryd.prog.globalNamed "internal/strconv.uint64pow10" with
    | none => rw [hh] at h; simp at h
    | some g => exact ⟨g, rfl⟩
  unfold Pows Lib.TabIs World.var? at h ⊢
  rw [hg] at h ⊢
  simp only [Option.bind_some] at h ⊢
  have hlt : g < w.heap.size := by
    rcases Nat.lt_or_ge g w.heap.size with h' | h'
    · exact h'
    · rw [Array.getElem?_eq_none h'] at h
      simp at h
  rw [hb.block g hlt]
  exact h
theorem itoaC (k : Nat) (hk : k ≤ 1125899906842624) (w : World) (h : Pows w) : Calls Tryd.prog 19 #[.int .i64 k] w (RetStr (decT k) w) :=
  (Tryd.strconv_Itoa (k : Int) (by omega) (by omega) w h).mono fun e w' q => by
    obtain ⟨rfl, n, os, rfl⟩ := q
    exact ⟨by rw [Lib.itoa_nonneg]; rfl, Lib.below_grow _ _ (Nat.le_refl _) _ _⟩
set_option maxRecDepth 100000 in
set_option maxHeartbeats 4000000 in
theorem implLie {ok : Nat → Prop} (n : Net) (j : Nat) (l : Int) (A1 : Option Addr) (c1 : Nat) (g : Nat) (w : World) (h : (jointK 95).C w ok A1 n.joints) (hc : w.cell? ⟨g, 1, none⟩ = some (.slice A1 n.joints.length c1)) (hj : j < n.joints.length) (hl : l = 1 ∨ l = 2) (hz : (jName n j).size ≤ 20) :
    Calls Tryd.prog 17 #[.int .i64 j, .int .i64 l, .pointer (some ⟨g, 0, none⟩)] w (RetStr (lieT n ⟨j, l⟩) w) := by
  have hjm := h.1
  obtain ⟨ad, rfl, x, Ex, g1⟩ := jointK_name h j hj
  have hn : Hid (jName n j = x.name) := Lib.hid (jName_at Ex.out)
  have hxs : x.name.size ≤ 20 := by rw [← hn.out]; exact hz
  have j0 : (0 : Int) ≤ (j : Int) := Int.natCast_nonneg _
  have j1 : (j : Int) < (n.joints.length : Int) := by omega
  have s1 : 1 + x.name.size ≤ 9223372036854775807 := by omega
  have s2 : ((⟨#[32]⟩ : ByteArray) ++ x.name).size ≤ 21 := by rw [ByteArray.size_append]; show 1 + _ ≤ _; omega
  have s3 : 1 + x.name.size + 1 ≤ 9223372036854775807 := by omega
  clear h hz
  rcases hl with rfl | rfl
  · have HF : Hid (lieT n ⟨j, 1⟩ = (⟨#[32]⟩ : ByteArray) ++ x.name ++ ⟨#[60]⟩) := Lib.hid (by unfold lieT lieSign; rw [hn.out]; rfl)
    go_enter Tryd.func17, Tryd.ntmps17
    go_upto_region 1 with (fail)
    refine Rg.start 10 (fun w' => w'.cell? ⟨g, 1, none⟩ = some (.slice (some ad) n.joints.length c1) ∧ w'.cell? ⟨(ad.add (j * 3)).block, (ad.add (j * 3)).off + 1, none⟩ = some (.string x.name)) 12 rfl (by kernel_rfl) ?_
    have hHeld : w.drew.cell? ⟨g, 1, none⟩ = some (.slice (some ad) n.joints.length c1) ∧ w.drew.cell? ⟨(ad.add (j * 3)).block, (ad.add (j * 3)).off + 1, none⟩ = some (.string x.name) := ⟨hc, g1⟩
    refine Rg.pure 0 (v := ?v1) rfl (by kernel_rfl) (fun _ _ _ h => h) (by rfl) hHeld ?y1 ?h1
    case y1 => (intro wA; go_simp; first | done | with_reducible rfl | (rw [if_neg (by omega)]) | rfl)
    simp only [Act.put, List.setIfInBounds_toArray, List.set_cons_zero, List.set_cons_succ]
    refine Rg.held 1 (v := ?v2) rfl (by kernel_rfl) (fun _ _ _ h => h) (by rfl) hHeld ?y2 ?h2
    case y2 => (intro wA hSw; (try dsimp only at hSw); go_simp; first | done | with_reducible rfl | (rw [if_neg (by omega)]) | rfl)
    simp only [Act.put, List.setIfInBounds_toArray, List.set_cons_zero, List.set_cons_succ]
    refine Rg.pure 2 (v := ?v3) rfl (by kernel_rfl) (fun _ _ _ h => h) (by rfl) hHeld ?y3 ?h3
    case y3 => (intro wA; go_simp; first | done | with_reducible rfl | (rw [if_neg (by omega)]) | rfl)
    simp only [Act.put, List.setIfInBounds_toArray, List.set_cons_zero, List.set_cons_succ]
    refine Rg.pure 3 (v := ?v4) rfl (by kernel_rfl) (fun _ _ _ h => h) (by rfl) hHeld ?y4 ?h4
    case y4 => (intro wA; go_simp; first | done | with_reducible rfl | (rw [if_neg (by omega)]) | rfl)
    simp only [Act.put, List.setIfInBounds_toArray, List.set_cons_zero, List.set_cons_succ]
    refine Rg.pure 4 (v := ?v5) rfl (by kernel_rfl) (fun _ _ _ h => h) (by rfl) hHeld ?y5 ?h5
    case y5 => (intro wA; go_simp; first | done | with_reducible rfl | (rw [if_neg (by omega)]) | rfl)
    simp only [Act.put, List.setIfInBounds_toArray, List.set_cons_zero, List.set_cons_succ]
    refine Rg.held 5 (v := ?v6) rfl (by kernel_rfl) (fun _ _ _ h => h) (by rfl) hHeld ?y6 ?h6
    case y6 => (intro wA hSw; (try dsimp only at hSw); go_simp; first | done | with_reducible rfl | (rw [if_neg (by omega)]) | rfl)
    simp only [Act.put, List.setIfInBounds_toArray, List.set_cons_zero, List.set_cons_succ]
    refine Rg.pure 6 (v := ?v7) rfl (by kernel_rfl) (fun _ _ _ h => h) (by rfl) hHeld ?y7 ?h7
    case y7 => (intro wA; go_simp; first | done | with_reducible rfl | (rw [if_neg (by omega)]) | rfl)
    simp only [Act.put, List.setIfInBounds_toArray, List.set_cons_zero, List.set_cons_succ]
    refine Rg.pure 7 (v := ?v8) rfl (by kernel_rfl) (fun _ _ _ h => h) (by rfl) hHeld ?y8 ?h8
    case y8 => (intro wA; go_simp; first | done | with_reducible rfl | (rw [if_neg (by omega)]) | rfl)
    simp only [Act.put, List.setIfInBounds_toArray, List.set_cons_zero, List.set_cons_succ]
    refine Rg.pure 8 (v := .int .u8 60) rfl (by kernel_rfl) (fun _ _ _ h => h) (by rfl) hHeld ?y9 ?h9
    case y9 => (intro wA; go_simp; first | done | with_reducible rfl | (rw [if_neg (by omega)]) | rfl)
    simp only [Act.put, List.setIfInBounds_toArray, List.set_cons_zero, List.set_cons_succ]
    refine Rg.pure 9 (v := .string ⟨#[60]⟩) rfl (by kernel_rfl) (fun _ _ _ h => h) (by rfl) hHeld ?y10 ?h10
    case y10 => (intro wA; go_simp; first | done | with_reducible rfl | (rw [if_neg (by omega)]) | rfl)
    simp only [Act.put, List.setIfInBounds_toArray, List.set_cons_zero, List.set_cons_succ]
    refine Rg.row [10, 11] [_, _] rfl (by kernel_rfl) ?_
    go_wp2
    go_ret
    exact ⟨by rw [HF.out]; rfl, (Below.refl _ _).drew⟩
  · have HF : Hid (lieT n ⟨j, 2⟩ = (⟨#[32]⟩ : ByteArray) ++ x.name ++ ⟨#[62]⟩) := Lib.hid (by unfold lieT lieSign; rw [hn.out]; rfl)
    go_enter Tryd.func17, Tryd.ntmps17
    go_upto_region 1 with (fail)
    refine Rg.start 10 (fun w' => w'.cell? ⟨g, 1, none⟩ = some (.slice (some ad) n.joints.length c1) ∧ w'.cell? ⟨(ad.add (j * 3)).block, (ad.add (j * 3)).off + 1, none⟩ = some (.string x.name)) 12 rfl (by kernel_rfl) ?_
    have hHeld : w.drew.cell? ⟨g, 1, none⟩ = some (.slice (some ad) n.joints.length c1) ∧ w.drew.cell? ⟨(ad.add (j * 3)).block, (ad.add (j * 3)).off + 1, none⟩ = some (.string x.name) := ⟨hc, g1⟩
    refine Rg.pure 0 (v := ?v11) rfl (by kernel_rfl) (fun _ _ _ h => h) (by rfl) hHeld ?y11 ?h11
    case y11 => (intro wA; go_simp; first | done | with_reducible rfl | (rw [if_neg (by omega)]) | rfl)
    simp only [Act.put, List.setIfInBounds_toArray, List.set_cons_zero, List.set_cons_succ]
    refine Rg.held 1 (v := ?v12) rfl (by kernel_rfl) (fun _ _ _ h => h) (by rfl) hHeld ?y12 ?h12
    case y12 => (intro wA hSw; (try dsimp only at hSw); go_simp; first | done | with_reducible rfl | (rw [if_neg (by omega)]) | rfl)
    simp only [Act.put, List.setIfInBounds_toArray, List.set_cons_zero, List.set_cons_succ]
    refine Rg.pure 2 (v := ?v13) rfl (by kernel_rfl) (fun _ _ _ h => h) (by rfl) hHeld ?y13 ?h13
    case y13 => (intro wA; go_simp; first | done | with_reducible rfl | (rw [if_neg (by omega)]) | rfl)
    simp only [Act.put, List.setIfInBounds_toArray, List.set_cons_zero, List.set_cons_succ]
    refine Rg.pure 3 (v := ?v14) rfl (by kernel_rfl) (fun _ _ _ h => h) (by rfl) hHeld ?y14 ?h14
    case y14 => (intro wA; go_simp; first | done | with_reducible rfl | (rw [if_neg (by omega)]) | rfl)
    simp only [Act.put, List.setIfInBounds_toArray, List.set_cons_zero, List.set_cons_succ]
    refine Rg.pure 4 (v := ?v15) rfl (by kernel_rfl) (fun _ _ _ h => h) (by rfl) hHeld ?y15 ?h15
    case y15 => (intro wA; go_simp; first | done | with_reducible rfl | (rw [if_neg (by omega)]) | rfl)
    simp only [Act.put, List.setIfInBounds_toArray, List.set_cons_zero, List.set_cons_succ]
    refine Rg.held 5 (v := ?v16) rfl (by kernel_rfl) (fun _ _ _ h => h) (by rfl) hHeld ?y16 ?h16
    case y16 => (intro wA hSw; (try dsimp only at hSw); go_simp; first | done | with_reducible rfl | (rw [if_neg (by omega)]) | rfl)
    simp only [Act.put, List.setIfInBounds_toArray, List.set_cons_zero, List.set_cons_succ]
    refine Rg.pure 6 (v := ?v17) rfl (by kernel_rfl) (fun _ _ _ h => h) (by rfl) hHeld ?y17 ?h17
    case y17 => (intro wA; go_simp; first | done | with_reducible rfl | (rw [if_neg (by omega)]) | rfl)
    simp only [Act.put, List.setIfInBounds_toArray, List.set_cons_zero, List.set_cons_succ]
    refine Rg.pure 7 (v := ?v18) rfl (by kernel_rfl) (fun _ _ _ h => h) (by rfl) hHeld ?y18 ?h18
    case y18 => (intro wA; go_simp; first | done | with_reducible rfl | (rw [if_neg (by omega)]) | rfl)
    simp only [Act.put, List.setIfInBounds_toArray, List.set_cons_zero, List.set_cons_succ]
    refine Rg.pure 8 (v := .int .u8 62) rfl (by kernel_rfl) (fun _ _ _ h => h) (by rfl) hHeld ?y19 ?h19
    case y19 => (intro wA; go_simp; first | done | with_reducible rfl | (rw [if_neg (by omega)]) | rfl)
    simp only [Act.put, List.setIfInBounds_toArray, List.set_cons_zero, List.set_cons_succ]
    refine Rg.pure 9 (v := .string ⟨#[62]⟩) rfl (by kernel_rfl) (fun _ _ _ h => h) (by rfl) hHeld ?y20 ?h20
    case y20 => (intro wA; go_simp; first | done | with_reducible rfl | (rw [if_neg (by omega)]) | rfl)
    simp only [Act.put, List.setIfInBounds_toArray, List.set_cons_zero, List.set_cons_succ]
    refine Rg.row [10, 11] [_, _] rfl (by kernel_rfl) ?_
    go_wp2
    go_ret
    exact ⟨by rw [HF.out]; rfl, (Below.refl _ _).drew⟩
set_option maxRecDepth 100000 in
set_option maxHeartbeats 32000000 in
theorem implListing {ok ok' ok2 : Nat → Prop} (n : Net) (ss : List Signal) (gs : List Route) (A0 A1 A2 A3 : Option Addr) (c0 c1 c2 c3 : Nat) (w : World) (h : NC 95 w ok n A0 A1) (hs : signalK.C w ok' A2 ss) (hc : ss.length ≤ c2) (hg : rK.C w ok2 A3 gs) (hn : NetIn n) (hi : SigIn ss) (hp : Pows w) :
    Calls Tryd.prog 6 #[.agg #[.slice A0 n.pieces.length c0, .slice A1 n.joints.length c1], .slice A2 ss.length c2, .slice A3 gs.length c3] w (RetStr (listF n ss gs) w) := by
  have hgm := hg.1
  obtain ⟨W, hW, hB0, f0, f1, z1⟩ : ∃ W, W = w.alloc (.cells #[.slice A0 n.pieces.length c0, .slice A1 n.joints.length c1] 26) ∧ Below w.heap.size w W ∧ W.cell? ⟨w.heap.size, 0, none⟩ = some (.slice A0 n.pieces.length c0) ∧ W.cell? ⟨w.heap.size, 1, none⟩ = some (.slice A1 n.joints.length c1) ∧ w.heap.size < W.heap.size := ⟨_, rfl, below_alloc _ _, by simp, by simp, by simp⟩
  by_cases hli : listedF n ss gs
  rotate_left
  · have HB : Hid (pv (listedF n ss gs) = false) := Lib.hid (pv_false hli)
    have HF : Hid (listF n ss gs = ByteArray.empty) := Lib.hid (by unfold listF; rw [if_neg hli])
    clear hli
    go_enter Tryd.func6, Tryd.ntmps6
    go_upto_region 1 with (fail)
    rw [← hW]
    clear hW
    go_wp2_with (go_at_call 16; refine (implListed n ss gs A0 A1 A2 A3 c0 c1 c2 c3 _ (h.below hB0) (Kn.C_below hB0 hs) hc (Kn.C_below hB0 hg) hn hi HB).mono ?_; rintro e w1 ⟨rfl, hb1⟩)
    go_ret
    exact ⟨by rw [HF.out]; rfl, hB0.trans (hb1.mono hB0.size)⟩
  have HB : Hid (pv (listedF n ss gs) = true) := Lib.hid (pv_true hli)
  have HF : Hid (listF n ss gs = listT n ss gs 0) := Lib.hid (by unfold listF; rw [if_pos hli])
  have HN := Lib.hid (named_listed hli)
  have HS := Lib.hid (short_of_ok hli.1)
  have hg3 := hli.2.1
  clear hli
  have hNC := Lib.hid (h.below hB0)
  have hSC := Lib.hid (Kn.C_below hB0 hs)
  have hGC := Lib.hid (Kn.C_below hB0 hg)
  have HPW := Lib.hid (hp.below hB0)
  have HB0 := Lib.hid hB0
  clear h hs hg hp
  have hmf : ∀ (fn : Fn) (first cap : Array Value) (w : World), (Instr.makeFunc fn first cap).run Tryd.prog w = .ok (.func fn first cap) w := fun _ _ _ _ => rfl
  go_enter Tryd.func6, Tryd.ntmps6
  go_upto_region 1 with (fail)
  rw [← hW]
  clear hW hB0
  go_wp2_with (go_at_call 16; refine (implListed n ss gs A0 A1 A2 A3 c0 c1 c2 c3 _ hNC.out hSC.out hc hGC.out hn hi HB).mono ?_; rintro e w1 ⟨rfl, hb1⟩)
  have f0 := cell_below hb1 f0
  have f1 := cell_below hb1 f1
  have hNC := Lib.hid (hNC.out.below hb1)
  have hSC := Lib.hid (Kn.C_below hb1 hSC.out)
  have hGC := Lib.hid (Kn.C_below hb1 hGC.out)
  have HPW := Lib.hid (HPW.out.below hb1)
  have HB0 := Lib.hid (HB0.out.trans (hb1.mono HB0.out.size))
  have z1 : w.heap.size < w1.heap.size := Nat.lt_of_lt_of_le z1 hb1.size
  clear hb1
  go_loopw [27] (fun iv wr => ∃ (k : Nat) (s : ByteArray), k ≤ gs.length ∧ iv = .int .i64 k ∧ s.size ≤ k * 1400500 ∧ Hid (s = listT n ss (gs.take k) 0) ∧ Hid (Bl w1.heap.size w1.heap.size s wr) ∧ Hid (Below w1.heap.size w1 wr)) (fun i _ => gs.length - (intOf i).toNat)
  case atStart => exact ⟨0, ByteArray.empty, Nat.zero_le _, rfl, Nat.zero_le _, Lib.hid (by rw [List.take_zero]; rfl), Lib.hid (Bl.fresh _), Lib.hid (below_alloc _ _)⟩
  case round =>
    obtain ⟨k, s, hk, rfl, hsz, HL, HBl, hb⟩ := hrel
    by_cases hlt : k < gs.length
    · obtain ⟨ae, rfl, x, EX, B2, B3, B4, B5, B6, B7, d2, d3, d4, d5, d6, d7, g0, g1, g2, g3, g4, g5, g6, g7, RX⟩ := rC_at hGC.out k hlt
      have g0 := cell_below hb.out g0
      have g1 := cell_below hb.out g1
      have g2 := cell_below hb.out g2
      have g3 := cell_below hb.out g3
      have g4 := cell_below hb.out g4
      have g5 := cell_below hb.out g5
      have g6 := cell_below hb.out g6
      have g7 := cell_below hb.out g7
      have hNx : Hid (Named n ss x) := Lib.hid (HN.out x (mem_of_get EX.out))
      have hsn := Lib.hid (listT_snoc n ss gs k 0 x EX.out)
      have hlz := Lib.hid (lineT_size HS.out hNx.out)
      have hdz := decT_size k
      have k0 : (0 : Int) ≤ (k : Int) := Int.natCast_nonneg _
      have k1 : (k : Int) < (gs.length : Int) := by omega
      obtain ⟨D, HD⟩ : ∃ D, Hid (decT k = D) := ⟨_, Lib.hid rfl⟩
      rw [HD.out] at hdz
      obtain ⟨T, HT⟩ : ∃ T, Hid (tilT ss x = T) := ⟨_, Lib.hid rfl⟩
      have hTz : T.size ≤ 20 := by
        rw [← HT.out]
        unfold tilT
        split
        · show 6 ≤ 20; omega
        · exact HS.out.s _
      obtain ⟨i, hi', hil⟩ := hNx.out.frm
      obtain ⟨az, rfl, z0, e1, e2, e3, EZ, q0, q1, q2, q3⟩ := signalK_at hSC.out i hil
      clear q1 q2 q3
      have i0 : (0 : Int) ≤ (i : Int) := Int.natCast_nonneg _
      have i1 : (i : Int) < (ss.length : Int) := by omega
      have hn0 : Hid (sName ss x.frm = z0) := Lib.hid (by rw [hi']; exact sName_at EZ.out)
      have hz0 : z0.size ≤ 20 := by rw [← hn0.out]; exact HS.out.s _
      have HI := Lib.hid hi'
      clear hi'
      obtain ⟨wo, rfl⟩ : ∃ wo : World, wo = wr := ⟨_, rfl⟩
      have hqb : wo.heap.size ≠ w1.heap.size := by have := HBl.out.lt; omega
      have hsm := hSC.out.1
      go_upto_if 34 with (fail)
      obtain ⟨V, hV, hbV, HQ, HBV⟩ : ∃ V, V = wo.alloc (.cells #[.int .i64 x.frm, .int .i64 x.til, .slice B2 x.steps.length d2, .slice B3 x.lies.length d3, .slice B4 x.crosses.length d4, .slice B5 x.parts.length d5, .slice B6 x.over.length d6, .slice B7 x.flanks.length d7] 56) ∧ Hid (Below w1.heap.size w1 V) ∧ Hid (Blk V wo.heap.size 56 [.int .i64 x.frm, .int .i64 x.til, .slice B2 x.steps.length d2, .slice B3 x.lies.length d3, .slice B4 x.crosses.length d4, .slice B5 x.parts.length d5, .slice B6 x.over.length d6, .slice B7 x.flanks.length d7]) ∧ Hid (Bl w1.heap.size w1.heap.size s V) :=
        ⟨_, rfl, Lib.hid (hb.out.trans ((below_alloc _ _).mono hb.out.size)), Lib.hid (Blk.new _ _ _ rfl), Lib.hid (HBl.out.below (below_alloc _ _))⟩
      rw [← hV]
      clear hV g0 g1 g2 g3 g4 g5 g6 g7 HBl
      obtain ⟨q, hq⟩ : ∃ q, q = wo.heap.size := ⟨_, rfl⟩
      rw [← hq] at hqb HQ ⊢
      clear hq
      go_cut [11] (fun tv wc => tv = .string T ∧ wc = V)
      case first =>
        have v1 := HQ.out.cell 1 rfl
        have hqV := HQ.out.lt
        rcases hNx.out.til with h | ⟨b, hb', hbl⟩
        · have d1 : decide (0 ≤ x.til) = false := decide_eq_false (by omega)
          have d2 : ¬ 0 ≤ x.til := by omega
          have HT2 : Hid (T = ⟨#[98, 117, 102, 102, 101, 114]⟩) := Lib.hid (by rw [← HT.out]; unfold tilT; rw [if_pos (by omega)])
          clear h
          go_wp2
          go_meet
          case rel => exact ⟨by rw [HT2.out], rfl⟩
        · obtain ⟨az', he, y0, e1, e2, e3, EY, p0, p1, p2, p3⟩ := signalK_at (Kn.C_below hbV.out hSC.out) b hbl
          obtain rfl := Option.some.inj he
          clear he p1 p2 p3
          have d1 : decide (0 ≤ x.til) = true := decide_eq_true (by omega)
          have d2 : 0 ≤ x.til := by omega
          have hbn : x.til.toNat = b := by omega
          have p0 : V.cell? (az.add (x.til.toNat * 4)) = some (.string y0) := by rw [hbn]; exact p0
          have b1 : x.til < (ss.length : Int) := by omega
          have HT2 : Hid (T = y0) := Lib.hid (by rw [← HT.out]; unfold tilT; rw [if_neg (by omega), hb']; exact sName_at EY.out)
          clear hb' hbn
          go_wp2
          go_meet
          case rel => exact ⟨by rw [HT2.out], rfl⟩
      obtain ⟨rfl, hwc⟩ := hcut
      obtain ⟨V, rfl⟩ : ∃ V : World, V = wc := ⟨_, rfl⟩
      subst hwc
      obtain ⟨Y, hY⟩ : ∃ Y, Hid (D ++ (⟨#[32]⟩ : ByteArray) ++ z0 ++ ⟨#[32, 45, 62, 32]⟩ ++ T ++ ⟨#[32, 58]⟩ = Y) := ⟨_, Lib.hid rfl⟩
      have hYz : Y.size ≤ 400 := by
        rw [← hY.out, ByteArray.size_append, ByteArray.size_append, ByteArray.size_append, ByteArray.size_append, ByteArray.size_append]
        show _ + 1 + _ + 4 + _ + 2 ≤ 400
        omega
      have hYH : Hid (Y = D ++ ⟨#[32]⟩ ++ headT ss x) := Lib.hid (by
        rw [← hY.out]
        unfold headT
        rw [hn0.out, HT.out]
        simp only [ByteArray.append_assoc])
      go_upto_region 11 with (fail)
      go_cut [] (fun w2 => Hid (Bl w1.heap.size w1.heap.size (s ++ Y) w2) ∧ Hid (Kp w1.heap.size w1.heap.size V w2))
      case first =>
        have v0 : V.cell? ⟨q, 0, none⟩ = some (.int .i64 i) := by
          have := HQ.out.cell 0 rfl
          rwa [HI.out] at this
        have q0 := cell_below hbV.out q0
        have s1 : D.size + 1 ≤ 9223372036854775807 := by omega
        have s2 : D.size + 1 + z0.size ≤ 9223372036854775807 := by omega
        have s3 : D.size + 1 + z0.size + 4 ≤ 9223372036854775807 := by omega
        have s4 : D.size + 1 + z0.size + 4 + T.size ≤ 9223372036854775807 := by omega
        have s5 : D.size + 1 + z0.size + 4 + T.size + 2 ≤ 9223372036854775807 := by omega
        have hYs : s.size + Y.size ≤ 140737488355328 := by omega
        refine Rg.start 9 (fun w' => w'.cell? ⟨q, 0, none⟩ = some (.int .i64 i) ∧ w'.cell? (az.add (i * 4)) = some (.string z0)) 15 rfl (by kernel_rfl) ?_
        have hHeld : V.drew.cell? ⟨q, 0, none⟩ = some (.int .i64 i) ∧ V.drew.cell? (az.add (i * 4)) = some (.string z0) := ⟨v0, q0⟩
        refine Rg.pure 0 (v := ?v21) rfl (by kernel_rfl) (fun _ _ _ h => h) (by rfl) hHeld ?y21 ?h21
        case y21 => (intro wA; go_simp; first | done | with_reducible rfl | (rw [if_neg (by omega)]) | rfl)
        simp only [Act.put, List.setIfInBounds_toArray, List.set_cons_zero, List.set_cons_succ]
        refine Rg.pure 3 (v := ?v22) rfl (by kernel_rfl) (fun _ _ _ h => h) (by rfl) hHeld ?y22 ?h22
        case y22 => (intro wA; go_simp; first | done | with_reducible rfl | (rw [if_neg (by omega)]) | rfl)
        simp only [Act.put, List.setIfInBounds_toArray, List.set_cons_zero, List.set_cons_succ]
        refine Rg.pure 4 (v := ?v23) rfl (by kernel_rfl) (fun _ _ _ h => h) (by rfl) hHeld ?y23 ?h23
        case y23 => (intro wA; go_simp; first | done | with_reducible rfl | (rw [if_neg (by omega)]) | rfl)
        simp only [Act.put, List.setIfInBounds_toArray, List.set_cons_zero, List.set_cons_succ]
        refine Rg.held 5 (v := ?v24) rfl (by kernel_rfl) (fun _ _ _ h => h) (by rfl) hHeld ?y24 ?h24
        case y24 => (intro wA hSw; (try dsimp only at hSw); go_simp; first | done | with_reducible rfl | (rw [if_neg (by omega)]) | rfl)
        simp only [Act.put, List.setIfInBounds_toArray, List.set_cons_zero, List.set_cons_succ]
        refine Rg.pure 6 (v := ?v25) rfl (by kernel_rfl) (fun _ _ _ h => h) (by rfl) hHeld ?y25 ?h25
        case y25 => (intro wA; go_simp; first | done | with_reducible rfl | (rw [if_neg (by omega)]) | rfl)
        simp only [Act.put, List.setIfInBounds_toArray, List.set_cons_zero, List.set_cons_succ]
        refine Rg.pure 7 (v := ?v26) rfl (by kernel_rfl) (fun _ _ _ h => h) (by rfl) hHeld ?y26 ?h26
        case y26 => (intro wA; go_simp; first | done | with_reducible rfl | (rw [if_neg (by omega)]) | rfl)
        simp only [Act.put, List.setIfInBounds_toArray, List.set_cons_zero, List.set_cons_succ]
        refine Rg.held 8 (v := ?v27) rfl (by kernel_rfl) (fun _ _ _ h => h) (by rfl) hHeld ?y27 ?h27
        case y27 => (intro wA hSw; (try dsimp only at hSw); go_simp; first | done | with_reducible rfl | (rw [if_neg (by omega)]) | rfl)
        simp only [Act.put, List.setIfInBounds_toArray, List.set_cons_zero, List.set_cons_succ]
        refine Rg.pure 11 (v := ?v28) rfl (by kernel_rfl) (fun _ _ _ h => h) (by rfl) hHeld ?y28 ?h28
        case y28 => (intro wA; go_simp; first | done | with_reducible rfl | (rw [if_neg (by omega)]) | rfl)
        simp only [Act.put, List.setIfInBounds_toArray, List.set_cons_zero, List.set_cons_succ]
        refine Rg.one 1 rfl (by kernel_rfl) (fun K hK => ?_)
        refine step_call2 19 rfl rfl ?_
        go_simp
        go_at_call 19
        (with_reducible refine (itoaC k (by omega) _ (HPW.out.below (by repeat' first | exact hbV.out | (refine Below.drew ?_)))).mono ?_)
        rintro e w2 ⟨rfl, hb2⟩
        rw [HD.out]
        have hb2 : Below V.heap.size V w2 := ((Below.refl _ _).drew).trans hb2
        have hHeld2 : w2.cell? ⟨q, 0, none⟩ = some (.int .i64 i) ∧ w2.cell? (az.add (i * 4)) = some (.string z0) := ⟨cell_below hb2 v0, cell_below hb2 q0⟩
        refine hK.out _ _ hHeld2 ?_
        clear hK K hHeld
        try simp only [Act.put, List.setIfInBounds_toArray, List.set_cons_zero, List.set_cons_succ]
        refine Rg.pure 2 (v := ?v29) rfl (by kernel_rfl) (fun _ _ _ h => h) (by rfl) hHeld2 ?y29 ?h29
        case y29 => (intro wA; go_simp; first | done | with_reducible rfl | (rw [if_neg (by omega)]) | rfl)
        simp only [Act.put, List.setIfInBounds_toArray, List.set_cons_zero, List.set_cons_succ]
        clear hHeld2
        refine Rg.row [9, 10, 12, 13, 14] [_, _, _, _, _] rfl (by kernel_rfl) ?_
        go_wp2_with (go_at_call 18; rw [hY.out]; refine (bld_write (HBV.out.below hb2) Y hYs).mono ?_; rintro e w3 ⟨rfl, hBl3, hKp3⟩)
        go_meet
        case rel => exact ⟨Lib.hid hBl3, Lib.hid ((Kp.of_below hb2 hbV.out.size).trans hKp3)⟩
      obtain ⟨HB1, HK1⟩ := hcut
      obtain ⟨S1, hS1⟩ : ∃ S1, s ++ Y = S1 := ⟨_, rfl⟩
      have hS1z : S1.size ≤ s.size + 400 := by rw [← hS1, ByteArray.size_append]; omega
      rw [hS1] at HB1
      have HS1 := Lib.hid hS1
      clear hS1 q0
      have hszb : S1.size ≤ 500000000 := by omega
      have hsz0 := hsz
      have hv2 := (HQ.out.kept HK1.out (by decide) hqb).cell 2 rfl
      have hqw := (HQ.out.kept HK1.out (by decide) hqb).lt
      go_wp2
      clear hv2 hqw
      go_loopw [59] (fun iv wr => ∃ (j : Nat) (s2 : ByteArray), j ≤ x.steps.length ∧ iv = .int .i64 j ∧ s2.size ≤ S1.size + j * 30 ∧ Hid (s2 = S1 ++ catT (stepT n) (x.steps.take j)) ∧ Hid (Bl w1.heap.size w1.heap.size s2 wr) ∧ Hid (Kp w1.heap.size w1.heap.size V wr)) (fun i _ => x.steps.length - (intOf i).toNat)
      case atStart => exact ⟨0, S1, Nat.zero_le _, rfl, by omega, Lib.hid (by rw [List.take_zero]; unfold catT; rw [ba_nil]), HB1, HK1⟩
      case round =>
        obtain ⟨j, s2, hj, rfl, hsz2, HO, HB2, HK2⟩ := hrel
        have hstl := hNx.out.len.1
        have hbw : Below w1.heap.size w1 wr := hbV.out.trans HK2.out.low
        by_cases hlj : j < x.steps.length
        · obtain ⟨a2, rfl, x0, x1, EX2, g0, g1⟩ := stepK_at (Kn.C_below hbw RX.out.h2) j hlj
          obtain ⟨hx0, hx1⟩ := hNx.out.steps _ (mem_of_get EX2.out)
          obtain ⟨p, rfl⟩ : ∃ p : Nat, x0 = p := ⟨x0.toNat, by have := hx0.1; simp only at this; omega⟩
          have hpl : p < n.pieces.length := by have := hx0.2; simp only at this; omega
          clear hx0
          obtain ⟨ap, rfl, y0, y1, y2, y3, EP, k0', k1', k2', k3'⟩ := pieceK_at (Kn.C_below hbw hNC.out.p) p hpl
          clear k1' k2' k3'
          have k0' := cell_below (below_alloc wr (.cells #[.int .i64 p, .int .i64 x1] 71)) k0'
          have hpn : Hid (pName n p = y0) := Lib.hid (pName_at EP.out)
          have hys : y0.size ≤ 20 := by rw [← hpn.out]; exact HS.out.p _
          have n0 : (0 : Int) ≤ (p : Int) := Int.natCast_nonneg _
          have n1 : (p : Int) < (n.pieces.length : Int) := by omega
          have hpm := hNC.out.p.1
          have j0 : (0 : Int) ≤ (j : Int) := Int.natCast_nonneg _
          have j1 : (j : Int) < (x.steps.length : Int) := by omega
          have m0 := cell_below hbw f0
          have hwr : w.heap.size < wr.heap.size := Nat.lt_of_lt_of_le z1 hbw.size
          have s5 : 1 + y0.size ≤ 9223372036854775807 := by omega
          have s6 : 1 + y0.size + 1 ≤ 9223372036854775807 := by omega
          have hws : s2.size + (1 + y0.size + 1) ≤ 140737488355328 := by omega
          have HWS : Hid (s2.size + (1 + y0.size + 1) ≤ S1.size + (j + 1) * 30) := Lib.hid (by omega)
          have hcn := Lib.hid (catT_snoc (stepT n) x.steps j _ EX2.out)
          clear f0 f1 hbw
          simp only at hx1
          rcases hx1 with rfl | rfl
          · have HF : Hid (stepT n ⟨p, 1⟩ = (⟨#[32]⟩ : ByteArray) ++ y0 ++ ⟨#[43]⟩) := Lib.hid (by unfold stepT; rw [hpn.out]; rfl)
            go_wp2_with (go_at_call 18; refine (bld_write (HB2.out.below (below_alloc _ _)) _ (by rw [ByteArray.size_append, ByteArray.size_append]; exact hws)).mono ?_; rintro e w3 ⟨rfl, hBl3, hKp3⟩)
            go_roundw
            case rel => exact ⟨j + 1, s2 ++ ((⟨#[32]⟩ : ByteArray) ++ y0 ++ ⟨#[43]⟩), by omega, by go_num, by rw [ByteArray.size_append, ByteArray.size_append, ByteArray.size_append]; exact HWS.out, Lib.hid (by rw [hcn.out, HF.out, HO.out]; exact ByteArray.append_assoc), Lib.hid hBl3, Lib.hid (HK2.out.trans ((Kp.of_below (below_alloc _ _) HB2.out.le).trans hKp3))⟩
            case measure => simp [intOf]; omega
          · have HF : Hid (stepT n ⟨p, -1⟩ = (⟨#[32]⟩ : ByteArray) ++ y0 ++ ⟨#[45]⟩) := Lib.hid (by unfold stepT; rw [hpn.out]; rfl)
            go_wp2_with (go_at_call 18; refine (bld_write (HB2.out.below (below_alloc _ _)) _ (by rw [ByteArray.size_append, ByteArray.size_append]; exact hws)).mono ?_; rintro e w3 ⟨rfl, hBl3, hKp3⟩)
            go_roundw
            case rel => exact ⟨j + 1, s2 ++ ((⟨#[32]⟩ : ByteArray) ++ y0 ++ ⟨#[45]⟩), by omega, by go_num, by rw [ByteArray.size_append, ByteArray.size_append, ByteArray.size_append]; exact HWS.out, Lib.hid (by rw [hcn.out, HF.out, HO.out]; exact ByteArray.append_assoc), Lib.hid hBl3, Lib.hid (HK2.out.trans ((Kp.of_below (below_alloc _ _) HB2.out.le).trans hKp3))⟩
            case measure => simp [intOf]; omega
        · obtain rfl : j = x.steps.length := by omega
          have HO : Hid (s2 = S1 ++ catT (stepT n) x.steps) := Lib.hid (by have := HO.out; rwa [List.take_length] at this)
          have hsz3 : s2.size ≤ 500010000 := by omega
          have hv3 := (HQ.out.kept HK2.out (by decide) hqb).cell 3 rfl
          have hqw := (HQ.out.kept HK2.out (by decide) hqb).lt
          clear hsz2 hlj
          go_upto_if 81 with (fail)
          obtain ⟨wa, rfl⟩ : ∃ wa : World, wa = wr := ⟨_, rfl⟩
          go_cut [] (fun w2 => ∃ z : ByteArray, Hid (z = s2 ++ liesT n x) ∧ z.size ≤ s2.size + 7000 ∧ Hid (Bl w1.heap.size w1.heap.size z w2) ∧ Hid (Kp w1.heap.size w1.heap.size V w2))
          case first =>
            by_cases h : 0 < x.lies.length
            rotate_left
            · have d1 : decide ((0 : Int) < (x.lies.length : Int)) = false := decide_eq_false (by omega)
              have d2 : decide (0 < x.lies.length) = false := decide_eq_false h
              have h0 : x.lies = [] := List.eq_nil_of_length_eq_zero (by omega)
              have HE : Hid (liesT n x = ByteArray.empty) := Lib.hid (by unfold liesT; rw [h0]; rfl)
              clear h0
              go_wp2
              go_meet
              case rel => exact ⟨_, Lib.hid (by rw [HE.out, ba_nil]), by omega, HB2, HK2⟩
            have d1 : decide ((0 : Int) < (x.lies.length : Int)) = true := decide_eq_true (by omega)
            have d2 : decide (0 < x.lies.length) = true := decide_eq_true h
            have HE : Hid (liesT n x = (⟨#[32, 108, 105, 101, 115]⟩ : ByteArray) ++ catT (lieT n) x.lies) := Lib.hid (by unfold liesT; rw [if_pos h])
            go_wp2_with (go_at_call 18; refine (bld_write HB2.out ⟨#[32, 108, 105, 101, 115]⟩ (by show _ + 5 ≤ _; omega)).mono ?_; rintro e w3 ⟨rfl, hBl3, hKp3⟩; have hv3 := (HQ.out.kept (HK2.out.trans hKp3) (by decide) hqb).cell 3 rfl; have hqw := (HQ.out.kept (HK2.out.trans hKp3) (by decide) hqb).lt)
            obtain ⟨z, hz⟩ : ∃ z, s2 ++ (⟨#[32, 108, 105, 101, 115]⟩ : ByteArray) = z := ⟨_, rfl⟩
            have hzs : z.size ≤ 500010010 := by rw [← hz, ByteArray.size_append]; show _ + 5 ≤ _; omega
            have hzt : z.size = s2.size + 5 := by rw [← hz, ByteArray.size_append]; rfl
            rw [hz] at hBl3
            have HZ := Lib.hid hz
            have HB3 := Lib.hid hBl3
            have HK3 := Lib.hid (HK2.out.trans hKp3)
            clear hv3 hqw hBl3 hKp3 hz
            go_loopw [86] (fun iv wr => ∃ (j : Nat) (s3 : ByteArray), j ≤ x.lies.length ∧ iv = .int .i64 j ∧ s3.size ≤ z.size + j * 30 ∧ Hid (s3 = z ++ catT (lieT n) (x.lies.take j)) ∧ Hid (Bl w1.heap.size w1.heap.size s3 wr) ∧ Hid (Kp w1.heap.size w1.heap.size V wr)) (fun i _ => x.lies.length - (intOf i).toNat)
            case atStart => exact ⟨0, z, Nat.zero_le _, rfl, by omega, Lib.hid (by rw [List.take_zero]; unfold catT; rw [ba_nil]), HB3, HK3⟩
            case round =>
              obtain ⟨j, s3, hj, rfl, hsz4, HO3, HB4, HK4⟩ := hrel
              have hstl := hNx.out.len.2.1
              have hbw : Below w1.heap.size w1 wr := hbV.out.trans HK4.out.low
              have hlm := RX.out.h3.1
              by_cases hlj : j < x.lies.length
              · obtain ⟨a2, rfl, x0, x1, EX2, g0, g1⟩ := lieK_at (Kn.C_below hbw RX.out.h3) j hlj
                obtain ⟨jj, hjj, hjl, _, hl⟩ := hNx.out.lies _ (mem_of_get EX2.out)
                simp only at hjj hl
                subst hjj
                have hjn : (jName n jj).size ≤ 20 := HS.out.j _
                have hlz := lieT_size HS.out ⟨jj, x1⟩
                have j0 : (0 : Int) ≤ (j : Int) := Int.natCast_nonneg _
                have j1 : (j : Int) < (x.lies.length : Int) := by omega
                have m1 := cell_below hbw f1
                have HJ2 := Lib.hid (Kn.C_below hbw hNC.out.j)
                have hwr : w.heap.size < wr.heap.size := Nat.lt_of_lt_of_le z1 hbw.size
                obtain ⟨L, HLL⟩ : ∃ L, Hid (lieT n ⟨jj, x1⟩ = L) := ⟨_, Lib.hid rfl⟩
                have HLF := HLL
                rw [HLL.out] at hlz
                have hws : s3.size + L.size ≤ 140737488355328 := by omega
                have hcn := Lib.hid (catT_snoc (lieT n) x.lies j _ EX2.out)
                have hl := Lib.hid hl
                clear f0 f1 hbw
                go_wp2_with (first | (go_at_call 17; refine (implLie n jj x1 A1 c1 w.heap.size _ (Kn.C_below (below_alloc _ _) HJ2.out) (cell_below (below_alloc _ _) m1) hjl hl.out hjn).mono ?_; rintro e wl ⟨rfl, hbl⟩; rw [HLL.out]) | (go_at_call 18; refine (bld_write ((HB4.out.below (below_alloc _ _)).below hbl) L hws).mono ?_; rintro e w3 ⟨rfl, hBl3, hKp3⟩))
                go_roundw
                case rel => exact ⟨j + 1, s3 ++ L, by omega, by go_num, by rw [ByteArray.size_append]; omega, Lib.hid (by rw [hcn.out, HLF.out, HO3.out]; exact ByteArray.append_assoc), Lib.hid hBl3, Lib.hid (HK4.out.trans ((Kp.of_below ((below_alloc _ _).trans (hbl.mono (by simp))) HB4.out.le).trans hKp3))⟩
                case measure => simp [intOf]; omega
              · obtain rfl : j = x.lies.length := by omega
                have HO3 : Hid (s3 = z ++ catT (lieT n) x.lies) := Lib.hid (by have := HO3.out; rwa [List.take_length] at this)
                have hsz5 : s3.size ≤ s2.size + 7000 := by omega
                clear hsz4 hlj
                go_wp2
                go_meet
                case rel => exact ⟨s3, Lib.hid (by rw [HO3.out, HE.out, ← HZ.out]; exact ByteArray.append_assoc), hsz5, HB4, HK4⟩
          obtain ⟨s3, HO3, hs3, HB4, HK4⟩ := hcut
          have hsz5 : s3.size ≤ 500020000 := by omega
          clear hv3 hqw hs3
          have hv7 := (HQ.out.kept HK4.out (by decide) hqb).cell 7 rfl
          have hqw := (HQ.out.kept HK4.out (by decide) hqb).lt
          have hfm := RX.out.h7.1
          go_upto_if 101 with (fail)
          obtain ⟨wb, rfl⟩ : ∃ wb : World, wb = wc := ⟨_, rfl⟩
          go_cut [] (fun w2 => ∃ z : ByteArray, Hid (z = s3 ++ flanksT n ss x) ∧ z.size ≤ s3.size + 1300000 ∧ Hid (Bl w1.heap.size w1.heap.size z w2) ∧ Hid (Kp w1.heap.size w1.heap.size V w2))
          case first =>
            by_cases h : 0 < x.flanks.length
            rotate_left
            · have d1 : decide ((0 : Int) < (x.flanks.length : Int)) = false := decide_eq_false (by omega)
              have d2 : decide (0 < x.flanks.length) = false := decide_eq_false h
              have h0 : x.flanks = [] := List.eq_nil_of_length_eq_zero (by omega)
              have HE : Hid (flanksT n ss x = ByteArray.empty) := Lib.hid (by unfold flanksT; rw [h0]; rfl)
              clear h0
              go_wp2
              go_meet
              case rel => exact ⟨_, Lib.hid (by rw [HE.out, ba_nil]), by omega, HB4, HK4⟩
            have d1 : decide ((0 : Int) < (x.flanks.length : Int)) = true := decide_eq_true (by omega)
            have d2 : decide (0 < x.flanks.length) = true := decide_eq_true h
            have HE : Hid (flanksT n ss x = (⟨#[32, 102, 108, 97, 110, 107, 115]⟩ : ByteArray) ++ catT (flankT n ss) x.flanks) := Lib.hid (by unfold flanksT; rw [if_pos h])
            go_wp2_with (go_at_call 18; refine (bld_write HB4.out ⟨#[32, 102, 108, 97, 110, 107, 115]⟩ (by show _ + 7 ≤ _; omega)).mono ?_; rintro e w3 ⟨rfl, hBl3, hKp3⟩; have hv7 := (HQ.out.kept (HK4.out.trans hKp3) (by decide) hqb).cell 7 rfl; have hqw := (HQ.out.kept (HK4.out.trans hKp3) (by decide) hqb).lt)
            obtain ⟨y, hy⟩ : ∃ y, s3 ++ (⟨#[32, 102, 108, 97, 110, 107, 115]⟩ : ByteArray) = y := ⟨_, rfl⟩
            have hys : y.size ≤ 500020010 := by rw [← hy, ByteArray.size_append]; show _ + 7 ≤ _; omega
            have hyt : y.size = s3.size + 7 := by rw [← hy, ByteArray.size_append]; rfl
            rw [hy] at hBl3
            have HY := Lib.hid hy
            have HB5 := Lib.hid hBl3
            have HK5 := Lib.hid (HK4.out.trans hKp3)
            clear hv7 hqw hBl3 hKp3 hy
            go_loopw [106] (fun iv wr => ∃ (j : Nat) (s4 : ByteArray), j ≤ x.flanks.length ∧ iv = .int .i64 j ∧ s4.size ≤ y.size + j * 30 ∧ Hid (s4 = y ++ catT (flankT n ss) (x.flanks.take j)) ∧ Hid (Bl w1.heap.size w1.heap.size s4 wr) ∧ Hid (Kp w1.heap.size w1.heap.size V wr)) (fun i _ => x.flanks.length - (intOf i).toNat)
            case atStart => exact ⟨0, y, Nat.zero_le _, rfl, by omega, Lib.hid (by rw [List.take_zero]; unfold catT; rw [ba_nil]), HB5, HK5⟩
            case round =>
              obtain ⟨j, s4, hj, rfl, hsz6, HO4, HB6, HK6⟩ := hrel
              have hstl := hNx.out.len.2.2
              have hbw : Below w1.heap.size w1 wr := hbV.out.trans HK6.out.low
              by_cases hlj : j < x.flanks.length
              · obtain ⟨a2, rfl, x0, x1, x2, x3, EX2, g0, g1, g2, g3⟩ := flankK_at (Kn.C_below hbw RX.out.h7) j hlj
                have hcn := Lib.hid (catT_snoc (flankT n ss) x.flanks j _ EX2.out)
                have hlz := flankT_size HS.out ⟨x0, x1, x2, x3⟩
                have j0 : (0 : Int) ≤ (j : Int) := Int.natCast_nonneg _
                have j1 : (j : Int) < (x.flanks.length : Int) := by omega
                have m1 := cell_below hbw f1
                have hwr : w.heap.size < wr.heap.size := Nat.lt_of_lt_of_le z1 hbw.size
                rcases hNx.out.flanks _ (mem_of_get EX2.out) with h | ⟨h, b, hb2, hbl⟩ | ⟨h, ⟨jj, hjj, hjl, _⟩, hl⟩ | h
                · simp only at h
                  subst h
                  have HF : Hid (flankT n ss ⟨x0, 1, x2, x3⟩ = ⟨#[32, 98, 117, 102, 102, 101, 114]⟩) := Lib.hid rfl
                  have hws : s4.size + 7 ≤ 140737488355328 := by omega
                  have HWS : Hid (s4.size + 7 ≤ y.size + (j + 1) * 30) := Lib.hid (by omega)
                  clear f0 f1 hbw hlz m1
                  go_wp2_with (go_at_call 18; refine (bld_write (HB6.out.below (below_alloc _ _)) ⟨#[32, 98, 117, 102, 102, 101, 114]⟩ hws).mono ?_; rintro e w3 ⟨rfl, hBl3, hKp3⟩)
                  go_roundw
                  case rel => exact ⟨j + 1, _, by omega, by go_num, by rw [ByteArray.size_append]; exact HWS.out, Lib.hid (by rw [hcn.out, HF.out, HO4.out]; exact ByteArray.append_assoc), Lib.hid hBl3, Lib.hid (HK6.out.trans ((Kp.of_below (below_alloc _ _) HB6.out.le).trans hKp3))⟩
                  case measure => simp [intOf]; omega
                · simp only at h hb2
                  subst h hb2
                  obtain ⟨az', he, y0, e1, e2, e3, EY, p0, p1, p2, p3⟩ := signalK_at (Kn.C_below hbw hSC.out) b hbl
                  obtain rfl := Option.some.inj he
                  clear he p1 p2 p3
                  have p0 := cell_below (below_alloc wr (.cells #[.int .i64 x0, .int .i64 2, .int .i64 b, .int .i64 x3] 77)) p0
                  have b0 : (0 : Int) ≤ (b : Int) := Int.natCast_nonneg _
                  have b1 : (b : Int) < (ss.length : Int) := by omega
                  have HF : Hid (flankT n ss ⟨x0, 2, b, x3⟩ = (⟨#[32]⟩ : ByteArray) ++ y0) := Lib.hid (by show (⟨#[32]⟩ : ByteArray) ++ sName ss b = _; rw [sName_at EY.out])
                  rw [HF.out, ByteArray.size_append] at hlz
                  have hy0 : 1 + y0.size ≤ 30 := hlz
                  have s5 : 1 + y0.size ≤ 9223372036854775807 := by omega
                  have hws : s4.size + (1 + y0.size) ≤ 140737488355328 := by omega
                  have HWS : Hid (s4.size + (1 + y0.size) ≤ y.size + (j + 1) * 30) := Lib.hid (by omega)
                  clear f0 f1 hbw hlz m1
                  go_wp2_with (go_at_call 18; refine (bld_write (HB6.out.below (below_alloc _ _)) ((⟨#[32]⟩ : ByteArray) ++ y0) (by rw [ByteArray.size_append]; exact hws)).mono ?_; rintro e w3 ⟨rfl, hBl3, hKp3⟩)
                  go_roundw
                  case rel => exact ⟨j + 1, _, by omega, by go_num, by rw [ByteArray.size_append, ByteArray.size_append]; exact HWS.out, Lib.hid (by rw [hcn.out, HF.out, HO4.out]; exact ByteArray.append_assoc), Lib.hid hBl3, Lib.hid (HK6.out.trans ((Kp.of_below (below_alloc _ _) HB6.out.le).trans hKp3))⟩
                  case measure => simp [intOf]; omega
                · simp only at h hjj hl
                  subst h hjj
                  have hjn : (jName n jj).size ≤ 20 := HS.out.j _
                  have HJ2 := Lib.hid (Kn.C_below hbw hNC.out.j)
                  obtain ⟨L, HLL⟩ : ∃ L, Hid (lieT n ⟨jj, x3⟩ = L) := ⟨_, Lib.hid rfl⟩
                  have HLF : Hid (flankT n ss ⟨x0, 3, jj, x3⟩ = L) := Lib.hid HLL.out
                  rw [HLF.out] at hlz
                  have hws : s4.size + L.size ≤ 140737488355328 := by omega
                  have hl := Lib.hid hl
                  clear f0 f1 hbw
                  go_wp2_with (first | (go_at_call 17; refine (implLie n jj x3 A1 c1 w.heap.size _ (Kn.C_below (below_alloc _ _) HJ2.out) (cell_below (below_alloc _ _) m1) hjl hl.out hjn).mono ?_; rintro e wl ⟨rfl, hbl⟩; rw [HLL.out]) | (go_at_call 18; refine (bld_write ((HB6.out.below (below_alloc _ _)).below hbl) L hws).mono ?_; rintro e w3 ⟨rfl, hBl3, hKp3⟩))
                  go_roundw
                  case rel => exact ⟨j + 1, s4 ++ L, by omega, by go_num, by rw [ByteArray.size_append]; omega, Lib.hid (by rw [hcn.out, HLF.out, HO4.out]; exact ByteArray.append_assoc), Lib.hid hBl3, Lib.hid (HK6.out.trans ((Kp.of_below ((below_alloc _ _).trans (hbl.mono (by simp))) HB6.out.le).trans hKp3))⟩
                  case measure => simp [intOf]; omega
                · simp only at h
                  subst h
                  have HF : Hid (flankT n ss ⟨x0, 4, x2, x3⟩ = ⟨#[32, 111, 112, 101, 110]⟩) := Lib.hid rfl
                  have hws : s4.size + 5 ≤ 140737488355328 := by omega
                  have HWS : Hid (s4.size + 5 ≤ y.size + (j + 1) * 30) := Lib.hid (by omega)
                  clear f0 f1 hbw hlz m1
                  go_wp2_with (go_at_call 18; refine (bld_write (HB6.out.below (below_alloc _ _)) ⟨#[32, 111, 112, 101, 110]⟩ hws).mono ?_; rintro e w3 ⟨rfl, hBl3, hKp3⟩)
                  go_roundw
                  case rel => exact ⟨j + 1, _, by omega, by go_num, by rw [ByteArray.size_append]; exact HWS.out, Lib.hid (by rw [hcn.out, HF.out, HO4.out]; exact ByteArray.append_assoc), Lib.hid hBl3, Lib.hid (HK6.out.trans ((Kp.of_below (below_alloc _ _) HB6.out.le).trans hKp3))⟩
                  case measure => simp [intOf]; omega
              · obtain rfl : j = x.flanks.length := by omega
                have HO4 : Hid (s4 = y ++ catT (flankT n ss) x.flanks) := Lib.hid (by have := HO4.out; rwa [List.take_length] at this)
                have hsz7 : s4.size ≤ s3.size + 1300000 := by omega
                clear hsz6 hlj
                go_wp2
                go_meet
                case rel => exact ⟨s4, Lib.hid (by rw [HO4.out, HE.out, ← HY.out]; exact ByteArray.append_assoc), hsz7, HB6, HK6⟩
          obtain ⟨s4, HO4, hs4, HB6, HK6⟩ := hcut
          have HEQ : Hid (s4 ++ (⟨#[10]⟩ : ByteArray) = s ++ (D ++ ⟨#[32]⟩ ++ lineT n ss x)) := Lib.hid (by
            rw [HO4.out, HO3.out, HO.out, ← HS1.out, hYH.out]
            unfold lineT
            simp only [ByteArray.append_assoc])
          have hws : s4.size + 1 ≤ 140737488355328 := by omega
          have HSZ : Hid ((s4 ++ (⟨#[10]⟩ : ByteArray)).size ≤ (k + 1) * 1400500) := Lib.hid (by
            rw [HEQ.out, ByteArray.size_append, ByteArray.size_append, ByteArray.size_append]
            have := hlz.out
            show _ + (_ + 1 + _) ≤ _
            omega)
          clear hs4 hv7 hqw
          go_wp2_with (go_at_call 18; refine (bld_write HB6.out ⟨#[10]⟩ hws).mono ?_; rintro e w3 ⟨rfl, hBl3, hKp3⟩)
          go_roundw
          case rel => exact ⟨k + 1, _, by omega, by go_num, HSZ.out, Lib.hid (by rw [HEQ.out, hsn.out, Nat.zero_add, HD.out, HL.out]), Lib.hid hBl3, Lib.hid (hbV.out.trans (HK6.out.low.trans hKp3.low))⟩
          case measure => simp [intOf]; omega
    · obtain rfl : k = gs.length := by omega
      have HL : Hid (s = listT n ss gs 0) := Lib.hid (by have := HL.out; rwa [List.take_length] at this)
      go_wp2_with (go_at_call 20; refine (bld_string HBl.out).mono ?_; rintro e w5 ⟨rfl, hb5⟩)
      go_ret
      exact ⟨by rw [HF.out, ← HL.out]; rfl, HB0.out.trans ((hb.out.trans hb5).mono HB0.out.size)⟩
end Go.Proofs.YtamhkgphbpbhfaaDoor.L
namespace Go.Proofs.YtamhkgphbpbhfaaDoor.L
open Go.RowKit
open Classical
set_option linter.unusedVariables false
set_option linter.unusedSimpArgs false
def nl (s : ByteArray) : Nat := s.data.toList.count 10
theorem nl_app (s t : ByteArray) : nl (s ++ t) = nl s + nl t := by
  unfold nl
  rw [ByteArray.data_append, Array.toList_append, List.count_append]
theorem nl_empty : nl ByteArray.empty = 0 := rfl
theorem nl_name {s : ByteArray} (h : nameTo s s.size) : nl s = 0 := by
  unfold nl
  rw [List.count_eq_zero]
  intro hm
  obtain ⟨j, hj, he⟩ := List.getElem_of_mem hm
  have hj' : j < s.size := by rw [Array.length_toList] at hj; exact hj
  have h1 := h j hj' hj'
  have h2 : s[j] = 10 := by rw [← he, Array.getElem_toList]; rfl
  rw [h2] at h1
  unfold nameB at h1
  have : (10 : UInt8).toNat = 10 := rfl
  omega
theorem nl_dec (u : Nat) : nl (decT u) = 0 := by
  have key : ∀ m u, u ≤ m → ¬ (10 : UInt8) ∈ Lib.decDigits u := by
    have dig : ∀ d, d < 10 → ¬ (10 : UInt8) = UInt8.ofNat (48 + d) := by decide
    intro m
    induction m with
    | zero =>
      intro u hu
      rw [Lib.decDigits, dif_pos (by omega), List.mem_singleton]
      exact dig u (by omega)
    | succ m ih =>
      intro u hu
      by_cases h : u < 10
      · rw [Lib.decDigits, dif_pos h, List.mem_singleton]
        exact dig u h
      · rw [Lib.decDigits, dif_neg h, List.mem_append, List.mem_singleton]
        rintro (e | e)
        · exact ih _ (by omega) e
        · exact dig _ (Nat.mod_lt _ (by omega)) e
  unfold nl decT
  rw [List.count_eq_zero]
  simpa using key u u (Nat.le_refl _)
structure Clean (n : Net) (ss : List Signal) : Prop where
  p : ∀ k, nl (pName n k) = 0
  j : ∀ k, nl (jName n k) = 0
  s : ∀ k, nl (sName ss k) = 0
theorem clean_of_ok {n : Net} {ss : List Signal} (h : signalsOk n ss = ⟨0, 0⟩) : Clean n ss := by
  have hr := right_of_ok h
  have hn : netOk n = ⟨0, 0⟩ := by
    refine Classical.byContradiction fun hc => ?_
    unfold signalsOk at h
    rw [if_pos hc] at h
    simp at h
  refine ⟨fun k => ?_, fun k => ?_, fun k => ?_⟩
  · unfold pName
    cases hx : n.pieces[k.toNat]? with
    | none => exact nl_empty
    | some x => exact nl_name (hr.g.piece x (List.mem_of_getElem? hx)).1.2.2
  · unfold jName
    cases hx : n.joints[k.toNat]? with
    | none => exact nl_empty
    | some x =>
      show nl x.name = 0
      unfold netOk at hn
      split at hn
      · simp at hn
      split at hn
      · simp at hn
      split at hn
      · simp at hn
      split at hn
      · simp at hn
      rename_i g4
      refine Classical.byContradiction fun hc => g4 ⟨k.toNat, (List.getElem?_eq_some_iff.1 hx).1, x, hx, ?_⟩
      by_cases hk : x.kind < 3
      · refine .inl ⟨hk, fun e => hc ?_⟩
        rw [e]
        exact nl_empty
      · exact .inr ⟨by omega, .inl (fun e => hc (nl_name e.2.2))⟩
  · unfold sName
    cases hx : ss[k.toNat]? with
    | none => exact nl_empty
    | some x => exact nl_name (hr.sig x (List.mem_of_getElem? hx)).1.2.2
section
variable {n : Net} {ss : List Signal}
theorem nl_cat {α : Type} {f : α → ByteArray} : ∀ {l : List α}, (∀ x ∈ l, nl (f x) = 0) → nl (catT f l) = 0
  | [], _ => nl_empty
  | x :: l, h => by rw [catT, nl_app, h x (by simp), nl_cat (fun y hy => h y (by simp [hy]))]
theorem nl_lie (h : Clean n ss) (l : Lie) : nl (lieT n l) = 0 := by
  unfold lieT
  rw [nl_app, nl_app, h.j]
  have : nl (lieSign l.lie) = 0 := by unfold lieSign; split <;> rfl
  rw [this]
  rfl
theorem nl_step (h : Clean n ss) (s : Step) : nl (stepT n s) = 0 := by
  unfold stepT
  rw [nl_app, nl_app, h.p]
  split <;> rfl
theorem nl_flank (h : Clean n ss) (f : Flank) : nl (flankT n ss f) = 0 := by
  unfold flankT
  split
  · rfl
  split
  · rw [nl_app, h.s]; rfl
  split
  · exact nl_lie h _
  · rfl
theorem nl_head (h : Clean n ss) (r : Route) : nl (headT ss r) = 0 := by
  unfold headT tilT
  rw [nl_app, nl_app, nl_app, h.s]
  split
  · rfl
  · rw [h.s]; rfl
theorem nl_line (h : Clean n ss) (r : Route) : nl (lineT n ss r) = 1 := by
  unfold lineT liesT flanksT
  rw [nl_app, nl_app, nl_app, nl_app, nl_app, nl_app, nl_head h, nl_cat (fun x _ => nl_step h x), nl_cat (fun x _ => nl_lie h x), nl_cat (fun x _ => nl_flank h x)]
  have e1 : nl (if 0 < r.lies.length then (⟨#[32, 108, 105, 101, 115]⟩ : ByteArray) else ByteArray.empty) = 0 := by split <;> rfl
  have e2 : nl (if 0 < r.flanks.length then (⟨#[32, 102, 108, 97, 110, 107, 115]⟩ : ByteArray) else ByteArray.empty) = 0 := by split <;> rfl
  rw [e1, e2]
  rfl
theorem nl_list (h : Clean n ss) : ∀ (l : List Route) (k : Nat), nl (listT n ss l k) = l.length
  | [], _ => nl_empty
  | r :: l, k => by
    rw [listT, nl_app, nl_app, nl_app, nl_dec, nl_line h, nl_list h l (k + 1), List.length_cons]
    show 0 + 0 + 1 + l.length = _
    omega
end
end Go.Proofs.YtamhkgphbpbhfaaDoor.L
namespace Go.Proofs.YtamhkgphbpbhfaaDoor.L
open Go.RowKit
open Classical
set_option linter.unusedVariables false
set_option linter.unusedSimpArgs false
def nlTo (s : ByteArray) (k : Nat) : Nat := (s.data.toList.take k).count 10
theorem nlTo_zero (s : ByteArray) : nlTo s 0 = 0 := rfl
theorem nlTo_all (s : ByteArray) : nlTo s s.size = nl s := by
  unfold nlTo nl
  rw [List.take_of_length_le (by rw [Array.length_toList]; exact Nat.le_refl _)]
theorem nlTo_succ {s : ByteArray} {k : Nat} (hk : k < s.size) : nlTo s (k + 1) = nlTo s k + (if s[k] = 10 then 1 else 0) := by
  unfold nlTo
  have hk' : k < s.data.toList.length := by rw [Array.length_toList]; exact hk
  rw [List.take_add_one, List.getElem?_eq_getElem hk', List.count_append]
  have e : s.data.toList[k] = s[k] := by rw [Array.getElem_toList]; rfl
  rw [e]
  congr 1
  by_cases h : s[k] = 10
  · rw [if_pos h, h]
    rfl
  · rw [if_neg h]
    simp [List.count_cons, h]
theorem nlTo_le (s : ByteArray) (k : Nat) : nlTo s k ≤ k := by
  unfold nlTo
  exact Nat.le_trans List.count_le_length (by rw [List.length_take]; omega)
theorem listT_big {n : Net} {ss : List Signal} (h : Short n ss) : ∀ (l : List Route) (k : Nat), (∀ r ∈ l, Named n ss r) → k + l.length ≤ 300 → (listT n ss l k).size ≤ l.length * 1400500
  | [], k, _, _ => by rw [listT]; exact Nat.zero_le _
  | r :: l, k, hr, hk => by
    rw [List.length_cons] at hk
    have h1 := listT_big h l (k + 1) (fun q hq => hr q (by simp [hq])) (by omega)
    have h2 := lineT_size h (hr r (by simp))
    have h3 := decT_size k
    rw [listT, List.length_cons, Nat.succ_mul]
    simp only [ByteArray.size_append]
    have h4 : (⟨#[32]⟩ : ByteArray).size = 1 := rfl
    omega
theorem list_law {n : Net} {ss : List Signal} {ov : Int} (hn : Dr n) (hs : Ss n ss) : nl (listF n ss (routesF n ss ov)) = (routesF n ss ov).length ∧ (listF n ss (routesF n ss ov)).size ≤ 420150000 := by
  have hok := Ss.ok hn hs
  have hl : listedF n ss (routesF n ss ov) := ⟨hok, routesF_len n ss ov, fun r hr => unov_in hr⟩
  have hlen := routesF_len n ss ov
  unfold listF
  rw [if_pos hl]
  refine ⟨nl_list (clean_of_ok hok) _ _, ?_⟩
  have h1 := listT_big (short_of_ok hok) (routesF n ss ov) 0 (named_listed hl) (by omega)
  have h2 := Nat.mul_le_mul_right 1400500 hlen
  omega
theorem RetRR.Cd {rs : List Route} {w w' : World} {e : Ending} (h : RetRR rs w e w') : ∃ A c, e = .returned (.slice A rs.length c) ∧ rs.length ≤ c ∧ Hid (rK.C w' (fun _ => True) A rs) ∧ Below w.heap.size w w' := by
  obtain ⟨A, c, rfl, hl, hR, _, hb⟩ := h
  exact ⟨A, c, rfl, hl, Lib.hid (Kn.C_mono (fun _ _ => trivial) (Rw_slice hR.out).2.2), hb⟩
set_option maxRecDepth 100000 in
set_option maxHeartbeats 16000000 in
theorem lawText {ok : Nat → Prop} (bs : List Int) (A : Option Addr) (c : Nat) (w : World) (hx : byteK.C w ok A bs) (hbs : Hid (∀ x ∈ bs, 0 ≤ x ∧ x ≤ 255)) (hpw : Pows w) : Calls Tryd.prog 3 #[.slice A bs.length c] w (RetB true w) := by
  have hm := hx.1
  have HX := Lib.hid hx
  have HPW := Lib.hid hpw
  clear hx hpw
  by_cases hl : 1048576 < bs.length
  · have d0 : decide ((1048576 : Int) < (bs.length : Int)) = true := decide_eq_true (by omega)
    go_enter Tryd.func3, Tryd.ntmps3
    go_wp2
    go_ret
    exact ⟨rfl, Below.refl _ _⟩
  have d0 : decide ((1048576 : Int) < (bs.length : Int)) = false := decide_eq_false (by omega)
  go_enter Tryd.func3, Tryd.ntmps3
  go_wp2_with fail
  refine (drDrawn bs A c _ HX.out hbs).mono ?_
  rintro e w1 ⟨n, ss, ov, A0, A1, A2, c0, c1, c2, rfl, HD, HS, hc2, ov0, ov1, HN, HSg, HB1⟩
  clear d0 hl
  obtain ⟨W2, hW2, hb2, BN⟩ : ∃ W, W = w1.alloc (.cells #[.slice A0 n.pieces.length c0, .slice A1 n.joints.length c1] 26) ∧ Hid (Below w1.heap.size w1 W) ∧ Hid (Blk W w1.heap.size 26 [.slice A0 n.pieces.length c0, .slice A1 n.joints.length c1]) := ⟨_, rfl, Lib.hid (below_alloc _ _), Lib.hid (Blk.new _ _ _ rfl)⟩
  go_upto_region 4 with (fail)
  rw [← hW2]
  clear hW2
  have HN := Lib.hid (HN.out.below hb2.out)
  have HSg := Lib.hid (Kn.C_below hb2.out HSg.out)
  have HB2 := Lib.hid (HB1.out.trans (hb2.out.mono HB1.out.size))
  have s0 := BN.out.cell 0 rfl
  have s1 := BN.out.cell 1 rfl
  have hz : w1.heap.size < W2.heap.size := BN.out.lt
  go_wp2_with fail
  refine (specRoutes n ss ov A0 A1 A2 c0 c1 c2 _ HN.out HSg.out HD.out.sm.netIn HS.out.sigIn).mono ?_
  intro e w3 hr
  obtain ⟨P, cp, rfl, hcp, HC, hb3⟩ := RetRR.Cd hr
  have HLaw := Lib.hid (list_law (ov := ov) HD.out HS.out)
  obtain ⟨gs, hgs⟩ : ∃ l, Hid (routesF n ss ov = l) := ⟨_, Lib.hid rfl⟩
  rw [hgs.out] at HC HLaw ⊢
  have hgl : gs.length ≤ 300 := by rw [← hgs.out]; exact routesF_len n ss ov
  clear hr
  have HN := Lib.hid (HN.out.below hb3)
  have HSg := Lib.hid (Kn.C_below hb3 HSg.out)
  have BN := Lib.hid (BN.out.below hb3 BN.out.lt)
  have HB3 := Lib.hid (HB2.out.trans (hb3.mono HB2.out.size))
  have s0 := BN.out.cell 0 rfl
  have s1 := BN.out.cell 1 rfl
  have hz : w1.heap.size < w3.heap.size := BN.out.lt
  clear hb3 hb2 HB1 HB2 hcp
  go_wp2_with fail
  refine (implListing n ss gs A0 A1 A2 P c0 c1 c2 cp _ HN.out HSg.out hc2 HC.out HD.out.sm.netIn HS.out.sigIn (HPW.out.below HB3.out)).mono ?_
  rintro e w4 ⟨rfl, hb4⟩
  have HN := Lib.hid (HN.out.below hb4)
  have HSg := Lib.hid (Kn.C_below hb4 HSg.out)
  have HC := Lib.hid (Kn.C_below hb4 HC.out)
  have BN := Lib.hid (BN.out.below hb4 BN.out.lt)
  have HB4 := Lib.hid (HB3.out.trans (hb4.mono HB3.out.size))
  obtain ⟨T, hT⟩ : ∃ T, Hid (listF n ss gs = T) := ⟨_, Lib.hid rfl⟩
  rw [hT.out] at HLaw ⊢
  have hTs : T.size ≤ 420150000 := HLaw.out.2
  clear hb4 HB3 s0 s1 hz
  go_wp2
  go_loopw [8, 9] (fun kv iv wr => ∃ i : Nat, i ≤ T.size ∧ iv = .int .i64 i ∧ kv = .int .i64 (nlTo T i) ∧ wr = w4) (fun _ iv _ => T.size - (intOf iv).toNat)
  case atStart => exact ⟨0, Nat.zero_le _, rfl, by rw [nlTo_zero]; rfl, rfl⟩
  case round =>
  obtain ⟨i, hi, rfl, rfl, rfl⟩ := hrel
  by_cases hli : i < T.size
  · have d1 : decide ((i : Int) < (T.size : Int)) = true := decide_eq_true (by omega)
    have hcn := nlTo_le T i
    by_cases h10 : T[i] = 10
    · have hb : ((T[i].toNat : Int) == 10) = true := by rw [h10]; rfl
      have HN1 : Hid (nlTo T (i + 1) = nlTo T i + 1) := Lib.hid (by rw [nlTo_succ hli, if_pos h10])
      clear h10
      go_wp2
      go_roundw
      case rel => exact ⟨i + 1, by omega, by go_num, by rw [HN1.out]; go_num, trivial⟩
      case measure => simp [intOf]; omega
    · have hb : ((T[i].toNat : Int) == 10) = false := int_eqf (fun e => h10 (UInt8.toNat.inj (by have h2 : (10 : UInt8).toNat = 10 := rfl; rw [h2]; omega)))
      have HN1 : Hid (nlTo T (i + 1) = nlTo T i) := Lib.hid (by rw [nlTo_succ hli, if_neg h10, Nat.add_zero])
      clear h10
      go_wp2
      go_roundw
      case rel => exact ⟨i + 1, by omega, by go_num, by rw [HN1.out], trivial⟩
      case measure => simp [intOf]; omega
  obtain rfl : i = T.size := by omega
  have d1 : decide ((T.size : Int) < (T.size : Int)) = false := decide_eq_false (by omega)
  have s0 := BN.out.cell 0 rfl
  have s1 := BN.out.cell 1 rfl
  have hz : w1.heap.size < wr.heap.size := BN.out.lt
  have hNL : Hid (nlTo T T.size = gs.length) := Lib.hid (by rw [nlTo_all]; exact HLaw.out.1)
  rw [hNL.out]
  go_wp2_with fail
  refine (specListing n ss gs A0 A1 A2 P c0 c1 c2 cp _ HN.out HSg.out hc2 HC.out HD.out.sm.netIn HS.out.sigIn).mono ?_
  rintro e w5 ⟨rfl, hb5⟩
  rw [hT.out]
  have hTT : (T.toList == T.toList) = true := str_eq rfl
  go_wp2
  go_ret
  exact ⟨rfl, HB4.out.trans (hb5.mono HB4.out.size)⟩
end Go.Proofs.YtamhkgphbpbhfaaDoor.L
namespace Go.Proofs.YtamhkgphbpbhfaaDoor.fnText
open Go.ChangeShapes Go.WideShapes Go.ChangeAt Go.RowKit Go.Proofs.YtamhkgphbpbhfaaDoor.L
theorem law_lift_laid {H : Type} {enc : TypeId × Value → H} {C : Checked} {os : Os} {f : FuncId} {fn : Func} {s : ChangeSpec} {tb : TypeId} (ld : List (String × DataW Unit))
    (own : ownKnob C.prog.godebug = none) (started : os.Started) (noInit : C.prog.inits.idxOf? f = none) (hfn : C.prog.funcs[f]? = some fn) (hl : laidOutB C.prog = true)
    (hs : s.vars = []) (hr : fn.resultTypes.toList = [tb]) (hb : C.prog.underlying tb = some .bool) (hp : ∀ t ∈ fn.params.toList, C.prog.readableRec t = true ∧ t < C.prog.types.size)
    (hfc : ∀ ds : List (DataW H), ds.length = fn.params.toList.length → s.fn H ds = { results := [.lit (.bool true)], args := ds })
    (witness : ∃ (w : World) (tape : Tape) (i : Input), w.os = os ∧ (w.forCall tape i).Shaped C.prog ∧ i.vars = [] ∧ Input.okWide C.prog (w.forCall tape i) .any w.heap.size f i ∧
      ((s.pre enc C.prog fn [] false (w.forCall tape i).memory i.args ∧ laidMetH C.prog ld (w.forCall tape i).memory) ∧ sizedMet enc C.prog fn (OpenSpec.ofChange s) false (w.forCall tape i).memory i.args) ∧ Assume.holds {} C.prog (lone (Frame.enter C.prog f i.args .normal) [] (w.forCall tape i)))
    (walk : ∀ (W : World) (base : Nat) (args : Array Value) (ds : List (DataW H)) (p : List MemPlace), (∀ (j : Nat) t v, fn.params.toList[j]? = some t → args[j]? = some v → Value.okWide C.prog W .any base t v) → laidMetH C.prog ld W →
      DataW.TrodAll enc C.prog W 0 (fun _ => true) true fn.params.toList args.toList ds p → Calls C.prog f args W fun e W' => e = .returned (.bool true) ∧ Below W.heap.size W W') :
    ReturnsInHanded {} C os f .any (fun w args => (s.pre enc C.prog fn [] false w args ∧ laidMetH C.prog ld w) ∧ sizedMet enc C.prog fn (OpenSpec.ofChange s) false w args) (s.post enc C.prog fn false true false false) := by
  refine returnsInHanded_of_change_and (X := fun w _ => laidMetH C.prog ld w) (fun _ _ _ hh h => h.of_heap hh) own started noInit hfn witness ?_
  intro W base args ds gs before hval hW _ _ hL _
  have hW' := hW
  obtain ⟨p, q, hA, hV, rfl, _, _⟩ := hW
  rw [hs] at hV
  obtain ⟨rfl, rfl⟩ := trodVars_none hV
  have hlt : ∀ x ∈ p, x.block < W.heap.size := fun x hx => hW'.lt x (List.mem_append_left _ hx)
  refine (walk W base args ds p (fun j t v h1 h2 => hval j t v (by rw [← Array.getElem?_toList]; exact h1) h2) hL hA).mono fun e W' ⟨he, hw⟩ => ?_
  subst he
  have hlen := trodAll_len _ _ _ _ hA
  have hsz : fn.resultTypes.size = 1 := by rw [← Array.length_toList, hr]; rfl
  refine ⟨_, rfl, ds, [], _, [], p, [], hW', ?_, ?_, ?_, hw.frame _, fun h => by cases h⟩
  · rw [List.append_nil, hfc ds hlen, hr, hsz]
    exact trodAll_mk1 (shut_bool hb _)
  · rw [List.append_nil, hfc ds hlen]
    exact trodAll_below hl hw _ _ _ _ hp hA hlt
  · rw [List.append_nil, hfc ds hlen, hs]
    rfl
def deb32 : List Int := [0, 1, 28, 2, 29, 14, 24, 3, 30, 22, 20, 15, 25, 17, 4, 8, 31, 27, 13, 23, 21, 19, 16, 7, 26, 12, 18, 6, 11, 5, 10, 9]
def deb64 : List Int := [0, 1, 56, 2, 57, 49, 28, 3, 61, 58, 42, 50, 38, 29, 17, 4, 62, 47, 59, 36, 45, 43, 51, 22, 53, 39, 33, 30, 24, 18, 12, 5, 63, 55, 48, 27, 60, 41, 37, 16, 46, 35, 44, 21, 52, 32, 23, 11, 54, 26, 40, 15, 34, 20, 31, 10, 25, 14, 19, 9, 13, 8, 7, 6]
noncomputable def laidWorld (os : Os) : World :=
  let w0 := World.holding Tryd.prog os ⟨#[], #[], []⟩
  let put (h : Array Obj) (g : Nat) (cs : Array Value) : Array Obj := h.modify g fun
    | .cells _ t frozen => .cells cs t frozen
    | o => o
  { w0 with heap := put (put (put w0.heap 0 (Lib.pow10Tab.map (Value.int .u64)).toArray) 1 (deb32.map (Value.int .u8)).toArray) 2 (deb64.map (Value.int .u8)).toArray }
set_option maxRecDepth 1000000 in
theorem laidWorld_met (os : Os) (args : Array Value) : laidMetH Tryd.prog Rows.fnTextRow.laid ((laidWorld os).forCall (fun _ _ => 0) ⟨#[], args, []⟩).memory :=
  laidMetH_of_parts (laidMet_of_run' 10 (by kernel_rfl) (by kernel_rfl)) (by kernel_rfl)
set_option maxRecDepth 100000 in
theorem pows_of {W : World} (h : laidMetH Tryd.prog Rows.fnTextRow.laid W) : Pows W := by
  have h' : laidMet Tryd.prog Rows.fnTextRow.laid W := h
  exact Lib.tabIs_of_head (g := 0) (t := 155) (e := 35) (n := 20) (by kernel_rfl) (by kernel_rfl) (by kernel_rfl) (by kernel_rfl) (by kernel_rfl) (by kernel_rfl) h'.tail.tail
set_option maxRecDepth 100000 in
theorem lifted (os : Os) (started : os.Started) (H : Type) (enc : TypeId × Value → H) :
    ReturnsInHanded {} Tryd.checked os 3 .any (fun w args => (Rows.fnTextSpec.pre enc Tryd.prog Tryd.f3 Rows.fnTextRow.domain false w args ∧ laidMetH Tryd.prog Rows.fnTextRow.laid w) ∧ sizedMet enc Tryd.prog Tryd.f3 (OpenSpec.ofChange Rows.fnTextSpec) false w args) (Rows.fnTextSpec.post enc Tryd.prog Tryd.f3 false true false false) := by
  refine law_lift_laid (C := Tryd.checked) Rows.fnTextRow.laid own started (by kernel_rfl) Tryd.func3 laidOut rfl (tb := 4) (by kernel_rfl) Tryd.underlying4 ?_ ?_
    (ChangeSpec.witness_at (enc := enc) (C := Tryd.checked) (os := os) (X := fun w _ => laidMetH Tryd.prog Rows.fnTextRow.laid w) false (laidWorld os) #[.slice none 0 0] 8 rfl (by kernel_rfl) (by kernel_rfl) (by kernel_rfl) (by kernel_rfl) (by kernel_rfl) (laidWorld_met os _)) ?_
  · intro t ht
    rw [show Tryd.f3.params.toList = [22] from by rw [Tryd.params3]] at ht
    simp only [List.mem_cons, List.not_mem_nil, or_false] at ht
    rcases ht with rfl
    exact ⟨by kernel_rfl, of_decide_eq_true (by kernel_rfl)⟩
  · intro ds hds
    rw [show Tryd.f3.params.toList = [22] from by rw [Tryd.params3]] at hds
    match ds, hds with
    | [d0], _ => rfl
  · intro W base args ds p hval hL hA
    have hp : Tryd.f3.params.toList = [22] := by rw [Tryd.params3]
    rw [hp] at hA hval
    obtain ⟨v0, d0, rfl, rfl, m0, h0⟩ := trodAll_one hA
    obtain ⟨va, vl, vc, rfl⟩ := okWide_slice Tryd.underlying22 (hval 0 22 v0 rfl rfl)
    obtain ⟨rs, hK1, hfit⟩ := opens_bytes.2 H enc _ _ _ _ _ _ h0
    obtain ⟨A2, c2, hcs1, _, k2⟩ := hK1
    have hcs2 : [Value.slice va vl vc] = [.slice A2 rs.length c2] := hcs1
    injection hcs2 with hcs3 _
    injection hcs3 with e1 e2 e3
    subst e1 e2 e3
    clear hcs1
    exact (lawText rs va vc W k2 (Lib.hid hfit) (pows_of hL)).mono fun e W' h => h
theorem over : Rows.fnTextRow.holds Tryd.pinned (OpenSpec.ofChange Rows.fnTextSpec) :=
  OpenClaim.holds_of_wide 3 Tryd.f3 rfl rfl rfl rfl rfl rfl rfl ⟨rfl, rfl, rfl, rfl, rfl⟩ rfl rfl rfl rfl rfl (by kernel_rfl) Tryd.func3 (by kernel_rfl)
    (of_decide_eq_true (by kernel_rfl)) (by unfold Func.isWrapper; first | (rw [if_pos (by decide +kernel)]; kernel_rfl) | (rw [if_neg (by decide +kernel)]; exact ⟨rfl, rfl⟩))
    (fun os started H enc _ => lifted os started H enc)
end Go.Proofs.YtamhkgphbpbhfaaDoor.fnText
namespace Go.Proofs.YtamhkgphbpbhfaaDoor
theorem fnText_holds : Rows.FnTextSaid := fnText.over
#print axioms fnText_holds
end Go.Proofs.YtamhkgphbpbhfaaDoor
