/- The law FnExactRouteAt, walked: it answers true. -/
import Derived.Test.YtpggopdojhodaaaGreatVl
import Derived.WalkMore
namespace Go.Proofs.YtpggopdojhodaaaGreat.L
open Go.RowKit
open Classical
set_option linter.unusedVariables false
set_option linter.unusedSimpArgs false
noncomputable def firstF {α : Type} (p : α → Prop) : List α → Nat → Int
  | [], _ => -1
  | r :: l, k => if p r then (k : Int) else firstF p l (k + 1)
theorem firstF_at {α : Type} {p : α → Prop} : ∀ {l : List α} {k s : Nat} {x : α}, (∀ i r, i < k → l[i]? = some r → ¬ p r) → l[k]? = some x → p x → firstF p l s = ((s + k : Nat) : Int)
  | [], _, _, _, _, h, _ => by simp at h
  | r :: l, 0, s, x, _, h, hp => by
    obtain rfl : r = x := by simpa using h
    rw [firstF, if_pos hp, Nat.add_zero]
  | r :: l, k + 1, s, x, hb, h, hp => by
    have h0 := hb 0 r (by omega) rfl
    rw [firstF, if_neg h0, firstF_at (k := k) (fun i y hi hy => hb (i + 1) y (by omega) (by simpa using hy)) (by simpa using h) hp]
    congr 1
    omega
theorem firstF_none {α : Type} {p : α → Prop} : ∀ {l : List α} {s : Nat}, (∀ i r, i < l.length → l[i]? = some r → ¬ p r) → firstF p l s = -1
  | [], _, _ => rfl
  | r :: l, s, hb => by
    have h0 := hb 0 r (by simp) rfl
    rw [firstF, if_neg h0]
    exact firstF_none (fun i y hi hy => hb (i + 1) y (by simp; omega) (by simpa using hy))
def okL (ls : List Int) (l : Lie) : Prop := ls[l.joint.toNat]? = some l.lie
def fitsF (ss : List Signal) (frm : ByteArray) (ls : List Int) (r : Route) : Prop := (∃ s, ss[r.frm.toNat]? = some s ∧ s.name = frm) ∧ ∀ l ∈ r.lies, okL ls l
noncomputable def routeAtF (n : Net) (ss : List Signal) (gs : List Route) (frm : ByteArray) (ls : List Int) : Int :=
  if listedF n ss gs ∧ ls.length = n.joints.length then firstF (fitsF ss frm ls) gs 0 else -1
theorem listed_in {n : Net} {ss : List Signal} {gs : List Route} {k : Nat} {r : Route} (h : listedF n ss gs) (hr : gs[k]? = some r) : (∃ i : Nat, r.frm = i ∧ i < ss.length) ∧ ∀ l ∈ r.lies, lieP n l := by
  obtain ⟨_, _, _, hrt⟩ := routesF_rt (h.2.2 r (List.mem_of_getElem? hr))
  obtain ⟨i, s0, hi, hs, _⟩ := hrt.frm
  exact ⟨⟨i, hi, (List.getElem?_eq_some_iff.1 hs).1⟩, hrt.lies⟩
theorem str_bne {a b : ByteArray} (h : ¬ a = b) : (a.toList != b.toList) = true := by
  have := str_ne h
  simp only [bne, this, Bool.not_false]
theorem str_bef {a b : ByteArray} (h : a = b) : (a.toList != b.toList) = false := by rw [h]; simp
set_option maxRecDepth 100000 in
set_option maxHeartbeats 8000000 in
theorem specRouteAt {ok ok' ok2 ok3 : Nat → Prop} (n : Net) (ss : List Signal) (gs : List Route) (frm : ByteArray) (ls : List Int) (A0 A1 A2 A3 A4 : Option Addr) (c0 c1 c2 c3 c4 : Nat) (w : World) (h : NC 136 w ok n A0 A1) (hs : signalK.C w ok' A2 ss) (hc : ss.length ≤ c2) (hg : rK.C w ok2 A3 gs) (hl : Kn.int.C w ok3 A4 ls) (hn : NetIn n) (hi : SigIn ss) :
    Calls Tryz.prog 20 #[.agg #[.slice A0 n.pieces.length c0, .slice A1 n.joints.length c1], .slice A2 ss.length c2, .slice A3 gs.length c3, .string frm, .slice A4 ls.length c4] w (RetI (routeAtF n ss gs frm ls) w) := by
  have hgm := hg.1
  have hlm := hl.1
  obtain ⟨W0, hW0, hB0, f0, f1, hz0⟩ : ∃ W, W = w.alloc (.cells #[.slice A0 n.pieces.length c0, .slice A1 n.joints.length c1] 34) ∧ Below w.heap.size w W ∧ Hid (W.cell? ⟨w.heap.size, 0, none⟩ = some (.slice A0 n.pieces.length c0)) ∧ Hid (W.cell? ⟨w.heap.size, 1, none⟩ = some (.slice A1 n.joints.length c1)) ∧ Hid (w.heap.size < W.heap.size) := ⟨_, rfl, below_alloc _ _, Lib.hid (by simp), Lib.hid (by simp), Lib.hid (by simp)⟩
  have HN := Lib.hid (h.below hB0)
  have HSS := Lib.hid (Kn.C_below hB0 hs)
  have HGG := Lib.hid (Kn.C_below hB0 hg)
  have HLL := Lib.hid (Kn.C_below hB0 hl)
  have hjl := hn.joints
  have hsl := hi.len
  clear h hs hg hl
  go_enter Tryz.func20, Tryz.ntmps20
  go_wp2_with fail
  rw [← hW0]
  clear hW0
  refine (specListed n ss gs A0 A1 A2 A3 c0 c1 c2 c3 _ HN.out HSS.out hc HGG.out hn hi (Lib.hid rfl)).mono ?_
  rintro e w1 ⟨rfl, hb1⟩
  have BW : Hid (Below w.heap.size w w1) := Lib.hid (hB0.trans (hb1.mono hB0.size))
  have g1 := cell_below hb1 f1.out
  have gz : w.heap.size < w1.heap.size := Nat.lt_of_lt_of_le hz0.out hb1.size
  have HSS := Lib.hid (Kn.C_below hb1 HSS.out)
  have HGG := Lib.hid (Kn.C_below hb1 HGG.out)
  have HLL := Lib.hid (Kn.C_below hb1 HLL.out)
  clear hb1 hB0
  by_cases hli : listedF n ss gs
  rotate_left
  · rw [pv_false hli]
    have HF : Hid (routeAtF n ss gs frm ls = -1) := Lib.hid (by unfold routeAtF; rw [if_neg (fun e => hli e.1)])
    clear hli
    go_wp2
    go_ret
    exact ⟨by rw [HF.out]; rfl, BW.out⟩
  rw [pv_true hli]
  by_cases hll : ls.length = n.joints.length
  rotate_left
  · have HF : Hid (routeAtF n ss gs frm ls = -1) := Lib.hid (by unfold routeAtF; rw [if_neg (fun e => hll e.2)])
    have g0 := len_ne hll
    clear hli hll
    go_wp2
    go_ret
    exact ⟨by rw [HF.out]; rfl, BW.out⟩
  have HRA : Hid (routeAtF n ss gs frm ls = firstF (fitsF ss frm ls) gs 0) := Lib.hid (by unfold routeAtF; rw [if_pos ⟨hli, hll⟩])
  have HLI := Lib.hid (fun k r (hr : gs[k]? = some r) => listed_in hli hr)
  have g0 := len_eq hll
  have HLE := Lib.hid hll
  have hg300 : gs.length ≤ 300 := hli.2.1
  clear hli hll
  go_wp2
  clear g0 g1 gz
  go_loopw [31] (fun iv wr => ∃ k : Nat, k ≤ gs.length ∧ iv = .int .i64 k ∧ Hid (∀ i r, i < k → gs[i]? = some r → ¬ fitsF ss frm ls r) ∧ Hid (Below w1.heap.size w1 wr)) (fun iv _ => gs.length - (intOf iv).toNat)
  case atStart => exact ⟨0, Nat.zero_le _, rfl, Lib.hid (fun i r hi => absurd hi (by omega)), Lib.hid (Below.refl _ _)⟩
  case round =>
  obtain ⟨k, hk, rfl, HT, HBr⟩ := hrel
  by_cases hlt : k < gs.length
  rotate_left
  · obtain rfl : k = gs.length := by omega
    have HF : Hid (routeAtF n ss gs frm ls = -1) := Lib.hid (by rw [HRA.out]; exact firstF_none HT.out)
    have hfin := BW.out.trans (HBr.out.mono BW.out.size)
    go_wp2
    go_ret
    exact ⟨by rw [HF.out]; rfl, hfin⟩
  have i0 : (0 : Int) ≤ (k : Int) := Int.natCast_nonneg _
  have i1 : (k : Int) < (gs.length : Int) := by omega
  obtain ⟨ra, rfl, r, Er, D2, D3, D4, D5, D6, D7, d2, d3, d4, d5, d6, d7, p0, p1, p2, p3, p4, p5, p6, p7, HRr⟩ := rC_at (Kn.C_below HBr.out HGG.out) k hlt
  obtain ⟨u, hu, hul⟩ := (HLI.out k r Er.out).1
  obtain ⟨r0, r1, r2, r3, r4, r5, r6, r7⟩ := r
  simp only at hu
  subst hu
  obtain ⟨sa, rfl, z0, z1, z2, z3, Ez, k0, k1, k2, k3⟩ := signalK_at (Kn.C_below HBr.out HSS.out) u hul
  have u0 : (0 : Int) ≤ (u : Int) := Int.natCast_nonneg _
  have u1 : (u : Int) < (ss.length : Int) := by omega
  have sk := World.block_lt_of_cell? _ _ k0
  have HL3 := Lib.hid (HLI.out k _ Er.out).2
  obtain ⟨W3, hW3, HQ, HB3, kk, HB3w⟩ : ∃ W, W = wr.alloc (.cells #[.int .i64 u, .int .i64 r1, .slice D2 r2.length d2, .slice D3 r3.length d3, .slice D4 r4.length d4, .slice D5 r5.length d5, .slice D6 r6.length d6, .slice D7 r7.length d7] 80) ∧ Hid (Blk W wr.heap.size 80 [.int .i64 u, .int .i64 r1, .slice D2 r2.length d2, .slice D3 r3.length d3, .slice D4 r4.length d4, .slice D5 r5.length d5, .slice D6 r6.length d6, .slice D7 r7.length d7]) ∧ Hid (Below w1.heap.size w1 W) ∧ W.cell? (sa.add (u * 4)) = some (.string z0) ∧ Below wr.heap.size wr W := ⟨_, rfl, Lib.hid (Blk.new _ _ _ rfl), Lib.hid (HBr.out.alloc HBr.out.size _), cell_below (below_alloc _ _) k0, below_alloc _ _⟩
  by_cases hnm : z0 = frm
  rotate_left
  · have t0 : (z0.toList == frm.toList) = false := str_ne hnm
    have t1 : (z0.toList != frm.toList) = true := str_bne hnm
    have HT2 : Hid (∀ i r, i < k + 1 → gs[i]? = some r → ¬ fitsF ss frm ls r) := Lib.hid (fun i y hi hy => by
      by_cases e : i = k
      · subst e
        obtain rfl := Option.some.inj (Er.out.symm.trans hy)
        rintro ⟨⟨s, hs, hsn⟩, _⟩
        simp only [Int.toNat_natCast] at hs
        obtain rfl := Option.some.inj (Ez.out.symm.trans hs)
        exact hnm hsn
      · exact HT.out i y (by omega) hy)
    clear hnm
    go_upto_if 43 with (fail)
    rw [← hW3]
    clear hW3
    go_wp2
    go_roundw
    case rel => exact ⟨k + 1, by omega, by go_num, HT2, HB3⟩
    case measure => simp [intOf]; omega
  have t0 : (z0.toList == frm.toList) = true := str_beq hnm
  have t1 : (z0.toList != frm.toList) = false := str_bef hnm
  have HNM := Lib.hid hnm
  clear hnm
  go_upto_if 43 with (fail)
  rw [← hW3]
  clear hW3 p0 p1 p2 p3 p4 p5 p6 p7 k0 k1 k2 k3
  have b3 := HQ.out.cell 3 rfl
  have zb : wr.heap.size < W3.heap.size := HQ.out.lt
  have HLA := Lib.hid (HRr.out.below HB3w).h3
  have hr3 : r3.length ≤ 9223372036854775807 := HRr.out.h3.1
  go_wp2
  obtain ⟨wo, rfl⟩ : ∃ W, W = wr := ⟨_, rfl⟩
  clear b3
  go_loopw [47, 13] (fun iv mv wr => ∃ i : Nat, ∃ m : Bool, i ≤ r3.length ∧ iv = .int .i64 i ∧ mv = .bool m ∧ Hid (m = pv (∀ e l, e < i → r3[e]? = some l → okL ls l)) ∧ Hid (Below W3.heap.size W3 wr)) (fun iv _ _ => r3.length - (intOf iv).toNat)
  case atStart => exact ⟨0, true, Nat.zero_le _, rfl, rfl, Lib.hid (pv_true (fun e l he => absurd he (by omega))).symm, Lib.hid (Below.refl _ _)⟩
  case round =>
    obtain ⟨i, m, hi, rfl, rfl, HM, HBi⟩ := hrel
    by_cases hit : i < r3.length
    · have j0 : (0 : Int) ≤ (i : Int) := Int.natCast_nonneg _
      have j1 : (i : Int) < (r3.length : Int) := by omega
      obtain ⟨la, rfl, y0, y1, Ey, q0, q1⟩ := lieK_at (Kn.C_below HBi.out HLA.out) i hit
      obtain ⟨v, hv, hvl, _⟩ := HL3.out _ (List.mem_of_getElem? Ey.out)
      simp only at hv
      subst hv
      have v0 : (0 : Int) ≤ (v : Int) := Int.natCast_nonneg _
      have v1 : (v : Int) < (ls.length : Int) := by have := HLE.out; omega
      have HB4 : Hid (Below w1.heap.size w1 wr) := Lib.hid (HB3.out.trans (HBi.out.mono HB3.out.size))
      obtain ⟨W5, hW5, HB5, c0', c1', zw⟩ : ∃ W, W = wr.alloc (.cells #[.int .i64 v, .int .i64 y1] 109) ∧ Hid (Below wr.heap.size wr W) ∧ W.cell? ⟨wr.heap.size, 0, none⟩ = some (.int .i64 v) ∧ W.cell? ⟨wr.heap.size, 1, none⟩ = some (.int .i64 y1) ∧ wr.heap.size < W.heap.size := ⟨_, rfl, Lib.hid (below_alloc _ _), by simp, by simp, by simp⟩
      obtain ⟨ia, rfl, x, Ex, o0⟩ := int_at (Kn.C_below HB5.out (Kn.C_below HB4.out HLL.out)) v (by omega)
      have HB6 : Hid (Below W3.heap.size W3 W5) := Lib.hid (HBi.out.trans (HB5.out.mono HBi.out.size))
      go_upto_region 11 with (fail)
      rw [← hW5]
      clear hW5 q0 q1
      cases m with
      | false =>
        have HM2 : Hid (false = pv (∀ e l, e < i + 1 → r3[e]? = some l → okL ls l)) := Lib.hid (pv_false (fun h => by have := HM.out; rw [pv_true (fun e l he hl => h e l (by omega) hl)] at this; cases this)).symm
        clear HM
        go_quiet (fail)
        go_wp2
        go_roundw
        case rel => exact ⟨i + 1, false, by omega, by go_num, rfl, HM2, Lib.hid (below_drewN HB6.out _)⟩
        case measure => simp [intOf]; omega
      | true =>
        by_cases hx : x = y1
        · have t2 : (x == y1) = true := by rw [hx]; exact beq_self_eq_true _
          have HM2 : Hid (true = pv (∀ e l, e < i + 1 → r3[e]? = some l → okL ls l)) := Lib.hid (by
            refine (pv_true (fun e l he hl => ?_)).symm
            by_cases hei : e = i
            · subst hei
              obtain rfl := Option.some.inj (Ey.out.symm.trans hl)
              show ls[(v : Int).toNat]? = some y1
              rw [Int.toNat_natCast, Ex.out, hx]
            · have hp : (∀ e l, e < i → r3[e]? = some l → okL ls l) := by
                have := HM.out
                by_cases hq : (∀ e l, e < i → r3[e]? = some l → okL ls l)
                · exact hq
                · rw [pv_false hq] at this; cases this
              exact hp e l (by omega) hl)
          clear HM hx
          go_quiet (fail)
          go_wp2
          go_roundw
          case rel => exact ⟨i + 1, true, by omega, by go_num, rfl, HM2, Lib.hid (below_drewN HB6.out _)⟩
          case measure => simp [intOf]; omega
        · have t2 : (x == y1) = false := int_eqf hx
          have HM2 : Hid (false = pv (∀ e l, e < i + 1 → r3[e]? = some l → okL ls l)) := Lib.hid (by
            refine (pv_false (fun h => hx ?_)).symm
            have h2 := h i _ (by omega) Ey.out
            unfold okL at h2
            simp only [Int.toNat_natCast] at h2
            exact Option.some.inj (Ex.out.symm.trans h2))
          clear HM hx
          go_quiet (fail)
          go_wp2
          go_roundw
          case rel => exact ⟨i + 1, false, by omega, by go_num, rfl, HM2, Lib.hid (below_drewN HB6.out _)⟩
          case measure => simp [intOf]; omega
    · obtain rfl : i = r3.length := by omega
      have HB6 : Hid (Below w1.heap.size w1 wr) := Lib.hid (HB3.out.trans (HBi.out.mono HB3.out.size))
      cases m with
      | true =>
        have HF : Hid (routeAtF n ss gs frm ls = (k : Int)) := Lib.hid (by
          rw [HRA.out, firstF_at HT.out Er.out ?_, Nat.zero_add]
          refine ⟨⟨_, by rw [Int.toNat_natCast]; exact Ez.out, HNM.out⟩, fun l hl => ?_⟩
          obtain ⟨e, he⟩ := List.mem_iff_getElem?.1 hl
          by_cases hq : (∀ e l, e < r3.length → r3[e]? = some l → okL ls l)
          · exact hq e l (List.getElem?_eq_some_iff.1 he).1 he
          · have := HM.out
            rw [pv_false hq] at this
            cases this)
        have hfin := BW.out.trans (HB6.out.mono BW.out.size)
        clear HM
        go_wp2
        go_ret
        exact ⟨by rw [HF.out]; rfl, hfin⟩
      | false =>
        have HT2 : Hid (∀ i r, i < k + 1 → gs[i]? = some r → ¬ fitsF ss frm ls r) := Lib.hid (fun i y hi hy => by
          by_cases e : i = k
          · subst e
            obtain rfl := Option.some.inj (Er.out.symm.trans hy)
            rintro ⟨_, hq⟩
            have := HM.out
            rw [pv_true (fun e l _ hl => hq l (List.mem_of_getElem? hl))] at this
            cases this
          · exact HT.out i y (by omega) hy)
        clear HM
        go_wp2
        go_roundw
        case rel => exact ⟨k + 1, by omega, by go_num, HT2, HB6⟩
        case measure => simp [intOf]; omega
set_option maxRecDepth 100000 in
set_option maxHeartbeats 8000000 in
theorem implRouteAt {ok ok' ok2 ok3 : Nat → Prop} (n : Net) (ss : List Signal) (gs : List Route) (frm : ByteArray) (ls : List Int) (A0 A1 A2 A3 A4 : Option Addr) (c0 c1 c2 c3 c4 : Nat) (w : World) (h : NC 136 w ok n A0 A1) (hs : signalK.C w ok' A2 ss) (hc : ss.length ≤ c2) (hg : rK.C w ok2 A3 gs) (hl : Kn.int.C w ok3 A4 ls) (hn : NetIn n) (hi : SigIn ss) :
    Calls Tryz.prog 23 #[.agg #[.slice A0 n.pieces.length c0, .slice A1 n.joints.length c1], .slice A2 ss.length c2, .slice A3 gs.length c3, .string frm, .slice A4 ls.length c4] w (RetI (routeAtF n ss gs frm ls) w) := by
  have hgm := hg.1
  have hlm := hl.1
  obtain ⟨W0, hW0, hB0, f0, f1, hz0⟩ : ∃ W, W = w.alloc (.cells #[.slice A0 n.pieces.length c0, .slice A1 n.joints.length c1] 34) ∧ Below w.heap.size w W ∧ Hid (W.cell? ⟨w.heap.size, 0, none⟩ = some (.slice A0 n.pieces.length c0)) ∧ Hid (W.cell? ⟨w.heap.size, 1, none⟩ = some (.slice A1 n.joints.length c1)) ∧ Hid (w.heap.size < W.heap.size) := ⟨_, rfl, below_alloc _ _, Lib.hid (by simp), Lib.hid (by simp), Lib.hid (by simp)⟩
  have HN := Lib.hid (h.below hB0)
  have HSS := Lib.hid (Kn.C_below hB0 hs)
  have HGG := Lib.hid (Kn.C_below hB0 hg)
  have HLL := Lib.hid (Kn.C_below hB0 hl)
  have hjl := hn.joints
  have hsl := hi.len
  clear h hs hg hl
  go_enter Tryz.func23, Tryz.ntmps23
  go_wp2
  go_step3
  go_wp2_with fail
  rw [← hW0]
  clear hW0
  refine (implListed n ss gs A0 A1 A2 A3 c0 c1 c2 c3 _ HN.out HSS.out hc HGG.out hn hi (Lib.hid rfl)).mono ?_
  rintro e w1 ⟨rfl, hb1⟩
  have BW : Hid (Below w.heap.size w w1) := Lib.hid (hB0.trans (hb1.mono hB0.size))
  have g1 := cell_below hb1 f1.out
  have gz : w.heap.size < w1.heap.size := Nat.lt_of_lt_of_le hz0.out hb1.size
  have HSS := Lib.hid (Kn.C_below hb1 HSS.out)
  have HGG := Lib.hid (Kn.C_below hb1 HGG.out)
  have HLL := Lib.hid (Kn.C_below hb1 HLL.out)
  clear hb1 hB0
  by_cases hli : listedF n ss gs
  rotate_left
  · rw [pv_false hli]
    have HF : Hid (routeAtF n ss gs frm ls = -1) := Lib.hid (by unfold routeAtF; rw [if_neg (fun e => hli e.1)])
    clear hli
    go_wp2
    try rw [Exit.noGoto_ret]
    go_ret
    exact ⟨by rw [HF.out]; rfl, BW.out⟩
  rw [pv_true hli]
  by_cases hll : ls.length = n.joints.length
  rotate_left
  · have HF : Hid (routeAtF n ss gs frm ls = -1) := Lib.hid (by unfold routeAtF; rw [if_neg (fun e => hll e.2)])
    have g0 := len_ne hll
    clear hli hll
    go_wp2
    try rw [Exit.noGoto_ret]
    go_ret
    exact ⟨by rw [HF.out]; rfl, BW.out⟩
  have HRA : Hid (routeAtF n ss gs frm ls = firstF (fitsF ss frm ls) gs 0) := Lib.hid (by unfold routeAtF; rw [if_pos ⟨hli, hll⟩])
  have HLI := Lib.hid (fun k r (hr : gs[k]? = some r) => listed_in hli hr)
  have g0 := len_eq hll
  have HLE := Lib.hid hll
  have hg300 : gs.length ≤ 300 := hli.2.1
  clear hli hll
  go_wp2
  clear g0 g1 gz
  go_step3
  go_wp2
  go_loopg [30] gs.length (fun g iv wr => ∃ k : Nat, k + g = gs.length ∧ iv = .int .i64 k ∧ Hid (∀ i r, i < k → gs[i]? = some r → ¬ fitsF ss frm ls r) ∧ Hid (Below w1.heap.size w1 wr))
  case atStart => exact ⟨0, by omega, rfl, Lib.hid (fun i r hi => absurd hi (by omega)), Lib.hid (Below.refl _ _)⟩
  case round =>
  obtain ⟨k, hkg, rfl, HT, HBr⟩ := hrel
  have HKG := Lib.hid hkg
  have hk : k ≤ gs.length := by omega
  clear hkg
  obtain ⟨gO, rfl⟩ : ∃ x, x = gk := ⟨_, rfl⟩
  by_cases hlt : k < gs.length
  rotate_left
  · obtain rfl : k = gs.length := by omega
    have HF : Hid (routeAtF n ss gs frm ls = -1) := Lib.hid (by rw [HRA.out]; exact firstF_none HT.out)
    have hfin := BW.out.trans (HBr.out.mono BW.out.size)
    go_wp2
    try rw [Exit.noGoto_ret]
    go_ret
    exact ⟨by rw [HF.out]; rfl, hfin⟩
  have i0 : (0 : Int) ≤ (k : Int) := Int.natCast_nonneg _
  have i1 : (k : Int) < (gs.length : Int) := by omega
  obtain ⟨ra, rfl, r, Er, D2, D3, D4, D5, D6, D7, d2, d3, d4, d5, d6, d7, p0, p1, p2, p3, p4, p5, p6, p7, HRr⟩ := rC_at (Kn.C_below HBr.out HGG.out) k hlt
  obtain ⟨u, hu, hul⟩ := (HLI.out k r Er.out).1
  obtain ⟨r0, r1, r2, r3, r4, r5, r6, r7⟩ := r
  simp only at hu
  subst hu
  obtain ⟨sa, rfl, z0, z1, z2, z3, Ez, k0, k1, k2, k3⟩ := signalK_at (Kn.C_below HBr.out HSS.out) u hul
  have u0 : (0 : Int) ≤ (u : Int) := Int.natCast_nonneg _
  have u1 : (u : Int) < (ss.length : Int) := by omega
  have sk := World.block_lt_of_cell? _ _ k0
  have HL3 := Lib.hid (HLI.out k _ Er.out).2
  obtain ⟨W3, hW3, HQ, HB3, kk, HB3w⟩ : ∃ W, W = wr.alloc (.cells #[.int .i64 u, .int .i64 r1, .slice D2 r2.length d2, .slice D3 r3.length d3, .slice D4 r4.length d4, .slice D5 r5.length d5, .slice D6 r6.length d6, .slice D7 r7.length d7] 80) ∧ Hid (Blk W wr.heap.size 80 [.int .i64 u, .int .i64 r1, .slice D2 r2.length d2, .slice D3 r3.length d3, .slice D4 r4.length d4, .slice D5 r5.length d5, .slice D6 r6.length d6, .slice D7 r7.length d7]) ∧ Hid (Below w1.heap.size w1 W) ∧ W.cell? (sa.add (u * 4)) = some (.string z0) ∧ Below wr.heap.size wr W := ⟨_, rfl, Lib.hid (Blk.new _ _ _ rfl), Lib.hid (HBr.out.alloc HBr.out.size _), cell_below (below_alloc _ _) k0, below_alloc _ _⟩
  by_cases hnm : z0 = frm
  rotate_left
  · have t0 : (z0.toList == frm.toList) = false := str_ne hnm
    have t1 : (z0.toList != frm.toList) = true := str_bne hnm
    have HT2 : Hid (∀ i r, i < k + 1 → gs[i]? = some r → ¬ fitsF ss frm ls r) := Lib.hid (fun i y hi hy => by
      by_cases e : i = k
      · subst e
        obtain rfl := Option.some.inj (Er.out.symm.trans hy)
        rintro ⟨⟨s, hs, hsn⟩, _⟩
        simp only [Int.toNat_natCast] at hs
        obtain rfl := Option.some.inj (Ez.out.symm.trans hs)
        exact hnm hsn
      · exact HT.out i y (by omega) hy)
    clear hnm
    go_upto_if 42 with (fail)
    rw [← hW3]
    clear hW3
    go_wp2
    go_roundg (gO - 1)
    case rel => exact ⟨k + 1, by have := HKG.out; omega, by go_num, HT2, HB3⟩
    case measure => have := HKG.out; omega
  have t0 : (z0.toList == frm.toList) = true := str_beq hnm
  have t1 : (z0.toList != frm.toList) = false := str_bef hnm
  have HNM := Lib.hid hnm
  clear hnm
  go_upto_if 42 with (fail)
  rw [← hW3]
  clear hW3 p0 p1 p2 p3 p4 p5 p6 p7 k0 k1 k2 k3
  have b3 := HQ.out.cell 3 rfl
  have zb : wr.heap.size < W3.heap.size := HQ.out.lt
  have HLA := Lib.hid (HRr.out.below HB3w).h3
  have hr3 : r3.length ≤ 9223372036854775807 := HRr.out.h3.1
  go_wp2
  obtain ⟨wo, rfl⟩ : ∃ W, W = wr := ⟨_, rfl⟩
  clear b3
  go_loopg [46] r3.length (fun g iv wr => ∃ i : Nat, i + g = r3.length ∧ iv = .int .i64 i ∧ Hid (∀ e l, e < i → r3[e]? = some l → okL ls l) ∧ Hid (Below W3.heap.size W3 wr))
  case atStart => exact ⟨0, by omega, rfl, Lib.hid (fun e l he => absurd he (by omega)), Lib.hid (Below.refl _ _)⟩
  case round =>
    obtain ⟨i, hig, rfl, HM, HBi⟩ := hrel
    have HIG := Lib.hid hig
    have hi : i ≤ r3.length := by omega
    clear hig
    by_cases hit : i < r3.length
    · have j0 : (0 : Int) ≤ (i : Int) := Int.natCast_nonneg _
      have j1 : (i : Int) < (r3.length : Int) := by omega
      obtain ⟨la, rfl, y0, y1, Ey, q0, q1⟩ := lieK_at (Kn.C_below HBi.out HLA.out) i hit
      obtain ⟨v, hv, hvl, _⟩ := HL3.out _ (List.mem_of_getElem? Ey.out)
      simp only at hv
      subst hv
      have v0 : (0 : Int) ≤ (v : Int) := Int.natCast_nonneg _
      have v1 : (v : Int) < (ls.length : Int) := by have := HLE.out; omega
      have HB4 : Hid (Below w1.heap.size w1 wr) := Lib.hid (HB3.out.trans (HBi.out.mono HB3.out.size))
      obtain ⟨W5, hW5, HB5, c0', c1', zw⟩ : ∃ W, W = wr.alloc (.cells #[.int .i64 v, .int .i64 y1] 109) ∧ Hid (Below wr.heap.size wr W) ∧ W.cell? ⟨wr.heap.size, 0, none⟩ = some (.int .i64 v) ∧ W.cell? ⟨wr.heap.size, 1, none⟩ = some (.int .i64 y1) ∧ wr.heap.size < W.heap.size := ⟨_, rfl, Lib.hid (below_alloc _ _), by simp, by simp, by simp⟩
      obtain ⟨ia, rfl, x, Ex, o0⟩ := int_at (Kn.C_below HB5.out (Kn.C_below HB4.out HLL.out)) v (by omega)
      have HB6 : Hid (Below W3.heap.size W3 W5) := Lib.hid (HBi.out.trans (HB5.out.mono HBi.out.size))
      go_upto_region 10 with (fail)
      rw [← hW5]
      clear hW5 q0 q1
      by_cases hx : x = y1
      · have t2 : (x == y1) = true := by rw [hx]; exact beq_self_eq_true _
        have t3 : (x != y1) = false := neq_f hx
        have HM2 : Hid (∀ e l, e < i + 1 → r3[e]? = some l → okL ls l) := Lib.hid (fun e l he hl => by
          by_cases hei : e = i
          · subst hei
            obtain rfl := Option.some.inj (Ey.out.symm.trans hl)
            show ls[(v : Int).toNat]? = some y1
            rw [Int.toNat_natCast, Ex.out, hx]
          · exact HM.out e l (by omega) hl)
        clear HM hx
        go_quiet (fail)
        go_wp2
        go_roundg (gk - 1)
        case rel => exact ⟨i + 1, by have := HIG.out; omega, by go_num, HM2, Lib.hid (below_drewN HB6.out _)⟩
        case measure => have := HIG.out; omega
      · have t2 : (x == y1) = false := int_eqf hx
        have t3 : (x != y1) = true := neq_t hx
        have HT2 : Hid (∀ i r, i < k + 1 → gs[i]? = some r → ¬ fitsF ss frm ls r) := Lib.hid (fun a y ha hy => by
          by_cases e : a = k
          · subst e
            obtain rfl := Option.some.inj (Er.out.symm.trans hy)
            rintro ⟨_, hq⟩
            have h2 := hq _ (List.mem_of_getElem? Ey.out)
            unfold okL at h2
            simp only [Int.toNat_natCast] at h2
            exact hx (Option.some.inj (Ex.out.symm.trans h2))
          · exact HT.out a y (by omega) hy)
        have HB7 : Hid (Below w1.heap.size w1 W5) := Lib.hid (HB4.out.trans (HB5.out.mono HB4.out.size))
        clear HM hx
        go_quiet (fail)
        go_wp2
        go_roundg (gO - 1)
        case rel => exact ⟨k + 1, by have := HKG.out; omega, by go_num, HT2, Lib.hid (below_drewN HB7.out _)⟩
        case measure => have := HKG.out; omega
    · obtain rfl : i = r3.length := by omega
      have HB6 : Hid (Below w1.heap.size w1 wr) := Lib.hid (HB3.out.trans (HBi.out.mono HB3.out.size))
      have HF : Hid (routeAtF n ss gs frm ls = (k : Int)) := Lib.hid (by
        rw [HRA.out, firstF_at HT.out Er.out ?_, Nat.zero_add]
        refine ⟨⟨_, by rw [Int.toNat_natCast]; exact Ez.out, HNM.out⟩, fun l hl => ?_⟩
        obtain ⟨e, he⟩ := List.mem_iff_getElem?.1 hl
        exact HM.out e l (List.getElem?_eq_some_iff.1 he).1 he)
      have hfin := BW.out.trans (HB6.out.mono BW.out.size)
      go_wp2
      go_ret
      exact ⟨by rw [HF.out]; rfl, hfin⟩
end Go.Proofs.YtpggopdojhodaaaGreat.L
namespace Go.Proofs.YtpggopdojhodaaaGreat.L
open Go.RowKit
set_option linter.unusedVariables false
set_option linter.unusedSimpArgs false
set_option maxRecDepth 100000 in
set_option maxHeartbeats 16000000 in
theorem lawRouteAt {ok ok' ok2 ok3 : Nat → Prop} (x : Net) (ss : List Signal) (gs : List Route) (frm : ByteArray) (ls : List Int) (A0 A1 A2 A3 A4 : Option Addr) (c0 c1 c2 c3 c4 : Nat) (w : World) (hx : NC 205 w ok x A0 A1) (hs : signalK.C w ok' A2 ss) (hg : rL.C w ok2 A3 gs) (hl : Kn.int.C w ok3 A4 ls) (hfit : Hid x.fit) (hsf : Hid (∀ s ∈ ss, s.fit)) :
    Calls Tryz.prog 4 #[.agg #[.slice A0 x.pieces.length c0, .slice A1 x.joints.length c1], .slice A2 ss.length c2, .slice A3 gs.length c3, .string frm, .slice A4 ls.length c4] w (RetB true w) := by
  obtain ⟨W0, hW0, HB0, HA, HX, HS, HH⟩ : ∃ W0, W0 = w.alloc (.cells #[.slice A0 x.pieces.length c0, .slice A1 x.joints.length c1] 25) ∧ Below w.heap.size w W0 ∧ Hid (Blk W0 w.heap.size 25 [.slice A0 x.pieces.length c0, .slice A1 x.joints.length c1]) ∧ Hid (NC 205 W0 ok x A0 A1) ∧ Hid (signalK.C W0 ok' A2 ss) ∧ Hid (Below w.heap.size w W0) :=
    ⟨_, rfl, below_alloc _ _, Lib.hid (Blk.new _ _ _ rfl), Lib.hid (hx.below (below_alloc _ _)), Lib.hid (Kn.C_below (below_alloc _ _) hs), Lib.hid (below_alloc _ _)⟩
  have HG := Lib.hid (Kn.C_below HH.out hg)
  have HL := Lib.hid (Kn.C_below HH.out hl)
  have hlm := hl.1
  clear hx hs hg hl
  by_cases l0 : 1048576 < frm.size
  · go_enter Tryz.func4, Tryz.ntmps4
    go_wp2
    go_ret
    exact ⟨rfl, by rw [← hW0]; exact HB0⟩
  have l0' : frm.size ≤ 1048576 := by omega
  by_cases l1 : 1048576 < ls.length
  · go_enter Tryz.func4, Tryz.ntmps4
    go_wp2
    go_ret
    exact ⟨rfl, by rw [← hW0]; exact HB0⟩
  have l1' : ls.length ≤ 1048576 := by omega
  by_cases n2 : x.n ≤ 1048576
  rotate_left
  · have hc1 : Hid (cut (1048576 - (x.n : Nat)) = -1) := Lib.hid (cut_neg (by omega))
    go_enter Tryz.func4, Tryz.ntmps4
    go_wp2_with fail
    rw [← hW0]
    clear hW0
    refine (szNet _ x A0 A1 c0 c1 hfit HX.out.p HX.out.j 1048576 (by omega) (by omega)).mono ?_
    rintro e w1 ⟨rfl, hb1⟩
    rw [hc1.out]
    have HZ1 := Lib.hid hb1
    clear hb1
    go_wp2
    go_ret
    exact ⟨rfl, HB0.trans (HZ1.out.mono HB0.size)⟩
  have hc1 : Hid (cut (1048576 - (x.n : Nat)) = 1048576 - (x.n : Nat)) := Lib.hid (cut_pos (by omega))
  by_cases n3 : x.n + lenS Signal.n ss ≤ 1048576
  rotate_left
  · have hc2 : Hid (cut (1048576 - (x.n : Nat) - (lenS Signal.n ss : Nat)) = -1) := Lib.hid (cut_neg (by omega))
    go_enter Tryz.func4, Tryz.ntmps4
    go_wp2_with fail
    rw [← hW0]
    clear hW0
    refine (szNet _ x A0 A1 c0 c1 hfit HX.out.p HX.out.j 1048576 (by omega) (by omega)).mono ?_
    rintro e w1 ⟨rfl, hb1⟩
    rw [hc1.out]
    have HZ1 := Lib.hid hb1
    clear hb1
    go_wp2_with fail
    refine (szSignalS _ _ ss _ _ (Kn.C_below HZ1.out HS.out) hsf (by omega) (by omega)).mono ?_
    rintro e w2 ⟨rfl, hb2⟩
    rw [hc2.out]
    have HZ2 := Lib.hid (HZ1.out.trans (hb2.mono HZ1.out.size))
    clear hb2
    go_wp2
    go_ret
    exact ⟨rfl, HB0.trans (HZ2.out.mono HB0.size)⟩
  have hc2 : Hid (cut (1048576 - (x.n : Nat) - (lenS Signal.n ss : Nat)) = 1048576 - (x.n : Nat) - (lenS Signal.n ss : Nat)) := Lib.hid (cut_pos (by omega))
  by_cases n4 : x.n + lenS Signal.n ss + lenS Route.n gs ≤ 1048576
  rotate_left
  · have hc3 : Hid (cut (1048576 - (x.n : Nat) - (lenS Signal.n ss : Nat) - (lenS Route.n gs : Nat)) = -1) := Lib.hid (cut_neg (by omega))
    go_enter Tryz.func4, Tryz.ntmps4
    go_wp2_with fail
    rw [← hW0]
    clear hW0
    refine (szNet _ x A0 A1 c0 c1 hfit HX.out.p HX.out.j 1048576 (by omega) (by omega)).mono ?_
    rintro e w1 ⟨rfl, hb1⟩
    rw [hc1.out]
    have HZ1 := Lib.hid hb1
    clear hb1
    go_wp2_with fail
    refine (szSignalS _ _ ss _ _ (Kn.C_below HZ1.out HS.out) hsf (by omega) (by omega)).mono ?_
    rintro e w2 ⟨rfl, hb2⟩
    rw [hc2.out]
    have HZ2 := Lib.hid (HZ1.out.trans (hb2.mono HZ1.out.size))
    clear hb2
    go_wp2_with fail
    refine (szRouteS A3 c3 gs _ _ (Kn.C_below HZ2.out HG.out) (by omega) (by omega)).mono ?_
    rintro e w3 ⟨rfl, hb3⟩
    rw [hc3.out]
    have HZ3 := Lib.hid (HZ2.out.trans (hb3.mono HZ2.out.size))
    clear hb3
    go_wp2
    go_ret
    exact ⟨rfl, HB0.trans (HZ3.out.mono HB0.size)⟩
  have hc3 : Hid (cut (1048576 - (x.n : Nat) - (lenS Signal.n ss : Nat) - (lenS Route.n gs : Nat)) = 1048576 - (x.n : Nat) - (lenS Signal.n ss : Nat) - (lenS Route.n gs : Nat)) := Lib.hid (cut_pos (by omega))
  have NI : Hid (NetIn x) := Lib.hid ⟨by omega, hfit.out⟩
  have SI : Hid (SigIn ss) := Lib.hid ⟨by omega, hsf.out⟩
  have hsl : ss.length ≤ 1048576 := SI.out.len
  have HV : Hid (eqv x x = true) := Lib.hid (eqv_self _)
  have HU : Hid (eqv ss ss = true) := Lib.hid (eqv_self _)
  have HE : Hid (eqv gs gs = true) := Lib.hid (eqv_self _)
  have hgl : gs.length ≤ 1048576 := by unfold lenS at *; omega
  have HGN : Hid (∀ r ∈ gs, r.n ≤ 1048576) := Lib.hid (fun r hr => by have := tot_in (f := Route.n) hr; unfold lenS at *; omega)
  have HLE : Hid (eqv ls ls = true) := Lib.hid (eqv_self _)
  go_enter Tryz.func4, Tryz.ntmps4
  go_wp2_with fail
  rw [← hW0]
  clear hW0
  refine (szNet _ x A0 A1 c0 c1 hfit HX.out.p HX.out.j 1048576 (by omega) (by omega)).mono ?_
  rintro e w1 ⟨rfl, hb1⟩
  rw [hc1.out]
  have HZ1 := Lib.hid hb1
  clear hb1
  go_wp2_with fail
  refine (szSignalS _ _ ss _ _ (Kn.C_below HZ1.out HS.out) hsf (by omega) (by omega)).mono ?_
  rintro e w2 ⟨rfl, hb2⟩
  rw [hc2.out]
  have HZ2 := Lib.hid (HZ1.out.trans (hb2.mono HZ1.out.size))
  clear hb2
  go_wp2_with fail
  refine (szRouteS A3 c3 gs _ _ (Kn.C_below HZ2.out HG.out) (by omega) (by omega)).mono ?_
  rintro e w3 ⟨rfl, hb3⟩
  rw [hc3.out]
  have HZ3 := Lib.hid (HZ2.out.trans (hb3.mono HZ2.out.size))
  clear hb3
  have B0 := HZ3
  have HA2 := Lib.hid (HA.out.below B0.out HA.out.lt)
  have a0 := HA2.out.cell 0 rfl
  have a1 := HA2.out.cell 1 rfl
  have az : w.heap.size < w3.heap.size := HA2.out.lt
  go_wp2_with fail
  refine (toNetC x A0 A1 c0 c1 _ (HX.out.below B0.out) NI.out).mono ?_
  intro e w4 hr
  obtain ⟨P0, P1, Pc0, Pc1, rfl, pn, hb⟩ := RetNet.opC hr
  have B0 := Lib.hid (B0.out.trans (hb.mono B0.out.size))
  clear hr hb a0 a1 az
  go_wp2_with fail
  refine (toSignalS _ _ ss _ (Kn.C_below B0.out HS.out) hsl).mono ?_
  intro e w5 hr
  obtain ⟨P2, Pc2, rfl, hPc2, ps, hb⟩ := RetS.opC hr
  have B0 := Lib.hid (B0.out.trans (hb.mono B0.out.size))
  have pn := Lib.hid (pn.out.below hb)
  clear hr hb
  go_wp2_with fail
  refine (toRouteS A3 c3 gs _ (Kn.C_below B0.out HG.out) hgl HGN).mono ?_
  intro e w6 hr
  obtain ⟨P3, Pc3, rfl, hPc3, pr, hb⟩ := RetS.opC hr
  have B0 := Lib.hid (B0.out.trans (hb.mono B0.out.size))
  have pn := Lib.hid (pn.out.below hb)
  have ps := Lib.hid (Kn.C_below hb ps.out)
  clear hr hb
  go_wp2_with fail
  refine (toIntS A4 c4 ls _ (Kn.C_below B0.out HL.out) l1').mono ?_
  intro e w7 hr
  obtain ⟨P4, Pc4, rfl, hPc4, pl, hb⟩ := RetS.opC hr
  have B0 := Lib.hid (B0.out.trans (hb.mono B0.out.size))
  have pn := Lib.hid (pn.out.below hb)
  have ps := Lib.hid (Kn.C_below hb ps.out)
  have pr := Lib.hid (Kn.C_below hb pr.out)
  clear hr hb
  go_wp2_with fail
  refine (specRouteAt x ss gs frm ls P0 P1 P2 P3 P4 Pc0 Pc1 Pc2 Pc3 Pc4 _ pn.out ps.out hPc2 pr.out pl.out NI.out SI.out).mono ?_
  rintro e w8 ⟨rfl, hb⟩
  have B0 := Lib.hid (B0.out.trans (hb.mono B0.out.size))
  clear hb pn ps pr pl
  have HA2 := Lib.hid (HA.out.below B0.out HA.out.lt)
  have a0 := HA2.out.cell 0 rfl
  have a1 := HA2.out.cell 1 rfl
  have az : w.heap.size < w8.heap.size := HA2.out.lt
  go_wp2_with fail
  refine (toNetC x A0 A1 c0 c1 _ (HX.out.below B0.out) NI.out).mono ?_
  intro e w9 hr
  obtain ⟨Q0, Q1, Qc0, Qc1, rfl, qn, hb⟩ := RetNet.opC hr
  have B0 := Lib.hid (B0.out.trans (hb.mono B0.out.size))
  clear hr hb a0 a1 az
  obtain ⟨WX, hWX, HBX, hbX⟩ : ∃ W, W = w9.alloc (.cells #[.slice Q0 x.pieces.length Qc0, .slice Q1 x.joints.length Qc1] 34) ∧ Hid (Blk W w9.heap.size 34 [.slice Q0 x.pieces.length Qc0, .slice Q1 x.joints.length Qc1]) ∧ Below w9.heap.size w9 W := ⟨_, rfl, Lib.hid (Blk.new _ _ _ rfl), below_alloc _ _⟩
  have B0 := Lib.hid (B0.out.trans (hbX.mono B0.out.size))
  have qn := Lib.hid (qn.out.below hbX)
  obtain ⟨xb, hxb⟩ : ∃ g, Hid (w9.heap.size = g) := ⟨_, Lib.hid rfl⟩
  go_wp2_with fail
  rw [← hWX]
  rw [hxb.out] at HBX
  rw [hxb.out]
  clear hWX hbX
  refine (toSignalS _ _ ss _ (Kn.C_below B0.out HS.out) hsl).mono ?_
  intro e w10 hr
  obtain ⟨Q2, Qc2, rfl, hQc2, qs, hb⟩ := RetS.opC hr
  have B0 := Lib.hid (B0.out.trans (hb.mono B0.out.size))
  have qn := Lib.hid (qn.out.below hb)
  have HBX := Lib.hid (HBX.out.below hb HBX.out.lt)
  clear hr hb
  go_wp2_with fail
  refine (toRouteS A3 c3 gs _ (Kn.C_below B0.out HG.out) hgl HGN).mono ?_
  intro e w11 hr
  obtain ⟨Q3, Qc3, rfl, hQc3, qr, hb⟩ := RetS.opC hr
  have B0 := Lib.hid (B0.out.trans (hb.mono B0.out.size))
  have qn := Lib.hid (qn.out.below hb)
  have HBX := Lib.hid (HBX.out.below hb HBX.out.lt)
  have qs := Lib.hid (Kn.C_below hb qs.out)
  clear hr hb
  go_wp2_with fail
  refine (toIntS A4 c4 ls _ (Kn.C_below B0.out HL.out) l1').mono ?_
  intro e w12 hr
  obtain ⟨Q4, Qc4, rfl, hQc4, ql, hb⟩ := RetS.opC hr
  have B0 := Lib.hid (B0.out.trans (hb.mono B0.out.size))
  have qn := Lib.hid (qn.out.below hb)
  have HBX := Lib.hid (HBX.out.below hb HBX.out.lt)
  have qs := Lib.hid (Kn.C_below hb qs.out)
  have qr := Lib.hid (Kn.C_below hb qr.out)
  clear hr hb
  have d0 := HBX.out.cell 0 rfl
  have d1 := HBX.out.cell 1 rfl
  have dz : xb < w12.heap.size := HBX.out.lt
  go_wp2_with fail
  refine (implRouteAt x ss gs frm ls Q0 Q1 Q2 Q3 Q4 Qc0 Qc1 Qc2 Qc3 Qc4 _ qn.out qs.out hQc2 qr.out ql.out NI.out SI.out).mono ?_
  rintro e w13 ⟨rfl, hb⟩
  have B0 := Lib.hid (B0.out.trans (hb.mono B0.out.size))
  have qn := Lib.hid (qn.out.below hb)
  have HBX := Lib.hid (HBX.out.below hb HBX.out.lt)
  have qs := Lib.hid (Kn.C_below hb qs.out)
  have qr := Lib.hid (Kn.C_below hb qr.out)
  have ql := Lib.hid (Kn.C_below hb ql.out)
  clear hb d0 d1 dz
  have HA2 := Lib.hid (HA.out.below B0.out HA.out.lt)
  have a0 := HA2.out.cell 0 rfl
  have a1 := HA2.out.cell 1 rfl
  have az : w.heap.size < w13.heap.size := HA2.out.lt
  have d0 := HBX.out.cell 0 rfl
  have d1 := HBX.out.cell 1 rfl
  have dz : xb < w13.heap.size := HBX.out.lt
  have HX9 := Lib.hid (HX.out.below B0.out).drew
  have q9 := Lib.hid qn.out.drew
  go_wp2_with fail
  go_region_held3 (fun w' => w'.cell? ⟨w.heap.size, 0, none⟩ = some (.slice A0 x.pieces.length c0) ∧ w'.cell? ⟨w.heap.size, 1, none⟩ = some (.slice A1 x.joints.length c1) ∧ w'.cell? ⟨xb, 0, none⟩ = some (.slice Q0 x.pieces.length Qc0) ∧ w'.cell? ⟨xb, 1, none⟩ = some (.slice Q1 x.joints.length Qc1))
    (first | exact ⟨cell_below hbb (cell_below hba a0), cell_below hbb (cell_below hba a1), cell_below hbb (cell_below hba d0), cell_below hbb (cell_below hba d1)⟩ | exact ⟨cell_below hba a0, cell_below hba a1, cell_below hba d0, cell_below hba d1⟩ | go_keep)
    (first | (go_at_call 9; (with_reducible refine (toNetC x A0 A1 c0 c1 _ (HX9.out) NI.out).mono ?_); intro e wy hr; obtain ⟨G8, G1, k0, k1, rfl, q10, hba⟩ := RetNet.opC hr; clear hr)
           | (go_at_call 13; (with_reducible refine (eqNetC x x Q0 Q1 Qc0 Qc1 G8 G1 k0 k1 _ (q9.out.below hba) (q10.out)).mono ?_); rintro e wz ⟨rfl, hbb⟩; rw [HV.out]))
  have kk : Below w13.heap.size w13 wz := ((Below.refl w13.heap.size w13).drew).trans (hba.trans (hbb.mono hba.size))
  have B0 := Lib.hid (B0.out.trans (kk.mono B0.out.size))
  have qs := Lib.hid (Kn.C_below kk qs.out)
  have qr := Lib.hid (Kn.C_below kk qr.out)
  have ql := Lib.hid (Kn.C_below kk ql.out)
  clear q9 q10 hba hbb kk HX9 a0 a1 az d0 d1 dz qn HBX HA2
  go_wp2_with fail
  refine (toSignalS _ _ ss _ (Kn.C_below B0.out HS.out) hsl).mono ?_
  intro e w14 hr
  obtain ⟨G2, g2, rfl, hg2, r2, hb⟩ := RetS.opC hr
  have B0 := Lib.hid (B0.out.trans (hb.mono B0.out.size))
  have qs := Lib.hid (Kn.C_below hb qs.out)
  have qr := Lib.hid (Kn.C_below hb qr.out)
  have ql := Lib.hid (Kn.C_below hb ql.out)
  clear hr hb
  go_wp2_with fail
  refine (eqSignalS _ _ _ _ ss ss _ qs.out r2.out).mono ?_
  rintro e w15 ⟨rfl, hb⟩
  rw [HU.out]
  have B0 := Lib.hid (B0.out.trans (hb.mono B0.out.size))
  have qr := Lib.hid (Kn.C_below hb qr.out)
  have ql := Lib.hid (Kn.C_below hb ql.out)
  clear hb r2
  go_wp2_with fail
  refine (toRouteS A3 c3 gs _ (Kn.C_below B0.out HG.out) hgl HGN).mono ?_
  intro e w16 hr
  obtain ⟨G2, g2, rfl, hg2, r2, hb⟩ := RetS.opC hr
  have B0 := Lib.hid (B0.out.trans (hb.mono B0.out.size))
  have qr := Lib.hid (Kn.C_below hb qr.out)
  have ql := Lib.hid (Kn.C_below hb ql.out)
  clear hr hb
  go_wp2_with fail
  refine (eqRouteS _ _ _ _ gs gs _ qr.out r2.out).mono ?_
  rintro e w17 ⟨rfl, hb⟩
  rw [HE.out]
  have B0 := Lib.hid (B0.out.trans (hb.mono B0.out.size))
  have ql := Lib.hid (Kn.C_below hb ql.out)
  clear hb r2
  go_wp2_with fail
  refine (toIntS A4 c4 ls _ (Kn.C_below B0.out HL.out) l1').mono ?_
  intro e w18 hr
  obtain ⟨G2, g2, rfl, hg2, r2, hb⟩ := RetS.opC hr
  have B0 := Lib.hid (B0.out.trans (hb.mono B0.out.size))
  have ql := Lib.hid (Kn.C_below hb ql.out)
  clear hr hb
  go_wp2_with fail
  refine (eqIntS _ _ _ _ ls ls _ ql.out r2.out).mono ?_
  rintro e w19 ⟨rfl, hb⟩
  rw [HLE.out]
  have B0 := Lib.hid (B0.out.trans (hb.mono B0.out.size))
  clear hb r2
  go_wp2
  go_ret
  exact ⟨rfl, HB0.trans (B0.out.mono HB0.size)⟩
end Go.Proofs.YtpggopdojhodaaaGreat.L
