/- The law FnParts, walked: it answers true. -/
import Derived.Test.YtamhkgphbpbhfaaVm
namespace Go.Proofs.Ytamhkgphbpbhfaa.L
open Go.RowKit
open Classical
set_option linter.unusedVariables false
set_option linter.unusedSimpArgs false
theorem add_nil (a : Addr) : a.add 0 = a := by unfold Addr.add; simp
def ovS (l : List Part) (j : Nat) : Int := ((l.take j).map (fun x => x.til - x.frm)).sum
theorem ovS_zero (l : List Part) : ovS l 0 = 0 := rfl
theorem ovS_succ {l : List Part} {j : Nat} {a b c : Int} (h : l[j]? = some ⟨a, b, c⟩) : ovS l (j + 1) = ovS l j + (c - b) := by
  unfold ovS
  rw [List.take_add_one, h]
  simp
theorem RetRR.Cd {rs : List Route} {w w' : World} {e : Ending} (h : RetRR rs w e w') : ∃ A c, e = .returned (.slice A rs.length c) ∧ rs.length ≤ c ∧ Hid (rK.C w' (fun _ => True) A rs) ∧ Below w.heap.size w w' := by
  obtain ⟨A, c, rfl, hl, hR, _, hb⟩ := h
  exact ⟨A, c, rfl, hl, Lib.hid (Kn.C_mono (fun _ _ => trivial) (Rw_slice hR.out).2.2), hb⟩
set_option maxRecDepth 100000 in
set_option maxHeartbeats 16000000 in
theorem lawParts {ok : Nat → Prop} (bs : List Int) (A : Option Addr) (c : Nat) (w : World) (hx : byteK.C w ok A bs) (hbs : Hid (∀ x ∈ bs, 0 ≤ x ∧ x ≤ 255)) : Calls Try.prog 6 #[.slice A bs.length c] w (RetB true w) := by
  have hm := hx.1
  have HX := Lib.hid hx
  clear hx
  by_cases hl : 1048576 < bs.length
  · have d0 : decide ((1048576 : Int) < (bs.length : Int)) = true := decide_eq_true (by omega)
    go_enter Try.func6, Try.ntmps6
    go_wp2
    go_ret
    exact ⟨rfl, Below.refl _ _⟩
  have d0 : decide ((1048576 : Int) < (bs.length : Int)) = false := decide_eq_false (by omega)
  go_enter Try.func6, Try.ntmps6
  go_wp2_with fail
  refine (drDrawn bs A c _ HX.out hbs).mono ?_
  rintro e w1 ⟨n, ss, ov, A0, A1, A2, c0, c1, c2, rfl, HD, HS, hc2, ov0, ov1, HN, HSg, HB1⟩
  clear d0 hl
  obtain ⟨W2, hW2, hb2, BN⟩ : ∃ W, W = w1.alloc (.cells #[.slice A0 n.pieces.length c0, .slice A1 n.joints.length c1] 26) ∧ Hid (Below w1.heap.size w1 W) ∧ Hid (Blk W w1.heap.size 26 [.slice A0 n.pieces.length c0, .slice A1 n.joints.length c1]) := ⟨_, rfl, Lib.hid (below_alloc _ _), Lib.hid (Blk.new _ _ _ rfl)⟩
  go_upto_region 4 with (fail)
  rw [← hW2]
  clear hW2
  have HN := Lib.hid (HN.out.below hb2.out)
  have HSg := Lib.hid (Kn.C_below hb2.out HSg.out)
  have HB2 := Lib.hid (HB1.out.trans (hb2.out.mono HB1.out.size))
  have s0 := BN.out.cell 0 rfl
  have s1 := BN.out.cell 1 rfl
  have hz : w1.heap.size < W2.heap.size := BN.out.lt
  go_wp2_with fail
  refine (implRoutes n ss ov A0 A1 A2 c0 c1 c2 _ HN.out HSg.out hc2 HD.out.sm.netIn HS.out.sigIn).mono ?_
  intro e w3 hr
  obtain ⟨P, cp, rfl, hcp, HC, hb3⟩ := RetS.opC hr
  obtain ⟨gs, hgs⟩ : ∃ l, Hid (routesF n ss ov = l) := ⟨_, Lib.hid rfl⟩
  rw [hgs.out] at HC ⊢
  have hgl : gs.length ≤ 300 := by rw [← hgs.out]; exact routesF_len n ss ov
  have HRT : Hid (∀ r ∈ gs, Right n ss ∧ Rt n ss ov r ∧ Fwd r) := Lib.hid (fun r hr => by
    rw [← hgs.out] at hr
    exact ⟨(routesF_rt hr).1, (routesF_rt hr).2.2.2, routesF_fwd hr⟩)
  clear hr
  have HN := Lib.hid (HN.out.below hb3)
  have HSg := Lib.hid (Kn.C_below hb3 HSg.out)
  have BN := Lib.hid (BN.out.below hb3 BN.out.lt)
  have HB3 := Lib.hid (HB2.out.trans (hb3.mono HB2.out.size))
  have s0 := BN.out.cell 0 rfl
  have s1 := BN.out.cell 1 rfl
  have hz : w1.heap.size < w3.heap.size := BN.out.lt
  clear hb3 hb2 HB1 HB2 hcp
  go_wp2_with fail
  refine (specRoutes n ss ov A0 A1 A2 c0 c1 c2 _ HN.out HSg.out HD.out.sm.netIn HS.out.sigIn).mono ?_
  intro e w4 hr
  obtain ⟨P2, cp2, rfl, hcp2, _, hb4⟩ := RetRR.Cd hr
  rw [hgs.out]
  have HN := Lib.hid (HN.out.below hb4)
  have HSg := Lib.hid (Kn.C_below hb4 HSg.out)
  have BN := Lib.hid (BN.out.below hb4 BN.out.lt)
  have HC := Lib.hid (Kn.C_below hb4 HC.out)
  have HB4 := Lib.hid (HB3.out.trans (hb4.mono HB3.out.size))
  clear hr hb4 HB3 s0 s1 hz hcp2
  have d1 : ((gs.length : Int) != (gs.length : Int)) = false := len_eq rfl
  go_wp2
  go_loopw [46] (fun iv wr => ∃ k : Nat, k ≤ gs.length ∧ iv = .int .i64 k ∧ Hid (Below w4.heap.size w4 wr)) (fun iv _ => gs.length - (intOf iv).toNat)
  case atStart => exact ⟨0, Nat.zero_le _, rfl, Lib.hid (Below.refl _ _)⟩
  case round =>
  obtain ⟨wo, rfl⟩ : ∃ wo : World, wo = wr := ⟨_, rfl⟩
  obtain ⟨k, hk, rfl, HBr⟩ := hrel
  by_cases hlt : k < gs.length
  rotate_left
  · as_aux_lemma =>
    have d2 : decide ((k : Int) < (gs.length : Int)) = false := decide_eq_false (by omega)
    have hfin := HB4.out.trans (HBr.out.mono HB4.out.size)
    go_wp2
    go_ret
    exact ⟨rfl, hfin⟩
  have d2 : decide ((k : Int) < (gs.length : Int)) = true := decide_eq_true (by omega)
  have i0 : (0 : Int) ≤ (k : Int) := Int.natCast_nonneg _
  have i1 : (k : Int) < (gs.length : Int) := by omega
  obtain ⟨ra, rfl, r, Er, D2, D3, D4, D5, D6, D7, e2, e3, e4, e5, e6, e7, p0, p1, p2, p3, p4, p5, p6, p7, HRr⟩ := rC_at (Kn.C_below HBr.out HC.out) k hlt
  have HR := Lib.hid (HRT.out r (List.mem_of_getElem? Er.out))
  have HSr := Lib.hid (Kn.C_below HBr.out HSg.out)
  have HNr := Lib.hid (HN.out.below HBr.out)
  have BNr := Lib.hid (BN.out.below HBr.out BN.out.lt)
  obtain ⟨r0, r1, r2, r3, r4, r5, r6, r7⟩ := r
  obtain ⟨u, hu, hul, hfr⟩ : ∃ u : Nat, r0 = u ∧ u < ss.length ∧ Hid (∃ sg, ss[u]? = some sg ∧ ∀ (x : Part) (s : Step), r5[0]? = some x → r2[0]? = some s → s.piece = sg.piece ∧ s.way = sg.way ∧ (if s.way = -1 then x.til else x.frm) = sg.at_) := by
    obtain ⟨i, sg, h1, h2, h3⟩ := HR.out.2.1.frm
    exact ⟨i, h1, (List.getElem?_eq_some_iff.1 h2).1, Lib.hid ⟨sg, h2, h3⟩⟩
  subst hu
  have hlen : Hid (r5.length = r2.length) := Lib.hid HR.out.2.1.len
  have hpos : 0 < r2.length := HR.out.2.1.pos
  have hpos5 : 0 < r5.length := by have := hlen.out; omega
  have hrl : r2.length ≤ 201 := by have h1 := HR.out.2.1.stepN; have h2 := HD.out.le; have h3 : r2.length ≤ 2 * n.pieces.length + 1 := h1; omega
  have hl3 : r3.length ≤ 201 := (Rt.size HR.out.1 HR.out.2.1 (by omega)).2.1
  have hl6 : r6.length ≤ 100000 := (Rt.size HR.out.1 HR.out.2.1 (by omega)).2.2.2.2.1
  have hl7 : r7.length ≤ 40200 := (Rt.size HR.out.1 HR.out.2.1 (by omega)).2.2.2.2.2
  obtain ⟨W5, hW5, hb5, HQ⟩ : ∃ W, W = wo.alloc (.cells #[.int .i64 u, .int .i64 r1, .slice D2 r2.length e2, .slice D3 r3.length e3, .slice D4 r4.length e4, .slice D5 r5.length e5, .slice D6 r6.length e6, .slice D7 r7.length e7] 44) ∧ Below wo.heap.size wo W ∧ Hid (Blk W wo.heap.size 44 [.int .i64 u, .int .i64 r1, .slice D2 r2.length e2, .slice D3 r3.length e3, .slice D4 r4.length e4, .slice D5 r5.length e5, .slice D6 r6.length e6, .slice D7 r7.length e7]) := ⟨_, rfl, below_alloc _ _, Lib.hid (Blk.new _ _ _ rfl)⟩
  have HRr := Lib.hid (HRr.out.below hb5)
  have HSr := Lib.hid (Kn.C_below hb5 HSr.out)
  have HNr := Lib.hid (HNr.out.below hb5)
  have BNr := Lib.hid (BNr.out.below hb5 BNr.out.lt)
  have HB5 := Lib.hid (HBr.out.trans (hb5.mono HBr.out.size))
  go_upto_region 10 with (fail)
  rw [← hW5]
  clear hW5 p0 p1 p2 p3 p4 p5 p6 p7 hb5 HBr i0 i1
  have q0 := HQ.out.cell 0 rfl
  have q1 := HQ.out.cell 1 rfl
  have q2 := HQ.out.cell 2 rfl
  have q3 := HQ.out.cell 3 rfl
  have q5 := HQ.out.cell 5 rfl
  have q6 := HQ.out.cell 6 rfl
  have q7 := HQ.out.cell 7 rfl
  have n0 := BNr.out.cell 0 rfl
  have hqz : wo.heap.size < W5.heap.size := HQ.out.lt
  have hnz : w1.heap.size < W5.heap.size := BNr.out.lt
  obtain ⟨sa, rfl, z0, z1, z2, z3, EZ, g0, g1, g2, g3⟩ := signalK_at HSr.out u hul
  obtain ⟨ta, rfl, y0, y1, EY, h0, h1⟩ := stepK_at HRr.out.h2 0 hpos
  obtain ⟨pa, rfl, x0, x1, x2, EX, j0, j1, j2⟩ := partK_at HRr.out.h5 0 hpos5
  have hfirst : Hid (y0 = z1 ∧ y1 = z3 ∧ (if y1 = -1 then x2 else x1) = z2) := Lib.hid (by
    obtain ⟨sg, h2, h3⟩ := hfr.out
    obtain rfl := Option.some.inj (h2.symm.trans EZ.out)
    exact h3 _ _ EX.out EY.out)
  rw [show 0 * 2 = 0 from rfl, add_nil] at h0 h1
  rw [show 0 * 3 = 0 from rfl, add_nil] at j0 j1 j2
  have u0 : (0 : Int) ≤ (u : Int) := Int.natCast_nonneg _
  have u1 : (u : Int) < (ss.length : Int) := by omega
  have t0 : (0 : Int) < (r2.length : Int) := by omega
  have t1 : (0 : Int) < (r5.length : Int) := by omega
  have f0 : ((r5.length : Int) != (r2.length : Int)) = false := len_eq hlen.out
  have f1 : ((r2.length : Int) == 0) = false := int_eqf (by omega)
  have f2 : (y0 != z1) = false := by rw [hfirst.out.1]; simp
  go_quiet (fail)
  clear f0 f1 f2 h0 h1 j0 j1 j2 g0 g1 g3 t0 t1
  go_wp2
  go_loopw [84] (fun iv wr => ∃ j : Nat, j ≤ r5.length ∧ iv = .int .i64 j ∧ Hid (Below W5.heap.size W5 wr)) (fun iv _ => r5.length - (intOf iv).toNat)
  case atStart => exact ⟨0, Nat.zero_le _, rfl, Lib.hid (by repeat' first | exact Below.refl _ _ | (refine below_drewN ?_ _) | (refine Below.drew ?_))⟩
  case round =>
  obtain ⟨wq, rfl⟩ : ∃ wq : World, wq = wr := ⟨_, rfl⟩
  obtain ⟨j, hj, rfl, HBq⟩ := hrel
  by_cases hlj : j < r5.length
  · as_aux_lemma =>
    have d3 : decide ((j : Int) < (r5.length : Int)) = true := decide_eq_true (by omega)
    have hl2 : j < r2.length := by have := hlen.out; omega
    have c0 : (0 : Int) ≤ (j : Int) := Int.natCast_nonneg _
    have c1' : (j : Int) < (r5.length : Int) := by omega
    have c2' : (j : Int) < (r2.length : Int) := by omega
    obtain ⟨pa', hpa, X0, X1, X2, EXj, j0, j1, j2⟩ := partK_at (Kn.C_below HBq.out HRr.out.h5) j hlj
    obtain ⟨ta', hta, Y0, Y1, EYj, h0, h1⟩ := stepK_at (Kn.C_below HBq.out HRr.out.h2) j hl2
    obtain rfl := Option.some.inj hpa
    obtain rfl := Option.some.inj hta
    clear hpa hta
    have HPt := Lib.hid (HR.out.2.1.part j _ _ EXj.out EYj.out)
    have HSt := Lib.hid (HR.out.2.1.stepP _ (List.mem_of_getElem? EYj.out))
    obtain ⟨pu, hpu, hpl⟩ : ∃ pu : Nat, X0 = pu ∧ pu < n.pieces.length := by
      have h1 := HPt.out.2.1
      have h2 := HSt.out.1
      simp only at h1 h2
      exact ⟨X0.toNat, by omega, by omega⟩
    subst hpu
    obtain ⟨ap, hA0, w0, w1', w2', w3', EP, m0, m1, m2, m3⟩ := pieceK_at (HNr.out.below HBq.out).p pu hpl
    have HX : Hid ((pu : Int) = Y0 ∧ 0 ≤ X1 ∧ X1 ≤ X2 ∧ X2 ≤ w1' ∧ (0 < j → j + 1 < r2.length → X2 - X1 = w1')) := Lib.hid (by
      obtain ⟨_, g1, g2, g3, g4, g5⟩ := HPt.out
      have hpp : pl n (pu : Int) = w1' := pl_at EP.out
      simp only at g1 g2 g3 g4 g5
      rw [hpp] at g4 g5
      exact ⟨g1, g2, g3, g4, g5⟩)
    have HQq := Lib.hid (HQ.out.below HBq.out HQ.out.lt)
    have BNq := Lib.hid (BNr.out.below HBq.out BNr.out.lt)
    obtain ⟨W7, hW7, hb7, B7p, B7x⟩ : ∃ W, W = (wq.alloc (.cells #[.int .i64 pu, .int .i64 X1, .int .i64 X2] 48)).alloc (.cells #[.int .i64 Y0, .int .i64 Y1] 46) ∧ Below wq.heap.size wq W ∧ Hid (Blk W wq.heap.size 48 [.int .i64 pu, .int .i64 X1, .int .i64 X2]) ∧ Hid (Blk W (wq.heap.size + 1) 46 [.int .i64 Y0, .int .i64 Y1]) := ⟨_, rfl, (below_alloc _ _).alloc (by rw [size_alloc]; omega) _, Lib.hid ((Blk.new wq 48 [.int .i64 pu, .int .i64 X1, .int .i64 X2] rfl).alloc _), Lib.hid (Blk.new _ _ _ (by rw [size_alloc]))⟩
    have gb : (ta.add (j * 2)).block < wq.heap.size := World.block_lt_of_cell? _ _ h0
    have q2 := HQq.out.cell 2 rfl
    have hqz : wo.heap.size < wq.heap.size := HQq.out.lt
    go_upto_region 17 with (fail)
    rw [← hW7]
    clear hW7 gb h0 h1 j0 j1 j2 q0 q1 q3 q5 q6 q7 n0 c1' c2'
    have m1 := cell_below hb7 m1
    have BN7 := Lib.hid (BNq.out.below hb7 BNq.out.lt)
    have n0 := BN7.out.cell 0 rfl
    have x0c := B7p.out.cell 0 rfl
    have x1c := B7p.out.cell 1 rfl
    have x2c := B7p.out.cell 2 rfl
    have y0c := B7x.out.cell 0 rfl
    have hz7 : wq.heap.size < W7.heap.size := B7p.out.lt
    have hz8 : wq.heap.size + 1 < W7.heap.size := B7x.out.lt
    have hz9 : w1.heap.size < W7.heap.size := BN7.out.lt
    have HB7 := Lib.hid (HBq.out.trans (hb7.mono HBq.out.size))
    subst hA0
    have pu0 : (0 : Int) ≤ (pu : Int) := Int.natCast_nonneg _
    have pu1 : (pu : Int) < (n.pieces.length : Int) := by omega
    have k0 : ((pu : Int) != Y0) = false := by rw [HX.out.1]; simp
    have k1 : decide (X1 < 0) = false := decide_eq_false (by have := HX.out.2.1; omega)
    have k2 : decide (X2 < X1) = false := decide_eq_false (by have := HX.out.2.2.1; omega)
    have k3 : decide (w1' < X2) = false := decide_eq_false (by have := HX.out.2.2.2.1; omega)
    have HMID : Hid (0 < j → j + 1 < r2.length → X2 - X1 = w1') := Lib.hid HX.out.2.2.2.2
    have HBX : Hid (0 ≤ X1 ∧ X1 ≤ X2 ∧ X2 ≤ w1') := Lib.hid ⟨HX.out.2.1, HX.out.2.2.1, HX.out.2.2.2.1⟩
    have HW1 : Hid (0 ≤ w1' ∧ w1' ≤ 10000000) := Lib.hid (by
      have hpp : pl n (pu : Int) = w1' := pl_at EP.out
      have := pl_in HR.out.1.g pu0 (by omega)
      rw [hpp] at this
      omega)
    clear hb7 m0 m2 m3 HX HPt HSt
    go_quiet (fail)
    clear k0 k1 k2 k3 y0c
    go_upto_region 19 with (fail)
    go_cut [144] (fun v wc => v = .bool false ∧ Hid (Below W7.heap.size W7 wc))
    case first =>
      have wx : IntKind.i64.wrap (X2 - X1) = X2 - X1 := by rw [IntKind.wrap_i64]; have := HBX.out; have := HW1.out; omega
      by_cases g1 : 0 < j
      · have b1 : decide ((0 : Int) < (j : Int)) = true := decide_eq_true (by omega)
        by_cases g2 : j + 1 < r2.length
        · have b2 : decide ((j : Int) < (r2.length : Int) - 1) = true := decide_eq_true (by omega)
          have b3 : (X2 - X1 != w1') = false := by rw [HMID.out g1 g2]; simp
          go_quiet (fail)
          go_wp2
          go_meet
          case rel => exact ⟨rfl, Lib.hid (by repeat' first | exact Below.refl _ _ | (refine below_drewN ?_ _) | (refine Below.drew ?_))⟩
        · have b2 : decide ((j : Int) < (r2.length : Int) - 1) = false := decide_eq_false (by omega)
          go_quiet (fail)
          go_wp2
          go_meet
          case rel => exact ⟨rfl, Lib.hid (by repeat' first | exact Below.refl _ _ | (refine below_drewN ?_ _) | (refine Below.drew ?_))⟩
      · have b1 : decide ((0 : Int) < (j : Int)) = false := decide_eq_false (by omega)
        go_quiet (fail)
        go_wp2
        go_meet
        case rel => exact ⟨rfl, Lib.hid (by repeat' first | exact Below.refl _ _ | (refine below_drewN ?_ _) | (refine Below.drew ?_))⟩
    obtain ⟨rfl, HBc⟩ := hcut
    go_wp2
    go_roundw
    case rel => exact ⟨j + 1, by omega, by go_num, Lib.hid (HB7.out.trans (HBc.out.mono HB7.out.size))⟩
    case measure => simp [intOf]; omega
  obtain rfl : j = r5.length := by omega
  have d3 : decide ((r5.length : Int) < (r5.length : Int)) = false := decide_eq_false (by omega)
  -- where the first part begins
  have HQq := Lib.hid (HQ.out.below HBq.out HQ.out.lt)
  have q0 := HQq.out.cell 0 rfl
  have q1 := HQq.out.cell 1 rfl
  have q2 := HQq.out.cell 2 rfl
  have q5 := HQq.out.cell 5 rfl
  have hqz : wo.heap.size < wq.heap.size := HQq.out.lt
  obtain ⟨sa', hsa', z0', z1', z2', z3', EZ', g0, g1, g2, g3⟩ := signalK_at (Kn.C_below HBq.out HSr.out) u hul
  obtain ⟨ta', hta', y0', y1', EY', h0, h1⟩ := stepK_at (Kn.C_below HBq.out HRr.out.h2) 0 hpos
  obtain ⟨pa', hpa', x0', x1', x2', EX', j0, j1, j2⟩ := partK_at (Kn.C_below HBq.out HRr.out.h5) 0 hpos5
  obtain rfl := Option.some.inj hsa'
  obtain rfl := Option.some.inj hta'
  obtain rfl := Option.some.inj hpa'
  rw [show 0 * 2 = 0 from rfl, add_nil] at h0 h1
  rw [show 0 * 3 = 0 from rfl, add_nil] at j0 j1 j2
  have hfa : Hid ((if y1' = -1 then x2' else x1') = z2') := Lib.hid (by
    obtain ⟨sg, h2, h3⟩ := hfr.out
    obtain rfl := Option.some.inj (h2.symm.trans EZ'.out)
    exact (h3 _ _ EX'.out EY'.out).2.2)
  have t0 : (0 : Int) < (r2.length : Int) := by omega
  have t1 : (0 : Int) < (r5.length : Int) := by omega
  clear hsa' hta' hpa' g0 g1 g3 j0 h0 n0 q3 q6 q7
  go_upto_if 156 with (fail)
  go_cut [13] (fun v wc => v = .int .i64 z2' ∧ wc = wq)
  case first =>
   as_aux_lemma =>
    by_cases hy : y1' = -1
    · have dy : (y1' == -1) = true := int_eqt hy
      have e := hfa.out
      rw [if_pos hy] at e
      have E := Lib.hid e
      clear e hy
      go_wp2
      go_meet
      case rel => exact ⟨by rw [E.out], rfl⟩
    · have dy : (y1' == -1) = false := int_eqf hy
      have e := hfa.out
      rw [if_neg hy] at e
      have E := Lib.hid e
      clear e hy
      go_wp2
      go_meet
      case rel => exact ⟨by rw [E.out], rfl⟩
  obtain ⟨rfl, rfl⟩ := hcut
  obtain ⟨wq, rfl⟩ : ∃ w : World, w = wc := ⟨_, rfl⟩
  clear j1 j2 h1
  go_upto_if 172 with (fail)
  clear g2
  obtain ⟨l, HLL, hll, hll5, HL1⟩ : ∃ l : Nat, Hid (r2.length - 1 = l) ∧ l < r2.length ∧ l < r5.length ∧ Hid ((r2.length : Int) - 1 = (l : Int)) := ⟨_, Lib.hid rfl, by omega, by have := hlen.out; omega, Lib.hid (by omega)⟩
  rw [HL1.out]
  go_cut [14] (fun _ wc => Hid (Below wq.heap.size wq wc))
  case first =>
   as_aux_lemma =>
    by_cases hr1 : 0 ≤ r1
    rotate_left
    · have dr : decide (0 ≤ r1) = false := decide_eq_false hr1
      go_wp2
      go_meet
      case rel => exact Lib.hid (Below.refl _ _)
    have dr : decide (0 ≤ r1) = true := decide_eq_true hr1
    obtain ⟨b, hb, hbl, HLst⟩ : ∃ b : Nat, r1 = b ∧ b < ss.length ∧ Hid (∃ sb, ss[b]? = some sb ∧ ∀ (x : Part) (s : Step), r5[r2.length - 1]? = some x → r2[r2.length - 1]? = some s → s.piece = sb.piece ∧ s.way = sb.way ∧ (if s.way = -1 then x.frm else x.til) = sb.at_) := by
      rcases HR.out.2.1.til with ⟨h1, _⟩ | ⟨b, sb, h1, h2, h3⟩
      · have h1 : r1 = -1 := h1
        omega
      · exact ⟨b, h1, (List.getElem?_eq_some_iff.1 h2).1, Lib.hid ⟨sb, h2, h3⟩⟩
    subst hb
    obtain ⟨sa', hsa', v0, v1, v2, v3, EV, g0, g1, g2, g3⟩ := signalK_at (Kn.C_below HBq.out HSr.out) b hbl
    obtain ⟨ta', hta', Y0, Y1, EY', h0, h1⟩ := stepK_at (Kn.C_below HBq.out HRr.out.h2) l hll
    obtain ⟨pa', hpa', X0, X1, X2, EX', j0, j1, j2⟩ := partK_at (Kn.C_below HBq.out HRr.out.h5) l hll5
    obtain rfl := Option.some.inj hsa'
    obtain rfl := Option.some.inj hta'
    obtain rfl := Option.some.inj hpa'
    have HE : Hid (Y0 = v1 ∧ Y1 = v3 ∧ (if Y1 = -1 then X1 else X2) = v2) := Lib.hid (by
      obtain ⟨sb, h2, h3⟩ := HLst.out
      obtain rfl := Option.some.inj (h2.symm.trans EV.out)
      rw [HLL.out] at h3
      exact h3 _ _ EX'.out EY'.out)
    have b0 : (0 : Int) ≤ (b : Int) := by omega
    have b1 : (b : Int) < (ss.length : Int) := by omega
    have l0 : (0 : Int) ≤ (l : Int) := by omega
    have l1 : (l : Int) < (r2.length : Int) := by omega
    have l2 : (l : Int) < (r5.length : Int) := by have := hlen.out; omega
    clear hsa' hta' hpa'
    go_upto_if 185 with (fail)
    go_cut [14] (fun v wc => v = .int .i64 v2 ∧ wc = wq)
    case first =>
      by_cases hy : Y1 = -1
      · have dy : (Y1 == -1) = true := int_eqt hy
        have e := HE.out.2.2
        rw [if_pos hy] at e
        have E := Lib.hid e
        clear e hy
        go_wp2
        go_meet
        case rel => exact ⟨by rw [E.out], rfl⟩
      · have dy : (Y1 == -1) = false := int_eqf hy
        have e := HE.out.2.2
        rw [if_neg hy] at e
        have E := Lib.hid e
        clear e hy
        go_wp2
        go_meet
        case rel => exact ⟨by rw [E.out], rfl⟩
    obtain ⟨rfl, rfl⟩ := hcut
    have m0 : (v2 != v2) = false := by simp
    have m1 : (Y0 != v1) = false := by rw [HE.out.1]; simp
    have m2 : (Y1 != v3) = false := by rw [HE.out.2.1]; simp
    go_upto_region 31 with (fail)
    go_quiet (fail)
    go_wp2
    go_meet
    case rel => exact Lib.hid (by repeat' first | exact Below.refl _ _ | (refine below_drewN ?_ _) | (refine Below.drew ?_))
  have HB8 := Lib.hid (HBq.out.trans (hcut.out.mono HBq.out.size))
  obtain ⟨w8, rfl⟩ : ∃ w : World, w = wc := ⟨_, rfl⟩
  clear hcut q0 q1 q2 q5 hqz t0 t1
  have HQ8 := Lib.hid (HQ.out.below HB8.out HQ.out.lt)
  have q1 := HQ8.out.cell 1 rfl
  have q6 := HQ8.out.cell 6 rfl
  have hqz : wo.heap.size < w8.heap.size := HQ8.out.lt
  have HSum : Hid (∀ j, 0 ≤ ovS r6 j ∧ ovS r6 j ≤ ov) := Lib.hid (fun j => by
    have h1 := sum_take r6 j HR.out.2.2
    have h2 := HR.out.2.1.over
    exact ⟨h1.1, Int.le_trans h1.2 h2⟩)
  clear HLL HL1 hll hll5
  go_upto_region 34 with (fail)
  go_wp2
  go_loopw [15, 233] (fun sv iv wr => ∃ j : Nat, j ≤ r6.length ∧ iv = .int .i64 j ∧ sv = .int .i64 (ovS r6 j) ∧ Hid (Below W5.heap.size W5 wr)) (fun _ iv _ => r6.length - (intOf iv).toNat)
  case atStart => exact ⟨0, Nat.zero_le _, rfl, by rw [ovS_zero], HB8⟩
  case round =>
  obtain ⟨w9, rfl⟩ : ∃ w : World, w = wr := ⟨_, rfl⟩
  clear HB8 HQ8 q1 q6 hqz HBq HQq
  obtain ⟨j, hj, rfl, rfl, HB9⟩ := hrel
  by_cases hlj : j < r6.length
  · as_aux_lemma =>
    have d4 : decide ((j : Int) < (r6.length : Int)) = true := decide_eq_true (by omega)
    have a0 : (0 : Int) ≤ (j : Int) := Int.natCast_nonneg _
    have a1 : (j : Int) < (r6.length : Int) := by omega
    obtain ⟨pb, hpb, X0, X1, X2, EX, j0, j1, j2⟩ := partK_at (Kn.C_below HB9.out HRr.out.h6) j hlj
    subst hpb
    have HN1 : Hid (ovS r6 (j + 1) = ovS r6 j + (X2 - X1)) := Lib.hid (ovS_succ EX.out)
    have hs0 := (HSum.out j).1
    have hs1 := (HSum.out j).2
    have hs2 := HSum.out (j + 1)
    rw [HN1.out] at hs2
    have hd0 : 0 ≤ X2 - X1 := HR.out.2.2 _ (List.mem_of_getElem? EX.out)
    have wx : IntKind.i64.wrap (X2 - X1) = X2 - X1 := by rw [IntKind.wrap_i64]; omega
    have wy : IntKind.i64.wrap (ovS r6 j + (X2 - X1)) = ovS r6 j + (X2 - X1) := by rw [IntKind.wrap_i64]; omega
    have hbn : Below W5.heap.size W5 (w9.alloc (.cells #[.int .i64 X0, .int .i64 X1, .int .i64 X2] 48)) := HB9.out.alloc HB9.out.size _
    have HBN := Lib.hid hbn
    clear hbn hs0 hs1 hs2 hd0
    go_wp2
    go_roundw
    case rel => exact ⟨j + 1, by omega, by go_num, by rw [HN1.out], HBN⟩
    case measure => simp [intOf]; omega
  obtain rfl : j = r6.length := by omega
  have d4 : decide ((r6.length : Int) < (r6.length : Int)) = false := decide_eq_false (by omega)
  have HQ9 := Lib.hid (HQ.out.below HB9.out HQ.out.lt)
  have q1 := HQ9.out.cell 1 rfl
  have q3 := HQ9.out.cell 3 rfl
  have q6 := HQ9.out.cell 6 rfl
  have hqz : wo.heap.size < w9.heap.size := HQ9.out.lt
  have d5 : decide (ov < ovS r6 r6.length) = false := decide_eq_false (by have := (HSum.out r6.length).2; omega)
  go_upto_region 39 with (fail)
  go_cut [258] (fun v wc => v = .bool false ∧ wc = w9)
  case first =>
   as_aux_lemma =>
    by_cases hr1 : r1 < 0
    · have dr : decide (r1 < 0) = true := decide_eq_true hr1
      have h6 : r6.length = 0 := by
        rcases HR.out.2.1.til with ⟨_, h⟩ | ⟨b, sb, h, _⟩
        · have h : r6 = [] := h
          rw [h]; rfl
        · have h : r1 = b := h
          omega
      have d6 : decide ((0 : Int) < (r6.length : Int)) = false := decide_eq_false (by omega)
      have d6' : decide (0 < r6.length) = false := decide_eq_false (by omega)
      have H6 := Lib.hid h6
      clear h6
      go_wp2
      go_meet
      case rel => exact ⟨rfl, rfl⟩
    · have dr : decide (r1 < 0) = false := decide_eq_false hr1
      go_wp2
      go_meet
      case rel => exact ⟨rfl, rfl⟩
  obtain ⟨rfl, rfl⟩ := hcut
  obtain ⟨w9, rfl⟩ : ∃ w : World, w = wc := ⟨_, rfl⟩
  go_upto_region 41 with (fail)
  go_wp2
  go_loopw [262] (fun iv wr => ∃ j : Nat, j ≤ r3.length ∧ iv = .int .i64 j ∧ Hid (Below W5.heap.size W5 wr)) (fun iv _ => r3.length - (intOf iv).toNat)
  case atStart => exact ⟨0, Nat.zero_le _, rfl, HB9⟩
  case round =>
  obtain ⟨wl, rfl⟩ : ∃ w : World, w = wr := ⟨_, rfl⟩
  clear HB9 HQ9 q1 q3 q6 hqz d5
  obtain ⟨j, hj, rfl, HBl⟩ := hrel
  have HQl := Lib.hid (HQ.out.below HBl.out HQ.out.lt)
  by_cases hlj : j < r3.length
  rotate_left
  · as_aux_lemma =>
    obtain rfl : j = r3.length := by omega
    have d6 : decide ((r3.length : Int) < (r3.length : Int)) = false := decide_eq_false (by omega)
    have HBN := Lib.hid (HB5.out.trans (HBl.out.mono HB5.out.size))
    go_wp2
    go_roundw
    case rel => exact ⟨k + 1, by omega, by go_num, HBN⟩
    case measure => simp [intOf]; omega
  have d6 : decide ((j : Int) < (r3.length : Int)) = true := decide_eq_true (by omega)
  have a0 : (0 : Int) ≤ (j : Int) := Int.natCast_nonneg _
  have a1 : (j : Int) < (r3.length : Int) := by omega
  obtain ⟨la, hla, L0, L1, EL, l0, l1⟩ := lieK_at (Kn.C_below HBl.out HRr.out.h3) j hlj
  subst hla
  have q7 := HQl.out.cell 7 rfl
  have hqz : wo.heap.size < wl.heap.size := HQl.out.lt
  obtain ⟨Wm, hWm, hbm, HLm⟩ : ∃ W, W = wl.alloc (.cells #[.int .i64 L0, .int .i64 L1] 52) ∧ Below wl.heap.size wl W ∧ Hid (Blk W wl.heap.size 52 [.int .i64 L0, .int .i64 L1]) := ⟨_, rfl, below_alloc _ _, Lib.hid (Blk.new _ _ _ rfl)⟩
  have HBm := Lib.hid (HBl.out.trans (hbm.mono HBl.out.size))
  go_upto_region 44 with (fail)
  rw [← hWm]
  have q7 := cell_below hbm q7
  have hqz : wo.heap.size < Wm.heap.size := Nat.lt_of_lt_of_le hqz hbm.size
  clear hWm l0 l1 a0 a1 hbm
  go_wp2
  go_loopw [20, 269] (fun sv iv wr => ∃ (i : Nat) (b : Bool), i ≤ r7.length ∧ iv = .int .i64 i ∧ sv = .bool b ∧ Hid (b = true ∨ ∀ m f, m < i → r7[m]? = some f → ¬ f.at_ = L0) ∧ Hid (Below Wm.heap.size Wm wr)) (fun _ iv _ => r7.length - (intOf iv).toNat)
  case atStart => exact ⟨0, false, Nat.zero_le _, rfl, rfl, Lib.hid (.inr (fun m f hm => by omega)), Lib.hid (Below.refl _ _)⟩
  case round =>
  obtain ⟨wf, rfl⟩ : ∃ w : World, w = wr := ⟨_, rfl⟩
  obtain ⟨i, b, hi, rfl, rfl, HM, HBf⟩ := hrel
  by_cases hli : i < r7.length
  · as_aux_lemma =>
    have d7 : decide ((i : Int) < (r7.length : Int)) = true := decide_eq_true (by omega)
    have a0 : (0 : Int) ≤ (i : Int) := Int.natCast_nonneg _
    have a1 : (i : Int) < (r7.length : Int) := by omega
    obtain ⟨fa, hfa', F0, F1, F2, F3, EF, g0, g1, g2, g3⟩ := flankK_at (Kn.C_below (HBm.out.trans (HBf.out.mono HBm.out.size)) HRr.out.h7) i hli
    subst hfa'
    have HLf := Lib.hid (HLm.out.below HBf.out HLm.out.lt)
    have l0 := HLf.out.cell 0 rfl
    have hlz : wl.heap.size < wf.heap.size := HLf.out.lt
    have HBN := Lib.hid (HBf.out.alloc HBf.out.size (.cells #[.int .i64 F0, .int .i64 F1, .int .i64 F2, .int .i64 F3] 50))
    cases b with
    | true =>
      go_wp2
      go_roundw
      case rel => exact ⟨i + 1, true, by omega, by go_num, rfl, Lib.hid (.inl rfl), HBN⟩
      case measure => simp [intOf]; omega
    | false =>
      by_cases hF : F0 = L0
      · have dF : (F0 == L0) = true := int_eqt hF
        clear hF
        go_wp2
        go_roundw
        case rel => exact ⟨i + 1, true, by omega, by go_num, rfl, Lib.hid (.inl rfl), HBN⟩
        case measure => simp [intOf]; omega
      · have dF : (F0 == L0) = false := int_eqf hF
        have HM2 : Hid ((false = true) ∨ ∀ m f, m < i + 1 → r7[m]? = some f → ¬ f.at_ = L0) := Lib.hid (.inr (fun m f hm hf => by
          by_cases e : m = i
          · subst e
            obtain rfl := Option.some.inj (EF.out.symm.trans hf)
            exact hF
          · rcases HM.out with h | h
            · cases h
            · exact h m f (by omega) hf))
        clear hF
        go_wp2
        go_roundw
        case rel => exact ⟨i + 1, false, by omega, by go_num, rfl, HM2, HBN⟩
        case measure => simp [intOf]; omega
  obtain rfl : i = r7.length := by omega
  have d7 : decide ((r7.length : Int) < (r7.length : Int)) = false := decide_eq_false (by omega)
  obtain rfl : b = true := by
    rcases HM.out with h | h
    · exact h
    · exfalso
      obtain ⟨f, hf, hfa⟩ := Rt.flank HR.out.1 HR.out.2.1 (l := ⟨L0, L1⟩) (List.mem_of_getElem? EL.out)
      obtain ⟨m, hm⟩ := List.mem_iff_getElem?.1 hf
      exact h m f (List.getElem?_eq_some_iff.1 hm).1 hm hfa
  have HBN := Lib.hid (HBm.out.trans (HBf.out.mono HBm.out.size))
  go_wp2
  go_roundw
  case rel => exact ⟨j + 1, by omega, by go_num, HBN⟩
  case measure => simp [intOf]; omega
end Go.Proofs.Ytamhkgphbpbhfaa.L
