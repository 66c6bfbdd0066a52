/- The one who looks for flanks, in memory: what he has seen, and what he has found. Lemmas alone. -/
import Derived.Test.YtpggopdojhodaaaGreatDoorVe
namespace Go.Proofs.YtpggopdojhodaaaGreatDoor.L
open Go.RowKit
set_option linter.unusedVariables false
set_option linter.unusedSimpArgs false
theorem partN_fwd (n : Net) (p a b : Int) : partN n p 1 a b = ⟨p, a, b⟩ := rfl
theorem partN_back (n : Net) (p a b : Int) : partN n p (-1) a b = ⟨p, pl n p - b, pl n p - a⟩ := rfl
theorem partOf_q {p a b : Int} {P : Part} {w : World} (h : (⟨p, min a b, max a b⟩ : Part) = P) : Calls Tryz.prog 110 #[.int .i64 p, .int .i64 a, .int .i64 b] w (RetV P.v w) := by
  subst h
  exact implPartOf p a b w
theorem RetO.to {xs ys : List End} {hs gs : List Int} {w w' : World} {e : Ending} (h : RetO xs hs w e w') (hx : xs = ys) (hh : hs = gs) : RetO ys gs w e w' := by subst hx hh; exact h
theorem endC_head {w : World} {ok : Nat → Prop} {A : Option Addr} {e : End} (h : endK.C w ok A [e]) : ∃ ad, A = some ad ∧ w.cell? ad = some (.int .i64 e.piece) ∧ w.cell? ⟨ad.block, ad.off + 1, none⟩ = some (.int .i64 e.side) ∧ ad.block < w.heap.size := by
  obtain ⟨ad, he, y0, y1, E, g0, g1⟩ := endK_at h 0 (by simp)
  have := E.out
  simp at this
  subst this
  have h0 : ad.add (0 * 2) = ad := by unfold Addr.add; simp
  rw [h0] at g0 g1
  exact ⟨ad, he, g0, g1, World.block_lt_of_cell? w ad g0⟩
theorem behind_cells {w W0 wr w1 W1 w2 w3 : World} {v : Value} {o : Obj} {ce cp : List Value} {tE tP : TypeId} (hb : Below (w.heap.size + 1) W0 wr) (h1 : wr.heap.size ≤ w1.heap.size) (hB : Below wr.heap.size wr W1) (h2 : Below W1.heap.size W1 w2) (hg : (w2.alloc o).grownBy w3 v.ownBlock) (ho : ∀ b, v.ownBlock = some b → w.heap.size + 2 ≤ b) (hl : ∀ b, v.ownBlock = some b → b < wr.heap.size) (hE : Blk W1 w1.heap.size tE ce) (hP : Blk wr (w.heap.size + 1) tP cp) (hs : w.heap.size + 1 < W0.heap.size) :
    Below (w.heap.size + 1) W0 w3 ∧ Blk w3 w1.heap.size tE ce ∧ Blk w3 (w.heap.size + 1) tP cp ∧ w.heap.size + 1 < w3.heap.size ∧ w1.heap.size < w3.heap.size ∧ w.heap.size + 1 ≤ w2.heap.size := by
  have hbx := hB.trans (h2.mono hB.size)
  have hsz := hb.size
  have hba : Below wr.heap.size wr (w2.alloc o) := hbx.alloc hbx.size o
  have hsa := hba.size
  have hsb := hbx.size
  have hsg := hg.size
  have hel := hE.lt
  have hs2 := h2.size
  rw [size_alloc] at hsg
  refine ⟨(hb.trans (hba.mono (by omega))).grown hg (by rw [size_alloc]; omega) (fun k hk => by have := ho k hk; omega), ?_, ?_, by omega, by omega, by omega⟩
  · refine (hg.block w1.heap.size (by rw [size_alloc]; omega) (fun e => ?_)).trans ((hE.below h2 hel).alloc o)
    have := hl _ e.symm
    omega
  · refine (hg.block (w.heap.size + 1) (by rw [size_alloc]; omega) (fun e => ?_)).trans (hP.below hba (by omega))
    have := ho _ e.symm
    omega
theorem place_set {w : World} {b : Nat} {t : TypeId} {x0 x1 x2 : Value} (y0 y1 y2 : Value) (h : Blk w b t [x0, x1, x2]) : Blk (((w.setCell ⟨b, 0, none⟩ y0).setCell ⟨b, 1, none⟩ y1).setCell ⟨b, 2, none⟩ y2) b t [y0, y1, y2] := ((h.set_ 0 y0).set_ 1 y1).set_ 2 y2
theorem place_far {w : World} {b k : Nat} (y0 y1 y2 : Value) (h : k ≠ b) : (((w.setCell ⟨b, 0, none⟩ y0).setCell ⟨b, 1, none⟩ y1).setCell ⟨b, 2, none⟩ y2).heap[k]? = w.heap[k]? := by
  rw [Below.heap_setCell _ _ _ _ h, Below.heap_setCell _ _ _ _ h, Below.heap_setCell _ _ _ _ h]
theorem place_below {B b : Nat} {w W : World} (y0 y1 y2 : Value) (h : Below B w W) (hb : B ≤ b) : Below B w (((W.setCell ⟨b, 0, none⟩ y0).setCell ⟨b, 1, none⟩ y1).setCell ⟨b, 2, none⟩ y2) := ((h.setCell hb y0).setCell hb y1).setCell hb y2
theorem across_plain {x : Joint} {k : Nat} (h : x.kind = 2) : across x k = [en x (1 - k)] := by unfold across; rw [if_pos h]
theorem how_plain {x : Joint} {k : Nat} (h : x.kind = 2) : howOf x k = [0] := by unfold howOf; rw [if_neg (by omega), if_neg (by omega)]
set_option maxRecDepth 100000 in
set_option maxHeartbeats 16000000 in
theorem implBehind {ok : Nat → Prop} (n : Net) (A0 A1 : Option Addr) (c0 c1 : Nat) (u : Nat) (way far a ov : Int) (w : World) (h : NC 177 w ok n A0 A1) (hg : Hid (Good n)) (hu : u < n.pieces.length) (hway : Hid (way = 1 ∨ way = -1)) (h0 : Hid (0 ≤ far ∧ far < pl n u)) (ha : Hid (a = atOf n u way far)) (ho0 : 0 ≤ ov) (ho1 : ov ≤ 100000) :
    Calls Tryz.prog 129 #[.agg #[.slice A0 n.pieces.length c0, .slice A1 n.joints.length c1], .agg #[.int .i64 u, .int .i64 a, .int .i64 way], .int .i64 ov] w (RetW 146 partK nobody (beyond n (ov.toNat + 1) u way far ov) w) := by
  obtain ⟨i0, hi, hz0, hz1, hz2⟩ := info_parts info146
  have hmp := h.p.1
  have hmj := h.j.1
  obtain ⟨goal, HG⟩ : ∃ goal, Hid (beyond n (ov.toNat + 1) u way far ov = goal) := ⟨_, Lib.hid rfl⟩
  rw [HG.out]
  go_enter Tryz.func129, Tryz.ntmps129
  go_wp2
  obtain ⟨W0, hW, HB0, hs0, hs1, f0, f1, HBX⟩ : ∃ W, W = (w.alloc (.cells #[.slice A0 n.pieces.length c0, .slice A1 n.joints.length c1] 35)).alloc (.cells #[.int .i64 u, .int .i64 a, .int .i64 way] 156) ∧ Below w.heap.size w W ∧ w.heap.size < W.heap.size ∧ w.heap.size + 1 < W.heap.size ∧ W.cell? ⟨w.heap.size, 0, none⟩ = some (.slice A0 n.pieces.length c0) ∧ W.cell? ⟨w.heap.size, 1, none⟩ = some (.slice A1 n.joints.length c1) ∧ Hid (Blk W (w.heap.size + 1) 156 [.int .i64 u, .int .i64 (atOf n u way far), .int .i64 way]) :=
    ⟨_, rfl, (below_alloc _ _).alloc (by simp) _, by simp; omega, by simp, by simp, by simp, Lib.hid (by rw [← ha.out]; exact Blk.new _ _ _ (by simp))⟩
  rw [← hW]
  clear hW
  go_loopw [2, 7] (fun lv o wr => ∃ (m u : Nat) (way far left : Int) (acc : List Part), lv = .int .i64 left ∧ u < n.pieces.length ∧ 0 ≤ far ∧ left ≤ 100000 ∧ Hid (way = 1 ∨ way = -1) ∧ Hid (far < pl n u) ∧ Hid (acc ++ beyond n m u way far left = goal) ∧ Hid (left.toNat < m) ∧ Hid (partK.Rw 146 wr nobody o acc) ∧ Hid (∀ b, o.ownBlock = some b → w.heap.size + 2 ≤ b) ∧ Hid (0 ≤ left ∧ acc.length + left ≤ ov) ∧ Hid (Blk wr (w.heap.size + 1) 156 [.int .i64 u, .int .i64 (atOf n u way far), .int .i64 way]) ∧ Below (w.heap.size + 1) W0 wr) (fun lv _ _ => (intOf lv).toNat)
  case atStart => exact ⟨ov.toNat + 1, u, way, far, ov, [], rfl, hu, h0.out.1, ho1, hway, Lib.hid h0.out.2, Lib.hid HG.out, Lib.hid (by omega), Lib.hid Kn.Rw.nil, Lib.hid (by simp [Value.ownBlock]), Lib.hid ⟨ho0, by simp⟩, HBX, Below.refl _ _⟩
  case round =>
    clear h0 hway ha HBX hu
    obtain ⟨m, u, way, far, left, acc, rfl, hu, hf0, hl1, HW, HF, HB, HM, HR, HO, HL, HX0, hb⟩ := hrel
    obtain ⟨Ao, co, rfl, hco, _⟩ := HR.out.form
    have hbw := HB0.trans (hb.mono (by omega : w.heap.size ≤ w.heap.size + 1))
    by_cases hl : left ≤ 0
    · have HE : Hid (acc = goal) := Lib.hid (by have := HB.out; rw [beyond_none hl, List.append_nil] at this; exact this)
      go_wp2
      go_ret
      exact ⟨_, rfl, by rw [← HE.out]; exact HR.out, fun b hb => by have := HO.out b hb; omega, hbw⟩
    have hl0 : 0 < left := by omega
    clear hl
    obtain ⟨ad, rfl, z0, z1, z2, z3, E, g0, g1, g2, g3⟩ := pieceK_at (Kn.C_below hbw h.p) u hu
    have j0 : (0 : Int) ≤ (u : Int) := Int.natCast_nonneg _
    have j1 : (u : Int) < (n.pieces.length : Int) := by omega
    have HP : Hid (pl n u = z1) := Lib.hid (pl_get E.out)
    obtain ⟨x1, x2⟩ : 1 ≤ z1 ∧ z1 ≤ 10000000 := by have := hg.out.piece _ (mem_of_get E.out); exact ⟨this.2.1, this.2.2.1⟩
    have x3 : far < z1 := by have := HF.out; rw [HP.out] at this; exact this
    have hsr0 : w.heap.size < wr.heap.size := by have := hb.size; omega
    have hsr1 : w.heap.size + 1 < wr.heap.size := by have := hb.size; omega
    have q0 : wr.cell? ⟨w.heap.size, 0, none⟩ = some (.slice (some ad) n.pieces.length c0) := (hb.cell (p := ⟨w.heap.size, 0, none⟩) (by simp)).trans f0
    have q1 : wr.cell? ⟨w.heap.size, 1, none⟩ = some (.slice A1 n.joints.length c1) := (hb.cell (p := ⟨w.heap.size, 1, none⟩) (by simp)).trans f1
    have HEP : Hid (stepP n.pieces.length ⟨u, way⟩) := Lib.hid ⟨⟨by show (0 : Int) ≤ u; omega, by show (u : Int) ≤ _; omega⟩, HW.out⟩
    obtain ⟨e0, HE⟩ : ∃ e0, Hid (headE u way = e0) := ⟨_, Lib.hid rfl⟩
    have HEO : Hid (endP n.pieces.length e0) := Lib.hid (by rw [← HE.out]; exact head_ok HEP.out)
    obtain ⟨j, k, x, hat, hjk, hx, hP, hjl, hkl⟩ := at_get hg.out HEO.out
    have HA := Lib.hid hjk
    have HX := Lib.hid hx
    have HAT := Lib.hid hat
    have HAH : Hid (atJ n (headE u way) = (j, k)) := Lib.hid (by rw [HE.out]; exact hjk)
    have HJP := Lib.hid hP
    clear hjk hx hat hP
    have hlen := HL.out
    have a63 : acc.length + 1 ≤ maxLen := by simp only [maxLen]; omega
    have aby : (acc.length + 1) * 24 ≤ 140737488355328 := by omega
    have m0 : (0 : Int) ≤ (j : Int) := Int.natCast_nonneg _
    have m1 : (j : Int) < (n.joints.length : Int) := by omega
    have HOL := Lib.hid HR.out.lt
    rcases HW.out with rfl | rfl
    · have y0 := HX0.out.cell 0 rfl
      have y1 := HX0.out.cell 1 rfl
      have y2 := HX0.out.cell 2 rfl
      rw [show atOf n u 1 far = far from rfl] at y1
      rcases Int.lt_trichotomy left (z1 - far) with hq | hq | hq
      · have d1 : decide (left < z1 - far) = true := decide_eq_true (by omega)
        have d3 : decide (0 < left) = true := decide_eq_true (by omega)
        have HT : Hid (tilOf n u far left = far + left) := Lib.hid (by unfold tilOf; rw [HP.out, if_pos (by omega)])
        obtain ⟨P, HPt⟩ : ∃ P, Hid (partN n u (1) far (far + left) = P) := ⟨_, Lib.hid rfl⟩
        go_wp2_with fail
        refine (implLooked _ _ _).mono ?_
        rintro e w1 ⟨rfl, hb1⟩
        rw [HE.out]
        obtain ⟨c0', c1', c2', c3', c4', c5', c6'⟩ : w1.cell? ⟨w.heap.size, 0, none⟩ = some (.slice (some ad) n.pieces.length c0) ∧ w1.cell? ⟨w.heap.size, 1, none⟩ = some (.slice A1 n.joints.length c1) ∧ w1.cell? ⟨w.heap.size + 1, 0, none⟩ = some (.int .i64 u) ∧ w1.cell? ⟨w.heap.size + 1, 1, none⟩ = some (.int .i64 (far)) ∧ w1.cell? ⟨w.heap.size + 1, 2, none⟩ = some (.int .i64 (1)) ∧ w.heap.size < w1.heap.size ∧ w.heap.size + 1 < w1.heap.size :=
          ⟨cell_below hb1 q0, cell_below hb1 q1, cell_below hb1 y0, cell_below hb1 y1, cell_below hb1 y2, by have := hb1.size; omega, by have := hb1.size; omega⟩
        have l9 := cell_below hb1 g1
        have l8 : (ad.add (u * 4)).block < w1.heap.size := World.block_lt_of_cell? w1 ⟨(ad.add (u * 4)).block, (ad.add (u * 4)).off + 1, none⟩ l9
        have hwr : IntKind.i64.wrap (z1 - far) = z1 - far := wrap_small (by omega) (by omega)
        go_wp2
        go_quiet (fail)
        go_wp2_with fail
        obtain ⟨W1, hW1, hBB, hEB, hs2⟩ : ∃ W, W = (w1.alloc (.cells #[.int .i64 e0.piece, .int .i64 e0.side] 177)).drewN nq ∧ Below wr.heap.size wr W ∧ Hid (Blk W w1.heap.size 177 [.int .i64 e0.piece, .int .i64 e0.side]) ∧ w1.heap.size < W.heap.size := ⟨_, rfl, below_drewN (hb1.alloc hb1.size _) _, Lib.hid (Blk.new _ _ _ rfl), by simp⟩
        rw [← hW1]
        clear hW1 c0' c1' c2' c3' c4' c5' c6' l8 l9
        refine (partOf_q (P := P) (by rw [← HPt.out, partN_fwd]; congr 1 <;> omega)).mono ?_
        rintro e w2 ⟨rfl, hb2⟩
        have hbx := hBB.trans (hb2.mono hBB.size)
        have hbo := hb1.size
        have HR1 := Lib.hid ((HR.out.below hbx).below (below_alloc w2 (.cells #[.int .i64 P.piece, .int .i64 P.frm, .int .i64 P.til] 146)))
        clear g0 g1 g2 g3 HR q0 q1 y0 y1 y2
        go_wp2_with (at_builtin; refine wpList_append_rw _ rfl (.tmp 42) (.tmp 55) 62 rfl 146 i0 _ 24 Tryz.underlying62 hi hz0 hz1 hz2 rfl (by decide) (.slice Ao acc.length co) acc [P] rfl HR1.out (fun _ h => h.elim) (some ⟨w2.heap.size, 0, none⟩) 1 1 rfl rfl (Kn.Src.one (partK_mk _ _ P) (new_cells _ _ _ rfl)) a63 aby ?_; intro v' w3 HR2 hg2 hat2; obtain ⟨A2, c2, rfl, hc2⟩ := HR2.form1; obtain ⟨b0, b1, b2, b3, b4, b5⟩ := behind_cells hb hbo hBB hb2 hg2 HO.out HOL.out hEB.out HX0.out hs1; have u0 : w3.cell? ⟨w.heap.size, 0, none⟩ = some (.slice (some ad) n.pieces.length c0) := (b0.cell (p := ⟨w.heap.size, 0, none⟩) (by simp)).trans f0; have u1 : w3.cell? ⟨w.heap.size, 1, none⟩ = some (.slice A1 n.joints.length c1) := (b0.cell (p := ⟨w.heap.size, 1, none⟩) (by simp)).trans f1; have v0 := b1.cell 0 rfl; have v1 := b1.cell 1 rfl; have hs4 : w.heap.size < w3.heap.size := by omega)
        have HO2 := Lib.hid (own_next HO.out hat2 (by rw [size_alloc]; omega))
        have HR2 := Lib.hid HR2
        have HB2 := Lib.hid b2
        have hbW := HB0.trans (b0.mono (by omega : w.heap.size ≤ w.heap.size + 1))
        clear hg2 hat2 hbx hBB hb2 HR1 hb1 hEB HO HOL b1 b2 hbo hsr0 hsr1 b5 hs2
        refine (implAt n (some ad) A1 c0 c1 e0 _ (h.below hbW) hg HEO).mono ?_
        rintro e w4 ⟨rfl, hb4⟩
        rw [HA.out]
        have hbY := b0.trans (hb4.mono (by omega))
        have hbZ := HB0.trans (hbY.mono (by omega : w.heap.size ≤ w.heap.size + 1))
        obtain ⟨a1, rfl, y, E1, A3, c3, r0, r1, r2, l2, C2⟩ := jointK_at (Kn.C_below hbZ h.j) j hjl
        have hy := HAT.out.1.symm.trans E1.out
        injection hy with hy
        subst hy
        have hme := C2.1
        have u2 := cell_below hb4 u0
        have u3 := cell_below hb4 u1
        have v2 := cell_below hb4 v0
        have v3 := cell_below hb4 v1
        have HR4 := Lib.hid (HR2.out.below hb4)
        have HB4 := Lib.hid (HB2.out.below hb4 (by omega))
        have hs5 : w.heap.size < w4.heap.size := by have := hb4.size; omega
        have hs6 : w1.heap.size < w4.heap.size := by have := hb4.size; omega
        have hs9 : w.heap.size + 1 < w4.heap.size := by have := hb4.size; omega
        clear u0 u1 v0 v1 HR2 HB2 b3 b4 hs4
        by_cases hk : x.kind = 2
        rotate_left
        · have d4 : (x.kind != 2) = true := int_net hk
          have HEN : Hid (acc ++ [P] = goal) := Lib.hid (by have := beyond_end HB.out HM.out (by omega) HAH.out HX.out (.inr hk); rw [HT.out, HPt.out] at this; exact this)
          clear hk
          go_wp2
          go_ret
          exact ⟨_, rfl, by rw [← HEN.out]; exact HR4.out, fun b hb => by have := HO2.out b hb; omega, hbZ⟩
        have d4 : (x.kind != 2) = false := int_nef hk
        have hlen2 : x.ends.length = 2 := by have := HJP.out.2.1; omega
        obtain ⟨m', hmm, hsp⟩ := beyond_spl HB.out HM.out (by omega) HAH.out HX.out hk
        rw [HT.out, HPt.out] at hsp
        have HSP := Lib.hid hsp
        have HMM := Lib.hid hmm
        have HEK : Hid (endP n.pieces.length (en x (1 - k))) := Lib.hid (en_ok HJP.out (by omega))
        obtain ⟨u', s', HEN⟩ : ∃ (u' : Nat) (s' : Int), Hid (en x (1 - k) = ⟨u', s'⟩) := ⟨(en x (1 - k)).piece.toNat, (en x (1 - k)).side, Lib.hid (by have := HEK.out.1.1; rw [Int.toNat_of_nonneg this])⟩
        have hu' : u' < n.pieces.length := by have := HEK.out; rw [HEN.out] at this; obtain ⟨⟨b1, b2⟩, b3, b4⟩ := this; simp only at b1 b2 b3 b4; omega
        have HEE : Hid (endP n.pieces.length ⟨u', s'⟩) := Lib.hid (by rw [← HEN.out]; exact HEK.out)
        have HPL : Hid (0 < pl n u') := Lib.hid (by have := pl_in hg.out (p := (u' : Int)) (by omega) (by omega); omega)
        have HXS : Hid (across (jt n (atJ n e0).1) (atJ n e0).2 = [⟨u', s'⟩] ∧ howOf (jt n (atJ n e0).1) (atJ n e0).2 = [0]) := Lib.hid (by rw [HA.out]; simp only; rw [HX.out, across_plain hk, how_plain hk, HEN.out]; exact ⟨rfl, rfl⟩)
        clear hk hlen2 hmm hsp r1 r2
        go_wp2_with fail
        refine (implOver n (some ad) (some a1) c0 c1 e0 _ (h.below hbZ) hg HEO).mono ?_
        rintro e w5 hov
        obtain ⟨Al, cl, Bl, dl, rfl, hcl, hAl, hBl, hb5⟩ := hov.to HXS.out.1 HXS.out.2
        obtain ⟨al, rfl, t0, t1, t2⟩ := endC_head hAl
        have hbV := hbY.trans (hb5.mono (by omega : w.heap.size + 1 ≤ w4.heap.size))
        have hbU := HB0.trans (hbV.mono (by omega : w.heap.size ≤ w.heap.size + 1))
        have u4 := cell_below hb5 u2
        have u5 := cell_below hb5 u3
        have HB5 := Lib.hid (HB4.out.below hb5 (by omega))
        have HR5 := Lib.hid (HR4.out.below hb5)
        have hs7 : w.heap.size < w5.heap.size := by have := hb5.size; omega
        have hs8 : w.heap.size + 1 < w5.heap.size := by have := hb5.size; omega
        have z7 := HB5.out.cell 0 rfl
        have z8 := HB5.out.cell 1 rfl
        have z9 := HB5.out.cell 2 rfl
        have z4 := HB5.out.frozen 0
        have z5 := HB5.out.frozen 1
        have z6 := HB5.out.frozen 2
        clear u2 u3 v2 v3 r0 HB4 HR4 hs5 hs6 hov hb4 C2 E1
        simp only [List.length_singleton]
        go_wp2_with fail
        go_region_with ((go_at_call 119; go_loud ((with_reducible refine (implEnter n _ (some ad) c0 ⟨u', s'⟩ _ (C_dr (Kn.C_below hbU h.p)) hg HEE.out).mono ?_); rintro e w6 ⟨rfl, hb6⟩; have B6 := (Blk_drew HB5.out).below hb6 hs8; have z7 := B6.cell 0 rfl; have z8 := B6.cell 1 rfl; have z9 := B6.cell 2 rfl; have z4 := B6.frozen 0; have z5 := B6.frozen 1; have z6 := B6.frozen 2; have hs9 : w.heap.size + 1 < w6.heap.size := B6.lt; have HB6 := Lib.hid B6; clear B6)))
        all_goals go_wp2
        all_goals go_roundw
        all_goals first | (simp [intOf]; omega) | exact ⟨m', u', wayOf ⟨u', s'⟩, 0, 0, acc ++ [P], by first | rfl | go_num, hu', by omega, by omega, Lib.hid (step_of_end HEE.out).2, HPL, Lib.hid (by have := HSP.out; rw [HEN.out, show left - ((far + left) - far) = 0 by omega] at this; exact this), Lib.hid (by have := HM.out; have := HMM.out; omega), Lib.hid (Kn.Rw.move (fun q hq => place_far _ _ _ (by have := HO2.out q hq; omega)) (fun _ h => h.elim) (HR5.out.below (hb6 : Below w5.heap.size w5.drew _))), HO2, Lib.hid ⟨by omega, by rw [List.length_append, List.length_singleton]; omega⟩, Lib.hid (place_set _ _ _ HB6.out), place_below _ _ _ (hbV.drew.trans (hb6.mono (by show _ ≤ w5.heap.size; omega))) (Nat.le_refl _)⟩
      · have hq1 : left ≤ z1 - far := by omega
        have hq2 : z1 - far ≤ left := by omega
        clear hq
        have d1 : decide (left < z1 - far) = false := decide_eq_false (by omega)
        have d3 : decide (0 < z1 - far) = true := decide_eq_true (by omega)
        have HT : Hid (tilOf n u far left = far + left) := Lib.hid (by unfold tilOf; rw [HP.out, if_pos (by omega)])
        obtain ⟨P, HPt⟩ : ∃ P, Hid (partN n u (1) far (far + left) = P) := ⟨_, Lib.hid rfl⟩
        go_wp2_with fail
        refine (implLooked _ _ _).mono ?_
        rintro e w1 ⟨rfl, hb1⟩
        rw [HE.out]
        obtain ⟨c0', c1', c2', c3', c4', c5', c6'⟩ : w1.cell? ⟨w.heap.size, 0, none⟩ = some (.slice (some ad) n.pieces.length c0) ∧ w1.cell? ⟨w.heap.size, 1, none⟩ = some (.slice A1 n.joints.length c1) ∧ w1.cell? ⟨w.heap.size + 1, 0, none⟩ = some (.int .i64 u) ∧ w1.cell? ⟨w.heap.size + 1, 1, none⟩ = some (.int .i64 (far)) ∧ w1.cell? ⟨w.heap.size + 1, 2, none⟩ = some (.int .i64 (1)) ∧ w.heap.size < w1.heap.size ∧ w.heap.size + 1 < w1.heap.size :=
          ⟨cell_below hb1 q0, cell_below hb1 q1, cell_below hb1 y0, cell_below hb1 y1, cell_below hb1 y2, by have := hb1.size; omega, by have := hb1.size; omega⟩
        have l9 := cell_below hb1 g1
        have l8 : (ad.add (u * 4)).block < w1.heap.size := World.block_lt_of_cell? w1 ⟨(ad.add (u * 4)).block, (ad.add (u * 4)).off + 1, none⟩ l9
        have hwr : IntKind.i64.wrap (z1 - far) = z1 - far := wrap_small (by omega) (by omega)
        go_wp2
        go_quiet (fail)
        go_wp2_with fail
        obtain ⟨W1, hW1, hBB, hEB, hs2⟩ : ∃ W, W = (w1.alloc (.cells #[.int .i64 e0.piece, .int .i64 e0.side] 177)).drewN nq ∧ Below wr.heap.size wr W ∧ Hid (Blk W w1.heap.size 177 [.int .i64 e0.piece, .int .i64 e0.side]) ∧ w1.heap.size < W.heap.size := ⟨_, rfl, below_drewN (hb1.alloc hb1.size _) _, Lib.hid (Blk.new _ _ _ rfl), by simp⟩
        rw [← hW1]
        clear hW1 c0' c1' c2' c3' c4' c5' c6' l8 l9
        refine (partOf_q (P := P) (by rw [← HPt.out, partN_fwd]; congr 1 <;> omega)).mono ?_
        rintro e w2 ⟨rfl, hb2⟩
        have hbx := hBB.trans (hb2.mono hBB.size)
        have hbo := hb1.size
        have HR1 := Lib.hid ((HR.out.below hbx).below (below_alloc w2 (.cells #[.int .i64 P.piece, .int .i64 P.frm, .int .i64 P.til] 146)))
        clear g0 g1 g2 g3 HR q0 q1 y0 y1 y2
        go_wp2_with (at_builtin; refine wpList_append_rw _ rfl (.tmp 42) (.tmp 55) 62 rfl 146 i0 _ 24 Tryz.underlying62 hi hz0 hz1 hz2 rfl (by decide) (.slice Ao acc.length co) acc [P] rfl HR1.out (fun _ h => h.elim) (some ⟨w2.heap.size, 0, none⟩) 1 1 rfl rfl (Kn.Src.one (partK_mk _ _ P) (new_cells _ _ _ rfl)) a63 aby ?_; intro v' w3 HR2 hg2 hat2; obtain ⟨A2, c2, rfl, hc2⟩ := HR2.form1; obtain ⟨b0, b1, b2, b3, b4, b5⟩ := behind_cells hb hbo hBB hb2 hg2 HO.out HOL.out hEB.out HX0.out hs1; have u0 : w3.cell? ⟨w.heap.size, 0, none⟩ = some (.slice (some ad) n.pieces.length c0) := (b0.cell (p := ⟨w.heap.size, 0, none⟩) (by simp)).trans f0; have u1 : w3.cell? ⟨w.heap.size, 1, none⟩ = some (.slice A1 n.joints.length c1) := (b0.cell (p := ⟨w.heap.size, 1, none⟩) (by simp)).trans f1; have v0 := b1.cell 0 rfl; have v1 := b1.cell 1 rfl; have hs4 : w.heap.size < w3.heap.size := by omega)
        have HO2 := Lib.hid (own_next HO.out hat2 (by rw [size_alloc]; omega))
        have HR2 := Lib.hid HR2
        have HB2 := Lib.hid b2
        have hbW := HB0.trans (b0.mono (by omega : w.heap.size ≤ w.heap.size + 1))
        clear hg2 hat2 hbx hBB hb2 HR1 hb1 hEB HO HOL b1 b2 hbo hsr0 hsr1 b5 hs2
        refine (implAt n (some ad) A1 c0 c1 e0 _ (h.below hbW) hg HEO).mono ?_
        rintro e w4 ⟨rfl, hb4⟩
        rw [HA.out]
        have hbY := b0.trans (hb4.mono (by omega))
        have hbZ := HB0.trans (hbY.mono (by omega : w.heap.size ≤ w.heap.size + 1))
        obtain ⟨a1, rfl, y, E1, A3, c3, r0, r1, r2, l2, C2⟩ := jointK_at (Kn.C_below hbZ h.j) j hjl
        have hy := HAT.out.1.symm.trans E1.out
        injection hy with hy
        subst hy
        have hme := C2.1
        have u2 := cell_below hb4 u0
        have u3 := cell_below hb4 u1
        have v2 := cell_below hb4 v0
        have v3 := cell_below hb4 v1
        have HR4 := Lib.hid (HR2.out.below hb4)
        have HB4 := Lib.hid (HB2.out.below hb4 (by omega))
        have hs5 : w.heap.size < w4.heap.size := by have := hb4.size; omega
        have hs6 : w1.heap.size < w4.heap.size := by have := hb4.size; omega
        have hs9 : w.heap.size + 1 < w4.heap.size := by have := hb4.size; omega
        clear u0 u1 v0 v1 HR2 HB2 b3 b4 hs4
        by_cases hk : x.kind = 2
        rotate_left
        · have d4 : (x.kind != 2) = true := int_net hk
          have HEN : Hid (acc ++ [P] = goal) := Lib.hid (by have := beyond_end HB.out HM.out (by omega) HAH.out HX.out (.inr hk); rw [HT.out, HPt.out] at this; exact this)
          clear hk
          go_wp2
          go_ret
          exact ⟨_, rfl, by rw [← HEN.out]; exact HR4.out, fun b hb => by have := HO2.out b hb; omega, hbZ⟩
        have d4 : (x.kind != 2) = false := int_nef hk
        have hlen2 : x.ends.length = 2 := by have := HJP.out.2.1; omega
        obtain ⟨m', hmm, hsp⟩ := beyond_spl HB.out HM.out (by omega) HAH.out HX.out hk
        rw [HT.out, HPt.out] at hsp
        have HSP := Lib.hid hsp
        have HMM := Lib.hid hmm
        have HEK : Hid (endP n.pieces.length (en x (1 - k))) := Lib.hid (en_ok HJP.out (by omega))
        obtain ⟨u', s', HEN⟩ : ∃ (u' : Nat) (s' : Int), Hid (en x (1 - k) = ⟨u', s'⟩) := ⟨(en x (1 - k)).piece.toNat, (en x (1 - k)).side, Lib.hid (by have := HEK.out.1.1; rw [Int.toNat_of_nonneg this])⟩
        have hu' : u' < n.pieces.length := by have := HEK.out; rw [HEN.out] at this; obtain ⟨⟨b1, b2⟩, b3, b4⟩ := this; simp only at b1 b2 b3 b4; omega
        have HEE : Hid (endP n.pieces.length ⟨u', s'⟩) := Lib.hid (by rw [← HEN.out]; exact HEK.out)
        have HPL : Hid (0 < pl n u') := Lib.hid (by have := pl_in hg.out (p := (u' : Int)) (by omega) (by omega); omega)
        have HXS : Hid (across (jt n (atJ n e0).1) (atJ n e0).2 = [⟨u', s'⟩] ∧ howOf (jt n (atJ n e0).1) (atJ n e0).2 = [0]) := Lib.hid (by rw [HA.out]; simp only; rw [HX.out, across_plain hk, how_plain hk, HEN.out]; exact ⟨rfl, rfl⟩)
        clear hk hlen2 hmm hsp r1 r2
        go_wp2_with fail
        refine (implOver n (some ad) (some a1) c0 c1 e0 _ (h.below hbZ) hg HEO).mono ?_
        rintro e w5 hov
        obtain ⟨Al, cl, Bl, dl, rfl, hcl, hAl, hBl, hb5⟩ := hov.to HXS.out.1 HXS.out.2
        obtain ⟨al, rfl, t0, t1, t2⟩ := endC_head hAl
        have hbV := hbY.trans (hb5.mono (by omega : w.heap.size + 1 ≤ w4.heap.size))
        have hbU := HB0.trans (hbV.mono (by omega : w.heap.size ≤ w.heap.size + 1))
        have u4 := cell_below hb5 u2
        have u5 := cell_below hb5 u3
        have HB5 := Lib.hid (HB4.out.below hb5 (by omega))
        have HR5 := Lib.hid (HR4.out.below hb5)
        have hs7 : w.heap.size < w5.heap.size := by have := hb5.size; omega
        have hs8 : w.heap.size + 1 < w5.heap.size := by have := hb5.size; omega
        have z7 := HB5.out.cell 0 rfl
        have z8 := HB5.out.cell 1 rfl
        have z9 := HB5.out.cell 2 rfl
        have z4 := HB5.out.frozen 0
        have z5 := HB5.out.frozen 1
        have z6 := HB5.out.frozen 2
        clear u2 u3 v2 v3 r0 HB4 HR4 hs5 hs6 hov hb4 C2 E1
        simp only [List.length_singleton]
        go_wp2_with fail
        go_region_with ((go_at_call 119; go_loud ((with_reducible refine (implEnter n _ (some ad) c0 ⟨u', s'⟩ _ (C_dr (Kn.C_below hbU h.p)) hg HEE.out).mono ?_); rintro e w6 ⟨rfl, hb6⟩; have B6 := (Blk_drew HB5.out).below hb6 hs8; have z7 := B6.cell 0 rfl; have z8 := B6.cell 1 rfl; have z9 := B6.cell 2 rfl; have z4 := B6.frozen 0; have z5 := B6.frozen 1; have z6 := B6.frozen 2; have hs9 : w.heap.size + 1 < w6.heap.size := B6.lt; have HB6 := Lib.hid B6; clear B6)))
        all_goals go_wp2
        all_goals go_roundw
        all_goals first | (simp [intOf]; omega) | exact ⟨m', u', wayOf ⟨u', s'⟩, 0, left - (z1 - far), acc ++ [P], by first | rfl | go_num, hu', by omega, by omega, Lib.hid (step_of_end HEE.out).2, HPL, Lib.hid (by have := HSP.out; rw [HEN.out, show left - ((far + left) - far) = left - (z1 - far) by omega] at this; exact this), Lib.hid (by have := HM.out; have := HMM.out; omega), Lib.hid (Kn.Rw.move (fun q hq => place_far _ _ _ (by have := HO2.out q hq; omega)) (fun _ h => h.elim) (HR5.out.below (hb6 : Below w5.heap.size w5.drew _))), HO2, Lib.hid ⟨by omega, by rw [List.length_append, List.length_singleton]; omega⟩, Lib.hid (place_set _ _ _ HB6.out), place_below _ _ _ (hbV.drew.trans (hb6.mono (by show _ ≤ w5.heap.size; omega))) (Nat.le_refl _)⟩
      · have d1 : decide (left < z1 - far) = false := decide_eq_false (by omega)
        have d3 : decide (0 < z1 - far) = true := decide_eq_true (by omega)
        have HT : Hid (tilOf n u far left = z1) := Lib.hid (by unfold tilOf; rw [HP.out, if_neg (by omega)])
        obtain ⟨P, HPt⟩ : ∃ P, Hid (partN n u (1) far (z1) = P) := ⟨_, Lib.hid rfl⟩
        go_wp2_with fail
        refine (implLooked _ _ _).mono ?_
        rintro e w1 ⟨rfl, hb1⟩
        rw [HE.out]
        obtain ⟨c0', c1', c2', c3', c4', c5', c6'⟩ : w1.cell? ⟨w.heap.size, 0, none⟩ = some (.slice (some ad) n.pieces.length c0) ∧ w1.cell? ⟨w.heap.size, 1, none⟩ = some (.slice A1 n.joints.length c1) ∧ w1.cell? ⟨w.heap.size + 1, 0, none⟩ = some (.int .i64 u) ∧ w1.cell? ⟨w.heap.size + 1, 1, none⟩ = some (.int .i64 (far)) ∧ w1.cell? ⟨w.heap.size + 1, 2, none⟩ = some (.int .i64 (1)) ∧ w.heap.size < w1.heap.size ∧ w.heap.size + 1 < w1.heap.size :=
          ⟨cell_below hb1 q0, cell_below hb1 q1, cell_below hb1 y0, cell_below hb1 y1, cell_below hb1 y2, by have := hb1.size; omega, by have := hb1.size; omega⟩
        have l9 := cell_below hb1 g1
        have l8 : (ad.add (u * 4)).block < w1.heap.size := World.block_lt_of_cell? w1 ⟨(ad.add (u * 4)).block, (ad.add (u * 4)).off + 1, none⟩ l9
        have hwr : IntKind.i64.wrap (z1 - far) = z1 - far := wrap_small (by omega) (by omega)
        go_wp2
        go_quiet (fail)
        go_wp2_with fail
        obtain ⟨W1, hW1, hBB, hEB, hs2⟩ : ∃ W, W = (w1.alloc (.cells #[.int .i64 e0.piece, .int .i64 e0.side] 177)).drewN nq ∧ Below wr.heap.size wr W ∧ Hid (Blk W w1.heap.size 177 [.int .i64 e0.piece, .int .i64 e0.side]) ∧ w1.heap.size < W.heap.size := ⟨_, rfl, below_drewN (hb1.alloc hb1.size _) _, Lib.hid (Blk.new _ _ _ rfl), by simp⟩
        rw [← hW1]
        clear hW1 c0' c1' c2' c3' c4' c5' c6' l8 l9
        refine (partOf_q (P := P) (by rw [← HPt.out, partN_fwd]; congr 1 <;> omega)).mono ?_
        rintro e w2 ⟨rfl, hb2⟩
        have hbx := hBB.trans (hb2.mono hBB.size)
        have hbo := hb1.size
        have HR1 := Lib.hid ((HR.out.below hbx).below (below_alloc w2 (.cells #[.int .i64 P.piece, .int .i64 P.frm, .int .i64 P.til] 146)))
        clear g0 g1 g2 g3 HR q0 q1 y0 y1 y2
        go_wp2_with (at_builtin; refine wpList_append_rw _ rfl (.tmp 42) (.tmp 55) 62 rfl 146 i0 _ 24 Tryz.underlying62 hi hz0 hz1 hz2 rfl (by decide) (.slice Ao acc.length co) acc [P] rfl HR1.out (fun _ h => h.elim) (some ⟨w2.heap.size, 0, none⟩) 1 1 rfl rfl (Kn.Src.one (partK_mk _ _ P) (new_cells _ _ _ rfl)) a63 aby ?_; intro v' w3 HR2 hg2 hat2; obtain ⟨A2, c2, rfl, hc2⟩ := HR2.form1; obtain ⟨b0, b1, b2, b3, b4, b5⟩ := behind_cells hb hbo hBB hb2 hg2 HO.out HOL.out hEB.out HX0.out hs1; have u0 : w3.cell? ⟨w.heap.size, 0, none⟩ = some (.slice (some ad) n.pieces.length c0) := (b0.cell (p := ⟨w.heap.size, 0, none⟩) (by simp)).trans f0; have u1 : w3.cell? ⟨w.heap.size, 1, none⟩ = some (.slice A1 n.joints.length c1) := (b0.cell (p := ⟨w.heap.size, 1, none⟩) (by simp)).trans f1; have v0 := b1.cell 0 rfl; have v1 := b1.cell 1 rfl; have hs4 : w.heap.size < w3.heap.size := by omega)
        have HO2 := Lib.hid (own_next HO.out hat2 (by rw [size_alloc]; omega))
        have HR2 := Lib.hid HR2
        have HB2 := Lib.hid b2
        have hbW := HB0.trans (b0.mono (by omega : w.heap.size ≤ w.heap.size + 1))
        clear hg2 hat2 hbx hBB hb2 HR1 hb1 hEB HO HOL b1 b2 hbo hsr0 hsr1 b5 hs2
        refine (implAt n (some ad) A1 c0 c1 e0 _ (h.below hbW) hg HEO).mono ?_
        rintro e w4 ⟨rfl, hb4⟩
        rw [HA.out]
        have hbY := b0.trans (hb4.mono (by omega))
        have hbZ := HB0.trans (hbY.mono (by omega : w.heap.size ≤ w.heap.size + 1))
        obtain ⟨a1, rfl, y, E1, A3, c3, r0, r1, r2, l2, C2⟩ := jointK_at (Kn.C_below hbZ h.j) j hjl
        have hy := HAT.out.1.symm.trans E1.out
        injection hy with hy
        subst hy
        have hme := C2.1
        have u2 := cell_below hb4 u0
        have u3 := cell_below hb4 u1
        have v2 := cell_below hb4 v0
        have v3 := cell_below hb4 v1
        have HR4 := Lib.hid (HR2.out.below hb4)
        have HB4 := Lib.hid (HB2.out.below hb4 (by omega))
        have hs5 : w.heap.size < w4.heap.size := by have := hb4.size; omega
        have hs6 : w1.heap.size < w4.heap.size := by have := hb4.size; omega
        have hs9 : w.heap.size + 1 < w4.heap.size := by have := hb4.size; omega
        clear u0 u1 v0 v1 HR2 HB2 b3 b4 hs4
        by_cases hk : x.kind = 2
        rotate_left
        · have d4 : (x.kind != 2) = true := int_net hk
          have HEN : Hid (acc ++ [P] = goal) := Lib.hid (by have := beyond_end HB.out HM.out (by omega) HAH.out HX.out (.inr hk); rw [HT.out, HPt.out] at this; exact this)
          clear hk
          go_wp2
          go_ret
          exact ⟨_, rfl, by rw [← HEN.out]; exact HR4.out, fun b hb => by have := HO2.out b hb; omega, hbZ⟩
        have d4 : (x.kind != 2) = false := int_nef hk
        have hlen2 : x.ends.length = 2 := by have := HJP.out.2.1; omega
        obtain ⟨m', hmm, hsp⟩ := beyond_spl HB.out HM.out (by omega) HAH.out HX.out hk
        rw [HT.out, HPt.out] at hsp
        have HSP := Lib.hid hsp
        have HMM := Lib.hid hmm
        have HEK : Hid (endP n.pieces.length (en x (1 - k))) := Lib.hid (en_ok HJP.out (by omega))
        obtain ⟨u', s', HEN⟩ : ∃ (u' : Nat) (s' : Int), Hid (en x (1 - k) = ⟨u', s'⟩) := ⟨(en x (1 - k)).piece.toNat, (en x (1 - k)).side, Lib.hid (by have := HEK.out.1.1; rw [Int.toNat_of_nonneg this])⟩
        have hu' : u' < n.pieces.length := by have := HEK.out; rw [HEN.out] at this; obtain ⟨⟨b1, b2⟩, b3, b4⟩ := this; simp only at b1 b2 b3 b4; omega
        have HEE : Hid (endP n.pieces.length ⟨u', s'⟩) := Lib.hid (by rw [← HEN.out]; exact HEK.out)
        have HPL : Hid (0 < pl n u') := Lib.hid (by have := pl_in hg.out (p := (u' : Int)) (by omega) (by omega); omega)
        have HXS : Hid (across (jt n (atJ n e0).1) (atJ n e0).2 = [⟨u', s'⟩] ∧ howOf (jt n (atJ n e0).1) (atJ n e0).2 = [0]) := Lib.hid (by rw [HA.out]; simp only; rw [HX.out, across_plain hk, how_plain hk, HEN.out]; exact ⟨rfl, rfl⟩)
        clear hk hlen2 hmm hsp r1 r2
        go_wp2_with fail
        refine (implOver n (some ad) (some a1) c0 c1 e0 _ (h.below hbZ) hg HEO).mono ?_
        rintro e w5 hov
        obtain ⟨Al, cl, Bl, dl, rfl, hcl, hAl, hBl, hb5⟩ := hov.to HXS.out.1 HXS.out.2
        obtain ⟨al, rfl, t0, t1, t2⟩ := endC_head hAl
        have hbV := hbY.trans (hb5.mono (by omega : w.heap.size + 1 ≤ w4.heap.size))
        have hbU := HB0.trans (hbV.mono (by omega : w.heap.size ≤ w.heap.size + 1))
        have u4 := cell_below hb5 u2
        have u5 := cell_below hb5 u3
        have HB5 := Lib.hid (HB4.out.below hb5 (by omega))
        have HR5 := Lib.hid (HR4.out.below hb5)
        have hs7 : w.heap.size < w5.heap.size := by have := hb5.size; omega
        have hs8 : w.heap.size + 1 < w5.heap.size := by have := hb5.size; omega
        have z7 := HB5.out.cell 0 rfl
        have z8 := HB5.out.cell 1 rfl
        have z9 := HB5.out.cell 2 rfl
        have z4 := HB5.out.frozen 0
        have z5 := HB5.out.frozen 1
        have z6 := HB5.out.frozen 2
        clear u2 u3 v2 v3 r0 HB4 HR4 hs5 hs6 hov hb4 C2 E1
        simp only [List.length_singleton]
        go_wp2_with fail
        go_region_with ((go_at_call 119; go_loud ((with_reducible refine (implEnter n _ (some ad) c0 ⟨u', s'⟩ _ (C_dr (Kn.C_below hbU h.p)) hg HEE.out).mono ?_); rintro e w6 ⟨rfl, hb6⟩; have B6 := (Blk_drew HB5.out).below hb6 hs8; have z7 := B6.cell 0 rfl; have z8 := B6.cell 1 rfl; have z9 := B6.cell 2 rfl; have z4 := B6.frozen 0; have z5 := B6.frozen 1; have z6 := B6.frozen 2; have hs9 : w.heap.size + 1 < w6.heap.size := B6.lt; have HB6 := Lib.hid B6; clear B6)))
        all_goals go_wp2
        all_goals go_roundw
        all_goals first | (simp [intOf]; omega) | exact ⟨m', u', wayOf ⟨u', s'⟩, 0, left - (z1 - far), acc ++ [P], by first | rfl | go_num, hu', by omega, by omega, Lib.hid (step_of_end HEE.out).2, HPL, Lib.hid (by have := HSP.out; rw [HEN.out, show left - ((z1) - far) = left - (z1 - far) by omega] at this; exact this), Lib.hid (by have := HM.out; have := HMM.out; omega), Lib.hid (Kn.Rw.move (fun q hq => place_far _ _ _ (by have := HO2.out q hq; omega)) (fun _ h => h.elim) (HR5.out.below (hb6 : Below w5.heap.size w5.drew _))), HO2, Lib.hid ⟨by omega, by rw [List.length_append, List.length_singleton]; omega⟩, Lib.hid (place_set _ _ _ HB6.out), place_below _ _ _ (hbV.drew.trans (hb6.mono (by show _ ≤ w5.heap.size; omega))) (Nat.le_refl _)⟩
    · have y0 := HX0.out.cell 0 rfl
      have y1 := HX0.out.cell 1 rfl
      have y2 := HX0.out.cell 2 rfl
      obtain ⟨a, ha⟩ : ∃ a, Hid (a = atOf n u (-1) far) := ⟨_, Lib.hid rfl⟩
      rw [← ha.out] at y1
      have ha2 : z1 - far ≤ a ∧ a ≤ z1 - far := by have := ha.out; unfold atOf at this; rw [if_neg (by decide), HP.out] at this; omega
      obtain ⟨ha3, ha4⟩ := ha2
      rcases Int.lt_trichotomy left (a) with hq | hq | hq
      · have d1 : decide (left < a) = true := decide_eq_true (by omega)
        have d3 : decide (0 < left) = true := decide_eq_true (by omega)
        have HT : Hid (tilOf n u far left = far + left) := Lib.hid (by unfold tilOf; rw [HP.out, if_pos (by omega)])
        obtain ⟨P, HPt⟩ : ∃ P, Hid (partN n u (-1) far (far + left) = P) := ⟨_, Lib.hid rfl⟩
        go_wp2_with fail
        refine (implLooked _ _ _).mono ?_
        rintro e w1 ⟨rfl, hb1⟩
        rw [HE.out]
        obtain ⟨c0', c1', c2', c3', c4', c5', c6'⟩ : w1.cell? ⟨w.heap.size, 0, none⟩ = some (.slice (some ad) n.pieces.length c0) ∧ w1.cell? ⟨w.heap.size, 1, none⟩ = some (.slice A1 n.joints.length c1) ∧ w1.cell? ⟨w.heap.size + 1, 0, none⟩ = some (.int .i64 u) ∧ w1.cell? ⟨w.heap.size + 1, 1, none⟩ = some (.int .i64 (a)) ∧ w1.cell? ⟨w.heap.size + 1, 2, none⟩ = some (.int .i64 (-1)) ∧ w.heap.size < w1.heap.size ∧ w.heap.size + 1 < w1.heap.size :=
          ⟨cell_below hb1 q0, cell_below hb1 q1, cell_below hb1 y0, cell_below hb1 y1, cell_below hb1 y2, by have := hb1.size; omega, by have := hb1.size; omega⟩
        have l9 := cell_below hb1 g1
        have l8 : (ad.add (u * 4)).block < w1.heap.size := World.block_lt_of_cell? w1 ⟨(ad.add (u * 4)).block, (ad.add (u * 4)).off + 1, none⟩ l9
        go_wp2_with fail
        obtain ⟨W1, hW1, hBB, hEB, hs2⟩ : ∃ W, W = w1.alloc (.cells #[.int .i64 e0.piece, .int .i64 e0.side] 177) ∧ Below wr.heap.size wr W ∧ Hid (Blk W w1.heap.size 177 [.int .i64 e0.piece, .int .i64 e0.side]) ∧ w1.heap.size < W.heap.size := ⟨_, rfl, hb1.alloc hb1.size _, Lib.hid (Blk.new _ _ _ rfl), by simp⟩
        rw [← hW1]
        clear hW1 c0' c1' c2' c3' c4' c5' c6' l8 l9
        refine (partOf_q (P := P) (by rw [← HPt.out, partN_back, HP.out]; congr 1 <;> omega)).mono ?_
        rintro e w2 ⟨rfl, hb2⟩
        have hbx := hBB.trans (hb2.mono hBB.size)
        have hbo := hb1.size
        have HR1 := Lib.hid ((HR.out.below hbx).below (below_alloc w2 (.cells #[.int .i64 P.piece, .int .i64 P.frm, .int .i64 P.til] 146)))
        clear g0 g1 g2 g3 HR q0 q1 y0 y1 y2
        go_wp2_with (at_builtin; refine wpList_append_rw _ rfl (.tmp 42) (.tmp 55) 62 rfl 146 i0 _ 24 Tryz.underlying62 hi hz0 hz1 hz2 rfl (by decide) (.slice Ao acc.length co) acc [P] rfl HR1.out (fun _ h => h.elim) (some ⟨w2.heap.size, 0, none⟩) 1 1 rfl rfl (Kn.Src.one (partK_mk _ _ P) (new_cells _ _ _ rfl)) a63 aby ?_; intro v' w3 HR2 hg2 hat2; obtain ⟨A2, c2, rfl, hc2⟩ := HR2.form1; obtain ⟨b0, b1, b2, b3, b4, b5⟩ := behind_cells hb hbo hBB hb2 hg2 HO.out HOL.out hEB.out HX0.out hs1; have u0 : w3.cell? ⟨w.heap.size, 0, none⟩ = some (.slice (some ad) n.pieces.length c0) := (b0.cell (p := ⟨w.heap.size, 0, none⟩) (by simp)).trans f0; have u1 : w3.cell? ⟨w.heap.size, 1, none⟩ = some (.slice A1 n.joints.length c1) := (b0.cell (p := ⟨w.heap.size, 1, none⟩) (by simp)).trans f1; have v0 := b1.cell 0 rfl; have v1 := b1.cell 1 rfl; have hs4 : w.heap.size < w3.heap.size := by omega)
        have HO2 := Lib.hid (own_next HO.out hat2 (by rw [size_alloc]; omega))
        have HR2 := Lib.hid HR2
        have HB2 := Lib.hid b2
        have hbW := HB0.trans (b0.mono (by omega : w.heap.size ≤ w.heap.size + 1))
        clear hg2 hat2 hbx hBB hb2 HR1 hb1 hEB HO HOL b1 b2 hbo hsr0 hsr1 b5 hs2
        refine (implAt n (some ad) A1 c0 c1 e0 _ (h.below hbW) hg HEO).mono ?_
        rintro e w4 ⟨rfl, hb4⟩
        rw [HA.out]
        have hbY := b0.trans (hb4.mono (by omega))
        have hbZ := HB0.trans (hbY.mono (by omega : w.heap.size ≤ w.heap.size + 1))
        obtain ⟨a1, rfl, y, E1, A3, c3, r0, r1, r2, l2, C2⟩ := jointK_at (Kn.C_below hbZ h.j) j hjl
        have hy := HAT.out.1.symm.trans E1.out
        injection hy with hy
        subst hy
        have hme := C2.1
        have u2 := cell_below hb4 u0
        have u3 := cell_below hb4 u1
        have v2 := cell_below hb4 v0
        have v3 := cell_below hb4 v1
        have HR4 := Lib.hid (HR2.out.below hb4)
        have HB4 := Lib.hid (HB2.out.below hb4 (by omega))
        have hs5 : w.heap.size < w4.heap.size := by have := hb4.size; omega
        have hs6 : w1.heap.size < w4.heap.size := by have := hb4.size; omega
        have hs9 : w.heap.size + 1 < w4.heap.size := by have := hb4.size; omega
        clear u0 u1 v0 v1 HR2 HB2 b3 b4 hs4
        by_cases hk : x.kind = 2
        rotate_left
        · have d4 : (x.kind != 2) = true := int_net hk
          have HEN : Hid (acc ++ [P] = goal) := Lib.hid (by have := beyond_end HB.out HM.out (by omega) HAH.out HX.out (.inr hk); rw [HT.out, HPt.out] at this; exact this)
          clear hk
          go_wp2
          go_ret
          exact ⟨_, rfl, by rw [← HEN.out]; exact HR4.out, fun b hb => by have := HO2.out b hb; omega, hbZ⟩
        have d4 : (x.kind != 2) = false := int_nef hk
        have hlen2 : x.ends.length = 2 := by have := HJP.out.2.1; omega
        obtain ⟨m', hmm, hsp⟩ := beyond_spl HB.out HM.out (by omega) HAH.out HX.out hk
        rw [HT.out, HPt.out] at hsp
        have HSP := Lib.hid hsp
        have HMM := Lib.hid hmm
        have HEK : Hid (endP n.pieces.length (en x (1 - k))) := Lib.hid (en_ok HJP.out (by omega))
        obtain ⟨u', s', HEN⟩ : ∃ (u' : Nat) (s' : Int), Hid (en x (1 - k) = ⟨u', s'⟩) := ⟨(en x (1 - k)).piece.toNat, (en x (1 - k)).side, Lib.hid (by have := HEK.out.1.1; rw [Int.toNat_of_nonneg this])⟩
        have hu' : u' < n.pieces.length := by have := HEK.out; rw [HEN.out] at this; obtain ⟨⟨b1, b2⟩, b3, b4⟩ := this; simp only at b1 b2 b3 b4; omega
        have HEE : Hid (endP n.pieces.length ⟨u', s'⟩) := Lib.hid (by rw [← HEN.out]; exact HEK.out)
        have HPL : Hid (0 < pl n u') := Lib.hid (by have := pl_in hg.out (p := (u' : Int)) (by omega) (by omega); omega)
        have HXS : Hid (across (jt n (atJ n e0).1) (atJ n e0).2 = [⟨u', s'⟩] ∧ howOf (jt n (atJ n e0).1) (atJ n e0).2 = [0]) := Lib.hid (by rw [HA.out]; simp only; rw [HX.out, across_plain hk, how_plain hk, HEN.out]; exact ⟨rfl, rfl⟩)
        clear hk hlen2 hmm hsp r1 r2
        go_wp2_with fail
        refine (implOver n (some ad) (some a1) c0 c1 e0 _ (h.below hbZ) hg HEO).mono ?_
        rintro e w5 hov
        obtain ⟨Al, cl, Bl, dl, rfl, hcl, hAl, hBl, hb5⟩ := hov.to HXS.out.1 HXS.out.2
        obtain ⟨al, rfl, t0, t1, t2⟩ := endC_head hAl
        have hbV := hbY.trans (hb5.mono (by omega : w.heap.size + 1 ≤ w4.heap.size))
        have hbU := HB0.trans (hbV.mono (by omega : w.heap.size ≤ w.heap.size + 1))
        have u4 := cell_below hb5 u2
        have u5 := cell_below hb5 u3
        have HB5 := Lib.hid (HB4.out.below hb5 (by omega))
        have HR5 := Lib.hid (HR4.out.below hb5)
        have hs7 : w.heap.size < w5.heap.size := by have := hb5.size; omega
        have hs8 : w.heap.size + 1 < w5.heap.size := by have := hb5.size; omega
        have z7 := HB5.out.cell 0 rfl
        have z8 := HB5.out.cell 1 rfl
        have z9 := HB5.out.cell 2 rfl
        have z4 := HB5.out.frozen 0
        have z5 := HB5.out.frozen 1
        have z6 := HB5.out.frozen 2
        clear u2 u3 v2 v3 r0 HB4 HR4 hs5 hs6 hov hb4 C2 E1
        simp only [List.length_singleton]
        go_wp2_with fail
        go_region_with ((go_at_call 119; go_loud ((with_reducible refine (implEnter n _ (some ad) c0 ⟨u', s'⟩ _ (C_dr (Kn.C_below hbU h.p)) hg HEE.out).mono ?_); rintro e w6 ⟨rfl, hb6⟩; have B6 := (Blk_drew HB5.out).below hb6 hs8; have z7 := B6.cell 0 rfl; have z8 := B6.cell 1 rfl; have z9 := B6.cell 2 rfl; have z4 := B6.frozen 0; have z5 := B6.frozen 1; have z6 := B6.frozen 2; have hs9 : w.heap.size + 1 < w6.heap.size := B6.lt; have HB6 := Lib.hid B6; clear B6)))
        all_goals go_wp2
        all_goals go_roundw
        all_goals first | (simp [intOf]; omega) | exact ⟨m', u', wayOf ⟨u', s'⟩, 0, 0, acc ++ [P], by first | rfl | go_num, hu', by omega, by omega, Lib.hid (step_of_end HEE.out).2, HPL, Lib.hid (by have := HSP.out; rw [HEN.out, show left - ((far + left) - far) = 0 by omega] at this; exact this), Lib.hid (by have := HM.out; have := HMM.out; omega), Lib.hid (Kn.Rw.move (fun q hq => place_far _ _ _ (by have := HO2.out q hq; omega)) (fun _ h => h.elim) (HR5.out.below (hb6 : Below w5.heap.size w5.drew _))), HO2, Lib.hid ⟨by omega, by rw [List.length_append, List.length_singleton]; omega⟩, Lib.hid (place_set _ _ _ HB6.out), place_below _ _ _ (hbV.drew.trans (hb6.mono (by show _ ≤ w5.heap.size; omega))) (Nat.le_refl _)⟩
      · have hq1 : left ≤ a := by omega
        have hq2 : a ≤ left := by omega
        clear hq
        have d1 : decide (left < a) = false := decide_eq_false (by omega)
        have d3 : decide (0 < a) = true := decide_eq_true (by omega)
        have HT : Hid (tilOf n u far left = far + left) := Lib.hid (by unfold tilOf; rw [HP.out, if_pos (by omega)])
        obtain ⟨P, HPt⟩ : ∃ P, Hid (partN n u (-1) far (far + left) = P) := ⟨_, Lib.hid rfl⟩
        go_wp2_with fail
        refine (implLooked _ _ _).mono ?_
        rintro e w1 ⟨rfl, hb1⟩
        rw [HE.out]
        obtain ⟨c0', c1', c2', c3', c4', c5', c6'⟩ : w1.cell? ⟨w.heap.size, 0, none⟩ = some (.slice (some ad) n.pieces.length c0) ∧ w1.cell? ⟨w.heap.size, 1, none⟩ = some (.slice A1 n.joints.length c1) ∧ w1.cell? ⟨w.heap.size + 1, 0, none⟩ = some (.int .i64 u) ∧ w1.cell? ⟨w.heap.size + 1, 1, none⟩ = some (.int .i64 (a)) ∧ w1.cell? ⟨w.heap.size + 1, 2, none⟩ = some (.int .i64 (-1)) ∧ w.heap.size < w1.heap.size ∧ w.heap.size + 1 < w1.heap.size :=
          ⟨cell_below hb1 q0, cell_below hb1 q1, cell_below hb1 y0, cell_below hb1 y1, cell_below hb1 y2, by have := hb1.size; omega, by have := hb1.size; omega⟩
        have l9 := cell_below hb1 g1
        have l8 : (ad.add (u * 4)).block < w1.heap.size := World.block_lt_of_cell? w1 ⟨(ad.add (u * 4)).block, (ad.add (u * 4)).off + 1, none⟩ l9
        go_wp2_with fail
        obtain ⟨W1, hW1, hBB, hEB, hs2⟩ : ∃ W, W = w1.alloc (.cells #[.int .i64 e0.piece, .int .i64 e0.side] 177) ∧ Below wr.heap.size wr W ∧ Hid (Blk W w1.heap.size 177 [.int .i64 e0.piece, .int .i64 e0.side]) ∧ w1.heap.size < W.heap.size := ⟨_, rfl, hb1.alloc hb1.size _, Lib.hid (Blk.new _ _ _ rfl), by simp⟩
        rw [← hW1]
        clear hW1 c0' c1' c2' c3' c4' c5' c6' l8 l9
        refine (partOf_q (P := P) (by rw [← HPt.out, partN_back, HP.out]; congr 1 <;> omega)).mono ?_
        rintro e w2 ⟨rfl, hb2⟩
        have hbx := hBB.trans (hb2.mono hBB.size)
        have hbo := hb1.size
        have HR1 := Lib.hid ((HR.out.below hbx).below (below_alloc w2 (.cells #[.int .i64 P.piece, .int .i64 P.frm, .int .i64 P.til] 146)))
        clear g0 g1 g2 g3 HR q0 q1 y0 y1 y2
        go_wp2_with (at_builtin; refine wpList_append_rw _ rfl (.tmp 42) (.tmp 55) 62 rfl 146 i0 _ 24 Tryz.underlying62 hi hz0 hz1 hz2 rfl (by decide) (.slice Ao acc.length co) acc [P] rfl HR1.out (fun _ h => h.elim) (some ⟨w2.heap.size, 0, none⟩) 1 1 rfl rfl (Kn.Src.one (partK_mk _ _ P) (new_cells _ _ _ rfl)) a63 aby ?_; intro v' w3 HR2 hg2 hat2; obtain ⟨A2, c2, rfl, hc2⟩ := HR2.form1; obtain ⟨b0, b1, b2, b3, b4, b5⟩ := behind_cells hb hbo hBB hb2 hg2 HO.out HOL.out hEB.out HX0.out hs1; have u0 : w3.cell? ⟨w.heap.size, 0, none⟩ = some (.slice (some ad) n.pieces.length c0) := (b0.cell (p := ⟨w.heap.size, 0, none⟩) (by simp)).trans f0; have u1 : w3.cell? ⟨w.heap.size, 1, none⟩ = some (.slice A1 n.joints.length c1) := (b0.cell (p := ⟨w.heap.size, 1, none⟩) (by simp)).trans f1; have v0 := b1.cell 0 rfl; have v1 := b1.cell 1 rfl; have hs4 : w.heap.size < w3.heap.size := by omega)
        have HO2 := Lib.hid (own_next HO.out hat2 (by rw [size_alloc]; omega))
        have HR2 := Lib.hid HR2
        have HB2 := Lib.hid b2
        have hbW := HB0.trans (b0.mono (by omega : w.heap.size ≤ w.heap.size + 1))
        clear hg2 hat2 hbx hBB hb2 HR1 hb1 hEB HO HOL b1 b2 hbo hsr0 hsr1 b5 hs2
        refine (implAt n (some ad) A1 c0 c1 e0 _ (h.below hbW) hg HEO).mono ?_
        rintro e w4 ⟨rfl, hb4⟩
        rw [HA.out]
        have hbY := b0.trans (hb4.mono (by omega))
        have hbZ := HB0.trans (hbY.mono (by omega : w.heap.size ≤ w.heap.size + 1))
        obtain ⟨a1, rfl, y, E1, A3, c3, r0, r1, r2, l2, C2⟩ := jointK_at (Kn.C_below hbZ h.j) j hjl
        have hy := HAT.out.1.symm.trans E1.out
        injection hy with hy
        subst hy
        have hme := C2.1
        have u2 := cell_below hb4 u0
        have u3 := cell_below hb4 u1
        have v2 := cell_below hb4 v0
        have v3 := cell_below hb4 v1
        have HR4 := Lib.hid (HR2.out.below hb4)
        have HB4 := Lib.hid (HB2.out.below hb4 (by omega))
        have hs5 : w.heap.size < w4.heap.size := by have := hb4.size; omega
        have hs6 : w1.heap.size < w4.heap.size := by have := hb4.size; omega
        have hs9 : w.heap.size + 1 < w4.heap.size := by have := hb4.size; omega
        clear u0 u1 v0 v1 HR2 HB2 b3 b4 hs4
        by_cases hk : x.kind = 2
        rotate_left
        · have d4 : (x.kind != 2) = true := int_net hk
          have HEN : Hid (acc ++ [P] = goal) := Lib.hid (by have := beyond_end HB.out HM.out (by omega) HAH.out HX.out (.inr hk); rw [HT.out, HPt.out] at this; exact this)
          clear hk
          go_wp2
          go_ret
          exact ⟨_, rfl, by rw [← HEN.out]; exact HR4.out, fun b hb => by have := HO2.out b hb; omega, hbZ⟩
        have d4 : (x.kind != 2) = false := int_nef hk
        have hlen2 : x.ends.length = 2 := by have := HJP.out.2.1; omega
        obtain ⟨m', hmm, hsp⟩ := beyond_spl HB.out HM.out (by omega) HAH.out HX.out hk
        rw [HT.out, HPt.out] at hsp
        have HSP := Lib.hid hsp
        have HMM := Lib.hid hmm
        have HEK : Hid (endP n.pieces.length (en x (1 - k))) := Lib.hid (en_ok HJP.out (by omega))
        obtain ⟨u', s', HEN⟩ : ∃ (u' : Nat) (s' : Int), Hid (en x (1 - k) = ⟨u', s'⟩) := ⟨(en x (1 - k)).piece.toNat, (en x (1 - k)).side, Lib.hid (by have := HEK.out.1.1; rw [Int.toNat_of_nonneg this])⟩
        have hu' : u' < n.pieces.length := by have := HEK.out; rw [HEN.out] at this; obtain ⟨⟨b1, b2⟩, b3, b4⟩ := this; simp only at b1 b2 b3 b4; omega
        have HEE : Hid (endP n.pieces.length ⟨u', s'⟩) := Lib.hid (by rw [← HEN.out]; exact HEK.out)
        have HPL : Hid (0 < pl n u') := Lib.hid (by have := pl_in hg.out (p := (u' : Int)) (by omega) (by omega); omega)
        have HXS : Hid (across (jt n (atJ n e0).1) (atJ n e0).2 = [⟨u', s'⟩] ∧ howOf (jt n (atJ n e0).1) (atJ n e0).2 = [0]) := Lib.hid (by rw [HA.out]; simp only; rw [HX.out, across_plain hk, how_plain hk, HEN.out]; exact ⟨rfl, rfl⟩)
        clear hk hlen2 hmm hsp r1 r2
        go_wp2_with fail
        refine (implOver n (some ad) (some a1) c0 c1 e0 _ (h.below hbZ) hg HEO).mono ?_
        rintro e w5 hov
        obtain ⟨Al, cl, Bl, dl, rfl, hcl, hAl, hBl, hb5⟩ := hov.to HXS.out.1 HXS.out.2
        obtain ⟨al, rfl, t0, t1, t2⟩ := endC_head hAl
        have hbV := hbY.trans (hb5.mono (by omega : w.heap.size + 1 ≤ w4.heap.size))
        have hbU := HB0.trans (hbV.mono (by omega : w.heap.size ≤ w.heap.size + 1))
        have u4 := cell_below hb5 u2
        have u5 := cell_below hb5 u3
        have HB5 := Lib.hid (HB4.out.below hb5 (by omega))
        have HR5 := Lib.hid (HR4.out.below hb5)
        have hs7 : w.heap.size < w5.heap.size := by have := hb5.size; omega
        have hs8 : w.heap.size + 1 < w5.heap.size := by have := hb5.size; omega
        have z7 := HB5.out.cell 0 rfl
        have z8 := HB5.out.cell 1 rfl
        have z9 := HB5.out.cell 2 rfl
        have z4 := HB5.out.frozen 0
        have z5 := HB5.out.frozen 1
        have z6 := HB5.out.frozen 2
        clear u2 u3 v2 v3 r0 HB4 HR4 hs5 hs6 hov hb4 C2 E1
        simp only [List.length_singleton]
        go_wp2_with fail
        go_region_with ((go_at_call 119; go_loud ((with_reducible refine (implEnter n _ (some ad) c0 ⟨u', s'⟩ _ (C_dr (Kn.C_below hbU h.p)) hg HEE.out).mono ?_); rintro e w6 ⟨rfl, hb6⟩; have B6 := (Blk_drew HB5.out).below hb6 hs8; have z7 := B6.cell 0 rfl; have z8 := B6.cell 1 rfl; have z9 := B6.cell 2 rfl; have z4 := B6.frozen 0; have z5 := B6.frozen 1; have z6 := B6.frozen 2; have hs9 : w.heap.size + 1 < w6.heap.size := B6.lt; have HB6 := Lib.hid B6; clear B6)))
        all_goals go_wp2
        all_goals go_roundw
        all_goals first | (simp [intOf]; omega) | exact ⟨m', u', wayOf ⟨u', s'⟩, 0, left - (a), acc ++ [P], by first | rfl | go_num, hu', by omega, by omega, Lib.hid (step_of_end HEE.out).2, HPL, Lib.hid (by have := HSP.out; rw [HEN.out, show left - ((far + left) - far) = left - (a) by omega] at this; exact this), Lib.hid (by have := HM.out; have := HMM.out; omega), Lib.hid (Kn.Rw.move (fun q hq => place_far _ _ _ (by have := HO2.out q hq; omega)) (fun _ h => h.elim) (HR5.out.below (hb6 : Below w5.heap.size w5.drew _))), HO2, Lib.hid ⟨by omega, by rw [List.length_append, List.length_singleton]; omega⟩, Lib.hid (place_set _ _ _ HB6.out), place_below _ _ _ (hbV.drew.trans (hb6.mono (by show _ ≤ w5.heap.size; omega))) (Nat.le_refl _)⟩
      · have d1 : decide (left < a) = false := decide_eq_false (by omega)
        have d3 : decide (0 < a) = true := decide_eq_true (by omega)
        have HT : Hid (tilOf n u far left = z1) := Lib.hid (by unfold tilOf; rw [HP.out, if_neg (by omega)])
        obtain ⟨P, HPt⟩ : ∃ P, Hid (partN n u (-1) far (z1) = P) := ⟨_, Lib.hid rfl⟩
        go_wp2_with fail
        refine (implLooked _ _ _).mono ?_
        rintro e w1 ⟨rfl, hb1⟩
        rw [HE.out]
        obtain ⟨c0', c1', c2', c3', c4', c5', c6'⟩ : w1.cell? ⟨w.heap.size, 0, none⟩ = some (.slice (some ad) n.pieces.length c0) ∧ w1.cell? ⟨w.heap.size, 1, none⟩ = some (.slice A1 n.joints.length c1) ∧ w1.cell? ⟨w.heap.size + 1, 0, none⟩ = some (.int .i64 u) ∧ w1.cell? ⟨w.heap.size + 1, 1, none⟩ = some (.int .i64 (a)) ∧ w1.cell? ⟨w.heap.size + 1, 2, none⟩ = some (.int .i64 (-1)) ∧ w.heap.size < w1.heap.size ∧ w.heap.size + 1 < w1.heap.size :=
          ⟨cell_below hb1 q0, cell_below hb1 q1, cell_below hb1 y0, cell_below hb1 y1, cell_below hb1 y2, by have := hb1.size; omega, by have := hb1.size; omega⟩
        have l9 := cell_below hb1 g1
        have l8 : (ad.add (u * 4)).block < w1.heap.size := World.block_lt_of_cell? w1 ⟨(ad.add (u * 4)).block, (ad.add (u * 4)).off + 1, none⟩ l9
        go_wp2_with fail
        obtain ⟨W1, hW1, hBB, hEB, hs2⟩ : ∃ W, W = w1.alloc (.cells #[.int .i64 e0.piece, .int .i64 e0.side] 177) ∧ Below wr.heap.size wr W ∧ Hid (Blk W w1.heap.size 177 [.int .i64 e0.piece, .int .i64 e0.side]) ∧ w1.heap.size < W.heap.size := ⟨_, rfl, hb1.alloc hb1.size _, Lib.hid (Blk.new _ _ _ rfl), by simp⟩
        rw [← hW1]
        clear hW1 c0' c1' c2' c3' c4' c5' c6' l8 l9
        refine (partOf_q (P := P) (by rw [← HPt.out, partN_back, HP.out]; congr 1 <;> omega)).mono ?_
        rintro e w2 ⟨rfl, hb2⟩
        have hbx := hBB.trans (hb2.mono hBB.size)
        have hbo := hb1.size
        have HR1 := Lib.hid ((HR.out.below hbx).below (below_alloc w2 (.cells #[.int .i64 P.piece, .int .i64 P.frm, .int .i64 P.til] 146)))
        clear g0 g1 g2 g3 HR q0 q1 y0 y1 y2
        go_wp2_with (at_builtin; refine wpList_append_rw _ rfl (.tmp 42) (.tmp 55) 62 rfl 146 i0 _ 24 Tryz.underlying62 hi hz0 hz1 hz2 rfl (by decide) (.slice Ao acc.length co) acc [P] rfl HR1.out (fun _ h => h.elim) (some ⟨w2.heap.size, 0, none⟩) 1 1 rfl rfl (Kn.Src.one (partK_mk _ _ P) (new_cells _ _ _ rfl)) a63 aby ?_; intro v' w3 HR2 hg2 hat2; obtain ⟨A2, c2, rfl, hc2⟩ := HR2.form1; obtain ⟨b0, b1, b2, b3, b4, b5⟩ := behind_cells hb hbo hBB hb2 hg2 HO.out HOL.out hEB.out HX0.out hs1; have u0 : w3.cell? ⟨w.heap.size, 0, none⟩ = some (.slice (some ad) n.pieces.length c0) := (b0.cell (p := ⟨w.heap.size, 0, none⟩) (by simp)).trans f0; have u1 : w3.cell? ⟨w.heap.size, 1, none⟩ = some (.slice A1 n.joints.length c1) := (b0.cell (p := ⟨w.heap.size, 1, none⟩) (by simp)).trans f1; have v0 := b1.cell 0 rfl; have v1 := b1.cell 1 rfl; have hs4 : w.heap.size < w3.heap.size := by omega)
        have HO2 := Lib.hid (own_next HO.out hat2 (by rw [size_alloc]; omega))
        have HR2 := Lib.hid HR2
        have HB2 := Lib.hid b2
        have hbW := HB0.trans (b0.mono (by omega : w.heap.size ≤ w.heap.size + 1))
        clear hg2 hat2 hbx hBB hb2 HR1 hb1 hEB HO HOL b1 b2 hbo hsr0 hsr1 b5 hs2
        refine (implAt n (some ad) A1 c0 c1 e0 _ (h.below hbW) hg HEO).mono ?_
        rintro e w4 ⟨rfl, hb4⟩
        rw [HA.out]
        have hbY := b0.trans (hb4.mono (by omega))
        have hbZ := HB0.trans (hbY.mono (by omega : w.heap.size ≤ w.heap.size + 1))
        obtain ⟨a1, rfl, y, E1, A3, c3, r0, r1, r2, l2, C2⟩ := jointK_at (Kn.C_below hbZ h.j) j hjl
        have hy := HAT.out.1.symm.trans E1.out
        injection hy with hy
        subst hy
        have hme := C2.1
        have u2 := cell_below hb4 u0
        have u3 := cell_below hb4 u1
        have v2 := cell_below hb4 v0
        have v3 := cell_below hb4 v1
        have HR4 := Lib.hid (HR2.out.below hb4)
        have HB4 := Lib.hid (HB2.out.below hb4 (by omega))
        have hs5 : w.heap.size < w4.heap.size := by have := hb4.size; omega
        have hs6 : w1.heap.size < w4.heap.size := by have := hb4.size; omega
        have hs9 : w.heap.size + 1 < w4.heap.size := by have := hb4.size; omega
        clear u0 u1 v0 v1 HR2 HB2 b3 b4 hs4
        by_cases hk : x.kind = 2
        rotate_left
        · have d4 : (x.kind != 2) = true := int_net hk
          have HEN : Hid (acc ++ [P] = goal) := Lib.hid (by have := beyond_end HB.out HM.out (by omega) HAH.out HX.out (.inr hk); rw [HT.out, HPt.out] at this; exact this)
          clear hk
          go_wp2
          go_ret
          exact ⟨_, rfl, by rw [← HEN.out]; exact HR4.out, fun b hb => by have := HO2.out b hb; omega, hbZ⟩
        have d4 : (x.kind != 2) = false := int_nef hk
        have hlen2 : x.ends.length = 2 := by have := HJP.out.2.1; omega
        obtain ⟨m', hmm, hsp⟩ := beyond_spl HB.out HM.out (by omega) HAH.out HX.out hk
        rw [HT.out, HPt.out] at hsp
        have HSP := Lib.hid hsp
        have HMM := Lib.hid hmm
        have HEK : Hid (endP n.pieces.length (en x (1 - k))) := Lib.hid (en_ok HJP.out (by omega))
        obtain ⟨u', s', HEN⟩ : ∃ (u' : Nat) (s' : Int), Hid (en x (1 - k) = ⟨u', s'⟩) := ⟨(en x (1 - k)).piece.toNat, (en x (1 - k)).side, Lib.hid (by have := HEK.out.1.1; rw [Int.toNat_of_nonneg this])⟩
        have hu' : u' < n.pieces.length := by have := HEK.out; rw [HEN.out] at this; obtain ⟨⟨b1, b2⟩, b3, b4⟩ := this; simp only at b1 b2 b3 b4; omega
        have HEE : Hid (endP n.pieces.length ⟨u', s'⟩) := Lib.hid (by rw [← HEN.out]; exact HEK.out)
        have HPL : Hid (0 < pl n u') := Lib.hid (by have := pl_in hg.out (p := (u' : Int)) (by omega) (by omega); omega)
        have HXS : Hid (across (jt n (atJ n e0).1) (atJ n e0).2 = [⟨u', s'⟩] ∧ howOf (jt n (atJ n e0).1) (atJ n e0).2 = [0]) := Lib.hid (by rw [HA.out]; simp only; rw [HX.out, across_plain hk, how_plain hk, HEN.out]; exact ⟨rfl, rfl⟩)
        clear hk hlen2 hmm hsp r1 r2
        go_wp2_with fail
        refine (implOver n (some ad) (some a1) c0 c1 e0 _ (h.below hbZ) hg HEO).mono ?_
        rintro e w5 hov
        obtain ⟨Al, cl, Bl, dl, rfl, hcl, hAl, hBl, hb5⟩ := hov.to HXS.out.1 HXS.out.2
        obtain ⟨al, rfl, t0, t1, t2⟩ := endC_head hAl
        have hbV := hbY.trans (hb5.mono (by omega : w.heap.size + 1 ≤ w4.heap.size))
        have hbU := HB0.trans (hbV.mono (by omega : w.heap.size ≤ w.heap.size + 1))
        have u4 := cell_below hb5 u2
        have u5 := cell_below hb5 u3
        have HB5 := Lib.hid (HB4.out.below hb5 (by omega))
        have HR5 := Lib.hid (HR4.out.below hb5)
        have hs7 : w.heap.size < w5.heap.size := by have := hb5.size; omega
        have hs8 : w.heap.size + 1 < w5.heap.size := by have := hb5.size; omega
        have z7 := HB5.out.cell 0 rfl
        have z8 := HB5.out.cell 1 rfl
        have z9 := HB5.out.cell 2 rfl
        have z4 := HB5.out.frozen 0
        have z5 := HB5.out.frozen 1
        have z6 := HB5.out.frozen 2
        clear u2 u3 v2 v3 r0 HB4 HR4 hs5 hs6 hov hb4 C2 E1
        simp only [List.length_singleton]
        go_wp2_with fail
        go_region_with ((go_at_call 119; go_loud ((with_reducible refine (implEnter n _ (some ad) c0 ⟨u', s'⟩ _ (C_dr (Kn.C_below hbU h.p)) hg HEE.out).mono ?_); rintro e w6 ⟨rfl, hb6⟩; have B6 := (Blk_drew HB5.out).below hb6 hs8; have z7 := B6.cell 0 rfl; have z8 := B6.cell 1 rfl; have z9 := B6.cell 2 rfl; have z4 := B6.frozen 0; have z5 := B6.frozen 1; have z6 := B6.frozen 2; have hs9 : w.heap.size + 1 < w6.heap.size := B6.lt; have HB6 := Lib.hid B6; clear B6)))
        all_goals go_wp2
        all_goals go_roundw
        all_goals first | (simp [intOf]; omega) | exact ⟨m', u', wayOf ⟨u', s'⟩, 0, left - (a), acc ++ [P], by first | rfl | go_num, hu', by omega, by omega, Lib.hid (step_of_end HEE.out).2, HPL, Lib.hid (by have := HSP.out; rw [HEN.out, show left - ((z1) - far) = left - (a) by omega] at this; exact this), Lib.hid (by have := HM.out; have := HMM.out; omega), Lib.hid (Kn.Rw.move (fun q hq => place_far _ _ _ (by have := HO2.out q hq; omega)) (fun _ h => h.elim) (HR5.out.below (hb6 : Below w5.heap.size w5.drew _))), HO2, Lib.hid ⟨by omega, by rw [List.length_append, List.length_singleton]; omega⟩, Lib.hid (place_set _ _ _ HB6.out), place_below _ _ _ (hbV.drew.trans (hb6.mono (by show _ ≤ w5.heap.size; omega))) (Nat.le_refl _)⟩
end Go.Proofs.YtpggopdojhodaaaGreatDoor.L
namespace Go.Proofs.YtpggopdojhodaaaGreatDoor.L
open Go.RowKit
set_option linter.unusedVariables false
set_option linter.unusedSimpArgs false
theorem Rw_slice {α : Type} {d : Kn α} {e : Nat} {w : World} {ok : Nat → Prop} {A : Option Addr} {n c : Nat} {xs : List α} (h : d.Rw e w ok (.slice A n c) xs) : n = xs.length ∧ xs.length ≤ c ∧ d.C w (fun b => ok b ∨ (Value.slice A n c).ownBlock = some b) A xs := by
  obtain ⟨A', c', he, hc, hC⟩ := h.C
  injection he with h1 h2 h3
  subst h1
  subst h2
  subst h3
  exact ⟨rfl, hc, hC⟩
theorem one_across {x : Joint} {k : Nat} (q1 : ¬ x.kind = 1) (q3 : ¬ x.kind = 3) (h : 1 ≤ x.kind ∧ x.kind ≤ 4) : ∃ e, Hid (across x k = [e]) := by
  unfold across
  by_cases q2 : x.kind = 2
  · rw [if_pos q2]
    exact ⟨_, Lib.hid rfl⟩
  · rw [if_neg q2, if_neg q3, if_pos (by omega)]
    exact ⟨_, Lib.hid rfl⟩
theorem not_in_all {α : Type} {xs : List α} {k : Nat} {x : α} (h : ¬ inTo xs k x) (hk : xs.length ≤ k) : ¬ x ∈ xs := fun hm => by
  obtain ⟨j, hj⟩ := List.mem_iff_getElem?.1 hm
  exact h ⟨j, Nat.lt_of_lt_of_le (List.getElem?_eq_some_iff.1 hj).1 hk, hj⟩
theorem RetC.to {α : Type} {d : Kn α} {xs ys : List α} {w w' : World} {e : Ending} (h : RetC d xs w e w') (hx : xs = ys) : RetC d ys w e w' := by subst hx; exact h
theorem own_not {α : Type} {d : Kn α} {e t : Nat} {w : World} {ok : Nat → Prop} {v : Value} {xs : List α} {g : Nat} {cs : List Value} (h : d.Rw e w ok v xs) (hb : Blk w g t cs) (ht : t ≠ e) : ¬ v.ownBlock = some g := by
  intro hv
  obtain ⟨inner, ho, _⟩ := h
  rcases ho.2 with ⟨rfl, _⟩ | ⟨b, cap, cur, rfl, _, hh, _⟩
  · simp [Value.ownBlock] at hv
  · simp only [Value.ownBlock, Option.some.injEq] at hv
    subst hv
    unfold Blk at hb
    rw [hh] at hb
    injection hb with hb
    injection hb with _ hb _
    exact ht hb.symm
theorem own_apart {α β : Type} {d : Kn α} {d' : Kn β} {e e' : Nat} {w : World} {ok ok' : Nat → Prop} {v v' : Value} {xs : List α} {ys : List β} (h : d.Rw e w ok v xs) (h' : d'.Rw e' w ok' v' ys) (ht : e ≠ e') {b : Nat} (hv : v.ownBlock = some b) : ¬ v'.ownBlock = some b := by
  intro hv'
  obtain ⟨inner, ho, _⟩ := h
  obtain ⟨inner', ho', _⟩ := h'
  rcases ho.2 with ⟨rfl, _⟩ | ⟨b1, cap, cur, rfl, _, hh, _⟩
  · simp [Value.ownBlock] at hv
  rcases ho'.2 with ⟨rfl, _⟩ | ⟨b2, cap', cur', rfl, _, hh', _⟩
  · simp [Value.ownBlock] at hv'
  simp only [Value.ownBlock, Option.some.injEq] at hv hv'
  subst hv
  subst hv'
  rw [hh] at hh'
  injection hh' with hh'
  injection hh' with _ hh' _
  exact ht hh'
def FSet (g h : Nat) (vs vf : Value) (b : Nat) : Prop := b = g ∨ b = h ∨ vs.ownBlock = some b ∨ vf.ownBlock = some b
structure FS (tF tR eE eF : Nat) (w : World) (g h : Nat) (n : Net) (ss : List Signal) (lies : List Lie) (A0 A1 A2 A3 : Option Addr) (c0 c1 c2 c3 : Nat) (ov tr : Int) (vout v0 v1 v2 v4 v5 v6 vs vf : Value) (seen : List End) (fl : List Flank) : Prop where
  f : Blk w g tF (finder n A0 A1 c0 c1 (.slice A2 ss.length c2) ov vout tr vs)
  r : Blk w h tR [v0, v1, v2, .slice A3 lies.length c3, v4, v5, v6, vf]
  net : NC eE w (Out w (FSet g h vs vf)) n A0 A1
  sig : signalK.C w (Out w (FSet g h vs vf)) A2 ss
  lie : lieK.C w (Out w (FSet g h vs vf)) A3 lies
  sn : endK.Rw eE w nobody vs seen
  fn : flankK.Rw eF w nobody vf fl
theorem NC.keep {eE : Nat} {w w1 : World} {S S' : Nat → Prop} {x : Net} {A0 A1 : Option Addr} (hk : Keep S w w1) (hs : ∀ x, x < w.heap.size → S' x → S x) (h : NC eE w (Out w S) x A0 A1) : NC eE w1 (Out w1 S') x A0 A1 := ⟨Kn.C_keep hk hs h.p, Kn.C_keep hk hs h.j⟩
section
variable {tF tR eE eF : Nat} {w w1 w2 wa : World} {g h : Nat} {n : Net} {ss : List Signal} {lies : List Lie} {A0 A1 A2 A3 : Option Addr} {c0 c1 c2 c3 : Nat} {ov tr : Int} {vout v0 v1 v2 v4 v5 v6 vs vf v' : Value} {seen : List End} {fl : List Flank}
theorem FS.below (hb : Below w.heap.size w w1) (F : FS tF tR eE eF w g h n ss lies A0 A1 A2 A3 c0 c1 c2 c3 ov tr vout v0 v1 v2 v4 v5 v6 vs vf seen fl) : FS tF tR eE eF w1 g h n ss lies A0 A1 A2 A3 c0 c1 c2 c3 ov tr vout v0 v1 v2 v4 v5 v6 vs vf seen fl :=
  ⟨F.f.below hb F.f.lt, F.r.below hb F.r.lt, F.net.keep (Keep.of_below hb) (fun _ _ h => h), Kn.C_keep (Keep.of_below hb) (fun _ _ h => h) F.sig, Kn.C_keep (Keep.of_below hb) (fun _ _ h => h) F.lie, F.sn.below hb, F.fn.below hb⟩
def Nx (v v' : Value) (s : Nat) : Prop := ∀ b, v'.ownBlock = some b → v.ownBlock = some b ∨ s ≤ b
theorem Nx.refl (v : Value) (s : Nat) : Nx v v s := fun b hb => .inl hb
theorem Nx.trans {a b c : Value} {s s' : Nat} (h : Nx a b s) (k : Nx b c s') (hs : s ≤ s') : Nx a c s := fun x hx => by
  rcases k x hx with hx | hx
  · exact h x hx
  · exact .inr (Nat.le_trans hs hx)
theorem Nx.mono {a b : Value} {s s' : Nat} (h : Nx a b s) (hs : s' ≤ s) : Nx a b s' := fun x hx => by
  rcases h x hx with hx | hx
  · exact .inl hx
  · exact .inr (Nat.le_trans hs hx)
theorem Nx.of {v v' : Value} {s : Nat} (h : v'.ownBlock = v.ownBlock ∨ v'.ownBlock = some s) : Nx v v' s := fun b hb => by
  rcases h with h | h
  · exact .inl (by rw [← h]; exact hb)
  · rw [h] at hb
    injection hb with hb
    exact .inr (Nat.le_of_eq hb)
theorem FS.more (F : FS tF tR eE eF w g h n ss lies A0 A1 A2 A3 c0 c1 c2 c3 ov tr vout v0 v1 v2 v4 v5 v6 vs vf seen fl) (t1 : tF ≠ eE) (t2 : tF ≠ eF) (t3 : tR ≠ eE) (t4 : eE ≠ eF) (t5 : tF ≠ tR) (t6 : tR ≠ eF) (hb : Below w.heap.size w wa) (hg : wa.grownBy w2 vs.ownBlock) {e : End} (hR : endK.Rw eE w2 nobody v' (seen ++ [e])) (ha : v'.ownBlock = vs.ownBlock ∨ v'.ownBlock = some wa.heap.size) :
    FS tF tR eE eF (w2.setCell ⟨g, 6, none⟩ v') g h n ss lies A0 A1 A2 A3 c0 c1 c2 c3 ov tr vout v0 v1 v2 v4 v5 v6 v' vf (seen ++ [e]) fl ∧ Keep (FSet g h vs vf) w (w2.setCell ⟨g, 6, none⟩ v') ∧ Nx vs v' w.heap.size := by
  have hk : Keep (FSet g h vs vf) w w2 := (Keep.of_below hb).grown hg (fun k hk _ => .inr (.inr (.inl hk)))
  have hgl := F.f.lt
  have hgh : g ≠ h := fun e => by
    have h1 := F.f
    have h2 := F.r
    subst e
    unfold Blk at h1 h2
    rw [h1] at h2
    injection h2 with h2
    injection h2 with _ h2 _
    exact t5 h2
  have hf2 : Blk w2 g tF (finder n A0 A1 c0 c1 (.slice A2 ss.length c2) ov vout tr vs) := (hg.block g (Nat.lt_of_lt_of_le hgl hb.size) (fun e => own_not F.sn F.f t1 e.symm)).trans (F.f.below hb hgl)
  have hr2 : Blk w2 h tR [v0, v1, v2, .slice A3 lies.length c3, v4, v5, v6, vf] := (hg.block h (Nat.lt_of_lt_of_le F.r.lt hb.size) (fun e => own_not F.sn F.r t3 e.symm)).trans (F.r.below hb F.r.lt)
  have hk2 : Keep (FSet g h vs vf) w (w2.setCell ⟨g, 6, none⟩ v') := hk.setCell (fun _ => .inl rfl) v'
  have hnx : Nx vs v' w.heap.size := (Nx.of ha).mono hb.size
  have hs : ∀ x, x < w.heap.size → FSet g h v' vf x → FSet g h vs vf x := fun x hx hm => by
    rcases hm with hm | hm | hm | hm
    · exact .inl hm
    · exact .inr (.inl hm)
    · rcases hnx x hm with hm | hm
      · exact .inr (.inr (.inl hm))
      · omega
    · exact .inr (.inr (.inr hm))
  have hR2 : endK.Rw eE (w2.setCell ⟨g, 6, none⟩ v') nobody v' (seen ++ [e]) := Kn.Rw.move (fun k hk => Below.heap_setCell _ _ _ _ (fun e => own_not hR hf2 t1 (by rw [← show k = g from e]; exact hk))) (fun _ h => h.elim) hR
  have hfn : flankK.Rw eF (w2.setCell ⟨g, 6, none⟩ v') nobody vf fl := Kn.Rw.move (fun k hkk => by
    have hlt := F.fn.lt k hkk
    rw [Below.heap_setCell _ _ _ _ (fun e => own_not F.fn F.f t2 (by rw [← show k = g from e]; exact hkk)), hg.block k (Nat.lt_of_lt_of_le hlt hb.size) (fun e => own_apart F.sn F.fn t4 e.symm hkk), hb.block k hlt]) (fun _ h => h.elim) F.fn
  exact ⟨⟨hf2.set_ 6 v', hr2.far (p := ⟨g, 6, none⟩) (fun e => hgh e.symm) v', F.net.keep hk2 hs, Kn.C_keep hk2 hs F.sig, Kn.C_keep hk2 hs F.lie, hR2, hfn⟩, hk2, hnx⟩
theorem FS.found (F : FS tF tR eE eF w g h n ss lies A0 A1 A2 A3 c0 c1 c2 c3 ov tr vout v0 v1 v2 v4 v5 v6 vs vf seen fl) (t1 : tF ≠ eE) (t2 : tF ≠ eF) (t3 : tR ≠ eE) (t4 : eE ≠ eF) (t5 : tF ≠ tR) (t6 : tR ≠ eF) (hb : Below w.heap.size w wa) (hg : wa.grownBy w2 vf.ownBlock) {e : Flank} (hR : flankK.Rw eF w2 nobody v' (fl ++ [e])) (ha : v'.ownBlock = vf.ownBlock ∨ v'.ownBlock = some wa.heap.size) :
    FS tF tR eE eF (w2.setCell ⟨h, 7, none⟩ v') g h n ss lies A0 A1 A2 A3 c0 c1 c2 c3 ov tr vout v0 v1 v2 v4 v5 v6 vs v' seen (fl ++ [e]) ∧ Keep (FSet g h vs vf) w (w2.setCell ⟨h, 7, none⟩ v') ∧ Nx vf v' w.heap.size := by
  have hk : Keep (FSet g h vs vf) w w2 := (Keep.of_below hb).grown hg (fun k hk _ => .inr (.inr (.inr hk)))
  have hgl := F.f.lt
  have hgh : g ≠ h := fun e => by
    have h1 := F.f
    have h2 := F.r
    subst e
    unfold Blk at h1 h2
    rw [h1] at h2
    injection h2 with h2
    injection h2 with _ h2 _
    exact t5 h2
  have hf2 : Blk w2 g tF (finder n A0 A1 c0 c1 (.slice A2 ss.length c2) ov vout tr vs) := (hg.block g (Nat.lt_of_lt_of_le hgl hb.size) (fun e => own_not F.fn F.f t2 e.symm)).trans (F.f.below hb hgl)
  have hr2 : Blk w2 h tR [v0, v1, v2, .slice A3 lies.length c3, v4, v5, v6, vf] := (hg.block h (Nat.lt_of_lt_of_le F.r.lt hb.size) (fun e => own_not F.fn F.r t6 e.symm)).trans (F.r.below hb F.r.lt)
  have hk2 : Keep (FSet g h vs vf) w (w2.setCell ⟨h, 7, none⟩ v') := hk.setCell (fun _ => .inr (.inl rfl)) v'
  have hnx : Nx vf v' w.heap.size := (Nx.of ha).mono hb.size
  have hs : ∀ x, x < w.heap.size → FSet g h vs v' x → FSet g h vs vf x := fun x hx hm => by
    rcases hm with hm | hm | hm | hm
    · exact .inl hm
    · exact .inr (.inl hm)
    · exact .inr (.inr (.inl hm))
    · rcases hnx x hm with hm | hm
      · exact .inr (.inr (.inr hm))
      · omega
  have hR2 : flankK.Rw eF (w2.setCell ⟨h, 7, none⟩ v') nobody v' (fl ++ [e]) := Kn.Rw.move (fun k hk => Below.heap_setCell _ _ _ _ (fun e => own_not hR hr2 t6 (by rw [← show k = h from e]; exact hk))) (fun _ h => h.elim) hR
  have hfn : endK.Rw eE (w2.setCell ⟨h, 7, none⟩ v') nobody vs seen := Kn.Rw.move (fun k hkk => by
    have hlt := F.sn.lt k hkk
    rw [Below.heap_setCell _ _ _ _ (fun e => own_not F.sn F.r t3 (by rw [← show k = h from e]; exact hkk)), hg.block k (Nat.lt_of_lt_of_le hlt hb.size) (fun e => own_apart F.sn F.fn t4 hkk e.symm), hb.block k hlt]) (fun _ h => h.elim) F.sn
  exact ⟨⟨hf2.far (p := ⟨h, 7, none⟩) hgh v', hr2.set_ 7 v', F.net.keep hk2 hs, Kn.C_keep hk2 hs F.sig, Kn.C_keep hk2 hs F.lie, hfn, hR2⟩, hk2, hnx⟩
theorem FS.new (F : FS tF tR eE eF w g h n ss lies A0 A1 A2 A3 c0 c1 c2 c3 ov tr vout v0 v1 v2 v4 v5 v6 vs vf seen fl) {b : Nat} (hb : w.heap.size ≤ b) : ¬ FSet g h vs vf b := fun hm => by
  have h1 := F.f.lt
  have h2 := F.r.lt
  rcases hm with hm | hm | hm | hm
  · omega
  · omega
  · have := F.sn.lt b hm
    omega
  · have := F.fn.lt b hm
    omega
theorem FS.fMore (F : FS tF tR eE eF w g h n ss lies A0 A1 A2 A3 c0 c1 c2 c3 ov tr vout v0 v1 v2 v4 v5 v6 vs vf seen fl) (t1 : tF ≠ eE) (hb : Below w.heap.size w wa) (hg : wa.grownBy w2 vs.ownBlock) : Blk w2 g tF (finder n A0 A1 c0 c1 (.slice A2 ss.length c2) ov vout tr vs) :=
  (hg.block g (Nat.lt_of_lt_of_le F.f.lt hb.size) (fun e => own_not F.sn F.f t1 e.symm)).trans (F.f.below hb F.f.lt)
theorem FS.rFound (F : FS tF tR eE eF w g h n ss lies A0 A1 A2 A3 c0 c1 c2 c3 ov tr vout v0 v1 v2 v4 v5 v6 vs vf seen fl) (t6 : tR ≠ eF) (hb : Below w.heap.size w wa) (hg : wa.grownBy w2 vf.ownBlock) : Blk w2 h tR [v0, v1, v2, .slice A3 lies.length c3, v4, v5, v6, vf] :=
  (hg.block h (Nat.lt_of_lt_of_le F.r.lt hb.size) (fun e => own_not F.fn F.r t6 e.symm)).trans (F.r.below hb F.r.lt)
def RetF (tF tR eE eF : Nat) (g h : Nat) (n : Net) (ss : List Signal) (lies : List Lie) (A0 A1 A2 A3 : Option Addr) (c0 c1 c2 c3 : Nat) (ov tr : Int) (vout v0 v1 v2 v4 v5 v6 vs vf : Value) (st : List End × List Flank) (w : World) (en : Ending) (w' : World) : Prop :=
  en = .returned (.tuple #[]) ∧ ∃ vs' vf', FS tF tR eE eF w' g h n ss lies A0 A1 A2 A3 c0 c1 c2 c3 ov tr vout v0 v1 v2 v4 v5 v6 vs' vf' st.1 st.2 ∧ Keep (FSet g h vs vf) w w' ∧ Nx vs vs' w.heap.size ∧ Nx vf vf' w.heap.size
theorem RetF.after {vs1 vf1 : Value} {st : List End × List Flank} {en : Ending} {w' : World} (hk : Keep (FSet g h vs vf) w wa) (h1 : Nx vs vs1 w.heap.size) (h2 : Nx vf vf1 w.heap.size) (hR : RetF tF tR eE eF g h n ss lies A0 A1 A2 A3 c0 c1 c2 c3 ov tr vout v0 v1 v2 v4 v5 v6 vs1 vf1 st wa en w') : RetF tF tR eE eF g h n ss lies A0 A1 A2 A3 c0 c1 c2 c3 ov tr vout v0 v1 v2 v4 v5 v6 vs vf st w en w' := by
  obtain ⟨rfl, vs', vf', F, K, N1, N2⟩ := hR
  refine ⟨rfl, vs', vf', F, hk.trans K (fun x hx hm => ?_), h1.trans N1 hk.size, h2.trans N2 hk.size⟩
  rcases hm with hm | hm | hm | hm
  · exact .inl hm
  · exact .inr (.inl hm)
  · rcases h1 x hm with hm | hm
    · exact .inr (.inr (.inl hm))
    · omega
  · rcases h2 x hm with hm | hm
    · exact .inr (.inr (.inr hm))
    · omega
theorem FS.last (F : FS tF tR eE eF w g h n ss lies A0 A1 A2 A3 c0 c1 c2 c3 ov tr vout v0 v1 v2 v4 v5 v6 vs vf seen fl) (t1 : tF ≠ eE) (t2 : tF ≠ eF) (t3 : tR ≠ eE) (t4 : eE ≠ eF) (t5 : tF ≠ tR) (t6 : tR ≠ eF) (hb : Below w.heap.size w wa) (hg : wa.grownBy w2 vf.ownBlock) {e : Flank} (hR : flankK.Rw eF w2 nobody v' (fl ++ [e])) (ha : v'.ownBlock = vf.ownBlock ∨ v'.ownBlock = some wa.heap.size) :
    RetF tF tR eE eF g h n ss lies A0 A1 A2 A3 c0 c1 c2 c3 ov tr vout v0 v1 v2 v4 v5 v6 vs vf (seen, fl ++ [e]) w (.returned (.tuple #[])) (w2.setCell ⟨h, 7, none⟩ v') := by
  obtain ⟨G1, G2, G3⟩ := F.found t1 t2 t3 t4 t5 t6 hb hg hR ha
  exact ⟨rfl, vs, v', G1, G2, Nx.refl _ _, G3⟩
theorem FSet.next {vs vf vs' vf' : Value} {s : Nat} (h1 : Nx vs vs' s) (h2 : Nx vf vf' s) : ∀ x, x < s → FSet g h vs' vf' x → FSet g h vs vf x := fun x hx hm => by
  rcases hm with hm | hm | hm | hm
  · exact .inl hm
  · exact .inr (.inl hm)
  · rcases h1 x hm with hm | hm
    · exact .inr (.inr (.inl hm))
    · omega
  · rcases h2 x hm with hm | hm
    · exact .inr (.inr (.inr hm))
    · omega
end
end Go.Proofs.YtpggopdojhodaaaGreatDoor.L
