/- What is behind a signal, in the reference and in the program. -/
import Derived.Test.YtpggopdojhodaaaGreatDoorVd
import Derived.WalkLawsBesides
namespace Go.Proofs.YtpggopdojhodaaaGreatDoor.L
open Go.RowKit
set_option linter.unusedVariables false
set_option linter.unusedSimpArgs false
def RetAt (jk : Nat × Nat) (w : World) (e : Ending) (w' : World) : Prop := e = .returned (.tuple #[.int .i64 jk.1, .int .i64 jk.2]) ∧ Below w.heap.size w w'
set_option maxRecDepth 100000 in
set_option maxHeartbeats 4000000 in
theorem specAt {ok : Nat → Prop} (n : Net) (A0 A1 : Option Addr) (c0 c1 : Nat) (e : End) (w : World) (h : NC 177 w ok n A0 A1) (hg : Hid (Good n)) (he : Hid (endP n.pieces.length e)) :
    Calls Tryz.prog 99 #[.agg #[.slice A0 n.pieces.length c0, .slice A1 n.joints.length c1], e.v] w (RetAt (atJ n e) w) := by
  obtain ⟨j, k, x, hat, hjk, hx, _, hjl, hkl⟩ := at_get hg.out he.out
  obtain ⟨p, s⟩ := e
  have HJK := Lib.hid hjk
  have HAT := Lib.hid hat
  have hmj := h.j.1
  have hjle := hg.out.jle
  have UN : Hid (∀ j' k' x', At n ⟨p, s⟩ j' k' x' → j' = j ∧ k' = k) := Lib.hid (fun j' k' x' h' => by obtain ⟨h1, h2, _⟩ := at_one (hg.out.one _ he.out) hat h'; exact ⟨h1, h2⟩)
  have HKL : Hid (∀ y, n.joints[j]? = some y → k < y.ends.length) := Lib.hid (fun y hy => by have := hat.1.symm.trans hy; obtain rfl := Option.some.inj this; exact hkl)
  clear hat hjk hx hkl
  go_enter Tryz.func99, Tryz.ntmps99
  go_wp2
  obtain ⟨W0, hW, HB0, h0, h1, f0, f1⟩ : ∃ W, W = (w.alloc (.cells #[.slice A0 n.pieces.length c0, .slice A1 n.joints.length c1] 35)).alloc (.cells #[.int .i64 p, .int .i64 s] 177) ∧ Below w.heap.size w W ∧ w.heap.size < W.heap.size ∧ w.heap.size + 1 < W.heap.size ∧
    W.cell? ⟨w.heap.size + 1, 0, none⟩ = some (.int .i64 p) ∧ W.cell? ⟨w.heap.size + 1, 1, none⟩ = some (.int .i64 s) := ⟨_, rfl, (below_alloc _ _).alloc (by simp) _, by simp; omega, by simp, by simp, by simp⟩
  rw [← hW]
  clear hW
  go_loopw [13] (fun i wr => ∃ m : Nat, m ≤ j ∧ i = .int .i64 m ∧ Below W0.heap.size W0 wr) (fun i _ => j - (intOf i).toNat)
  case atStart => exact ⟨0, Nat.zero_le _, rfl, Below.refl _ _⟩
  case round =>
    obtain ⟨m, hm, rfl, hb⟩ := hrel
    obtain ⟨wo, rfl⟩ : ∃ wo : World, wo = wr := ⟨_, rfl⟩
    have hbw := HB0.trans (hb.mono HB0.size)
    obtain ⟨a1, rfl, y, E, A2, c2, g0, g1, g2, l2, q2⟩ := jointK_at (Kn.C_below hbw h.j) m (by omega)
    have i0 : (0 : Int) ≤ (m : Int) := Int.natCast_nonneg _
    have i1 : (m : Int) < (n.joints.length : Int) := by omega
    have hm2 := q2.1
    have HK : Hid (m = j → k < y.ends.length) := Lib.hid (fun e => HKL.out y (by subst e; exact E.out))
    go_wp2
    obtain ⟨W1, hW, HB1, h2, h3, k0, k1⟩ : ∃ W, W = wo.alloc (.cells #[.int .i64 y.kind, .string y.name, .slice A2 y.ends.length c2] 75) ∧ Below wo.heap.size wo W ∧ w.heap.size + 1 < W.heap.size ∧ wo.heap.size < W.heap.size ∧
      W.cell? ⟨w.heap.size + 1, 0, none⟩ = some (.int .i64 p) ∧ W.cell? ⟨w.heap.size + 1, 1, none⟩ = some (.int .i64 s) := ⟨_, rfl, below_alloc _ _, by have := hb.size; simp; omega, by simp, cell_below (below_alloc _ _) (cell_below hb f0), cell_below (below_alloc _ _) (cell_below hb f1)⟩
    rw [← hW]
    clear hW
    have hb1 := hb.trans (HB1.mono hb.size)
    go_loopw [21] (fun i wr => ∃ q : Nat, q ≤ y.ends.length ∧ i = .int .i64 q ∧ Hid (m = j → q ≤ k) ∧ Below W1.heap.size W1 wr) (fun i _ => y.ends.length - (intOf i).toNat)
    case atStart => exact ⟨0, Nat.zero_le _, rfl, Lib.hid (fun _ => Nat.zero_le _), Below.refl _ _⟩
    case round =>
      obtain ⟨q, hq, rfl, HQ, hbi⟩ := hrel
      have hbj := hb1.trans (hbi.mono hb1.size)
      have t0 := cell_below hbi k0
      have t1 := cell_below hbi k1
      have hs : w.heap.size + 1 < wr.heap.size := by have := hbi.size; omega
      by_cases hlq : q < y.ends.length
      · obtain ⟨a2, rfl, y0, y1, E1, g3, g4⟩ := endK_at (Kn.C_below (HB1.trans (hbi.mono HB1.size)) q2) q hlq
        have j0 : (0 : Int) ≤ (q : Int) := Int.natCast_nonneg _
        have j1 : (q : Int) < (y.ends.length : Int) := by omega
        by_cases e0 : y0 = p
        rotate_left
        · have d0 : (y0 == p) = false := int_eqf e0
          have HQ2 : Hid (m = j → q + 1 ≤ k) := Lib.hid (fun e => by
            have h1 := HQ.out e
            by_cases h2 : q = k
            · subst e h2
              have h3 := HAT.out.1.symm.trans E.out
              obtain rfl := Option.some.inj h3
              have h4 := HAT.out.2.symm.trans E1.out
              injection h4 with h4
              injection h4 with h4 h5
              exact (e0 (by first | exact h4 | exact h4.symm)).elim
            · omega)
          clear e0
          go_wp2
          go_roundw
          case rel => exact ⟨q + 1, by omega, by go_num, HQ2, hbi.alloc hbi.size _⟩
          case measure => simp [intOf]; omega
        have d0 : (y0 == p) = true := int_eqt e0
        by_cases e1 : y1 = s
        rotate_left
        · have d1 : (y1 == s) = false := int_eqf e1
          have HQ2 : Hid (m = j → q + 1 ≤ k) := Lib.hid (fun e => by
            have h1 := HQ.out e
            by_cases h2 : q = k
            · subst e h2
              have h3 := HAT.out.1.symm.trans E.out
              obtain rfl := Option.some.inj h3
              have h4 := HAT.out.2.symm.trans E1.out
              injection h4 with h4
              injection h4 with h4 h5
              exact (e1 (by first | exact h5 | exact h5.symm)).elim
            · omega)
          clear e0 e1
          go_wp2
          go_roundw
          case rel => exact ⟨q + 1, by omega, by go_num, HQ2, hbi.alloc hbi.size _⟩
          case measure => simp [intOf]; omega
        have d1 : (y1 == s) = true := int_eqt e1
        have HN : Hid (atJ n ⟨p, s⟩ = (m, q)) := Lib.hid (by
          obtain ⟨h1, h2⟩ := UN.out m q y ⟨E.out, by rw [E1.out]; first | rw [e0, e1] | rw [← e0, ← e1]⟩
          rw [HJK.out, h1, h2])
        clear e0 e1
        go_wp2
        go_ret2
        exact ⟨by rw [HN.out]; rfl, HB0.trans ((hbj.alloc hbj.size _).mono HB0.size)⟩
      · have hmj' : m + 1 ≤ j := by
          have h1 : m ≠ j := fun e => by have := HQ.out e; have := HK.out e; omega
          omega
        go_wp2
        go_roundw
        case rel => exact ⟨m + 1, hmj', by go_num, hbj⟩
        case measure => simp [intOf]; omega
set_option maxRecDepth 100000 in
set_option maxHeartbeats 4000000 in
theorem implAt {ok : Nat → Prop} (n : Net) (A0 A1 : Option Addr) (c0 c1 : Nat) (e : End) (w : World) (h : NC 177 w ok n A0 A1) (hg : Hid (Good n)) (he : Hid (endP n.pieces.length e)) :
    Calls Tryz.prog 113 #[.agg #[.slice A0 n.pieces.length c0, .slice A1 n.joints.length c1], e.v] w (RetAt (atJ n e) w) := by
  obtain ⟨j, k, x, hat, hjk, hx, _, hjl, hkl⟩ := at_get hg.out he.out
  obtain ⟨p, s⟩ := e
  have HJK := Lib.hid hjk
  have HAT := Lib.hid hat
  have hmj := h.j.1
  have hjle := hg.out.jle
  have UN : Hid (∀ j' k' x', At n ⟨p, s⟩ j' k' x' → j' = j ∧ k' = k) := Lib.hid (fun j' k' x' h' => by obtain ⟨h1, h2, _⟩ := at_one (hg.out.one _ he.out) hat h'; exact ⟨h1, h2⟩)
  have HKL : Hid (∀ y, n.joints[j]? = some y → k < y.ends.length) := Lib.hid (fun y hy => by have := hat.1.symm.trans hy; obtain rfl := Option.some.inj this; exact hkl)
  clear hat hjk hx hkl
  go_enter Tryz.func113, Tryz.ntmps113
  go_wp2
  obtain ⟨W0, hW, HB0, h0, h1, f0, f1⟩ : ∃ W, W = (w.alloc (.cells #[.slice A0 n.pieces.length c0, .slice A1 n.joints.length c1] 35)).alloc (.cells #[.int .i64 p, .int .i64 s] 177) ∧ Below w.heap.size w W ∧ w.heap.size < W.heap.size ∧ w.heap.size + 1 < W.heap.size ∧
    W.cell? ⟨w.heap.size + 1, 0, none⟩ = some (.int .i64 p) ∧ W.cell? ⟨w.heap.size + 1, 1, none⟩ = some (.int .i64 s) := ⟨_, rfl, (below_alloc _ _).alloc (by simp) _, by simp; omega, by simp, by simp, by simp⟩
  rw [← hW]
  clear hW
  go_loopw [13] (fun i wr => ∃ m : Nat, m ≤ j ∧ i = .int .i64 m ∧ Below W0.heap.size W0 wr) (fun i _ => j - (intOf i).toNat)
  case atStart => exact ⟨0, Nat.zero_le _, rfl, Below.refl _ _⟩
  case round =>
    obtain ⟨m, hm, rfl, hb⟩ := hrel
    obtain ⟨wo, rfl⟩ : ∃ wo : World, wo = wr := ⟨_, rfl⟩
    have hbw := HB0.trans (hb.mono HB0.size)
    obtain ⟨a1, rfl, y, E, A2, c2, g0, g1, g2, l2, q2⟩ := jointK_at (Kn.C_below hbw h.j) m (by omega)
    have i0 : (0 : Int) ≤ (m : Int) := Int.natCast_nonneg _
    have i1 : (m : Int) < (n.joints.length : Int) := by omega
    have hm2 := q2.1
    have HK : Hid (m = j → k < y.ends.length) := Lib.hid (fun e => HKL.out y (by subst e; exact E.out))
    go_wp2
    obtain ⟨W1, hW, HB1, h2, h3, k0, k1⟩ : ∃ W, W = wo.alloc (.cells #[.int .i64 y.kind, .string y.name, .slice A2 y.ends.length c2] 75) ∧ Below wo.heap.size wo W ∧ w.heap.size + 1 < W.heap.size ∧ wo.heap.size < W.heap.size ∧
      W.cell? ⟨w.heap.size + 1, 0, none⟩ = some (.int .i64 p) ∧ W.cell? ⟨w.heap.size + 1, 1, none⟩ = some (.int .i64 s) := ⟨_, rfl, below_alloc _ _, by have := hb.size; simp; omega, by simp, cell_below (below_alloc _ _) (cell_below hb f0), cell_below (below_alloc _ _) (cell_below hb f1)⟩
    rw [← hW]
    clear hW
    have hb1 := hb.trans (HB1.mono hb.size)
    go_loopw [21] (fun i wr => ∃ q : Nat, q ≤ y.ends.length ∧ i = .int .i64 q ∧ Hid (m = j → q ≤ k) ∧ Below W1.heap.size W1 wr) (fun i _ => y.ends.length - (intOf i).toNat)
    case atStart => exact ⟨0, Nat.zero_le _, rfl, Lib.hid (fun _ => Nat.zero_le _), Below.refl _ _⟩
    case round =>
      obtain ⟨q, hq, rfl, HQ, hbi⟩ := hrel
      have hbj := hb1.trans (hbi.mono hb1.size)
      have t0 := cell_below hbi k0
      have t1 := cell_below hbi k1
      have hs : w.heap.size + 1 < wr.heap.size := by have := hbi.size; omega
      by_cases hlq : q < y.ends.length
      · obtain ⟨a2, rfl, y0, y1, E1, g3, g4⟩ := endK_at (Kn.C_below (HB1.trans (hbi.mono HB1.size)) q2) q hlq
        have j0 : (0 : Int) ≤ (q : Int) := Int.natCast_nonneg _
        have j1 : (q : Int) < (y.ends.length : Int) := by omega
        by_cases e0 : p = y0
        rotate_left
        · have d0 : (p == y0) = false := int_eqf e0
          have HQ2 : Hid (m = j → q + 1 ≤ k) := Lib.hid (fun e => by
            have h1 := HQ.out e
            by_cases h2 : q = k
            · subst e h2
              have h3 := HAT.out.1.symm.trans E.out
              obtain rfl := Option.some.inj h3
              have h4 := HAT.out.2.symm.trans E1.out
              injection h4 with h4
              injection h4 with h4 h5
              exact (e0 (by first | exact h4 | exact h4.symm)).elim
            · omega)
          clear e0
          go_wp2
          go_roundw
          case rel => exact ⟨q + 1, by omega, by go_num, HQ2, hbi.alloc hbi.size _⟩
          case measure => simp [intOf]; omega
        have d0 : (p == y0) = true := int_eqt e0
        by_cases e1 : s = y1
        rotate_left
        · have d1 : (s == y1) = false := int_eqf e1
          have HQ2 : Hid (m = j → q + 1 ≤ k) := Lib.hid (fun e => by
            have h1 := HQ.out e
            by_cases h2 : q = k
            · subst e h2
              have h3 := HAT.out.1.symm.trans E.out
              obtain rfl := Option.some.inj h3
              have h4 := HAT.out.2.symm.trans E1.out
              injection h4 with h4
              injection h4 with h4 h5
              exact (e1 (by first | exact h5 | exact h5.symm)).elim
            · omega)
          clear e0 e1
          go_wp2
          go_roundw
          case rel => exact ⟨q + 1, by omega, by go_num, HQ2, hbi.alloc hbi.size _⟩
          case measure => simp [intOf]; omega
        have d1 : (s == y1) = true := int_eqt e1
        have HN : Hid (atJ n ⟨p, s⟩ = (m, q)) := Lib.hid (by
          obtain ⟨h1, h2⟩ := UN.out m q y ⟨E.out, by rw [E1.out]; first | rw [e0, e1] | rw [← e0, ← e1]⟩
          rw [HJK.out, h1, h2])
        clear e0 e1
        go_wp2
        go_ret2
        exact ⟨by rw [HN.out]; rfl, HB0.trans ((hbj.alloc hbj.size _).mono HB0.size)⟩
      · have hmj' : m + 1 ≤ j := by
          have h1 : m ≠ j := fun e => by have := HQ.out e; have := HK.out e; omega
          omega
        go_wp2
        go_roundw
        case rel => exact ⟨m + 1, hmj', by go_num, hbj⟩
        case measure => simp [intOf]; omega
end Go.Proofs.YtpggopdojhodaaaGreatDoor.L
namespace Go.Proofs.YtpggopdojhodaaaGreatDoor.L
open Go.RowKit
set_option linter.unusedVariables false
set_option linter.unusedSimpArgs false
def atOf (n : Net) (p way far : Int) : Int := if way = 1 then far else pl n p - far
theorem pl_get {n : Net} {u : Nat} {z : Piece} (h : n.pieces[u]? = some z) : pl n (u : Int) = z.len := by
  unfold pl
  rw [Int.toNat_natCast, h]
  rfl
theorem specHead (p way : Int) (w : World) : Calls Tryz.prog 100 #[.int .i64 p, .int .i64 way] w (RetV (headE p way).v w) := by
  by_cases h : way = 1
  · have hv : headE p way = ⟨p, 1⟩ := by unfold headE; rw [if_pos h]
    have d : (way == 1) = true := int_eqt h
    rw [hv]
    clear h hv
    go_enter Tryz.func100, Tryz.ntmps100
    go_wp2
    exact bodyPost_ret (v := .agg #[.int .i64 p, .int .i64 1]) (by simp [results, Tryz.results100, go_sem]) rfl ⟨rfl, below_alloc _ _⟩
  · have hv : headE p way = ⟨p, 0⟩ := by unfold headE; rw [if_neg h]
    have d : (way == 1) = false := int_eqf h
    rw [hv]
    clear h hv
    go_enter Tryz.func100, Tryz.ntmps100
    go_wp2
    exact bodyPost_ret (v := .agg #[.int .i64 p, .int .i64 0]) (by simp [results, Tryz.results100, go_sem]) rfl ⟨rfl, below_alloc _ _⟩
theorem implLooked (p way : Int) (w : World) : Calls Tryz.prog 112 #[.int .i64 p, .int .i64 way] w (RetV (headE p way).v w) := by
  by_cases h : way = 1
  · have hv : headE p way = ⟨p, 1⟩ := by unfold headE; rw [if_pos h]
    have d : (way == 1) = true := int_eqt h
    rw [hv]
    clear h hv
    go_enter Tryz.func112, Tryz.ntmps112
    go_wp2
    exact bodyPost_ret (v := .agg #[.int .i64 p, .int .i64 1]) (by simp [results, Tryz.results112, go_sem]) rfl ⟨rfl, below_alloc _ _⟩
  · have hv : headE p way = ⟨p, 0⟩ := by unfold headE; rw [if_neg h]
    have d : (way == 1) = false := int_eqf h
    rw [hv]
    clear h hv
    go_enter Tryz.func112, Tryz.ntmps112
    go_wp2
    exact bodyPost_ret (v := .agg #[.int .i64 p, .int .i64 0]) (by simp [results, Tryz.results112, go_sem]) rfl ⟨rfl, below_alloc _ _⟩
set_option maxHeartbeats 1000000 in
theorem specFar {ok : Nat → Prop} (n : Net) (v1 : Value) (A0 : Option Addr) (c0 u : Nat) (a way : Int) (w : World) (h : pieceK.C w ok A0 n.pieces) (hg : Hid (Good n)) (hu : u < n.pieces.length) (ha : 0 ≤ a ∧ a ≤ 10000000) :
    Calls Tryz.prog 68 #[.agg #[.slice A0 n.pieces.length c0, v1], .int .i64 u, .int .i64 a, .int .i64 way] w (RetI (farOf n u a way) w) := by
  have hm := h.1
  obtain ⟨a1, a2⟩ := ha
  obtain ⟨ad, rfl, z0, z1, z2, z3, E, g0, g1, g2, g3⟩ := pieceK_at (Kn.C_below (below_alloc w (.cells #[.slice A0 n.pieces.length c0, v1] 35)) h) u hu
  have j0 : (0 : Int) ≤ (u : Int) := Int.natCast_nonneg _
  have j1 : (u : Int) < (n.pieces.length : Int) := by omega
  have HP := Lib.hid (pl_get E.out)
  obtain ⟨b1, b2⟩ : 1 ≤ z1 ∧ z1 ≤ 10000000 := by have := hg.out.piece _ (mem_of_get E.out); exact ⟨this.2.1, this.2.2.1⟩
  by_cases hw : way = 1
  · have hv : Hid (farOf n u a way = a) := Lib.hid (by unfold farOf; rw [if_pos hw])
    have d : (way == 1) = true := int_eqt hw
    clear hw
    go_enter Tryz.func68, Tryz.ntmps68
    go_wp2
    go_ret
    exact ⟨by rw [hv.out]; rfl, below_alloc _ _⟩
  · have hv : Hid (farOf n u a way = z1 - a) := Lib.hid (by unfold farOf; rw [if_neg hw, HP.out])
    have d : (way == 1) = false := int_eqf hw
    clear hw
    go_enter Tryz.func68, Tryz.ntmps68
    go_wp2
    go_ret
    exact ⟨by rw [hv.out]; rfl, below_alloc _ _⟩
set_option maxHeartbeats 1000000 in
theorem specPart {ok : Nat → Prop} (n : Net) (v1 : Value) (A0 : Option Addr) (c0 u : Nat) (way a b : Int) (w : World) (h : pieceK.C w ok A0 n.pieces) (hg : Hid (Good n)) (hu : u < n.pieces.length) (hway : way = 1 ∨ way = -1) (ha : 0 ≤ a ∧ a ≤ 10000000) (hb : 0 ≤ b ∧ b ≤ 10000000) :
    Calls Tryz.prog 96 #[.agg #[.slice A0 n.pieces.length c0, v1], .int .i64 u, .int .i64 way, .int .i64 a, .int .i64 b] w (RetV (partN n u way a b).v w) := by
  have hm := h.1
  obtain ⟨a1, a2⟩ := ha
  obtain ⟨b1, b2⟩ := hb
  rcases hway with rfl | rfl
  · have hv : partN n u 1 a b = ⟨u, a, b⟩ := rfl
    rw [hv]
    clear hv
    go_enter Tryz.func96, Tryz.ntmps96
    go_wp2
    exact bodyPost_ret (v := .agg #[.int .i64 u, .int .i64 a, .int .i64 b]) (by simp [results, Tryz.results96, go_sem]) rfl ⟨rfl, (below_alloc _ _).alloc (by simp) _⟩
  · obtain ⟨ad, rfl, z0, z1, z2, z3, E, g0, g1, g2, g3⟩ := pieceK_at (Kn.C_below ((below_alloc w (.cells #[.slice A0 n.pieces.length c0, v1] 35)).alloc (by simp) (.cells #[.int .i64 0, .int .i64 0, .int .i64 0] 146)) h) u hu
    have j0 : (0 : Int) ≤ (u : Int) := Int.natCast_nonneg _
    have j1 : (u : Int) < (n.pieces.length : Int) := by omega
    obtain ⟨x1, x2⟩ : 1 ≤ z1 ∧ z1 ≤ 10000000 := by have := hg.out.piece _ (mem_of_get E.out); exact ⟨this.2.1, this.2.2.1⟩
    have hv : partN n u (-1) a b = ⟨u, z1 - b, z1 - a⟩ := by unfold partN; rw [if_neg (by decide), pl_get E.out]
    rw [hv]
    clear hv
    go_enter Tryz.func96, Tryz.ntmps96
    go_wp2
    exact bodyPost_ret (v := .agg #[.int .i64 u, .int .i64 (z1 - b), .int .i64 (z1 - a)]) (by simp [results, Tryz.results96, go_sem]) rfl ⟨rfl, (below_alloc _ _).alloc (by simp) _⟩
theorem implPartOf (p a b : Int) (w : World) : Calls Tryz.prog 110 #[.int .i64 p, .int .i64 a, .int .i64 b] w (RetV (Part.v ⟨p, min a b, max a b⟩) w) := by
  rcases Int.lt_trichotomy a b with h | h | h
  · have h1 : min a b = a := by omega
    have h2 : max a b = b := by omega
    rw [h1, h2]
    clear h1 h2
    have d1 : decide (a < b) = true := decide_eq_true h
    have d2 : decide (b < a) = false := decide_eq_false (by omega)
    go_enter Tryz.func110, Tryz.ntmps110
    go_wp2
    exact bodyPost_ret (v := .agg #[.int .i64 p, .int .i64 a, .int .i64 b]) (by simp [results, Tryz.results110, go_sem]) rfl ⟨rfl, below_alloc _ _⟩
  · subst h
    have h1 : min a a = a := by omega
    have h2 : max a a = a := by omega
    rw [h1, h2]
    clear h1 h2
    go_enter Tryz.func110, Tryz.ntmps110
    go_wp2
    exact bodyPost_ret (v := .agg #[.int .i64 p, .int .i64 a, .int .i64 a]) (by simp [results, Tryz.results110, go_sem]) rfl ⟨rfl, below_alloc _ _⟩
  · have h1 : min a b = b := by omega
    have h2 : max a b = a := by omega
    rw [h1, h2]
    clear h1 h2
    have d1 : decide (a < b) = false := decide_eq_false (by omega)
    have d2 : decide (b < a) = true := decide_eq_true h
    go_enter Tryz.func110, Tryz.ntmps110
    go_wp2
    exact bodyPost_ret (v := .agg #[.int .i64 p, .int .i64 b, .int .i64 a]) (by simp [results, Tryz.results110, go_sem]) rfl ⟨rfl, below_alloc _ _⟩
set_option maxHeartbeats 1000000 in
theorem implEnter {ok : Nat → Prop} (n : Net) (v1 : Value) (A0 : Option Addr) (c0 : Nat) (e : End) (w : World) (h : pieceK.C w ok A0 n.pieces) (hg : Hid (Good n)) (he : endP n.pieces.length e) :
    Calls Tryz.prog 119 #[.agg #[.slice A0 n.pieces.length c0, v1], e.v] w (RetV (.agg #[.int .i64 e.piece, .int .i64 (atOf n e.piece (wayOf e) 0), .int .i64 (wayOf e)]) w) := by
  have hm := h.1
  obtain ⟨p, s⟩ := e
  obtain ⟨⟨h0, h1⟩, h2, h3⟩ := he
  simp only at h0 h1 h2 h3
  rcases (show s = 0 ∨ s = 1 by omega) with rfl | rfl
  · have hv : atOf n p (wayOf ⟨p, 0⟩) 0 = 0 := rfl
    have hw : wayOf ⟨p, 0⟩ = 1 := rfl
    rw [hv, hw]
    clear hv hw
    go_enter Tryz.func119, Tryz.ntmps119
    go_wp2
    exact bodyPost_ret (v := .agg #[.int .i64 p, .int .i64 0, .int .i64 1]) (by simp [results, Tryz.results119, go_sem]) rfl ⟨rfl, ((below_alloc _ _).alloc (by simp) _).alloc (by simp; omega) _⟩
  · obtain ⟨u, rfl⟩ : ∃ u : Nat, p = u := ⟨p.toNat, by omega⟩
    obtain ⟨W0, hW, HB, k0, k1, k2, k3, k4, k5, k6⟩ : ∃ W, W = ((w.alloc (.cells #[.slice A0 n.pieces.length c0, v1] 35)).alloc (.cells #[.int .i64 u, .int .i64 1] 177)).alloc (.cells #[.int .i64 0, .int .i64 0, .int .i64 0] 156) ∧ Below w.heap.size w W ∧
      W.cell? ⟨w.heap.size, 0, none⟩ = some (.slice A0 n.pieces.length c0) ∧ W.cell? ⟨w.heap.size + 1, 0, none⟩ = some (.int .i64 u) ∧ W.cell? ⟨w.heap.size + 1, 1, none⟩ = some (.int .i64 1) ∧ Blk W (w.heap.size + 2) 156 [.int .i64 0, .int .i64 0, .int .i64 0] ∧ w.heap.size < W.heap.size ∧ w.heap.size + 1 < W.heap.size ∧ w.heap.size + 2 < W.heap.size :=
      ⟨_, rfl, ((below_alloc _ _).alloc (by simp) _).alloc (by simp; omega) _, (((Blk.new w 35 [.slice A0 n.pieces.length c0, v1] rfl).alloc _).alloc _).cell 0 rfl, ((Blk.new _ 177 [.int .i64 u, .int .i64 1] (by simp)).alloc _).cell 0 rfl, ((Blk.new _ 177 [.int .i64 u, .int .i64 1] (by simp)).alloc _).cell 1 rfl, Blk.new _ _ _ (by simp), by simp; omega, by simp, by simp⟩
    obtain ⟨ad, rfl, z0, z1, z2, z3, E, g0, g1, g2, g3⟩ := pieceK_at (Kn.C_below HB h) u (by omega)
    have j0 : (0 : Int) ≤ (u : Int) := Int.natCast_nonneg _
    have j1 : (u : Int) < (n.pieces.length : Int) := by omega
    have hw : wayOf ⟨(u : Int), 1⟩ = -1 := rfl
    have hv : atOf n u (-1) 0 = z1 := by unfold atOf; rw [if_neg (by decide), pl_get E.out]; show z1 - 0 = z1; omega
    rw [hw, hv]
    have y0 := k3.cell 0 rfl
    have y1 := k3.cell 1 rfl
    have y2 := k3.cell 2 rfl
    have x0 := k3.frozen 0
    have x1 := k3.frozen 1
    have x2 := k3.frozen 2
    clear hv hw k3
    go_enter Tryz.func119, Tryz.ntmps119
    go_wp2
    rw [← hW]
    clear hW
    go_region
    all_goals (try go_wp2)
    all_goals exact bodyPost_ret (v := .agg #[.int .i64 u, .int .i64 z1, .int .i64 (-1)]) (by simp [results, Tryz.results119, go_sem, y0, y1, y2]) rfl ⟨rfl, by repeat' first | exact HB | (refine Below.drew ?_) | (refine below_drewN ?_ _) | (refine Below.setCell ?_ (by simp; try omega) _)⟩
end Go.Proofs.YtpggopdojhodaaaGreatDoor.L
namespace Go.Proofs.YtpggopdojhodaaaGreatDoor.L
open Go.RowKit
set_option linter.unusedVariables false
set_option linter.unusedSimpArgs false
def RetC {α : Type} (d : Kn α) (xs : List α) (w : World) (en : Ending) (w' : World) : Prop := ∃ A c, en = .returned (.slice A xs.length c) ∧ xs.length ≤ c ∧ d.C w' (fun b => w.heap.size ≤ b) A xs ∧ Below w.heap.size w w'
theorem endC_one {w : World} {ok : Nat → Prop} {g : Nat} (hok : ok g) (hg : g < w.heap.size) {a : End} (h0 : w.cell? ⟨g, 0, none⟩ = some (.int .i64 a.piece)) (h1 : w.cell? ⟨g, 1, none⟩ = some (.int .i64 a.side)) : endK.C w ok (some ⟨g, 0, none⟩) [a] :=
  ⟨by simp, fun _ => ⟨_, rfl, hok, hg, fun j x hj => by
    obtain ⟨h2, h3⟩ := List.getElem?_eq_some_iff.1 hj
    simp only [List.length_singleton] at h2
    obtain rfl : j = 0 := by omega
    simp only [List.getElem_cons_zero] at h3
    subst h3
    refine ⟨a.cs, endK_mk _ _ _, fun i u hu => ?_⟩
    rw [add_zero, Nat.zero_mul, Nat.zero_add]
    match i, hu with
    | 0, hu => simp at hu; subst hu; exact h0
    | 1, hu => simp at hu; subst hu; exact h1⟩⟩
theorem endC_two {w : World} {ok : Nat → Prop} {g : Nat} (hok : ok g) (hg : g < w.heap.size) {a b : End} (h0 : w.cell? ⟨g, 0, none⟩ = some (.int .i64 a.piece)) (h1 : w.cell? ⟨g, 1, none⟩ = some (.int .i64 a.side)) (h2 : w.cell? ⟨g, 2, none⟩ = some (.int .i64 b.piece)) (h3 : w.cell? ⟨g, 3, none⟩ = some (.int .i64 b.side)) : endK.C w ok (some ⟨g, 0, none⟩) [a, b] :=
  ⟨by simp, fun _ => ⟨_, rfl, hok, hg, fun j x hj => by
    have hl := (List.getElem?_eq_some_iff.1 hj).1
    simp only [List.length_cons, List.length_nil] at hl
    match j, hj with
    | 0, hj =>
      simp at hj
      subst hj
      refine ⟨a.cs, endK_mk _ _ _, fun i u hu => ?_⟩
      rw [add_zero, Nat.zero_mul, Nat.zero_add]
      match i, hu with
      | 0, hu => simp at hu; subst hu; exact h0
      | 1, hu => simp at hu; subst hu; exact h1
    | 1, hj =>
      simp at hj
      subst hj
      refine ⟨b.cs, endK_mk _ _ _, fun i u hu => ?_⟩
      rw [add_zero]
      match i, hu with
      | 0, hu => simp at hu; subst hu; exact h2
      | 1, hu => simp at hu; subst hu; exact h3⟩⟩
theorem endC_blk {w : World} {ok : Nat → Prop} {g t : Nat} {a : End} (h : Blk w g t [.int .i64 a.piece, .int .i64 a.side]) (hok : ok g) : endK.C w ok (some ⟨g, 0, none⟩) [a] := endC_one hok h.lt (h.cell 0 rfl) (h.cell 1 rfl)
theorem Blk_drew {w : World} {g t : Nat} {cs : List Value} (h : Blk w g t cs) : Blk w.drew g t cs := h
theorem size_alloc (w : World) (o : Obj) : (w.alloc o).heap.size = w.heap.size + 1 := by
  unfold World.alloc
  rw [Array.size_push]
theorem en_at {w : World} {ok : Nat → Prop} {A : Option Addr} {x : Joint} (h : endK.C w ok A x.ends) {k : Nat} (hk : k < x.ends.length) : ∃ ad, A = some ad ∧ w.cell? (ad.add (k * 2)) = some (.int .i64 (en x k).piece) ∧ w.cell? ⟨(ad.add (k * 2)).block, (ad.add (k * 2)).off + 1, none⟩ = some (.int .i64 (en x k).side) := by
  obtain ⟨ad, e, y0, y1, E, g0, g1⟩ := endK_at h k hk
  have := (en_get hk).symm.trans E.out
  injection this with this
  refine ⟨ad, e, ?_, ?_⟩
  · rw [this]
    exact g0
  · rw [this]
    exact g1
theorem add_pos (a : Addr) {m : Nat} (h : 0 < m) : a.add m = ⟨a.block, a.off + m, none⟩ := by unfold Addr.add; rw [if_neg (by omega)]
theorem en_pos {w : World} {ok : Nat → Prop} {A : Option Addr} {x : Joint} (h : endK.C w ok A x.ends) {k m : Nat} (hk : k < x.ends.length) (h0 : 0 < k) (hm : m = k * 2) : ∃ ad, A = some ad ∧ w.cell? ⟨ad.block, ad.off + m, none⟩ = some (.int .i64 (en x k).piece) ∧ w.cell? ⟨ad.block, ad.off + m + 1, none⟩ = some (.int .i64 (en x k).side) := by
  subst hm
  obtain ⟨ad, e, g0, g1⟩ := en_at h hk
  rw [add_pos _ (by omega)] at g0 g1
  exact ⟨ad, e, g0, g1⟩
theorem en_zero {w : World} {ok : Nat → Prop} {A : Option Addr} {x : Joint} (h : endK.C w ok A x.ends) (hk : 0 < x.ends.length) : ∃ ad, A = some ad ∧ w.cell? ad = some (.int .i64 (en x 0).piece) ∧ w.cell? ⟨ad.block, ad.off + 1, none⟩ = some (.int .i64 (en x 0).side) := by
  obtain ⟨ad, e, g0, g1⟩ := en_at h hk
  have h0 : ad.add (0 * 2) = ad := by unfold Addr.add; simp
  rw [h0] at g0 g1
  exact ⟨ad, e, g0, g1⟩
set_option maxRecDepth 100000 in
set_option maxHeartbeats 8000000 in
theorem specAcross {ok : Nat → Prop} (x : Joint) (A2 : Option Addr) (c2 k m : Nat) (w : World) (h : endK.C w ok A2 x.ends) (hx : jointP m x) (hk : k < x.ends.length) :
    Calls Tryz.prog 101 #[.agg #[.int .i64 x.kind, .string x.name, .slice A2 x.ends.length c2], .int .i64 k] w (RetC endK (across x k) w) := by
  have hm := h.1
  obtain ⟨⟨x1, x2⟩, x3, _⟩ := hx
  have HC := Lib.hid (Kn.C_below (below_alloc w (.cells #[.int .i64 x.kind, .string x.name, .slice A2 x.ends.length c2] 75)) h)
  rcases (show x.kind = 1 ∨ x.kind = 2 ∨ x.kind = 3 ∨ x.kind = 4 by omega) with e | e | e | e
  · have HA : Hid (across x k = []) := Lib.hid (by unfold across; rw [e]; rfl)
    have d2 : (x.kind == 2) = false := int_eqf (by omega)
    have d3 : (x.kind == 3) = false := int_eqf (by omega)
    have d4 : (x.kind == 4) = false := int_eqf (by omega)
    clear e
    go_enter Tryz.func101, Tryz.ntmps101
    go_wp2
    go_ret
    exact ⟨none, 0, by rw [HA.out]; rfl, by rw [HA.out]; simp, by rw [HA.out]; exact Kn.C_nil, below_alloc _ _⟩
  · have d2 : (x.kind == 2) = true := int_eqt e
    rcases (show k = 0 ∨ k = 1 by omega) with rfl | rfl
    · have HA : Hid (across x 0 = [en x 1]) := Lib.hid (by unfold across; rw [if_pos e])
      obtain ⟨ad, rfl, g0, g1⟩ := en_pos (k := 1) (m := 2) HC.out (by omega) (by omega) rfl
      have l0 : (0 : Int) < (x.ends.length : Int) := by omega
      have l1 : (1 : Int) < (x.ends.length : Int) := by omega
      clear e
      go_enter Tryz.func101, Tryz.ntmps101
      go_wp2
      go_ret
      exact ⟨_, 1, by rw [HA.out]; rfl, by rw [HA.out]; simp, by rw [HA.out]; exact endC_one (by simp) (by simp) (by simp) (by simp), by repeat' first | exact Below.refl _ _ | (refine below_drewN ?_ _) | (refine Below.drew ?_) | (refine Below.alloc ?_ (by simp; try omega) _)⟩
    · have HA : Hid (across x 1 = [en x 0]) := Lib.hid (by unfold across; rw [if_pos e])
      obtain ⟨ad, rfl, g0, g1⟩ := en_zero HC.out (by omega)
      have l0 : (0 : Int) < (x.ends.length : Int) := by omega
      have l1 : (1 : Int) < (x.ends.length : Int) := by omega
      clear e
      go_enter Tryz.func101, Tryz.ntmps101
      go_wp2
      go_ret
      exact ⟨_, 1, by rw [HA.out]; rfl, by rw [HA.out]; simp, by rw [HA.out]; exact endC_one (by simp) (by simp) (by simp) (by simp), by repeat' first | exact Below.refl _ _ | (refine below_drewN ?_ _) | (refine Below.drew ?_) | (refine Below.alloc ?_ (by simp; try omega) _)⟩
  · have d2 : (x.kind == 2) = false := int_eqf (by omega)
    have d3 : (x.kind == 3) = true := int_eqt e
    have l0 : (0 : Int) < (x.ends.length : Int) := by omega
    have l1 : (1 : Int) < (x.ends.length : Int) := by omega
    have l2 : (2 : Int) < (x.ends.length : Int) := by omega
    by_cases h0 : k = 0
    · subst h0
      have HA : Hid (across x 0 = [en x 1, en x 2]) := Lib.hid (by unfold across; rw [if_neg (by omega), if_pos e, if_pos rfl])
      obtain ⟨ad, rfl, g0, g1⟩ := en_pos (k := 1) (m := 2) HC.out (by omega) (by omega) rfl
      obtain ⟨ad', he, g2, g3⟩ := en_pos (k := 2) (m := 4) HC.out (by omega) (by omega) rfl
      obtain rfl := Option.some.inj he
      clear e he
      go_enter Tryz.func101, Tryz.ntmps101
      go_wp2
      go_region
      all_goals (try go_wp2)
      all_goals go_ret
      all_goals exact ⟨_, 2, by rw [HA.out]; rfl, by rw [HA.out]; simp, by rw [HA.out]; exact endC_two (by simp) (by simp) (by simp) (by simp) (by simp) (by simp), by repeat' first | exact Below.refl _ _ | (refine below_drewN ?_ _) | (refine Below.drew ?_) | (refine Below.alloc ?_ (by simp; try omega) _)⟩
    · have HA : Hid (across x k = [en x 0]) := Lib.hid (by unfold across; rw [if_neg (by omega), if_pos e, if_neg h0])
      obtain ⟨ad, rfl, g0, g1⟩ := en_zero HC.out (by omega)
      have d0 : ((k : Int) == 0) = false := int_eqf (by omega)
      clear e h0
      go_enter Tryz.func101, Tryz.ntmps101
      go_wp2
      go_ret
      exact ⟨_, 1, by rw [HA.out]; rfl, by rw [HA.out]; simp, by rw [HA.out]; exact endC_one (by simp) (by simp) (by simp) (by simp), by repeat' first | exact Below.refl _ _ | (refine below_drewN ?_ _) | (refine Below.drew ?_) | (refine Below.alloc ?_ (by simp; try omega) _)⟩
  · have d2 : (x.kind == 2) = false := int_eqf (by omega)
    have d3 : (x.kind == 3) = false := int_eqf (by omega)
    have d4 : (x.kind == 4) = true := int_eqt e
    have l0 : (0 : Int) < (x.ends.length : Int) := by omega
    have l1 : (1 : Int) < (x.ends.length : Int) := by omega
    have l2 : (2 : Int) < (x.ends.length : Int) := by omega
    have l3 : (3 : Int) < (x.ends.length : Int) := by omega
    have HX : Hid (across x k = [en x (xr k)]) := Lib.hid (by unfold across; rw [if_neg (by omega), if_neg (by omega), if_pos e])
    rcases (show k = 0 ∨ k = 1 ∨ k = 2 ∨ k = 3 by omega) with rfl | rfl | rfl | rfl
    · have HA : Hid (across x 0 = [en x 1]) := HX
      obtain ⟨ad, rfl, g0, g1⟩ := en_pos (k := 1) (m := 2) HC.out (by omega) (by omega) rfl
      have gb := World.block_lt_of_cell? _ _ g0
      have gb' : ad.block < w.heap.size + 1 := by simpa using gb
      clear e HX x3 gb
      go_enter Tryz.func101, Tryz.ntmps101
      go_wp2
      go_region
      all_goals (try go_wp2)
      all_goals go_ret
      all_goals (refine ⟨_, 1, by rw [HA.out]; rfl, by rw [HA.out]; simp, ?_, ?_⟩)
      all_goals first | (rw [HA.out]; refine endC_blk (t := 177) (Blk_drew (Blk.new _ _ _ ?_)) ?_; rw [size_alloc, size_alloc]; show w.heap.size ≤ w.heap.size + 1 + 1; omega) | (rw [HA.out]; refine endC_blk (t := 177) (Blk_drew (Blk.new _ _ _ ?_)) ?_; rw [size_alloc]; show w.heap.size ≤ w.heap.size + 1; omega) | (repeat' first | exact Below.refl _ _ | (refine below_drewN ?_ _) | (refine Below.drew ?_) | (refine Below.alloc ?_ (by simp; try omega) _))
    · have HA : Hid (across x 1 = [en x 0]) := HX
      obtain ⟨ad, rfl, g0, g1⟩ := en_zero HC.out (by omega)
      have gb := World.block_lt_of_cell? _ _ g0
      have gb' : ad.block < w.heap.size + 1 := by simpa using gb
      clear e HX x3 gb
      go_enter Tryz.func101, Tryz.ntmps101
      go_wp2
      go_region
      all_goals (try go_wp2)
      all_goals go_ret
      all_goals (refine ⟨_, 1, by rw [HA.out]; rfl, by rw [HA.out]; simp, ?_, ?_⟩)
      all_goals first | (rw [HA.out]; refine endC_blk (t := 177) (Blk_drew (Blk.new _ _ _ ?_)) ?_; rw [size_alloc, size_alloc]; show w.heap.size ≤ w.heap.size + 1 + 1; omega) | (rw [HA.out]; refine endC_blk (t := 177) (Blk_drew (Blk.new _ _ _ ?_)) ?_; rw [size_alloc]; show w.heap.size ≤ w.heap.size + 1; omega) | (repeat' first | exact Below.refl _ _ | (refine below_drewN ?_ _) | (refine Below.drew ?_) | (refine Below.alloc ?_ (by simp; try omega) _))
    · have HA : Hid (across x 2 = [en x 3]) := HX
      obtain ⟨ad, rfl, g0, g1⟩ := en_pos (k := 3) (m := 6) HC.out (by omega) (by omega) rfl
      have gb := World.block_lt_of_cell? _ _ g0
      have gb' : ad.block < w.heap.size + 1 := by simpa using gb
      clear e HX x3 gb
      go_enter Tryz.func101, Tryz.ntmps101
      go_wp2
      go_region
      all_goals (try go_wp2)
      all_goals go_ret
      all_goals (refine ⟨_, 1, by rw [HA.out]; rfl, by rw [HA.out]; simp, ?_, ?_⟩)
      all_goals first | (rw [HA.out]; refine endC_blk (t := 177) (Blk_drew (Blk.new _ _ _ ?_)) ?_; rw [size_alloc, size_alloc]; show w.heap.size ≤ w.heap.size + 1 + 1; omega) | (rw [HA.out]; refine endC_blk (t := 177) (Blk_drew (Blk.new _ _ _ ?_)) ?_; rw [size_alloc]; show w.heap.size ≤ w.heap.size + 1; omega) | (repeat' first | exact Below.refl _ _ | (refine below_drewN ?_ _) | (refine Below.drew ?_) | (refine Below.alloc ?_ (by simp; try omega) _))
    · have HA : Hid (across x 3 = [en x 2]) := HX
      obtain ⟨ad, rfl, g0, g1⟩ := en_pos (k := 2) (m := 4) HC.out (by omega) (by omega) rfl
      have gb := World.block_lt_of_cell? _ _ g0
      have gb' : ad.block < w.heap.size + 1 := by simpa using gb
      clear e HX x3 gb
      go_enter Tryz.func101, Tryz.ntmps101
      go_wp2
      go_region
      all_goals (try go_wp2)
      all_goals go_ret
      all_goals (refine ⟨_, 1, by rw [HA.out]; rfl, by rw [HA.out]; simp, ?_, ?_⟩)
      all_goals first | (rw [HA.out]; refine endC_blk (t := 177) (Blk_drew (Blk.new _ _ _ ?_)) ?_; rw [size_alloc, size_alloc]; show w.heap.size ≤ w.heap.size + 1 + 1; omega) | (rw [HA.out]; refine endC_blk (t := 177) (Blk_drew (Blk.new _ _ _ ?_)) ?_; rw [size_alloc]; show w.heap.size ≤ w.heap.size + 1; omega) | (repeat' first | exact Below.refl _ _ | (refine below_drewN ?_ _) | (refine Below.drew ?_) | (refine Below.alloc ?_ (by simp; try omega) _))
end Go.Proofs.YtpggopdojhodaaaGreatDoor.L
namespace Go.Proofs.YtpggopdojhodaaaGreatDoor.L
open Go.RowKit
set_option linter.unusedVariables false
set_option linter.unusedSimpArgs false
def howOf (x : Joint) (k : Nat) : List Int := if x.kind = 3 then (if k = 0 then [1, 2] else [(k : Int)]) else if x.kind = 1 then [] else [0]
def RetO (xs : List End) (hs : List Int) (w : World) (en : Ending) (w' : World) : Prop := ∃ A c B d, en = .returned (.tuple #[.slice A xs.length c, .slice B hs.length d]) ∧ xs.length ≤ c ∧ endK.C w' (fun b => w.heap.size ≤ b) A xs ∧ Kn.int.C w' (fun b => w.heap.size ≤ b) B hs ∧ Below w.heap.size w w'
theorem intC_one {w : World} {ok : Nat → Prop} {g t : Nat} {v : Int} (h : Blk w g t [.int .i64 v]) (hok : ok g) : Kn.int.C w ok (some ⟨g, 0, none⟩) [v] :=
  ⟨by simp, fun _ => ⟨_, rfl, hok, h.lt, fun j x hj => by
    obtain ⟨h2, h3⟩ := List.getElem?_eq_some_iff.1 hj
    simp only [List.length_singleton] at h2
    obtain rfl : j = 0 := by omega
    simp only [List.getElem_cons_zero] at h3
    subst h3
    refine ⟨[.int .i64 v], rfl, fun i u hu => ?_⟩
    rw [add_zero, Nat.zero_mul, Nat.zero_add]
    exact h.cell i hu⟩⟩
theorem intC_two {w : World} {ok : Nat → Prop} {g t : Nat} {u v : Int} (h : Blk w g t [.int .i64 u, .int .i64 v]) (hok : ok g) : Kn.int.C w ok (some ⟨g, 0, none⟩) [u, v] :=
  ⟨by simp, fun _ => ⟨_, rfl, hok, h.lt, fun j x hj => by
    have hl := (List.getElem?_eq_some_iff.1 hj).1
    simp only [List.length_cons, List.length_nil] at hl
    match j, hj with
    | 0, hj =>
      simp at hj
      subst hj
      refine ⟨[.int .i64 u], rfl, fun i z hz => ?_⟩
      match i, hz with
      | 0, hz => simp at hz; subst hz; exact h.cell 0 rfl
    | 1, hj =>
      simp at hj
      subst hj
      refine ⟨[.int .i64 v], rfl, fun i z hz => ?_⟩
      match i, hz with
      | 0, hz => simp at hz; subst hz; exact h.cell 1 rfl⟩⟩
theorem endC_blk2 {w : World} {ok : Nat → Prop} {g t : Nat} {a b : End} (h : Blk w g t [.int .i64 a.piece, .int .i64 a.side, .int .i64 b.piece, .int .i64 b.side]) (hok : ok g) : endK.C w ok (some ⟨g, 0, none⟩) [a, b] := endC_two hok h.lt (h.cell 0 rfl) (h.cell 1 rfl) (h.cell 2 rfl) (h.cell 3 rfl)
theorem overEnd2 {xs : List End} {hs : List Int} {a b : End} {u v : Int} {w w1 : World} (hx : xs = [a, b]) (hh : hs = [u, v]) (hb : Below w.heap.size w w1) :
    RetO xs hs w (.returned (.tuple #[.slice (some ⟨w1.heap.size, 0, none⟩) 2 2, .slice (some ⟨w1.heap.size + 1, 0, none⟩) 2 2])) ((w1.alloc (.cells #[.int .i64 a.piece, .int .i64 a.side, .int .i64 b.piece, .int .i64 b.side] 177)).alloc (.cells #[.int .i64 u, .int .i64 v] 3)).drew := by
  subst hx hh
  have hs := hb.size
  refine ⟨_, 2, _, 2, rfl, by simp, ?_, ?_, ?_⟩
  · exact endC_blk2 (t := 177) (Blk_drew ((Blk.new _ _ _ rfl).alloc _)) hs
  · exact intC_two (t := 3) (Blk_drew (Blk.new _ _ _ (by rw [size_alloc]))) (by show w.heap.size ≤ w1.heap.size + 1; omega)
  · exact ((hb.alloc hs _).alloc (by rw [size_alloc]; omega) _).drew
theorem overEnd2' {xs : List End} {hs : List Int} {a b : End} {u v : Int} {w w1 : World} (hx : xs = [a, b]) (hh : hs = [u, v]) (hb : Below w.heap.size w w1) :
    RetO xs hs w (.returned (.tuple #[.slice (some ⟨w1.heap.size + 1, 0, none⟩) 2 2, .slice (some ⟨w1.heap.size, 0, none⟩) 2 2])) ((w1.alloc (.cells #[.int .i64 u, .int .i64 v] 3)).alloc (.cells #[.int .i64 a.piece, .int .i64 a.side, .int .i64 b.piece, .int .i64 b.side] 177)).drew := by
  subst hx hh
  have hs := hb.size
  refine ⟨_, 2, _, 2, rfl, by simp, ?_, ?_, ?_⟩
  · exact endC_blk2 (t := 177) (Blk_drew (Blk.new _ _ _ (by rw [size_alloc]))) (by show w.heap.size ≤ w1.heap.size + 1; omega)
  · exact intC_two (t := 3) (Blk_drew ((Blk.new _ _ _ rfl).alloc _)) hs
  · exact ((hb.alloc hs _).alloc (by rw [size_alloc]; omega) _).drew
theorem overEnd1 {xs : List End} {hs : List Int} {a : End} {v : Int} {w w1 : World} (hx : xs = [a]) (hh : hs = [v]) (hb : Below w.heap.size w w1) :
    RetO xs hs w (.returned (.tuple #[.slice (some ⟨w1.heap.size, 0, none⟩) 1 1, .slice (some ⟨w1.heap.size + 1, 0, none⟩) 1 1])) ((w1.alloc (.cells #[.int .i64 a.piece, .int .i64 a.side] 177)).alloc (.cells #[.int .i64 v] 3)) := by
  subst hx hh
  have hs := hb.size
  refine ⟨_, 1, _, 1, rfl, by simp, ?_, ?_, ?_⟩
  · exact endC_blk (t := 177) ((Blk.new _ _ _ rfl).alloc _) hs
  · exact intC_one (t := 3) (Blk.new _ _ _ (by rw [size_alloc])) (by show w.heap.size ≤ w1.heap.size + 1; omega)
  · exact (hb.alloc hs _).alloc (by rw [size_alloc]; omega) _
set_option maxRecDepth 100000 in
set_option maxHeartbeats 8000000 in
theorem implOver {ok : Nat → Prop} (n : Net) (A0 A1 : Option Addr) (c0 c1 : Nat) (e : End) (w : World) (h : NC 177 w ok n A0 A1) (hg : Hid (Good n)) (he : Hid (endP n.pieces.length e)) :
    Calls Tryz.prog 114 #[.agg #[.slice A0 n.pieces.length c0, .slice A1 n.joints.length c1], e.v] w (RetO (across (jt n (atJ n e).1) (atJ n e).2) (howOf (jt n (atJ n e).1) (atJ n e).2) w) := by
  obtain ⟨j, k, x, hat, hjk, hx, hP, hjl, hkl⟩ := at_get hg.out he.out
  have HJK := Lib.hid hjk
  obtain ⟨p, s⟩ := e
  have hgoal : Hid (across (jt n (atJ n ⟨p, s⟩).1) (atJ n ⟨p, s⟩).2 = across x k ∧ howOf (jt n (atJ n ⟨p, s⟩).1) (atJ n ⟨p, s⟩).2 = howOf x k) := Lib.hid (by rw [hjk]; simp only [hx]; exact ⟨trivial, trivial⟩)
  have hmj := h.j.1
  rw [hgoal.out.1, hgoal.out.2]
  clear hgoal hjk hx
  go_enter Tryz.func114, Tryz.ntmps114
  go_wp2_with fail
  obtain ⟨W0, hW, HB0, h0, f0, f1⟩ : ∃ W, W = (w.alloc (.cells #[.slice A0 n.pieces.length c0, .slice A1 n.joints.length c1] 35)).alloc (.cells #[.int .i64 p, .int .i64 s] 177) ∧ Below w.heap.size w W ∧ w.heap.size < W.heap.size ∧
    W.cell? ⟨w.heap.size, 0, none⟩ = some (.slice A0 n.pieces.length c0) ∧ W.cell? ⟨w.heap.size, 1, none⟩ = some (.slice A1 n.joints.length c1) := ⟨_, rfl, (below_alloc _ _).alloc (by simp) _, by simp; omega, by simp, by simp⟩
  rw [← hW]
  clear hW
  refine (implAt n A0 A1 c0 c1 ⟨p, s⟩ _ (h.below HB0) hg he).mono ?_
  rintro e w1 ⟨rfl, hb1⟩
  rw [HJK.out]
  have HBW := HB0.trans (hb1.mono HB0.size)
  have g0 := cell_below hb1 f0
  have g1 := cell_below hb1 f1
  have hs1 : w.heap.size < w1.heap.size := by have := hb1.size; omega
  clear f0 f1 h0
  obtain ⟨a1, rfl, y, E, A2, c2, q0, q1, q2, l2, C2⟩ := jointK_at (Kn.C_below HBW h.j) j hjl
  have hy := hat.1.symm.trans E.out
  injection hy with hy
  subst hy
  have i0 : (0 : Int) ≤ (j : Int) := Int.natCast_nonneg _
  have i1 : (j : Int) < (n.joints.length : Int) := by omega
  have d0 : decide ((j : Int) < 0) = false := decide_eq_false (by omega)
  have hme := C2.1
  clear hat E
  obtain ⟨⟨x1, x2⟩, x3, _⟩ := hP
  rcases (show x.kind = 1 ∨ x.kind = 2 ∨ x.kind = 3 ∨ x.kind = 4 by omega) with e | e | e | e
  · have HA : Hid (across x k = []) := Lib.hid (by unfold across; rw [e]; rfl)
    have HH : Hid (howOf x k = []) := Lib.hid (by unfold howOf; rw [if_neg (by omega), if_pos e])
    have d2 : (x.kind == 2) = false := int_eqf (by omega)
    have d3 : (x.kind == 3) = false := int_eqf (by omega)
    have d4 : (x.kind == 4) = false := int_eqf (by omega)
    clear e x3
    go_wp2
    go_ret2
    exact ⟨none, 0, none, 0, by rw [HA.out, HH.out]; rfl, by rw [HA.out]; simp, by rw [HA.out]; exact Kn.C_nil, by rw [HH.out]; exact Kn.C_nil, HBW⟩
  · have d2 : (x.kind == 2) = true := int_eqt e
    have HH : Hid (howOf x k = [0]) := Lib.hid (by unfold howOf; rw [if_neg (by omega), if_neg (by omega)])
    have l0 : (0 : Int) < (x.ends.length : Int) := by omega
    have l1 : (1 : Int) < (x.ends.length : Int) := by omega
    rcases (show k = 0 ∨ k = 1 by omega) with rfl | rfl
    · have HA : Hid (across x 0 = [en x 1]) := Lib.hid (by unfold across; rw [if_pos e])
      obtain ⟨ad, rfl, u0, u1⟩ := en_pos (k := 1) (m := 2) C2 (by omega) (by omega) rfl
      clear e x3
      go_wp2
      go_ret2
      exact overEnd1 HA.out HH.out HBW
    · have HA : Hid (across x 1 = [en x 0]) := Lib.hid (by unfold across; rw [if_pos e])
      obtain ⟨ad, rfl, u0, u1⟩ := en_zero C2 (by omega)
      clear e x3
      go_wp2
      go_ret2
      exact overEnd1 HA.out HH.out HBW
  · have d2 : (x.kind == 2) = false := int_eqf (by omega)
    have d3 : (x.kind == 3) = true := int_eqt e
    have l0 : (0 : Int) < (x.ends.length : Int) := by omega
    have l1 : (1 : Int) < (x.ends.length : Int) := by omega
    have l2 : (2 : Int) < (x.ends.length : Int) := by omega
    by_cases h0 : k = 0
    · subst h0
      have HA : Hid (across x 0 = [en x 1, en x 2]) := Lib.hid (by unfold across; rw [if_neg (by omega), if_pos e, if_pos rfl])
      have HH : Hid (howOf x 0 = [1, 2]) := Lib.hid (by unfold howOf; rw [if_pos e, if_pos rfl])
      obtain ⟨ad, rfl, u0, u1⟩ := en_pos (k := 1) (m := 2) C2 (by omega) (by omega) rfl
      obtain ⟨ad', he', u2, u3⟩ := en_pos (k := 2) (m := 4) C2 (by omega) (by omega) rfl
      obtain rfl := Option.some.inj he'
      have gb := World.block_lt_of_cell? _ _ u0
      clear e he' x3
      go_wp2
      go_region
      all_goals (try go_wp2)
      all_goals go_ret2
      all_goals first | exact overEnd2 HA.out HH.out HBW | exact overEnd2' HA.out HH.out HBW
    · have HA : Hid (across x k = [en x 0]) := Lib.hid (by unfold across; rw [if_neg (by omega), if_pos e, if_neg h0])
      have HH : Hid (howOf x k = [(k : Int)]) := Lib.hid (by unfold howOf; rw [if_pos e, if_neg h0])
      obtain ⟨ad, rfl, u0, u1⟩ := en_zero C2 (by omega)
      have d5 : ((k : Int) == 0) = false := int_eqf (by omega)
      clear e h0 x3
      go_wp2
      go_ret2
      exact overEnd1 HA.out HH.out HBW
  · have d2 : (x.kind == 2) = false := int_eqf (by omega)
    have d3 : (x.kind == 3) = false := int_eqf (by omega)
    have d4 : (x.kind == 4) = true := int_eqt e
    have l0 : (0 : Int) < (x.ends.length : Int) := by omega
    have l1 : (1 : Int) < (x.ends.length : Int) := by omega
    have l2 : (2 : Int) < (x.ends.length : Int) := by omega
    have l3 : (3 : Int) < (x.ends.length : Int) := by omega
    have HX : Hid (across x k = [en x (xr k)]) := Lib.hid (by unfold across; rw [if_neg (by omega), if_neg (by omega), if_pos e])
    have HH : Hid (howOf x k = [0]) := Lib.hid (by unfold howOf; rw [if_neg (by omega), if_neg (by omega)])
    rcases (show k = 0 ∨ k = 1 ∨ k = 2 ∨ k = 3 by omega) with rfl | rfl | rfl | rfl
    · have HA : Hid (across x 0 = [en x 1]) := HX
      obtain ⟨ad, rfl, u0, u1⟩ := en_pos (k := 1) (m := 2) C2 (by omega) (by omega) rfl
      have hbx : bits BinOp.xor IntKind.i64 0 1 = 1 := by kernel_rfl
      clear e HX x3
      go_wp2
      go_ret2
      exact overEnd1 HA.out HH.out HBW
    · have HA : Hid (across x 1 = [en x 0]) := HX
      obtain ⟨ad, rfl, u0, u1⟩ := en_zero C2 (by omega)
      have hbx : bits BinOp.xor IntKind.i64 1 1 = 0 := by kernel_rfl
      clear e HX x3
      go_wp2
      go_ret2
      exact overEnd1 HA.out HH.out HBW
    · have HA : Hid (across x 2 = [en x 3]) := HX
      obtain ⟨ad, rfl, u0, u1⟩ := en_pos (k := 3) (m := 6) C2 (by omega) (by omega) rfl
      have hbx : bits BinOp.xor IntKind.i64 2 1 = 3 := by kernel_rfl
      clear e HX x3
      go_wp2
      go_ret2
      exact overEnd1 HA.out HH.out HBW
    · have HA : Hid (across x 3 = [en x 2]) := HX
      obtain ⟨ad, rfl, u0, u1⟩ := en_pos (k := 2) (m := 4) C2 (by omega) (by omega) rfl
      have hbx : bits BinOp.xor IntKind.i64 3 1 = 2 := by kernel_rfl
      clear e HX x3
      go_wp2
      go_ret2
      exact overEnd1 HA.out HH.out HBW
end Go.Proofs.YtpggopdojhodaaaGreatDoor.L
namespace Go.Proofs.YtpggopdojhodaaaGreatDoor.L
open Go.RowKit
set_option linter.unusedVariables false
set_option linter.unusedSimpArgs false
theorem int_nef {a b : Int} (h : a = b) : (a != b) = false := by simpa using h
theorem int_net {a b : Int} (h : ¬ a = b) : (a != b) = true := by simpa using h
set_option maxRecDepth 100000 in
set_option maxHeartbeats 8000000 in
theorem specSignal {ok ok' : Nat → Prop} (n : Net) (ss : List Signal) (v1 : Value) (A0 A2 : Option Addr) (c0 c2 u : Nat) (way far : Int) (w : World) (h : pieceK.C w ok A0 n.pieces) (hs : signalK.C w ok' A2 ss) (hr : Hid (Right n ss)) (hu : u < n.pieces.length) (hway : way = 1 ∨ way = -1) (h0 : 0 ≤ far) (h1 : far ≤ 10000000) :
    Calls Tryz.prog 95 #[.agg #[.slice A0 n.pieces.length c0, v1], .slice A2 ss.length c2, .int .i64 u, .int .i64 way, .int .i64 far] w (RetI (onum (firstTo n ss u way far ss.length)) w) := by
  have hm2 := hs.1
  have hm := h.1
  have HG : Hid (Good n) := Lib.hid hr.out.g
  go_enter Tryz.func95, Tryz.ntmps95
  go_wp2
  obtain ⟨W0, hW, HB0, k0, f0, f1⟩ : ∃ W, W = w.alloc (.cells #[.slice A0 n.pieces.length c0, v1] 35) ∧ Below w.heap.size w W ∧ w.heap.size < W.heap.size ∧ W.cell? ⟨w.heap.size, 0, none⟩ = some (.slice A0 n.pieces.length c0) ∧ W.cell? ⟨w.heap.size, 1, none⟩ = some v1 := ⟨_, rfl, below_alloc _ _, by simp, by simp, by simp⟩
  rw [← hW]
  clear hW
  have j0 : (0 : Int) ≤ (u : Int) := Int.natCast_nonneg _
  have j1 : (u : Int) < (n.pieces.length : Int) := by omega
  go_loopw [11, 16] (fun best i wr => ∃ k : Nat, k ≤ ss.length ∧ best = .int .i64 (onum (firstTo n ss u way far k)) ∧ i = .int .i64 k ∧ Below W0.heap.size W0 wr) (fun _ i _ => ss.length - (intOf i).toNat)
  case atStart => exact ⟨0, Nat.zero_le _, rfl, rfl, Below.refl _ _⟩
  case round =>
    obtain ⟨k, hk, rfl, rfl, hb⟩ := hrel
    obtain ⟨wo, rfl⟩ : ∃ wo : World, wo = wr := ⟨_, rfl⟩
    have hbw := HB0.trans (hb.mono HB0.size)
    by_cases hlt : k < ss.length
    rotate_left
    · obtain rfl : k = ss.length := by omega
      go_wp2
      go_ret
      exact ⟨rfl, hbw⟩
    obtain ⟨ad, rfl, y0, y1, y2, y3, E, g0, g1, g2, g3⟩ := signalK_at (Kn.C_below hbw hs) k hlt
    have i0 : (0 : Int) ≤ (k : Int) := Int.natCast_nonneg _
    have i1 : (k : Int) < (ss.length : Int) := by omega
    have HI := Lib.hid (sig_in hr.out E.out)
    have z0 := cell_below hb f0
    have z1 := cell_below hb f1
    have z2 : w.heap.size < wo.heap.size := by have := hb.size; omega
    have hb1 := hb.alloc hb.size (Obj.cells #[.string y0, .int .i64 y1, .int .i64 y2, .int .i64 y3] 70)
    by_cases q1 : y1 = u
    rotate_left
    · have d0 : (y1 != (u : Int)) = true := int_net q1
      have HF : Hid (firstTo n ss u way far (k + 1) = firstTo n ss u way far k) := Lib.hid (firstTo_not E.out (fun e => q1 e.1))
      clear q1
      go_wp2
      go_roundw
      case rel => exact ⟨k + 1, by omega, by rw [HF.out], by go_num, hb1⟩
      case measure => simp [intOf]; omega
    have d0 : (y1 != (u : Int)) = false := int_nef q1
    by_cases q3 : y3 = way
    rotate_left
    · have d1 : (y3 != way) = true := int_net q3
      have HF : Hid (firstTo n ss u way far (k + 1) = firstTo n ss u way far k) := Lib.hid (firstTo_not E.out (fun e => q3 e.2.1))
      clear q1 q3
      go_wp2
      go_roundw
      case rel => exact ⟨k + 1, by omega, by rw [HF.out], by go_num, hb1⟩
      case measure => simp [intOf]; omega
    have d1 : (y3 != way) = false := int_nef q3
    obtain ⟨a1, a2⟩ : 0 ≤ y2 ∧ y2 ≤ 10000000 := by have := HI.out; simp only at this; omega
    have ha : 0 ≤ y2 ∧ y2 ≤ 10000000 := ⟨a1, a2⟩
    obtain ⟨fa, hfa⟩ : ∃ fa, Hid (farOf n u y2 way = fa) := ⟨_, Lib.hid rfl⟩
    obtain ⟨W1, hW1, HB1, k1, k2, p0, p1, p2⟩ : ∃ W, W = wo.alloc (.cells #[.string y0, .int .i64 y1, .int .i64 y2, .int .i64 y3] 70) ∧ Below wo.heap.size wo W ∧ wo.heap.size < W.heap.size ∧ w.heap.size < W.heap.size ∧ W.cell? ⟨w.heap.size, 0, none⟩ = some (.slice A0 n.pieces.length c0) ∧ W.cell? ⟨w.heap.size, 1, none⟩ = some v1 ∧ W.cell? ⟨wo.heap.size, 2, none⟩ = some (.int .i64 y2) :=
      ⟨_, rfl, below_alloc _ _, by simp, by have := hb.size; simp; omega, cell_below (below_alloc _ _) (cell_below hb f0), cell_below (below_alloc _ _) (cell_below hb f1), by simp⟩
    have hbw1 := hbw.trans (HB1.mono hbw.size)
    by_cases q4 : fa ≤ far
    · have d2 : decide (fa ≤ far) = true := decide_eq_true q4
      have HF : Hid (firstTo n ss u way far (k + 1) = firstTo n ss u way far k) := Lib.hid (firstTo_not E.out (fun e => by have := e.2.2; simp only at this; rw [hfa.out] at this; omega))
      clear q1 q3 q4
      go_wp2_with fail
      rw [← hW1]
      clear hW1
      refine (specFar n v1 A0 c0 u y2 way _ (Kn.C_below hbw1 h) HG hu ha).mono ?_
      rintro e w2 ⟨rfl, hb2⟩
      rw [hfa.out]
      go_wp2
      go_roundw
      case rel => exact ⟨k + 1, by omega, by rw [HF.out], by go_num, hb.trans ((HB1.trans (hb2.mono HB1.size)).mono hb.size)⟩
      case measure => simp [intOf]; omega
    have d2 : decide (fa ≤ far) = false := decide_eq_false q4
    have HT : Hid (y1 = u ∧ y3 = way ∧ far < farOf n u y2 way) := Lib.hid ⟨q1, q3, by rw [hfa.out]; omega⟩
    clear q1 q3 q4
    cases hp : firstTo n ss u way far k with
    | none =>
      have HF : Hid (firstTo n ss u way far (k + 1) = some k) := Lib.hid (firstTo_one E.out HT.out hp)
      have HO : Hid (onum (firstTo n ss u way far k) = -1) := Lib.hid (by rw [hp]; rfl)
      clear hp
      rw [onum_none]
      go_wp2_with fail
      rw [← hW1]
      clear hW1
      refine (specFar n v1 A0 c0 u y2 way _ (Kn.C_below hbw1 h) HG hu ha).mono ?_
      rintro e w2 ⟨rfl, hb2⟩
      rw [hfa.out]
      go_wp2
      go_quiet (fail)
      go_wp2
      go_roundw
      case rel => exact ⟨k + 1, by omega, by rw [HF.out]; rfl, by go_num, by repeat' first | exact hb.trans ((HB1.trans (hb2.mono HB1.size)).mono hb.size) | (refine below_drewN ?_ _)⟩
      case measure => simp [intOf]; omega
    | some b =>
      obtain ⟨l1, l2, t, e1, e2, e3, e4⟩ := firstTo_lt hp
      obtain ⟨ad', he', t0, t1, t2, t3, ET, r0, r1, r2, r3⟩ := signalK_at (Kn.C_below hbw1 hs) b l2
      obtain rfl := Option.some.inj he'
      have HJ := Lib.hid (sig_in hr.out ET.out)
      have b0 : (0 : Int) ≤ (b : Int) := Int.natCast_nonneg _
      have b1 : (b : Int) < (ss.length : Int) := by omega
      have d5 : decide ((b : Int) < 0) = false := decide_eq_false (by omega)
      have htp : t1 = u := by have := e1.symm.trans ET.out; injection this with this; rw [this] at e2; exact e2
      have hta : 0 ≤ t2 ∧ t2 ≤ 10000000 := by have := HJ.out; simp only at this; omega
      obtain ⟨fb, hfb⟩ : ∃ fb, Hid (farOf n u t2 way = fb) := ⟨_, Lib.hid rfl⟩
      have HP := Lib.hid hp
      clear hp he' htp e1 e2 e3 e4 r0 r1 r3
      rw [onum_some]
      go_wp2_with fail
      rw [← hW1]
      clear hW1
      refine (specFar n v1 A0 c0 u y2 way _ (Kn.C_below hbw1 h) HG hu ha).mono ?_
      rintro e w2 ⟨rfl, hb2⟩
      rw [hfa.out]
      have s0 := cell_below hb2 p0
      have s1 := cell_below hb2 p1
      have s2 := cell_below hb2 p2
      have s3 := cell_below hb2 r2
      have HC2 := Lib.hid (Kn.C_below (hbw1.trans (hb2.mono hbw1.size)) h)
      have hbz := hb.trans ((HB1.trans (hb2.mono HB1.size)).mono hb.size)
      have hz : wo.heap.size < w2.heap.size := by have := hb2.size; omega
      have hz2 : w.heap.size < w2.heap.size := by have := hb2.size; omega
      clear p0 p1 p2 r2 hb2 HB1 hbw1 hb1
      by_cases q5 : fa < fb
      · have d6 : decide (fa < fb) = true := decide_eq_true q5
        have HF : Hid (firstTo n ss u way far (k + 1) = some k) := Lib.hid (firstTo_new E.out HT.out HP.out ET.out (by rw [hfa.out, hfb.out]; exact q5))
        clear q5
        go_wp2
        go_region_held3 (fun w' => Below w2.heap.size w2 w' ∧ w'.cell? ⟨w.heap.size, 0, none⟩ = some (.slice A0 n.pieces.length c0) ∧ w'.cell? ⟨w.heap.size, 1, none⟩ = some v1 ∧ w'.cell? ⟨wo.heap.size, 2, none⟩ = some (.int .i64 y2) ∧ w'.cell? ⟨(ad.add (b * 4)).block, (ad.add (b * 4)).off + 2, none⟩ = some (.int .i64 t2))
          (first | exact ⟨(Below.refl _ _).drew, s0, s1, s2, s3⟩ | exact ⟨hbS.trans (hbc.mono hbS.size), cell_below (hbS.trans (hbc.mono hbS.size)) s0, cell_below (hbS.trans (hbc.mono hbS.size)) s1, cell_below (hbS.trans (hbc.mono hbS.size)) s2, cell_below (hbS.trans (hbc.mono hbS.size)) s3⟩)
          (first | (go_at_call 68; obtain ⟨hbS, _⟩ := ‹Below w2.heap.size w2 _ ∧ _›; (with_reducible refine (specFar n v1 A0 c0 u _ way _ (Kn.C_below hbS HC2.out) HG hu (by assumption)).mono ?_); rintro e w1 ⟨rfl, hbc⟩; first | rw [hfa.out] | rw [hfb.out]))
        all_goals obtain ⟨hbF, _⟩ := ‹Below w2.heap.size w2 _ ∧ _›
        all_goals go_wp2
        all_goals go_roundw
        all_goals first | exact ⟨k + 1, by omega, by rw [HF.out]; rfl, by go_num, hbz.trans (hbF.mono hbz.size)⟩ | (simp [intOf]; omega)
      · have d6 : decide (fa < fb) = false := decide_eq_false q5
        have HF : Hid (firstTo n ss u way far (k + 1) = some b) := Lib.hid (firstTo_old E.out HP.out ET.out (by rw [hfa.out, hfb.out]; exact q5))
        clear q5
        go_wp2
        go_region_held3 (fun w' => Below w2.heap.size w2 w' ∧ w'.cell? ⟨w.heap.size, 0, none⟩ = some (.slice A0 n.pieces.length c0) ∧ w'.cell? ⟨w.heap.size, 1, none⟩ = some v1 ∧ w'.cell? ⟨wo.heap.size, 2, none⟩ = some (.int .i64 y2) ∧ w'.cell? ⟨(ad.add (b * 4)).block, (ad.add (b * 4)).off + 2, none⟩ = some (.int .i64 t2))
          (first | exact ⟨(Below.refl _ _).drew, s0, s1, s2, s3⟩ | exact ⟨hbS.trans (hbc.mono hbS.size), cell_below (hbS.trans (hbc.mono hbS.size)) s0, cell_below (hbS.trans (hbc.mono hbS.size)) s1, cell_below (hbS.trans (hbc.mono hbS.size)) s2, cell_below (hbS.trans (hbc.mono hbS.size)) s3⟩)
          (first | (go_at_call 68; obtain ⟨hbS, _⟩ := ‹Below w2.heap.size w2 _ ∧ _›; (with_reducible refine (specFar n v1 A0 c0 u _ way _ (Kn.C_below hbS HC2.out) HG hu (by assumption)).mono ?_); rintro e w1 ⟨rfl, hbc⟩; first | rw [hfa.out] | rw [hfb.out]))
        all_goals obtain ⟨hbF, _⟩ := ‹Below w2.heap.size w2 _ ∧ _›
        all_goals go_wp2
        all_goals go_roundw
        all_goals first | exact ⟨k + 1, by omega, by rw [HF.out]; rfl, by go_num, hbz.trans (hbF.mono hbz.size)⟩ | (simp [intOf]; omega)
theorem wrap_small {a : Int} (h0 : -9223372036854775808 ≤ a) (h1 : a ≤ 9223372036854775807) : IntKind.i64.wrap a = a := IntWalk.i64_in _ (by omega)
set_option maxRecDepth 100000 in
set_option maxHeartbeats 8000000 in
theorem implNearest {ok : Nat → Prop} (n : Net) (ss : List Signal) (A2 : Option Addr) (c2 : Nat) (p way far a : Int) (w : World) (hs : signalK.C w ok A2 ss) (hr : Hid (Right n ss)) (hst : Hid (stepP n.pieces.length ⟨p, way⟩)) (h0 : Hid (0 ≤ far ∧ far ≤ pl n p)) (ha : Hid (a = atOf n p way far)) :
    Calls Tryz.prog 108 #[.slice A2 ss.length c2, .agg #[.int .i64 p, .int .i64 a, .int .i64 way]] w (RetI (onum (firstTo n ss p way far ss.length)) w) := by
  have hm2 := hs.1
  have HP := Lib.hid (pl_in hr.out.g hst.out.1.1 hst.out.1.2)
  go_enter Tryz.func108, Tryz.ntmps108
  go_wp2
  obtain ⟨W0, hW, HB0, k0, f0, f1, f2⟩ : ∃ W, W = w.alloc (.cells #[.int .i64 p, .int .i64 a, .int .i64 way] 156) ∧ Below w.heap.size w W ∧ w.heap.size < W.heap.size ∧ W.cell? ⟨w.heap.size, 0, none⟩ = some (.int .i64 p) ∧ W.cell? ⟨w.heap.size, 1, none⟩ = some (.int .i64 a) ∧ W.cell? ⟨w.heap.size, 2, none⟩ = some (.int .i64 way) := ⟨_, rfl, below_alloc _ _, by simp, by simp, by simp, by simp⟩
  rw [← hW]
  clear hW
  go_loopw [5, 10] (fun best i wr => ∃ k : Nat, k ≤ ss.length ∧ best = .int .i64 (onum (firstTo n ss p way far k)) ∧ i = .int .i64 k ∧ Below W0.heap.size W0 wr) (fun _ i _ => ss.length - (intOf i).toNat)
  case atStart => exact ⟨0, Nat.zero_le _, rfl, rfl, Below.refl _ _⟩
  case round =>
    obtain ⟨k, hk, rfl, rfl, hb⟩ := hrel
    obtain ⟨wo, rfl⟩ : ∃ wo : World, wo = wr := ⟨_, rfl⟩
    have hbw := HB0.trans (hb.mono HB0.size)
    by_cases hlt : k < ss.length
    rotate_left
    · obtain rfl : k = ss.length := by omega
      go_wp2
      go_ret
      exact ⟨rfl, hbw⟩
    obtain ⟨ad, rfl, y0, y1, y2, y3, E, g0, g1, g2, g3⟩ := signalK_at (Kn.C_below hbw hs) k hlt
    have i0 : (0 : Int) ≤ (k : Int) := Int.natCast_nonneg _
    have i1 : (k : Int) < (ss.length : Int) := by omega
    have HI := Lib.hid (sig_in hr.out E.out)
    have z0 := cell_below hb f0
    have z1 := cell_below hb f1
    have z3 := cell_below hb f2
    have z2 : w.heap.size < wo.heap.size := by have := hb.size; omega
    have hb1 := hb.alloc hb.size (Obj.cells #[.string y0, .int .i64 y1, .int .i64 y2, .int .i64 y3] 70)
    by_cases q1 : y1 = p
    rotate_left
    · have d0 : (y1 == p) = false := int_eqf q1
      have HF : Hid (firstTo n ss p way far (k + 1) = firstTo n ss p way far k) := Lib.hid (firstTo_not E.out (fun e => q1 e.1))
      clear q1
      go_wp2
      go_quiet (fail)
      go_wp2
      go_roundw
      case rel => exact ⟨k + 1, by omega, by rw [HF.out], by go_num, below_drewN hb1 _⟩
      case measure => simp [intOf]; omega
    have d0 : (y1 == p) = true := int_eqt q1
    by_cases q3 : y3 = way
    rotate_left
    · have d1 : (y3 == way) = false := int_eqf q3
      have HF : Hid (firstTo n ss p way far (k + 1) = firstTo n ss p way far k) := Lib.hid (firstTo_not E.out (fun e => q3 e.2.1))
      clear q1 q3
      go_wp2
      go_quiet (fail)
      go_wp2
      go_roundw
      case rel => exact ⟨k + 1, by omega, by rw [HF.out], by go_num, below_drewN hb1 _⟩
      case measure => simp [intOf]; omega
    have d1 : (y3 == way) = true := int_eqt q3
    obtain ⟨df, s1, ds, s2, HFar⟩ : ∃ d : Int, IntKind.i64.wrap (y2 - a) = d ∧ ∃ e : Int, IntKind.i64.wrap (d * way) = e ∧ Hid (0 < e ↔ far < farOf n p y2 way) := by
      have h1 := HI.out
      have h2 := HP.out
      have h3 := h0.out
      have h4 := ha.out
      simp only at h1
      rw [q1] at h1
      refine ⟨y2 - a, wrap_small ?_ ?_, (y2 - a) * way, wrap_small ?_ ?_, Lib.hid ?_⟩
      all_goals (rcases hst.out.2 with hw | hw <;> (have hw : way = _ := hw; subst hw; unfold atOf at h4; simp at h4; first | omega | (rw [far_fwd]; omega) | (rw [far_back]; omega)))
    by_cases q4 : 0 < ds
    rotate_left
    · have d2 : decide (0 < ds) = false := decide_eq_false q4
      have HF : Hid (firstTo n ss p way far (k + 1) = firstTo n ss p way far k) := Lib.hid (firstTo_not E.out (fun e => q4 (HFar.out.2 e.2.2)))
      clear q1 q3 q4
      go_wp2
      go_quiet (fail)
      go_wp2
      go_roundw
      case rel => exact ⟨k + 1, by omega, by rw [HF.out], by go_num, below_drewN hb1 _⟩
      case measure => simp [intOf]; omega
    have d2 : decide (0 < ds) = true := decide_eq_true q4
    have HT : Hid (y1 = p ∧ y3 = way ∧ far < farOf n p y2 way) := Lib.hid ⟨q1, q3, HFar.out.1 q4⟩
    clear q3 q4
    cases hp : firstTo n ss p way far k with
    | none =>
      have HF : Hid (firstTo n ss p way far (k + 1) = some k) := Lib.hid (firstTo_one E.out HT.out hp)
      clear hp q1
      rw [onum_none]
      go_wp2
      go_quiet (fail)
      go_wp2
      go_roundw
      case rel => exact ⟨k + 1, by omega, by rw [HF.out]; rfl, by go_num, below_drewN hb1 _⟩
      case measure => simp [intOf]; omega
    | some b =>
      obtain ⟨l1, l2, t, e1, e2, e3, e4⟩ := firstTo_lt hp
      obtain ⟨ad', he', t0, t1, t2, t3, ET, r0, r1, r2, r3⟩ := signalK_at (Kn.C_below hbw hs) b l2
      obtain rfl := Option.some.inj he'
      have HJ := Lib.hid (sig_in hr.out ET.out)
      have b0 : (0 : Int) ≤ (b : Int) := Int.natCast_nonneg _
      have b1 : (b : Int) < (ss.length : Int) := by omega
      have d5 : decide ((b : Int) < 0) = false := decide_eq_false (by omega)
      have htp : t1 = p := by have := e1.symm.trans ET.out; injection this with this; rw [this] at e2; exact e2
      obtain ⟨dg, s3, dt, s4, HNew⟩ : ∃ d : Int, IntKind.i64.wrap (y2 - t2) = d ∧ ∃ e : Int, IntKind.i64.wrap (d * way) = e ∧ Hid (e < 0 ↔ farOf n p y2 way < farOf n p t2 way) := by
        have h1 := HI.out
        have h2 := HP.out
        have h3 := HJ.out
        simp only at h1 h3
        rw [q1] at h1
        rw [htp] at h3
        refine ⟨y2 - t2, wrap_small ?_ ?_, (y2 - t2) * way, wrap_small ?_ ?_, Lib.hid ?_⟩
        all_goals (rcases hst.out.2 with hw | hw <;> (have hw : way = _ := hw; subst hw; first | omega | (rw [far_fwd, far_fwd]; omega) | (rw [far_back, far_back]; omega)))
      have HPK := Lib.hid hp
      have r4 : (ad.add (b * 4)).block < wo.heap.size := World.block_lt_of_cell? wo ⟨(ad.add (b * 4)).block, (ad.add (b * 4)).off + 2, none⟩ r2
      clear hp he' htp e1 e2 e3 e4 r0 r1 r3 q1
      rw [onum_some]
      by_cases q5 : dt < 0
      · have d6 : decide (dt < 0) = true := decide_eq_true q5
        have HF : Hid (firstTo n ss p way far (k + 1) = some k) := Lib.hid (firstTo_new E.out HT.out HPK.out ET.out (HNew.out.1 q5))
        clear q5
        go_wp2
        go_quiet (fail)
        go_wp2
        go_roundw
        case rel => exact ⟨k + 1, by omega, by rw [HF.out]; rfl, by go_num, below_drewN hb1 _⟩
        case measure => simp [intOf]; omega
      · have d6 : decide (dt < 0) = false := decide_eq_false q5
        have HF : Hid (firstTo n ss p way far (k + 1) = some b) := Lib.hid (firstTo_old E.out HPK.out ET.out (fun e => q5 (HNew.out.2 e)))
        clear q5
        go_wp2
        go_quiet (fail)
        go_wp2
        go_roundw
        case rel => exact ⟨k + 1, by omega, by rw [HF.out]; rfl, by go_num, below_drewN hb1 _⟩
        case measure => simp [intOf]; omega
end Go.Proofs.YtpggopdojhodaaaGreatDoor.L
namespace Go.Proofs.YtpggopdojhodaaaGreatDoor.L
open Go.RowKit
set_option linter.unusedVariables false
set_option linter.unusedSimpArgs false
abbrev finder (n : Net) (A0 A1 : Option Addr) (c0 c1 : Nat) (sv : Value) (ov : Int) (vout : Value) (tr : Int) (vseen : Value) : List Value := [.slice A0 n.pieces.length c0, .slice A1 n.joints.length c1, sv, .int .i64 ov, vout, .int .i64 tr, vseen]
theorem beyond_spl {n : Net} {m : Nat} {p way far left : Int} {acc goal : List Part} {x : Joint} {j k : Nat} (h : acc ++ beyond n m p way far left = goal) (hm : left.toNat < m) (hl : ¬ left ≤ 0) (ha : atJ n (headE p way) = (j, k)) (hx : jt n j = x) (hs : x.kind = 2) :
    ∃ m', m = m' + 1 ∧ acc ++ [partN n p way far (tilOf n p far left)] ++ beyond n m' (en x (1 - k)).piece (wayOf (en x (1 - k))) 0 (left - (tilOf n p far left - far)) = goal := by
  obtain ⟨m', rfl⟩ : ∃ m', m = m' + 1 := ⟨m - 1, by omega⟩
  rw [beyond_plain hl ha hx hs] at h
  exact ⟨m', rfl, by rw [← h]; simp⟩
theorem beyond_end {n : Net} {m : Nat} {p way far left : Int} {acc goal : List Part} {x : Joint} {j k : Nat} (h : acc ++ beyond n m p way far left = goal) (hm : left.toNat < m) (hl : ¬ left ≤ 0) (ha : atJ n (headE p way) = (j, k)) (hx : jt n j = x) (hs : left - (tilOf n p far left - far) = 0 ∨ ¬ x.kind = 2) :
    acc ++ [partN n p way far (tilOf n p far left)] = goal := by
  obtain ⟨m', rfl⟩ : ∃ m', m = m' + 1 := ⟨m - 1, by omega⟩
  rw [beyond_last hl ha hx hs] at h
  exact h
set_option maxRecDepth 100000 in
set_option maxHeartbeats 8000000 in
theorem specBeyond {ok : Nat → Prop} (n : Net) (A0 A1 : Option Addr) (c0 c1 : Nat) (sv vout vseen : Value) (ov tr : Int) (g u : Nat) (way far : Int) (w : World) (hf : Blk w g 137 (finder n A0 A1 c0 c1 sv ov vout tr vseen)) (h : NC 177 w ok n A0 A1) (hg : Hid (Good n)) (hu : u < n.pieces.length) (hway : Hid (way = 1 ∨ way = -1)) (h0 : Hid (0 ≤ far ∧ far < pl n u)) (ho0 : 0 ≤ ov) (ho1 : ov ≤ 100000) :
    Calls Tryz.prog 97 #[.pointer (some ⟨g, 0, none⟩), .int .i64 u, .int .i64 way, .int .i64 far] w (RetW 146 partK nobody (beyond n (ov.toNat + 1) u way far ov) w) := by
  obtain ⟨i0, hi, hz0, hz1, hz2⟩ := info_parts info146
  have hgl := hf.lt
  have k0 := hf.cell 0 rfl
  have k1 := hf.cell 1 rfl
  have k3 := hf.cell 3 rfl
  have hmp := h.p.1
  have hmj := h.j.1
  obtain ⟨goal, HG⟩ : ∃ goal, Hid (beyond n (ov.toNat + 1) u way far ov = goal) := ⟨_, Lib.hid rfl⟩
  rw [HG.out]
  go_enter Tryz.func97, Tryz.ntmps97
  go_wp2
  go_loopw [1, 2, 3, 9, 10] (fun pv wv fv o lv wr => ∃ (m u : Nat) (way far left : Int) (acc : List Part), pv = .int .i64 u ∧ wv = .int .i64 way ∧ fv = .int .i64 far ∧ lv = .int .i64 left ∧ u < n.pieces.length ∧ 0 ≤ far ∧ left ≤ 100000 ∧ Hid (way = 1 ∨ way = -1) ∧ Hid (far < pl n u) ∧ Hid (acc ++ beyond n m u way far left = goal) ∧ Hid (left.toNat < m) ∧ Hid (partK.Rw 146 wr nobody o acc) ∧ Hid (∀ b, o.ownBlock = some b → w.heap.size ≤ b) ∧ Hid (0 ≤ left ∧ acc.length + left ≤ ov) ∧ Below w.heap.size w wr) (fun _ _ _ _ lv _ => (intOf lv).toNat)
  case atStart => exact ⟨ov.toNat + 1, u, way, far, ov, [], rfl, rfl, rfl, rfl, hu, h0.out.1, ho1, hway, Lib.hid h0.out.2, Lib.hid HG.out, Lib.hid (by omega), Lib.hid Kn.Rw.nil, Lib.hid (by simp [Value.ownBlock]), Lib.hid ⟨ho0, by simp⟩, Below.refl _ _⟩
  case round =>
    clear h0 hway
    obtain ⟨m, u, way, far, left, acc, rfl, rfl, rfl, rfl, hu, hf0, hl1, HW, HF, HB, HM, HR, HO, HL, hb⟩ := hrel
    obtain ⟨Ao, co, rfl, hco, _⟩ := HR.out.form
    by_cases hl : left ≤ 0
    · have HE : Hid (acc = goal) := Lib.hid (by have := HB.out; rw [beyond_none hl, List.append_nil] at this; exact this)
      go_wp2
      go_ret
      exact ⟨_, rfl, by rw [← HE.out]; exact HR.out, HO.out, hb⟩
    have hl0 : 0 < left := by omega
    clear hl
    obtain ⟨ad, rfl, z0, z1, z2, z3, E, g0, g1, g2, g3⟩ := pieceK_at (Kn.C_below hb h.p) u hu
    have j0 : (0 : Int) ≤ (u : Int) := Int.natCast_nonneg _
    have j1 : (u : Int) < (n.pieces.length : Int) := by omega
    have HP : Hid (pl n u = z1) := Lib.hid (pl_get E.out)
    obtain ⟨x1, x2⟩ : 1 ≤ z1 ∧ z1 ≤ 10000000 := by have := hg.out.piece _ (mem_of_get E.out); exact ⟨this.2.1, this.2.2.1⟩
    have x3 : far < z1 := by have := HF.out; rw [HP.out] at this; exact this
    have q0 := (hf.below hb hgl).cell 0 rfl
    have q1 := (hf.below hb hgl).cell 1 rfl
    have hgs : g < wr.heap.size := by have := hb.size; omega
    have HEP : Hid (stepP n.pieces.length ⟨u, way⟩) := Lib.hid ⟨⟨by show (0 : Int) ≤ u; omega, by show (u : Int) ≤ _; omega⟩, HW.out⟩
    obtain ⟨e0, HE⟩ : ∃ e0, Hid (headE u way = e0) := ⟨_, Lib.hid rfl⟩
    have HEO : Hid (endP n.pieces.length e0) := Lib.hid (by rw [← HE.out]; exact head_ok HEP.out)
    obtain ⟨j, k, x, hat, hjk, hx, hP, hjl, hkl⟩ := at_get hg.out HEO.out
    have HA := Lib.hid hjk
    have HX := Lib.hid hx
    have HAT := Lib.hid hat
    have HAH : Hid (atJ n (headE u way) = (j, k)) := Lib.hid (by rw [HE.out]; exact hjk)
    have HJP := Lib.hid hP
    clear hjk hx hat hP
    have hlen := HL.out
    have a63 : acc.length + 1 ≤ maxLen := by simp only [maxLen]; omega
    have aby : (acc.length + 1) * 24 ≤ 140737488355328 := by omega
    have m0 : (0 : Int) ≤ (j : Int) := Int.natCast_nonneg _
    have m1 : (j : Int) < (n.joints.length : Int) := by omega
    by_cases hq : z1 < far + left
    · have d0 : decide (z1 < far + left) = true := decide_eq_true hq
      have d1 : decide (far < z1) = true := decide_eq_true (by omega)
      have HT : Hid (tilOf n u far left = z1) := Lib.hid (by unfold tilOf; rw [HP.out, if_neg (by omega)])
      obtain ⟨P, HPt⟩ : ∃ P, Hid (partN n u way far (z1) = P) := ⟨_, Lib.hid rfl⟩
      go_wp2_with fail
      refine (specPart n _ (some ad) c0 u way far (z1) _ (Kn.C_below hb h.p) hg hu HW.out (by omega) (by omega)).mono ?_
      rintro e w1 ⟨rfl, hb1⟩
      rw [HPt.out]
      have hbx := hb.trans (hb1.mono hb.size)
      have HR1 := Lib.hid ((HR.out.below hb1).below (below_alloc w1 (.cells #[.int .i64 P.piece, .int .i64 P.frm, .int .i64 P.til] 146)))
      clear g0 g1 g2 g3 HR
      go_wp2_with (at_builtin; refine wpList_append_rw _ rfl (.tmp 47) (.tmp 57) 62 rfl 146 i0 _ 24 Tryz.underlying62 hi hz0 hz1 hz2 rfl (by decide) (.slice Ao acc.length co) acc [P] rfl HR1.out (fun _ h => h.elim) (some ⟨w1.heap.size, 0, none⟩) 1 1 rfl rfl (Kn.Src.one (partK_mk _ _ P) (new_cells _ _ _ rfl)) a63 aby ?_; intro v' w2 HR2 hg2 hat2; obtain ⟨A2, c2, rfl, hc2⟩ := HR2.form1)
      have hbA := below_push (hbx.alloc hbx.size _) hg2 HO.out (by have := hbx.size; simp; omega)
      have HO2 := Lib.hid (own_next HO.out hat2 (by have := hbx.size; simp; omega))
      have HR2 := Lib.hid HR2
      have s0 := (hf.below hbA hgl).cell 0 rfl
      have s1 := (hf.below hbA hgl).cell 1 rfl
      have hgs2 : g < w2.heap.size := by have := hbA.size; omega
      clear hg2 hat2 hbx HR1 hb1 q0 q1 HO hb hgs
      go_region_held3 (fun w' => Below w2.heap.size w2 w' ∧ w'.cell? ⟨g, 0, none⟩ = some (.slice (some ad) n.pieces.length c0) ∧ w'.cell? ⟨g, 1, none⟩ = some (.slice A1 n.joints.length c1))
        (first | exact ⟨(Below.refl _ _).drew, s0, s1⟩ | exact ⟨hbS.trans (hbc.mono hbS.size), cell_below (hbS.trans (hbc.mono hbS.size)) s0, cell_below (hbS.trans (hbc.mono hbS.size)) s1⟩)
        (first | (go_at_call 100; obtain ⟨hbS, _⟩ := ‹Below w2.heap.size w2 _ ∧ _›; (with_reducible refine (specHead _ _ _).mono ?_); rintro e wz ⟨rfl, hbc⟩; rw [HE.out]) | (go_at_call 99; obtain ⟨hbS, _⟩ := ‹Below w2.heap.size w2 _ ∧ _›; (with_reducible refine (specAt n (some ad) A1 c0 c1 e0 _ (h.below (hbA.trans (hbS.mono hbA.size))) hg HEO).mono ?_); rintro e wz ⟨rfl, hbc⟩; rw [HA.out]))
      obtain ⟨hbF, _⟩ := ‹Below w2.heap.size w2 _ ∧ _›
      have hbZ := hbA.trans (hbF.mono hbA.size)
      have HRZ := Lib.hid (HR2.out.below hbF)
      have t0 := cell_below hbF s0
      have t1 := cell_below hbF s1
      clear s0 s1 HR2 hbA hgs2
      have hgs3 : g < wz.heap.size := by have := hbZ.size; omega
      have d2 : (left - (z1 - far) == 0) = false := int_eqf (by omega)
      obtain ⟨a1, rfl, y, E1, A3, c3, r0, r1, r2, l2, C2⟩ := jointK_at (Kn.C_below hbZ h.j) j hjl
      have hy := HAT.out.1.symm.trans E1.out
      injection hy with hy
      subst hy
      have hme := C2.1
      by_cases hk : x.kind = 2
      rotate_left
      · have d3 : (x.kind != 2) = true := int_net hk
        have HEN : Hid (acc ++ [P] = goal) := Lib.hid (by have := beyond_end HB.out HM.out (by omega) HAH.out HX.out (.inr hk); rw [HT.out, HPt.out] at this; exact this)
        clear hk
        go_wp2
        go_ret
        exact ⟨_, rfl, by rw [← HEN.out]; exact HRZ.out, HO2.out, hbZ⟩
      have d3 : (x.kind != 2) = false := int_nef hk
      have hlen2 : x.ends.length = 2 := by have := HJP.out.2.1; omega
      have HL2 := Lib.hid hlen2
      have l0 : (0 : Int) < (x.ends.length : Int) := by omega
      have l1 : (1 : Int) < (x.ends.length : Int) := by omega
      obtain ⟨m', hmm, hsp⟩ := beyond_spl HB.out HM.out (by omega) HAH.out HX.out hk
      rw [HT.out, HPt.out] at hsp
      have HSP := Lib.hid hsp
      have HMM := Lib.hid hmm
      have HEK : Hid (endP n.pieces.length (en x (1 - k))) := Lib.hid (en_ok HJP.out (by omega))
      obtain ⟨u', s', HEN⟩ : ∃ (u' : Nat) (s' : Int), Hid (en x (1 - k) = ⟨u', s'⟩) := ⟨(en x (1 - k)).piece.toNat, (en x (1 - k)).side, Lib.hid (by have := HEK.out.1.1; rw [Int.toNat_of_nonneg this])⟩
      have hue : u' < n.pieces.length ∧ (s' = 0 ∨ s' = 1) := by have := HEK.out; rw [HEN.out] at this; obtain ⟨⟨b1, b2⟩, b3, b4⟩ := this; simp only at b1 b2 b3 b4; omega
      obtain ⟨hu', hs'⟩ := hue
      have HPL : Hid (0 < pl n u') := Lib.hid (by have := pl_in hg.out (p := (u' : Int)) (by omega) (by omega); omega)
      have hk2 : k = 0 ∨ k = 1 := by omega
      clear hk hlen2 hmm hsp
      rcases hk2 with rfl | rfl
      · obtain ⟨a3, rfl, v0, v1⟩ := en_pos (k := 1) (m := 2) C2 (by omega) (by omega) rfl
        rw [HEN.out] at v0 v1
        rcases hs' with rfl | rfl
        · go_wp2
          go_roundw
          case rel => exact ⟨m', u', 1, 0, left - (z1 - far), acc ++ [P], rfl, rfl, rfl, rfl, hu', by omega, by omega, Lib.hid (.inl rfl), HPL, Lib.hid (by have := HSP.out; rw [HEN.out] at this; exact this), Lib.hid (by have := HM.out; have := HMM.out; omega), Lib.hid (HRZ.out.below (below_alloc _ _)), HO2, Lib.hid ⟨by omega, by rw [List.length_append, List.length_singleton]; omega⟩, hbZ.alloc hbZ.size _⟩
          case measure => simp [intOf]; omega
        · go_wp2
          go_roundw
          case rel => exact ⟨m', u', -1, 0, left - (z1 - far), acc ++ [P], rfl, rfl, rfl, rfl, hu', by omega, by omega, Lib.hid (.inr rfl), HPL, Lib.hid (by have := HSP.out; rw [HEN.out] at this; exact this), Lib.hid (by have := HM.out; have := HMM.out; omega), Lib.hid (HRZ.out.below (below_alloc _ _)), HO2, Lib.hid ⟨by omega, by rw [List.length_append, List.length_singleton]; omega⟩, hbZ.alloc hbZ.size _⟩
          case measure => simp [intOf]; omega
      · obtain ⟨a3, rfl, v0, v1⟩ := en_zero C2 (by omega)
        rw [HEN.out] at v0 v1
        rcases hs' with rfl | rfl
        · go_wp2
          go_roundw
          case rel => exact ⟨m', u', 1, 0, left - (z1 - far), acc ++ [P], rfl, rfl, rfl, rfl, hu', by omega, by omega, Lib.hid (.inl rfl), HPL, Lib.hid (by have := HSP.out; rw [HEN.out] at this; exact this), Lib.hid (by have := HM.out; have := HMM.out; omega), Lib.hid (HRZ.out.below (below_alloc _ _)), HO2, Lib.hid ⟨by omega, by rw [List.length_append, List.length_singleton]; omega⟩, hbZ.alloc hbZ.size _⟩
          case measure => simp [intOf]; omega
        · go_wp2
          go_roundw
          case rel => exact ⟨m', u', -1, 0, left - (z1 - far), acc ++ [P], rfl, rfl, rfl, rfl, hu', by omega, by omega, Lib.hid (.inr rfl), HPL, Lib.hid (by have := HSP.out; rw [HEN.out] at this; exact this), Lib.hid (by have := HM.out; have := HMM.out; omega), Lib.hid (HRZ.out.below (below_alloc _ _)), HO2, Lib.hid ⟨by omega, by rw [List.length_append, List.length_singleton]; omega⟩, hbZ.alloc hbZ.size _⟩
          case measure => simp [intOf]; omega
    · have d0 : decide (z1 < far + left) = false := decide_eq_false hq
      have d1 : decide (far < far + left) = true := decide_eq_true (by omega)
      have HT : Hid (tilOf n u far left = far + left) := Lib.hid (by unfold tilOf; rw [HP.out, if_pos (by omega)])
      obtain ⟨P, HPt⟩ : ∃ P, Hid (partN n u way far (far + left) = P) := ⟨_, Lib.hid rfl⟩
      go_wp2_with fail
      refine (specPart n _ (some ad) c0 u way far (far + left) _ (Kn.C_below hb h.p) hg hu HW.out (by omega) (by omega)).mono ?_
      rintro e w1 ⟨rfl, hb1⟩
      rw [HPt.out]
      have hbx := hb.trans (hb1.mono hb.size)
      have HR1 := Lib.hid ((HR.out.below hb1).below (below_alloc w1 (.cells #[.int .i64 P.piece, .int .i64 P.frm, .int .i64 P.til] 146)))
      clear g0 g1 g2 g3 HR
      go_wp2_with (at_builtin; refine wpList_append_rw _ rfl (.tmp 47) (.tmp 57) 62 rfl 146 i0 _ 24 Tryz.underlying62 hi hz0 hz1 hz2 rfl (by decide) (.slice Ao acc.length co) acc [P] rfl HR1.out (fun _ h => h.elim) (some ⟨w1.heap.size, 0, none⟩) 1 1 rfl rfl (Kn.Src.one (partK_mk _ _ P) (new_cells _ _ _ rfl)) a63 aby ?_; intro v' w2 HR2 hg2 hat2; obtain ⟨A2, c2, rfl, hc2⟩ := HR2.form1)
      have hbA := below_push (hbx.alloc hbx.size _) hg2 HO.out (by have := hbx.size; simp; omega)
      have HO2 := Lib.hid (own_next HO.out hat2 (by have := hbx.size; simp; omega))
      have HR2 := Lib.hid HR2
      have s0 := (hf.below hbA hgl).cell 0 rfl
      have s1 := (hf.below hbA hgl).cell 1 rfl
      have hgs2 : g < w2.heap.size := by have := hbA.size; omega
      clear hg2 hat2 hbx HR1 hb1 q0 q1 HO hb hgs
      go_region_held3 (fun w' => Below w2.heap.size w2 w' ∧ w'.cell? ⟨g, 0, none⟩ = some (.slice (some ad) n.pieces.length c0) ∧ w'.cell? ⟨g, 1, none⟩ = some (.slice A1 n.joints.length c1))
        (first | exact ⟨(Below.refl _ _).drew, s0, s1⟩ | exact ⟨hbS.trans (hbc.mono hbS.size), cell_below (hbS.trans (hbc.mono hbS.size)) s0, cell_below (hbS.trans (hbc.mono hbS.size)) s1⟩)
        (first | (go_at_call 100; obtain ⟨hbS, _⟩ := ‹Below w2.heap.size w2 _ ∧ _›; (with_reducible refine (specHead _ _ _).mono ?_); rintro e wz ⟨rfl, hbc⟩; rw [HE.out]) | (go_at_call 99; obtain ⟨hbS, _⟩ := ‹Below w2.heap.size w2 _ ∧ _›; (with_reducible refine (specAt n (some ad) A1 c0 c1 e0 _ (h.below (hbA.trans (hbS.mono hbA.size))) hg HEO).mono ?_); rintro e wz ⟨rfl, hbc⟩; rw [HA.out]))
      obtain ⟨hbF, _⟩ := ‹Below w2.heap.size w2 _ ∧ _›
      have hbZ := hbA.trans (hbF.mono hbA.size)
      have HRZ := Lib.hid (HR2.out.below hbF)
      have t0 := cell_below hbF s0
      have t1 := cell_below hbF s1
      clear s0 s1 HR2 hbA hgs2
      have hgs3 : g < wz.heap.size := by have := hbZ.size; omega
      have d2 : (left - (far + left - far) == 0) = true := int_eqt (by omega)
      have HEN : Hid (acc ++ [P] = goal) := Lib.hid (by have := beyond_end HB.out HM.out (by omega) HAH.out HX.out (.inl (by rw [HT.out]; omega)); rw [HT.out, HPt.out] at this; exact this)
      go_wp2
      go_ret
      exact ⟨_, rfl, by rw [← HEN.out]; exact HRZ.out, HO2.out, hbZ⟩
end Go.Proofs.YtpggopdojhodaaaGreatDoor.L
