/- The laws' comparers of slices of routes and of tables. -/
import Derived.Test.YtginpmhjpjcahaaTab
namespace Go.Proofs.Ytginpmhjpjcahaa.L
open Go.RowKit
set_option linter.unusedVariables false
set_option linter.unusedSimpArgs false
theorem row_at {w : World} {ok : Nat → Prop} {A : Option Addr} {xs : List (List Int)} (h : rowK.C w ok A xs) (k : Nat) (hk : k < xs.length) : ∃ ad, A = some ad ∧ ∃ x, Hid (xs[k]? = some x) ∧ ∃ B d, w.cell? (ad.add k) = some (.slice B x.length d) ∧ Hid (Kn.int.C w ok B x) := by
  obtain ⟨ad, x, c, e, _, hx, ⟨B, d, rfl, _, hC⟩, hc⟩ := Kn.C_at h k hk
  exact ⟨ad, e, x, Lib.hid hx, B, d, by have := hc 0 _ rfl; rwa [show k * rowK.sz + 0 = k from by show k * 1 + 0 = k; omega] at this, Lib.hid hC⟩
set_option maxRecDepth 100000 in
set_option maxHeartbeats 4000000 in
theorem eqRouteS {ok ok' : Nat → Prop} (A0 A1 : Option Addr) (c0 c1 : Nat) (xs ys : List Route) (w : World) (hx : rK.C w ok A0 xs) (hy : rK.C w ok' A1 ys) :
    Calls Try.prog 48 #[.slice A0 xs.length c0, .slice A1 ys.length c1] w (RetB (eqv xs ys) w) := by
  have hmx := hx.1
  have hmy := hy.1
  by_cases hl : xs.length = ys.length
  rotate_left
  · rw [eqv_false (fun h => hl (congrArg List.length h))]
    have hlb := len_ne hl
    clear hl
    go_enter Try.func48, Try.ntmps48
    go_wp2
    go_ret
    exact ⟨rfl, Below.refl _ _⟩
  have hlb := len_eq hl
  have HL := Lib.hid hl
  clear hl
  go_enter Try.func48, Try.ntmps48
  go_wp2
  go_loopw [5] (fun i wr => ∃ k : Nat, k ≤ xs.length ∧ i = .int .i64 k ∧ Hid (xs.take k = ys.take k) ∧ Below w.heap.size w wr) (fun i _ => xs.length - (intOf i).toNat)
  case atStart => exact ⟨0, Nat.zero_le _, rfl, Lib.hid rfl, Below.refl _ _⟩
  case round =>
    obtain ⟨k, hk, rfl, HT, hb⟩ := hrel
    by_cases hlt : k < xs.length
    · have i0 : (0 : Int) ≤ (k : Int) := Int.natCast_nonneg _
      have i1 : (k : Int) < (xs.length : Int) := by omega
      have i2 : (k : Int) < (ys.length : Int) := by have := HL.out; omega
      obtain ⟨a0, rfl, x, E0, A2, A3, A4, A5, A6, A7, c2, c3, c4, c5, c6, c7, gp0, gp1, gp2, gp3, gp4, gp5, gp6, gp7, RX⟩ := rC_at (Kn.C_below hb hx) k hlt
      obtain ⟨a1, rfl, y, E1, B2, B3, B4, B5, B6, B7, d2, d3, d4, d5, d6, d7, gq0, gq1, gq2, gq3, gq4, gq5, gq6, gq7, RY⟩ := rC_at (Kn.C_below hb hy) k (HL.out ▸ hlt)
      by_cases he : x = y
      · have HE : Hid (eqv x y = true) := Lib.hid (eqv_true he)
        have HN : Hid (xs.take (k + 1) = ys.take (k + 1)) := Lib.hid (take_eq_snoc HT.out (by rw [← he]; exact E0.out) E1.out)
        clear he
        go_wp2
        go_region_held3 (fun w' => w'.cell? (a0.add (k * 8)) = some (.int .i64 x.frm) ∧ w'.cell? ⟨(a0.add (k * 8)).block, (a0.add (k * 8)).off + 1, none⟩ = some (.int .i64 x.til) ∧ w'.cell? ⟨(a0.add (k * 8)).block, (a0.add (k * 8)).off + 2, none⟩ = some (.slice A2 x.steps.length c2) ∧ w'.cell? ⟨(a0.add (k * 8)).block, (a0.add (k * 8)).off + 3, none⟩ = some (.slice A3 x.lies.length c3) ∧ w'.cell? ⟨(a0.add (k * 8)).block, (a0.add (k * 8)).off + 4, none⟩ = some (.slice A4 x.crosses.length c4) ∧ w'.cell? ⟨(a0.add (k * 8)).block, (a0.add (k * 8)).off + 5, none⟩ = some (.slice A5 x.parts.length c5) ∧ w'.cell? ⟨(a0.add (k * 8)).block, (a0.add (k * 8)).off + 6, none⟩ = some (.slice A6 x.over.length c6) ∧ w'.cell? ⟨(a0.add (k * 8)).block, (a0.add (k * 8)).off + 7, none⟩ = some (.slice A7 x.flanks.length c7) ∧ w'.cell? (a1.add (k * 8)) = some (.int .i64 y.frm) ∧ w'.cell? ⟨(a1.add (k * 8)).block, (a1.add (k * 8)).off + 1, none⟩ = some (.int .i64 y.til) ∧ w'.cell? ⟨(a1.add (k * 8)).block, (a1.add (k * 8)).off + 2, none⟩ = some (.slice B2 y.steps.length d2) ∧ w'.cell? ⟨(a1.add (k * 8)).block, (a1.add (k * 8)).off + 3, none⟩ = some (.slice B3 y.lies.length d3) ∧ w'.cell? ⟨(a1.add (k * 8)).block, (a1.add (k * 8)).off + 4, none⟩ = some (.slice B4 y.crosses.length d4) ∧ w'.cell? ⟨(a1.add (k * 8)).block, (a1.add (k * 8)).off + 5, none⟩ = some (.slice B5 y.parts.length d5) ∧ w'.cell? ⟨(a1.add (k * 8)).block, (a1.add (k * 8)).off + 6, none⟩ = some (.slice B6 y.over.length d6) ∧ w'.cell? ⟨(a1.add (k * 8)).block, (a1.add (k * 8)).off + 7, none⟩ = some (.slice B7 y.flanks.length d7)) (first | exact ⟨cell_below hb1 gp0, cell_below hb1 gp1, cell_below hb1 gp2, cell_below hb1 gp3, cell_below hb1 gp4, cell_below hb1 gp5, cell_below hb1 gp6, cell_below hb1 gp7, cell_below hb1 gq0, cell_below hb1 gq1, cell_below hb1 gq2, cell_below hb1 gq3, cell_below hb1 gq4, cell_below hb1 gq5, cell_below hb1 gq6, cell_below hb1 gq7⟩ | go_keep)
          (first | (go_at_call 32; (with_reducible refine (eqRouteC x y A2 A3 A4 A5 A6 A7 c2 c3 c4 c5 c6 c7 B2 B3 B4 B5 B6 B7 d2 d3 d4 d5 d6 d7 _ (RX.out.drew) (RY.out.drew)).mono ?_); rintro e w1 ⟨rfl, hb1⟩; rw [HE.out]))
        go_wp2
        go_roundw
        case rel => exact ⟨k + 1, by omega, by go_num, HN, hb.drew.trans (hb1.mono hb.size)⟩
        case measure => simp [intOf]; omega
      · have HE : Hid (eqv x y = false) := Lib.hid (eqv_false he)
        have HN : Hid (eqv xs ys = false) := Lib.hid (eqv_false (take_ne E0.out E1.out he))
        clear he
        go_wp2
        go_region_held3 (fun w' => w'.cell? (a0.add (k * 8)) = some (.int .i64 x.frm) ∧ w'.cell? ⟨(a0.add (k * 8)).block, (a0.add (k * 8)).off + 1, none⟩ = some (.int .i64 x.til) ∧ w'.cell? ⟨(a0.add (k * 8)).block, (a0.add (k * 8)).off + 2, none⟩ = some (.slice A2 x.steps.length c2) ∧ w'.cell? ⟨(a0.add (k * 8)).block, (a0.add (k * 8)).off + 3, none⟩ = some (.slice A3 x.lies.length c3) ∧ w'.cell? ⟨(a0.add (k * 8)).block, (a0.add (k * 8)).off + 4, none⟩ = some (.slice A4 x.crosses.length c4) ∧ w'.cell? ⟨(a0.add (k * 8)).block, (a0.add (k * 8)).off + 5, none⟩ = some (.slice A5 x.parts.length c5) ∧ w'.cell? ⟨(a0.add (k * 8)).block, (a0.add (k * 8)).off + 6, none⟩ = some (.slice A6 x.over.length c6) ∧ w'.cell? ⟨(a0.add (k * 8)).block, (a0.add (k * 8)).off + 7, none⟩ = some (.slice A7 x.flanks.length c7) ∧ w'.cell? (a1.add (k * 8)) = some (.int .i64 y.frm) ∧ w'.cell? ⟨(a1.add (k * 8)).block, (a1.add (k * 8)).off + 1, none⟩ = some (.int .i64 y.til) ∧ w'.cell? ⟨(a1.add (k * 8)).block, (a1.add (k * 8)).off + 2, none⟩ = some (.slice B2 y.steps.length d2) ∧ w'.cell? ⟨(a1.add (k * 8)).block, (a1.add (k * 8)).off + 3, none⟩ = some (.slice B3 y.lies.length d3) ∧ w'.cell? ⟨(a1.add (k * 8)).block, (a1.add (k * 8)).off + 4, none⟩ = some (.slice B4 y.crosses.length d4) ∧ w'.cell? ⟨(a1.add (k * 8)).block, (a1.add (k * 8)).off + 5, none⟩ = some (.slice B5 y.parts.length d5) ∧ w'.cell? ⟨(a1.add (k * 8)).block, (a1.add (k * 8)).off + 6, none⟩ = some (.slice B6 y.over.length d6) ∧ w'.cell? ⟨(a1.add (k * 8)).block, (a1.add (k * 8)).off + 7, none⟩ = some (.slice B7 y.flanks.length d7)) (first | exact ⟨cell_below hb1 gp0, cell_below hb1 gp1, cell_below hb1 gp2, cell_below hb1 gp3, cell_below hb1 gp4, cell_below hb1 gp5, cell_below hb1 gp6, cell_below hb1 gp7, cell_below hb1 gq0, cell_below hb1 gq1, cell_below hb1 gq2, cell_below hb1 gq3, cell_below hb1 gq4, cell_below hb1 gq5, cell_below hb1 gq6, cell_below hb1 gq7⟩ | go_keep)
          (first | (go_at_call 32; (with_reducible refine (eqRouteC x y A2 A3 A4 A5 A6 A7 c2 c3 c4 c5 c6 c7 B2 B3 B4 B5 B6 B7 d2 d3 d4 d5 d6 d7 _ (RX.out.drew) (RY.out.drew)).mono ?_); rintro e w1 ⟨rfl, hb1⟩; rw [HE.out]))
        go_wp2
        go_ret
        exact ⟨by rw [HN.out]; rfl, hb.drew.trans (hb1.mono hb.size)⟩
    · obtain rfl : k = xs.length := by omega
      have HN : Hid (eqv xs ys = true) := Lib.hid (eqv_true (by have := HT.out; rw [List.take_length, HL.out, List.take_length] at this; exact this))
      go_wp2
      go_ret
      exact ⟨by rw [HN.out]; rfl, hb⟩
set_option maxRecDepth 100000 in
set_option maxHeartbeats 4000000 in
theorem eqIntSS {ok ok' : Nat → Prop} (A0 A1 : Option Addr) (c0 c1 : Nat) (xs ys : List (List Int)) (w : World) (hx : rowK.C w ok A0 xs) (hy : rowK.C w ok' A1 ys) :
    Calls Try.prog 47 #[.slice A0 xs.length c0, .slice A1 ys.length c1] w (RetB (eqv xs ys) w) := by
  have hmx := hx.1
  have hmy := hy.1
  by_cases hl : xs.length = ys.length
  rotate_left
  · rw [eqv_false (fun h => hl (congrArg List.length h))]
    have hlb := len_ne hl
    clear hl
    go_enter Try.func47, Try.ntmps47
    go_wp2
    go_ret
    exact ⟨rfl, Below.refl _ _⟩
  have hlb := len_eq hl
  have HL := Lib.hid hl
  clear hl
  go_enter Try.func47, Try.ntmps47
  go_wp2
  go_loopw [5] (fun i wr => ∃ k : Nat, k ≤ xs.length ∧ i = .int .i64 k ∧ Hid (xs.take k = ys.take k) ∧ Below w.heap.size w wr) (fun i _ => xs.length - (intOf i).toNat)
  case atStart => exact ⟨0, Nat.zero_le _, rfl, Lib.hid rfl, Below.refl _ _⟩
  case round =>
    obtain ⟨k, hk, rfl, HT, hb⟩ := hrel
    by_cases hlt : k < xs.length
    · have i0 : (0 : Int) ≤ (k : Int) := Int.natCast_nonneg _
      have i1 : (k : Int) < (xs.length : Int) := by omega
      have i2 : (k : Int) < (ys.length : Int) := by have := HL.out; omega
      obtain ⟨a0, rfl, x, E0, B0, d0, gp0, qx⟩ := row_at (Kn.C_below hb hx) k hlt
      obtain ⟨a1, rfl, y, E1, B1, d1, gq0, qy⟩ := row_at (Kn.C_below hb hy) k (HL.out ▸ hlt)
      have qx := Lib.hid (C_dr qx.out)
      have qy := Lib.hid (C_dr qy.out)
      by_cases he : x = y
      · have HE : Hid (eqv x y = true) := Lib.hid (eqv_true he)
        have HN : Hid (xs.take (k + 1) = ys.take (k + 1)) := Lib.hid (take_eq_snoc HT.out (by rw [← he]; exact E0.out) E1.out)
        clear he
        go_wp2
        go_region_held3 (fun w' => w'.cell? (a0.add k) = some (.slice B0 x.length d0) ∧ w'.cell? (a1.add k) = some (.slice B1 y.length d1)) (first | exact ⟨cell_below hb1 gp0, cell_below hb1 gq0⟩ | go_keep)
          (first | (go_at_call 98; (with_reducible refine (eqIntS B0 B1 d0 d1 x y _ (qx.out) (qy.out)).mono ?_); rintro e w1 ⟨rfl, hb1⟩; rw [HE.out]))
        go_wp2
        go_roundw
        case rel => exact ⟨k + 1, by omega, by go_num, HN, hb.drew.trans (hb1.mono hb.size)⟩
        case measure => simp [intOf]; omega
      · have HE : Hid (eqv x y = false) := Lib.hid (eqv_false he)
        have HN : Hid (eqv xs ys = false) := Lib.hid (eqv_false (take_ne E0.out E1.out he))
        clear he
        go_wp2
        go_region_held3 (fun w' => w'.cell? (a0.add k) = some (.slice B0 x.length d0) ∧ w'.cell? (a1.add k) = some (.slice B1 y.length d1)) (first | exact ⟨cell_below hb1 gp0, cell_below hb1 gq0⟩ | go_keep)
          (first | (go_at_call 98; (with_reducible refine (eqIntS B0 B1 d0 d1 x y _ (qx.out) (qy.out)).mono ?_); rintro e w1 ⟨rfl, hb1⟩; rw [HE.out]))
        go_wp2
        go_ret
        exact ⟨by rw [HN.out]; rfl, hb.drew.trans (hb1.mono hb.size)⟩
    · obtain rfl : k = xs.length := by omega
      have HN : Hid (eqv xs ys = true) := Lib.hid (eqv_true (by have := HT.out; rw [List.take_length, HL.out, List.take_length] at this; exact this))
      go_wp2
      go_ret
      exact ⟨by rw [HN.out]; rfl, hb⟩
end Go.Proofs.Ytginpmhjpjcahaa.L
