/- The laws' size counters of routes and tables. -/
import Derived.Test.YtpggopdojhodaaaGreatVc
import Derived.BigRegion
import Derived.OneCell
import Derived.StillTailTactics
import Derived.Test.YtpggopdojhodaaaGreatProg
namespace Go.Proofs.YtpggopdojhodaaaGreat.L
open Go.RowKit
set_option linter.unusedVariables false
set_option linter.unusedSimpArgs false
def RetC {α : Type} (d : Kn α) (xs : List α) (w : World) (en : Ending) (w' : World) : Prop := ∃ A c, en = .returned (.slice A xs.length c) ∧ xs.length ≤ c ∧ d.C w' (fun b => w.heap.size ≤ b) A xs ∧ Below w.heap.size w w'
theorem endC_one {w : World} {ok : Nat → Prop} {g : Nat} (hok : ok g) (hg : g < w.heap.size) {a : End} (h0 : w.cell? ⟨g, 0, none⟩ = some (.int .i64 a.piece)) (h1 : w.cell? ⟨g, 1, none⟩ = some (.int .i64 a.side)) : endK.C w ok (some ⟨g, 0, none⟩) [a] :=
  ⟨by simp, fun _ => ⟨_, rfl, hok, hg, fun j x hj => by
    obtain ⟨h2, h3⟩ := List.getElem?_eq_some_iff.1 hj
    simp only [List.length_singleton] at h2
    obtain rfl : j = 0 := by omega
    simp only [List.getElem_cons_zero] at h3
    subst h3
    refine ⟨a.cs, endK_mk _ _ _, fun i u hu => ?_⟩
    rw [add_zero, Nat.zero_mul, Nat.zero_add]
    match i, hu with
    | 0, hu => simp at hu; subst hu; exact h0
    | 1, hu => simp at hu; subst hu; exact h1⟩⟩
theorem endC_two {w : World} {ok : Nat → Prop} {g : Nat} (hok : ok g) (hg : g < w.heap.size) {a b : End} (h0 : w.cell? ⟨g, 0, none⟩ = some (.int .i64 a.piece)) (h1 : w.cell? ⟨g, 1, none⟩ = some (.int .i64 a.side)) (h2 : w.cell? ⟨g, 2, none⟩ = some (.int .i64 b.piece)) (h3 : w.cell? ⟨g, 3, none⟩ = some (.int .i64 b.side)) : endK.C w ok (some ⟨g, 0, none⟩) [a, b] :=
  ⟨by simp, fun _ => ⟨_, rfl, hok, hg, fun j x hj => by
    have hl := (List.getElem?_eq_some_iff.1 hj).1
    simp only [List.length_cons, List.length_nil] at hl
    match j, hj with
    | 0, hj =>
      simp at hj
      subst hj
      refine ⟨a.cs, endK_mk _ _ _, fun i u hu => ?_⟩
      rw [add_zero, Nat.zero_mul, Nat.zero_add]
      match i, hu with
      | 0, hu => simp at hu; subst hu; exact h0
      | 1, hu => simp at hu; subst hu; exact h1
    | 1, hj =>
      simp at hj
      subst hj
      refine ⟨b.cs, endK_mk _ _ _, fun i u hu => ?_⟩
      rw [add_zero]
      match i, hu with
      | 0, hu => simp at hu; subst hu; exact h2
      | 1, hu => simp at hu; subst hu; exact h3⟩⟩
theorem endC_blk {w : World} {ok : Nat → Prop} {g t : Nat} {a : End} (h : Blk w g t [.int .i64 a.piece, .int .i64 a.side]) (hok : ok g) : endK.C w ok (some ⟨g, 0, none⟩) [a] := endC_one hok h.lt (h.cell 0 rfl) (h.cell 1 rfl)
theorem Blk_drew {w : World} {g t : Nat} {cs : List Value} (h : Blk w g t cs) : Blk w.drew g t cs := h
theorem size_alloc (w : World) (o : Obj) : (w.alloc o).heap.size = w.heap.size + 1 := by
  unfold World.alloc
  rw [Array.size_push]
theorem en_at {w : World} {ok : Nat → Prop} {A : Option Addr} {x : Joint} (h : endK.C w ok A x.ends) {k : Nat} (hk : k < x.ends.length) : ∃ ad, A = some ad ∧ w.cell? (ad.add (k * 2)) = some (.int .i64 (en x k).piece) ∧ w.cell? ⟨(ad.add (k * 2)).block, (ad.add (k * 2)).off + 1, none⟩ = some (.int .i64 (en x k).side) := by
  obtain ⟨ad, e, y0, y1, E, g0, g1⟩ := endK_at h k hk
  have := (en_get hk).symm.trans E.out
  injection this with this
  refine ⟨ad, e, ?_, ?_⟩
  · rw [this]
    exact g0
  · rw [this]
    exact g1
theorem add_pos (a : Addr) {m : Nat} (h : 0 < m) : a.add m = ⟨a.block, a.off + m, none⟩ := by unfold Addr.add; rw [if_neg (by omega)]
theorem en_pos {w : World} {ok : Nat → Prop} {A : Option Addr} {x : Joint} (h : endK.C w ok A x.ends) {k m : Nat} (hk : k < x.ends.length) (h0 : 0 < k) (hm : m = k * 2) : ∃ ad, A = some ad ∧ w.cell? ⟨ad.block, ad.off + m, none⟩ = some (.int .i64 (en x k).piece) ∧ w.cell? ⟨ad.block, ad.off + m + 1, none⟩ = some (.int .i64 (en x k).side) := by
  subst hm
  obtain ⟨ad, e, g0, g1⟩ := en_at h hk
  rw [add_pos _ (by omega)] at g0 g1
  exact ⟨ad, e, g0, g1⟩
theorem en_zero {w : World} {ok : Nat → Prop} {A : Option Addr} {x : Joint} (h : endK.C w ok A x.ends) (hk : 0 < x.ends.length) : ∃ ad, A = some ad ∧ w.cell? ad = some (.int .i64 (en x 0).piece) ∧ w.cell? ⟨ad.block, ad.off + 1, none⟩ = some (.int .i64 (en x 0).side) := by
  obtain ⟨ad, e, g0, g1⟩ := en_at h hk
  have h0 : ad.add (0 * 2) = ad := by unfold Addr.add; simp
  rw [h0] at g0 g1
  exact ⟨ad, e, g0, g1⟩
set_option maxRecDepth 100000 in
set_option maxHeartbeats 8000000 in
theorem specAcross {ok : Nat → Prop} (x : Joint) (A2 : Option Addr) (c2 k m : Nat) (w : World) (h : endK.C w ok A2 x.ends) (hx : jointP m x) (hk : k < x.ends.length) :
    Calls Tryz.prog 79 #[.agg #[.int .i64 x.kind, .string x.name, .slice A2 x.ends.length c2], .int .i64 k] w (RetC endK (across x k) w) := by
  have hm := h.1
  obtain ⟨⟨x1, x2⟩, x3, _⟩ := hx
  have HC := Lib.hid (Kn.C_below (below_alloc w (.cells #[.int .i64 x.kind, .string x.name, .slice A2 x.ends.length c2] 139)) h)
  rcases (show x.kind = 1 ∨ x.kind = 2 ∨ x.kind = 3 ∨ x.kind = 4 by omega) with e | e | e | e
  · have HA : Hid (across x k = []) := Lib.hid (by unfold across; rw [e]; rfl)
    have d2 : (x.kind == 2) = false := int_eqf (by omega)
    have d3 : (x.kind == 3) = false := int_eqf (by omega)
    have d4 : (x.kind == 4) = false := int_eqf (by omega)
    clear e
    go_enter Tryz.func79, Tryz.ntmps79
    go_wp2
    go_ret
    exact ⟨none, 0, by rw [HA.out]; rfl, by rw [HA.out]; simp, by rw [HA.out]; exact Kn.C_nil, below_alloc _ _⟩
  · have d2 : (x.kind == 2) = true := int_eqt e
    rcases (show k = 0 ∨ k = 1 by omega) with rfl | rfl
    · have HA : Hid (across x 0 = [en x 1]) := Lib.hid (by unfold across; rw [if_pos e])
      obtain ⟨ad, rfl, g0, g1⟩ := en_pos (k := 1) (m := 2) HC.out (by omega) (by omega) rfl
      have l0 : (0 : Int) < (x.ends.length : Int) := by omega
      have l1 : (1 : Int) < (x.ends.length : Int) := by omega
      clear e
      go_enter Tryz.func79, Tryz.ntmps79
      go_wp2
      go_ret
      exact ⟨_, 1, by rw [HA.out]; rfl, by rw [HA.out]; simp, by rw [HA.out]; exact endC_one (by simp) (by simp) (by simp) (by simp), by repeat' first | exact Below.refl _ _ | (refine below_drewN ?_ _) | (refine Below.drew ?_) | (refine Below.alloc ?_ (by simp; try omega) _)⟩
    · have HA : Hid (across x 1 = [en x 0]) := Lib.hid (by unfold across; rw [if_pos e])
      obtain ⟨ad, rfl, g0, g1⟩ := en_zero HC.out (by omega)
      have l0 : (0 : Int) < (x.ends.length : Int) := by omega
      have l1 : (1 : Int) < (x.ends.length : Int) := by omega
      clear e
      go_enter Tryz.func79, Tryz.ntmps79
      go_wp2
      go_ret
      exact ⟨_, 1, by rw [HA.out]; rfl, by rw [HA.out]; simp, by rw [HA.out]; exact endC_one (by simp) (by simp) (by simp) (by simp), by repeat' first | exact Below.refl _ _ | (refine below_drewN ?_ _) | (refine Below.drew ?_) | (refine Below.alloc ?_ (by simp; try omega) _)⟩
  · have d2 : (x.kind == 2) = false := int_eqf (by omega)
    have d3 : (x.kind == 3) = true := int_eqt e
    have l0 : (0 : Int) < (x.ends.length : Int) := by omega
    have l1 : (1 : Int) < (x.ends.length : Int) := by omega
    have l2 : (2 : Int) < (x.ends.length : Int) := by omega
    by_cases h0 : k = 0
    · subst h0
      have HA : Hid (across x 0 = [en x 1, en x 2]) := Lib.hid (by unfold across; rw [if_neg (by omega), if_pos e, if_pos rfl])
      obtain ⟨ad, rfl, g0, g1⟩ := en_pos (k := 1) (m := 2) HC.out (by omega) (by omega) rfl
      obtain ⟨ad', he, g2, g3⟩ := en_pos (k := 2) (m := 4) HC.out (by omega) (by omega) rfl
      obtain rfl := Option.some.inj he
      clear e he
      go_enter Tryz.func79, Tryz.ntmps79
      go_wp2
      go_region
      all_goals (try go_wp2)
      all_goals go_ret
      all_goals exact ⟨_, 2, by rw [HA.out]; rfl, by rw [HA.out]; simp, by rw [HA.out]; exact endC_two (by simp) (by simp) (by simp) (by simp) (by simp) (by simp), by repeat' first | exact Below.refl _ _ | (refine below_drewN ?_ _) | (refine Below.drew ?_) | (refine Below.alloc ?_ (by simp; try omega) _)⟩
    · have HA : Hid (across x k = [en x 0]) := Lib.hid (by unfold across; rw [if_neg (by omega), if_pos e, if_neg h0])
      obtain ⟨ad, rfl, g0, g1⟩ := en_zero HC.out (by omega)
      have d0 : ((k : Int) == 0) = false := int_eqf (by omega)
      clear e h0
      go_enter Tryz.func79, Tryz.ntmps79
      go_wp2
      go_ret
      exact ⟨_, 1, by rw [HA.out]; rfl, by rw [HA.out]; simp, by rw [HA.out]; exact endC_one (by simp) (by simp) (by simp) (by simp), by repeat' first | exact Below.refl _ _ | (refine below_drewN ?_ _) | (refine Below.drew ?_) | (refine Below.alloc ?_ (by simp; try omega) _)⟩
  · have d2 : (x.kind == 2) = false := int_eqf (by omega)
    have d3 : (x.kind == 3) = false := int_eqf (by omega)
    have d4 : (x.kind == 4) = true := int_eqt e
    have l0 : (0 : Int) < (x.ends.length : Int) := by omega
    have l1 : (1 : Int) < (x.ends.length : Int) := by omega
    have l2 : (2 : Int) < (x.ends.length : Int) := by omega
    have l3 : (3 : Int) < (x.ends.length : Int) := by omega
    have HX : Hid (across x k = [en x (xr k)]) := Lib.hid (by unfold across; rw [if_neg (by omega), if_neg (by omega), if_pos e])
    rcases (show k = 0 ∨ k = 1 ∨ k = 2 ∨ k = 3 by omega) with rfl | rfl | rfl | rfl
    · have HA : Hid (across x 0 = [en x 1]) := HX
      obtain ⟨ad, rfl, g0, g1⟩ := en_pos (k := 1) (m := 2) HC.out (by omega) (by omega) rfl
      have gb := World.block_lt_of_cell? _ _ g0
      have gb' : ad.block < w.heap.size + 1 := by simpa using gb
      clear e HX x3 gb
      go_enter Tryz.func79, Tryz.ntmps79
      go_wp2
      go_region
      all_goals (try go_wp2)
      all_goals go_ret
      all_goals (refine ⟨_, 1, by rw [HA.out]; rfl, by rw [HA.out]; simp, ?_, ?_⟩)
      all_goals first | (rw [HA.out]; refine endC_blk (t := 136) (Blk_drew (Blk.new _ _ _ ?_)) ?_; rw [size_alloc, size_alloc]; show w.heap.size ≤ w.heap.size + 1 + 1; omega) | (rw [HA.out]; refine endC_blk (t := 136) (Blk_drew (Blk.new _ _ _ ?_)) ?_; rw [size_alloc]; show w.heap.size ≤ w.heap.size + 1; omega) | (repeat' first | exact Below.refl _ _ | (refine below_drewN ?_ _) | (refine Below.drew ?_) | (refine Below.alloc ?_ (by simp; try omega) _))
    · have HA : Hid (across x 1 = [en x 0]) := HX
      obtain ⟨ad, rfl, g0, g1⟩ := en_zero HC.out (by omega)
      have gb := World.block_lt_of_cell? _ _ g0
      have gb' : ad.block < w.heap.size + 1 := by simpa using gb
      clear e HX x3 gb
      go_enter Tryz.func79, Tryz.ntmps79
      go_wp2
      go_region
      all_goals (try go_wp2)
      all_goals go_ret
      all_goals (refine ⟨_, 1, by rw [HA.out]; rfl, by rw [HA.out]; simp, ?_, ?_⟩)
      all_goals first | (rw [HA.out]; refine endC_blk (t := 136) (Blk_drew (Blk.new _ _ _ ?_)) ?_; rw [size_alloc, size_alloc]; show w.heap.size ≤ w.heap.size + 1 + 1; omega) | (rw [HA.out]; refine endC_blk (t := 136) (Blk_drew (Blk.new _ _ _ ?_)) ?_; rw [size_alloc]; show w.heap.size ≤ w.heap.size + 1; omega) | (repeat' first | exact Below.refl _ _ | (refine below_drewN ?_ _) | (refine Below.drew ?_) | (refine Below.alloc ?_ (by simp; try omega) _))
    · have HA : Hid (across x 2 = [en x 3]) := HX
      obtain ⟨ad, rfl, g0, g1⟩ := en_pos (k := 3) (m := 6) HC.out (by omega) (by omega) rfl
      have gb := World.block_lt_of_cell? _ _ g0
      have gb' : ad.block < w.heap.size + 1 := by simpa using gb
      clear e HX x3 gb
      go_enter Tryz.func79, Tryz.ntmps79
      go_wp2
      go_region
      all_goals (try go_wp2)
      all_goals go_ret
      all_goals (refine ⟨_, 1, by rw [HA.out]; rfl, by rw [HA.out]; simp, ?_, ?_⟩)
      all_goals first | (rw [HA.out]; refine endC_blk (t := 136) (Blk_drew (Blk.new _ _ _ ?_)) ?_; rw [size_alloc, size_alloc]; show w.heap.size ≤ w.heap.size + 1 + 1; omega) | (rw [HA.out]; refine endC_blk (t := 136) (Blk_drew (Blk.new _ _ _ ?_)) ?_; rw [size_alloc]; show w.heap.size ≤ w.heap.size + 1; omega) | (repeat' first | exact Below.refl _ _ | (refine below_drewN ?_ _) | (refine Below.drew ?_) | (refine Below.alloc ?_ (by simp; try omega) _))
    · have HA : Hid (across x 3 = [en x 2]) := HX
      obtain ⟨ad, rfl, g0, g1⟩ := en_pos (k := 2) (m := 4) HC.out (by omega) (by omega) rfl
      have gb := World.block_lt_of_cell? _ _ g0
      have gb' : ad.block < w.heap.size + 1 := by simpa using gb
      clear e HX x3 gb
      go_enter Tryz.func79, Tryz.ntmps79
      go_wp2
      go_region
      all_goals (try go_wp2)
      all_goals go_ret
      all_goals (refine ⟨_, 1, by rw [HA.out]; rfl, by rw [HA.out]; simp, ?_, ?_⟩)
      all_goals first | (rw [HA.out]; refine endC_blk (t := 136) (Blk_drew (Blk.new _ _ _ ?_)) ?_; rw [size_alloc, size_alloc]; show w.heap.size ≤ w.heap.size + 1 + 1; omega) | (rw [HA.out]; refine endC_blk (t := 136) (Blk_drew (Blk.new _ _ _ ?_)) ?_; rw [size_alloc]; show w.heap.size ≤ w.heap.size + 1; omega) | (repeat' first | exact Below.refl _ _ | (refine below_drewN ?_ _) | (refine Below.drew ?_) | (refine Below.alloc ?_ (by simp; try omega) _))
end Go.Proofs.YtpggopdojhodaaaGreat.L
namespace Go.Proofs.YtpggopdojhodaaaGreat.L
open Go.RowKit
set_option linter.unusedVariables false
set_option linter.unusedSimpArgs false
def howOf (x : Joint) (k : Nat) : List Int := if x.kind = 3 then (if k = 0 then [1, 2] else [(k : Int)]) else if x.kind = 1 then [] else [0]
def RetO (xs : List End) (hs : List Int) (w : World) (en : Ending) (w' : World) : Prop := ∃ A c B d, en = .returned (.tuple #[.slice A xs.length c, .slice B hs.length d]) ∧ xs.length ≤ c ∧ endK.C w' (fun b => w.heap.size ≤ b) A xs ∧ Kn.int.C w' (fun b => w.heap.size ≤ b) B hs ∧ Below w.heap.size w w'
theorem intC_one {w : World} {ok : Nat → Prop} {g t : Nat} {v : Int} (h : Blk w g t [.int .i64 v]) (hok : ok g) : Kn.int.C w ok (some ⟨g, 0, none⟩) [v] :=
  ⟨by simp, fun _ => ⟨_, rfl, hok, h.lt, fun j x hj => by
    obtain ⟨h2, h3⟩ := List.getElem?_eq_some_iff.1 hj
    simp only [List.length_singleton] at h2
    obtain rfl : j = 0 := by omega
    simp only [List.getElem_cons_zero] at h3
    subst h3
    refine ⟨[.int .i64 v], rfl, fun i u hu => ?_⟩
    rw [add_zero, Nat.zero_mul, Nat.zero_add]
    exact h.cell i hu⟩⟩
theorem intC_two {w : World} {ok : Nat → Prop} {g t : Nat} {u v : Int} (h : Blk w g t [.int .i64 u, .int .i64 v]) (hok : ok g) : Kn.int.C w ok (some ⟨g, 0, none⟩) [u, v] :=
  ⟨by simp, fun _ => ⟨_, rfl, hok, h.lt, fun j x hj => by
    have hl := (List.getElem?_eq_some_iff.1 hj).1
    simp only [List.length_cons, List.length_nil] at hl
    match j, hj with
    | 0, hj =>
      simp at hj
      subst hj
      refine ⟨[.int .i64 u], rfl, fun i z hz => ?_⟩
      match i, hz with
      | 0, hz => simp at hz; subst hz; exact h.cell 0 rfl
    | 1, hj =>
      simp at hj
      subst hj
      refine ⟨[.int .i64 v], rfl, fun i z hz => ?_⟩
      match i, hz with
      | 0, hz => simp at hz; subst hz; exact h.cell 1 rfl⟩⟩
theorem endC_blk2 {w : World} {ok : Nat → Prop} {g t : Nat} {a b : End} (h : Blk w g t [.int .i64 a.piece, .int .i64 a.side, .int .i64 b.piece, .int .i64 b.side]) (hok : ok g) : endK.C w ok (some ⟨g, 0, none⟩) [a, b] := endC_two hok h.lt (h.cell 0 rfl) (h.cell 1 rfl) (h.cell 2 rfl) (h.cell 3 rfl)
theorem overEnd2 {xs : List End} {hs : List Int} {a b : End} {u v : Int} {w w1 : World} (hx : xs = [a, b]) (hh : hs = [u, v]) (hb : Below w.heap.size w w1) :
    RetO xs hs w (.returned (.tuple #[.slice (some ⟨w1.heap.size, 0, none⟩) 2 2, .slice (some ⟨w1.heap.size + 1, 0, none⟩) 2 2])) ((w1.alloc (.cells #[.int .i64 a.piece, .int .i64 a.side, .int .i64 b.piece, .int .i64 b.side] 136)).alloc (.cells #[.int .i64 u, .int .i64 v] 3)).drew := by
  subst hx hh
  have hs := hb.size
  refine ⟨_, 2, _, 2, rfl, by simp, ?_, ?_, ?_⟩
  · exact endC_blk2 (t := 136) (Blk_drew ((Blk.new _ _ _ rfl).alloc _)) hs
  · exact intC_two (t := 3) (Blk_drew (Blk.new _ _ _ (by rw [size_alloc]))) (by show w.heap.size ≤ w1.heap.size + 1; omega)
  · exact ((hb.alloc hs _).alloc (by rw [size_alloc]; omega) _).drew
theorem overEnd2' {xs : List End} {hs : List Int} {a b : End} {u v : Int} {w w1 : World} (hx : xs = [a, b]) (hh : hs = [u, v]) (hb : Below w.heap.size w w1) :
    RetO xs hs w (.returned (.tuple #[.slice (some ⟨w1.heap.size + 1, 0, none⟩) 2 2, .slice (some ⟨w1.heap.size, 0, none⟩) 2 2])) ((w1.alloc (.cells #[.int .i64 u, .int .i64 v] 3)).alloc (.cells #[.int .i64 a.piece, .int .i64 a.side, .int .i64 b.piece, .int .i64 b.side] 136)).drew := by
  subst hx hh
  have hs := hb.size
  refine ⟨_, 2, _, 2, rfl, by simp, ?_, ?_, ?_⟩
  · exact endC_blk2 (t := 136) (Blk_drew (Blk.new _ _ _ (by rw [size_alloc]))) (by show w.heap.size ≤ w1.heap.size + 1; omega)
  · exact intC_two (t := 3) (Blk_drew ((Blk.new _ _ _ rfl).alloc _)) hs
  · exact ((hb.alloc hs _).alloc (by rw [size_alloc]; omega) _).drew
theorem overEnd1 {xs : List End} {hs : List Int} {a : End} {v : Int} {w w1 : World} (hx : xs = [a]) (hh : hs = [v]) (hb : Below w.heap.size w w1) :
    RetO xs hs w (.returned (.tuple #[.slice (some ⟨w1.heap.size, 0, none⟩) 1 1, .slice (some ⟨w1.heap.size + 1, 0, none⟩) 1 1])) ((w1.alloc (.cells #[.int .i64 a.piece, .int .i64 a.side] 136)).alloc (.cells #[.int .i64 v] 3)) := by
  subst hx hh
  have hs := hb.size
  refine ⟨_, 1, _, 1, rfl, by simp, ?_, ?_, ?_⟩
  · exact endC_blk (t := 136) ((Blk.new _ _ _ rfl).alloc _) hs
  · exact intC_one (t := 3) (Blk.new _ _ _ (by rw [size_alloc])) (by show w.heap.size ≤ w1.heap.size + 1; omega)
  · exact (hb.alloc hs _).alloc (by rw [size_alloc]; omega) _
set_option maxRecDepth 100000 in
set_option maxHeartbeats 8000000 in
theorem implOver {ok : Nat → Prop} (n : Net) (A0 A1 : Option Addr) (c0 c1 : Nat) (e : End) (w : World) (h : NC 136 w ok n A0 A1) (hg : Hid (Good n)) (he : Hid (endP n.pieces.length e)) :
    Calls Tryz.prog 130 #[.agg #[.slice A0 n.pieces.length c0, .slice A1 n.joints.length c1], e.v] w (RetO (across (jt n (atJ n e).1) (atJ n e).2) (howOf (jt n (atJ n e).1) (atJ n e).2) w) := by
  obtain ⟨j, k, x, hat, hjk, hx, hP, hjl, hkl⟩ := at_get hg.out he.out
  have HJK := Lib.hid hjk
  obtain ⟨p, s⟩ := e
  have hgoal : Hid (across (jt n (atJ n ⟨p, s⟩).1) (atJ n ⟨p, s⟩).2 = across x k ∧ howOf (jt n (atJ n ⟨p, s⟩).1) (atJ n ⟨p, s⟩).2 = howOf x k) := Lib.hid (by rw [hjk]; simp only [hx]; exact ⟨trivial, trivial⟩)
  have hmj := h.j.1
  rw [hgoal.out.1, hgoal.out.2]
  clear hgoal hjk hx
  go_enter Tryz.func130, Tryz.ntmps130
  go_wp2_with fail
  obtain ⟨W0, hW, HB0, h0, f0, f1⟩ : ∃ W, W = (w.alloc (.cells #[.slice A0 n.pieces.length c0, .slice A1 n.joints.length c1] 34)).alloc (.cells #[.int .i64 p, .int .i64 s] 136) ∧ Below w.heap.size w W ∧ w.heap.size < W.heap.size ∧
    W.cell? ⟨w.heap.size, 0, none⟩ = some (.slice A0 n.pieces.length c0) ∧ W.cell? ⟨w.heap.size, 1, none⟩ = some (.slice A1 n.joints.length c1) := ⟨_, rfl, (below_alloc _ _).alloc (by simp) _, by simp; omega, by simp, by simp⟩
  rw [← hW]
  clear hW
  refine (implAt n A0 A1 c0 c1 ⟨p, s⟩ _ (h.below HB0) hg he).mono ?_
  rintro e w1 ⟨rfl, hb1⟩
  rw [HJK.out]
  have HBW := HB0.trans (hb1.mono HB0.size)
  have g0 := cell_below hb1 f0
  have g1 := cell_below hb1 f1
  have hs1 : w.heap.size < w1.heap.size := by have := hb1.size; omega
  clear f0 f1 h0
  obtain ⟨a1, rfl, y, E, A2, c2, q0, q1, q2, l2, C2⟩ := jointK_at (Kn.C_below HBW h.j) j hjl
  have hy := hat.1.symm.trans E.out
  injection hy with hy
  subst hy
  have i0 : (0 : Int) ≤ (j : Int) := Int.natCast_nonneg _
  have i1 : (j : Int) < (n.joints.length : Int) := by omega
  have d0 : decide ((j : Int) < 0) = false := decide_eq_false (by omega)
  have hme := C2.1
  clear hat E
  obtain ⟨⟨x1, x2⟩, x3, _⟩ := hP
  rcases (show x.kind = 1 ∨ x.kind = 2 ∨ x.kind = 3 ∨ x.kind = 4 by omega) with e | e | e | e
  · have HA : Hid (across x k = []) := Lib.hid (by unfold across; rw [e]; rfl)
    have HH : Hid (howOf x k = []) := Lib.hid (by unfold howOf; rw [if_neg (by omega), if_pos e])
    have d2 : (x.kind == 2) = false := int_eqf (by omega)
    have d3 : (x.kind == 3) = false := int_eqf (by omega)
    have d4 : (x.kind == 4) = false := int_eqf (by omega)
    clear e x3
    go_wp2
    go_ret2
    exact ⟨none, 0, none, 0, by rw [HA.out, HH.out]; rfl, by rw [HA.out]; simp, by rw [HA.out]; exact Kn.C_nil, by rw [HH.out]; exact Kn.C_nil, HBW⟩
  · have d2 : (x.kind == 2) = true := int_eqt e
    have HH : Hid (howOf x k = [0]) := Lib.hid (by unfold howOf; rw [if_neg (by omega), if_neg (by omega)])
    have l0 : (0 : Int) < (x.ends.length : Int) := by omega
    have l1 : (1 : Int) < (x.ends.length : Int) := by omega
    rcases (show k = 0 ∨ k = 1 by omega) with rfl | rfl
    · have HA : Hid (across x 0 = [en x 1]) := Lib.hid (by unfold across; rw [if_pos e])
      obtain ⟨ad, rfl, u0, u1⟩ := en_pos (k := 1) (m := 2) C2 (by omega) (by omega) rfl
      clear e x3
      go_wp2
      go_ret2
      exact overEnd1 HA.out HH.out HBW
    · have HA : Hid (across x 1 = [en x 0]) := Lib.hid (by unfold across; rw [if_pos e])
      obtain ⟨ad, rfl, u0, u1⟩ := en_zero C2 (by omega)
      clear e x3
      go_wp2
      go_ret2
      exact overEnd1 HA.out HH.out HBW
  · have d2 : (x.kind == 2) = false := int_eqf (by omega)
    have d3 : (x.kind == 3) = true := int_eqt e
    have l0 : (0 : Int) < (x.ends.length : Int) := by omega
    have l1 : (1 : Int) < (x.ends.length : Int) := by omega
    have l2 : (2 : Int) < (x.ends.length : Int) := by omega
    by_cases h0 : k = 0
    · subst h0
      have HA : Hid (across x 0 = [en x 1, en x 2]) := Lib.hid (by unfold across; rw [if_neg (by omega), if_pos e, if_pos rfl])
      have HH : Hid (howOf x 0 = [1, 2]) := Lib.hid (by unfold howOf; rw [if_pos e, if_pos rfl])
      obtain ⟨ad, rfl, u0, u1⟩ := en_pos (k := 1) (m := 2) C2 (by omega) (by omega) rfl
      obtain ⟨ad', he', u2, u3⟩ := en_pos (k := 2) (m := 4) C2 (by omega) (by omega) rfl
      obtain rfl := Option.some.inj he'
      have gb := World.block_lt_of_cell? _ _ u0
      clear e he' x3
      go_wp2
      go_region
      all_goals (try go_wp2)
      all_goals go_ret2
      all_goals first | exact overEnd2 HA.out HH.out HBW | exact overEnd2' HA.out HH.out HBW
    · have HA : Hid (across x k = [en x 0]) := Lib.hid (by unfold across; rw [if_neg (by omega), if_pos e, if_neg h0])
      have HH : Hid (howOf x k = [(k : Int)]) := Lib.hid (by unfold howOf; rw [if_pos e, if_neg h0])
      obtain ⟨ad, rfl, u0, u1⟩ := en_zero C2 (by omega)
      have d5 : ((k : Int) == 0) = false := int_eqf (by omega)
      clear e h0 x3
      go_wp2
      go_ret2
      exact overEnd1 HA.out HH.out HBW
  · have d2 : (x.kind == 2) = false := int_eqf (by omega)
    have d3 : (x.kind == 3) = false := int_eqf (by omega)
    have d4 : (x.kind == 4) = true := int_eqt e
    have l0 : (0 : Int) < (x.ends.length : Int) := by omega
    have l1 : (1 : Int) < (x.ends.length : Int) := by omega
    have l2 : (2 : Int) < (x.ends.length : Int) := by omega
    have l3 : (3 : Int) < (x.ends.length : Int) := by omega
    have HX : Hid (across x k = [en x (xr k)]) := Lib.hid (by unfold across; rw [if_neg (by omega), if_neg (by omega), if_pos e])
    have HH : Hid (howOf x k = [0]) := Lib.hid (by unfold howOf; rw [if_neg (by omega), if_neg (by omega)])
    rcases (show k = 0 ∨ k = 1 ∨ k = 2 ∨ k = 3 by omega) with rfl | rfl | rfl | rfl
    · have HA : Hid (across x 0 = [en x 1]) := HX
      obtain ⟨ad, rfl, u0, u1⟩ := en_pos (k := 1) (m := 2) C2 (by omega) (by omega) rfl
      have hbx : bits BinOp.xor IntKind.i64 0 1 = 1 := by kernel_rfl
      clear e HX x3
      go_wp2
      go_ret2
      exact overEnd1 HA.out HH.out HBW
    · have HA : Hid (across x 1 = [en x 0]) := HX
      obtain ⟨ad, rfl, u0, u1⟩ := en_zero C2 (by omega)
      have hbx : bits BinOp.xor IntKind.i64 1 1 = 0 := by kernel_rfl
      clear e HX x3
      go_wp2
      go_ret2
      exact overEnd1 HA.out HH.out HBW
    · have HA : Hid (across x 2 = [en x 3]) := HX
      obtain ⟨ad, rfl, u0, u1⟩ := en_pos (k := 3) (m := 6) C2 (by omega) (by omega) rfl
      have hbx : bits BinOp.xor IntKind.i64 2 1 = 3 := by kernel_rfl
      clear e HX x3
      go_wp2
      go_ret2
      exact overEnd1 HA.out HH.out HBW
    · have HA : Hid (across x 3 = [en x 2]) := HX
      obtain ⟨ad, rfl, u0, u1⟩ := en_pos (k := 2) (m := 4) C2 (by omega) (by omega) rfl
      have hbx : bits BinOp.xor IntKind.i64 3 1 = 2 := by kernel_rfl
      clear e HX x3
      go_wp2
      go_ret2
      exact overEnd1 HA.out HH.out HBW
end Go.Proofs.YtpggopdojhodaaaGreat.L
namespace Go.Proofs.YtpggopdojhodaaaGreat.L
open Go.RowKit
open Classical
set_option linter.unusedVariables false
structure Right (n : Net) (ss : List Signal) : Prop where
  g : Good n
  len : ss.length ≤ 60
  sig : ∀ s ∈ ss, signalP n s
theorem right_of_ok {n : Net} {ss : List Signal} (h : signalsOk n ss = ⟨0, 0⟩) : Right n ss := by
  unfold signalsOk at h
  split at h
  · simp at h
  rename_i h1
  split at h
  · simp at h
  rename_i h2
  split at h
  · simp at h
  rename_i h3
  refine ⟨good_of_ok (Classical.byContradiction fun e => h1 e), by omega, fun s hs => Classical.byContradiction fun hb => ?_⟩
  obtain ⟨i, hi⟩ := List.mem_iff_getElem?.1 hs
  exact h3 ⟨i, (List.getElem?_eq_some_iff.1 hi).1, s, hi, hb⟩
theorem pl_at {n : Net} {u : Nat} {z : Piece} (h : n.pieces[u]? = some z) : pl n (u : Int) = z.len := by
  unfold pl
  rw [Int.toNat_natCast, h]
  rfl
theorem pl_in {n : Net} (hg : Good n) {p : Int} (h0 : 0 ≤ p) (h1 : p ≤ (n.pieces.length : Int) - 1) : 1 ≤ pl n p ∧ pl n p ≤ 10000000 := by
  obtain ⟨u, rfl⟩ : ∃ u : Nat, p = u := ⟨p.toNat, by omega⟩
  have hu : u < n.pieces.length := by omega
  have := hg.piece _ (List.getElem_mem hu)
  rw [pl_at (List.getElem?_eq_getElem hu)]
  exact ⟨this.2.1, this.2.2.1⟩
theorem sig_in {n : Net} {ss : List Signal} (hr : Right n ss) {b : Nat} {s : Signal} (h : ss[b]? = some s) : stepP n.pieces.length ⟨s.piece, s.way⟩ ∧ 1 ≤ s.at_ ∧ s.at_ ≤ pl n s.piece - 1 ∧ pl n s.piece ≤ 10000000 := by
  obtain ⟨_, h1, h2, p, h3, h4, h5⟩ := hr.sig _ (mem_of_get h)
  have hp := pl_in hr.g h1.1 h1.2
  have : pl n s.piece = p.len := by
    obtain ⟨u, hu⟩ : ∃ u : Nat, s.piece = u := ⟨s.piece.toNat, by omega⟩
    rw [hu] at h3 ⊢
    rw [Int.toNat_natCast] at h3
    exact pl_at h3
  exact ⟨⟨h1, h2⟩, h4, by omega, hp.2⟩
noncomputable def firstTo (n : Net) (ss : List Signal) (p way far : Int) (k : Nat) : Option Nat := pick ss (fitsW n p way far) (aheadW n p way) k
noncomputable def lastTo (n : Net) (ss : List Signal) (p back : Int) (k : Nat) : Option Nat := pick ss (fitsB p back) (aheadB n p back) k
theorem firstTo_lt {n : Net} {ss : List Signal} {p way far : Int} {k b : Nat} (h : firstTo n ss p way far k = some b) : b < k ∧ b < ss.length ∧ ∃ s, ss[b]? = some s ∧ s.piece = p ∧ s.way = way ∧ far < farOf n p s.at_ way := pick_lt h
theorem lastTo_lt {n : Net} {ss : List Signal} {p back : Int} {k b : Nat} (h : lastTo n ss p back k = some b) : b < k ∧ b < ss.length ∧ ∃ s, ss[b]? = some s ∧ s.piece = p ∧ s.way = back := pick_lt h
theorem firstTo_not {n : Net} {ss : List Signal} {p way far : Int} {k : Nat} {s : Signal} (hs : ss[k]? = some s) (h : ¬ (s.piece = p ∧ s.way = way ∧ far < farOf n p s.at_ way)) : firstTo n ss p way far (k + 1) = firstTo n ss p way far k := pick_not hs h
theorem lastTo_not {n : Net} {ss : List Signal} {p back : Int} {k : Nat} {s : Signal} (hs : ss[k]? = some s) (h : ¬ (s.piece = p ∧ s.way = back)) : lastTo n ss p back (k + 1) = lastTo n ss p back k := pick_not hs h
theorem firstTo_one {n : Net} {ss : List Signal} {p way far : Int} {k : Nat} {s : Signal} (hs : ss[k]? = some s) (h : s.piece = p ∧ s.way = way ∧ far < farOf n p s.at_ way) (h0 : firstTo n ss p way far k = none) : firstTo n ss p way far (k + 1) = some k :=
  pick_yes hs h (fun b t hb => by unfold firstTo at h0; rw [h0] at hb; cases hb)
theorem lastTo_one {n : Net} {ss : List Signal} {p back : Int} {k : Nat} {s : Signal} (hs : ss[k]? = some s) (h : s.piece = p ∧ s.way = back) (h0 : lastTo n ss p back k = none) : lastTo n ss p back (k + 1) = some k :=
  pick_yes hs h (fun b t hb => by unfold lastTo at h0; rw [h0] at hb; cases hb)
theorem firstTo_new {n : Net} {ss : List Signal} {p way far : Int} {k b : Nat} {s t : Signal} (hs : ss[k]? = some s) (h : s.piece = p ∧ s.way = way ∧ far < farOf n p s.at_ way) (h0 : firstTo n ss p way far k = some b) (ht : ss[b]? = some t) (hl : farOf n p s.at_ way < farOf n p t.at_ way) : firstTo n ss p way far (k + 1) = some k :=
  pick_yes hs h (fun b' t' hb ht' => by
    unfold firstTo at h0
    rw [h0] at hb
    obtain rfl := Option.some.inj hb
    rw [ht] at ht'
    obtain rfl := Option.some.inj ht'
    exact hl)
theorem lastTo_new {n : Net} {ss : List Signal} {p back : Int} {k b : Nat} {s t : Signal} (hs : ss[k]? = some s) (h : s.piece = p ∧ s.way = back) (h0 : lastTo n ss p back k = some b) (ht : ss[b]? = some t) (hl : farOf n p t.at_ back < farOf n p s.at_ back) : lastTo n ss p back (k + 1) = some k :=
  pick_yes hs h (fun b' t' hb ht' => by
    unfold lastTo at h0
    rw [h0] at hb
    obtain rfl := Option.some.inj hb
    rw [ht] at ht'
    obtain rfl := Option.some.inj ht'
    exact hl)
theorem firstTo_old {n : Net} {ss : List Signal} {p way far : Int} {k b : Nat} {s t : Signal} (hs : ss[k]? = some s) (h0 : firstTo n ss p way far k = some b) (ht : ss[b]? = some t) (hl : ¬ farOf n p s.at_ way < farOf n p t.at_ way) : firstTo n ss p way far (k + 1) = some b := pick_old hs h0 ht hl
theorem lastTo_old {n : Net} {ss : List Signal} {p back : Int} {k b : Nat} {s t : Signal} (hs : ss[k]? = some s) (h0 : lastTo n ss p back k = some b) (ht : ss[b]? = some t) (hl : ¬ farOf n p t.at_ back < farOf n p s.at_ back) : lastTo n ss p back (k + 1) = some b := pick_old hs h0 ht hl
theorem onum_some (b : Nat) : onum (some b) = (b : Int) := rfl
theorem onum_none : onum none = -1 := rfl
theorem far_fwd (n : Net) (p a : Int) : farOf n p a 1 = a := by unfold farOf; rw [if_pos rfl]
theorem far_back (n : Net) (p a : Int) : farOf n p a (-1) = pl n p - a := by unfold farOf; rw [if_neg (by decide)]
def tilOf (n : Net) (p far left : Int) : Int := if far + left ≤ pl n p then far + left else pl n p
section
variable {n : Net} {m : Nat} {p way far left : Int} {j k : Nat} {x : Joint}
theorem beyond_none (h : left ≤ 0) : beyond n m p way far left = [] := by
  cases m with
  | zero => rfl
  | succ m => rw [beyond, if_pos h]
theorem beyond_last (h : ¬ left ≤ 0) (ha : atJ n (headE p way) = (j, k)) (hx : jt n j = x) (hs : left - (tilOf n p far left - far) = 0 ∨ ¬ x.kind = 2) : beyond n (m + 1) p way far left = [partN n p way far (tilOf n p far left)] := by
  rw [beyond, if_neg h, ha]
  simp only [hx]
  exact if_pos hs
theorem beyond_plain (h : ¬ left ≤ 0) (ha : atJ n (headE p way) = (j, k)) (hx : jt n j = x) (hs : x.kind = 2) :
    beyond n (m + 1) p way far left = partN n p way far (tilOf n p far left) :: beyond n m (en x (1 - k)).piece (wayOf (en x (1 - k))) 0 (left - (tilOf n p far left - far)) := by
  rw [beyond, if_neg h, ha]
  simp only [hx]
  by_cases h0 : left - (tilOf n p far left - far) = 0
  · have h1 : beyond n m (en x (1 - k)).piece (wayOf (en x (1 - k))) 0 (left - (tilOf n p far left - far)) = [] := beyond_none (by omega)
    rw [h1]
    exact if_pos (.inl h0)
  · exact if_neg (fun e => e.elim h0 (fun e => e hs))
theorem til_bounds (h0 : 0 ≤ far) (h1 : far < pl n p) (h : ¬ left ≤ 0) : far < tilOf n p far left ∧ tilOf n p far left ≤ pl n p ∧ tilOf n p far left - far ≤ left := by
  unfold tilOf
  split <;> omega
end
theorem beyond_len {n : Net} : ∀ (m : Nat) (p way far left : Int), 0 ≤ left → stepP n.pieces.length ⟨p, way⟩ → Good n → 0 ≤ far → far < pl n p → ((beyond n m p way far left).length : Int) ≤ left
  | 0, p, way, far, left, h, hs, hg, h0, h1 => by rw [show beyond n 0 p way far left = [] from rfl]; simpa using h
  | m + 1, p, way, far, left, h, hs, hg, h0, h1 => by
    by_cases hl : left ≤ 0
    · rw [beyond_none hl]
      simpa using h
    obtain ⟨j, k, x, hat, h2, h3, h4, h5, h6⟩ := at_get hg (head_ok hs)
    have hb := til_bounds (left := left) h0 h1 hl
    by_cases h7 : x.kind = 2
    · rw [beyond_plain hl h2 h3 h7]
      have hl2 : x.ends.length = 2 := by have := h4.2.1; omega
      have he := en_ok (k := 1 - k) h4 (by omega)
      have hp := pl_in hg he.1.1 he.1.2
      have := beyond_len (n := n) m (en x (1 - k)).piece (wayOf (en x (1 - k))) 0 (left - (tilOf n p far left - far)) (by omega) (step_of_end he) hg (by omega) (by omega)
      rw [List.length_cons]
      omega
    · rw [beyond_last hl h2 h3 (.inr h7)]
      simp
      omega
section
variable {n : Net} {ss : List Signal} {lies : List Lie} {a : Int} {m : Nat} {seen : List End} {fl : List Flank} {e : End} {j k : Nat} {x : Joint}
def backOf (e : End) : Int := if e.side = 0 then -1 else 1
theorem flankF_met (h : e ∈ seen) : flankF n ss lies a m (seen, fl) e = (seen, fl) := by
  cases m with
  | zero => rfl
  | succ m => rw [flankF, if_pos h]
theorem flankF_sig {b : Nat} (h : ¬ e ∈ seen) (hb : lastTo n ss e.piece (backOf e) ss.length = some b) : flankF n ss lies a (m + 1) (seen, fl) e = (seen ++ [e], fl ++ [⟨a, 2, b, 0⟩]) := by
  rw [flankF, if_neg h]
  have : lastS n ss e.piece (if e.side = 0 then -1 else 1) = some b := hb
  simp only [this]
theorem flankF_look (h : ¬ e ∈ seen) (hb : lastTo n ss e.piece (backOf e) ss.length = none) (ha : atJ n ⟨e.piece, 1 - e.side⟩ = (j, k)) (hx : jt n j = x) :
    flankF n ss lies a (m + 1) (seen, fl) e = (if x.kind = 1 then (seen ++ [e], fl ++ [⟨a, 1, j, 0⟩])
      else if x.kind = 3 then
        if k = 0 then flankF n ss lies a m (flankF n ss lies a m (seen ++ [e], fl) (en x 1)) (en x 2)
        else if (⟨j, k⟩ : Lie) ∈ lies then (seen ++ [e], fl ++ [⟨a, 4, j, 0⟩])
        else (seen ++ [e], fl ++ [⟨a, 3, j, 3 - k⟩])
      else flankF n ss lies a m (seen ++ [e], fl) ((across x k).headD ⟨0, 0⟩)) := by
  rw [flankF, if_neg h]
  have : lastS n ss e.piece (if e.side = 0 then -1 else 1) = none := hb
  simp only [this, ha, hx]
theorem flankF_app : ∀ (m : Nat) (seen : List End) (fl : List Flank) (e : End), flankF n ss lies a m (seen, fl) e = ((flankF n ss lies a m (seen, []) e).1, fl ++ (flankF n ss lies a m (seen, []) e).2)
  | 0, seen, fl, e => by simp [flankF]
  | m + 1, seen, fl, e => by
    by_cases h : e ∈ seen
    · rw [flankF_met h, flankF_met h]
      simp
    cases hb : lastTo n ss e.piece (backOf e) ss.length with
    | some b =>
      rw [flankF_sig h hb, flankF_sig h hb]
      simp
    | none =>
      obtain ⟨j, k, ha⟩ : ∃ j k, atJ n ⟨e.piece, 1 - e.side⟩ = (j, k) := ⟨_, _, rfl⟩
      rw [flankF_look h hb ha rfl, flankF_look h hb ha rfl]
      split
      · simp
      split
      · split
        · have h1 := flankF_app m (seen ++ [e]) fl (en (jt n j) 1)
          rw [h1]
          have h2 := flankF_app m (flankF n ss lies a m (seen ++ [e], []) (en (jt n j) 1)).1 (fl ++ (flankF n ss lies a m (seen ++ [e], []) (en (jt n j) 1)).2) (en (jt n j) 2)
          have h3 := flankF_app m (flankF n ss lies a m (seen ++ [e], []) (en (jt n j) 1)).1 (flankF n ss lies a m (seen ++ [e], []) (en (jt n j) 1)).2 (en (jt n j) 2)
          rw [h2]
          have h4 : flankF n ss lies a m (flankF n ss lies a m (seen ++ [e], []) (en (jt n j) 1)) (en (jt n j) 2) = flankF n ss lies a m ((flankF n ss lies a m (seen ++ [e], []) (en (jt n j) 1)).1, (flankF n ss lies a m (seen ++ [e], []) (en (jt n j) 1)).2) (en (jt n j) 2) := rfl
          rw [h4, h3]
          simp
        · split <;> simp
      · exact flankF_app m _ _ _
end
noncomputable def flanksTo (n : Net) (ss : List Signal) (lies : List Lie) (i : Nat) : List Flank := ((lies.take i).map (flanksAt n ss lies)).flatten
theorem flanksTo_zero (n : Net) (ss : List Signal) (lies : List Lie) : flanksTo n ss lies 0 = [] := by simp [flanksTo]
theorem flanksTo_all (n : Net) (ss : List Signal) (lies : List Lie) : flanksTo n ss lies lies.length = flanksOf n ss lies := by simp [flanksTo, flanksOf]
theorem flanksTo_succ {n : Net} {ss : List Signal} {lies : List Lie} {i : Nat} {l : Lie} (h : lies[i]? = some l) : flanksTo n ss lies (i + 1) = flanksTo n ss lies i ++ flanksAt n ss lies l := by
  unfold flanksTo
  obtain ⟨hi, rfl⟩ := List.getElem?_eq_some_iff.1 h
  rw [List.take_succ_eq_append_getElem hi, List.map_append, List.flatten_append]
  simp only [List.map_cons, List.map_nil, List.flatten_cons, List.flatten_nil, List.append_nil]
theorem flanksAt_len {n : Net} {ss : List Signal} {lies : List Lie} {l : Lie} (hg : Good n) (hl : lieP n l) : (flanksAt n ss lies l).length ≤ 2 * n.pieces.length := by
  obtain ⟨j, h1, h2, h3, h4⟩ := hl
  have hj : jt n j = n.joints[j] := by unfold jt; rw [List.getD_eq_getElem?_getD, List.getElem?_eq_getElem h2]; rfl
  have hP := hg.joint _ (List.getElem_mem h2)
  rw [← hj] at hP
  have hlen : (jt n j).ends.length = 3 := by have := hP.2.1; omega
  unfold flanksAt
  have e1 : l.joint.toNat = j := by omega
  have he : endP n.pieces.length (en (jt n l.joint.toNat) (3 - l.lie).toNat) := by
    rw [e1]
    exact en_ok hP (by omega)
  have hs := flankF_seen (ss := ss) (lies := lies) (a := l.joint) hg (2 * n.pieces.length + 1) ([], []) _ he (by simp) (by simp)
  have hl := flankF_len (n := n) (ss := ss) (lies := lies) (a := l.joint) (2 * n.pieces.length + 1) ([], []) (en (jt n l.joint.toNat) (3 - l.lie).toNat)
  have hb := ends_bound hs.1 hs.2.1
  simp only [List.length_nil] at hl
  omega
theorem flanksTo_len {n : Net} {ss : List Signal} {lies : List Lie} (hg : Good n) (hl : ∀ l ∈ lies, lieP n l) : ∀ i, (flanksTo n ss lies i).length ≤ i * (2 * n.pieces.length)
  | 0 => by rw [flanksTo_zero]; simp
  | i + 1 => by
    have ih := flanksTo_len (n := n) (ss := ss) hg hl i
    rw [Nat.succ_mul]
    cases h : lies[i]? with
    | none =>
      have : lies.length ≤ i := by rw [List.getElem?_eq_none_iff] at h; exact h
      have h1 : flanksTo n ss lies (i + 1) = flanksTo n ss lies i := by
        have a1 : lies.take (i + 1) = lies := List.take_of_length_le (by omega)
        have a2 : lies.take i = lies := List.take_of_length_le this
        unfold flanksTo
        rw [a1, a2]
      rw [h1]
      omega
    | some l =>
      rw [flanksTo_succ h, List.length_append]
      have := flanksAt_len (ss := ss) (lies := lies) hg (hl l (mem_of_get h))
      omega
theorem find_hit {α : Type} {f : α → Bool} : ∀ {l : List α} {i : Nat} {x : α}, l[i]? = some x → f x = true → (∀ j y, j < i → l[j]? = some y → f y = false) → l.find? f = some x
  | [], _, _, h, _, _ => by simp at h
  | a :: l, 0, x, h, hf, _ => by
    simp at h
    subst h
    simp [hf]
  | a :: l, i + 1, x, h, hf, hn => by
    rw [List.getElem?_cons_succ] at h
    have ha := hn 0 a (by omega) rfl
    rw [List.find?_cons, ha]
    exact find_hit h hf (fun j y hj hy => hn (j + 1) y (by omega) (by rw [List.getElem?_cons_succ]; exact hy))
theorem addLie_hit {lies : List Lie} {i j : Nat} {l : Int} {x : Lie} (h : lies[i]? = some x) (hj : x.joint = j) (hn : ∀ q y, q < i → lies[q]? = some y → ¬ y.joint = j) : addLie lies j l = if x.lie = l then some lies else none := by
  unfold addLie
  rw [find_hit (f := fun x => eqv x.joint (j : Int)) h (eqv_true hj) (fun q y hq hy => eqv_false (hn q y hq hy))]
theorem addLie_miss {lies : List Lie} {j : Nat} {l : Int} (hn : ∀ (q : Nat) (y : Lie), lies[q]? = some y → ¬ y.joint = j) : addLie lies j l = some (lies ++ [⟨j, l⟩]) := by
  unfold addLie
  have : lies.find? (fun x => eqv x.joint (j : Int)) = none := by
    rw [List.find?_eq_none]
    intro x hx
    obtain ⟨q, hq⟩ := List.mem_iff_getElem?.1 hx
    rw [eqv_false (hn q x hq)]
    decide
  rw [this]
theorem addLie_ok {n : Net} {lies q : List Lie} {j : Nat} {l : Int} (h : addLie lies j l = some q) (hl : ∀ x ∈ lies, lieP n x) (hj : j < n.joints.length) (hk : (jt n j).kind = 3) (hw : l = 1 ∨ l = 2) : (∀ x ∈ q, lieP n x) ∧ q.length ≤ lies.length + 1 := by
  unfold addLie at h
  split at h
  · split at h
    · obtain rfl := Option.some.inj h
      exact ⟨hl, by omega⟩
    · cases h
  · obtain rfl := Option.some.inj h
    refine ⟨fun x hx => ?_, by simp⟩
    rcases List.mem_append.1 hx with hx | hx
    · exact hl x hx
    · rw [List.mem_singleton.1 hx]
      exact ⟨j, rfl, hj, hk, hw⟩
theorem lieAt_ok {x : Joint} {k i : Nat} {m : Nat} (h : jointP m x) (hk : x.kind = 3) (hl : k < x.ends.length) (hi : i < (across x k).length) : lieAt k i = 1 ∨ lieAt k i = 2 := by
  have h3 : x.ends.length = 3 := by have := h.2.1; omega
  unfold across at hi
  rw [if_neg (by omega), if_pos hk] at hi
  unfold lieAt
  split
  · rename_i h0
    rw [if_pos h0] at hi
    simp at hi
    omega
  · rename_i h0
    omega
theorem RInv.start (n : Net) (ss : List Signal) (i : Nat) : RInv n ss (startR i) := ⟨by simp [startR], by simp [startR], rfl, by simp [startR], by simp [startR], by simp [startR], rfl, rfl⟩
theorem RInv.bound {n : Net} {ss : List Signal} {r : Route} (h : RInv n ss r) : r.steps.length ≤ 2 * n.pieces.length := steps_bound h.nodup h.step
theorem RInv.kid {n : Net} {ss : List Signal} {r q : Route} {p way far b : Int} {x : Joint} {j k i : Nat} (h : RInv n ss r) (hs : stepP n.pieces.length ⟨p, way⟩) (hr : ¬ (⟨p, way⟩ : Step) ∈ r.steps)
    (hx : jt n j = x) (hj : j < n.joints.length) (hP : jointP n.pieces.length x) (hk : k < x.ends.length) (hi : i < (across x k).length) (hq : goOn (r.on n p way far b) x j k i = some q) : RInv n ss q ∧ q.steps = r.steps ++ [⟨p, way⟩] := by
  have hn := nodup_snoc h.nodup hr
  have hst : ∀ s ∈ r.steps ++ [(⟨p, way⟩ : Step)], stepP n.pieces.length s := fun s hm => by
    rcases List.mem_append.1 hm with hm | hm
    · exact h.step s hm
    · rw [List.mem_singleton.1 hm]
      exact hs
  unfold goOn at hq
  split at hq
  · rename_i h3
    rw [Option.map_eq_some_iff] at hq
    obtain ⟨l, hl, rfl⟩ := hq
    have h1 := addLie_ok (n := n) hl h.lies hj (by rw [hx]; exact h3) (lieAt_ok hP h3 hk hi)
    refine ⟨⟨hn, hst, ?_, ?_, h1.1, ?_, h.over, h.flanks⟩, rfl⟩
    · show (r.parts ++ [_]).length = (r.steps ++ [_]).length
      simp [h.parts]
    · show l.length ≤ (r.steps ++ [_]).length
      have := h1.2
      have := h.liesN
      have hl2 : (r.on n p way far b).lies.length = r.lies.length := rfl
      simp
      omega
    · show r.crosses.length ≤ (r.steps ++ [_]).length
      have := h.crosses
      simp
      omega
  split at hq
  · obtain rfl := Option.some.inj hq
    refine ⟨⟨hn, hst, ?_, ?_, h.lies, ?_, h.over, h.flanks⟩, rfl⟩
    · show (r.parts ++ [_]).length = (r.steps ++ [_]).length
      simp [h.parts]
    · show r.lies.length ≤ (r.steps ++ [_]).length
      have := h.liesN
      simp
      omega
    · show (r.crosses ++ [_]).length ≤ (r.steps ++ [_]).length
      have := h.crosses
      simp
      omega
  · obtain rfl := Option.some.inj hq
    refine ⟨⟨hn, hst, ?_, ?_, h.lies, ?_, h.over, h.flanks⟩, rfl⟩
    · show (r.parts ++ [_]).length = (r.steps ++ [_]).length
      simp [h.parts]
    · show r.lies.length ≤ (r.steps ++ [_]).length
      have := h.liesN
      simp
      omega
    · show r.crosses.length ≤ (r.steps ++ [_]).length
      have := h.crosses
      simp
      omega
section
variable {go : St → Route → Int → Int → Int → St} {r : Route} {x : Joint} {j k : Nat} {l : List End} {st : St}
theorem kidsTo_skip {i : Nat} {e : End} (he : l[i]? = some e) (hq : goOn r x j k i = none) : kidsTo go r x j k l st (i + 1) = kidsTo go r x j k l st i := by
  rw [kidsTo]
  simp only [he, hq]
theorem kidsTo_go {i : Nat} {e : End} {q : Route} (he : l[i]? = some e) (hq : goOn r x j k i = some q) : kidsTo go r x j k l st (i + 1) = go (kidsTo go r x j k l st i) q e.piece (wayOf e) 0 := by
  rw [kidsTo]
  simp only [he, hq]
end
theorem allF_succ {n : Net} {ss : List Signal} {ov : Int} {k : Nat} {s : Signal} (h : ss[k]? = some s) : allF n ss ov (k + 1) = walkF n ss ov (2 * n.pieces.length + 1) (allF n ss ov k) (startR k) s.piece s.way (farOf n s.piece s.at_ s.way) := by
  rw [allF]
  simp only [h]
theorem allF_bounds {n : Net} {ss : List Signal} {ov : Int} : ∀ k, (allF n ss ov k).1.length ≤ 301 ∧ (allF n ss ov k).2 ≤ 20003 + 2 * n.pieces.length + k
  | 0 => ⟨by simp [allF], by simp [allF]⟩
  | k + 1 => by
    obtain ⟨h1, h2⟩ := allF_bounds (n := n) (ss := ss) (ov := ov) k
    cases h : ss[k]? with
    | none =>
      rw [allF]
      simp only [h]
      exact ⟨h1, by omega⟩
    | some s =>
      rw [allF_succ h]
      have h3 := walkF_tries (n := n) (ss := ss) (ov := ov) (2 * n.pieces.length + 1) (allF n ss ov k) (startR k) s.piece s.way (farOf n s.piece s.at_ s.way)
      exact ⟨walkF_len _ _ _ _ _ _ h1, by omega⟩
end Go.Proofs.YtpggopdojhodaaaGreat.L
namespace Go.Proofs.YtpggopdojhodaaaGreat.L
open Go.RowKit
open Classical
set_option linter.unusedVariables false
theorem partN_in {n : Net} {p way a b : Int} (h0 : 0 ≤ a) (h1 : a ≤ b) (h2 : b ≤ pl n p) (hw : way = 1 ∨ way = -1) :
    (partN n p way a b).piece = p ∧ 0 ≤ (partN n p way a b).frm ∧ (partN n p way a b).frm ≤ (partN n p way a b).til ∧ (partN n p way a b).til ≤ pl n p ∧ (partN n p way a b).til - (partN n p way a b).frm = b - a := by
  unfold partN
  rcases hw with rfl | rfl
  · rw [if_pos rfl]
    exact ⟨rfl, h0, h1, h2, rfl⟩
  · rw [if_neg (by decide)]
    refine ⟨rfl, ?_, ?_, ?_, ?_⟩ <;> simp only <;> omega
structure Drv (n : Net) (ss : List Signal) (r : Route) (s0 : Signal) (p way far : Int) : Prop where
  len : r.parts.length = r.steps.length
  at0 : r.steps = [] → p = s0.piece ∧ way = s0.way ∧ far = farOf n p s0.at_ way
  far0 : ¬ r.steps = [] → far = 0
  part : ∀ (i : Nat) (x : Part) (s : Step), r.parts[i]? = some x → r.steps[i]? = some s → (s.way = 1 ∨ s.way = -1) ∧ x.piece = s.piece ∧ 0 ≤ x.frm ∧ x.frm ≤ x.til ∧ x.til ≤ pl n x.piece ∧ (0 < i → x.til - x.frm = pl n x.piece)
  first : ∀ (x : Part) (s : Step), r.parts[0]? = some x → r.steps[0]? = some s → s.piece = s0.piece ∧ s.way = s0.way ∧ (if s.way = -1 then x.til else x.frm) = s0.at_
  over : r.over = []
structure Rt (n : Net) (ss : List Signal) (ov : Int) (r : Route) : Prop where
  frm : ∃ (i : Nat) (s0 : Signal), r.frm = i ∧ ss[i]? = some s0 ∧ ∀ (x : Part) (s : Step), r.parts[0]? = some x → r.steps[0]? = some s → s.piece = s0.piece ∧ s.way = s0.way ∧ (if s.way = -1 then x.til else x.frm) = s0.at_
  len : r.parts.length = r.steps.length
  pos : 0 < r.steps.length
  part : ∀ (i : Nat) (x : Part) (s : Step), r.parts[i]? = some x → r.steps[i]? = some s → (s.way = 1 ∨ s.way = -1) ∧ x.piece = s.piece ∧ 0 ≤ x.frm ∧ x.frm ≤ x.til ∧ x.til ≤ pl n x.piece ∧ (0 < i → i + 1 < r.steps.length → x.til - x.frm = pl n x.piece)
  til : (r.til = -1 ∧ r.over = []) ∨ ∃ (b : Nat) (sb : Signal), r.til = b ∧ ss[b]? = some sb ∧ ∀ (x : Part) (s : Step), r.parts[r.steps.length - 1]? = some x → r.steps[r.steps.length - 1]? = some s → s.piece = sb.piece ∧ s.way = sb.way ∧ (if s.way = -1 then x.frm else x.til) = sb.at_
  over : (r.over.map (fun x => x.til - x.frm)).sum ≤ ov
  overN : (r.over.length : Int) ≤ ov
  stepP : ∀ s ∈ r.steps, stepP n.pieces.length s
  stepN : r.steps.length ≤ 2 * n.pieces.length + 1
  liesN : r.lies.length ≤ r.steps.length
  lies : ∀ l ∈ r.lies, lieP n l
  crosses : r.crosses.length ≤ r.steps.length
  flanks : r.flanks = flanksOf n ss r.lies
theorem getElem?_snoc {α : Type} {l : List α} {x y : α} {i : Nat} (h : (l ++ [x])[i]? = some y) : (i < l.length ∧ l[i]? = some y) ∨ (i = l.length ∧ y = x) := by
  by_cases hi : i < l.length
  · rw [List.getElem?_append_left hi] at h
    exact .inl ⟨hi, h⟩
  · rw [List.getElem?_append_right (by omega)] at h
    obtain ⟨h1, h2⟩ := List.getElem?_eq_some_iff.1 h
    simp only [List.length_singleton] at h1
    obtain rfl : i = l.length := by omega
    simp only [Nat.sub_self, List.getElem_cons_zero] at h2
    exact .inr ⟨rfl, h2.symm⟩
theorem nil_of_len {α : Type} {l : List α} (h : l.length = 0) : l = [] := List.eq_nil_of_length_eq_zero h
theorem beyond_sum {n : Net} : ∀ (m : Nat) (p way far left : Int), 0 ≤ left → stepP n.pieces.length ⟨p, way⟩ → Good n → 0 ≤ far → far < pl n p → ((beyond n m p way far left).map (fun x => x.til - x.frm)).sum ≤ left
  | 0, p, way, far, left, h, hs, hg, h0, h1 => by rw [show beyond n 0 p way far left = [] from rfl]; simpa using h
  | m + 1, p, way, far, left, h, hs, hg, h0, h1 => by
    by_cases hl : left ≤ 0
    · rw [beyond_none hl]
      simpa using h
    obtain ⟨j, k, x, hat, h2, h3, h4, h5, h6⟩ := at_get hg (head_ok hs)
    have hb := til_bounds (left := left) h0 h1 hl
    have hp := partN_in (a := far) (b := tilOf n p far left) h0 (by omega) hb.2.1 hs.2
    by_cases h7 : x.kind = 2
    · rw [beyond_plain hl h2 h3 h7]
      have hl2 : x.ends.length = 2 := by have := h4.2.1; omega
      have he := en_ok (k := 1 - k) h4 (by omega)
      have hq := pl_in hg he.1.1 he.1.2
      have := beyond_sum (n := n) m (en x (1 - k)).piece (wayOf (en x (1 - k))) 0 (left - (tilOf n p far left - far)) (by omega) (step_of_end he) hg (by omega) (by omega)
      rw [List.map_cons, List.sum_cons, hp.2.2.2.2]
      omega
    · rw [beyond_last hl h2 h3 (.inr h7)]
      simp only [List.map_cons, List.map_nil, List.sum_cons, List.sum_nil, hp.2.2.2.2]
      omega
section
variable {n : Net} {ss : List Signal} {ov : Int} {r : Route} {s0 : Signal} {p way far : Int}
theorem Drv.next (h : Drv n ss r s0 p way far) (hs : stepP n.pieces.length ⟨p, way⟩) (h0 : 0 ≤ far) {b : Int} (h1 : far ≤ b) (h2 : b ≤ pl n p) :
    (∀ (i : Nat) (x : Part) (s : Step), (r.on n p way far b).parts[i]? = some x → (r.on n p way far b).steps[i]? = some s → (s.way = 1 ∨ s.way = -1) ∧ x.piece = s.piece ∧ 0 ≤ x.frm ∧ x.frm ≤ x.til ∧ x.til ≤ pl n x.piece ∧ (0 < i → i < r.steps.length ∨ b = pl n p → x.til - x.frm = pl n x.piece)) ∧
    (∀ (x : Part) (s : Step), (r.on n p way far b).parts[0]? = some x → (r.on n p way far b).steps[0]? = some s → s.piece = s0.piece ∧ s.way = s0.way ∧ (if s.way = -1 then x.til else x.frm) = s0.at_) ∧ (r.on n p way far b).parts.length = (r.on n p way far b).steps.length := by
  have hp := partN_in (n := n) (p := p) (way := way) (a := far) (b := b) h0 h1 h2 hs.2
  refine ⟨fun i x s hx hst => ?_, fun x s hx hst => ?_, ?_⟩
  · rcases getElem?_snoc hx with ⟨i1, hx⟩ | ⟨i1, rfl⟩
    · rcases getElem?_snoc hst with ⟨i2, hst⟩ | ⟨i2, rfl⟩
      · have := h.part i x s hx hst
        exact ⟨this.1, this.2.1, this.2.2.1, this.2.2.2.1, this.2.2.2.2.1, fun hi _ => this.2.2.2.2.2 hi⟩
      · have := h.len
        omega
    · rcases getElem?_snoc hst with ⟨i2, hst⟩ | ⟨i2, rfl⟩
      · have := h.len
        omega
      · refine ⟨hs.2, hp.1, hp.2.1, hp.2.2.1, by rw [hp.1]; exact hp.2.2.2.1, fun hi ho => ?_⟩
        rw [hp.2.2.2.2, hp.1]
        have hf := h.far0 (fun e => by rw [e] at i2; simp at i2; omega)
        rcases ho with ho | ho <;> omega
  · rcases getElem?_snoc hx with ⟨i1, hx⟩ | ⟨i1, rfl⟩
    · rcases getElem?_snoc hst with ⟨i2, hst⟩ | ⟨i2, rfl⟩
      · exact h.first x s hx hst
      · have := h.len
        omega
    · rcases getElem?_snoc hst with ⟨i2, hst⟩ | ⟨i2, rfl⟩
      · have := h.len
        omega
      · obtain ⟨e1, e2, e3⟩ := h.at0 (nil_of_len i2.symm)
        refine ⟨e1, e2, ?_⟩
        show (if way = -1 then (partN n p way far b).til else (partN n p way far b).frm) = s0.at_
        rw [e3]
        rcases hs.2 with hw | hw
        · have hw : way = 1 := hw
          subst hw
          rw [far_fwd, if_neg (by decide)]
          rfl
        · have hw : way = -1 := hw
          subst hw
          rw [far_back, if_pos rfl]
          show pl n p - (pl n p - s0.at_) = s0.at_
          omega
  · show (r.parts ++ [_]).length = (r.steps ++ [_]).length
    rw [List.length_append, List.length_append, h.len]
    rfl
theorem Drv.kid (h : Drv n ss r s0 p way far) (hs : stepP n.pieces.length ⟨p, way⟩) (h0 : 0 ≤ far) (h1 : far ≤ pl n p) {x : Joint} {j k i : Nat} {q : Route} (hq : goOn (r.on n p way far (pl n p)) x j k i = some q) (p' way' : Int) : Drv n ss q s0 p' way' 0 ∧ q.frm = r.frm := by
  obtain ⟨a1, a2, a3⟩ := h.next hs h0 h1 (Int.le_refl _)
  have key : ∀ q : Route, q.steps = (r.on n p way far (pl n p)).steps → q.parts = (r.on n p way far (pl n p)).parts → q.over = r.over → Drv n ss q s0 p' way' 0 := fun q e1 e2 e3 =>
    ⟨by rw [e1, e2]; exact a3, fun e => by rw [e1] at e; exact absurd e (by simp [Route.on]), fun _ => rfl, fun i x s hx hst => by
      rw [e2] at hx
      rw [e1] at hst
      have := a1 i x s hx hst
      exact ⟨this.1, this.2.1, this.2.2.1, this.2.2.2.1, this.2.2.2.2.1, fun hi => this.2.2.2.2.2 hi (.inr rfl)⟩, fun x s hx hst => by
      rw [e2] at hx
      rw [e1] at hst
      exact a2 x s hx hst, by rw [e3]; exact h.over⟩
  unfold goOn at hq
  split at hq
  · rw [Option.map_eq_some_iff] at hq
    obtain ⟨l, hl, rfl⟩ := hq
    exact ⟨key _ rfl rfl rfl, rfl⟩
  split at hq
  · obtain rfl := Option.some.inj hq
    exact ⟨key _ rfl rfl rfl, rfl⟩
  · obtain rfl := Option.some.inj hq
    exact ⟨key _ rfl rfl rfl, rfl⟩
theorem last_on {n : Net} {r : Route} {p way far b : Int} (hl : r.parts.length = r.steps.length) {x : Part} {s : Step} (hx : (r.on n p way far b).parts[(r.on n p way far b).steps.length - 1]? = some x) (hst : (r.on n p way far b).steps[(r.on n p way far b).steps.length - 1]? = some s) : x = partN n p way far b ∧ s = ⟨p, way⟩ := by
  have hn : (r.on n p way far b).steps.length - 1 = r.steps.length := by show (r.steps ++ [_]).length - 1 = _; simp
  rw [hn] at hx hst
  constructor
  · rcases getElem?_snoc hx with ⟨i1, hx⟩ | ⟨i1, rfl⟩
    · omega
    · rfl
  · rcases getElem?_snoc hst with ⟨i1, hx⟩ | ⟨i1, rfl⟩
    · omega
    · rfl
theorem walkF_rt (hr : Right n ss) (hov : 0 ≤ ov) : ∀ (m : Nat) (st : St) (r : Route) (p way far : Int), stepP n.pieces.length ⟨p, way⟩ → 0 ≤ far → far < pl n p → RInv n ss r → Drv n ss r s0 p way far → (∃ i : Nat, r.frm = i ∧ ss[i]? = some s0) → (∀ q ∈ st.1, Rt n ss ov q) → ∀ q ∈ (walkF n ss ov m st r p way far).1, Rt n ss ov q
  | 0, st, r, p, way, far, hs, h0, h1, hi, hd, hf, hq => hq
  | m + 1, st, r, p, way, far, hs, h0, h1, hi, hd, hf, hq => by
    by_cases hfu : full (st.1, st.2 + 1)
    · rw [walkF_full hfu]
      exact hq
    cases hb : firstS n ss p way far with
    | some b =>
      rw [walkF_sig hfu hb]
      intro q hm
      rcases List.mem_append.1 hm with hm | hm
      · exact hq q hm
      rw [List.mem_singleton.1 hm]
      obtain ⟨_, hbl, sb, hsb, e1, e2, e3⟩ := firstTo_lt (k := ss.length) hb
      have hin := sig_in hr hsb
      have hsf : sigFar n ss b p way = farOf n p sb.at_ way := by unfold sigFar; rw [hsb]; rfl
      have hfb : farOf n p sb.at_ way < pl n p ∧ 0 ≤ farOf n p sb.at_ way := by
        rw [← e1]
        rcases hs.2 with hw | hw
        · have hw : way = 1 := hw
          rw [hw, far_fwd]
          omega
        · have hw : way = -1 := hw
          rw [hw, far_back]
          omega
      obtain ⟨a1, a2, a3⟩ := hd.next hs h0 (b := sigFar n ss b p way) (by omega) (by omega)
      obtain ⟨i, f1, f2⟩ := hf
      have hbo := hi.bound
      have hsl : (r.on n p way far (sigFar n ss b p way)).steps.length = r.steps.length + 1 := by show (r.steps ++ [_]).length = _; simp
      refine ⟨⟨i, s0, f1, f2, a2⟩, a3, by show 0 < (r.on n p way far (sigFar n ss b p way)).steps.length; omega, fun i x s hx hst => ?_, .inr ⟨b, sb, rfl, hsb, fun x s hx hst => ?_⟩, ?_, ?_, ?_, ?_, ?_, hi.lies, ?_, rfl⟩
      · have := a1 i x s hx hst
        exact ⟨this.1, this.2.1, this.2.2.1, this.2.2.2.1, this.2.2.2.2.1, fun hi hl => this.2.2.2.2.2 hi (.inl (by have hl : i + 1 < (r.on n p way far (sigFar n ss b p way)).steps.length := hl; omega))⟩
      · obtain ⟨rfl, rfl⟩ := last_on hd.len hx hst
        refine ⟨e1.symm, e2.symm, ?_⟩
        rw [hsf]
        rcases hs.2 with hw | hw
        · have hw : way = 1 := hw
          subst hw
          rw [far_fwd]
          rfl
        · have hw : way = -1 := hw
          subst hw
          rw [far_back]
          show pl n p - (pl n p - sb.at_) = sb.at_
          omega
      · exact beyond_sum _ _ _ _ _ hov hs hr.g (by omega) (by omega)
      · exact beyond_len _ _ _ _ _ hov hs hr.g (by omega) (by omega)
      · intro s hs'
        rcases List.mem_append.1 hs' with hs' | hs'
        · exact hi.step s hs'
        · rw [List.mem_singleton.1 hs']
          exact hs
      · show (r.on n p way far (sigFar n ss b p way)).steps.length ≤ _
        omega
      · show r.lies.length ≤ (r.on n p way far (sigFar n ss b p way)).steps.length
        have := hi.liesN
        omega
      · show r.crosses.length ≤ (r.on n p way far (sigFar n ss b p way)).steps.length
        have := hi.crosses
        omega
    | none =>
      by_cases hrn : (⟨p, way⟩ : Step) ∈ r.steps
      · rw [walkF_round hfu hb hrn]
        exact hq
      obtain ⟨j, k, x, hat, ha, hx, hP, hj, hk⟩ := at_get hr.g (head_ok hs)
      by_cases hk1 : x.kind = 1
      · rw [walkF_end hfu hb hrn ha hx hk1]
        intro q hm
        rcases List.mem_append.1 hm with hm | hm
        · exact hq q hm
        rw [List.mem_singleton.1 hm]
        obtain ⟨a1, a2, a3⟩ := hd.next hs h0 (b := pl n p) (by omega) (Int.le_refl _)
        obtain ⟨i, f1, f2⟩ := hf
        have hbo := hi.bound
        have hsl : (r.on n p way far (pl n p)).steps.length = r.steps.length + 1 := by show (r.steps ++ [_]).length = _; simp
        have hro : r.over = [] := hd.over
        refine ⟨⟨i, s0, f1, f2, a2⟩, a3, by show 0 < (r.on n p way far (pl n p)).steps.length; omega, fun i x s hx hst => ?_, .inl ⟨rfl, hro⟩, ?_, ?_, ?_, ?_, ?_, hi.lies, ?_, rfl⟩
        · have := a1 i x s hx hst
          exact ⟨this.1, this.2.1, this.2.2.1, this.2.2.2.1, this.2.2.2.2.1, fun hi hl => this.2.2.2.2.2 hi (.inr rfl)⟩
        · show (r.over.map (fun x => x.til - x.frm)).sum ≤ ov
          rw [hro]
          simpa using hov
        · show (r.over.length : Int) ≤ ov
          rw [hro]
          simpa using hov
        · intro s hs'
          rcases List.mem_append.1 hs' with hs' | hs'
          · exact hi.step s hs'
          · rw [List.mem_singleton.1 hs']
            exact hs
        · show (r.on n p way far (pl n p)).steps.length ≤ _
          omega
        · show r.lies.length ≤ (r.on n p way far (pl n p)).steps.length
          have := hi.liesN
          omega
        · show r.crosses.length ≤ (r.on n p way far (pl n p)).steps.length
          have := hi.crosses
          omega
      · rw [walkF_on hfu hb hrn ha hx hk1]
        refine kidsTo_inv (st := (st.1, st.2 + 1)) (fun s => ∀ q ∈ s.1, Rt n ss ov q) hq (fun i e q st' he hgo hst => ?_) _
        have hil := (List.getElem?_eq_some_iff.1 he).1
        have heP := across_ok hP hk (mem_of_get he)
        have hpe := pl_in hr.g heP.1.1 heP.1.2
        obtain ⟨b1, b2⟩ := hd.kid hs h0 (by omega) hgo e.piece (wayOf e)
        exact walkF_rt hr hov m st' q e.piece (wayOf e) 0 (step_of_end heP) (by omega) (by omega) (hi.kid hs hrn hx hj hP hk hil hgo).1 b1 (by rw [b2]; exact hf) hst
end
theorem allF_rt {n : Net} {ss : List Signal} {ov : Int} (hr : Right n ss) (hov : 0 ≤ ov) : ∀ k, ∀ q ∈ (allF n ss ov k).1, Rt n ss ov q
  | 0 => by simp [allF]
  | k + 1 => by
    have ih := allF_rt hr hov k
    cases h : ss[k]? with
    | none =>
      rw [allF]
      simp only [h]
      exact ih
    | some s =>
      rw [allF_succ h]
      obtain ⟨h1, h2, h3, h4⟩ := sig_in hr h
      have hfar : 0 ≤ farOf n s.piece s.at_ s.way ∧ farOf n s.piece s.at_ s.way < pl n s.piece := by
        rcases h1.2 with hw | hw
        · have hw : s.way = 1 := hw
          rw [hw, far_fwd]
          omega
        · have hw : s.way = -1 := hw
          rw [hw, far_back]
          omega
      exact walkF_rt (s0 := s) hr hov _ _ _ _ _ _ h1 hfar.1 hfar.2 (RInv.start n ss k) ⟨rfl, fun _ => ⟨rfl, rfl, rfl⟩, fun e => absurd rfl e, fun i x s hx => by simp [startR] at hx, fun x s hx => by simp [startR] at hx, rfl⟩ ⟨k, rfl, h⟩ ih
theorem routesF_rt {n : Net} {ss : List Signal} {ov : Int} {r : Route} (h : r ∈ routesF n ss ov) : Right n ss ∧ 0 ≤ ov ∧ ov ≤ 100000 ∧ Rt n ss ov r := by
  unfold routesF at h
  split at h
  · cases h
  rename_i hg
  have h1 : signalsOk n ss = ⟨0, 0⟩ := Classical.byContradiction fun e => hg (.inl e)
  have h2 : 0 ≤ ov ∧ ov ≤ 100000 := Classical.byContradiction fun e => hg (.inr e)
  split at h
  · cases h
  exact ⟨right_of_ok h1, h2.1, h2.2, allF_rt (right_of_ok h1) h2.1 _ r h⟩
theorem routesF_len (n : Net) (ss : List Signal) (ov : Int) : (routesF n ss ov).length ≤ 300 := by
  unfold routesF
  split
  · simp
  split
  · simp
  · rename_i h
    unfold full at h
    omega
theorem Rt.size {n : Net} {ss : List Signal} {ov : Int} {r : Route} (hr : Right n ss) (h : Rt n ss ov r) (ho : ov ≤ 100000) : r.steps.length ≤ 201 ∧ r.lies.length ≤ 201 ∧ r.crosses.length ≤ 201 ∧ r.parts.length ≤ 201 ∧ r.over.length ≤ 100000 ∧ r.flanks.length ≤ 40200 := by
  have h1 := h.stepN
  have h2 := h.liesN
  have h3 := h.crosses
  have h4 := h.len
  have h5 := h.overN
  have h6 := hr.g.le
  have h7 := flanksTo_len (ss := ss) hr.g h.lies r.lies.length
  rw [flanksTo_all, ← h.flanks] at h7
  have h8 : r.lies.length * (2 * n.pieces.length) ≤ 201 * 200 := Nat.mul_le_mul (by omega) (by omega)
  refine ⟨by omega, by omega, by omega, by omega, by omega, by omega⟩
end Go.Proofs.YtpggopdojhodaaaGreat.L
namespace Go.Proofs.YtpggopdojhodaaaGreat.L
open Go.RowKit
set_option linter.unusedVariables false
set_option linter.unusedSimpArgs false
theorem int_nef {a b : Int} (h : a = b) : (a != b) = false := by simpa using h
theorem int_net {a b : Int} (h : ¬ a = b) : (a != b) = true := by simpa using h
set_option maxRecDepth 100000 in
set_option maxHeartbeats 8000000 in
theorem specSignal {ok ok' : Nat → Prop} (n : Net) (ss : List Signal) (v1 : Value) (A0 A2 : Option Addr) (c0 c2 u : Nat) (way far : Int) (w : World) (h : pieceK.C w ok A0 n.pieces) (hs : signalK.C w ok' A2 ss) (hr : Hid (Right n ss)) (hu : u < n.pieces.length) (hway : way = 1 ∨ way = -1) (h0 : 0 ≤ far) (h1 : far ≤ 10000000) :
    Calls Tryz.prog 73 #[.agg #[.slice A0 n.pieces.length c0, v1], .slice A2 ss.length c2, .int .i64 u, .int .i64 way, .int .i64 far] w (RetI (onum (firstTo n ss u way far ss.length)) w) := by
  have hm2 := hs.1
  have hm := h.1
  have HG : Hid (Good n) := Lib.hid hr.out.g
  go_enter Tryz.func73, Tryz.ntmps73
  go_wp2
  obtain ⟨W0, hW, HB0, k0, f0, f1⟩ : ∃ W, W = w.alloc (.cells #[.slice A0 n.pieces.length c0, v1] 34) ∧ Below w.heap.size w W ∧ w.heap.size < W.heap.size ∧ W.cell? ⟨w.heap.size, 0, none⟩ = some (.slice A0 n.pieces.length c0) ∧ W.cell? ⟨w.heap.size, 1, none⟩ = some v1 := ⟨_, rfl, below_alloc _ _, by simp, by simp, by simp⟩
  rw [← hW]
  clear hW
  have j0 : (0 : Int) ≤ (u : Int) := Int.natCast_nonneg _
  have j1 : (u : Int) < (n.pieces.length : Int) := by omega
  go_loopw [11, 16] (fun best i wr => ∃ k : Nat, k ≤ ss.length ∧ best = .int .i64 (onum (firstTo n ss u way far k)) ∧ i = .int .i64 k ∧ Below W0.heap.size W0 wr) (fun _ i _ => ss.length - (intOf i).toNat)
  case atStart => exact ⟨0, Nat.zero_le _, rfl, rfl, Below.refl _ _⟩
  case round =>
    obtain ⟨k, hk, rfl, rfl, hb⟩ := hrel
    obtain ⟨wo, rfl⟩ : ∃ wo : World, wo = wr := ⟨_, rfl⟩
    have hbw := HB0.trans (hb.mono HB0.size)
    by_cases hlt : k < ss.length
    rotate_left
    · obtain rfl : k = ss.length := by omega
      go_wp2
      go_ret
      exact ⟨rfl, hbw⟩
    obtain ⟨ad, rfl, y0, y1, y2, y3, E, g0, g1, g2, g3⟩ := signalK_at (Kn.C_below hbw hs) k hlt
    have i0 : (0 : Int) ≤ (k : Int) := Int.natCast_nonneg _
    have i1 : (k : Int) < (ss.length : Int) := by omega
    have HI := Lib.hid (sig_in hr.out E.out)
    have z0 := cell_below hb f0
    have z1 := cell_below hb f1
    have z2 : w.heap.size < wo.heap.size := by have := hb.size; omega
    have hb1 := hb.alloc hb.size (Obj.cells #[.string y0, .int .i64 y1, .int .i64 y2, .int .i64 y3] 73)
    by_cases q1 : y1 = u
    rotate_left
    · have d0 : (y1 != (u : Int)) = true := int_net q1
      have HF : Hid (firstTo n ss u way far (k + 1) = firstTo n ss u way far k) := Lib.hid (firstTo_not E.out (fun e => q1 e.1))
      clear q1
      go_wp2
      go_roundw
      case rel => exact ⟨k + 1, by omega, by rw [HF.out], by go_num, hb1⟩
      case measure => simp [intOf]; omega
    have d0 : (y1 != (u : Int)) = false := int_nef q1
    by_cases q3 : y3 = way
    rotate_left
    · have d1 : (y3 != way) = true := int_net q3
      have HF : Hid (firstTo n ss u way far (k + 1) = firstTo n ss u way far k) := Lib.hid (firstTo_not E.out (fun e => q3 e.2.1))
      clear q1 q3
      go_wp2
      go_roundw
      case rel => exact ⟨k + 1, by omega, by rw [HF.out], by go_num, hb1⟩
      case measure => simp [intOf]; omega
    have d1 : (y3 != way) = false := int_nef q3
    obtain ⟨a1, a2⟩ : 0 ≤ y2 ∧ y2 ≤ 10000000 := by have := HI.out; simp only at this; omega
    have ha : 0 ≤ y2 ∧ y2 ≤ 10000000 := ⟨a1, a2⟩
    obtain ⟨fa, hfa⟩ : ∃ fa, Hid (farOf n u y2 way = fa) := ⟨_, Lib.hid rfl⟩
    obtain ⟨W1, hW1, HB1, k1, k2, p0, p1, p2⟩ : ∃ W, W = wo.alloc (.cells #[.string y0, .int .i64 y1, .int .i64 y2, .int .i64 y3] 73) ∧ Below wo.heap.size wo W ∧ wo.heap.size < W.heap.size ∧ w.heap.size < W.heap.size ∧ W.cell? ⟨w.heap.size, 0, none⟩ = some (.slice A0 n.pieces.length c0) ∧ W.cell? ⟨w.heap.size, 1, none⟩ = some v1 ∧ W.cell? ⟨wo.heap.size, 2, none⟩ = some (.int .i64 y2) :=
      ⟨_, rfl, below_alloc _ _, by simp, by have := hb.size; simp; omega, cell_below (below_alloc _ _) (cell_below hb f0), cell_below (below_alloc _ _) (cell_below hb f1), by simp⟩
    have hbw1 := hbw.trans (HB1.mono hbw.size)
    by_cases q4 : fa ≤ far
    · have d2 : decide (fa ≤ far) = true := decide_eq_true q4
      have HF : Hid (firstTo n ss u way far (k + 1) = firstTo n ss u way far k) := Lib.hid (firstTo_not E.out (fun e => by have := e.2.2; simp only at this; rw [hfa.out] at this; omega))
      clear q1 q3 q4
      go_wp2_with fail
      rw [← hW1]
      clear hW1
      refine (specFar n v1 A0 c0 u y2 way _ (Kn.C_below hbw1 h) HG hu ha).mono ?_
      rintro e w2 ⟨rfl, hb2⟩
      rw [hfa.out]
      go_wp2
      go_roundw
      case rel => exact ⟨k + 1, by omega, by rw [HF.out], by go_num, hb.trans ((HB1.trans (hb2.mono HB1.size)).mono hb.size)⟩
      case measure => simp [intOf]; omega
    have d2 : decide (fa ≤ far) = false := decide_eq_false q4
    have HT : Hid (y1 = u ∧ y3 = way ∧ far < farOf n u y2 way) := Lib.hid ⟨q1, q3, by rw [hfa.out]; omega⟩
    clear q1 q3 q4
    cases hp : firstTo n ss u way far k with
    | none =>
      have HF : Hid (firstTo n ss u way far (k + 1) = some k) := Lib.hid (firstTo_one E.out HT.out hp)
      have HO : Hid (onum (firstTo n ss u way far k) = -1) := Lib.hid (by rw [hp]; rfl)
      clear hp
      rw [onum_none]
      go_wp2_with fail
      rw [← hW1]
      clear hW1
      refine (specFar n v1 A0 c0 u y2 way _ (Kn.C_below hbw1 h) HG hu ha).mono ?_
      rintro e w2 ⟨rfl, hb2⟩
      rw [hfa.out]
      go_wp2
      go_quiet (fail)
      go_wp2
      go_roundw
      case rel => exact ⟨k + 1, by omega, by rw [HF.out]; rfl, by go_num, by repeat' first | exact hb.trans ((HB1.trans (hb2.mono HB1.size)).mono hb.size) | (refine below_drewN ?_ _)⟩
      case measure => simp [intOf]; omega
    | some b =>
      obtain ⟨l1, l2, t, e1, e2, e3, e4⟩ := firstTo_lt hp
      obtain ⟨ad', he', t0, t1, t2, t3, ET, r0, r1, r2, r3⟩ := signalK_at (Kn.C_below hbw1 hs) b l2
      obtain rfl := Option.some.inj he'
      have HJ := Lib.hid (sig_in hr.out ET.out)
      have b0 : (0 : Int) ≤ (b : Int) := Int.natCast_nonneg _
      have b1 : (b : Int) < (ss.length : Int) := by omega
      have d5 : decide ((b : Int) < 0) = false := decide_eq_false (by omega)
      have htp : t1 = u := by have := e1.symm.trans ET.out; injection this with this; rw [this] at e2; exact e2
      have hta : 0 ≤ t2 ∧ t2 ≤ 10000000 := by have := HJ.out; simp only at this; omega
      obtain ⟨fb, hfb⟩ : ∃ fb, Hid (farOf n u t2 way = fb) := ⟨_, Lib.hid rfl⟩
      have HP := Lib.hid hp
      clear hp he' htp e1 e2 e3 e4 r0 r1 r3
      rw [onum_some]
      go_wp2_with fail
      rw [← hW1]
      clear hW1
      refine (specFar n v1 A0 c0 u y2 way _ (Kn.C_below hbw1 h) HG hu ha).mono ?_
      rintro e w2 ⟨rfl, hb2⟩
      rw [hfa.out]
      have s0 := cell_below hb2 p0
      have s1 := cell_below hb2 p1
      have s2 := cell_below hb2 p2
      have s3 := cell_below hb2 r2
      have HC2 := Lib.hid (Kn.C_below (hbw1.trans (hb2.mono hbw1.size)) h)
      have hbz := hb.trans ((HB1.trans (hb2.mono HB1.size)).mono hb.size)
      have hz : wo.heap.size < w2.heap.size := by have := hb2.size; omega
      have hz2 : w.heap.size < w2.heap.size := by have := hb2.size; omega
      clear p0 p1 p2 r2 hb2 HB1 hbw1 hb1
      by_cases q5 : fa < fb
      · have d6 : decide (fa < fb) = true := decide_eq_true q5
        have HF : Hid (firstTo n ss u way far (k + 1) = some k) := Lib.hid (firstTo_new E.out HT.out HP.out ET.out (by rw [hfa.out, hfb.out]; exact q5))
        clear q5
        go_wp2
        go_region_held3 (fun w' => Below w2.heap.size w2 w' ∧ w'.cell? ⟨w.heap.size, 0, none⟩ = some (.slice A0 n.pieces.length c0) ∧ w'.cell? ⟨w.heap.size, 1, none⟩ = some v1 ∧ w'.cell? ⟨wo.heap.size, 2, none⟩ = some (.int .i64 y2) ∧ w'.cell? ⟨(ad.add (b * 4)).block, (ad.add (b * 4)).off + 2, none⟩ = some (.int .i64 t2))
          (first | exact ⟨(Below.refl _ _).drew, s0, s1, s2, s3⟩ | exact ⟨hbS.trans (hbc.mono hbS.size), cell_below (hbS.trans (hbc.mono hbS.size)) s0, cell_below (hbS.trans (hbc.mono hbS.size)) s1, cell_below (hbS.trans (hbc.mono hbS.size)) s2, cell_below (hbS.trans (hbc.mono hbS.size)) s3⟩)
          (first | (go_at_call 37; obtain ⟨hbS, _⟩ := ‹Below w2.heap.size w2 _ ∧ _›; (with_reducible refine (specFar n v1 A0 c0 u _ way _ (Kn.C_below hbS HC2.out) HG hu (by assumption)).mono ?_); rintro e w1 ⟨rfl, hbc⟩; first | rw [hfa.out] | rw [hfb.out]))
        all_goals obtain ⟨hbF, _⟩ := ‹Below w2.heap.size w2 _ ∧ _›
        all_goals go_wp2
        all_goals go_roundw
        all_goals first | exact ⟨k + 1, by omega, by rw [HF.out]; rfl, by go_num, hbz.trans (hbF.mono hbz.size)⟩ | (simp [intOf]; omega)
      · have d6 : decide (fa < fb) = false := decide_eq_false q5
        have HF : Hid (firstTo n ss u way far (k + 1) = some b) := Lib.hid (firstTo_old E.out HP.out ET.out (by rw [hfa.out, hfb.out]; exact q5))
        clear q5
        go_wp2
        go_region_held3 (fun w' => Below w2.heap.size w2 w' ∧ w'.cell? ⟨w.heap.size, 0, none⟩ = some (.slice A0 n.pieces.length c0) ∧ w'.cell? ⟨w.heap.size, 1, none⟩ = some v1 ∧ w'.cell? ⟨wo.heap.size, 2, none⟩ = some (.int .i64 y2) ∧ w'.cell? ⟨(ad.add (b * 4)).block, (ad.add (b * 4)).off + 2, none⟩ = some (.int .i64 t2))
          (first | exact ⟨(Below.refl _ _).drew, s0, s1, s2, s3⟩ | exact ⟨hbS.trans (hbc.mono hbS.size), cell_below (hbS.trans (hbc.mono hbS.size)) s0, cell_below (hbS.trans (hbc.mono hbS.size)) s1, cell_below (hbS.trans (hbc.mono hbS.size)) s2, cell_below (hbS.trans (hbc.mono hbS.size)) s3⟩)
          (first | (go_at_call 37; obtain ⟨hbS, _⟩ := ‹Below w2.heap.size w2 _ ∧ _›; (with_reducible refine (specFar n v1 A0 c0 u _ way _ (Kn.C_below hbS HC2.out) HG hu (by assumption)).mono ?_); rintro e w1 ⟨rfl, hbc⟩; first | rw [hfa.out] | rw [hfb.out]))
        all_goals obtain ⟨hbF, _⟩ := ‹Below w2.heap.size w2 _ ∧ _›
        all_goals go_wp2
        all_goals go_roundw
        all_goals first | exact ⟨k + 1, by omega, by rw [HF.out]; rfl, by go_num, hbz.trans (hbF.mono hbz.size)⟩ | (simp [intOf]; omega)
theorem wrap_small {a : Int} (h0 : -9223372036854775808 ≤ a) (h1 : a ≤ 9223372036854775807) : IntKind.i64.wrap a = a := IntWalk.i64_in _ (by omega)
set_option maxRecDepth 100000 in
set_option maxHeartbeats 8000000 in
theorem implNearest {ok : Nat → Prop} (n : Net) (ss : List Signal) (A2 : Option Addr) (c2 : Nat) (p way far a : Int) (w : World) (hs : signalK.C w ok A2 ss) (hr : Hid (Right n ss)) (hst : Hid (stepP n.pieces.length ⟨p, way⟩)) (h0 : Hid (0 ≤ far ∧ far ≤ pl n p)) (ha : Hid (a = atOf n p way far)) :
    Calls Tryz.prog 125 #[.slice A2 ss.length c2, .agg #[.int .i64 p, .int .i64 a, .int .i64 way]] w (RetI (onum (firstTo n ss p way far ss.length)) w) := by
  have hm2 := hs.1
  have HP := Lib.hid (pl_in hr.out.g hst.out.1.1 hst.out.1.2)
  go_enter Tryz.func125, Tryz.ntmps125
  go_wp2
  obtain ⟨W0, hW, HB0, k0, f0, f1, f2⟩ : ∃ W, W = w.alloc (.cells #[.int .i64 p, .int .i64 a, .int .i64 way] 150) ∧ Below w.heap.size w W ∧ w.heap.size < W.heap.size ∧ W.cell? ⟨w.heap.size, 0, none⟩ = some (.int .i64 p) ∧ W.cell? ⟨w.heap.size, 1, none⟩ = some (.int .i64 a) ∧ W.cell? ⟨w.heap.size, 2, none⟩ = some (.int .i64 way) := ⟨_, rfl, below_alloc _ _, by simp, by simp, by simp, by simp⟩
  rw [← hW]
  clear hW
  go_loopw [5, 10] (fun best i wr => ∃ k : Nat, k ≤ ss.length ∧ best = .int .i64 (onum (firstTo n ss p way far k)) ∧ i = .int .i64 k ∧ Below W0.heap.size W0 wr) (fun _ i _ => ss.length - (intOf i).toNat)
  case atStart => exact ⟨0, Nat.zero_le _, rfl, rfl, Below.refl _ _⟩
  case round =>
    obtain ⟨k, hk, rfl, rfl, hb⟩ := hrel
    obtain ⟨wo, rfl⟩ : ∃ wo : World, wo = wr := ⟨_, rfl⟩
    have hbw := HB0.trans (hb.mono HB0.size)
    by_cases hlt : k < ss.length
    rotate_left
    · obtain rfl : k = ss.length := by omega
      go_wp2
      go_ret
      exact ⟨rfl, hbw⟩
    obtain ⟨ad, rfl, y0, y1, y2, y3, E, g0, g1, g2, g3⟩ := signalK_at (Kn.C_below hbw hs) k hlt
    have i0 : (0 : Int) ≤ (k : Int) := Int.natCast_nonneg _
    have i1 : (k : Int) < (ss.length : Int) := by omega
    have HI := Lib.hid (sig_in hr.out E.out)
    have z0 := cell_below hb f0
    have z1 := cell_below hb f1
    have z3 := cell_below hb f2
    have z2 : w.heap.size < wo.heap.size := by have := hb.size; omega
    have hb1 := hb.alloc hb.size (Obj.cells #[.string y0, .int .i64 y1, .int .i64 y2, .int .i64 y3] 73)
    by_cases q1 : y1 = p
    rotate_left
    · have d0 : (y1 == p) = false := int_eqf q1
      have HF : Hid (firstTo n ss p way far (k + 1) = firstTo n ss p way far k) := Lib.hid (firstTo_not E.out (fun e => q1 e.1))
      clear q1
      go_wp2
      go_quiet (fail)
      go_wp2
      go_roundw
      case rel => exact ⟨k + 1, by omega, by rw [HF.out], by go_num, below_drewN hb1 _⟩
      case measure => simp [intOf]; omega
    have d0 : (y1 == p) = true := int_eqt q1
    by_cases q3 : y3 = way
    rotate_left
    · have d1 : (y3 == way) = false := int_eqf q3
      have HF : Hid (firstTo n ss p way far (k + 1) = firstTo n ss p way far k) := Lib.hid (firstTo_not E.out (fun e => q3 e.2.1))
      clear q1 q3
      go_wp2
      go_quiet (fail)
      go_wp2
      go_roundw
      case rel => exact ⟨k + 1, by omega, by rw [HF.out], by go_num, below_drewN hb1 _⟩
      case measure => simp [intOf]; omega
    have d1 : (y3 == way) = true := int_eqt q3
    obtain ⟨df, s1, ds, s2, HFar⟩ : ∃ d : Int, IntKind.i64.wrap (y2 - a) = d ∧ ∃ e : Int, IntKind.i64.wrap (d * way) = e ∧ Hid (0 < e ↔ far < farOf n p y2 way) := by
      have h1 := HI.out
      have h2 := HP.out
      have h3 := h0.out
      have h4 := ha.out
      simp only at h1
      rw [q1] at h1
      refine ⟨y2 - a, wrap_small ?_ ?_, (y2 - a) * way, wrap_small ?_ ?_, Lib.hid ?_⟩
      all_goals (rcases hst.out.2 with hw | hw <;> (have hw : way = _ := hw; subst hw; unfold atOf at h4; simp at h4; first | omega | (rw [far_fwd]; omega) | (rw [far_back]; omega)))
    by_cases q4 : 0 < ds
    rotate_left
    · have d2 : decide (0 < ds) = false := decide_eq_false q4
      have HF : Hid (firstTo n ss p way far (k + 1) = firstTo n ss p way far k) := Lib.hid (firstTo_not E.out (fun e => q4 (HFar.out.2 e.2.2)))
      clear q1 q3 q4
      go_wp2
      go_quiet (fail)
      go_wp2
      go_roundw
      case rel => exact ⟨k + 1, by omega, by rw [HF.out], by go_num, below_drewN hb1 _⟩
      case measure => simp [intOf]; omega
    have d2 : decide (0 < ds) = true := decide_eq_true q4
    have HT : Hid (y1 = p ∧ y3 = way ∧ far < farOf n p y2 way) := Lib.hid ⟨q1, q3, HFar.out.1 q4⟩
    clear q3 q4
    cases hp : firstTo n ss p way far k with
    | none =>
      have HF : Hid (firstTo n ss p way far (k + 1) = some k) := Lib.hid (firstTo_one E.out HT.out hp)
      clear hp q1
      rw [onum_none]
      go_wp2
      go_quiet (fail)
      go_wp2
      go_roundw
      case rel => exact ⟨k + 1, by omega, by rw [HF.out]; rfl, by go_num, below_drewN hb1 _⟩
      case measure => simp [intOf]; omega
    | some b =>
      obtain ⟨l1, l2, t, e1, e2, e3, e4⟩ := firstTo_lt hp
      obtain ⟨ad', he', t0, t1, t2, t3, ET, r0, r1, r2, r3⟩ := signalK_at (Kn.C_below hbw hs) b l2
      obtain rfl := Option.some.inj he'
      have HJ := Lib.hid (sig_in hr.out ET.out)
      have b0 : (0 : Int) ≤ (b : Int) := Int.natCast_nonneg _
      have b1 : (b : Int) < (ss.length : Int) := by omega
      have d5 : decide ((b : Int) < 0) = false := decide_eq_false (by omega)
      have htp : t1 = p := by have := e1.symm.trans ET.out; injection this with this; rw [this] at e2; exact e2
      obtain ⟨dg, s3, dt, s4, HNew⟩ : ∃ d : Int, IntKind.i64.wrap (y2 - t2) = d ∧ ∃ e : Int, IntKind.i64.wrap (d * way) = e ∧ Hid (e < 0 ↔ farOf n p y2 way < farOf n p t2 way) := by
        have h1 := HI.out
        have h2 := HP.out
        have h3 := HJ.out
        simp only at h1 h3
        rw [q1] at h1
        rw [htp] at h3
        refine ⟨y2 - t2, wrap_small ?_ ?_, (y2 - t2) * way, wrap_small ?_ ?_, Lib.hid ?_⟩
        all_goals (rcases hst.out.2 with hw | hw <;> (have hw : way = _ := hw; subst hw; first | omega | (rw [far_fwd, far_fwd]; omega) | (rw [far_back, far_back]; omega)))
      have HPK := Lib.hid hp
      have r4 : (ad.add (b * 4)).block < wo.heap.size := World.block_lt_of_cell? wo ⟨(ad.add (b * 4)).block, (ad.add (b * 4)).off + 2, none⟩ r2
      clear hp he' htp e1 e2 e3 e4 r0 r1 r3 q1
      rw [onum_some]
      by_cases q5 : dt < 0
      · have d6 : decide (dt < 0) = true := decide_eq_true q5
        have HF : Hid (firstTo n ss p way far (k + 1) = some k) := Lib.hid (firstTo_new E.out HT.out HPK.out ET.out (HNew.out.1 q5))
        clear q5
        go_wp2
        go_quiet (fail)
        go_wp2
        go_roundw
        case rel => exact ⟨k + 1, by omega, by rw [HF.out]; rfl, by go_num, below_drewN hb1 _⟩
        case measure => simp [intOf]; omega
      · have d6 : decide (dt < 0) = false := decide_eq_false q5
        have HF : Hid (firstTo n ss p way far (k + 1) = some b) := Lib.hid (firstTo_old E.out HPK.out ET.out (fun e => q5 (HNew.out.2 e)))
        clear q5
        go_wp2
        go_quiet (fail)
        go_wp2
        go_roundw
        case rel => exact ⟨k + 1, by omega, by rw [HF.out]; rfl, by go_num, below_drewN hb1 _⟩
        case measure => simp [intOf]; omega
end Go.Proofs.YtpggopdojhodaaaGreat.L
namespace Go.Proofs.YtpggopdojhodaaaGreat.L
open Go.RowKit
open Classical
set_option linter.unusedVariables false
noncomputable def needsTo (ls : List Lie) (fs : List Flank) : Nat → List Lie
  | 0 => ls
  | k + 1 => match fs[k]? with
    | none => needsTo ls fs k
    | some f => if f.kind = 3 ∧ ¬ (⟨f.of_, f.lie⟩ : Lie) ∈ needsTo ls fs k then needsTo ls fs k ++ [⟨f.of_, f.lie⟩] else needsTo ls fs k
noncomputable def needs (r : Route) : List Lie := needsTo r.lies r.flanks r.flanks.length
section
variable {ls : List Lie} {fs : List Flank} {k : Nat} {f : Flank}
theorem needsTo_len (ls : List Lie) (fs : List Flank) : ∀ k, (needsTo ls fs k).length ≤ ls.length + k
  | 0 => Nat.le_refl _
  | k + 1 => by
    have := needsTo_len ls fs k
    unfold needsTo
    split
    · omega
    split
    · rw [List.length_append, List.length_singleton]
      omega
    · omega
theorem needsTo_skip (h : fs[k]? = some f) (hk : ¬ f.kind = 3) : needsTo ls fs (k + 1) = needsTo ls fs k := by
  rw [needsTo]
  simp only [h]
  rw [if_neg (fun e => hk e.1)]
theorem needsTo_had (h : fs[k]? = some f) (hm : (⟨f.of_, f.lie⟩ : Lie) ∈ needsTo ls fs k) : needsTo ls fs (k + 1) = needsTo ls fs k := by
  rw [needsTo]
  simp only [h]
  rw [if_neg (fun e => e.2 hm)]
theorem needsTo_new (h : fs[k]? = some f) (hk : f.kind = 3) (hm : ¬ (⟨f.of_, f.lie⟩ : Lie) ∈ needsTo ls fs k) : needsTo ls fs (k + 1) = needsTo ls fs k ++ [⟨f.of_, f.lie⟩] := by
  rw [needsTo]
  simp only [h]
  rw [if_pos ⟨hk, hm⟩]
end
section
variable {ls : List Lie} {fs : List Flank} {k : Nat} {f : Flank}
theorem needsTo_put (h : fs[k]? = some f) (hk : f.kind = 3) : needsTo ls fs (k + 1) = if pv ((⟨f.of_, f.lie⟩ : Lie) ∈ needsTo ls fs k) = true then needsTo ls fs k else needsTo ls fs k ++ [⟨f.of_, f.lie⟩] := by
  by_cases hm : (⟨f.of_, f.lie⟩ : Lie) ∈ needsTo ls fs k
  · rw [needsTo_had h hm, if_pos (pv_true hm)]
  · rw [needsTo_new h hk hm, if_neg (by rw [pv_false hm]; simp)]
end
def inTo {α : Type} (xs : List α) (k : Nat) (x : α) : Prop := ∃ j, j < k ∧ xs[j]? = some x
theorem inTo_zero {α : Type} {xs : List α} {x : α} : ¬ inTo xs 0 x := fun ⟨j, h, _⟩ => by omega
theorem inTo_snoc {α : Type} {xs : List α} {k : Nat} {x y : α} (h : ¬ inTo xs k x) (hy : xs[k]? = some y) (hne : ¬ y = x) : ¬ inTo xs (k + 1) x := by
  rintro ⟨j, hj, hx⟩
  by_cases e : j = k
  · subst e
    rw [hy] at hx
    exact hne (Option.some.inj hx)
  · exact h ⟨j, by omega, hx⟩
theorem inTo_all {α : Type} {xs : List α} {x : α} (h : ¬ inTo xs xs.length x) : ¬ x ∈ xs := fun hm => by
  obtain ⟨j, hj⟩ := List.mem_iff_getElem?.1 hm
  exact h ⟨j, (List.getElem?_eq_some_iff.1 hj).1, hj⟩
def meets (x y : Part) : Prop := x.piece = y.piece ∧ x.frm ≤ y.til ∧ y.frm ≤ x.til
def touch (a b : List Part) : Prop := ∃ x, x ∈ a ∧ ∃ y, y ∈ b ∧ meets x y
def crossP (a b : List Int) : Prop := ∃ x, x ∈ a ∧ x ∈ b
def against (x y : Lie) : Prop := x.joint = y.joint ∧ ¬ x.lie = y.lie
def needP (a b : Route) : Prop := ∃ x, x ∈ needs a ∧ ∃ y, y ∈ needs b ∧ against x y
noncomputable def excl (a b : Route) : Int :=
  if touch a.parts b.parts then 1 else if crossP a.crosses b.crosses then 2 else if needP a b then 3 else if touch a.over b.parts ∨ touch a.parts b.over then 4 else 0
end Go.Proofs.YtpggopdojhodaaaGreat.L
namespace Go.Proofs.YtpggopdojhodaaaGreat.L
open Go.RowKit
set_option linter.unusedVariables false
set_option linter.unusedSimpArgs false
theorem new_cells (W : World) (cs : List Value) (t : TypeId) {g : Nat} (hg : g = W.heap.size) : ∀ (i : Nat) (u : Value), cs[i]? = some u → (W.alloc (.cells cs.toArray t)).cell? ((⟨g, 0, none⟩ : Addr).add i) = some u := by
  intro i u hu
  subst hg
  rw [add_zero, cell_of_row _ _ _ _ _ _ (heap_alloc_new W _)]
  simpa using hu
theorem own_next {v v' : Value} {B s : Nat} (h : ∀ b, v.ownBlock = some b → B ≤ b) (ha : v'.ownBlock = v.ownBlock ∨ v'.ownBlock = some s) (hs : B ≤ s) : ∀ b, v'.ownBlock = some b → B ≤ b := by
  intro b hb
  rcases ha with ha | ha
  · exact h b (ha ▸ hb)
  · rw [ha] at hb
    injection hb with hb
    omega
theorem below_push {B : Nat} {W w1 w2 : World} {v : Value} (hb : Below B W w1) (hg : w1.grownBy w2 v.ownBlock) (ho : ∀ b, v.ownBlock = some b → B ≤ b) (hs : B ≤ w1.heap.size) : Below B W w2 := hb.grown hg hs (fun k hk => ho k hk)
theorem take_push {α : Type} {xs : List α} {k : Nat} {x : α} (h : xs[k]? = some x) : xs.take (k + 1) = xs.take k ++ [x] := by
  rw [List.take_add_one, h]
  rfl
set_option maxRecDepth 100000 in
set_option maxHeartbeats 8000000 in
theorem specNeeds {ok : Nat → Prop} (r : Route) (v0 v1 v2 v4 v5 v6 : Value) (A3 A7 : Option Addr) (c3 c7 : Nat) (w : World) (h3 : lieK.C w ok A3 r.lies) (h7 : flankK.C w ok A7 r.flanks) (hl : r.lies.length ≤ 1048576) (hf : r.flanks.length ≤ 1048576) :
    Calls Tryz.prog 109 #[.agg #[v0, v1, v2, .slice A3 r.lies.length c3, v4, v5, v6, .slice A7 r.flanks.length c7]] w (RetW 109 lieK nobody (needs r) w) := by
  obtain ⟨i0, hi, hz0, hz1, hz2⟩ := info_parts info109
  go_enter Tryz.func109, Tryz.ntmps109
  go_wp2
  obtain ⟨W0, hW0, hB0, hs0, f7⟩ : ∃ W0, W0 = w.alloc (.cells #[v0, v1, v2, .slice A3 r.lies.length c3, v4, v5, v6, .slice A7 r.flanks.length c7] 80) ∧ Below w.heap.size w W0 ∧ w.heap.size < W0.heap.size ∧
    W0.cell? ⟨w.heap.size, 7, none⟩ = some (.slice A7 r.flanks.length c7) := ⟨_, rfl, below_alloc _ _, by simp, by simp⟩
  rw [← hW0]
  clear hW0
  go_loopw [3, 14] (fun o i wr => ∃ k : Nat, k ≤ r.lies.length ∧ i = .int .i64 k ∧ Hid (lieK.Rw 109 wr nobody o (r.lies.take k)) ∧ Hid (∀ b, o.ownBlock = some b → W0.heap.size ≤ b) ∧ Below W0.heap.size W0 wr) (fun _ i _ => r.lies.length - (intOf i).toNat)
  case atStart => exact ⟨0, Nat.zero_le _, rfl, Lib.hid (by rw [List.take_zero]; exact Kn.Rw.nil), Lib.hid (by simp [Value.ownBlock]), Below.refl _ _⟩
  case round =>
    obtain ⟨k, hk, rfl, HR, HO, hb⟩ := hrel
    have hbw := hB0.trans (hb.mono hB0.size)
    by_cases hlt : k < r.lies.length
    · obtain ⟨a3, rfl, y0, y1, E, g0, g1⟩ := lieK_at (Kn.C_below hbw h3) k hlt
      have j0 : (0 : Int) ≤ (k : Int) := Int.natCast_nonneg _
      have j1 : (k : Int) < (r.lies.length : Int) := by omega
      have hbx := (hb.alloc hb.size (Obj.cells #[.int .i64 y0, .int .i64 y1] 109)).alloc (by have := hb.size; simp; omega) (Obj.cells #[.int .i64 y0, .int .i64 y1] 109)
      go_wp2_with (at_builtin; refine wpList_append_rw _ rfl (.tmp 18) (.tmp 20) 76 rfl 109 i0 _ 16 Tryz.underlying76 hi hz0 hz1 hz2 rfl (by decide) u3 (r.lies.take k) [⟨y0, y1⟩] rfl ((HR.out.below (below_alloc _ _)).below (below_alloc _ _)) (fun _ h => h.elim) (some ⟨wr.heap.size + 1, 0, none⟩) 1 1 rfl rfl (Kn.Src.one (lieK_mk _ _ _) (new_cells _ _ _ (by simp))) (by simp only [maxLen, List.length_take]; omega) (by simp only [List.length_take]; omega) ?_; intro v' w1 HR1 hg1 hat1)
      have HR2 : Hid (lieK.Rw 109 w1 nobody v' (r.lies.take (k + 1))) := Lib.hid (by rw [take_push E.out]; exact HR1)
      have HO2 := Lib.hid (own_next HO.out hat1 hbx.size)
      have hb2 := below_push hbx hg1 HO.out hbx.size
      clear HR1 hat1 hg1 HR HO
      go_wp2
      go_roundw
      case rel => exact ⟨k + 1, by omega, by go_num, HR2, HO2, hb2⟩
      case measure => simp [intOf]; omega
    · obtain rfl : k = r.lies.length := by omega
      rw [List.take_length] at HR
      obtain ⟨hc, hf0⟩ := bcell hb
      have hs2 : w.heap.size < wr.heap.size := by have := hb.size; omega
      go_wp2
      clear hbw hc hf0 hs2
      obtain ⟨wa, hwa, hba, HRa⟩ : ∃ wa, wa = wr ∧ Below W0.heap.size W0 wa ∧ Hid (lieK.Rw 109 wa nobody u3 r.lies) := ⟨_, rfl, hb, HR⟩
      rw [← hwa]
      clear hwa hb HR
      go_loopw [3, 26] (fun o i wr => ∃ k : Nat, k ≤ r.flanks.length ∧ i = .int .i64 k ∧ Hid (lieK.Rw 109 wr nobody o (needsTo r.lies r.flanks k)) ∧ Hid (∀ b, o.ownBlock = some b → W0.heap.size ≤ b) ∧ Below W0.heap.size W0 wr) (fun _ i _ => r.flanks.length - (intOf i).toNat)
      case atStart => exact ⟨0, Nat.zero_le _, rfl, HRa, HO, hba⟩
      case round =>
        clear HRa HO hba hk hlt
        obtain ⟨k, hk, rfl, HR, HO, hb⟩ := hrel
        have hbw := hB0.trans (hb.mono hB0.size)
        obtain ⟨wo, rfl⟩ : ∃ wo : World, wo = wr := ⟨_, rfl⟩
        by_cases hlt : k < r.flanks.length
        · obtain ⟨a7, rfl, y0, y1, y2, y3, E, g0, g1, g2, g3⟩ := flankK_at (Kn.C_below hbw h7) k hlt
          have j0 : (0 : Int) ≤ (k : Int) := Int.natCast_nonneg _
          have j1 : (k : Int) < (r.flanks.length : Int) := by omega
          by_cases q : y1 = 3
          rotate_left
          · have d0 : (y1 != 3) = true := int_ne q
            have HN := needsTo_skip (ls := r.lies) E.out q
            have HR2 : Hid (lieK.Rw 109 (wo.alloc (.cells #[.int .i64 y0, .int .i64 y1, .int .i64 y2, .int .i64 y3] 157)) nobody u3 (needsTo r.lies r.flanks (k + 1))) := Lib.hid (by rw [HN]; exact HR.out.below (below_alloc _ _))
            clear HN HR q
            go_wp2
            go_roundw
            case rel => exact ⟨k + 1, by omega, by go_num, HR2, HO, hb.alloc hb.size _⟩
            case measure => simp [intOf]; omega
          have d0 : (y1 != 3) = false := by rw [q]; rfl
          have Q := Lib.hid q
          clear q
          obtain ⟨ns, HNS⟩ : ∃ ns, Hid (needsTo r.lies r.flanks k = ns) := ⟨_, Lib.hid rfl⟩
          have hnl := needsTo_len r.lies r.flanks k
          rw [HNS.out] at HR hnl
          obtain ⟨An, cn, rfl, hcn, HC⟩ := HR.out.C
          have HC := Lib.hid HC
          go_wp2
          obtain ⟨W1, hW1, hB1, hs1, f1, f2, f3⟩ : ∃ W1, W1 = wo.alloc (.cells #[.int .i64 y0, .int .i64 y1, .int .i64 y2, .int .i64 y3] 157) ∧ Below wo.heap.size wo W1 ∧ wo.heap.size < W1.heap.size ∧
            W1.cell? ⟨wo.heap.size, 1, none⟩ = some (.int .i64 y1) ∧ W1.cell? ⟨wo.heap.size, 2, none⟩ = some (.int .i64 y2) ∧ W1.cell? ⟨wo.heap.size, 3, none⟩ = some (.int .i64 y3) := ⟨_, rfl, below_alloc _ _, by simp, by simp, by simp, by simp⟩
          rw [← hW1]
          clear hW1
          have hb1 := hb.trans (hB1.mono hb.size)
          go_loopw [8, 35] (fun o i wr => ∃ m : Nat, m ≤ ns.length ∧ i = .int .i64 m ∧ o = .bool (pv (inTo ns m ⟨y2, y3⟩)) ∧ Below W1.heap.size W1 wr) (fun _ i _ => ns.length - (intOf i).toNat)
          case atStart => exact ⟨0, Nat.zero_le _, rfl, by rw [pv_false inTo_zero], Below.refl _ _⟩
          case round =>
            obtain ⟨m, hm, rfl, rfl, hbi⟩ := hrel
            obtain ⟨hci, hfi⟩ := bcell hbi
            have hs3 : wo.heap.size < wr.heap.size := by have := hbi.size; omega
            have hbj := hb1.trans (hbi.mono hb1.size)
            by_cases hlm : m < ns.length
            · obtain ⟨an, rfl, z0, z1, E1, k0, k1⟩ := lieK_at (Kn.C_below (hB1.trans (hbi.mono hB1.size)) HC.out) m hlm
              have m0 : (0 : Int) ≤ (m : Int) := Int.natCast_nonneg _
              have m1 : (m : Int) < (ns.length : Int) := by omega
              by_cases qm : inTo ns m ⟨y2, y3⟩
              · have D : pv (inTo ns m ⟨y2, y3⟩) = true := pv_true qm
                have HN : Hid (pv (inTo ns (m + 1) ⟨y2, y3⟩) = true) := Lib.hid (pv_true (by obtain ⟨j, hj, h⟩ := qm; exact ⟨j, by omega, h⟩))
                clear qm
                go_wp2
                go_roundw
                case rel => exact ⟨m + 1, by omega, by go_num, by rw [HN.out], hbi.alloc hbi.size _⟩
                case measure => simp [intOf]; omega
              have D : pv (inTo ns m ⟨y2, y3⟩) = false := pv_false qm
              by_cases e0 : z0 = y2
              rotate_left
              · have d1 := int_eqf e0
                have HN : Hid (pv (inTo ns (m + 1) ⟨y2, y3⟩) = false) := Lib.hid (pv_false (inTo_snoc qm E1.out (fun h => e0 (by injection h))))
                clear qm e0
                go_wp2
                go_roundw
                case rel => exact ⟨m + 1, by omega, by go_num, by rw [HN.out], hbi.alloc hbi.size _⟩
                case measure => simp [intOf]; omega
              have d1 := int_eqt e0
              by_cases e1 : z1 = y3
              rotate_left
              · have d2 := int_eqf e1
                have HN : Hid (pv (inTo ns (m + 1) ⟨y2, y3⟩) = false) := Lib.hid (pv_false (inTo_snoc qm E1.out (fun h => e1 (by injection h))))
                clear qm e0 e1
                go_wp2
                go_roundw
                case rel => exact ⟨m + 1, by omega, by go_num, by rw [HN.out], hbi.alloc hbi.size _⟩
                case measure => simp [intOf]; omega
              have d2 := int_eqt e1
              have HN : Hid (pv (inTo ns (m + 1) ⟨y2, y3⟩) = true) := Lib.hid (pv_true ⟨m, by omega, by rw [E1.out, e0, e1]⟩)
              clear qm e0 e1
              go_wp2
              go_roundw
              case rel => exact ⟨m + 1, by omega, by go_num, by rw [HN.out], hbi.alloc hbi.size _⟩
              case measure => simp [intOf]; omega
            · obtain rfl : m = ns.length := by omega
              by_cases qm : inTo ns ns.length ⟨y2, y3⟩
              · have D : pv (inTo ns ns.length ⟨y2, y3⟩) = true := pv_true qm
                have HN : Hid (needsTo r.lies r.flanks (k + 1) = ns) := Lib.hid (by rw [needsTo_had E.out (by rw [HNS.out]; obtain ⟨j, _, h⟩ := qm; exact mem_of_get h), HNS.out])
                have HR2 := Lib.hid ((HR.out.below (hB1.trans (hbi.mono hB1.size))))
                clear qm HR
                go_wp2
                go_roundw
                case rel => exact ⟨k + 1, by omega, by go_num, by rw [HN.out]; exact HR2, HO, hbj⟩
                case measure => simp [intOf]; omega
              · have D : pv (inTo ns ns.length ⟨y2, y3⟩) = false := pv_false qm
                have HN : Hid (needsTo r.lies r.flanks (k + 1) = ns ++ [⟨y2, y3⟩]) := Lib.hid (by rw [needsTo_new E.out Q.out (by rw [HNS.out]; exact inTo_all qm), HNS.out])
                have HR2 := Lib.hid ((HR.out.below (hB1.trans (hbi.mono hB1.size))))
                have hbx := hbj.alloc hbj.size (Obj.cells #[.int .i64 y2, .int .i64 y3] 109)
                clear qm HR
                go_wp2_with (at_builtin; refine wpList_append_rw _ rfl (.tmp 57) (.tmp 63) 76 rfl 109 i0 _ 16 Tryz.underlying76 hi hz0 hz1 hz2 rfl (by decide) (.slice An ns.length cn) ns [⟨y2, y3⟩] rfl (HR2.out.below (below_alloc _ _)) (fun _ h => h.elim) (some ⟨wr.heap.size, 0, none⟩) 1 1 rfl rfl (Kn.Src.one (lieK_mk _ _ _) (new_cells _ _ _ rfl)) (by simp only [maxLen]; omega) (by omega) ?_; intro v' w1 HR3 hg1 hat1)
                have HR4 := Lib.hid HR3
                have HO2 := Lib.hid (own_next HO.out hat1 hbx.size)
                have hb2 := below_push hbx hg1 HO.out hbx.size
                clear HR3 hat1 hg1 HR2 HO
                go_wp2
                go_roundw
                case rel => exact ⟨k + 1, by omega, by go_num, by rw [HN.out]; exact HR4, HO2, hb2⟩
                case measure => simp [intOf]; omega
        · obtain rfl : k = r.flanks.length := by omega
          go_wp2
          go_ret
          exact ⟨_, rfl, HR.out, fun b h => by have := HO.out b h; omega, hbw⟩
end Go.Proofs.YtpggopdojhodaaaGreat.L
namespace Go.Proofs.YtpggopdojhodaaaGreat.L
open Go.RowKit
set_option linter.unusedVariables false
set_option linter.unusedSimpArgs false
def RetIdx {α : Type} (xs : List α) (x : α) (w : World) (e : Ending) (w' : World) : Prop := ∃ j : Int, e = .returned (.int .i64 j) ∧ ((x ∈ xs ∧ 0 ≤ j) ∨ (¬ x ∈ xs ∧ j < 0)) ∧ Below w.heap.size w w'
set_option maxHeartbeats 2000000 in
theorem indexLie {ok : Nat → Prop} (A : Option Addr) (c : Nat) (xs : List Lie) (x : Lie) (w : World) (hx : lieK.C w ok A xs) :
    Calls Tryz.prog 160 #[.slice A xs.length c, x.v] w (RetIdx xs x w) := by
  have hm := hx.1
  obtain ⟨x0, x1⟩ := x
  go_enter Tryz.func160, Tryz.ntmps160
  go_wp2
  obtain ⟨W0, hW0, hB0, hs0, f0, f1⟩ : ∃ W0, W0 = w.alloc (.cells #[.int .i64 x0, .int .i64 x1] 109) ∧ Below w.heap.size w W0 ∧ w.heap.size < W0.heap.size ∧
    W0.cell? ⟨w.heap.size, 0, none⟩ = some (.int .i64 x0) ∧ W0.cell? ⟨w.heap.size, 1, none⟩ = some (.int .i64 x1) := ⟨_, rfl, below_alloc _ _, by simp, by simp, by simp⟩
  rw [← hW0]
  clear hW0
  go_loopw [8] (fun i wr => ∃ k : Nat, k ≤ xs.length ∧ i = .int .i64 k ∧ Hid (¬ inTo xs k ⟨x0, x1⟩) ∧ Below W0.heap.size W0 wr) (fun i _ => xs.length - (intOf i).toNat)
  case atStart => exact ⟨0, Nat.zero_le _, rfl, Lib.hid inTo_zero, Below.refl _ _⟩
  case round =>
    obtain ⟨k, hk, rfl, HT, hb⟩ := hrel
    obtain ⟨hc, hf⟩ := bcell hb
    have hs2 : w.heap.size < wr.heap.size := by have := hb.size; omega
    have hbw := hB0.trans (hb.mono hB0.size)
    by_cases hlt : k < xs.length
    · obtain ⟨a0, rfl, y0, y1, E, g0, g1⟩ := lieK_at (Kn.C_below hbw hx) k hlt
      have i0 : (0 : Int) ≤ (k : Int) := Int.natCast_nonneg _
      have i1 : (k : Int) < (xs.length : Int) := by omega
      have k0 := cell_below hb f0
      have k1 := cell_below hb f1
      by_cases e0 : x0 = y0
      rotate_left
      · have d : (x0 == y0) = false := int_eqf e0
        have HN := Lib.hid (inTo_snoc HT.out E.out (fun h => e0 (by injection h with h1 h2; exact h1.symm)))
        clear e0 HT
        go_wp2
        go_quiet (fail)
        go_wp2
        go_roundw
        case rel => exact ⟨k + 1, by omega, by go_num, HN, below_drewN hb _⟩
        case measure => simp [intOf]; omega
      subst e0
      by_cases e1 : x1 = y1
      rotate_left
      · have d : (x1 == y1) = false := int_eqf e1
        have HN := Lib.hid (inTo_snoc HT.out E.out (fun h => e1 (by injection h with h1 h2; exact h2.symm)))
        clear e1 HT
        go_wp2
        go_quiet (fail)
        go_wp2
        go_roundw
        case rel => exact ⟨k + 1, by omega, by go_num, HN, below_drewN hb _⟩
        case measure => simp [intOf]; omega
      subst e1
      have HN := Lib.hid (mem_of_get E.out)
      clear HT
      go_wp2
      go_quiet (fail)
      go_wp2
      go_ret
      exact ⟨_, rfl, .inl ⟨HN.out, i0⟩, below_drewN hbw _⟩
    · obtain rfl : k = xs.length := by omega
      have HN := Lib.hid (inTo_all HT.out)
      go_wp2
      go_ret
      exact ⟨_, rfl, .inr ⟨HN.out, by decide⟩, hbw⟩
set_option maxHeartbeats 1000000 in
theorem containsLie {ok : Nat → Prop} (A : Option Addr) (c : Nat) (xs : List Lie) (x : Lie) (w : World) (hx : lieK.C w ok A xs) :
    Calls Tryz.prog 155 #[.slice A xs.length c, x.v] w (RetB (pv (x ∈ xs)) w) := by
  obtain ⟨x0, x1⟩ := x
  go_enter Tryz.func155, Tryz.ntmps155
  go_wp2_with fail
  refine (indexLie _ _ xs ⟨x0, x1⟩ _ (Kn.C_below (below_alloc _ _) hx)).mono ?_
  rintro e w1 ⟨j, rfl, h, hb⟩
  have hB := (below_alloc w (.cells #[.int .i64 x0, .int .i64 x1] 109)).trans (hb.mono (by simp))
  rcases h with ⟨h1, h2⟩ | ⟨h1, h2⟩
  · have HN : Hid (pv (⟨x0, x1⟩ ∈ xs) = true) := Lib.hid (pv_true h1)
    clear h1
    go_wp2
    go_ret
    exact ⟨by rw [HN.out]; rfl, hB⟩
  · have HN : Hid (pv (⟨x0, x1⟩ ∈ xs) = false) := Lib.hid (pv_false h1)
    clear h1
    have h3 : decide (0 ≤ j) = false := decide_eq_false (by omega)
    go_wp2
    go_ret
    exact ⟨by rw [HN.out]; rfl, hB⟩
set_option maxHeartbeats 2000000 in
theorem indexStep {ok : Nat → Prop} (A : Option Addr) (c : Nat) (xs : List Step) (x : Step) (w : World) (hx : stepK.C w ok A xs) :
    Calls Tryz.prog 149 #[.slice A xs.length c, x.v] w (RetIdx xs x w) := by
  have hm := hx.1
  obtain ⟨x0, x1⟩ := x
  go_enter Tryz.func149, Tryz.ntmps149
  go_wp2
  obtain ⟨W0, hW0, hB0, hs0, f0, f1⟩ : ∃ W0, W0 = w.alloc (.cells #[.int .i64 x0, .int .i64 x1] 124) ∧ Below w.heap.size w W0 ∧ w.heap.size < W0.heap.size ∧
    W0.cell? ⟨w.heap.size, 0, none⟩ = some (.int .i64 x0) ∧ W0.cell? ⟨w.heap.size, 1, none⟩ = some (.int .i64 x1) := ⟨_, rfl, below_alloc _ _, by simp, by simp, by simp⟩
  rw [← hW0]
  clear hW0
  go_loopw [8] (fun i wr => ∃ k : Nat, k ≤ xs.length ∧ i = .int .i64 k ∧ Hid (¬ inTo xs k ⟨x0, x1⟩) ∧ Below W0.heap.size W0 wr) (fun i _ => xs.length - (intOf i).toNat)
  case atStart => exact ⟨0, Nat.zero_le _, rfl, Lib.hid inTo_zero, Below.refl _ _⟩
  case round =>
    obtain ⟨k, hk, rfl, HT, hb⟩ := hrel
    obtain ⟨hc, hf⟩ := bcell hb
    have hs2 : w.heap.size < wr.heap.size := by have := hb.size; omega
    have hbw := hB0.trans (hb.mono hB0.size)
    by_cases hlt : k < xs.length
    · obtain ⟨a0, rfl, y0, y1, E, g0, g1⟩ := stepK_at (Kn.C_below hbw hx) k hlt
      have i0 : (0 : Int) ≤ (k : Int) := Int.natCast_nonneg _
      have i1 : (k : Int) < (xs.length : Int) := by omega
      have k0 := cell_below hb f0
      have k1 := cell_below hb f1
      by_cases e0 : x0 = y0
      rotate_left
      · have d : (x0 == y0) = false := int_eqf e0
        have HN := Lib.hid (inTo_snoc HT.out E.out (fun h => e0 (by injection h with h1 h2; exact h1.symm)))
        clear e0 HT
        go_wp2
        go_quiet (fail)
        go_wp2
        go_roundw
        case rel => exact ⟨k + 1, by omega, by go_num, HN, below_drewN hb _⟩
        case measure => simp [intOf]; omega
      subst e0
      by_cases e1 : x1 = y1
      rotate_left
      · have d : (x1 == y1) = false := int_eqf e1
        have HN := Lib.hid (inTo_snoc HT.out E.out (fun h => e1 (by injection h with h1 h2; exact h2.symm)))
        clear e1 HT
        go_wp2
        go_quiet (fail)
        go_wp2
        go_roundw
        case rel => exact ⟨k + 1, by omega, by go_num, HN, below_drewN hb _⟩
        case measure => simp [intOf]; omega
      subst e1
      have HN := Lib.hid (mem_of_get E.out)
      clear HT
      go_wp2
      go_quiet (fail)
      go_wp2
      go_ret
      exact ⟨_, rfl, .inl ⟨HN.out, i0⟩, below_drewN hbw _⟩
    · obtain rfl : k = xs.length := by omega
      have HN := Lib.hid (inTo_all HT.out)
      go_wp2
      go_ret
      exact ⟨_, rfl, .inr ⟨HN.out, by decide⟩, hbw⟩
set_option maxHeartbeats 1000000 in
theorem containsStep {ok : Nat → Prop} (A : Option Addr) (c : Nat) (xs : List Step) (x : Step) (w : World) (hx : stepK.C w ok A xs) :
    Calls Tryz.prog 124 #[.slice A xs.length c, x.v] w (RetB (pv (x ∈ xs)) w) := by
  obtain ⟨x0, x1⟩ := x
  go_enter Tryz.func124, Tryz.ntmps124
  go_wp2_with fail
  refine (indexStep _ _ xs ⟨x0, x1⟩ _ (Kn.C_below (below_alloc _ _) hx)).mono ?_
  rintro e w1 ⟨j, rfl, h, hb⟩
  have hB := (below_alloc w (.cells #[.int .i64 x0, .int .i64 x1] 124)).trans (hb.mono (by simp))
  rcases h with ⟨h1, h2⟩ | ⟨h1, h2⟩
  · have HN : Hid (pv (⟨x0, x1⟩ ∈ xs) = true) := Lib.hid (pv_true h1)
    clear h1
    go_wp2
    go_ret
    exact ⟨by rw [HN.out]; rfl, hB⟩
  · have HN : Hid (pv (⟨x0, x1⟩ ∈ xs) = false) := Lib.hid (pv_false h1)
    clear h1
    have h3 : decide (0 ≤ j) = false := decide_eq_false (by omega)
    go_wp2
    go_ret
    exact ⟨by rw [HN.out]; rfl, hB⟩
set_option maxHeartbeats 2000000 in
theorem indexInt {ok : Nat → Prop} (A : Option Addr) (c : Nat) (xs : List Int) (x : Int) (w : World) (hx : Kn.int.C w ok A xs) :
    Calls Tryz.prog 153 #[.slice A xs.length c, .int .i64 x] w (RetIdx xs x w) := by
  have hm := hx.1
  obtain ⟨x0, rfl⟩ : ∃ y, y = x := ⟨_, rfl⟩
  go_enter Tryz.func153, Tryz.ntmps153
  go_wp2
  obtain ⟨W0, hW0, hB0⟩ : ∃ W0, W0 = w ∧ Below w.heap.size w W0 := ⟨_, rfl, Below.refl _ _⟩
  rw [← hW0]
  clear hW0
  go_loopw [8] (fun i wr => ∃ k : Nat, k ≤ xs.length ∧ i = .int .i64 k ∧ Hid (¬ inTo xs k x0) ∧ Below W0.heap.size W0 wr) (fun i _ => xs.length - (intOf i).toNat)
  case atStart => exact ⟨0, Nat.zero_le _, rfl, Lib.hid inTo_zero, Below.refl _ _⟩
  case round =>
    obtain ⟨k, hk, rfl, HT, hb⟩ := hrel
    obtain ⟨hc, hf⟩ := bcell hb
    have hbw := hB0.trans (hb.mono hB0.size)
    by_cases hlt : k < xs.length
    · obtain ⟨a0, rfl, y0, E, g0⟩ := int_at (Kn.C_below hbw hx) k hlt
      have i0 : (0 : Int) ≤ (k : Int) := Int.natCast_nonneg _
      have i1 : (k : Int) < (xs.length : Int) := by omega
      by_cases e0 : x0 = y0
      rotate_left
      · have d : (x0 == y0) = false := int_eqf e0
        have HN := Lib.hid (inTo_snoc HT.out E.out (fun h => e0 (by exact h.symm)))
        clear e0 HT
        go_wp2
        go_roundw
        case rel => exact ⟨k + 1, by omega, by go_num, HN, hb⟩
        case measure => simp [intOf]; omega
      subst e0
      have HN := Lib.hid (mem_of_get E.out)
      clear HT
      go_wp2
      go_ret
      exact ⟨_, rfl, .inl ⟨HN.out, i0⟩, by first | exact hb | exact hbw⟩
    · obtain rfl : k = xs.length := by omega
      have HN := Lib.hid (inTo_all HT.out)
      go_wp2
      go_ret
      exact ⟨_, rfl, .inr ⟨HN.out, by decide⟩, by first | exact hb | exact hbw⟩
set_option maxHeartbeats 1000000 in
theorem containsInt {ok : Nat → Prop} (A : Option Addr) (c : Nat) (xs : List Int) (x : Int) (w : World) (hx : Kn.int.C w ok A xs) :
    Calls Tryz.prog 144 #[.slice A xs.length c, .int .i64 x] w (RetB (pv (x ∈ xs)) w) := by
  obtain ⟨x0, rfl⟩ : ∃ y, y = x := ⟨_, rfl⟩
  go_enter Tryz.func144, Tryz.ntmps144
  go_wp2_with fail
  refine (indexInt _ _ xs x0 _ hx).mono ?_
  rintro e w1 ⟨j, rfl, h, hb⟩
  have hB := hb
  rcases h with ⟨h1, h2⟩ | ⟨h1, h2⟩
  · have HN : Hid (pv (x0 ∈ xs) = true) := Lib.hid (pv_true h1)
    clear h1
    go_wp2
    go_ret
    exact ⟨by rw [HN.out]; rfl, hB⟩
  · have HN : Hid (pv (x0 ∈ xs) = false) := Lib.hid (pv_false h1)
    clear h1
    have h3 : decide (0 ≤ j) = false := decide_eq_false (by omega)
    go_wp2
    go_ret
    exact ⟨by rw [HN.out]; rfl, hB⟩
end Go.Proofs.YtpggopdojhodaaaGreat.L
namespace Go.Proofs.YtpggopdojhodaaaGreat.L
open Go.RowKit
set_option linter.unusedVariables false
set_option linter.unusedSimpArgs false
def Box {α : Type} (d : Kn α) (e tS : Nat) (w : World) (g : Nat) (xs : List α) (v : Value) : Prop := w.heap[g]? = some (.cells #[v] tS (0, 0)) ∧ d.Rw e w nobody v xs ∧ ∀ b, v.ownBlock = some b → g < b
def RetBox {α : Type} (d : Kn α) (e tS : Nat) (B g : Nat) (xs : List α) (w : World) (en : Ending) (w' : World) : Prop := ∃ v, en = .returned (.tuple #[]) ∧ Box d e tS w' g xs v ∧ Below B w w'
set_option maxRecDepth 100000 in
set_option maxHeartbeats 4000000 in
theorem put (g : Nat) (xs : List Lie) (x : Lie) (v : Value) (w : World) (hb : Box lieK 109 76 w g xs v) (hl : xs.length ≤ 4194304) :
    Calls Tryz.prog 154 #[x.v, .pointer (some ⟨g, 0, none⟩)] w (RetBox lieK 109 76 g g (if pv (x ∈ xs) = true then xs else xs ++ [x]) w) := by
  obtain ⟨i0, hi, hz0, hz1, hz2⟩ := info_parts info109
  obtain ⟨x0, x1⟩ := x
  obtain ⟨hv, HR, HO⟩ := hb
  obtain ⟨A, c, rfl, hc, HC⟩ := HR.C
  have f0 := cell_of_one hv
  have f1 := free_of_one hv
  have hg := lt_of_get hv
  have HR := Lib.hid HR
  have HO := Lib.hid HO
  have HV := Lib.hid hv
  clear hv
  by_cases q : (⟨x0, x1⟩ : Lie) ∈ xs
  · have E : Hid (pv ((⟨x0, x1⟩ : Lie) ∈ xs) = true) := Lib.hid (pv_true q)
    rw [if_pos E.out]
    clear q
    go_enter Tryz.func154, Tryz.ntmps154
    go_wp2_with fail
    refine (containsLie _ _ xs ⟨x0, x1⟩ _ (Kn.C_below (below_alloc _ _) HC)).mono ?_
    rintro e w1 ⟨rfl, hb1⟩
    rw [E.out]
    have hbw := (below_alloc _ _).trans (hb1.mono (by simp))
    go_wp2
    go_end0
    exact ⟨_, rfl, ⟨(hbw.block _ hg).trans HV.out, HR.out.below hbw, HO.out⟩, hbw.mono (by omega)⟩
  · have E : Hid (pv ((⟨x0, x1⟩ : Lie) ∈ xs) = false) := Lib.hid (pv_false q)
    rw [if_neg (by rw [E.out]; simp)]
    clear q
    go_enter Tryz.func154, Tryz.ntmps154
    go_wp2_with fail
    refine (containsLie _ _ xs ⟨x0, x1⟩ _ (Kn.C_below (below_alloc _ _) HC)).mono ?_
    rintro e w1 ⟨rfl, hb1⟩
    rw [E.out]
    have hbw := (below_alloc _ _).trans (hb1.mono (by simp))
    have HV1 : Hid (w1.heap[g]? = some (.cells #[.slice A xs.length c] 76 (0, 0))) := Lib.hid ((hbw.block _ hg).trans HV.out)
    have k0 := cell_of_one HV1.out
    have hs1 : w.heap.size < w1.heap.size := by have := hb1.size; simp at this; omega
    have kx0 : w1.cell? ⟨w.heap.size, 0, none⟩ = some (.int .i64 x0) := cell_below hb1 (by simp)
    have kx1 : w1.cell? ⟨w.heap.size, 1, none⟩ = some (.int .i64 x1) := cell_below hb1 (by simp)
    go_wp2_with (at_builtin; refine wpList_append_rw _ rfl (.tmp 7) (.tmp 9) 76 rfl 109 i0 _ 16 Tryz.underlying76 hi hz0 hz1 hz2 rfl (by decide) (.slice A xs.length c) xs [⟨x0, x1⟩] rfl ((HR.out.below hbw).below (below_alloc _ _)) (fun _ h => h.elim) (some ⟨w1.heap.size, 0, none⟩) 1 1 rfl rfl (Kn.Src.one (lieK_mk _ _ _) (new_cells _ _ _ rfl)) (by simp only [maxLen]; omega) (by omega) ?_; intro v' w2 HR2 hg2 hat2; obtain ⟨A2, c2, rfl, hc2⟩ := HR2.form1; have HV2 := Lib.hid ((hg2.block g (by simp; omega) (fun e => by have := HO.out g e.symm; omega)).trans ((below_alloc _ _).block g (by omega) |>.trans HV1.out)); have k2 := cell_of_one HV2.out; have k3 := free_of_one HV2.out)
    go_end0
    have hs2 := hg2.size
    simp at hs2
    refine ⟨_, rfl, ⟨one_setCell HV2.out, ?_, ?_⟩, ?_⟩
    · refine Kn.Rw.move (fun k hk => Below.heap_setCell _ _ _ _ ?_) (fun _ h => h.elim) HR2
      have := own_next (B := g + 1) (fun b h => HO.out b h) hat2 (by simp; omega) k hk
      show k ≠ g
      omega
    · exact fun b h => own_next (B := g + 1) (fun b h => HO.out b h) hat2 (by simp; omega) b h
    · exact ((below_push ((hbw.mono (by omega : g ≤ w.heap.size)).alloc (by omega) _) hg2 (fun b h => by have := HO.out b h; omega) (by simp; omega))).setCell (Nat.le_refl _) _
theorem heap_get_at (W : World) (o : Obj) {g : Nat} (hg : g = W.heap.size) : (W.alloc o).heap[g]? = some o := by rw [hg]; exact heap_alloc_new W o
theorem lieK_flat : ∀ (w : World) (ok ok' : Nat → Prop) (x : Lie) (cs : List Value), lieK.K w ok x cs → lieK.K w ok' x cs := fun _ _ _ _ _ h => h
set_option maxRecDepth 100000 in
set_option maxHeartbeats 8000000 in
theorem implNeeds {ok : Nat → Prop} (r : Route) (v0 v1 v2 v4 v5 v6 : Value) (A3 A7 : Option Addr) (c3 c7 : Nat) (w : World) (h3 : lieK.C w ok A3 r.lies) (h7 : flankK.C w ok A7 r.flanks) (hl : r.lies.length ≤ 1048576) (hf : r.flanks.length ≤ 1048576) :
    Calls Tryz.prog 145 #[.agg #[v0, v1, v2, .slice A3 r.lies.length c3, v4, v5, v6, .slice A7 r.flanks.length c7]] w (RetW 109 lieK nobody (needs r) w) := by
  obtain ⟨i0, hi, hz0, hz1, hz2⟩ := info_parts info109
  have H3 : Hid (lieK.C ((w.alloc (.cells #[v0, v1, v2, .slice A3 r.lies.length c3, v4, v5, v6, .slice A7 r.flanks.length c7] 80)).alloc (.cells #[.slice none 0 0] 76)) ok A3 r.lies) := Lib.hid (Kn.C_below ((below_alloc _ _).alloc (by simp) _) h3)
  go_enter Tryz.func145, Tryz.ntmps145
  go_wp2_with (at_builtin; refine wpList_append_rw _ rfl (.tmp 8) (.tmp 10) 76 rfl 109 i0 _ 16 Tryz.underlying76 hi hz0 hz1 hz2 rfl (by decide) (.slice none 0 0) [] r.lies rfl (Kn.Rw.nil (d := lieK) (ok := nobody)) (fun _ h => h.elim) A3 r.lies.length c3 rfl rfl (Kn.Src.flat lieK_flat H3.out) (by simp only [maxLen, List.length_nil]; omega) (by simp only [List.length_nil]; omega) ?_; intro v' w2 HR2 hg2 hat2; rw [List.nil_append] at HR2; obtain ⟨A2, c2, rfl, hc2, _⟩ := HR2.form; have HV := Lib.hid ((hg2.block (w.heap.size + 1) (by simp) (by simp [Value.ownBlock])).trans (heap_get_at _ _ (by simp))); have k0 := cell_of_one HV.out; have k1 := free_of_one HV.out; have k7 : w2.cell? ⟨w.heap.size, 7, none⟩ = some (.slice A7 r.flanks.length c7) := (World.cell?_of_block (hg2.block w.heap.size (by simp; omega) (by simp [Value.ownBlock]))).trans (by simp))
  have hs2 := hg2.size
  simp at hs2
  have ho2 : ∀ b, (Value.slice A2 r.lies.length c2).ownBlock = some b → w.heap.size + 1 < b := own_next (B := w.heap.size + 2) (by simp [Value.ownBlock]) hat2 (by simp)
  have hbx : Box lieK 109 76 (w2.setCell ⟨w.heap.size + 1, 0, none⟩ (.slice A2 r.lies.length c2)) (w.heap.size + 1) r.lies (.slice A2 r.lies.length c2) := by
    refine ⟨one_setCell HV.out, Kn.Rw.move (fun k hk => Below.heap_setCell _ _ _ _ ?_) (fun _ h => h.elim) HR2, ho2⟩
    have := ho2 k hk
    show k ≠ w.heap.size + 1
    omega
  have hbw : Below (w.heap.size + 1) (w.alloc (.cells #[v0, v1, v2, .slice A3 r.lies.length c3, v4, v5, v6, .slice A7 r.flanks.length c7] 80)) (w2.setCell ⟨w.heap.size + 1, 0, none⟩ (.slice A2 r.lies.length c2)) := by
    have z0 : Below (w.heap.size + 1) (w.alloc (.cells #[v0, v1, v2, .slice A3 r.lies.length c3, v4, v5, v6, .slice A7 r.flanks.length c7] 80)) ((w.alloc (.cells #[v0, v1, v2, .slice A3 r.lies.length c3, v4, v5, v6, .slice A7 r.flanks.length c7] 80)).alloc (.cells #[.slice none 0 0] 76)) := (Below.refl _ _).alloc (by simp) _
    have z1 := z0.grown hg2 (by simp) (fun k hk => by simp [Value.ownBlock] at hk)
    exact z1.setCell (Nat.le_refl _) _
  obtain ⟨W0, hW0, hB0, hs0, f7⟩ : ∃ W0, W0 = w.alloc (.cells #[v0, v1, v2, .slice A3 r.lies.length c3, v4, v5, v6, .slice A7 r.flanks.length c7] 80) ∧ Below w.heap.size w W0 ∧ W0.heap.size = w.heap.size + 1 ∧
    W0.cell? ⟨w.heap.size, 7, none⟩ = some (.slice A7 r.flanks.length c7) := ⟨_, rfl, below_alloc _ _, by simp, by simp⟩
  rw [← hW0] at hbw
  have HS0 := Lib.hid hs0
  have hs1 : w.heap.size < W0.heap.size := by omega
  clear hW0 H3 HV k0 k1 k7 HR2 hg2 hat2 ho2 hs2 hs0
  generalize w2.setCell ⟨w.heap.size + 1, 0, none⟩ (.slice A2 r.lies.length c2) = W1 at hbx hbw ⊢
  go_loopw [15] (fun i wr => ∃ k v, k ≤ r.flanks.length ∧ i = .int .i64 (k : Nat) ∧ Box lieK 109 76 wr (w.heap.size + 1) (needsTo r.lies r.flanks k) v ∧ Below (w.heap.size + 1) W0 wr) (fun i _ => r.flanks.length - (intOf i).toNat)
  case atStart => exact ⟨0, _, Nat.zero_le _, rfl, hbx, hbw⟩
  case round =>
    clear hbx hbw
    obtain ⟨k, v, hk, rfl, hbx, hb⟩ := hrel
    have hsr : w.heap.size + 1 < wr.heap.size := lt_of_get hbx.1
    have hbw := hB0.trans (hb.mono (by omega : w.heap.size ≤ w.heap.size + 1))
    have hnl := needsTo_len r.lies r.flanks k
    by_cases hlt : k < r.flanks.length
    · obtain ⟨a7, rfl, y0, y1, y2, y3, E, g0, g1, g2, g3⟩ := flankK_at (Kn.C_below hbw h7) k hlt
      have j0 : (0 : Int) ≤ (k : Int) := Int.natCast_nonneg _
      have j1 : (k : Int) < (r.flanks.length : Int) := by omega
      have hbx2 : Box lieK 109 76 (wr.alloc (.cells #[.int .i64 y0, .int .i64 y1, .int .i64 y2, .int .i64 y3] 157)) (w.heap.size + 1) (needsTo r.lies r.flanks k) v :=
        ⟨((below_alloc _ _).block _ (by omega)).trans hbx.1, hbx.2.1.below (below_alloc _ _), hbx.2.2⟩
      have HBX := Lib.hid hbx2
      clear hbx hbx2
      by_cases q : y1 = 3
      · have d0 : (y1 == 3) = true := int_eqt q
        have HN := Lib.hid (needsTo_put (ls := r.lies) E.out q)
        clear q
        go_wp2_with fail
        refine (put (w.heap.size + 1) (needsTo r.lies r.flanks k) ⟨y2, y3⟩ v _ HBX.out (by omega)).mono ?_
        rintro e w1 ⟨v', rfl, hbx1, hb1⟩
        have HB1 := Lib.hid hbx1
        clear hbx1
        go_wp2
        go_roundw
        case rel => exact ⟨k + 1, v', by omega, by go_num, by rw [HN.out]; exact HB1.out, (hb.alloc (by omega) _).trans hb1⟩
        case measure => simp [intOf]; omega
      · have d0 : (y1 == 3) = false := int_eqf q
        have HN := Lib.hid (needsTo_skip (ls := r.lies) E.out q)
        clear q
        go_wp2
        go_roundw
        case rel => exact ⟨k + 1, v, by omega, by go_num, by rw [HN.out]; exact HBX.out, hb.alloc (by omega) _⟩
        case measure => simp [intOf]; omega
    · obtain rfl : k = r.flanks.length := by omega
      have k0 := cell_of_one hbx.1
      have HBX := Lib.hid hbx
      clear hbx
      go_wp2
      go_ret
      exact ⟨v, rfl, HBX.out.2.1, fun b h => by have := HBX.out.2.2 b h; omega, hbw⟩
end Go.Proofs.YtpggopdojhodaaaGreat.L
namespace Go.Proofs.YtpggopdojhodaaaGreat.L
open Go.RowKit
set_option linter.unusedVariables false
set_option linter.unusedSimpArgs false
abbrev finder (n : Net) (A0 A1 : Option Addr) (c0 c1 : Nat) (sv : Value) (ov : Int) (vout : Value) (tr : Int) (vseen : Value) : List Value := [.slice A0 n.pieces.length c0, .slice A1 n.joints.length c1, sv, .int .i64 ov, vout, .int .i64 tr, vseen]
theorem beyond_spl {n : Net} {m : Nat} {p way far left : Int} {acc goal : List Part} {x : Joint} {j k : Nat} (h : acc ++ beyond n m p way far left = goal) (hm : left.toNat < m) (hl : ¬ left ≤ 0) (ha : atJ n (headE p way) = (j, k)) (hx : jt n j = x) (hs : x.kind = 2) :
    ∃ m', m = m' + 1 ∧ acc ++ [partN n p way far (tilOf n p far left)] ++ beyond n m' (en x (1 - k)).piece (wayOf (en x (1 - k))) 0 (left - (tilOf n p far left - far)) = goal := by
  obtain ⟨m', rfl⟩ : ∃ m', m = m' + 1 := ⟨m - 1, by omega⟩
  rw [beyond_plain hl ha hx hs] at h
  exact ⟨m', rfl, by rw [← h]; simp⟩
theorem beyond_end {n : Net} {m : Nat} {p way far left : Int} {acc goal : List Part} {x : Joint} {j k : Nat} (h : acc ++ beyond n m p way far left = goal) (hm : left.toNat < m) (hl : ¬ left ≤ 0) (ha : atJ n (headE p way) = (j, k)) (hx : jt n j = x) (hs : left - (tilOf n p far left - far) = 0 ∨ ¬ x.kind = 2) :
    acc ++ [partN n p way far (tilOf n p far left)] = goal := by
  obtain ⟨m', rfl⟩ : ∃ m', m = m' + 1 := ⟨m - 1, by omega⟩
  rw [beyond_last hl ha hx hs] at h
  exact h
set_option maxRecDepth 100000 in
set_option maxHeartbeats 8000000 in
theorem specBeyond {ok : Nat → Prop} (n : Net) (A0 A1 : Option Addr) (c0 c1 : Nat) (sv vout vseen : Value) (ov tr : Int) (g u : Nat) (way far : Int) (w : World) (hf : Blk w g 72 (finder n A0 A1 c0 c1 sv ov vout tr vseen)) (h : NC 136 w ok n A0 A1) (hg : Hid (Good n)) (hu : u < n.pieces.length) (hway : Hid (way = 1 ∨ way = -1)) (h0 : Hid (0 ≤ far ∧ far < pl n u)) (ho0 : 0 ≤ ov) (ho1 : ov ≤ 100000) :
    Calls Tryz.prog 75 #[.pointer (some ⟨g, 0, none⟩), .int .i64 u, .int .i64 way, .int .i64 far] w (RetW 128 partK nobody (beyond n (ov.toNat + 1) u way far ov) w) := by
  obtain ⟨i0, hi, hz0, hz1, hz2⟩ := info_parts info128
  have hgl := hf.lt
  have k0 := hf.cell 0 rfl
  have k1 := hf.cell 1 rfl
  have k3 := hf.cell 3 rfl
  have hmp := h.p.1
  have hmj := h.j.1
  obtain ⟨goal, HG⟩ : ∃ goal, Hid (beyond n (ov.toNat + 1) u way far ov = goal) := ⟨_, Lib.hid rfl⟩
  rw [HG.out]
  go_enter Tryz.func75, Tryz.ntmps75
  go_wp2
  go_loopw [1, 2, 3, 9, 10] (fun pv wv fv o lv wr => ∃ (m u : Nat) (way far left : Int) (acc : List Part), pv = .int .i64 u ∧ wv = .int .i64 way ∧ fv = .int .i64 far ∧ lv = .int .i64 left ∧ u < n.pieces.length ∧ 0 ≤ far ∧ left ≤ 100000 ∧ Hid (way = 1 ∨ way = -1) ∧ Hid (far < pl n u) ∧ Hid (acc ++ beyond n m u way far left = goal) ∧ Hid (left.toNat < m) ∧ Hid (partK.Rw 128 wr nobody o acc) ∧ Hid (∀ b, o.ownBlock = some b → w.heap.size ≤ b) ∧ Hid (0 ≤ left ∧ acc.length + left ≤ ov) ∧ Below w.heap.size w wr) (fun _ _ _ _ lv _ => (intOf lv).toNat)
  case atStart => exact ⟨ov.toNat + 1, u, way, far, ov, [], rfl, rfl, rfl, rfl, hu, h0.out.1, ho1, hway, Lib.hid h0.out.2, Lib.hid HG.out, Lib.hid (by omega), Lib.hid Kn.Rw.nil, Lib.hid (by simp [Value.ownBlock]), Lib.hid ⟨ho0, by simp⟩, Below.refl _ _⟩
  case round =>
    clear h0 hway
    obtain ⟨m, u, way, far, left, acc, rfl, rfl, rfl, rfl, hu, hf0, hl1, HW, HF, HB, HM, HR, HO, HL, hb⟩ := hrel
    obtain ⟨Ao, co, rfl, hco, _⟩ := HR.out.form
    by_cases hl : left ≤ 0
    · have HE : Hid (acc = goal) := Lib.hid (by have := HB.out; rw [beyond_none hl, List.append_nil] at this; exact this)
      go_wp2
      go_ret
      exact ⟨_, rfl, by rw [← HE.out]; exact HR.out, HO.out, hb⟩
    have hl0 : 0 < left := by omega
    clear hl
    obtain ⟨ad, rfl, z0, z1, z2, z3, E, g0, g1, g2, g3⟩ := pieceK_at (Kn.C_below hb h.p) u hu
    have j0 : (0 : Int) ≤ (u : Int) := Int.natCast_nonneg _
    have j1 : (u : Int) < (n.pieces.length : Int) := by omega
    have HP : Hid (pl n u = z1) := Lib.hid (pl_get E.out)
    obtain ⟨x1, x2⟩ : 1 ≤ z1 ∧ z1 ≤ 10000000 := by have := hg.out.piece _ (mem_of_get E.out); exact ⟨this.2.1, this.2.2.1⟩
    have x3 : far < z1 := by have := HF.out; rw [HP.out] at this; exact this
    have q0 := (hf.below hb hgl).cell 0 rfl
    have q1 := (hf.below hb hgl).cell 1 rfl
    have hgs : g < wr.heap.size := by have := hb.size; omega
    have HEP : Hid (stepP n.pieces.length ⟨u, way⟩) := Lib.hid ⟨⟨by show (0 : Int) ≤ u; omega, by show (u : Int) ≤ _; omega⟩, HW.out⟩
    obtain ⟨e0, HE⟩ : ∃ e0, Hid (headE u way = e0) := ⟨_, Lib.hid rfl⟩
    have HEO : Hid (endP n.pieces.length e0) := Lib.hid (by rw [← HE.out]; exact head_ok HEP.out)
    obtain ⟨j, k, x, hat, hjk, hx, hP, hjl, hkl⟩ := at_get hg.out HEO.out
    have HA := Lib.hid hjk
    have HX := Lib.hid hx
    have HAT := Lib.hid hat
    have HAH : Hid (atJ n (headE u way) = (j, k)) := Lib.hid (by rw [HE.out]; exact hjk)
    have HJP := Lib.hid hP
    clear hjk hx hat hP
    have hlen := HL.out
    have a63 : acc.length + 1 ≤ maxLen := by simp only [maxLen]; omega
    have aby : (acc.length + 1) * 24 ≤ 140737488355328 := by omega
    have m0 : (0 : Int) ≤ (j : Int) := Int.natCast_nonneg _
    have m1 : (j : Int) < (n.joints.length : Int) := by omega
    by_cases hq : z1 < far + left
    · have d0 : decide (z1 < far + left) = true := decide_eq_true hq
      have d1 : decide (far < z1) = true := decide_eq_true (by omega)
      have HT : Hid (tilOf n u far left = z1) := Lib.hid (by unfold tilOf; rw [HP.out, if_neg (by omega)])
      obtain ⟨P, HPt⟩ : ∃ P, Hid (partN n u way far (z1) = P) := ⟨_, Lib.hid rfl⟩
      go_wp2_with fail
      refine (specPart n _ (some ad) c0 u way far (z1) _ (Kn.C_below hb h.p) hg hu HW.out (by omega) (by omega)).mono ?_
      rintro e w1 ⟨rfl, hb1⟩
      rw [HPt.out]
      have hbx := hb.trans (hb1.mono hb.size)
      have HR1 := Lib.hid ((HR.out.below hb1).below (below_alloc w1 (.cells #[.int .i64 P.piece, .int .i64 P.frm, .int .i64 P.til] 128)))
      clear g0 g1 g2 g3 HR
      go_wp2_with (at_builtin; refine wpList_append_rw _ rfl (.tmp 47) (.tmp 57) 77 rfl 128 i0 _ 24 Tryz.underlying77 hi hz0 hz1 hz2 rfl (by decide) (.slice Ao acc.length co) acc [P] rfl HR1.out (fun _ h => h.elim) (some ⟨w1.heap.size, 0, none⟩) 1 1 rfl rfl (Kn.Src.one (partK_mk _ _ P) (new_cells _ _ _ rfl)) a63 aby ?_; intro v' w2 HR2 hg2 hat2; obtain ⟨A2, c2, rfl, hc2⟩ := HR2.form1)
      have hbA := below_push (hbx.alloc hbx.size _) hg2 HO.out (by have := hbx.size; simp; omega)
      have HO2 := Lib.hid (own_next HO.out hat2 (by have := hbx.size; simp; omega))
      have HR2 := Lib.hid HR2
      have s0 := (hf.below hbA hgl).cell 0 rfl
      have s1 := (hf.below hbA hgl).cell 1 rfl
      have hgs2 : g < w2.heap.size := by have := hbA.size; omega
      clear hg2 hat2 hbx HR1 hb1 q0 q1 HO hb hgs
      go_region_held3 (fun w' => Below w2.heap.size w2 w' ∧ w'.cell? ⟨g, 0, none⟩ = some (.slice (some ad) n.pieces.length c0) ∧ w'.cell? ⟨g, 1, none⟩ = some (.slice A1 n.joints.length c1))
        (first | exact ⟨(Below.refl _ _).drew, s0, s1⟩ | exact ⟨hbS.trans (hbc.mono hbS.size), cell_below (hbS.trans (hbc.mono hbS.size)) s0, cell_below (hbS.trans (hbc.mono hbS.size)) s1⟩)
        (first | (go_at_call 78; obtain ⟨hbS, _⟩ := ‹Below w2.heap.size w2 _ ∧ _›; (with_reducible refine (specHead _ _ _).mono ?_); rintro e wz ⟨rfl, hbc⟩; rw [HE.out]) | (go_at_call 77; obtain ⟨hbS, _⟩ := ‹Below w2.heap.size w2 _ ∧ _›; (with_reducible refine (specAt n (some ad) A1 c0 c1 e0 _ (h.below (hbA.trans (hbS.mono hbA.size))) hg HEO).mono ?_); rintro e wz ⟨rfl, hbc⟩; rw [HA.out]))
      obtain ⟨hbF, _⟩ := ‹Below w2.heap.size w2 _ ∧ _›
      have hbZ := hbA.trans (hbF.mono hbA.size)
      have HRZ := Lib.hid (HR2.out.below hbF)
      have t0 := cell_below hbF s0
      have t1 := cell_below hbF s1
      clear s0 s1 HR2 hbA hgs2
      have hgs3 : g < wz.heap.size := by have := hbZ.size; omega
      have d2 : (left - (z1 - far) == 0) = false := int_eqf (by omega)
      obtain ⟨a1, rfl, y, E1, A3, c3, r0, r1, r2, l2, C2⟩ := jointK_at (Kn.C_below hbZ h.j) j hjl
      have hy := HAT.out.1.symm.trans E1.out
      injection hy with hy
      subst hy
      have hme := C2.1
      by_cases hk : x.kind = 2
      rotate_left
      · have d3 : (x.kind != 2) = true := int_net hk
        have HEN : Hid (acc ++ [P] = goal) := Lib.hid (by have := beyond_end HB.out HM.out (by omega) HAH.out HX.out (.inr hk); rw [HT.out, HPt.out] at this; exact this)
        clear hk
        go_wp2
        go_ret
        exact ⟨_, rfl, by rw [← HEN.out]; exact HRZ.out, HO2.out, hbZ⟩
      have d3 : (x.kind != 2) = false := int_nef hk
      have hlen2 : x.ends.length = 2 := by have := HJP.out.2.1; omega
      have HL2 := Lib.hid hlen2
      have l0 : (0 : Int) < (x.ends.length : Int) := by omega
      have l1 : (1 : Int) < (x.ends.length : Int) := by omega
      obtain ⟨m', hmm, hsp⟩ := beyond_spl HB.out HM.out (by omega) HAH.out HX.out hk
      rw [HT.out, HPt.out] at hsp
      have HSP := Lib.hid hsp
      have HMM := Lib.hid hmm
      have HEK : Hid (endP n.pieces.length (en x (1 - k))) := Lib.hid (en_ok HJP.out (by omega))
      obtain ⟨u', s', HEN⟩ : ∃ (u' : Nat) (s' : Int), Hid (en x (1 - k) = ⟨u', s'⟩) := ⟨(en x (1 - k)).piece.toNat, (en x (1 - k)).side, Lib.hid (by have := HEK.out.1.1; rw [Int.toNat_of_nonneg this])⟩
      have hue : u' < n.pieces.length ∧ (s' = 0 ∨ s' = 1) := by have := HEK.out; rw [HEN.out] at this; obtain ⟨⟨b1, b2⟩, b3, b4⟩ := this; simp only at b1 b2 b3 b4; omega
      obtain ⟨hu', hs'⟩ := hue
      have HPL : Hid (0 < pl n u') := Lib.hid (by have := pl_in hg.out (p := (u' : Int)) (by omega) (by omega); omega)
      have hk2 : k = 0 ∨ k = 1 := by omega
      clear hk hlen2 hmm hsp
      rcases hk2 with rfl | rfl
      · obtain ⟨a3, rfl, v0, v1⟩ := en_pos (k := 1) (m := 2) C2 (by omega) (by omega) rfl
        rw [HEN.out] at v0 v1
        rcases hs' with rfl | rfl
        · go_wp2
          go_roundw
          case rel => exact ⟨m', u', 1, 0, left - (z1 - far), acc ++ [P], rfl, rfl, rfl, rfl, hu', by omega, by omega, Lib.hid (.inl rfl), HPL, Lib.hid (by have := HSP.out; rw [HEN.out] at this; exact this), Lib.hid (by have := HM.out; have := HMM.out; omega), Lib.hid (HRZ.out.below (below_alloc _ _)), HO2, Lib.hid ⟨by omega, by rw [List.length_append, List.length_singleton]; omega⟩, hbZ.alloc hbZ.size _⟩
          case measure => simp [intOf]; omega
        · go_wp2
          go_roundw
          case rel => exact ⟨m', u', -1, 0, left - (z1 - far), acc ++ [P], rfl, rfl, rfl, rfl, hu', by omega, by omega, Lib.hid (.inr rfl), HPL, Lib.hid (by have := HSP.out; rw [HEN.out] at this; exact this), Lib.hid (by have := HM.out; have := HMM.out; omega), Lib.hid (HRZ.out.below (below_alloc _ _)), HO2, Lib.hid ⟨by omega, by rw [List.length_append, List.length_singleton]; omega⟩, hbZ.alloc hbZ.size _⟩
          case measure => simp [intOf]; omega
      · obtain ⟨a3, rfl, v0, v1⟩ := en_zero C2 (by omega)
        rw [HEN.out] at v0 v1
        rcases hs' with rfl | rfl
        · go_wp2
          go_roundw
          case rel => exact ⟨m', u', 1, 0, left - (z1 - far), acc ++ [P], rfl, rfl, rfl, rfl, hu', by omega, by omega, Lib.hid (.inl rfl), HPL, Lib.hid (by have := HSP.out; rw [HEN.out] at this; exact this), Lib.hid (by have := HM.out; have := HMM.out; omega), Lib.hid (HRZ.out.below (below_alloc _ _)), HO2, Lib.hid ⟨by omega, by rw [List.length_append, List.length_singleton]; omega⟩, hbZ.alloc hbZ.size _⟩
          case measure => simp [intOf]; omega
        · go_wp2
          go_roundw
          case rel => exact ⟨m', u', -1, 0, left - (z1 - far), acc ++ [P], rfl, rfl, rfl, rfl, hu', by omega, by omega, Lib.hid (.inr rfl), HPL, Lib.hid (by have := HSP.out; rw [HEN.out] at this; exact this), Lib.hid (by have := HM.out; have := HMM.out; omega), Lib.hid (HRZ.out.below (below_alloc _ _)), HO2, Lib.hid ⟨by omega, by rw [List.length_append, List.length_singleton]; omega⟩, hbZ.alloc hbZ.size _⟩
          case measure => simp [intOf]; omega
    · have d0 : decide (z1 < far + left) = false := decide_eq_false hq
      have d1 : decide (far < far + left) = true := decide_eq_true (by omega)
      have HT : Hid (tilOf n u far left = far + left) := Lib.hid (by unfold tilOf; rw [HP.out, if_pos (by omega)])
      obtain ⟨P, HPt⟩ : ∃ P, Hid (partN n u way far (far + left) = P) := ⟨_, Lib.hid rfl⟩
      go_wp2_with fail
      refine (specPart n _ (some ad) c0 u way far (far + left) _ (Kn.C_below hb h.p) hg hu HW.out (by omega) (by omega)).mono ?_
      rintro e w1 ⟨rfl, hb1⟩
      rw [HPt.out]
      have hbx := hb.trans (hb1.mono hb.size)
      have HR1 := Lib.hid ((HR.out.below hb1).below (below_alloc w1 (.cells #[.int .i64 P.piece, .int .i64 P.frm, .int .i64 P.til] 128)))
      clear g0 g1 g2 g3 HR
      go_wp2_with (at_builtin; refine wpList_append_rw _ rfl (.tmp 47) (.tmp 57) 77 rfl 128 i0 _ 24 Tryz.underlying77 hi hz0 hz1 hz2 rfl (by decide) (.slice Ao acc.length co) acc [P] rfl HR1.out (fun _ h => h.elim) (some ⟨w1.heap.size, 0, none⟩) 1 1 rfl rfl (Kn.Src.one (partK_mk _ _ P) (new_cells _ _ _ rfl)) a63 aby ?_; intro v' w2 HR2 hg2 hat2; obtain ⟨A2, c2, rfl, hc2⟩ := HR2.form1)
      have hbA := below_push (hbx.alloc hbx.size _) hg2 HO.out (by have := hbx.size; simp; omega)
      have HO2 := Lib.hid (own_next HO.out hat2 (by have := hbx.size; simp; omega))
      have HR2 := Lib.hid HR2
      have s0 := (hf.below hbA hgl).cell 0 rfl
      have s1 := (hf.below hbA hgl).cell 1 rfl
      have hgs2 : g < w2.heap.size := by have := hbA.size; omega
      clear hg2 hat2 hbx HR1 hb1 q0 q1 HO hb hgs
      go_region_held3 (fun w' => Below w2.heap.size w2 w' ∧ w'.cell? ⟨g, 0, none⟩ = some (.slice (some ad) n.pieces.length c0) ∧ w'.cell? ⟨g, 1, none⟩ = some (.slice A1 n.joints.length c1))
        (first | exact ⟨(Below.refl _ _).drew, s0, s1⟩ | exact ⟨hbS.trans (hbc.mono hbS.size), cell_below (hbS.trans (hbc.mono hbS.size)) s0, cell_below (hbS.trans (hbc.mono hbS.size)) s1⟩)
        (first | (go_at_call 78; obtain ⟨hbS, _⟩ := ‹Below w2.heap.size w2 _ ∧ _›; (with_reducible refine (specHead _ _ _).mono ?_); rintro e wz ⟨rfl, hbc⟩; rw [HE.out]) | (go_at_call 77; obtain ⟨hbS, _⟩ := ‹Below w2.heap.size w2 _ ∧ _›; (with_reducible refine (specAt n (some ad) A1 c0 c1 e0 _ (h.below (hbA.trans (hbS.mono hbA.size))) hg HEO).mono ?_); rintro e wz ⟨rfl, hbc⟩; rw [HA.out]))
      obtain ⟨hbF, _⟩ := ‹Below w2.heap.size w2 _ ∧ _›
      have hbZ := hbA.trans (hbF.mono hbA.size)
      have HRZ := Lib.hid (HR2.out.below hbF)
      have t0 := cell_below hbF s0
      have t1 := cell_below hbF s1
      clear s0 s1 HR2 hbA hgs2
      have hgs3 : g < wz.heap.size := by have := hbZ.size; omega
      have d2 : (left - (far + left - far) == 0) = true := int_eqt (by omega)
      have HEN : Hid (acc ++ [P] = goal) := Lib.hid (by have := beyond_end HB.out HM.out (by omega) HAH.out HX.out (.inl (by rw [HT.out]; omega)); rw [HT.out, HPt.out] at this; exact this)
      go_wp2
      go_ret
      exact ⟨_, rfl, by rw [← HEN.out]; exact HRZ.out, HO2.out, hbZ⟩
end Go.Proofs.YtpggopdojhodaaaGreat.L
namespace Go.Proofs.YtpggopdojhodaaaGreat.L
open Go.RowKit
set_option linter.unusedVariables false
set_option linter.unusedSimpArgs false
set_option maxRecDepth 100000 in
set_option maxHeartbeats 1000000 in
theorem szRoute (x : Route) (v0 v1 : Value) (A2 A3 A4 A5 A6 A7 : Option Addr) (c2 c3 c4 c5 c6 c7 : Nat) (l2 : x.steps.length ≤ 9223372036854775807) (l3 : x.lies.length ≤ 9223372036854775807) (l4 : x.crosses.length ≤ 9223372036854775807) (l5 : x.parts.length ≤ 9223372036854775807) (l6 : x.over.length ≤ 9223372036854775807) (l7 : x.flanks.length ≤ 9223372036854775807) (left : Int) (w : World) (h0 : 0 ≤ left) (h1 : left ≤ 1048576) :
    Calls Tryz.prog 60 #[.agg #[v0, v1, .slice A2 x.steps.length c2, .slice A3 x.lies.length c3, .slice A4 x.crosses.length c4, .slice A5 x.parts.length c5, .slice A6 x.over.length c6, .slice A7 x.flanks.length c7], .int .i64 left] w (RetI (cut (left - (x.n : Nat))) w) := by
  unfold Route.n
  by_cases h2 : left - (x.steps.length : Int) < 0
  · rw [cut_neg (by omega)]
    have e0 : Hid (cut (left - (x.steps.length : Int)) = -1) := Lib.hid (cut_neg h2)
    go_enter Tryz.func60, Tryz.ntmps60
    go_wp2_with fail
    refine (szStepS _ _ _ _ _ (by omega) (by omega) (by omega)).mono ?_
    rintro e w0 ⟨rfl, hb0⟩
    obtain ⟨hc0, hf0⟩ := bcell hb0
    have BB0 := Lib.hid ((below_alloc w _).trans (hb0.mono (by simp)))
    rw [e0.out]
    have z0 : w.heap.size < w0.heap.size := by have := hb0.size; simp at this; omega
    go_wp2
    go_ret
    exact ⟨by first | rfl | exact ret_int (by simp; omega), BB0.out⟩
  have e0 : Hid (cut (left - (x.steps.length : Int)) = left - x.steps.length) := Lib.hid (cut_pos (by omega))
  by_cases h3 : left - (x.steps.length : Int) - (x.lies.length : Int) < 0
  · rw [cut_neg (by omega)]
    have e1 : Hid (cut (left - (x.steps.length : Int) - (x.lies.length : Int)) = -1) := Lib.hid (cut_neg h3)
    go_enter Tryz.func60, Tryz.ntmps60
    go_wp2_with fail
    refine (szStepS _ _ _ _ _ (by omega) (by omega) (by omega)).mono ?_
    rintro e w0 ⟨rfl, hb0⟩
    obtain ⟨hc0, hf0⟩ := bcell hb0
    have BB0 := Lib.hid ((below_alloc w _).trans (hb0.mono (by simp)))
    rw [e0.out]
    have z0 : w.heap.size < w0.heap.size := by have := hb0.size; simp at this; omega
    go_wp2_with fail
    refine (szLieS _ _ _ _ _ (by omega) (by omega) (by omega)).mono ?_
    rintro e w1 ⟨rfl, hb1⟩
    obtain ⟨hc1, hf1⟩ := bcell hb1
    have BB1 := Lib.hid (BB0.out.trans (hb1.mono BB0.out.size))
    rw [e1.out]
    have z1 : w.heap.size < w1.heap.size := by have := hb1.size; omega
    go_wp2
    go_ret
    exact ⟨by first | rfl | exact ret_int (by simp; omega), BB1.out⟩
  have e1 : Hid (cut (left - (x.steps.length : Int) - (x.lies.length : Int)) = left - (x.steps.length : Int) - x.lies.length) := Lib.hid (cut_pos (by omega))
  by_cases h4 : left - (x.steps.length : Int) - (x.lies.length : Int) - (x.crosses.length : Int) < 0
  · rw [cut_neg (by omega)]
    have e2 : Hid (cut (left - (x.steps.length : Int) - (x.lies.length : Int) - (x.crosses.length : Int)) = -1) := Lib.hid (cut_neg h4)
    go_enter Tryz.func60, Tryz.ntmps60
    go_wp2_with fail
    refine (szStepS _ _ _ _ _ (by omega) (by omega) (by omega)).mono ?_
    rintro e w0 ⟨rfl, hb0⟩
    obtain ⟨hc0, hf0⟩ := bcell hb0
    have BB0 := Lib.hid ((below_alloc w _).trans (hb0.mono (by simp)))
    rw [e0.out]
    have z0 : w.heap.size < w0.heap.size := by have := hb0.size; simp at this; omega
    go_wp2_with fail
    refine (szLieS _ _ _ _ _ (by omega) (by omega) (by omega)).mono ?_
    rintro e w1 ⟨rfl, hb1⟩
    obtain ⟨hc1, hf1⟩ := bcell hb1
    have BB1 := Lib.hid (BB0.out.trans (hb1.mono BB0.out.size))
    rw [e1.out]
    have z1 : w.heap.size < w1.heap.size := by have := hb1.size; omega
    go_wp2_with fail
    refine (szIntS _ _ _ _ _ (by omega) (by omega) (by omega)).mono ?_
    rintro e w2 ⟨rfl, hb2⟩
    obtain ⟨hc2, hf2⟩ := bcell hb2
    have BB2 := Lib.hid (BB1.out.trans (hb2.mono BB1.out.size))
    rw [e2.out]
    have z2 : w.heap.size < w2.heap.size := by have := hb2.size; omega
    go_wp2
    go_ret
    exact ⟨by first | rfl | exact ret_int (by simp; omega), BB2.out⟩
  have e2 : Hid (cut (left - (x.steps.length : Int) - (x.lies.length : Int) - (x.crosses.length : Int)) = left - (x.steps.length : Int) - (x.lies.length : Int) - x.crosses.length) := Lib.hid (cut_pos (by omega))
  by_cases h5 : left - (x.steps.length : Int) - (x.lies.length : Int) - (x.crosses.length : Int) - (x.parts.length : Int) < 0
  · rw [cut_neg (by omega)]
    have e3 : Hid (cut (left - (x.steps.length : Int) - (x.lies.length : Int) - (x.crosses.length : Int) - (x.parts.length : Int)) = -1) := Lib.hid (cut_neg h5)
    go_enter Tryz.func60, Tryz.ntmps60
    go_wp2_with fail
    refine (szStepS _ _ _ _ _ (by omega) (by omega) (by omega)).mono ?_
    rintro e w0 ⟨rfl, hb0⟩
    obtain ⟨hc0, hf0⟩ := bcell hb0
    have BB0 := Lib.hid ((below_alloc w _).trans (hb0.mono (by simp)))
    rw [e0.out]
    have z0 : w.heap.size < w0.heap.size := by have := hb0.size; simp at this; omega
    go_wp2_with fail
    refine (szLieS _ _ _ _ _ (by omega) (by omega) (by omega)).mono ?_
    rintro e w1 ⟨rfl, hb1⟩
    obtain ⟨hc1, hf1⟩ := bcell hb1
    have BB1 := Lib.hid (BB0.out.trans (hb1.mono BB0.out.size))
    rw [e1.out]
    have z1 : w.heap.size < w1.heap.size := by have := hb1.size; omega
    go_wp2_with fail
    refine (szIntS _ _ _ _ _ (by omega) (by omega) (by omega)).mono ?_
    rintro e w2 ⟨rfl, hb2⟩
    obtain ⟨hc2, hf2⟩ := bcell hb2
    have BB2 := Lib.hid (BB1.out.trans (hb2.mono BB1.out.size))
    rw [e2.out]
    have z2 : w.heap.size < w2.heap.size := by have := hb2.size; omega
    go_wp2_with fail
    refine (szPartS _ _ _ _ _ (by omega) (by omega) (by omega)).mono ?_
    rintro e w3 ⟨rfl, hb3⟩
    obtain ⟨hc3, hf3⟩ := bcell hb3
    have BB3 := Lib.hid (BB2.out.trans (hb3.mono BB2.out.size))
    rw [e3.out]
    have z3 : w.heap.size < w3.heap.size := by have := hb3.size; omega
    go_wp2
    go_ret
    exact ⟨by first | rfl | exact ret_int (by simp; omega), BB3.out⟩
  have e3 : Hid (cut (left - (x.steps.length : Int) - (x.lies.length : Int) - (x.crosses.length : Int) - (x.parts.length : Int)) = left - (x.steps.length : Int) - (x.lies.length : Int) - (x.crosses.length : Int) - x.parts.length) := Lib.hid (cut_pos (by omega))
  by_cases h6 : left - (x.steps.length : Int) - (x.lies.length : Int) - (x.crosses.length : Int) - (x.parts.length : Int) - (x.over.length : Int) < 0
  · rw [cut_neg (by omega)]
    have e4 : Hid (cut (left - (x.steps.length : Int) - (x.lies.length : Int) - (x.crosses.length : Int) - (x.parts.length : Int) - (x.over.length : Int)) = -1) := Lib.hid (cut_neg h6)
    go_enter Tryz.func60, Tryz.ntmps60
    go_wp2_with fail
    refine (szStepS _ _ _ _ _ (by omega) (by omega) (by omega)).mono ?_
    rintro e w0 ⟨rfl, hb0⟩
    obtain ⟨hc0, hf0⟩ := bcell hb0
    have BB0 := Lib.hid ((below_alloc w _).trans (hb0.mono (by simp)))
    rw [e0.out]
    have z0 : w.heap.size < w0.heap.size := by have := hb0.size; simp at this; omega
    go_wp2_with fail
    refine (szLieS _ _ _ _ _ (by omega) (by omega) (by omega)).mono ?_
    rintro e w1 ⟨rfl, hb1⟩
    obtain ⟨hc1, hf1⟩ := bcell hb1
    have BB1 := Lib.hid (BB0.out.trans (hb1.mono BB0.out.size))
    rw [e1.out]
    have z1 : w.heap.size < w1.heap.size := by have := hb1.size; omega
    go_wp2_with fail
    refine (szIntS _ _ _ _ _ (by omega) (by omega) (by omega)).mono ?_
    rintro e w2 ⟨rfl, hb2⟩
    obtain ⟨hc2, hf2⟩ := bcell hb2
    have BB2 := Lib.hid (BB1.out.trans (hb2.mono BB1.out.size))
    rw [e2.out]
    have z2 : w.heap.size < w2.heap.size := by have := hb2.size; omega
    go_wp2_with fail
    refine (szPartS _ _ _ _ _ (by omega) (by omega) (by omega)).mono ?_
    rintro e w3 ⟨rfl, hb3⟩
    obtain ⟨hc3, hf3⟩ := bcell hb3
    have BB3 := Lib.hid (BB2.out.trans (hb3.mono BB2.out.size))
    rw [e3.out]
    have z3 : w.heap.size < w3.heap.size := by have := hb3.size; omega
    go_wp2_with fail
    refine (szPartS _ _ _ _ _ (by omega) (by omega) (by omega)).mono ?_
    rintro e w4 ⟨rfl, hb4⟩
    obtain ⟨hc4, hf4⟩ := bcell hb4
    have BB4 := Lib.hid (BB3.out.trans (hb4.mono BB3.out.size))
    rw [e4.out]
    have z4 : w.heap.size < w4.heap.size := by have := hb4.size; omega
    go_wp2
    go_ret
    exact ⟨by first | rfl | exact ret_int (by simp; omega), BB4.out⟩
  have e4 : Hid (cut (left - (x.steps.length : Int) - (x.lies.length : Int) - (x.crosses.length : Int) - (x.parts.length : Int) - (x.over.length : Int)) = left - (x.steps.length : Int) - (x.lies.length : Int) - (x.crosses.length : Int) - (x.parts.length : Int) - x.over.length) := Lib.hid (cut_pos (by omega))
  by_cases h7 : left - (x.steps.length : Int) - (x.lies.length : Int) - (x.crosses.length : Int) - (x.parts.length : Int) - (x.over.length : Int) - (x.flanks.length : Int) < 0
  · rw [cut_neg (by omega)]
    have e5 : Hid (cut (left - (x.steps.length : Int) - (x.lies.length : Int) - (x.crosses.length : Int) - (x.parts.length : Int) - (x.over.length : Int) - (x.flanks.length : Int)) = -1) := Lib.hid (cut_neg h7)
    go_enter Tryz.func60, Tryz.ntmps60
    go_wp2_with fail
    refine (szStepS _ _ _ _ _ (by omega) (by omega) (by omega)).mono ?_
    rintro e w0 ⟨rfl, hb0⟩
    obtain ⟨hc0, hf0⟩ := bcell hb0
    have BB0 := Lib.hid ((below_alloc w _).trans (hb0.mono (by simp)))
    rw [e0.out]
    have z0 : w.heap.size < w0.heap.size := by have := hb0.size; simp at this; omega
    go_wp2_with fail
    refine (szLieS _ _ _ _ _ (by omega) (by omega) (by omega)).mono ?_
    rintro e w1 ⟨rfl, hb1⟩
    obtain ⟨hc1, hf1⟩ := bcell hb1
    have BB1 := Lib.hid (BB0.out.trans (hb1.mono BB0.out.size))
    rw [e1.out]
    have z1 : w.heap.size < w1.heap.size := by have := hb1.size; omega
    go_wp2_with fail
    refine (szIntS _ _ _ _ _ (by omega) (by omega) (by omega)).mono ?_
    rintro e w2 ⟨rfl, hb2⟩
    obtain ⟨hc2, hf2⟩ := bcell hb2
    have BB2 := Lib.hid (BB1.out.trans (hb2.mono BB1.out.size))
    rw [e2.out]
    have z2 : w.heap.size < w2.heap.size := by have := hb2.size; omega
    go_wp2_with fail
    refine (szPartS _ _ _ _ _ (by omega) (by omega) (by omega)).mono ?_
    rintro e w3 ⟨rfl, hb3⟩
    obtain ⟨hc3, hf3⟩ := bcell hb3
    have BB3 := Lib.hid (BB2.out.trans (hb3.mono BB2.out.size))
    rw [e3.out]
    have z3 : w.heap.size < w3.heap.size := by have := hb3.size; omega
    go_wp2_with fail
    refine (szPartS _ _ _ _ _ (by omega) (by omega) (by omega)).mono ?_
    rintro e w4 ⟨rfl, hb4⟩
    obtain ⟨hc4, hf4⟩ := bcell hb4
    have BB4 := Lib.hid (BB3.out.trans (hb4.mono BB3.out.size))
    rw [e4.out]
    have z4 : w.heap.size < w4.heap.size := by have := hb4.size; omega
    go_wp2_with fail
    refine (szFlankS _ _ _ _ _ (by omega) (by omega) (by omega)).mono ?_
    rintro e w5 ⟨rfl, hb5⟩
    obtain ⟨hc5, hf5⟩ := bcell hb5
    have BB5 := Lib.hid (BB4.out.trans (hb5.mono BB4.out.size))
    rw [e5.out]
    have z5 : w.heap.size < w5.heap.size := by have := hb5.size; omega
    go_wp2
    go_ret
    exact ⟨by first | rfl | exact ret_int (by simp; omega), BB5.out⟩
  have e5 : Hid (cut (left - (x.steps.length : Int) - (x.lies.length : Int) - (x.crosses.length : Int) - (x.parts.length : Int) - (x.over.length : Int) - (x.flanks.length : Int)) = left - (x.steps.length : Int) - (x.lies.length : Int) - (x.crosses.length : Int) - (x.parts.length : Int) - (x.over.length : Int) - x.flanks.length) := Lib.hid (cut_pos (by omega))
  rw [cut_pos (by omega)]
  go_enter Tryz.func60, Tryz.ntmps60
  go_wp2_with fail
  refine (szStepS _ _ _ _ _ (by omega) (by omega) (by omega)).mono ?_
  rintro e w0 ⟨rfl, hb0⟩
  obtain ⟨hc0, hf0⟩ := bcell hb0
  have BB0 := Lib.hid ((below_alloc w _).trans (hb0.mono (by simp)))
  rw [e0.out]
  have z0 : w.heap.size < w0.heap.size := by have := hb0.size; simp at this; omega
  go_wp2_with fail
  refine (szLieS _ _ _ _ _ (by omega) (by omega) (by omega)).mono ?_
  rintro e w1 ⟨rfl, hb1⟩
  obtain ⟨hc1, hf1⟩ := bcell hb1
  have BB1 := Lib.hid (BB0.out.trans (hb1.mono BB0.out.size))
  rw [e1.out]
  have z1 : w.heap.size < w1.heap.size := by have := hb1.size; omega
  go_wp2_with fail
  refine (szIntS _ _ _ _ _ (by omega) (by omega) (by omega)).mono ?_
  rintro e w2 ⟨rfl, hb2⟩
  obtain ⟨hc2, hf2⟩ := bcell hb2
  have BB2 := Lib.hid (BB1.out.trans (hb2.mono BB1.out.size))
  rw [e2.out]
  have z2 : w.heap.size < w2.heap.size := by have := hb2.size; omega
  go_wp2_with fail
  refine (szPartS _ _ _ _ _ (by omega) (by omega) (by omega)).mono ?_
  rintro e w3 ⟨rfl, hb3⟩
  obtain ⟨hc3, hf3⟩ := bcell hb3
  have BB3 := Lib.hid (BB2.out.trans (hb3.mono BB2.out.size))
  rw [e3.out]
  have z3 : w.heap.size < w3.heap.size := by have := hb3.size; omega
  go_wp2_with fail
  refine (szPartS _ _ _ _ _ (by omega) (by omega) (by omega)).mono ?_
  rintro e w4 ⟨rfl, hb4⟩
  obtain ⟨hc4, hf4⟩ := bcell hb4
  have BB4 := Lib.hid (BB3.out.trans (hb4.mono BB3.out.size))
  rw [e4.out]
  have z4 : w.heap.size < w4.heap.size := by have := hb4.size; omega
  go_wp2_with fail
  refine (szFlankS _ _ _ _ _ (by omega) (by omega) (by omega)).mono ?_
  rintro e w5 ⟨rfl, hb5⟩
  obtain ⟨hc5, hf5⟩ := bcell hb5
  have BB5 := Lib.hid (BB4.out.trans (hb5.mono BB4.out.size))
  rw [e5.out]
  have z5 : w.heap.size < w5.heap.size := by have := hb5.size; omega
  go_wp2
  go_ret
  exact ⟨by first | rfl | exact ret_int (by simp; omega), BB5.out⟩
set_option maxRecDepth 100000 in
set_option maxHeartbeats 1000000 in
theorem szRouteS {ok : Nat → Prop} (A : Option Addr) (c : Nat) (xs : List Route) (left : Int) (w : World) (hx : (routeK 195 197 3 199 201).C w ok A xs) (h0 : 0 ≤ left) (h1 : left ≤ 1048576) :
    Calls Tryz.prog 19 #[.slice A xs.length c, .int .i64 left] w (RetI (cut (left - (lenS Route.n xs : Nat))) w) := by
  have hm := hx.1
  unfold lenS
  by_cases h : left - (xs.length : Int) < 0
  · rw [cut_neg (by omega)]
    go_enter Tryz.func19, Tryz.ntmps19
    go_wp2
    go_ret
    exact ⟨rfl, Below.refl _ _⟩
  · have hd : decide (left - (xs.length : Int) < 0) = false := by simpa using h
    go_enter Tryz.func19, Tryz.ntmps19
    go_wp2
    go_loopw [1, 5] (fun l i wr => ∃ (k : Nat) (y : Int), k ≤ xs.length ∧ i = .int .i64 k ∧ l = .int .i64 y ∧ 0 ≤ y ∧ y ≤ left ∧ Hid (y = left - (xs.length + tot Route.n (xs.take k) : Nat)) ∧ Below w.heap.size w wr) (fun _ i _ => xs.length - (intOf i).toNat)
    case atStart => exact ⟨0, left - xs.length, Nat.zero_le _, rfl, rfl, by omega, by omega, Lib.hid (by rw [List.take_zero, tot_nil]; omega), Below.refl _ _⟩
    case round =>
      obtain ⟨k, y, hk, rfl, rfl, hy0, hy1, HY, hb⟩ := hrel
      by_cases hlt : k < xs.length
      · obtain ⟨a0, rfl, x, E, A2, c2, A3, c3, A4, c4, A5, c5, A6, c6, A7, c7, g0, g1, g2, g3, g4, g5, g6, g7, l2, q2, l3, q3, l4, q4, l5, q5, l6, q6, l7, q7⟩ := routeK_at (Kn.C_below hb hx) k hlt
        have i0 : (0 : Int) ≤ (k : Int) := Int.natCast_nonneg _
        have i1 : (k : Int) < (xs.length : Int) := by omega
        have hc : Hid (tot Route.n (xs.take (k + 1)) = tot Route.n (xs.take k) + x.n) := Lib.hid (tot_snoc _ _ _ _ E.out)
        by_cases hr : y - (x.n : Int) < 0
        · have hcut : Hid (cut (y - (x.n : Int)) = -1) := Lib.hid (cut_neg hr)
          go_wp2_with (go_at_call 60; refine (szRoute x _ _ A2 A3 A4 A5 A6 A7 c2 c3 c4 c5 c6 c7 q2.1 q3.1 q4.1 q5.1 q6.1 q7.1 _ _ (by omega) (by omega)).mono ?_; rintro e w1 ⟨rfl, hb1⟩; rw [hcut.out])
          go_ret
          refine ⟨ret_int ?_, hb.trans (hb1.mono hb.size)⟩
          have h3 := HY.out
          have h4 := tot_le Route.n xs (k + 1)
          rw [hc.out] at h4
          rw [cut_neg (by omega)]
        · have hcut : Hid (cut (y - (x.n : Int)) = y - (x.n : Int)) := Lib.hid (cut_pos (by omega))
          go_wp2_with (go_at_call 60; refine (szRoute x _ _ A2 A3 A4 A5 A6 A7 c2 c3 c4 c5 c6 c7 q2.1 q3.1 q4.1 q5.1 q6.1 q7.1 _ _ (by omega) (by omega)).mono ?_; rintro e w1 ⟨rfl, hb1⟩; rw [hcut.out])
          go_roundw
          case rel => exact ⟨k + 1, y - x.n, by omega, by go_num, rfl, by omega, by omega, Lib.hid (by rw [hc.out]; have := HY.out; omega), hb.trans (hb1.mono hb.size)⟩
          case measure => simp [intOf]; omega
      · obtain rfl : k = xs.length := by omega
        go_wp2
        go_ret
        refine ⟨ret_int ?_, hb⟩
        have h3 := HY.out
        rw [List.take_length] at h3
        rw [cut_pos (by omega)]
        omega
end Go.Proofs.YtpggopdojhodaaaGreat.L
