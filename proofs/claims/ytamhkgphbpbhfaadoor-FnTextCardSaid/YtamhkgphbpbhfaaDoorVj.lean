/- The program's search: is it full; where a switch stands in a list; a route that is being driven, in memory. -/
import Derived.Test.YtamhkgphbpbhfaaDoorVi
namespace Go.Proofs.YtamhkgphbpbhfaaDoor.L
open Go.RowKit
open Classical
set_option linter.unusedVariables false
set_option linter.unusedSimpArgs false
def IsFull (l : Nat) (t : Int) (b : Bool) : Prop := (300 < l ∨ 20000 < t) ↔ b = true
theorem implFull {n : Net} {A0 A1 Ao : Option Addr} {c0 c1 co g l : Nat} {sv : Value} {ov t : Int} (b : Bool) (w : World) (F : Blk w g 116 (walkB n A0 A1 c0 c1 sv ov (.slice Ao l co) t)) (h : Hid (IsFull l t b)) :
    Calls Tryd.prog 52 #[.pointer (some ⟨g, 0, none⟩)] w (RetB0 b w) := by
  have g4 := F.cell 4 rfl
  have g5 := F.cell 5 rfl
  have hgw := F.lt
  have hl := Int.natCast_nonneg l
  clear F
  by_cases l0 : 300 < l
  · have HB : Hid (true = b) := Lib.hid (h.out.1 (.inl l0)).symm
    have d0 : decide ((300 : Int) < (l : Int)) = true := decide_eq_true (by omega)
    go_enter Tryd.func52, Tryd.ntmps52
    go_wp2
    go_ret
    exact ⟨by rw [← HB.out]; rfl, rfl⟩
  · have d0 : decide ((300 : Int) < (l : Int)) = false := decide_eq_false (by omega)
    by_cases l1 : 20000 < t
    · have HB : Hid (true = b) := Lib.hid (h.out.1 (.inr l1)).symm
      have d1 : decide ((20000 : Int) < t) = true := decide_eq_true (by omega)
      go_enter Tryd.func52, Tryd.ntmps52
      go_wp2
      go_ret
      exact ⟨by rw [← HB.out]; rfl, rfl⟩
    · have HB : Hid (false = b) := Lib.hid (by
        cases b with
        | false => rfl
        | true =>
          rcases h.out.2 rfl with h1 | h1
          · exact absurd h1 l0
          · exact absurd h1 l1)
      have d1 : decide ((20000 : Int) < t) = false := decide_eq_false (by omega)
      go_enter Tryd.func52, Tryd.ntmps52
      go_wp2
      go_ret
      exact ⟨by rw [← HB.out]; rfl, rfl⟩
theorem implOn1 (x : Lie) (j : Int) (bj : Nat) (w : World) (F : Blk w bj 3 [.int .i64 j]) :
    Calls Tryd.prog 76 #[.agg #[.int .i64 x.joint, .int .i64 x.lie], .pointer (some ⟨bj, 0, none⟩)] w (RetB (eqv x.joint j) w) := by
  have g0 := F.cell 0 rfl
  have hgw := F.lt
  clear F
  by_cases e : x.joint = j
  · have d0 : (x.joint == j) = true := int_eqt e
    have HB : Hid (eqv x.joint j = true) := Lib.hid (eqv_true e)
    clear e
    go_enter Tryd.func76, Tryd.ntmps76
    go_wp2
    go_ret
    exact ⟨by rw [HB.out]; rfl, below_alloc _ _⟩
  · have d0 : (x.joint == j) = false := int_eqf e
    have HB : Hid (eqv x.joint j = false) := Lib.hid (eqv_false e)
    clear e
    go_enter Tryd.func76, Tryd.ntmps76
    go_wp2
    go_ret
    exact ⟨by rw [HB.out]; rfl, below_alloc _ _⟩
def RetIx (lies : List Lie) (j : Int) (w : World) (e : Ending) (w' : World) : Prop :=
  ∃ o : Option Nat, e = .returned (.int .i64 (onum o)) ∧ (o = none → ∀ (q : Nat) (y : Lie), lies[q]? = some y → ¬ y.joint = j) ∧ (∀ i, o = some i → ∃ x, lies[i]? = some x ∧ x.joint = j ∧ ∀ (q : Nat) (y : Lie), q < i → lies[q]? = some y → ¬ y.joint = j) ∧ Below w.heap.size w w'
set_option maxHeartbeats 2000000 in
theorem implIndex {ok : Nat → Prop} (lies : List Lie) (A : Option Addr) (c : Nat) (j : Int) (bj : Nat) (w : World) (h : lieK.C w ok A lies) (F : Blk w bj 3 [.int .i64 j]) :
    Calls Tryd.prog 75 #[.slice A lies.length c, .func (.func 76) #[] #[.pointer (some ⟨bj, 0, none⟩)]] w (RetIx lies j w) := by
  have hm := h.1
  go_enter Tryd.func75, Tryd.ntmps75
  go_wp2
  go_loopw [8] (fun i0 wr => ∃ k : Nat, k ≤ lies.length ∧ i0 = .int .i64 k ∧ Hid (∀ (q : Nat) (y : Lie), q < k → lies[q]? = some y → ¬ y.joint = j) ∧ Below w.heap.size w wr) (fun i0 _ => lies.length - (intOf i0).toNat)
  case atStart => exact ⟨0, Nat.zero_le _, rfl, Lib.hid (fun q y hq => by omega), Below.refl _ _⟩
  case round =>
    obtain ⟨k, hk, rfl, HN, hb⟩ := hrel
    by_cases hlt : k < lies.length
    · obtain ⟨ad, rfl, y0, y1, E, g0, g1⟩ := lieK_at (Kn.C_below hb h) k hlt
      have i0 : (0 : Int) ≤ (k : Int) := Int.natCast_nonneg _
      have i1 : (k : Int) < (lies.length : Int) := by omega
      have FR := F.below hb F.lt
      by_cases e : y0 = j
      · have HB : Hid (eqv y0 j = true) := Lib.hid (eqv_true e)
        have hfin : ∀ w1, Below wr.heap.size wr w1 → RetIx lies j w (.returned (.int .i64 k)) w1 := fun w1 hb1 => ⟨some k, rfl, (fun h => by cases h), (fun i hi => by
          obtain rfl := Option.some.inj hi
          exact ⟨_, E.out, e, HN.out⟩), hb.trans (hb1.mono hb.size)⟩
        have HFIN := Lib.hid hfin
        clear hfin e
        go_wp2_with fail
        refine (implOn1 ⟨y0, y1⟩ j bj wr FR).mono ?_
        rintro e w1 ⟨he, hb1⟩
        have he : e = .returned (.bool true) := by rw [he]; show Ending.returned (.bool (eqv y0 j)) = _; rw [HB.out]
        subst he
        have hf := HFIN.out w1 hb1
        go_wp2
        go_ret
        exact hf
      · have HB : Hid (eqv y0 j = false) := Lib.hid (eqv_false e)
        have HN2 : Hid (∀ (q : Nat) (y : Lie), q < k + 1 → lies[q]? = some y → ¬ y.joint = j) := Lib.hid (fun q y hq hy => by
          by_cases hqk : q < k
          · exact HN.out q y hqk hy
          · obtain rfl : q = k := by omega
            obtain rfl := Option.some.inj (hy.symm.trans E.out)
            exact e)
        clear e
        go_wp2_with fail
        refine (implOn1 ⟨y0, y1⟩ j bj wr FR).mono ?_
        rintro e w1 ⟨he, hb1⟩
        have he : e = .returned (.bool false) := by rw [he]; show Ending.returned (.bool (eqv y0 j)) = _; rw [HB.out]
        subst he
        have hbz := hb.trans (hb1.mono hb.size)
        clear g0 g1
        go_wp2
        go_roundw
        case rel => exact ⟨k + 1, by omega, by go_num, HN2, hbz⟩
        case measure => simp [intOf]; omega
    · have hf : RetIx lies j w (.returned (.int .i64 (-1))) wr := ⟨none, rfl, fun _ q y hy => HN.out q y (by have := (List.getElem?_eq_some_iff.1 hy).1; omega) hy, (fun i hi => by cases hi), hb⟩
      go_wp2
      go_ret
      exact hf
def HS (g h : Nat) (vout : Value) (b : Nat) : Prop := WSet g vout b ∨ b = h
structure PJ (w0 w : World) (g h : Nat) (vout : Value) (r : Route) (tl : Int) (B2 B3 B4 B5 : Option Addr) (d2 d3 d4 d5 : Nat) : Prop where
  K : Below w0.heap.size w0 w
  hh : w0.heap.size ≤ h
  B : Blk w h 56 [.int .i64 r.frm, .int .i64 tl, .slice B2 r.steps.length d2, .slice B3 r.lies.length d3, .slice B4 r.crosses.length d4, .slice B5 r.parts.length d5, .slice none 0 0, .slice none 0 0]
  s : stepK.C w (Out w (HS g h vout)) B2 r.steps
  l : lieK.C w (Out w (HS g h vout)) B3 r.lies
  c : Kn.int.C w (Out w (HS g h vout)) B4 r.crosses
  p : partK.C w (Out w (HS g h vout)) B5 r.parts
  cap : r.steps.length ≤ d2 ∧ r.lies.length ≤ d3 ∧ r.crosses.length ≤ d4 ∧ r.parts.length ≤ d5
section
variable {w0 w w1 w2 wr : World} {g h : Nat} {n : Net} {ss : List Signal} {A0 A1 A2 : Option Addr} {c0 c1 c2 : Nat} {ov tr : Int} {vout vo : Value} {rs : List Route} {r : Route} {tl : Int} {B2 B3 B4 B5 A : Option Addr} {d2 d3 d4 d5 m c : Nat}
theorem PJ.below (hb : Below w.heap.size w w1) (L : PJ w0 w g h vout r tl B2 B3 B4 B5 d2 d3 d4 d5) : PJ w0 w1 g h vout r tl B2 B3 B4 B5 d2 d3 d4 d5 :=
  ⟨L.K.trans (hb.mono L.K.size), L.hh, L.B.below hb L.B.lt, Kn.C_keep (Keep.of_below hb) (fun _ _ e => e) L.s, Kn.C_keep (Keep.of_below hb) (fun _ _ e => e) L.l, Kn.C_keep (Keep.of_below hb) (fun _ _ e => e) L.c, Kn.C_keep (Keep.of_below hb) (fun _ _ e => e) L.p, L.cap⟩
theorem HS.keep (i : Nat) (v : Value) : Keep (HS g h vout) w (w.setCell ⟨h, i, none⟩ v) := (Keep.refl _ _).setCell (fun _ => .inr rfl) v
theorem HS.row {α : Type} {d : Kn α} {e t : Nat} {xs : List α} {cs : List Value} (W : WI w0 g n ss A0 A1 A2 c0 c1 c2 ov tr vout rs) (hR : d.Rw e w nobody (.slice A m c) xs) (ho : ∀ b, (Value.slice A m c).ownBlock = some b → w0.heap.size ≤ b) (hB : Blk w h t cs) (ht : t ≠ e) (i : Nat) (v : Value) :
    d.C (w.setCell ⟨h, i, none⟩ v) (Out (w.setCell ⟨h, i, none⟩ v) (HS g h vout)) A xs :=
  Kn.C_keep (HS.keep i v) (fun _ _ e => e) (Kn.C_mono (fun b hb => by
    rcases hb with hb | hb
    · exact hb.elim
    · refine ⟨hR.lt b hb, fun e => ?_⟩
      rcases e with e | e
      · exact W.new (ho b hb) e
      · exact own_not hR hB ht (by rw [← e]; exact hb)) (Rw_slice hR).2.2)
theorem PJ.til (L : PJ w0 w g h vout r tl B2 B3 B4 B5 d2 d3 d4 d5) (t : Int) : PJ w0 (w.setCell ⟨h, 1, none⟩ (.int .i64 t)) g h vout r t B2 B3 B4 B5 d2 d3 d4 d5 :=
  ⟨L.K.setCell L.hh _, L.hh, L.B.set_ 1 _, Kn.C_keep (HS.keep 1 _) (fun _ _ e => e) L.s, Kn.C_keep (HS.keep 1 _) (fun _ _ e => e) L.l, Kn.C_keep (HS.keep 1 _) (fun _ _ e => e) L.c, Kn.C_keep (HS.keep 1 _) (fun _ _ e => e) L.p, L.cap⟩
theorem PJ.setS (W : WI w0 g n ss A0 A1 A2 c0 c1 c2 ov tr vout rs) (L : PJ w0 w g h vout r tl B2 B3 B4 B5 d2 d3 d4 d5) (hb : Below w.heap.size w w2) {xs : List Step} (hR : stepK.Rw 71 w2 nobody (.slice A m c) xs) (ho : ∀ b, (Value.slice A m c).ownBlock = some b → w0.heap.size ≤ b) :
    PJ w0 (w2.setCell ⟨h, 2, none⟩ (.slice A m c)) g h vout { r with steps := xs } tl A B3 B4 B5 c d3 d4 d5 := by
  obtain rfl := (Rw_slice hR).1
  have L2 := L.below hb
  exact ⟨L2.K.setCell L.hh _, L.hh, L2.B.set_ 2 _, HS.row W hR ho L2.B (by decide) 2 _, Kn.C_keep (HS.keep 2 _) (fun _ _ e => e) L2.l, Kn.C_keep (HS.keep 2 _) (fun _ _ e => e) L2.c, Kn.C_keep (HS.keep 2 _) (fun _ _ e => e) L2.p, (Rw_slice hR).2.1, L.cap.2⟩
theorem PJ.setL (W : WI w0 g n ss A0 A1 A2 c0 c1 c2 ov tr vout rs) (L : PJ w0 w g h vout r tl B2 B3 B4 B5 d2 d3 d4 d5) (hb : Below w.heap.size w w2) {xs : List Lie} (hR : lieK.Rw 75 w2 nobody (.slice A m c) xs) (ho : ∀ b, (Value.slice A m c).ownBlock = some b → w0.heap.size ≤ b) :
    PJ w0 (w2.setCell ⟨h, 3, none⟩ (.slice A m c)) g h vout { r with lies := xs } tl B2 A B4 B5 d2 c d4 d5 := by
  obtain rfl := (Rw_slice hR).1
  have L2 := L.below hb
  exact ⟨L2.K.setCell L.hh _, L.hh, L2.B.set_ 3 _, Kn.C_keep (HS.keep 3 _) (fun _ _ e => e) L2.s, HS.row W hR ho L2.B (by decide) 3 _, Kn.C_keep (HS.keep 3 _) (fun _ _ e => e) L2.c, Kn.C_keep (HS.keep 3 _) (fun _ _ e => e) L2.p, L.cap.1, (Rw_slice hR).2.1, L.cap.2.2⟩
theorem PJ.setC (W : WI w0 g n ss A0 A1 A2 c0 c1 c2 ov tr vout rs) (L : PJ w0 w g h vout r tl B2 B3 B4 B5 d2 d3 d4 d5) (hb : Below w.heap.size w w2) {xs : List Int} (hR : Kn.int.Rw 3 w2 nobody (.slice A m c) xs) (ho : ∀ b, (Value.slice A m c).ownBlock = some b → w0.heap.size ≤ b) :
    PJ w0 (w2.setCell ⟨h, 4, none⟩ (.slice A m c)) g h vout { r with crosses := xs } tl B2 B3 A B5 d2 d3 c d5 := by
  obtain rfl := (Rw_slice hR).1
  have L2 := L.below hb
  exact ⟨L2.K.setCell L.hh _, L.hh, L2.B.set_ 4 _, Kn.C_keep (HS.keep 4 _) (fun _ _ e => e) L2.s, Kn.C_keep (HS.keep 4 _) (fun _ _ e => e) L2.l, HS.row W hR ho L2.B (by decide) 4 _, Kn.C_keep (HS.keep 4 _) (fun _ _ e => e) L2.p, L.cap.1, L.cap.2.1, (Rw_slice hR).2.1, L.cap.2.2.2⟩
theorem PJ.setP (W : WI w0 g n ss A0 A1 A2 c0 c1 c2 ov tr vout rs) (L : PJ w0 w g h vout r tl B2 B3 B4 B5 d2 d3 d4 d5) (hb : Below w.heap.size w w2) {xs : List Part} (hR : partK.Rw 88 w2 nobody (.slice A m c) xs) (ho : ∀ b, (Value.slice A m c).ownBlock = some b → w0.heap.size ≤ b) :
    PJ w0 (w2.setCell ⟨h, 5, none⟩ (.slice A m c)) g h vout { r with parts := xs } tl B2 B3 B4 A d2 d3 d4 c := by
  obtain rfl := (Rw_slice hR).1
  have L2 := L.below hb
  exact ⟨L2.K.setCell L.hh _, L.hh, L2.B.set_ 5 _, Kn.C_keep (HS.keep 5 _) (fun _ _ e => e) L2.s, Kn.C_keep (HS.keep 5 _) (fun _ _ e => e) L2.l, Kn.C_keep (HS.keep 5 _) (fun _ _ e => e) L2.c, HS.row W hR ho L2.B (by decide) 5 _, L.cap.1, L.cap.2.1, L.cap.2.2.1, (Rw_slice hR).2.1⟩
theorem PJ.lists (L : PJ w0 w g h vout r tl B2 B3 B4 B5 d2 d3 d4 d5) : stepK.C w (Out w (WSet g vout)) B2 r.steps ∧ lieK.C w (Out w (WSet g vout)) B3 r.lies ∧ Kn.int.C w (Out w (WSet g vout)) B4 r.crosses ∧ partK.C w (Out w (WSet g vout)) B5 r.parts := by
  have h : ∀ b, Out w (HS g h vout) b → Out w (WSet g vout) b := fun b hb => ⟨hb.1, fun e => hb.2 (.inl e)⟩
  exact ⟨Kn.C_mono h L.s, Kn.C_mono h L.l, Kn.C_mono h L.c, Kn.C_mono h L.p⟩
theorem PJ.new_ (W : WI w0 g n ss A0 A1 A2 c0 c1 c2 ov tr vout rs) (hb : Below w0.heap.size w0 w) (hh : w0.heap.size ≤ h) (hB : Blk w h 56 [.int .i64 r.frm, .int .i64 tl, .slice B2 r.steps.length d2, .slice B3 r.lies.length d3, .slice B4 r.crosses.length d4, .slice B5 r.parts.length d5, .slice none 0 0, .slice none 0 0])
    (hs : stepK.C w0 (Out w0 (WSet g vout)) B2 r.steps) (hl : lieK.C w0 (Out w0 (WSet g vout)) B3 r.lies) (hc : Kn.int.C w0 (Out w0 (WSet g vout)) B4 r.crosses) (hp : partK.C w0 (Out w0 (WSet g vout)) B5 r.parts) (hcap : r.steps.length ≤ d2 ∧ r.lies.length ≤ d3 ∧ r.crosses.length ≤ d4 ∧ r.parts.length ≤ d5) :
    PJ w0 w g h vout r tl B2 B3 B4 B5 d2 d3 d4 d5 := by
  have hm : ∀ b, Out w0 (WSet g vout) b → Out w (HS g h vout) b := fun b hbb => ⟨Nat.lt_of_lt_of_le hbb.1 hb.size, fun e => e.elim hbb.2 (fun e => by have := hbb.1; omega)⟩
  exact ⟨hb, hh, hB, Kn.C_mono hm (Kn.C_below hb hs), Kn.C_mono hm (Kn.C_below hb hl), Kn.C_mono hm (Kn.C_below hb hc), Kn.C_mono hm (Kn.C_below hb hp), hcap⟩
theorem PJ.far (L : PJ w0 w g h vout r tl B2 B3 B4 B5 d2 d3 d4 d5) (hk : Keep (WSet g vout) w wr) (hn : Nx vout vo w.heap.size) : stepK.C wr (Out wr (WSet g vo)) B2 r.steps ∧ lieK.C wr (Out wr (WSet g vo)) B3 r.lies ∧ Kn.int.C wr (Out wr (WSet g vo)) B4 r.crosses ∧ partK.C wr (Out wr (WSet g vo)) B5 r.parts := by
  obtain ⟨a1, a2, a3, a4⟩ := L.lists
  exact ⟨Kn.C_keep hk (WSet.next hn) a1, Kn.C_keep hk (WSet.next hn) a2, Kn.C_keep hk (WSet.next hn) a3, Kn.C_keep hk (WSet.next hn) a4⟩
end
end Go.Proofs.YtamhkgphbpbhfaaDoor.L
