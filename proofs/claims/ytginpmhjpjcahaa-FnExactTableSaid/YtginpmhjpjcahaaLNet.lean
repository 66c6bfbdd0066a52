/- The law FnExactNetOk, walked: it answers true. -/
import Derived.Test.YtginpmhjpjcahaaNet5
import Derived.Test.YtginpmhjpjcahaaSz
import Derived.Test.YtginpmhjpjcahaaTo
import Derived.Test.YtginpmhjpjcahaaEq
namespace Go.Proofs.Ytginpmhjpjcahaa.L
open Go.RowKit
set_option linter.unusedVariables false
set_option linter.unusedSimpArgs false
theorem RetNet.opened {x : Net} {w w' : World} {e : Ending} (h : RetNet x w e w') :
    ∃ A0 c0 A1 c1, e = .returned (.agg #[.slice A0 x.pieces.length c0, .slice A1 x.joints.length c1]) ∧ Hid (pieceK.C w' (fun _ => True) A0 x.pieces) ∧ Hid ((jointK 118).C w' (fun _ => True) A1 x.joints) ∧ Below w.heap.size w w' := by
  obtain ⟨A0, c0, A1, c1, F0, F1, rfl, o0, o1, _, _, hb⟩ := h
  refine ⟨A0, c0, A1, c1, rfl, Lib.hid ?_, Lib.hid ?_, hb⟩
  · obtain ⟨A, c, he, _, hc⟩ := (Kn.slice 103 pieceK).K_of o0
    injection he with he _
    injection he with he _ _
    subst he
    exact Kn.C_mono (fun _ _ => trivial) hc
  · obtain ⟨A, c, he, _, hc⟩ := (Kn.slice 125 (jointK 118)).K_of o1
    injection he with he _
    injection he with he _ _
    subst he
    exact Kn.C_mono (fun _ _ => trivial) hc
theorem C_drew {α : Type} {d : Kn α} {w : World} {ok : Nat → Prop} {A : Option Addr} {xs : List α} (h : d.C w ok A xs) : d.C w.drew ok A xs :=
  Kn.C_move (w := w) (fun _ _ => rfl) h
theorem tot_mem {α : Type} {f : α → Nat} {xs : List α} {x : α} (h : x ∈ xs) : f x ≤ tot f xs := by
  induction xs with
  | nil => cases h
  | cons y ys ih =>
    have : tot f (y :: ys) = f y + tot f ys := by simp [tot]
    rcases List.mem_cons.1 h with rfl | h
    · omega
    · have := ih h
      omega
theorem tot_mono {α : Type} {f g : α → Nat} (hfg : ∀ x, f x ≤ g x) (xs : List α) : tot f xs ≤ tot g xs := by
  induction xs with
  | nil => exact Nat.le_refl _
  | cons y ys ih =>
    have h1 : tot f (y :: ys) = f y + tot f ys := by simp [tot]
    have h2 : tot g (y :: ys) = g y + tot g ys := by simp [tot]
    have := hfg y
    omega
theorem tot_one {α : Type} (xs : List α) : tot (fun _ => 1) xs = xs.length := by
  induction xs with
  | nil => rfl
  | cons y ys ih =>
    have h1 : tot (fun _ : α => 1) (y :: ys) = 1 + tot (fun _ => 1) ys := by simp [tot]
    rw [h1, ih, List.length_cons]
    omega
theorem usesIn_len (es : List End) (e : End) : usesIn es e ≤ es.length := by
  rw [← tot_one es]
  exact tot_mono (fun x => by split <;> omega) _
theorem uses_len (js : List Joint) (e : End) : uses js e ≤ tot Joint.n js := tot_mono (fun j => by have := usesIn_len j.ends e; unfold Joint.n; omega) _
set_option maxRecDepth 100000 in
set_option maxHeartbeats 2000000 in
theorem lawNetOk {ok : Nat → Prop} (x : Net) (A0 A1 : Option Addr) (c0 c1 : Nat) (w : World) (h0 : pieceK.C w ok A0 x.pieces) (h1 : (jointK 245).C w ok A1 x.joints) (hfit : Hid x.fit) :
    Calls Try.prog 4 #[.agg #[.slice A0 x.pieces.length c0, .slice A1 x.joints.length c1]] w (RetB true w) := by
  by_cases hn : x.n ≤ 1048576
  rotate_left
  · have hc : Hid (cut (1048576 - (x.n : Nat)) = -1) := Lib.hid (cut_neg (by omega))
    go_enter Try.func4, Try.ntmps4
    go_wp2_with fail
    refine (szNet _ x A0 A1 c0 c1 hfit (Kn.C_below (below_alloc _ _) h0) (Kn.C_below (below_alloc _ _) h1) 1048576 (by omega) (by omega)).mono ?_
    rintro e w1 ⟨rfl, hb1⟩
    rw [hc.out]
    go_wp2
    go_ret
    exact ⟨rfl, (below_alloc _ _).trans (hb1.mono (by simp))⟩
  have hc : Hid (cut (1048576 - (x.n : Nat)) = 1048576 - (x.n : Nat)) := Lib.hid (cut_pos (by omega))
  have hu : Hid (∀ e, uses x.joints e ≤ 1048576) := Lib.hid (fun e => by have := uses_len x.joints e; unfold Net.n lenS at hn; omega)
  have hl0 : x.pieces.length ≤ 1048576 := by unfold Net.n lenS at hn; omega
  have hl1 : x.joints.length ≤ 1048576 := by unfold Net.n lenS at hn; omega
  have he : Hid (∀ j ∈ x.joints, j.ends.length ≤ 1048576) := Lib.hid (fun j hj => by
    have h := tot_mem (f := Joint.n) hj
    have : j.ends.length ≤ Joint.n j := by unfold Joint.n; omega
    unfold Net.n lenS at hn
    omega)
  have HV : Hid (eqv (netOk x) (netOk x) = true) := Lib.hid (eqv_self _)
  have HX : Hid (eqv x x = true) := Lib.hid (eqv_self _)
  go_enter Try.func4, Try.ntmps4
  go_wp2_with fail
  obtain ⟨W0, hW0, hB0, f0, f1, hs0⟩ : ∃ W0, W0 = w.alloc (.cells #[.slice A0 x.pieces.length c0, .slice A1 x.joints.length c1] 26) ∧ Below w.heap.size w W0 ∧
    W0.cell? ⟨w.heap.size, 0, none⟩ = some (.slice A0 x.pieces.length c0) ∧ W0.cell? ⟨w.heap.size, 1, none⟩ = some (.slice A1 x.joints.length c1) ∧ w.heap.size < W0.heap.size := ⟨_, rfl, below_alloc _ _, by simp, by simp, by simp⟩
  rw [← hW0]
  have h0 := Lib.hid (Kn.C_below hB0 h0)
  have h1 := Lib.hid (Kn.C_below hB0 h1)
  clear hW0
  refine (szNet _ x A0 A1 c0 c1 hfit h0.out h1.out 1048576 (by omega) (by omega)).mono ?_
  rintro e w1 ⟨rfl, hb1⟩
  rw [hc.out]
  obtain ⟨hc1, hf1⟩ := bcell hb1
  have hs1 : w.heap.size < w1.heap.size := by have := hb1.size; omega
  go_wp2_with fail
  refine (toNet x A0 A1 c0 c1 _ (Kn.C_below hb1 h0.out) (Kn.C_below hb1 h1.out) hl0 hl1 he).mono ?_
  intro e w2 hr
  obtain ⟨A2, c2, A3, c3, rfl, p2, p3, hb2⟩ := RetNet.opened hr
  have hb2 := hb1.trans (hb2.mono hb1.size)
  clear hr hc1 hf1 hs1 hb1
  go_wp2_with fail
  refine (specNetOk x A2 A3 c2 c3 _ p2.out p3.out hfit hu).mono ?_
  rintro e w3 ⟨rfl, hb3⟩
  have hb3 := hb2.trans (hb3.mono hb2.size)
  clear p2 p3 hb2
  obtain ⟨hc3, hf3⟩ := bcell hb3
  have hs3 : w.heap.size < w3.heap.size := by have := hb3.size; omega
  go_wp2_with fail
  obtain ⟨W3, hW3, hB3, f2, f3, hs4, hs5⟩ : ∃ W3, W3 = w3.alloc (.cells #[.int .i64 (netOk x).code, .int .i64 (netOk x).at_] 29) ∧ Below W0.heap.size W0 W3 ∧
    W3.cell? ⟨w3.heap.size, 0, none⟩ = some (.int .i64 (netOk x).code) ∧ W3.cell? ⟨w3.heap.size, 1, none⟩ = some (.int .i64 (netOk x).at_) ∧ w3.heap.size < W3.heap.size ∧ w.heap.size < W3.heap.size := ⟨_, rfl, hb3.trans ((below_alloc _ _).mono hb3.size), by simp, by simp, by simp, by simp; omega⟩
  rw [← hW3]
  clear hW3 hc3 hf3 hb3 hs3
  obtain ⟨hc3, hf3⟩ := bcell hB3
  refine (toNet x A0 A1 c0 c1 _ (Kn.C_below hB3 h0.out) (Kn.C_below hB3 h1.out) hl0 hl1 he).mono ?_
  intro e w4 hr
  obtain ⟨A2, c2, A3, c3, rfl, p2, p3, hb4⟩ := RetNet.opened hr
  clear hr hc3 hf3
  go_wp2_with fail
  obtain ⟨W4, hW4, hB4, f4, f5, hs6, hs7, hs8⟩ : ∃ W4, W4 = w4.alloc (.cells #[.slice A2 x.pieces.length c2, .slice A3 x.joints.length c3] 34) ∧ Below w4.heap.size w4 W4 ∧
    W4.cell? ⟨w4.heap.size, 0, none⟩ = some (.slice A2 x.pieces.length c2) ∧ W4.cell? ⟨w4.heap.size, 1, none⟩ = some (.slice A3 x.joints.length c3) ∧ w4.heap.size < W4.heap.size ∧ w3.heap.size < W4.heap.size ∧ w.heap.size < W4.heap.size := ⟨_, rfl, below_alloc _ _, by simp, by simp, by simp, by have := hb4.size; simp; omega, by have := hb4.size; simp; omega⟩
  rw [← hW4]
  have p2 := Lib.hid (Kn.C_below hB4 p2.out)
  have p3 := Lib.hid (Kn.C_below hB4 p3.out)
  have hB4 := hb4.trans (hB4.mono hb4.size)
  clear hW4 hb4
  refine (implNetOk x A2 A3 c2 c3 _ p2.out p3.out hfit hu).mono ?_
  rintro e w5 ⟨rfl, hb5⟩
  have k0 := cell_below hb5 (cell_below hB4 (cell_below hB3 f0))
  have k1 := cell_below hb5 (cell_below hB4 (cell_below hB3 f1))
  have k2 := cell_below hb5 (cell_below hB4 f2)
  have k3 := cell_below hb5 (cell_below hB4 f3)
  have k4 := cell_below hb5 f4
  have k5 := cell_below hb5 f5
  have t0 : w.heap.size < w5.heap.size := by have := hb5.size; omega
  have t1 : w3.heap.size < w5.heap.size := by have := hb5.size; omega
  have t2 : w4.heap.size < w5.heap.size := by have := hb5.size; omega
  go_wp2_with fail
  obtain ⟨W5, hW5, hB5, l0, l1, l4, l5, hs9, hs10, hs11, hs12⟩ : ∃ W5, W5 = w5.alloc (.cells #[.int .i64 (netOk x).code, .int .i64 (netOk x).at_] 29) ∧ Below w5.heap.size w5 W5 ∧
    W5.cell? ⟨w.heap.size, 0, none⟩ = some (.slice A0 x.pieces.length c0) ∧ W5.cell? ⟨w.heap.size, 1, none⟩ = some (.slice A1 x.joints.length c1) ∧
    W5.cell? ⟨w4.heap.size, 0, none⟩ = some (.slice A2 x.pieces.length c2) ∧ W5.cell? ⟨w4.heap.size, 1, none⟩ = some (.slice A3 x.joints.length c3) ∧ w5.heap.size < W5.heap.size ∧ w4.heap.size < W5.heap.size ∧ w3.heap.size < W5.heap.size ∧ w.heap.size < W5.heap.size :=
      ⟨_, rfl, below_alloc _ _, cell_below (below_alloc _ _) k0, cell_below (below_alloc _ _) k1, cell_below (below_alloc _ _) k4, cell_below (below_alloc _ _) k5, by simp, by simp; omega, by simp; omega, by simp; omega⟩
  rw [← hW5]
  clear hW5 k0 k1 k2 k3 k4 k5 t0 t1 t2
  have hB5 := hb5.trans (hB5.mono hb5.size)
  refine (eqFault (netOk x) (netOk x) _).mono ?_
  rintro e w6 ⟨rfl, hb6⟩
  rw [HV.out]
  have l0 := cell_below hb6 l0
  have l1 := cell_below hb6 l1
  have l4 := cell_below hb6 l4
  have l5 := cell_below hb6 l5
  have hB6 := hB5.trans (hb6.mono hB5.size)
  have P2 := Lib.hid (Kn.C_below hB6 p2.out)
  have P3 := Lib.hid (Kn.C_below hB6 p3.out)
  have H0 := Lib.hid (Kn.C_below hB6 (Kn.C_below hB4 (Kn.C_below hB3 h0.out)))
  have H1 := Lib.hid (Kn.C_below hB6 (Kn.C_below hB4 (Kn.C_below hB3 h1.out)))
  have P2 := Lib.hid (C_drew P2.out)
  have P3 := Lib.hid (C_drew P3.out)
  have H0 := Lib.hid (C_drew H0.out)
  have H1 := Lib.hid (C_drew H1.out)
  have hBB := hB3.trans ((hB4.trans (hB6.mono hB4.size)).mono hB3.size)
  have hBB := hB0.trans (hBB.mono hB0.size)
  clear f0 f1 f2 f3 f4 f5 hs0 h0 h1 hs4 hs5 hs6 hs7 hs8 p2 p3 hB4 hb5 hb6 hB5 hB6 hB3 hs9 hs10 hs11 hs12 hb2 hb3 HV
  go_wp2_with fail
  go_region_held3 (fun w' => w'.cell? ⟨w.heap.size, 0, none⟩ = some (.slice A0 x.pieces.length c0) ∧ w'.cell? ⟨w.heap.size, 1, none⟩ = some (.slice A1 x.joints.length c1) ∧ w'.cell? ⟨w4.heap.size, 0, none⟩ = some (.slice A2 x.pieces.length c2) ∧ w'.cell? ⟨w4.heap.size, 1, none⟩ = some (.slice A3 x.joints.length c3)) (first | exact ⟨cell_below hb8 (cell_below hb7 l0), cell_below hb8 (cell_below hb7 l1), cell_below hb8 (cell_below hb7 l4), cell_below hb8 (cell_below hb7 l5)⟩ | exact ⟨cell_below hb7 l0, cell_below hb7 l1, cell_below hb7 l4, cell_below hb7 l5⟩ | go_keep)
    (first | (go_at_call 17; refine (toNet x A0 A1 c0 c1 _ (by exact H0.out) (by exact H1.out) hl0 hl1 he).mono ?_; intro e w7 hr; obtain ⟨A4, c4, A5, c5, rfl, p4, p5, hb7⟩ := RetNet.opened hr; clear hr)
           | (go_at_call 20; refine (eqNet x x A2 A3 _ _ c2 c3 _ _ _ (by exact Kn.C_below hb7 P2.out) (by exact Kn.C_below hb7 P3.out) (by exact p4.out) (by exact p5.out)).mono ?_; rintro e w8 ⟨rfl, hb8⟩; rw [HX.out]))
  go_wp2
  go_ret
  exact ⟨rfl, hBB.drew.trans ((hb7.trans (hb8.mono hb7.size)).mono hBB.drew.size)⟩
end Go.Proofs.Ytginpmhjpjcahaa.L
