/- Nets and signals in memory, told in one word each; the contracts of chapter 1 in these words. -/
import Derived.Test.YtginpmhjpjcahaaSig2
import Derived.Test.YtginpmhjpjcahaaSig3
import Derived.Test.YtginpmhjpjcahaaLNet
namespace Go.Proofs.Ytginpmhjpjcahaa.L
open Go.RowKit
set_option linter.unusedVariables false
/-- The two slices read as the net's lists. -/
structure NC (eE : Nat) (w : World) (ok : Nat → Prop) (x : Net) (A0 A1 : Option Addr) : Prop where
  p : pieceK.C w ok A0 x.pieces
  j : (jointK eE).C w ok A1 x.joints
section
variable {eE : Nat} {w w1 : World} {ok ok' : Nat → Prop} {x : Net} {A0 A1 : Option Addr}
theorem NC.below (hb : Below w.heap.size w w1) (h : NC eE w ok x A0 A1) : NC eE w1 ok x A0 A1 := ⟨Kn.C_below hb h.p, Kn.C_below hb h.j⟩
theorem NC.mono (hm : ∀ b, ok b → ok' b) (h : NC eE w ok x A0 A1) : NC eE w ok' x A0 A1 := ⟨Kn.C_mono hm h.p, Kn.C_mono hm h.j⟩
theorem NC.drew (h : NC eE w ok x A0 A1) : NC eE w.drew ok x A0 A1 := ⟨C_drew h.p, C_drew h.j⟩
theorem NC.move (hm : ∀ b, ok b → w1.heap[b]? = w.heap[b]?) (h : NC eE w ok x A0 A1) : NC eE w1 ok x A0 A1 := ⟨Kn.C_move hm h.p, Kn.C_move hm h.j⟩
end
/-- A net that the laws speak of. -/
structure NetIn (x : Net) : Prop where
  n : x.n ≤ 1048576
  fit : x.fit
theorem NetIn.uses {x : Net} (h : NetIn x) : ∀ e, uses x.joints e ≤ 1048576 := fun e => by have := uses_len x.joints e; have := h.n; unfold Net.n lenS at this; omega
theorem NetIn.pieces {x : Net} (h : NetIn x) : x.pieces.length ≤ 1048576 := by have := h.n; unfold Net.n lenS at this; omega
theorem NetIn.joints {x : Net} (h : NetIn x) : x.joints.length ≤ 1048576 := by have := h.n; unfold Net.n lenS at this; omega
theorem NetIn.ends {x : Net} (h : NetIn x) : ∀ j ∈ x.joints, j.ends.length ≤ 1048576 := fun j hj => by
  have h1 := tot_mem (f := Joint.n) hj
  have : j.ends.length ≤ Joint.n j := by unfold Joint.n; omega
  have := h.n
  unfold Net.n lenS at this
  omega
/-- Signals that the laws speak of. -/
structure SigIn (ss : List Signal) : Prop where
  n : lenS Signal.n ss ≤ 1048576
  fit : ∀ s ∈ ss, s.fit
theorem SigIn.len {ss : List Signal} (h : SigIn ss) : ss.length ≤ 1048576 := by have := h.n; unfold lenS at this; omega
theorem toNetC {ok : Nat → Prop} (x : Net) (A0 A1 : Option Addr) (c0 c1 : Nat) (w : World) (h : NC 245 w ok x A0 A1) (hn : NetIn x) :
    Calls Try.prog 17 #[.agg #[.slice A0 x.pieces.length c0, .slice A1 x.joints.length c1]] w (RetNet x w) := toNet x A0 A1 c0 c1 w h.p h.j hn.pieces hn.joints (Lib.hid hn.ends)
theorem eqNetC {ok ok' : Nat → Prop} (x y : Net) (A0 A1 : Option Addr) (c0 c1 : Nat) (B0 B1 : Option Addr) (d0 d1 : Nat) (w : World) (h : NC 118 w ok x A0 A1) (h' : NC 118 w ok' y B0 B1) :
    Calls Try.prog 20 #[.agg #[.slice A0 x.pieces.length c0, .slice A1 x.joints.length c1], .agg #[.slice B0 y.pieces.length d0, .slice B1 y.joints.length d1]] w (RetB (eqv x y) w) := eqNet x y A0 A1 B0 B1 c0 c1 d0 d1 w h.p h.j h'.p h'.j
theorem specSignalsOkC {ok ok' : Nat → Prop} (n : Net) (ss : List Signal) (A0 A1 A2 : Option Addr) (c0 c1 c2 : Nat) (w : World) (h : NC 118 w ok n A0 A1) (hs : signalK.C w ok' A2 ss) (hn : NetIn n) (hi : SigIn ss) :
    Calls Try.prog 40 #[.agg #[.slice A0 n.pieces.length c0, .slice A1 n.joints.length c1], .slice A2 ss.length c2] w (RetV (signalsOk n ss).v w) := specSignalsOk n ss A0 A1 A2 c0 c1 c2 w h.p h.j hs (Lib.hid hn.fit) (Lib.hid hn.uses) (Lib.hid hi.fit)
theorem implSignalsOkC {ok ok' : Nat → Prop} (n : Net) (ss : List Signal) (A0 A1 A2 : Option Addr) (c0 c1 c2 : Nat) (w : World) (h : NC 118 w ok n A0 A1) (hs : signalK.C w ok' A2 ss) (hc : ss.length ≤ c2) (hn : NetIn n) (hi : SigIn ss) :
    Calls Try.prog 42 #[.agg #[.slice A0 n.pieces.length c0, .slice A1 n.joints.length c1], .slice A2 ss.length c2] w (RetV (signalsOk n ss).v w) := implSignalsOk n ss A0 A1 A2 c0 c1 c2 w h.p h.j hs hc (Lib.hid hn.fit) (Lib.hid hn.uses) (Lib.hid hi.fit)
theorem RetNet.opC {x : Net} {w w' : World} {e : Ending} (h : RetNet x w e w') :
    ∃ A0 A1 c0 c1, e = .returned (.agg #[.slice A0 x.pieces.length c0, .slice A1 x.joints.length c1]) ∧ Hid (NC 118 w' (fun _ => True) x A0 A1) ∧ Below w.heap.size w w' := by
  obtain ⟨A0, c0, A1, c1, e, h0, h1, hb⟩ := RetNet.opened h
  exact ⟨A0, A1, c0, c1, e, Lib.hid ⟨h0.out, h1.out⟩, hb⟩
theorem RetS.opC {α : Type} {e : Nat} {d : Kn α} {xs : List α} {w w' : World} {en : Ending} (h : RetS e d xs w en w') :
    ∃ A c, en = .returned (.slice A xs.length c) ∧ xs.length ≤ c ∧ Hid (d.C w' (fun _ => True) A xs) ∧ Below w.heap.size w w' := by
  obtain ⟨A, c, F, rfl, o, hf, hb⟩ := h
  obtain ⟨A', c', he, hl, hc⟩ := (Kn.slice e d).K_of o
  injection he with he _
  injection he with he _ hcc
  subst he
  subst hcc
  exact ⟨A, c, rfl, hl, Lib.hid (Kn.C_mono (fun _ _ => trivial) hc), hb⟩
end Go.Proofs.Ytginpmhjpjcahaa.L
