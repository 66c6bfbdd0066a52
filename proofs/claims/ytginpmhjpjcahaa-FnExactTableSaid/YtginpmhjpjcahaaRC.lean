/- A route in memory, told in one word: its slices read as its lists. The contracts of the copiers, counters and comparers in these words. -/
import Derived.Test.YtginpmhjpjcahaaToR
import Derived.Test.YtginpmhjpjcahaaSzR
import Derived.Test.YtginpmhjpjcahaaExcl
namespace Go.Proofs.Ytginpmhjpjcahaa.L
open Go.RowKit
set_option linter.unusedVariables false
theorem C_dr {α : Type} {d : Kn α} {w : World} {ok : Nat → Prop} {A : Option Addr} {xs : List α} (h : d.C w ok A xs) : d.C w.drew ok A xs := Kn.C_move (w := w) (fun _ _ => rfl) h
/-- The slices read as the route's lists. -/
structure RC (w : World) (ok : Nat → Prop) (x : Route) (A2 A3 A4 A5 A6 A7 : Option Addr) : Prop where
  h2 : stepK.C w ok A2 x.steps
  h3 : lieK.C w ok A3 x.lies
  h4 : Kn.int.C w ok A4 x.crosses
  h5 : partK.C w ok A5 x.parts
  h6 : partK.C w ok A6 x.over
  h7 : flankK.C w ok A7 x.flanks
section
variable {w w1 : World} {ok ok' : Nat → Prop} {x : Route} {A2 A3 A4 A5 A6 A7 : Option Addr}
theorem RC.below (hb : Below w.heap.size w w1) (h : RC w ok x A2 A3 A4 A5 A6 A7) : RC w1 ok x A2 A3 A4 A5 A6 A7 := ⟨Kn.C_below hb h.h2, Kn.C_below hb h.h3, Kn.C_below hb h.h4, Kn.C_below hb h.h5, Kn.C_below hb h.h6, Kn.C_below hb h.h7⟩
theorem RC.mono (hm : ∀ b, ok b → ok' b) (h : RC w ok x A2 A3 A4 A5 A6 A7) : RC w ok' x A2 A3 A4 A5 A6 A7 := ⟨Kn.C_mono hm h.h2, Kn.C_mono hm h.h3, Kn.C_mono hm h.h4, Kn.C_mono hm h.h5, Kn.C_mono hm h.h6, Kn.C_mono hm h.h7⟩
theorem RC.drew (h : RC w ok x A2 A3 A4 A5 A6 A7) : RC w.drew ok x A2 A3 A4 A5 A6 A7 := ⟨C_dr h.h2, C_dr h.h3, C_dr h.h4, C_dr h.h5, C_dr h.h6, C_dr h.h7⟩
theorem RC.keep {S S' : Nat → Prop} (hk : Keep S w w1) (hs : ∀ x, x < w.heap.size → S' x → S x) (h : RC w (Out w S) x A2 A3 A4 A5 A6 A7) : RC w1 (Out w1 S') x A2 A3 A4 A5 A6 A7 := ⟨Kn.C_keep hk hs h.h2, Kn.C_keep hk hs h.h3, Kn.C_keep hk hs h.h4, Kn.C_keep hk hs h.h5, Kn.C_keep hk hs h.h6, Kn.C_keep hk hs h.h7⟩
end
theorem RetRoute.opened {x : Route} {w w' : World} {e : Ending} (h : RetRoute x w e w') :
    ∃ A2 A3 A4 A5 A6 A7 c2 c3 c4 c5 c6 c7, e = .returned (.agg #[.int .i64 x.frm, .int .i64 x.til, .slice A2 x.steps.length c2, .slice A3 x.lies.length c3, .slice A4 x.crosses.length c4, .slice A5 x.parts.length c5, .slice A6 x.over.length c6, .slice A7 x.flanks.length c7]) ∧ Hid (RC w' (fun _ => True) x A2 A3 A4 A5 A6 A7) ∧ Below w.heap.size w w' := by
  obtain ⟨A2, c2, A3, c3, A4, c4, A5, c5, A6, c6, A7, c7, F, rfl, o, hf, hb⟩ := h
  obtain ⟨D2, d2, D3, d3, D4, d4, D5, d5, D6, d6, D7, d7, he, l2, q2, l3, q3, l4, q4, l5, q5, l6, q6, l7, q7⟩ := routeK_open (rK.K_of o)
  injection he with _ he
  injection he with _ he
  injection he with e2 he
  injection e2 with e2 _ _
  subst e2
  injection he with e3 he
  injection e3 with e3 _ _
  subst e3
  injection he with e4 he
  injection e4 with e4 _ _
  subst e4
  injection he with e5 he
  injection e5 with e5 _ _
  subst e5
  injection he with e6 he
  injection e6 with e6 _ _
  subst e6
  injection he with e7 he
  injection e7 with e7 _ _
  subst e7
  exact ⟨_, _, _, _, _, _, _, _, _, _, _, _, rfl, Lib.hid ⟨Kn.C_mono (fun _ _ => trivial) q2, Kn.C_mono (fun _ _ => trivial) q3, Kn.C_mono (fun _ _ => trivial) q4, Kn.C_mono (fun _ _ => trivial) q5, Kn.C_mono (fun _ _ => trivial) q6, Kn.C_mono (fun _ _ => trivial) q7⟩, hb⟩
theorem szRouteC {ok : Nat → Prop} (x : Route) (A2 A3 A4 A5 A6 A7 : Option Addr) (c2 c3 c4 c5 c6 c7 : Nat) (left : Int) (w : World) (h : RC w ok x A2 A3 A4 A5 A6 A7) (h0 : 0 ≤ left) (h1 : left ≤ 1048576) :
    Calls Try.prog 28 #[.agg #[.int .i64 x.frm, .int .i64 x.til, .slice A2 x.steps.length c2, .slice A3 x.lies.length c3, .slice A4 x.crosses.length c4, .slice A5 x.parts.length c5, .slice A6 x.over.length c6, .slice A7 x.flanks.length c7], .int .i64 left] w (RetI (cut (left - (x.n : Nat))) w) := szRoute x _ _ A2 A3 A4 A5 A6 A7 c2 c3 c4 c5 c6 c7 h.h2.1 h.h3.1 h.h4.1 h.h5.1 h.h6.1 h.h7.1 left w h0 h1
theorem toRouteC {ok : Nat → Prop} (x : Route) (A2 A3 A4 A5 A6 A7 : Option Addr) (c2 c3 c4 c5 c6 c7 : Nat) (w : World) (h : RC w ok x A2 A3 A4 A5 A6 A7) (hn : x.n ≤ 1048576) :
    Calls Try.prog 30 #[.agg #[.int .i64 x.frm, .int .i64 x.til, .slice A2 x.steps.length c2, .slice A3 x.lies.length c3, .slice A4 x.crosses.length c4, .slice A5 x.parts.length c5, .slice A6 x.over.length c6, .slice A7 x.flanks.length c7]] w (RetRoute x w) := toRoute x A2 A3 A4 A5 A6 A7 c2 c3 c4 c5 c6 c7 w h.h2 h.h3 h.h4 h.h5 h.h6 h.h7 hn
theorem eqRouteC {ok ok' : Nat → Prop} (x y : Route) (A2 A3 A4 A5 A6 A7 : Option Addr) (c2 c3 c4 c5 c6 c7 : Nat) (B2 B3 B4 B5 B6 B7 : Option Addr) (d2 d3 d4 d5 d6 d7 : Nat) (w : World) (h : RC w ok x A2 A3 A4 A5 A6 A7) (h' : RC w ok' y B2 B3 B4 B5 B6 B7) :
    Calls Try.prog 32 #[.agg #[.int .i64 x.frm, .int .i64 x.til, .slice A2 x.steps.length c2, .slice A3 x.lies.length c3, .slice A4 x.crosses.length c4, .slice A5 x.parts.length c5, .slice A6 x.over.length c6, .slice A7 x.flanks.length c7], .agg #[.int .i64 y.frm, .int .i64 y.til, .slice B2 y.steps.length d2, .slice B3 y.lies.length d3, .slice B4 y.crosses.length d4, .slice B5 y.parts.length d5, .slice B6 y.over.length d6, .slice B7 y.flanks.length d7]] w (RetB (eqv x y) w) := eqRoute x y A2 A3 A4 A5 A6 A7 B2 B3 B4 B5 B6 B7 c2 c3 c4 c5 c6 c7 d2 d3 d4 d5 d6 d7 w h.h2 h.h3 h.h4 h.h5 h.h6 h.h7 h'.h2 h'.h3 h'.h4 h'.h5 h'.h6 h'.h7
theorem specExcludeC {ok : Nat → Prop} (a b : Route) (A2 A3 A4 A5 A6 A7 : Option Addr) (c2 c3 c4 c5 c6 c7 : Nat) (B2 B3 B4 B5 B6 B7 : Option Addr) (d2 d3 d4 d5 d6 d7 : Nat) (w : World) (h : RC w ok a A2 A3 A4 A5 A6 A7) (h' : RC w ok b B2 B3 B4 B5 B6 B7) (la : a.n ≤ 1048576) (lb : b.n ≤ 1048576) :
    Calls Try.prog 29 #[.agg #[.int .i64 a.frm, .int .i64 a.til, .slice A2 a.steps.length c2, .slice A3 a.lies.length c3, .slice A4 a.crosses.length c4, .slice A5 a.parts.length c5, .slice A6 a.over.length c6, .slice A7 a.flanks.length c7], .agg #[.int .i64 b.frm, .int .i64 b.til, .slice B2 b.steps.length d2, .slice B3 b.lies.length d3, .slice B4 b.crosses.length d4, .slice B5 b.parts.length d5, .slice B6 b.over.length d6, .slice B7 b.flanks.length d7]] w (RetI (excl a b) w) := by
  unfold Route.n at la lb
  exact specExclude a b _ _ _ _ _ _ A3 A4 A5 A6 A7 B3 B4 B5 B6 B7 c3 c4 c5 c6 c7 d3 d4 d5 d6 d7 w h.h3 h.h4 h.h5 h.h6 h.h7 h'.h3 h'.h4 h'.h5 h'.h6 h'.h7 (by omega) (by omega) (by omega) (by omega)
theorem implExcludeC {ok : Nat → Prop} (a b : Route) (A2 A3 A4 A5 A6 A7 : Option Addr) (c2 c3 c4 c5 c6 c7 : Nat) (B2 B3 B4 B5 B6 B7 : Option Addr) (d2 d3 d4 d5 d6 d7 : Nat) (w : World) (h : RC w ok a A2 A3 A4 A5 A6 A7) (h' : RC w ok b B2 B3 B4 B5 B6 B7) (la : a.n ≤ 1048576) (lb : b.n ≤ 1048576) :
    Calls Try.prog 31 #[.agg #[.int .i64 a.frm, .int .i64 a.til, .slice A2 a.steps.length c2, .slice A3 a.lies.length c3, .slice A4 a.crosses.length c4, .slice A5 a.parts.length c5, .slice A6 a.over.length c6, .slice A7 a.flanks.length c7], .agg #[.int .i64 b.frm, .int .i64 b.til, .slice B2 b.steps.length d2, .slice B3 b.lies.length d3, .slice B4 b.crosses.length d4, .slice B5 b.parts.length d5, .slice B6 b.over.length d6, .slice B7 b.flanks.length d7]] w (RetI (excl a b) w) := by
  unfold Route.n at la lb
  exact implExclude a b _ _ _ _ _ _ A3 A4 A5 A6 A7 B3 B4 B5 B6 B7 c3 c4 c5 c6 c7 d3 d4 d5 d6 d7 w h.h3 h.h4 h.h5 h.h6 h.h7 h'.h3 h'.h4 h'.h5 h'.h6 h'.h7 (by omega) (by omega) (by omega) (by omega)
end Go.Proofs.Ytginpmhjpjcahaa.L
