/- The program's structs as Lean structures; what their cells are; what an element of a slice of them reads as. Lemmas alone. -/
import Derived.Test.YtginpmhjpjcahaaLib
namespace Go.Proofs.Ytginpmhjpjcahaa.L
open Go.RowKit
set_option linter.unusedVariables false
/-- Are the two equal? (A Bool that no walk looks into.) -/
noncomputable def eqv {α : Type} (x y : α) : Bool := @decide (x = y) (Classical.propDecidable _)
theorem eqv_true {α : Type} {x y : α} (h : x = y) : eqv x y = true := by unfold eqv; exact @decide_eq_true _ (Classical.propDecidable _) h
theorem eqv_false {α : Type} {x y : α} (h : ¬ x = y) : eqv x y = false := by unfold eqv; exact @decide_eq_false _ (Classical.propDecidable _) h
theorem eqv_self {α : Type} (x : α) : eqv x x = true := eqv_true rfl
theorem of_eqv {α : Type} {x y : α} (h : eqv x y = true) : x = y := by unfold eqv at h; exact @of_decide_eq_true _ (Classical.propDecidable _) h
structure Piece where
  name : ByteArray
  len : Int
  speed : Int
  brake : Int
def pieceK : Kn Piece := Kn.iso (Kn.pair Kn.str (Kn.pair Kn.int (Kn.pair Kn.int Kn.int))) (fun x => (x.name, x.len, x.speed, x.brake))
/-- Its cells. -/
abbrev Piece.cs (x : Piece) : List Value := [.string x.name, .int .i64 x.len, .int .i64 x.speed, .int .i64 x.brake]
/-- As a value. -/
abbrev Piece.v (x : Piece) : Value := .agg #[.string x.name, .int .i64 x.len, .int .i64 x.speed, .int .i64 x.brake]
theorem pieceK_open {w : World} {ok : Nat → Prop} {x : Piece} {cs : List Value} (h : pieceK.K w ok x cs) : cs = x.cs := by
  obtain ⟨_, _, rfl, rfl, ⟨_, _, rfl, rfl, ⟨_, _, rfl, rfl, rfl⟩⟩⟩ := h
  rfl
theorem pieceK_mk (w : World) (ok : Nat → Prop) (x : Piece) : pieceK.K w ok x x.cs := ⟨_, _, rfl, rfl, ⟨_, _, rfl, rfl, ⟨_, _, rfl, rfl, rfl⟩⟩⟩
theorem pieceK_own (w : World) (x : Piece) : pieceK.O w x x.cs [] := ⟨_, _, [], [], rfl, rfl, ⟨rfl, rfl⟩, ⟨_, _, [], [], rfl, rfl, ⟨rfl, rfl⟩, ⟨_, _, [], [], rfl, rfl, ⟨rfl, rfl⟩, ⟨rfl, rfl⟩, List.nodup_nil⟩, List.nodup_nil⟩, List.nodup_nil⟩
theorem pieceK_O {w : World} {x : Piece} {cs : List Value} {F : List Nat} (h : pieceK.O w x cs F) : cs = x.cs ∧ F = [] := by
  obtain ⟨_, _, _, _, rfl, rfl, ⟨rfl, rfl⟩, ⟨_, _, _, _, rfl, rfl, ⟨rfl, rfl⟩, ⟨_, _, _, _, rfl, rfl, ⟨rfl, rfl⟩, ⟨rfl, rfl⟩, _⟩, _⟩, _⟩ := h
  exact ⟨rfl, rfl⟩
theorem pieceK_at {w : World} {ok : Nat → Prop} {A : Option Addr} {xs : List Piece} (h : pieceK.C w ok A xs) (k : Nat) (hk : k < xs.length) : ∃ ad, A = some ad ∧ ∃ y0 y1 y2 y3, Hid (xs[k]? = some ⟨y0, y1, y2, y3⟩) ∧ w.cell? (ad.add (k * 4)) = some (.string y0) ∧ w.cell? ⟨(ad.add (k * 4)).block, (ad.add (k * 4)).off + 1, none⟩ = some (.int .i64 y1) ∧ w.cell? ⟨(ad.add (k * 4)).block, (ad.add (k * 4)).off + 2, none⟩ = some (.int .i64 y2) ∧ w.cell? ⟨(ad.add (k * 4)).block, (ad.add (k * 4)).off + 3, none⟩ = some (.int .i64 y3) := by
  obtain ⟨ad, x, c, e, _, hx, hkk, hc⟩ := Kn.C_at h k hk
  obtain rfl := pieceK_open hkk
  refine ⟨ad, e, _, _, _, _, Lib.hid hx, hc 0 _ rfl, by rw [← add_field _ _ 1 (by omega)]; exact hc 1 _ rfl, by rw [← add_field _ _ 2 (by omega)]; exact hc 2 _ rfl, by rw [← add_field _ _ 3 (by omega)]; exact hc 3 _ rfl⟩
structure End where
  piece : Int
  side : Int
def endK : Kn End := Kn.iso (Kn.pair Kn.int Kn.int) (fun x => (x.piece, x.side))
/-- Its cells. -/
abbrev End.cs (x : End) : List Value := [.int .i64 x.piece, .int .i64 x.side]
/-- As a value. -/
abbrev End.v (x : End) : Value := .agg #[.int .i64 x.piece, .int .i64 x.side]
theorem endK_open {w : World} {ok : Nat → Prop} {x : End} {cs : List Value} (h : endK.K w ok x cs) : cs = x.cs := by
  obtain ⟨_, _, rfl, rfl, rfl⟩ := h
  rfl
theorem endK_mk (w : World) (ok : Nat → Prop) (x : End) : endK.K w ok x x.cs := ⟨_, _, rfl, rfl, rfl⟩
theorem endK_own (w : World) (x : End) : endK.O w x x.cs [] := ⟨_, _, [], [], rfl, rfl, ⟨rfl, rfl⟩, ⟨rfl, rfl⟩, List.nodup_nil⟩
theorem endK_O {w : World} {x : End} {cs : List Value} {F : List Nat} (h : endK.O w x cs F) : cs = x.cs ∧ F = [] := by
  obtain ⟨_, _, _, _, rfl, rfl, ⟨rfl, rfl⟩, ⟨rfl, rfl⟩, _⟩ := h
  exact ⟨rfl, rfl⟩
theorem endK_at {w : World} {ok : Nat → Prop} {A : Option Addr} {xs : List End} (h : endK.C w ok A xs) (k : Nat) (hk : k < xs.length) : ∃ ad, A = some ad ∧ ∃ y0 y1, Hid (xs[k]? = some ⟨y0, y1⟩) ∧ w.cell? (ad.add (k * 2)) = some (.int .i64 y0) ∧ w.cell? ⟨(ad.add (k * 2)).block, (ad.add (k * 2)).off + 1, none⟩ = some (.int .i64 y1) := by
  obtain ⟨ad, x, c, e, _, hx, hkk, hc⟩ := Kn.C_at h k hk
  obtain rfl := endK_open hkk
  refine ⟨ad, e, _, _, Lib.hid hx, hc 0 _ rfl, by rw [← add_field _ _ 1 (by omega)]; exact hc 1 _ rfl⟩
structure Signal where
  name : ByteArray
  piece : Int
  at_ : Int
  way : Int
def signalK : Kn Signal := Kn.iso (Kn.pair Kn.str (Kn.pair Kn.int (Kn.pair Kn.int Kn.int))) (fun x => (x.name, x.piece, x.at_, x.way))
/-- Its cells. -/
abbrev Signal.cs (x : Signal) : List Value := [.string x.name, .int .i64 x.piece, .int .i64 x.at_, .int .i64 x.way]
/-- As a value. -/
abbrev Signal.v (x : Signal) : Value := .agg #[.string x.name, .int .i64 x.piece, .int .i64 x.at_, .int .i64 x.way]
theorem signalK_open {w : World} {ok : Nat → Prop} {x : Signal} {cs : List Value} (h : signalK.K w ok x cs) : cs = x.cs := by
  obtain ⟨_, _, rfl, rfl, ⟨_, _, rfl, rfl, ⟨_, _, rfl, rfl, rfl⟩⟩⟩ := h
  rfl
theorem signalK_mk (w : World) (ok : Nat → Prop) (x : Signal) : signalK.K w ok x x.cs := ⟨_, _, rfl, rfl, ⟨_, _, rfl, rfl, ⟨_, _, rfl, rfl, rfl⟩⟩⟩
theorem signalK_own (w : World) (x : Signal) : signalK.O w x x.cs [] := ⟨_, _, [], [], rfl, rfl, ⟨rfl, rfl⟩, ⟨_, _, [], [], rfl, rfl, ⟨rfl, rfl⟩, ⟨_, _, [], [], rfl, rfl, ⟨rfl, rfl⟩, ⟨rfl, rfl⟩, List.nodup_nil⟩, List.nodup_nil⟩, List.nodup_nil⟩
theorem signalK_O {w : World} {x : Signal} {cs : List Value} {F : List Nat} (h : signalK.O w x cs F) : cs = x.cs ∧ F = [] := by
  obtain ⟨_, _, _, _, rfl, rfl, ⟨rfl, rfl⟩, ⟨_, _, _, _, rfl, rfl, ⟨rfl, rfl⟩, ⟨_, _, _, _, rfl, rfl, ⟨rfl, rfl⟩, ⟨rfl, rfl⟩, _⟩, _⟩, _⟩ := h
  exact ⟨rfl, rfl⟩
theorem signalK_at {w : World} {ok : Nat → Prop} {A : Option Addr} {xs : List Signal} (h : signalK.C w ok A xs) (k : Nat) (hk : k < xs.length) : ∃ ad, A = some ad ∧ ∃ y0 y1 y2 y3, Hid (xs[k]? = some ⟨y0, y1, y2, y3⟩) ∧ w.cell? (ad.add (k * 4)) = some (.string y0) ∧ w.cell? ⟨(ad.add (k * 4)).block, (ad.add (k * 4)).off + 1, none⟩ = some (.int .i64 y1) ∧ w.cell? ⟨(ad.add (k * 4)).block, (ad.add (k * 4)).off + 2, none⟩ = some (.int .i64 y2) ∧ w.cell? ⟨(ad.add (k * 4)).block, (ad.add (k * 4)).off + 3, none⟩ = some (.int .i64 y3) := by
  obtain ⟨ad, x, c, e, _, hx, hkk, hc⟩ := Kn.C_at h k hk
  obtain rfl := signalK_open hkk
  refine ⟨ad, e, _, _, _, _, Lib.hid hx, hc 0 _ rfl, by rw [← add_field _ _ 1 (by omega)]; exact hc 1 _ rfl, by rw [← add_field _ _ 2 (by omega)]; exact hc 2 _ rfl, by rw [← add_field _ _ 3 (by omega)]; exact hc 3 _ rfl⟩
structure Step where
  piece : Int
  way : Int
def stepK : Kn Step := Kn.iso (Kn.pair Kn.int Kn.int) (fun x => (x.piece, x.way))
/-- Its cells. -/
abbrev Step.cs (x : Step) : List Value := [.int .i64 x.piece, .int .i64 x.way]
/-- As a value. -/
abbrev Step.v (x : Step) : Value := .agg #[.int .i64 x.piece, .int .i64 x.way]
theorem stepK_open {w : World} {ok : Nat → Prop} {x : Step} {cs : List Value} (h : stepK.K w ok x cs) : cs = x.cs := by
  obtain ⟨_, _, rfl, rfl, rfl⟩ := h
  rfl
theorem stepK_mk (w : World) (ok : Nat → Prop) (x : Step) : stepK.K w ok x x.cs := ⟨_, _, rfl, rfl, rfl⟩
theorem stepK_own (w : World) (x : Step) : stepK.O w x x.cs [] := ⟨_, _, [], [], rfl, rfl, ⟨rfl, rfl⟩, ⟨rfl, rfl⟩, List.nodup_nil⟩
theorem stepK_O {w : World} {x : Step} {cs : List Value} {F : List Nat} (h : stepK.O w x cs F) : cs = x.cs ∧ F = [] := by
  obtain ⟨_, _, _, _, rfl, rfl, ⟨rfl, rfl⟩, ⟨rfl, rfl⟩, _⟩ := h
  exact ⟨rfl, rfl⟩
theorem stepK_at {w : World} {ok : Nat → Prop} {A : Option Addr} {xs : List Step} (h : stepK.C w ok A xs) (k : Nat) (hk : k < xs.length) : ∃ ad, A = some ad ∧ ∃ y0 y1, Hid (xs[k]? = some ⟨y0, y1⟩) ∧ w.cell? (ad.add (k * 2)) = some (.int .i64 y0) ∧ w.cell? ⟨(ad.add (k * 2)).block, (ad.add (k * 2)).off + 1, none⟩ = some (.int .i64 y1) := by
  obtain ⟨ad, x, c, e, _, hx, hkk, hc⟩ := Kn.C_at h k hk
  obtain rfl := stepK_open hkk
  refine ⟨ad, e, _, _, Lib.hid hx, hc 0 _ rfl, by rw [← add_field _ _ 1 (by omega)]; exact hc 1 _ rfl⟩
structure Lie where
  joint : Int
  lie : Int
def lieK : Kn Lie := Kn.iso (Kn.pair Kn.int Kn.int) (fun x => (x.joint, x.lie))
/-- Its cells. -/
abbrev Lie.cs (x : Lie) : List Value := [.int .i64 x.joint, .int .i64 x.lie]
/-- As a value. -/
abbrev Lie.v (x : Lie) : Value := .agg #[.int .i64 x.joint, .int .i64 x.lie]
theorem lieK_open {w : World} {ok : Nat → Prop} {x : Lie} {cs : List Value} (h : lieK.K w ok x cs) : cs = x.cs := by
  obtain ⟨_, _, rfl, rfl, rfl⟩ := h
  rfl
theorem lieK_mk (w : World) (ok : Nat → Prop) (x : Lie) : lieK.K w ok x x.cs := ⟨_, _, rfl, rfl, rfl⟩
theorem lieK_own (w : World) (x : Lie) : lieK.O w x x.cs [] := ⟨_, _, [], [], rfl, rfl, ⟨rfl, rfl⟩, ⟨rfl, rfl⟩, List.nodup_nil⟩
theorem lieK_O {w : World} {x : Lie} {cs : List Value} {F : List Nat} (h : lieK.O w x cs F) : cs = x.cs ∧ F = [] := by
  obtain ⟨_, _, _, _, rfl, rfl, ⟨rfl, rfl⟩, ⟨rfl, rfl⟩, _⟩ := h
  exact ⟨rfl, rfl⟩
theorem lieK_at {w : World} {ok : Nat → Prop} {A : Option Addr} {xs : List Lie} (h : lieK.C w ok A xs) (k : Nat) (hk : k < xs.length) : ∃ ad, A = some ad ∧ ∃ y0 y1, Hid (xs[k]? = some ⟨y0, y1⟩) ∧ w.cell? (ad.add (k * 2)) = some (.int .i64 y0) ∧ w.cell? ⟨(ad.add (k * 2)).block, (ad.add (k * 2)).off + 1, none⟩ = some (.int .i64 y1) := by
  obtain ⟨ad, x, c, e, _, hx, hkk, hc⟩ := Kn.C_at h k hk
  obtain rfl := lieK_open hkk
  refine ⟨ad, e, _, _, Lib.hid hx, hc 0 _ rfl, by rw [← add_field _ _ 1 (by omega)]; exact hc 1 _ rfl⟩
structure Part where
  piece : Int
  frm : Int
  til : Int
def partK : Kn Part := Kn.iso (Kn.pair Kn.int (Kn.pair Kn.int Kn.int)) (fun x => (x.piece, x.frm, x.til))
/-- Its cells. -/
abbrev Part.cs (x : Part) : List Value := [.int .i64 x.piece, .int .i64 x.frm, .int .i64 x.til]
/-- As a value. -/
abbrev Part.v (x : Part) : Value := .agg #[.int .i64 x.piece, .int .i64 x.frm, .int .i64 x.til]
theorem partK_open {w : World} {ok : Nat → Prop} {x : Part} {cs : List Value} (h : partK.K w ok x cs) : cs = x.cs := by
  obtain ⟨_, _, rfl, rfl, ⟨_, _, rfl, rfl, rfl⟩⟩ := h
  rfl
theorem partK_mk (w : World) (ok : Nat → Prop) (x : Part) : partK.K w ok x x.cs := ⟨_, _, rfl, rfl, ⟨_, _, rfl, rfl, rfl⟩⟩
theorem partK_own (w : World) (x : Part) : partK.O w x x.cs [] := ⟨_, _, [], [], rfl, rfl, ⟨rfl, rfl⟩, ⟨_, _, [], [], rfl, rfl, ⟨rfl, rfl⟩, ⟨rfl, rfl⟩, List.nodup_nil⟩, List.nodup_nil⟩
theorem partK_O {w : World} {x : Part} {cs : List Value} {F : List Nat} (h : partK.O w x cs F) : cs = x.cs ∧ F = [] := by
  obtain ⟨_, _, _, _, rfl, rfl, ⟨rfl, rfl⟩, ⟨_, _, _, _, rfl, rfl, ⟨rfl, rfl⟩, ⟨rfl, rfl⟩, _⟩, _⟩ := h
  exact ⟨rfl, rfl⟩
theorem partK_at {w : World} {ok : Nat → Prop} {A : Option Addr} {xs : List Part} (h : partK.C w ok A xs) (k : Nat) (hk : k < xs.length) : ∃ ad, A = some ad ∧ ∃ y0 y1 y2, Hid (xs[k]? = some ⟨y0, y1, y2⟩) ∧ w.cell? (ad.add (k * 3)) = some (.int .i64 y0) ∧ w.cell? ⟨(ad.add (k * 3)).block, (ad.add (k * 3)).off + 1, none⟩ = some (.int .i64 y1) ∧ w.cell? ⟨(ad.add (k * 3)).block, (ad.add (k * 3)).off + 2, none⟩ = some (.int .i64 y2) := by
  obtain ⟨ad, x, c, e, _, hx, hkk, hc⟩ := Kn.C_at h k hk
  obtain rfl := partK_open hkk
  refine ⟨ad, e, _, _, _, Lib.hid hx, hc 0 _ rfl, by rw [← add_field _ _ 1 (by omega)]; exact hc 1 _ rfl, by rw [← add_field _ _ 2 (by omega)]; exact hc 2 _ rfl⟩
structure Flank where
  at_ : Int
  kind : Int
  of_ : Int
  lie : Int
def flankK : Kn Flank := Kn.iso (Kn.pair Kn.int (Kn.pair Kn.int (Kn.pair Kn.int Kn.int))) (fun x => (x.at_, x.kind, x.of_, x.lie))
/-- Its cells. -/
abbrev Flank.cs (x : Flank) : List Value := [.int .i64 x.at_, .int .i64 x.kind, .int .i64 x.of_, .int .i64 x.lie]
/-- As a value. -/
abbrev Flank.v (x : Flank) : Value := .agg #[.int .i64 x.at_, .int .i64 x.kind, .int .i64 x.of_, .int .i64 x.lie]
theorem flankK_open {w : World} {ok : Nat → Prop} {x : Flank} {cs : List Value} (h : flankK.K w ok x cs) : cs = x.cs := by
  obtain ⟨_, _, rfl, rfl, ⟨_, _, rfl, rfl, ⟨_, _, rfl, rfl, rfl⟩⟩⟩ := h
  rfl
theorem flankK_mk (w : World) (ok : Nat → Prop) (x : Flank) : flankK.K w ok x x.cs := ⟨_, _, rfl, rfl, ⟨_, _, rfl, rfl, ⟨_, _, rfl, rfl, rfl⟩⟩⟩
theorem flankK_own (w : World) (x : Flank) : flankK.O w x x.cs [] := ⟨_, _, [], [], rfl, rfl, ⟨rfl, rfl⟩, ⟨_, _, [], [], rfl, rfl, ⟨rfl, rfl⟩, ⟨_, _, [], [], rfl, rfl, ⟨rfl, rfl⟩, ⟨rfl, rfl⟩, List.nodup_nil⟩, List.nodup_nil⟩, List.nodup_nil⟩
theorem flankK_O {w : World} {x : Flank} {cs : List Value} {F : List Nat} (h : flankK.O w x cs F) : cs = x.cs ∧ F = [] := by
  obtain ⟨_, _, _, _, rfl, rfl, ⟨rfl, rfl⟩, ⟨_, _, _, _, rfl, rfl, ⟨rfl, rfl⟩, ⟨_, _, _, _, rfl, rfl, ⟨rfl, rfl⟩, ⟨rfl, rfl⟩, _⟩, _⟩, _⟩ := h
  exact ⟨rfl, rfl⟩
theorem flankK_at {w : World} {ok : Nat → Prop} {A : Option Addr} {xs : List Flank} (h : flankK.C w ok A xs) (k : Nat) (hk : k < xs.length) : ∃ ad, A = some ad ∧ ∃ y0 y1 y2 y3, Hid (xs[k]? = some ⟨y0, y1, y2, y3⟩) ∧ w.cell? (ad.add (k * 4)) = some (.int .i64 y0) ∧ w.cell? ⟨(ad.add (k * 4)).block, (ad.add (k * 4)).off + 1, none⟩ = some (.int .i64 y1) ∧ w.cell? ⟨(ad.add (k * 4)).block, (ad.add (k * 4)).off + 2, none⟩ = some (.int .i64 y2) ∧ w.cell? ⟨(ad.add (k * 4)).block, (ad.add (k * 4)).off + 3, none⟩ = some (.int .i64 y3) := by
  obtain ⟨ad, x, c, e, _, hx, hkk, hc⟩ := Kn.C_at h k hk
  obtain rfl := flankK_open hkk
  refine ⟨ad, e, _, _, _, _, Lib.hid hx, hc 0 _ rfl, by rw [← add_field _ _ 1 (by omega)]; exact hc 1 _ rfl, by rw [← add_field _ _ 2 (by omega)]; exact hc 2 _ rfl, by rw [← add_field _ _ 3 (by omega)]; exact hc 3 _ rfl⟩
structure Fault where
  code : Int
  at_ : Int
def faultK : Kn Fault := Kn.iso (Kn.pair Kn.int Kn.int) (fun x => (x.code, x.at_))
/-- Its cells. -/
abbrev Fault.cs (x : Fault) : List Value := [.int .i64 x.code, .int .i64 x.at_]
/-- As a value. -/
abbrev Fault.v (x : Fault) : Value := .agg #[.int .i64 x.code, .int .i64 x.at_]
theorem faultK_open {w : World} {ok : Nat → Prop} {x : Fault} {cs : List Value} (h : faultK.K w ok x cs) : cs = x.cs := by
  obtain ⟨_, _, rfl, rfl, rfl⟩ := h
  rfl
theorem faultK_mk (w : World) (ok : Nat → Prop) (x : Fault) : faultK.K w ok x x.cs := ⟨_, _, rfl, rfl, rfl⟩
theorem faultK_own (w : World) (x : Fault) : faultK.O w x x.cs [] := ⟨_, _, [], [], rfl, rfl, ⟨rfl, rfl⟩, ⟨rfl, rfl⟩, List.nodup_nil⟩
theorem faultK_O {w : World} {x : Fault} {cs : List Value} {F : List Nat} (h : faultK.O w x cs F) : cs = x.cs ∧ F = [] := by
  obtain ⟨_, _, _, _, rfl, rfl, ⟨rfl, rfl⟩, ⟨rfl, rfl⟩, _⟩ := h
  exact ⟨rfl, rfl⟩
theorem faultK_at {w : World} {ok : Nat → Prop} {A : Option Addr} {xs : List Fault} (h : faultK.C w ok A xs) (k : Nat) (hk : k < xs.length) : ∃ ad, A = some ad ∧ ∃ y0 y1, Hid (xs[k]? = some ⟨y0, y1⟩) ∧ w.cell? (ad.add (k * 2)) = some (.int .i64 y0) ∧ w.cell? ⟨(ad.add (k * 2)).block, (ad.add (k * 2)).off + 1, none⟩ = some (.int .i64 y1) := by
  obtain ⟨ad, x, c, e, _, hx, hkk, hc⟩ := Kn.C_at h k hk
  obtain rfl := faultK_open hkk
  refine ⟨ad, e, _, _, Lib.hid hx, hc 0 _ rfl, by rw [← add_field _ _ 1 (by omega)]; exact hc 1 _ rfl⟩
structure Wrong where
  code : Int
  a : Int
  b : Int
def wrongK : Kn Wrong := Kn.iso (Kn.pair Kn.int (Kn.pair Kn.int Kn.int)) (fun x => (x.code, x.a, x.b))
/-- Its cells. -/
abbrev Wrong.cs (x : Wrong) : List Value := [.int .i64 x.code, .int .i64 x.a, .int .i64 x.b]
/-- As a value. -/
abbrev Wrong.v (x : Wrong) : Value := .agg #[.int .i64 x.code, .int .i64 x.a, .int .i64 x.b]
theorem wrongK_open {w : World} {ok : Nat → Prop} {x : Wrong} {cs : List Value} (h : wrongK.K w ok x cs) : cs = x.cs := by
  obtain ⟨_, _, rfl, rfl, ⟨_, _, rfl, rfl, rfl⟩⟩ := h
  rfl
theorem wrongK_mk (w : World) (ok : Nat → Prop) (x : Wrong) : wrongK.K w ok x x.cs := ⟨_, _, rfl, rfl, ⟨_, _, rfl, rfl, rfl⟩⟩
theorem wrongK_own (w : World) (x : Wrong) : wrongK.O w x x.cs [] := ⟨_, _, [], [], rfl, rfl, ⟨rfl, rfl⟩, ⟨_, _, [], [], rfl, rfl, ⟨rfl, rfl⟩, ⟨rfl, rfl⟩, List.nodup_nil⟩, List.nodup_nil⟩
theorem wrongK_O {w : World} {x : Wrong} {cs : List Value} {F : List Nat} (h : wrongK.O w x cs F) : cs = x.cs ∧ F = [] := by
  obtain ⟨_, _, _, _, rfl, rfl, ⟨rfl, rfl⟩, ⟨_, _, _, _, rfl, rfl, ⟨rfl, rfl⟩, ⟨rfl, rfl⟩, _⟩, _⟩ := h
  exact ⟨rfl, rfl⟩
theorem wrongK_at {w : World} {ok : Nat → Prop} {A : Option Addr} {xs : List Wrong} (h : wrongK.C w ok A xs) (k : Nat) (hk : k < xs.length) : ∃ ad, A = some ad ∧ ∃ y0 y1 y2, Hid (xs[k]? = some ⟨y0, y1, y2⟩) ∧ w.cell? (ad.add (k * 3)) = some (.int .i64 y0) ∧ w.cell? ⟨(ad.add (k * 3)).block, (ad.add (k * 3)).off + 1, none⟩ = some (.int .i64 y1) ∧ w.cell? ⟨(ad.add (k * 3)).block, (ad.add (k * 3)).off + 2, none⟩ = some (.int .i64 y2) := by
  obtain ⟨ad, x, c, e, _, hx, hkk, hc⟩ := Kn.C_at h k hk
  obtain rfl := wrongK_open hkk
  refine ⟨ad, e, _, _, _, Lib.hid hx, hc 0 _ rfl, by rw [← add_field _ _ 1 (by omega)]; exact hc 1 _ rfl, by rw [← add_field _ _ 2 (by omega)]; exact hc 2 _ rfl⟩
theorem int_at {w : World} {ok : Nat → Prop} {A : Option Addr} {xs : List Int} (h : Kn.int.C w ok A xs) (k : Nat) (hk : k < xs.length) : ∃ ad, A = some ad ∧ ∃ y, Hid (xs[k]? = some y) ∧ w.cell? (ad.add k) = some (.int .i64 y) := by
  obtain ⟨ad, x, c, e, _, hx, rfl, hc⟩ := Kn.C_at h k hk
  exact ⟨ad, e, _, Lib.hid hx, by have := hc 0 _ rfl; rwa [show k * Kn.int.sz + 0 = k from by show k * 1 + 0 = k; omega] at this⟩
structure Joint where
  kind : Int
  name : ByteArray
  ends : List End
def jointK (eE : Nat) : Kn Joint := Kn.iso (Kn.pair Kn.int (Kn.pair Kn.str (Kn.slice eE endK))) (fun x => (x.kind, x.name, x.ends))
theorem jointK_open {eE : Nat} {w : World} {ok : Nat → Prop} {x : Joint} {cs : List Value} (h : (jointK eE).K w ok x cs) : ∃ A0 c0, cs = [.int .i64 x.kind, .string x.name, .slice A0 x.ends.length c0] ∧ x.ends.length ≤ c0 ∧ endK.C w ok A0 x.ends := by
  obtain ⟨_, _, rfl, rfl, ⟨_, _, rfl, rfl, ⟨A0, c0, rfl, l0, h0⟩⟩⟩ := h
  exact ⟨A0, c0, rfl, l0, h0⟩
theorem jointK_mk {eE : Nat} {w : World} {ok : Nat → Prop} {x : Joint} {A0 : Option Addr} {c0 : Nat} (l0 : x.ends.length ≤ c0) (h0 : endK.C w ok A0 x.ends) : (jointK eE).K w ok x [.int .i64 x.kind, .string x.name, .slice A0 x.ends.length c0] := ⟨_, _, rfl, rfl, ⟨_, _, rfl, rfl, ⟨A0, c0, rfl, l0, h0⟩⟩⟩
theorem jointK_at {eE : Nat} {w : World} {ok : Nat → Prop} {A : Option Addr} {xs : List Joint} (h : (jointK eE).C w ok A xs) (k : Nat) (hk : k < xs.length) : ∃ ad, A = some ad ∧ ∃ x, Hid (xs[k]? = some x) ∧ ∃ A0 c0, w.cell? (ad.add (k * 3)) = some (.int .i64 x.kind) ∧ w.cell? ⟨(ad.add (k * 3)).block, (ad.add (k * 3)).off + 1, none⟩ = some (.string x.name) ∧ w.cell? ⟨(ad.add (k * 3)).block, (ad.add (k * 3)).off + 2, none⟩ = some (.slice A0 x.ends.length c0) ∧ x.ends.length ≤ c0 ∧ endK.C w ok A0 x.ends := by
  obtain ⟨ad, x, c, e, _, hx, hkk, hc⟩ := Kn.C_at h k hk
  obtain ⟨A0, c0, rfl, l0, h0⟩ := jointK_open hkk
  exact ⟨ad, e, x, Lib.hid hx, A0, c0, hc 0 _ rfl, by rw [← add_field _ _ 1 (by omega)]; exact hc 1 _ rfl, by rw [← add_field _ _ 2 (by omega)]; exact hc 2 _ rfl, l0, h0⟩
/-- A value that reads as one. -/
def JointV (eE : Nat) (w : World) (ok : Nat → Prop) (x : Joint) (v : Value) : Prop := ∃ A0 c0, v = .agg #[.int .i64 x.kind, .string x.name, .slice A0 x.ends.length c0] ∧ x.ends.length ≤ c0 ∧ endK.C w ok A0 x.ends
theorem JointV.below {eE : Nat} {w w1 : World} {ok : Nat → Prop} {x : Joint} {v : Value} (h : JointV eE w ok x v) (hb : Below w.heap.size w w1) : JointV eE w1 ok x v := by
  obtain ⟨A0, c0, rfl, l0, h0⟩ := h
  exact ⟨A0, c0, rfl, l0, Kn.C_below hb h0⟩
structure Net where
  pieces : List Piece
  joints : List Joint
def netK (eP eJ eE : Nat) : Kn Net := Kn.iso (Kn.pair (Kn.slice eP pieceK) (Kn.slice eJ (jointK eE))) (fun x => (x.pieces, x.joints))
theorem netK_open {eP eJ eE : Nat} {w : World} {ok : Nat → Prop} {x : Net} {cs : List Value} (h : (netK eP eJ eE).K w ok x cs) : ∃ A0 c0 A1 c1, cs = [.slice A0 x.pieces.length c0, .slice A1 x.joints.length c1] ∧ x.pieces.length ≤ c0 ∧ pieceK.C w ok A0 x.pieces ∧ x.joints.length ≤ c1 ∧ (jointK eE).C w ok A1 x.joints := by
  obtain ⟨_, _, rfl, ⟨A0, c0, rfl, l0, h0⟩, ⟨A1, c1, rfl, l1, h1⟩⟩ := h
  exact ⟨A0, c0, A1, c1, rfl, l0, h0, l1, h1⟩
theorem netK_mk {eP eJ eE : Nat} {w : World} {ok : Nat → Prop} {x : Net} {A0 : Option Addr} {c0 : Nat} {A1 : Option Addr} {c1 : Nat} (l0 : x.pieces.length ≤ c0) (h0 : pieceK.C w ok A0 x.pieces) (l1 : x.joints.length ≤ c1) (h1 : (jointK eE).C w ok A1 x.joints) : (netK eP eJ eE).K w ok x [.slice A0 x.pieces.length c0, .slice A1 x.joints.length c1] := ⟨_, _, rfl, ⟨A0, c0, rfl, l0, h0⟩, ⟨A1, c1, rfl, l1, h1⟩⟩
theorem netK_at {eP eJ eE : Nat} {w : World} {ok : Nat → Prop} {A : Option Addr} {xs : List Net} (h : (netK eP eJ eE).C w ok A xs) (k : Nat) (hk : k < xs.length) : ∃ ad, A = some ad ∧ ∃ x, Hid (xs[k]? = some x) ∧ ∃ A0 c0 A1 c1, w.cell? (ad.add (k * 2)) = some (.slice A0 x.pieces.length c0) ∧ w.cell? ⟨(ad.add (k * 2)).block, (ad.add (k * 2)).off + 1, none⟩ = some (.slice A1 x.joints.length c1) ∧ x.pieces.length ≤ c0 ∧ pieceK.C w ok A0 x.pieces ∧ x.joints.length ≤ c1 ∧ (jointK eE).C w ok A1 x.joints := by
  obtain ⟨ad, x, c, e, _, hx, hkk, hc⟩ := Kn.C_at h k hk
  obtain ⟨A0, c0, A1, c1, rfl, l0, h0, l1, h1⟩ := netK_open hkk
  exact ⟨ad, e, x, Lib.hid hx, A0, c0, A1, c1, hc 0 _ rfl, by rw [← add_field _ _ 1 (by omega)]; exact hc 1 _ rfl, l0, h0, l1, h1⟩
/-- A value that reads as one. -/
def NetV (eP eJ eE : Nat) (w : World) (ok : Nat → Prop) (x : Net) (v : Value) : Prop := ∃ A0 c0 A1 c1, v = .agg #[.slice A0 x.pieces.length c0, .slice A1 x.joints.length c1] ∧ x.pieces.length ≤ c0 ∧ pieceK.C w ok A0 x.pieces ∧ x.joints.length ≤ c1 ∧ (jointK eE).C w ok A1 x.joints
theorem NetV.below {eP eJ eE : Nat} {w w1 : World} {ok : Nat → Prop} {x : Net} {v : Value} (h : NetV eP eJ eE w ok x v) (hb : Below w.heap.size w w1) : NetV eP eJ eE w1 ok x v := by
  obtain ⟨A0, c0, A1, c1, rfl, l0, h0, l1, h1⟩ := h
  exact ⟨A0, c0, A1, c1, rfl, l0, Kn.C_below hb h0, l1, Kn.C_below hb h1⟩
structure Route where
  frm : Int
  til : Int
  steps : List Step
  lies : List Lie
  crosses : List Int
  parts : List Part
  over : List Part
  flanks : List Flank
def routeK (eS eL eI eP eF : Nat) : Kn Route := Kn.iso (Kn.pair Kn.int (Kn.pair Kn.int (Kn.pair (Kn.slice eS stepK) (Kn.pair (Kn.slice eL lieK) (Kn.pair (Kn.slice eI Kn.int) (Kn.pair (Kn.slice eP partK) (Kn.pair (Kn.slice eP partK) (Kn.slice eF flankK)))))))) (fun x => (x.frm, x.til, x.steps, x.lies, x.crosses, x.parts, x.over, x.flanks))
theorem routeK_open {eS eL eI eP eF : Nat} {w : World} {ok : Nat → Prop} {x : Route} {cs : List Value} (h : (routeK eS eL eI eP eF).K w ok x cs) : ∃ A0 c0 A1 c1 A2 c2 A3 c3 A4 c4 A5 c5, cs = [.int .i64 x.frm, .int .i64 x.til, .slice A0 x.steps.length c0, .slice A1 x.lies.length c1, .slice A2 x.crosses.length c2, .slice A3 x.parts.length c3, .slice A4 x.over.length c4, .slice A5 x.flanks.length c5] ∧ x.steps.length ≤ c0 ∧ stepK.C w ok A0 x.steps ∧ x.lies.length ≤ c1 ∧ lieK.C w ok A1 x.lies ∧ x.crosses.length ≤ c2 ∧ Kn.int.C w ok A2 x.crosses ∧ x.parts.length ≤ c3 ∧ partK.C w ok A3 x.parts ∧ x.over.length ≤ c4 ∧ partK.C w ok A4 x.over ∧ x.flanks.length ≤ c5 ∧ flankK.C w ok A5 x.flanks := by
  obtain ⟨_, _, rfl, rfl, ⟨_, _, rfl, rfl, ⟨_, _, rfl, ⟨A0, c0, rfl, l0, h0⟩, ⟨_, _, rfl, ⟨A1, c1, rfl, l1, h1⟩, ⟨_, _, rfl, ⟨A2, c2, rfl, l2, h2⟩, ⟨_, _, rfl, ⟨A3, c3, rfl, l3, h3⟩, ⟨_, _, rfl, ⟨A4, c4, rfl, l4, h4⟩, ⟨A5, c5, rfl, l5, h5⟩⟩⟩⟩⟩⟩⟩⟩ := h
  exact ⟨A0, c0, A1, c1, A2, c2, A3, c3, A4, c4, A5, c5, rfl, l0, h0, l1, h1, l2, h2, l3, h3, l4, h4, l5, h5⟩
theorem routeK_mk {eS eL eI eP eF : Nat} {w : World} {ok : Nat → Prop} {x : Route} {A0 : Option Addr} {c0 : Nat} {A1 : Option Addr} {c1 : Nat} {A2 : Option Addr} {c2 : Nat} {A3 : Option Addr} {c3 : Nat} {A4 : Option Addr} {c4 : Nat} {A5 : Option Addr} {c5 : Nat} (l0 : x.steps.length ≤ c0) (h0 : stepK.C w ok A0 x.steps) (l1 : x.lies.length ≤ c1) (h1 : lieK.C w ok A1 x.lies) (l2 : x.crosses.length ≤ c2) (h2 : Kn.int.C w ok A2 x.crosses) (l3 : x.parts.length ≤ c3) (h3 : partK.C w ok A3 x.parts) (l4 : x.over.length ≤ c4) (h4 : partK.C w ok A4 x.over) (l5 : x.flanks.length ≤ c5) (h5 : flankK.C w ok A5 x.flanks) : (routeK eS eL eI eP eF).K w ok x [.int .i64 x.frm, .int .i64 x.til, .slice A0 x.steps.length c0, .slice A1 x.lies.length c1, .slice A2 x.crosses.length c2, .slice A3 x.parts.length c3, .slice A4 x.over.length c4, .slice A5 x.flanks.length c5] := ⟨_, _, rfl, rfl, ⟨_, _, rfl, rfl, ⟨_, _, rfl, ⟨A0, c0, rfl, l0, h0⟩, ⟨_, _, rfl, ⟨A1, c1, rfl, l1, h1⟩, ⟨_, _, rfl, ⟨A2, c2, rfl, l2, h2⟩, ⟨_, _, rfl, ⟨A3, c3, rfl, l3, h3⟩, ⟨_, _, rfl, ⟨A4, c4, rfl, l4, h4⟩, ⟨A5, c5, rfl, l5, h5⟩⟩⟩⟩⟩⟩⟩⟩
theorem routeK_at {eS eL eI eP eF : Nat} {w : World} {ok : Nat → Prop} {A : Option Addr} {xs : List Route} (h : (routeK eS eL eI eP eF).C w ok A xs) (k : Nat) (hk : k < xs.length) : ∃ ad, A = some ad ∧ ∃ x, Hid (xs[k]? = some x) ∧ ∃ A0 c0 A1 c1 A2 c2 A3 c3 A4 c4 A5 c5, w.cell? (ad.add (k * 8)) = some (.int .i64 x.frm) ∧ w.cell? ⟨(ad.add (k * 8)).block, (ad.add (k * 8)).off + 1, none⟩ = some (.int .i64 x.til) ∧ w.cell? ⟨(ad.add (k * 8)).block, (ad.add (k * 8)).off + 2, none⟩ = some (.slice A0 x.steps.length c0) ∧ w.cell? ⟨(ad.add (k * 8)).block, (ad.add (k * 8)).off + 3, none⟩ = some (.slice A1 x.lies.length c1) ∧ w.cell? ⟨(ad.add (k * 8)).block, (ad.add (k * 8)).off + 4, none⟩ = some (.slice A2 x.crosses.length c2) ∧ w.cell? ⟨(ad.add (k * 8)).block, (ad.add (k * 8)).off + 5, none⟩ = some (.slice A3 x.parts.length c3) ∧ w.cell? ⟨(ad.add (k * 8)).block, (ad.add (k * 8)).off + 6, none⟩ = some (.slice A4 x.over.length c4) ∧ w.cell? ⟨(ad.add (k * 8)).block, (ad.add (k * 8)).off + 7, none⟩ = some (.slice A5 x.flanks.length c5) ∧ x.steps.length ≤ c0 ∧ stepK.C w ok A0 x.steps ∧ x.lies.length ≤ c1 ∧ lieK.C w ok A1 x.lies ∧ x.crosses.length ≤ c2 ∧ Kn.int.C w ok A2 x.crosses ∧ x.parts.length ≤ c3 ∧ partK.C w ok A3 x.parts ∧ x.over.length ≤ c4 ∧ partK.C w ok A4 x.over ∧ x.flanks.length ≤ c5 ∧ flankK.C w ok A5 x.flanks := by
  obtain ⟨ad, x, c, e, _, hx, hkk, hc⟩ := Kn.C_at h k hk
  obtain ⟨A0, c0, A1, c1, A2, c2, A3, c3, A4, c4, A5, c5, rfl, l0, h0, l1, h1, l2, h2, l3, h3, l4, h4, l5, h5⟩ := routeK_open hkk
  exact ⟨ad, e, x, Lib.hid hx, A0, c0, A1, c1, A2, c2, A3, c3, A4, c4, A5, c5, hc 0 _ rfl, by rw [← add_field _ _ 1 (by omega)]; exact hc 1 _ rfl, by rw [← add_field _ _ 2 (by omega)]; exact hc 2 _ rfl, by rw [← add_field _ _ 3 (by omega)]; exact hc 3 _ rfl, by rw [← add_field _ _ 4 (by omega)]; exact hc 4 _ rfl, by rw [← add_field _ _ 5 (by omega)]; exact hc 5 _ rfl, by rw [← add_field _ _ 6 (by omega)]; exact hc 6 _ rfl, by rw [← add_field _ _ 7 (by omega)]; exact hc 7 _ rfl, l0, h0, l1, h1, l2, h2, l3, h3, l4, h4, l5, h5⟩
/-- A value that reads as one. -/
def RouteV (eS eL eI eP eF : Nat) (w : World) (ok : Nat → Prop) (x : Route) (v : Value) : Prop := ∃ A0 c0 A1 c1 A2 c2 A3 c3 A4 c4 A5 c5, v = .agg #[.int .i64 x.frm, .int .i64 x.til, .slice A0 x.steps.length c0, .slice A1 x.lies.length c1, .slice A2 x.crosses.length c2, .slice A3 x.parts.length c3, .slice A4 x.over.length c4, .slice A5 x.flanks.length c5] ∧ x.steps.length ≤ c0 ∧ stepK.C w ok A0 x.steps ∧ x.lies.length ≤ c1 ∧ lieK.C w ok A1 x.lies ∧ x.crosses.length ≤ c2 ∧ Kn.int.C w ok A2 x.crosses ∧ x.parts.length ≤ c3 ∧ partK.C w ok A3 x.parts ∧ x.over.length ≤ c4 ∧ partK.C w ok A4 x.over ∧ x.flanks.length ≤ c5 ∧ flankK.C w ok A5 x.flanks
theorem RouteV.below {eS eL eI eP eF : Nat} {w w1 : World} {ok : Nat → Prop} {x : Route} {v : Value} (h : RouteV eS eL eI eP eF w ok x v) (hb : Below w.heap.size w w1) : RouteV eS eL eI eP eF w1 ok x v := by
  obtain ⟨A0, c0, A1, c1, A2, c2, A3, c3, A4, c4, A5, c5, rfl, l0, h0, l1, h1, l2, h2, l3, h3, l4, h4, l5, h5⟩ := h
  exact ⟨A0, c0, A1, c1, A2, c2, A3, c3, A4, c4, A5, c5, rfl, l0, Kn.C_below hb h0, l1, Kn.C_below hb h1, l2, Kn.C_below hb h2, l3, Kn.C_below hb h3, l4, Kn.C_below hb h4, l5, Kn.C_below hb h5⟩
end Go.Proofs.Ytginpmhjpjcahaa.L
