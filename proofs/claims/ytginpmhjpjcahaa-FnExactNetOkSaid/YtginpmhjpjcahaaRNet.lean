/- The row FnExactNetOk: its argument opened; the walk (Derived.Test.YtginpmhjpjcahaaLNet) in the row's frame. -/
import Derived.Test.YtginpmhjpjcahaaRows
import Derived.Test.YtginpmhjpjcahaaLNet
import Derived.Test.YtginpmhjpjcahaaFrame
namespace Go.Proofs.Ytginpmhjpjcahaa.L
open Go.ChangeShapes Go.WideShapes Go.ChangeAt Go.RowKit
theorem opens_i : Opens Try.prog 3 Kn.int (fun n => (Lit.int .i64 n).wf = true) := opens_int Try.underlying3 (by kernel_rfl)
theorem opens_s : Opens Try.prog 9 Kn.str (fun s => s.size ≤ 9223372036854775807) := opens_str Try.underlying9 (by kernel_rfl)
set_option maxRecDepth 100000 in
theorem opens_piece : Opens Try.prog 183 pieceK Piece.fit := by
  unfold pieceK
  exact opens_struct _ (fun p => (⟨p.1, p.2.1, p.2.2.1, p.2.2.2⟩ : Piece)) (fun _ => rfl) (fun _ h => h.1) Try.underlying183 (by kernel_rfl)
    (opens_pair 0 rfl rfl opens_s (opens_pair 1 rfl rfl opens_i (opens_pair 2 rfl rfl opens_i (opens_last 3 rfl rfl opens_i))))
set_option maxRecDepth 100000 in
theorem opens_end : Opens Try.prog 245 endK (fun _ => True) := by
  unfold endK
  exact opens_struct _ (fun p => (⟨p.1, p.2⟩ : End)) (fun _ => rfl) (fun _ _ => trivial) Try.underlying245 (by kernel_rfl)
    (opens_pair 0 rfl rfl opens_i (opens_last 1 rfl rfl opens_i))
set_option maxRecDepth 100000 in
theorem opens_joint : Opens Try.prog 187 (jointK 245) Joint.fit := by
  unfold jointK
  exact opens_struct _ (fun p => (⟨p.1, p.2.1, p.2.2⟩ : Joint)) (fun _ => rfl) (fun _ h => h.2.1) Try.underlying187 (by kernel_rfl)
    (opens_pair 0 rfl rfl opens_i (opens_pair 1 rfl rfl opens_s (opens_last 2 rfl rfl (opens_slice Try.underlying185 (by kernel_rfl) opens_end (by decide)))))
set_option maxRecDepth 100000 in
theorem opens_net : Opens Try.prog 26 (netK 183 187 245) Net.fit := by
  unfold netK
  exact opens_struct _ (fun p => (⟨p.1, p.2⟩ : Net)) (fun _ => rfl) (fun _ h => ⟨h.1, h.2⟩) Try.underlying26 (by kernel_rfl)
    (opens_pair 0 rfl rfl (opens_slice Try.underlying23 (by kernel_rfl) opens_piece (by decide)) (opens_last 1 rfl rfl (opens_slice Try.underlying24 (by kernel_rfl) opens_joint (by decide))))
theorem own : ownKnob Try.prog.godebug = none := by kernel_rfl
theorem laidOut : laidOutB Try.prog = true := by kernel_rfl
end Go.Proofs.Ytginpmhjpjcahaa.L
namespace Go.Proofs.Ytginpmhjpjcahaa.fnExactNetOk
open Go.ChangeShapes Go.WideShapes Go.ChangeAt Go.RowKit Go.Proofs.Ytginpmhjpjcahaa.L
set_option maxRecDepth 100000 in
theorem lifted (os : Os) (started : os.Started) (H : Type) (enc : TypeId × Value → H) :
    ReturnsInHanded {} Try.checked os 4 .any (Rows.fnExactNetOkSpec.pre6 enc Try.prog Try.f4 Rows.fnExactNetOkRow.domain false) (Rows.fnExactNetOkSpec.post enc Try.prog Try.f4 false true false false) := by
  refine law_lift (C := Try.checked) own started (by kernel_rfl) Try.func4 laidOut rfl (tb := 4) (by kernel_rfl) Try.underlying4 ?_ ?_
    (ChangeSpec.witness6 (enc := enc) (C := Try.checked) false ⟨#[], #[.agg #[.slice none 0 0, .slice none 0 0]], []⟩ 8 (by kernel_rfl) (by kernel_rfl) (by kernel_rfl) (by kernel_rfl)) ?_
  · intro t ht
    obtain rfl : t = 26 := by simpa [Try.params4] using ht
    exact ⟨by kernel_rfl, of_decide_eq_true (by kernel_rfl)⟩
  · intro ds hds
    rw [show Try.f4.params.toList = [26] from by rw [Try.params4]] at hds
    match ds, hds with
    | [d], _ => rfl
  · intro W base args ds p hval hA
    have hp : Try.f4.params.toList = [26] := by rw [Try.params4]
    rw [hp] at hA hval
    obtain ⟨v0, d0, rfl, rfl, m, h0⟩ := trodAll_one hA
    obtain ⟨cs, rfl, _⟩ := okWide_struct Try.underlying26 (hval 0 26 v0 rfl rfl)
    obtain ⟨x, hK, hfit⟩ := opens_net.2 H enc _ _ _ _ _ _ h0
    obtain ⟨A0, c0, A1, c1, hcs, _, k0, _, k1⟩ := netK_open hK
    have hcs : cs = #[.slice A0 x.pieces.length c0, .slice A1 x.joints.length c1] := by
      cases cs
      simp only [Value.cells] at hcs
      rw [hcs]
    subst hcs
    exact (lawNetOk x A0 A1 c0 c1 W k0 k1 (Lib.hid hfit)).mono fun e W' h => h
theorem over : Rows.fnExactNetOkRow.holds Try.pinned (OpenSpec.ofChange Rows.fnExactNetOkSpec) :=
  OpenClaim.holds_of_wide 4 Try.f4 rfl rfl rfl rfl rfl rfl rfl ⟨rfl, rfl, rfl, rfl, rfl⟩ rfl rfl rfl rfl rfl (by kernel_rfl) Try.func4 (by kernel_rfl)
    (of_decide_eq_true (by kernel_rfl)) (by unfold Func.isWrapper; first | (rw [if_pos (by decide +kernel)]; kernel_rfl) | (rw [if_neg (by decide +kernel)]; exact ⟨rfl, rfl⟩))
    (fun os started H enc _ => lifted os started H enc)
end Go.Proofs.Ytginpmhjpjcahaa.fnExactNetOk
namespace Go.Proofs.Ytginpmhjpjcahaa
/-- The row. -/
theorem fnExactNetOk_holds : Rows.FnExactNetOkSaid := fnExactNetOk.over
#print axioms fnExactNetOk_holds
end Go.Proofs.Ytginpmhjpjcahaa
