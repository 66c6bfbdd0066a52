/- The laws' arguments opened: what reads as data reads as a value of a kind. -/
import Derived.Test.YtginpmhjpjcahaaRows
import Derived.Test.YtginpmhjpjcahaaFrame
import Derived.Test.YtginpmhjpjcahaaSz
namespace Go.Proofs.Ytginpmhjpjcahaa.L
open Go.ChangeShapes Go.WideShapes Go.ChangeAt Go.RowKit
theorem opens_i : Opens Try.prog 3 Kn.int (fun n => (Lit.int .i64 n).wf = true) := opens_int Try.underlying3 (by kernel_rfl)
theorem opens_s : Opens Try.prog 9 Kn.str (fun s => s.size ≤ 9223372036854775807) := opens_str Try.underlying9 (by kernel_rfl)
set_option maxRecDepth 100000 in
theorem opens_piece : Opens Try.prog 183 pieceK Piece.fit := by
  unfold pieceK
  exact opens_struct _ (fun p => (⟨p.1, p.2.1, p.2.2.1, p.2.2.2⟩ : Piece)) (fun _ => rfl) (fun _ h => h.1) Try.underlying183 (by kernel_rfl)
    (opens_pair 0 rfl rfl opens_s (opens_pair 1 rfl rfl opens_i (opens_pair 2 rfl rfl opens_i (opens_last 3 rfl rfl opens_i))))
set_option maxRecDepth 100000 in
theorem opens_end : Opens Try.prog 245 endK (fun _ => True) := by
  unfold endK
  exact opens_struct _ (fun p => (⟨p.1, p.2⟩ : End)) (fun _ => rfl) (fun _ _ => trivial) Try.underlying245 (by kernel_rfl)
    (opens_pair 0 rfl rfl opens_i (opens_last 1 rfl rfl opens_i))
set_option maxRecDepth 100000 in
theorem opens_joint : Opens Try.prog 187 (jointK 245) Joint.fit := by
  unfold jointK
  exact opens_struct _ (fun p => (⟨p.1, p.2.1, p.2.2⟩ : Joint)) (fun _ => rfl) (fun _ h => h.2.1) Try.underlying187 (by kernel_rfl)
    (opens_pair 0 rfl rfl opens_i (opens_pair 1 rfl rfl opens_s (opens_last 2 rfl rfl (opens_slice Try.underlying185 (by kernel_rfl) opens_end (by decide)))))
set_option maxRecDepth 100000 in
theorem opens_net : Opens Try.prog 26 (netK 183 187 245) Net.fit := by
  unfold netK
  exact opens_struct _ (fun p => (⟨p.1, p.2⟩ : Net)) (fun _ => rfl) (fun _ h => ⟨h.1, h.2⟩) Try.underlying26 (by kernel_rfl)
    (opens_pair 0 rfl rfl (opens_slice Try.underlying23 (by kernel_rfl) opens_piece (by decide)) (opens_last 1 rfl rfl (opens_slice Try.underlying24 (by kernel_rfl) opens_joint (by decide))))
set_option maxRecDepth 100000 in
theorem opens_signal : Opens Try.prog 166 signalK Signal.fit := by
  unfold signalK
  exact opens_struct _ (fun p => (⟨p.1, p.2.1, p.2.2.1, p.2.2.2⟩ : Signal)) (fun _ => rfl) (fun _ h => h.1) Try.underlying166 (by kernel_rfl)
    (opens_pair 0 rfl rfl opens_s (opens_pair 1 rfl rfl opens_i (opens_pair 2 rfl rfl opens_i (opens_last 3 rfl rfl opens_i))))
set_option maxRecDepth 100000 in
theorem opens_step : Opens Try.prog 210 stepK (fun _ => True) := by
  unfold stepK
  exact opens_struct _ (fun p => (⟨p.1, p.2⟩ : Step)) (fun _ => rfl) (fun _ _ => trivial) Try.underlying210 (by kernel_rfl)
    (opens_pair 0 rfl rfl opens_i (opens_last 1 rfl rfl opens_i))
set_option maxRecDepth 100000 in
theorem opens_lie : Opens Try.prog 212 lieK (fun _ => True) := by
  unfold lieK
  exact opens_struct _ (fun p => (⟨p.1, p.2⟩ : Lie)) (fun _ => rfl) (fun _ _ => trivial) Try.underlying212 (by kernel_rfl)
    (opens_pair 0 rfl rfl opens_i (opens_last 1 rfl rfl opens_i))
set_option maxRecDepth 100000 in
theorem opens_part : Opens Try.prog 214 partK (fun _ => True) := by
  unfold partK
  exact opens_struct _ (fun p => (⟨p.1, p.2.1, p.2.2⟩ : Part)) (fun _ => rfl) (fun _ _ => trivial) Try.underlying214 (by kernel_rfl)
    (opens_pair 0 rfl rfl opens_i (opens_pair 1 rfl rfl opens_i (opens_last 2 rfl rfl opens_i)))
set_option maxRecDepth 100000 in
theorem opens_flank : Opens Try.prog 216 flankK (fun _ => True) := by
  unfold flankK
  exact opens_struct _ (fun p => (⟨p.1, p.2.1, p.2.2.1, p.2.2.2⟩ : Flank)) (fun _ => rfl) (fun _ _ => trivial) Try.underlying216 (by kernel_rfl)
    (opens_pair 0 rfl rfl opens_i (opens_pair 1 rfl rfl opens_i (opens_pair 2 rfl rfl opens_i (opens_last 3 rfl rfl opens_i))))
abbrev rLaw : Kn Route := routeK 210 212 3 214 216
set_option maxRecDepth 100000 in
theorem opens_route : Opens Try.prog 73 rLaw (fun _ => True) := by
  unfold rLaw routeK
  exact opens_struct _ (fun p => (⟨p.1, p.2.1, p.2.2.1, p.2.2.2.1, p.2.2.2.2.1, p.2.2.2.2.2.1, p.2.2.2.2.2.2.1, p.2.2.2.2.2.2.2⟩ : Route)) (fun _ => rfl) (fun _ _ => trivial) Try.underlying73 (by kernel_rfl)
    (opens_pair 0 rfl rfl opens_i (opens_pair 1 rfl rfl opens_i (opens_pair 2 rfl rfl (opens_slice Try.underlying68 (by kernel_rfl) opens_step (by decide)) (opens_pair 3 rfl rfl (opens_slice Try.underlying69 (by kernel_rfl) opens_lie (by decide)) (opens_pair 4 rfl rfl (opens_slice Try.underlying53 (by kernel_rfl) opens_i (by decide)) (opens_pair 5 rfl rfl (opens_slice Try.underlying70 (by kernel_rfl) opens_part (by decide)) (opens_pair 6 rfl rfl (opens_slice Try.underlying70 (by kernel_rfl) opens_part (by decide)) (opens_last 7 rfl rfl (opens_slice Try.underlying71 (by kernel_rfl) opens_flank (by decide))))))))))
theorem own : ownKnob Try.prog.godebug = none := by kernel_rfl
theorem laidOut : laidOutB Try.prog = true := by kernel_rfl
end Go.Proofs.Ytginpmhjpjcahaa.L
