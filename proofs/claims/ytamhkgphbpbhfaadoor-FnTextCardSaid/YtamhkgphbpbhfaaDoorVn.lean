/- The card of FnText: its row holds (Derived.Test.YtamhkgphbpbhfaaDoorRText), what it lists is tied to the program's text (given). -/
import Derived.Test.YtamhkgphbpbhfaaDoorVm
import Derived.Test.YtamhkgphbpbhfaaDoorCards
import Derived.Test.YtamhkgphbpbhfaaDoorTie
import Derived.SevenTiedAt
namespace Go.Proofs.YtamhkgphbpbhfaaDoor
open Go
set_option maxRecDepth 100000 in
theorem fnTextCard_holds : Rows.FnTextCardSaid :=
  Claim7.holds_tied_plain_at .later [] [.data, .data, .data] true (true, "591810b1a5a25888a71e4ee88db2ff9da747966ba9054bd1eb8e3f46567b7227") false
    fnText_holds (fun _ h => by cases h) (by kernel_rfl) (fun _ h => by cases h) fnText_row_tie rfl ⟨rfl, rfl⟩ (by kernel_rfl) rfl
    (fun f fn hf hfn => by
      obtain rfl : f = 3 := Option.some.inj ((show Tryd.prog.funcNamed "loop.example/lockbar/laws.FnText" = some 3 by kernel_rfl).symm.trans hf) |>.symm
      obtain rfl : fn = Tryd.f3 := (Option.some.inj (Tryd.func3.symm.trans hfn)).symm
      exact ⟨by kernel_rfl, fun j t ht => by
        rw [Tryd.params3] at ht
        have h3 : t = 22 := by
          rcases j with _ | j
          · simpa using ht.symm
          · simp at ht
        rw [h3]
        exact (show Tryd.prog.wantsStandIn 22 = false by kernel_rfl)⟩)
    (by kernel_rfl)
#print axioms fnTextCard_holds
end Go.Proofs.YtamhkgphbpbhfaaDoor
