/- The card of FnExactListing: its row holds (Derived.Test.YtpggopdojhodaaaGreatDoorRLst), what it lists is tied to the program's text (given). -/
import Derived.Test.YtpggopdojhodaaaGreatDoorVm
import Derived.Test.YtpggopdojhodaaaGreatDoorCards
import Derived.Test.YtpggopdojhodaaaGreatDoorTie
import Derived.SevenTiedAt
namespace Go.Proofs.YtpggopdojhodaaaGreatDoor
open Go
set_option maxRecDepth 100000 in
theorem fnExactListingCard_holds : Rows.FnExactListingCardSaid :=
  Claim7.holds_tied_plain_at .later [] [.data, .data, .data] true (true, "1693177257a456a6730e9ace043b36c0bbb20735c3eb08f4d7d412d70b9ea13b") false
    fnExactListing_holds (fun _ h => by cases h) (by kernel_rfl) (fun _ h => by cases h) fnExactListing_row_tie rfl ⟨rfl, rfl⟩ (by kernel_rfl) rfl
    (fun f fn hf hfn => by
      obtain rfl : f = 3 := Option.some.inj ((show Tryz.prog.funcNamed "loop.example/lockbar/laws.FnExactListing" = some 3 by kernel_rfl).symm.trans hf) |>.symm
      obtain rfl : fn = Tryz.f3 := (Option.some.inj (Tryz.func3.symm.trans hfn)).symm
      exact ⟨by kernel_rfl, fun j t ht => by
        rw [Tryz.params3] at ht
        have h3 : t = 25 ∨ t = 26 ∨ t = 27 := by
          rcases j with _ | _ | _ | j
          · exact .inl (by simpa using ht.symm)
          · exact .inr (.inl (by simpa using ht.symm))
          · exact .inr (.inr (by simpa using ht.symm))
          · simp at ht
        rcases h3 with rfl | rfl | rfl
        · exact (show Tryz.prog.wantsStandIn 25 = false by kernel_rfl)
        · exact (show Tryz.prog.wantsStandIn 26 = false by kernel_rfl)
        · exact (show Tryz.prog.wantsStandIn 27 = false by kernel_rfl)⟩)
    (by kernel_rfl)
#print axioms fnExactListingCard_holds
end Go.Proofs.YtpggopdojhodaaaGreatDoor
