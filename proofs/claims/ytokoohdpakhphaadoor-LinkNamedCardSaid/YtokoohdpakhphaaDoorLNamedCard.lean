/- The tied card of LinkNamed: the row, its listed variable tied to the program's text. -/
import Derived.Test.YtokoohdpakhphaaDoorLNamedRow
import Derived.Test.YtokoohdpakhphaaDoorTie
import Derived.Test.YtokoohdpakhphaaDoorCards
import Derived.SevenTiedAt
namespace Go.Proofs.YtokoohdpakhphaaDoor
open Go
theorem linkNamed_card_holds : Rows.LinkNamedCardSaid :=
  Claim7.holds_tied_plain_at .later [] [.data] true (true, "65ede26ad50356d94095dcc2d7d40a91767bf386fa02f47e2eedacc9e8540dda") false
    linkNamed.over (fun _ h => by cases h) (by kernel_rfl) (fun _ h => by cases h) linkNamed_row_tie rfl ⟨rfl, rfl⟩ (by kernel_rfl) rfl
    (fun f fn hf hfn => by
      obtain rfl : f = 8 := Option.some.inj ((show Tryd.prog.funcNamed "trellis/trellislaw4.LinkNamed" = some 8 by kernel_rfl).symm.trans hf) |>.symm
      obtain rfl : fn = Tryd.f8 := (Option.some.inj (Tryd.func8.symm.trans hfn)).symm
      exact ⟨by kernel_rfl, fun j t ht => by
        rw [Tryd.params8] at ht
        have h3 : t = 28 := by
          rcases j with _ | j
          · simpa using ht.symm
          · simp at ht
        rcases h3 with rfl
        all_goals exact (show Tryd.prog.wantsStandIn _ = false by kernel_rfl)⟩)
    (by kernel_rfl)
#print axioms linkNamed_card_holds
end Go.Proofs.YtokoohdpakhphaaDoor
