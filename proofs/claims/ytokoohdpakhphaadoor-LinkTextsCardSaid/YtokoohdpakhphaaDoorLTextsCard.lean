/- The tied card of LinkTexts: the row, its listed variable tied to the program's text. -/
import Derived.Test.YtokoohdpakhphaaDoorLTextsRow
import Derived.Test.YtokoohdpakhphaaDoorTie
import Derived.Test.YtokoohdpakhphaaDoorCards
import Derived.SevenTiedAt
namespace Go.Proofs.YtokoohdpakhphaaDoor
open Go
theorem linkTexts_card_holds : Rows.LinkTextsCardSaid :=
  Claim7.holds_tied_plain_at .later [] [.data] true (true, "65ede26ad50356d94095dcc2d7d40a91767bf386fa02f47e2eedacc9e8540dda") false
    linkTexts.over (fun _ h => by cases h) (by kernel_rfl) (fun _ h => by cases h) linkTexts_row_tie rfl ⟨rfl, rfl⟩ (by kernel_rfl) rfl
    (fun f fn hf hfn => by
      obtain rfl : f = 3 := Option.some.inj ((show Tryd.prog.funcNamed "trellis/trellislaw4.LinkTexts" = some 3 by kernel_rfl).symm.trans hf) |>.symm
      obtain rfl : fn = Tryd.f3 := (Option.some.inj (Tryd.func3.symm.trans hfn)).symm
      exact ⟨by kernel_rfl, fun j t ht => by
        rw [Tryd.params3] at ht
        have h3 : t = 28 := by
          rcases j with _ | j
          · simpa using ht.symm
          · simp at ht
        rcases h3 with rfl
        all_goals exact (show Tryd.prog.wantsStandIn _ = false by kernel_rfl)⟩)
    (by kernel_rfl)
#print axioms linkTexts_card_holds
end Go.Proofs.YtokoohdpakhphaaDoor
