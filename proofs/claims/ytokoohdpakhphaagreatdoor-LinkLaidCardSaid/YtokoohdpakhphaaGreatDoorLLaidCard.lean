/- The tied card of LinkLaid: the row, its listed variable tied to the program's text. -/
import Derived.Test.YtokoohdpakhphaaGreatDoorLLaidRow
import Derived.Test.YtokoohdpakhphaaGreatDoorTie
import Derived.Test.YtokoohdpakhphaaGreatDoorCards
import Derived.SevenTiedAt
namespace Go.Proofs.YtokoohdpakhphaaGreatDoor
open Go
theorem linkLaid_card_holds : Rows.LinkLaidCardSaid :=
  Claim7.holds_tied_plain_at .later [] [.data] true (true, "6ed32a4361647c0d976c5a5506a84674c42b21c4307dd604803f34c319d23edc") false
    linkLaid.over (fun _ h => by cases h) (by kernel_rfl) (fun _ h => by cases h) linkLaid_row_tie rfl ⟨rfl, rfl⟩ (by kernel_rfl) rfl
    (fun f fn hf hfn => by
      obtain rfl : f = 3 := Option.some.inj ((show Tryz.prog.funcNamed "trellis/trellislaw4.LinkLaid" = some 3 by kernel_rfl).symm.trans hf) |>.symm
      obtain rfl : fn = Tryz.f3 := (Option.some.inj (Tryz.func3.symm.trans hfn)).symm
      exact ⟨by kernel_rfl, fun j t ht => by
        rw [Tryz.params3] at ht
        have h3 : t = 28 := by
          rcases j with _ | j
          · simpa using ht.symm
          · simp at ht
        rcases h3 with rfl
        all_goals exact (show Tryz.prog.wantsStandIn _ = false by kernel_rfl)⟩)
    (by kernel_rfl)
#print axioms linkLaid_card_holds
end Go.Proofs.YtokoohdpakhphaaGreatDoor
