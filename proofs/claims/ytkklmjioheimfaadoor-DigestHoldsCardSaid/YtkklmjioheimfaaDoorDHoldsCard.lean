/- The tied card of DigestHolds: the row, its listed variable tied to the program's text. -/
import Derived.Test.YtkklmjioheimfaaDoorDHoldsRow
import Derived.Test.YtkklmjioheimfaaDoorTie
import Derived.Test.YtkklmjioheimfaaDoorCards
import Derived.SevenTiedAt
namespace Go.Proofs.YtkklmjioheimfaaDoor
open Go
theorem digestHolds_card_holds : Rows.DigestHoldsCardSaid :=
  Claim7.holds_tied_plain_at .later [] [.data] true (true, "4e6f7ba65c756699dbdd89940ed46cb974dae849125b6e3387043e49ab13cb35") false
    digestHolds.over (fun _ h => by cases h) (by kernel_rfl) (fun _ h => by cases h) digestHolds_row_tie rfl ⟨rfl, rfl⟩ (by kernel_rfl) rfl
    (fun f fn hf hfn => by
      obtain rfl : f = 5 := Option.some.inj ((show Tryd.prog.funcNamed "trellis/trellislaw3.DigestHolds" = some 5 by kernel_rfl).symm.trans hf) |>.symm
      obtain rfl : fn = Tryd.f5 := (Option.some.inj (Tryd.func5.symm.trans hfn)).symm
      exact ⟨by kernel_rfl, fun j t ht => by
        rw [Tryd.params5] at ht
        have h3 : t = 47 := by
          rcases j with _ | j
          · simpa using ht.symm
          · simp at ht
        rcases h3 with rfl
        all_goals exact (show Tryd.prog.wantsStandIn _ = false by kernel_rfl)⟩)
    (by kernel_rfl)
#print axioms digestHolds_card_holds
end Go.Proofs.YtkklmjioheimfaaDoor
