/- The tied card of DigestKnown: the row, its listed variable tied to the program's text. -/
import Derived.Test.YtkklmjioheimfaaDoorDKnownRow
import Derived.Test.YtkklmjioheimfaaDoorTie
import Derived.Test.YtkklmjioheimfaaDoorCards
import Derived.SevenTiedAt
namespace Go.Proofs.YtkklmjioheimfaaDoor
open Go
theorem digestKnown_card_holds : Rows.DigestKnownCardSaid :=
  Claim7.holds_tied_plain_at .later [] [.data] true (true, "4e6f7ba65c756699dbdd89940ed46cb974dae849125b6e3387043e49ab13cb35") false
    digestKnown.over (fun _ h => by cases h) (by kernel_rfl) (fun _ h => by cases h) digestKnown_row_tie rfl ⟨rfl, rfl⟩ (by kernel_rfl) rfl
    (fun f fn hf hfn => by
      obtain rfl : f = 7 := Option.some.inj ((show Tryd.prog.funcNamed "trellis/trellislaw3.DigestKnown" = some 7 by kernel_rfl).symm.trans hf) |>.symm
      obtain rfl : fn = Tryd.f7 := (Option.some.inj (Tryd.func7.symm.trans hfn)).symm
      exact ⟨by kernel_rfl, fun j t ht => by
        rw [Tryd.params7] at ht
        simp at ht⟩)
    (by kernel_rfl)
#print axioms digestKnown_card_holds
end Go.Proofs.YtkklmjioheimfaaDoor
