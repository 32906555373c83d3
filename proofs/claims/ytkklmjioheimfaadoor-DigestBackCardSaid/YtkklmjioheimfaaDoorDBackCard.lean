/- The tied card of DigestBack: the row, its listed variable tied to the program's text. -/
import Derived.Test.YtkklmjioheimfaaDoorDBackRow
import Derived.Test.YtkklmjioheimfaaDoorTie
import Derived.Test.YtkklmjioheimfaaDoorCards
import Derived.SevenTiedAt
namespace Go.Proofs.YtkklmjioheimfaaDoor
open Go
theorem digestBack_card_holds : Rows.DigestBackCardSaid :=
  Claim7.holds_tied_plain_at .later [] [.data] true (true, "4e6f7ba65c756699dbdd89940ed46cb974dae849125b6e3387043e49ab13cb35") false
    digestBack.over (fun _ h => by cases h) (by kernel_rfl) (fun _ h => by cases h) digestBack_row_tie rfl ⟨rfl, rfl⟩ (by kernel_rfl) rfl
    (fun f fn hf hfn => by
      obtain rfl : f = 9 := Option.some.inj ((show Tryd.prog.funcNamed "trellis/trellislaw3.DigestBack" = some 9 by kernel_rfl).symm.trans hf) |>.symm
      obtain rfl : fn = Tryd.f9 := (Option.some.inj (Tryd.func9.symm.trans hfn)).symm
      exact ⟨by kernel_rfl, fun j t ht => by
        rw [Tryd.params9] at ht
        have h3 : t = 90 := by
          rcases j with _ | j
          · simpa using ht.symm
          · simp at ht
        rcases h3 with rfl
        all_goals exact (show Tryd.prog.wantsStandIn _ = false by kernel_rfl)⟩)
    (by kernel_rfl)
#print axioms digestBack_card_holds
end Go.Proofs.YtkklmjioheimfaaDoor
