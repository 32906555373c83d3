/- The tied card of DigestLaid: the row, its listed variable tied to the program's text. -/
import Derived.Test.YtkklmjioheimfaaDoorDLaidRow
import Derived.Test.YtkklmjioheimfaaDoorTie
import Derived.Test.YtkklmjioheimfaaDoorCards
import Derived.SevenTiedAt
namespace Go.Proofs.YtkklmjioheimfaaDoor
open Go
theorem digestLaid_card_holds : Rows.DigestLaidCardSaid :=
  Claim7.holds_tied_plain_at .later [] [.data] true (true, "4e6f7ba65c756699dbdd89940ed46cb974dae849125b6e3387043e49ab13cb35") false
    digestLaid.over (fun _ h => by cases h) (by kernel_rfl) (fun _ h => by cases h) digestLaid_row_tie rfl ⟨rfl, rfl⟩ (by kernel_rfl) rfl
    (fun f fn hf hfn => by
      obtain rfl : f = 8 := Option.some.inj ((show Tryd.prog.funcNamed "trellis/trellislaw3.DigestLaid" = some 8 by kernel_rfl).symm.trans hf) |>.symm
      obtain rfl : fn = Tryd.f8 := (Option.some.inj (Tryd.func8.symm.trans hfn)).symm
      exact ⟨by kernel_rfl, fun j t ht => by
        rw [Tryd.params8] at ht
        have h3 : t = 47 := by
          rcases j with _ | j
          · simpa using ht.symm
          · simp at ht
        rcases h3 with rfl
        all_goals exact (show Tryd.prog.wantsStandIn _ = false by kernel_rfl)⟩)
    (by kernel_rfl)
#print axioms digestLaid_card_holds
end Go.Proofs.YtkklmjioheimfaaDoor
