/-
  DERIVED. GIVEN WITH THE SEED: THE CARDS: each row of YtkklmjioheimfaaDoorRows.lean that lists a variable, with what it lists TIED to the program's text (the seventh form; the later family's looks); each row that meets fmt, with fmt's text TOLD by the authors' own Lean function (tested against real Go, not proved from fmt's source: count such statements apart). THE CARD IS WHAT COUNTS. Prove the row's statement (the work); the ties are given (YtkklmjioheimfaaDoorTie.lean); close each card by the builder's one call (the guide's Derived/Test/ToyasCard.lean, 'card_holds'). Laid BY PROGRAM, IN A SANDBOX (cutbox-door.mjs). By AI agents, Wed Nov 11 2026. No macro, syntax, notation, axiom, sorry.
-/
import Derived.Test.YtkklmjioheimfaaDoorRows
import GoSem.ClaimSeven
namespace Go.Proofs.YtkklmjioheimfaaDoor
namespace Rows

/-- THE TIED CARD OF 'trellislaw3.DigestExact'. -/
def digestExactCard : Claim7 := { stood := { row := digestExactRow, standIns := [], harness := (true, "4e6f7ba65c756699dbdd89940ed46cb974dae849125b6e3387043e49ab13cb35"), looks := false }, kinds := [], alts := [], laidByText := true, laidKinds := [.data], laidTests := true, laidLooks := .later }
def DigestExactCardSaid : Prop := Claim7.holds Tryd.pinned (.plain (OpenSpec.ofChange digestExactSpec)) digestExactCard

/-- THE TIED CARD OF 'trellislaw3.DigestParts'. -/
def digestPartsCard : Claim7 := { stood := { row := digestPartsRow, standIns := [], harness := (true, "4e6f7ba65c756699dbdd89940ed46cb974dae849125b6e3387043e49ab13cb35"), looks := false }, kinds := [], alts := [], laidByText := true, laidKinds := [.data], laidTests := true, laidLooks := .later }
def DigestPartsCardSaid : Prop := Claim7.holds Tryd.pinned (.plain (OpenSpec.ofChange digestPartsSpec)) digestPartsCard

/-- THE TIED CARD OF 'trellislaw3.DigestHolds'. -/
def digestHoldsCard : Claim7 := { stood := { row := digestHoldsRow, standIns := [], harness := (true, "4e6f7ba65c756699dbdd89940ed46cb974dae849125b6e3387043e49ab13cb35"), looks := false }, kinds := [], alts := [], laidByText := true, laidKinds := [.data], laidTests := true, laidLooks := .later }
def DigestHoldsCardSaid : Prop := Claim7.holds Tryd.pinned (.plain (OpenSpec.ofChange digestHoldsSpec)) digestHoldsCard

/-- THE TIED CARD OF 'trellislaw3.DigestWhole'. -/
def digestWholeCard : Claim7 := { stood := { row := digestWholeRow, standIns := [], harness := (true, "4e6f7ba65c756699dbdd89940ed46cb974dae849125b6e3387043e49ab13cb35"), looks := false }, kinds := [], alts := [], laidByText := true, laidKinds := [.data], laidTests := true, laidLooks := .later }
def DigestWholeCardSaid : Prop := Claim7.holds Tryd.pinned (.plain (OpenSpec.ofChange digestWholeSpec)) digestWholeCard

/-- THE TIED CARD OF 'trellislaw3.DigestKnown'. -/
def digestKnownCard : Claim7 := { stood := { row := digestKnownRow, standIns := [], harness := (true, "4e6f7ba65c756699dbdd89940ed46cb974dae849125b6e3387043e49ab13cb35"), looks := false }, kinds := [], alts := [], laidByText := true, laidKinds := [.data], laidTests := true, laidLooks := .later }
def DigestKnownCardSaid : Prop := Claim7.holds Tryd.pinned (.plain (OpenSpec.ofChange digestKnownSpec)) digestKnownCard

/-- THE TIED CARD OF 'trellislaw3.DigestLaid'. -/
def digestLaidCard : Claim7 := { stood := { row := digestLaidRow, standIns := [], harness := (true, "4e6f7ba65c756699dbdd89940ed46cb974dae849125b6e3387043e49ab13cb35"), looks := false }, kinds := [], alts := [], laidByText := true, laidKinds := [.data], laidTests := true, laidLooks := .later }
def DigestLaidCardSaid : Prop := Claim7.holds Tryd.pinned (.plain (OpenSpec.ofChange digestLaidSpec)) digestLaidCard

/-- THE TIED CARD OF 'trellislaw3.DigestBack'. -/
def digestBackCard : Claim7 := { stood := { row := digestBackRow, standIns := [], harness := (true, "4e6f7ba65c756699dbdd89940ed46cb974dae849125b6e3387043e49ab13cb35"), looks := false }, kinds := [], alts := [], laidByText := true, laidKinds := [.data], laidTests := true, laidLooks := .later }
def DigestBackCardSaid : Prop := Claim7.holds Tryd.pinned (.plain (OpenSpec.ofChange digestBackSpec)) digestBackCard

/-- THE SECOND FORM's CARD OF 'trellislaw3.DigestExact'. -/
def digestExactUptoCard : Claim7 := { stood := { row := digestExactUptoRow, standIns := [], harness := (true, "4e6f7ba65c756699dbdd89940ed46cb974dae849125b6e3387043e49ab13cb35"), looks := false }, kinds := [], alts := [], laidByText := true, laidKinds := [.data], laidTests := true, laidLooks := .later }
def DigestExactUptoCardSaid : Prop := Claim7.holds Tryd.pinned (.plain (OpenSpec.upto digestExactSpec)) digestExactUptoCard

/-- THE SECOND FORM's CARD OF 'trellislaw3.DigestParts'. -/
def digestPartsUptoCard : Claim7 := { stood := { row := digestPartsUptoRow, standIns := [], harness := (true, "4e6f7ba65c756699dbdd89940ed46cb974dae849125b6e3387043e49ab13cb35"), looks := false }, kinds := [], alts := [], laidByText := true, laidKinds := [.data], laidTests := true, laidLooks := .later }
def DigestPartsUptoCardSaid : Prop := Claim7.holds Tryd.pinned (.plain (OpenSpec.upto digestPartsSpec)) digestPartsUptoCard

/-- THE SECOND FORM's CARD OF 'trellislaw3.DigestHolds'. -/
def digestHoldsUptoCard : Claim7 := { stood := { row := digestHoldsUptoRow, standIns := [], harness := (true, "4e6f7ba65c756699dbdd89940ed46cb974dae849125b6e3387043e49ab13cb35"), looks := false }, kinds := [], alts := [], laidByText := true, laidKinds := [.data], laidTests := true, laidLooks := .later }
def DigestHoldsUptoCardSaid : Prop := Claim7.holds Tryd.pinned (.plain (OpenSpec.upto digestHoldsSpec)) digestHoldsUptoCard

/-- THE SECOND FORM's CARD OF 'trellislaw3.DigestWhole'. -/
def digestWholeUptoCard : Claim7 := { stood := { row := digestWholeUptoRow, standIns := [], harness := (true, "4e6f7ba65c756699dbdd89940ed46cb974dae849125b6e3387043e49ab13cb35"), looks := false }, kinds := [], alts := [], laidByText := true, laidKinds := [.data], laidTests := true, laidLooks := .later }
def DigestWholeUptoCardSaid : Prop := Claim7.holds Tryd.pinned (.plain (OpenSpec.upto digestWholeSpec)) digestWholeUptoCard

/-- THE SECOND FORM's CARD OF 'trellislaw3.DigestKnown'. -/
def digestKnownUptoCard : Claim7 := { stood := { row := digestKnownUptoRow, standIns := [], harness := (true, "4e6f7ba65c756699dbdd89940ed46cb974dae849125b6e3387043e49ab13cb35"), looks := false }, kinds := [], alts := [], laidByText := true, laidKinds := [.data], laidTests := true, laidLooks := .later }
def DigestKnownUptoCardSaid : Prop := Claim7.holds Tryd.pinned (.plain (OpenSpec.upto digestKnownSpec)) digestKnownUptoCard

/-- THE SECOND FORM's CARD OF 'trellislaw3.DigestLaid'. -/
def digestLaidUptoCard : Claim7 := { stood := { row := digestLaidUptoRow, standIns := [], harness := (true, "4e6f7ba65c756699dbdd89940ed46cb974dae849125b6e3387043e49ab13cb35"), looks := false }, kinds := [], alts := [], laidByText := true, laidKinds := [.data], laidTests := true, laidLooks := .later }
def DigestLaidUptoCardSaid : Prop := Claim7.holds Tryd.pinned (.plain (OpenSpec.upto digestLaidSpec)) digestLaidUptoCard

/-- THE SECOND FORM's CARD OF 'trellislaw3.DigestBack'. -/
def digestBackUptoCard : Claim7 := { stood := { row := digestBackUptoRow, standIns := [], harness := (true, "4e6f7ba65c756699dbdd89940ed46cb974dae849125b6e3387043e49ab13cb35"), looks := false }, kinds := [], alts := [], laidByText := true, laidKinds := [.data], laidTests := true, laidLooks := .later }
def DigestBackUptoCardSaid : Prop := Claim7.holds Tryd.pinned (.plain (OpenSpec.upto digestBackSpec)) digestBackUptoCard
end Rows
end Go.Proofs.YtkklmjioheimfaaDoor
