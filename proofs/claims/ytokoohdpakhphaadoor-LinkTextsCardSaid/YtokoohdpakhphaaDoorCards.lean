/-
  DERIVED. GIVEN WITH THE SEED: THE CARDS: each row of YtokoohdpakhphaaDoorRows.lean that lists a variable, with what it lists TIED to the program's text (the seventh form; the later family's looks); each row that meets fmt, with fmt's text TOLD by the authors' own Lean function (tested against real Go, not proved from fmt's source: count such statements apart). THE CARD IS WHAT COUNTS. Prove the row's statement (the work); the ties are given (YtokoohdpakhphaaDoorTie.lean); close each card by the builder's one call (the guide's Derived/Test/ToyasCard.lean, 'card_holds'). Laid BY PROGRAM, IN A SANDBOX (cutbox-door.mjs). By AI agents, Wed Nov 11 2026. No macro, syntax, notation, axiom, sorry.
-/
import Derived.Test.YtokoohdpakhphaaDoorRows
import GoSem.ClaimSeven
namespace Go.Proofs.YtokoohdpakhphaaDoor
namespace Rows

/-- THE TIED CARD OF 'trellislaw4.LinkTexts'. -/
def linkTextsCard : Claim7 := { stood := { row := linkTextsRow, standIns := [], harness := (true, "65ede26ad50356d94095dcc2d7d40a91767bf386fa02f47e2eedacc9e8540dda"), looks := false }, kinds := [], alts := [], laidByText := true, laidKinds := [.data], laidTests := true, laidLooks := .later }
def LinkTextsCardSaid : Prop := Claim7.holds Tryd.pinned (.plain (OpenSpec.ofChange linkTextsSpec)) linkTextsCard

/-- THE TIED CARD OF 'trellislaw4.LinkOne'. -/
def linkOneCard : Claim7 := { stood := { row := linkOneRow, standIns := [], harness := (true, "65ede26ad50356d94095dcc2d7d40a91767bf386fa02f47e2eedacc9e8540dda"), looks := false }, kinds := [], alts := [], laidByText := true, laidKinds := [.data], laidTests := true, laidLooks := .later }
def LinkOneCardSaid : Prop := Claim7.holds Tryd.pinned (.plain (OpenSpec.ofChange linkOneSpec)) linkOneCard

/-- THE TIED CARD OF 'trellislaw4.LinkOrder'. -/
def linkOrderCard : Claim7 := { stood := { row := linkOrderRow, standIns := [], harness := (true, "65ede26ad50356d94095dcc2d7d40a91767bf386fa02f47e2eedacc9e8540dda"), looks := false }, kinds := [], alts := [], laidByText := true, laidKinds := [.data], laidTests := true, laidLooks := .later }
def LinkOrderCardSaid : Prop := Claim7.holds Tryd.pinned (.plain (OpenSpec.ofChange linkOrderSpec)) linkOrderCard

/-- THE TIED CARD OF 'trellislaw4.LinkBack'. -/
def linkBackCard : Claim7 := { stood := { row := linkBackRow, standIns := [], harness := (true, "65ede26ad50356d94095dcc2d7d40a91767bf386fa02f47e2eedacc9e8540dda"), looks := false }, kinds := [], alts := [], laidByText := true, laidKinds := [.data], laidTests := true, laidLooks := .later }
def LinkBackCardSaid : Prop := Claim7.holds Tryd.pinned (.plain (OpenSpec.ofChange linkBackSpec)) linkBackCard

/-- THE TIED CARD OF 'trellislaw4.LinkHolds'. -/
def linkHoldsCard : Claim7 := { stood := { row := linkHoldsRow, standIns := [], harness := (true, "65ede26ad50356d94095dcc2d7d40a91767bf386fa02f47e2eedacc9e8540dda"), looks := false }, kinds := [], alts := [], laidByText := true, laidKinds := [.data], laidTests := true, laidLooks := .later }
def LinkHoldsCardSaid : Prop := Claim7.holds Tryd.pinned (.plain (OpenSpec.ofChange linkHoldsSpec)) linkHoldsCard

/-- THE TIED CARD OF 'trellislaw4.LinkNamed'. -/
def linkNamedCard : Claim7 := { stood := { row := linkNamedRow, standIns := [], harness := (true, "65ede26ad50356d94095dcc2d7d40a91767bf386fa02f47e2eedacc9e8540dda"), looks := false }, kinds := [], alts := [], laidByText := true, laidKinds := [.data], laidTests := true, laidLooks := .later }
def LinkNamedCardSaid : Prop := Claim7.holds Tryd.pinned (.plain (OpenSpec.ofChange linkNamedSpec)) linkNamedCard

/-- THE SECOND FORM's CARD OF 'trellislaw4.LinkTexts'. -/
def linkTextsUptoCard : Claim7 := { stood := { row := linkTextsUptoRow, standIns := [], harness := (true, "65ede26ad50356d94095dcc2d7d40a91767bf386fa02f47e2eedacc9e8540dda"), looks := false }, kinds := [], alts := [], laidByText := true, laidKinds := [.data], laidTests := true, laidLooks := .later }
def LinkTextsUptoCardSaid : Prop := Claim7.holds Tryd.pinned (.plain (OpenSpec.upto linkTextsSpec)) linkTextsUptoCard

/-- THE SECOND FORM's CARD OF 'trellislaw4.LinkOne'. -/
def linkOneUptoCard : Claim7 := { stood := { row := linkOneUptoRow, standIns := [], harness := (true, "65ede26ad50356d94095dcc2d7d40a91767bf386fa02f47e2eedacc9e8540dda"), looks := false }, kinds := [], alts := [], laidByText := true, laidKinds := [.data], laidTests := true, laidLooks := .later }
def LinkOneUptoCardSaid : Prop := Claim7.holds Tryd.pinned (.plain (OpenSpec.upto linkOneSpec)) linkOneUptoCard

/-- THE SECOND FORM's CARD OF 'trellislaw4.LinkOrder'. -/
def linkOrderUptoCard : Claim7 := { stood := { row := linkOrderUptoRow, standIns := [], harness := (true, "65ede26ad50356d94095dcc2d7d40a91767bf386fa02f47e2eedacc9e8540dda"), looks := false }, kinds := [], alts := [], laidByText := true, laidKinds := [.data], laidTests := true, laidLooks := .later }
def LinkOrderUptoCardSaid : Prop := Claim7.holds Tryd.pinned (.plain (OpenSpec.upto linkOrderSpec)) linkOrderUptoCard

/-- THE SECOND FORM's CARD OF 'trellislaw4.LinkBack'. -/
def linkBackUptoCard : Claim7 := { stood := { row := linkBackUptoRow, standIns := [], harness := (true, "65ede26ad50356d94095dcc2d7d40a91767bf386fa02f47e2eedacc9e8540dda"), looks := false }, kinds := [], alts := [], laidByText := true, laidKinds := [.data], laidTests := true, laidLooks := .later }
def LinkBackUptoCardSaid : Prop := Claim7.holds Tryd.pinned (.plain (OpenSpec.upto linkBackSpec)) linkBackUptoCard

/-- THE SECOND FORM's CARD OF 'trellislaw4.LinkHolds'. -/
def linkHoldsUptoCard : Claim7 := { stood := { row := linkHoldsUptoRow, standIns := [], harness := (true, "65ede26ad50356d94095dcc2d7d40a91767bf386fa02f47e2eedacc9e8540dda"), looks := false }, kinds := [], alts := [], laidByText := true, laidKinds := [.data], laidTests := true, laidLooks := .later }
def LinkHoldsUptoCardSaid : Prop := Claim7.holds Tryd.pinned (.plain (OpenSpec.upto linkHoldsSpec)) linkHoldsUptoCard

/-- THE SECOND FORM's CARD OF 'trellislaw4.LinkNamed'. -/
def linkNamedUptoCard : Claim7 := { stood := { row := linkNamedUptoRow, standIns := [], harness := (true, "65ede26ad50356d94095dcc2d7d40a91767bf386fa02f47e2eedacc9e8540dda"), looks := false }, kinds := [], alts := [], laidByText := true, laidKinds := [.data], laidTests := true, laidLooks := .later }
def LinkNamedUptoCardSaid : Prop := Claim7.holds Tryd.pinned (.plain (OpenSpec.upto linkNamedSpec)) linkNamedUptoCard
end Rows
end Go.Proofs.YtokoohdpakhphaaDoor
