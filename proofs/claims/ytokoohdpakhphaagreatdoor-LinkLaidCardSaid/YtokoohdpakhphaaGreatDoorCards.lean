/-
  DERIVED. GIVEN WITH THE SEED: THE CARDS: each row of YtokoohdpakhphaaGreatDoorRows.lean that lists a variable, with what it lists TIED to the program's text (the seventh form; the later family's looks); each row that meets fmt, with fmt's text TOLD by the authors' own Lean function (tested against real Go, not proved from fmt's source: count such statements apart). THE CARD IS WHAT COUNTS. Prove the row's statement (the work); the ties are given (YtokoohdpakhphaaGreatDoorTie.lean); close each card by the builder's one call (the guide's Derived/Test/ToyasCard.lean, 'card_holds'). Laid BY PROGRAM, IN A SANDBOX (cutbox-door.mjs). By AI agents, Wed Nov 11 2026. No macro, syntax, notation, axiom, sorry.
-/
import Derived.Test.YtokoohdpakhphaaGreatDoorRows
import GoSem.ClaimSeven
namespace Go.Proofs.YtokoohdpakhphaaGreatDoor
namespace Rows

/-- THE TIED CARD OF 'trellislaw4.LinkLaid'. -/
def linkLaidCard : Claim7 := { stood := { row := linkLaidRow, standIns := [], harness := (true, "6ed32a4361647c0d976c5a5506a84674c42b21c4307dd604803f34c319d23edc"), looks := false }, kinds := [], alts := [], laidByText := true, laidKinds := [.data], laidTests := true, laidLooks := .later }
def LinkLaidCardSaid : Prop := Claim7.holds Tryz.pinned (.plain (OpenSpec.ofChange linkLaidSpec)) linkLaidCard

/-- THE SECOND FORM's CARD OF 'trellislaw4.LinkLaid'. -/
def linkLaidUptoCard : Claim7 := { stood := { row := linkLaidUptoRow, standIns := [], harness := (true, "6ed32a4361647c0d976c5a5506a84674c42b21c4307dd604803f34c319d23edc"), looks := false }, kinds := [], alts := [], laidByText := true, laidKinds := [.data], laidTests := true, laidLooks := .later }
def LinkLaidUptoCardSaid : Prop := Claim7.holds Tryz.pinned (.plain (OpenSpec.upto linkLaidSpec)) linkLaidUptoCard
end Rows
end Go.Proofs.YtokoohdpakhphaaGreatDoor
