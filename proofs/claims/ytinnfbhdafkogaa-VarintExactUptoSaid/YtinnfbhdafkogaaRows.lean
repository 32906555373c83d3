/-
  No cell of these rows narrows 'for every input' (looked for: loops, veiled, ifaces, maps, wideKeys, modest, calm, conditions, laid).
  DERIVED. THE GIVEN ROWS OF THIS SEAT. 7 by the template 'for every input the law returns true; each argument reads behind the call as it read before'; 0 by the template 'total and deterministic' (their statements: YtinnfbhdafkogaaTotals.lean).
  GIVEN WITH THE SEED: the statements are not yours to turn. If you find one false, say at which input.
  Laid BY PROGRAM, IN A SANDBOX (cutbox-rows.mjs): the forced cells as the released guide's own fill.sh prints them over the translation e11c95bd12ff9390… (all of the seat's roots in one cut). By AI agents, Wed Nov 11 2026. No macro, syntax, notation, axiom, sorry.
-/
import Derived.Test.YtinnfbhdafkogaaChecked
import GoSem.Claim
import GoSem.ClaimJoined
import GoSem.ClaimMapViews
import Derived.JoinedTies
import Derived.KernelRfl
namespace Go.Proofs.Ytinnfbhdafkogaa
/- THE CELL 'sum', in the pinned program and in every row, IS THE sha256 OF THE DUMP (.gsa) THAT YtinnfbhdafkogaaProg.lean LOADS. Nothing in Lean hashes anything: it is a label: what it is worth is what the hold of that sum in a sandbox is worth. -/
noncomputable def Try.pinned : Pinned := { name := "ytinnfbhdafkogaa", sum := "e11c95bd12ff93908c380f72897849d0b061716c1ec87113825e691f4f474f00", checked := Try.checked }
namespace Rows
def none {H : Type} : Left H := { results := [], args := [] }

/-- 'trellislaw0.ApiErrors': WHATEVER THE INPUT: true; the input reads as it did. -/
def apiErrorsSpec : ChangeSpec := { name := "apiErrors", fn := fun _ => fun
  | [] => { results := [.lit (.bool true)], args := [] }
  | _ => none }
def apiErrorsRow : OpenClaim := { program := "ytinnfbhdafkogaa", sum := "e11c95bd12ff93908c380f72897849d0b061716c1ec87113825e691f4f474f00", func := "trellis/trellislaw0.ApiErrors", spec := "apiErrors", apart := false }
def ApiErrorsSaid : Prop := apiErrorsRow.holds Try.pinned (OpenSpec.ofChange apiErrorsSpec)

/-- ITS FALSE NEIGHBOUR: 'it returns false'. Refute it at one input. -/
def apiErrorsWrong : ChangeSpec := { name := "apiErrors", fn := fun _ => fun
  | [] => { results := [.lit (.bool false)], args := [] }
  | _ => none }
def ApiErrorsWrongFalsely : Prop := apiErrorsRow.holds Try.pinned (OpenSpec.ofChange apiErrorsWrong)

/-- 'trellislaw0.ApiLimits': WHATEVER THE INPUT: true; the input reads as it did. -/
def apiLimitsSpec : ChangeSpec := { name := "apiLimits", fn := fun _ => fun
  | [] => { results := [.lit (.bool true)], args := [] }
  | _ => none }
def apiLimitsRow : OpenClaim := { program := "ytinnfbhdafkogaa", sum := "e11c95bd12ff93908c380f72897849d0b061716c1ec87113825e691f4f474f00", func := "trellis/trellislaw0.ApiLimits", spec := "apiLimits", apart := false }
def ApiLimitsSaid : Prop := apiLimitsRow.holds Try.pinned (OpenSpec.ofChange apiLimitsSpec)

/-- ITS FALSE NEIGHBOUR: 'it returns false'. Refute it at one input. -/
def apiLimitsWrong : ChangeSpec := { name := "apiLimits", fn := fun _ => fun
  | [] => { results := [.lit (.bool false)], args := [] }
  | _ => none }
def ApiLimitsWrongFalsely : Prop := apiLimitsRow.holds Try.pinned (OpenSpec.ofChange apiLimitsWrong)

/-- 'trellislaw0.ApiKinds': WHATEVER THE INPUT: true; the input reads as it did. -/
def apiKindsSpec : ChangeSpec := { name := "apiKinds", fn := fun _ => fun
  | [] => { results := [.lit (.bool true)], args := [] }
  | _ => none }
def apiKindsRow : OpenClaim := { program := "ytinnfbhdafkogaa", sum := "e11c95bd12ff93908c380f72897849d0b061716c1ec87113825e691f4f474f00", func := "trellis/trellislaw0.ApiKinds", spec := "apiKinds", apart := false }
def ApiKindsSaid : Prop := apiKindsRow.holds Try.pinned (OpenSpec.ofChange apiKindsSpec)

/-- ITS FALSE NEIGHBOUR: 'it returns false'. Refute it at one input. -/
def apiKindsWrong : ChangeSpec := { name := "apiKinds", fn := fun _ => fun
  | [] => { results := [.lit (.bool false)], args := [] }
  | _ => none }
def ApiKindsWrongFalsely : Prop := apiKindsRow.holds Try.pinned (OpenSpec.ofChange apiKindsWrong)

/-- 'trellislaw0.ApiLinks': WHATEVER THE INPUT: true; the input reads as it did. -/
def apiLinksSpec : ChangeSpec := { name := "apiLinks", fn := fun _ => fun
  | [] => { results := [.lit (.bool true)], args := [] }
  | _ => none }
def apiLinksRow : OpenClaim := { program := "ytinnfbhdafkogaa", sum := "e11c95bd12ff93908c380f72897849d0b061716c1ec87113825e691f4f474f00", func := "trellis/trellislaw0.ApiLinks", spec := "apiLinks", apart := false }
def ApiLinksSaid : Prop := apiLinksRow.holds Try.pinned (OpenSpec.ofChange apiLinksSpec)

/-- ITS FALSE NEIGHBOUR: 'it returns false'. Refute it at one input. -/
def apiLinksWrong : ChangeSpec := { name := "apiLinks", fn := fun _ => fun
  | [] => { results := [.lit (.bool false)], args := [] }
  | _ => none }
def ApiLinksWrongFalsely : Prop := apiLinksRow.holds Try.pinned (OpenSpec.ofChange apiLinksWrong)

/-- 'trellislaw1.VarintExact': WHATEVER THE INPUT: true; the input reads as it did. -/
def varintExactSpec : ChangeSpec := { name := "varintExact", fn := fun _ => fun
  | [d] => { results := [.lit (.bool true)], args := [d] }
  | _ => none }
def varintExactRow : OpenClaim := { program := "ytinnfbhdafkogaa", sum := "e11c95bd12ff93908c380f72897849d0b061716c1ec87113825e691f4f474f00", func := "trellis/trellislaw1.VarintExact", spec := "varintExact", recurses := true, apart := false }
def VarintExactSaid : Prop := varintExactRow.holds Try.pinned (OpenSpec.ofChange varintExactSpec)

/-- ITS FALSE NEIGHBOUR: 'it returns false'. Refute it at one input. -/
def varintExactWrong : ChangeSpec := { name := "varintExact", fn := fun _ => fun
  | [d] => { results := [.lit (.bool false)], args := [d] }
  | _ => none }
def VarintExactWrongFalsely : Prop := varintExactRow.holds Try.pinned (OpenSpec.ofChange varintExactWrong)

/-- 'trellislaw1.VarintThere': WHATEVER THE INPUT: true; the input reads as it did. -/
def varintThereSpec : ChangeSpec := { name := "varintThere", fn := fun _ => fun
  | [d] => { results := [.lit (.bool true)], args := [d] }
  | _ => none }
def varintThereRow : OpenClaim := { program := "ytinnfbhdafkogaa", sum := "e11c95bd12ff93908c380f72897849d0b061716c1ec87113825e691f4f474f00", func := "trellis/trellislaw1.VarintThere", spec := "varintThere", apart := false }
def VarintThereSaid : Prop := varintThereRow.holds Try.pinned (OpenSpec.ofChange varintThereSpec)

/-- ITS FALSE NEIGHBOUR: 'it returns false'. Refute it at one input. -/
def varintThereWrong : ChangeSpec := { name := "varintThere", fn := fun _ => fun
  | [d] => { results := [.lit (.bool false)], args := [d] }
  | _ => none }
def VarintThereWrongFalsely : Prop := varintThereRow.holds Try.pinned (OpenSpec.ofChange varintThereWrong)

/-- 'trellislaw1.VarintBack': WHATEVER THE INPUT: true; the input reads as it did. -/
def varintBackSpec : ChangeSpec := { name := "varintBack", fn := fun _ => fun
  | [d] => { results := [.lit (.bool true)], args := [d] }
  | _ => none }
def varintBackRow : OpenClaim := { program := "ytinnfbhdafkogaa", sum := "e11c95bd12ff93908c380f72897849d0b061716c1ec87113825e691f4f474f00", func := "trellis/trellislaw1.VarintBack", spec := "varintBack", apart := false }
def VarintBackSaid : Prop := varintBackRow.holds Try.pinned (OpenSpec.ofChange varintBackSpec)

/-- ITS FALSE NEIGHBOUR: 'it returns false'. Refute it at one input. -/
def varintBackWrong : ChangeSpec := { name := "varintBack", fn := fun _ => fun
  | [d] => { results := [.lit (.bool false)], args := [d] }
  | _ => none }
def VarintBackWrongFalsely : Prop := varintBackRow.holds Try.pinned (OpenSpec.ofChange varintBackWrong)

/- THE SECOND FORM. 'bulk': how many values and letters a reading holds, each counted each time it is reached (what is shared counts as often as it is met; a slice's spare places count too). A statement '..UptoSaid' is the law's where the arguments, and the package variables that the reading takes, are together of bulk at most 1048576: NARROWER than '..Said'. Prove '..Said' where nothing that the law and all that it calls make is longer than what came in: it says more and counts as full. Else prove '..UptoSaid'. A law counts once. -/
mutual
def uptoBulk {H : Type} : DataW H → Nat
  | .lit (.string bytes) => bytes.length + 1
  | .lit _ => 1
  | .nil => 1
  | .ptr d => uptoBulk d + 1
  | .slice elems spare => uptoBulkAll elems + uptoBulkAll spare + 1
  | .agg parts => uptoBulkAll parts + 1
  | .iface _ d => uptoBulk d + 1
  | .map entries => uptoBulkEntries entries + 1
  | .held _ => 1
def uptoBulkAll {H : Type} : List (DataW H) → Nat
  | [] => 0
  | d :: r => uptoBulk d + uptoBulkAll r
def uptoBulkEntries {H : Type} : List (Lit × DataW H) → Nat
  | [] => 0
  | x :: r => uptoBulkEntry x + uptoBulkEntries r
def uptoBulkEntry {H : Type} : Lit × DataW H → Nat
  | (.string bytes, d) => bytes.length + uptoBulk d + 1
  | (_, d) => uptoBulk d + 1
 end
def uptoSmall : (H : Type) → List (DataW H) → Bool := fun _ ds => decide (uptoBulkAll ds ≤ 1048576)
def OpenSpec.upto (s : _root_.Go.ChangeSpec) : _root_.Go.OpenSpec := { _root_.Go.OpenSpec.ofChange s with cond := some uptoSmall }

/-- 'trellislaw0.ApiErrors', WHERE WHAT IT READS IS OF BULK AT MOST 1048576: true; the input reads as it did. -/
def apiErrorsUptoRow : OpenClaim := { program := "ytinnfbhdafkogaa", sum := "e11c95bd12ff93908c380f72897849d0b061716c1ec87113825e691f4f474f00", func := "trellis/trellislaw0.ApiErrors", spec := "apiErrors", apart := false, narrowed := true }
def ApiErrorsUptoSaid : Prop := apiErrorsUptoRow.holds Try.pinned (OpenSpec.upto apiErrorsSpec)

/-- 'trellislaw0.ApiLimits', WHERE WHAT IT READS IS OF BULK AT MOST 1048576: true; the input reads as it did. -/
def apiLimitsUptoRow : OpenClaim := { program := "ytinnfbhdafkogaa", sum := "e11c95bd12ff93908c380f72897849d0b061716c1ec87113825e691f4f474f00", func := "trellis/trellislaw0.ApiLimits", spec := "apiLimits", apart := false, narrowed := true }
def ApiLimitsUptoSaid : Prop := apiLimitsUptoRow.holds Try.pinned (OpenSpec.upto apiLimitsSpec)

/-- 'trellislaw0.ApiKinds', WHERE WHAT IT READS IS OF BULK AT MOST 1048576: true; the input reads as it did. -/
def apiKindsUptoRow : OpenClaim := { program := "ytinnfbhdafkogaa", sum := "e11c95bd12ff93908c380f72897849d0b061716c1ec87113825e691f4f474f00", func := "trellis/trellislaw0.ApiKinds", spec := "apiKinds", apart := false, narrowed := true }
def ApiKindsUptoSaid : Prop := apiKindsUptoRow.holds Try.pinned (OpenSpec.upto apiKindsSpec)

/-- 'trellislaw0.ApiLinks', WHERE WHAT IT READS IS OF BULK AT MOST 1048576: true; the input reads as it did. -/
def apiLinksUptoRow : OpenClaim := { program := "ytinnfbhdafkogaa", sum := "e11c95bd12ff93908c380f72897849d0b061716c1ec87113825e691f4f474f00", func := "trellis/trellislaw0.ApiLinks", spec := "apiLinks", apart := false, narrowed := true }
def ApiLinksUptoSaid : Prop := apiLinksUptoRow.holds Try.pinned (OpenSpec.upto apiLinksSpec)

/-- 'trellislaw1.VarintExact', WHERE WHAT IT READS IS OF BULK AT MOST 1048576: true; the input reads as it did. -/
def varintExactUptoRow : OpenClaim := { program := "ytinnfbhdafkogaa", sum := "e11c95bd12ff93908c380f72897849d0b061716c1ec87113825e691f4f474f00", func := "trellis/trellislaw1.VarintExact", spec := "varintExact", recurses := true, apart := false, narrowed := true }
def VarintExactUptoSaid : Prop := varintExactUptoRow.holds Try.pinned (OpenSpec.upto varintExactSpec)

/-- 'trellislaw1.VarintThere', WHERE WHAT IT READS IS OF BULK AT MOST 1048576: true; the input reads as it did. -/
def varintThereUptoRow : OpenClaim := { program := "ytinnfbhdafkogaa", sum := "e11c95bd12ff93908c380f72897849d0b061716c1ec87113825e691f4f474f00", func := "trellis/trellislaw1.VarintThere", spec := "varintThere", apart := false, narrowed := true }
def VarintThereUptoSaid : Prop := varintThereUptoRow.holds Try.pinned (OpenSpec.upto varintThereSpec)

/-- 'trellislaw1.VarintBack', WHERE WHAT IT READS IS OF BULK AT MOST 1048576: true; the input reads as it did. -/
def varintBackUptoRow : OpenClaim := { program := "ytinnfbhdafkogaa", sum := "e11c95bd12ff93908c380f72897849d0b061716c1ec87113825e691f4f474f00", func := "trellis/trellislaw1.VarintBack", spec := "varintBack", apart := false, narrowed := true }
def VarintBackUptoSaid : Prop := varintBackUptoRow.holds Try.pinned (OpenSpec.upto varintBackSpec)

end Rows
end Go.Proofs.Ytinnfbhdafkogaa
