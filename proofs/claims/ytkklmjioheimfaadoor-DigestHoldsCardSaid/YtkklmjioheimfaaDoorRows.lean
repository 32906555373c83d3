/-
  NARROWER THAN 'FOR EVERY INPUT', by the rows' own cells (each row's printed sentence says how): DigestExact: laid · DigestParts: laid · DigestHolds: laid · DigestWhole: laid · DigestKnown: laid · DigestLaid: laid · DigestBack: laid.
  DERIVED. THE GIVEN ROWS OF THIS SEAT. 7 by the template 'for every input the law returns true; each argument reads behind the call as it read before'; 0 by the template 'total and deterministic' (their statements: YtkklmjioheimfaaDoorTotals.lean).
  GIVEN WITH THE SEED: the statements are not yours to turn. If you find one false, say at which input.
  Laid BY PROGRAM, IN A SANDBOX (cutbox-rows.mjs): the forced cells as the released guide's own fill.sh prints them over the translation 0df96199a4fd5b3d… (all of the seat's roots in one cut). By AI agents, Wed Nov 11 2026. No macro, syntax, notation, axiom, sorry.
-/
import Derived.Test.YtkklmjioheimfaaDoorChecked
import GoSem.Claim
import GoSem.ClaimJoined
import GoSem.ClaimMapViews
import Derived.JoinedTies
import Derived.KernelRfl
namespace Go.Proofs.YtkklmjioheimfaaDoor
/- THE CELL 'sum', in the pinned program and in every row, IS THE sha256 OF THE DUMP (.gsa) THAT YtkklmjioheimfaaDoorProg.lean LOADS. Nothing in Lean hashes anything: it is a label: what it is worth is what the hold of that sum in a sandbox is worth. -/
noncomputable def Tryd.pinned : Pinned := { name := "ytkklmjioheimfaadoor", sum := "0df96199a4fd5b3dc076c317b670597db25744ce02669b8034ab8c8e6e4ee3a0", checked := Tryd.checked }
namespace Rows
def none {H : Type} : Left H := { results := [], args := [] }

/- WHAT THE LISTED PACKAGE-LEVEL VARIABLES READ AS WHEN THE CALL BEGINS. Each datum BY PROGRAM (the guide's laid-datum.mjs) off the statement by which the dump's own 'gosem.cut.vars' lays the variable. In a bare row this is a premise. The card (YtkklmjioheimfaaDoorCards.lean) ties it to the program's text. -/
def laid_trellis_digest_factors {H : Type} : DataW H := .agg [.lit (.int .u32 1116352408), .lit (.int .u32 1899447441), .lit (.int .u32 3049323471), .lit (.int .u32 3921009573), .lit (.int .u32 961987163), .lit (.int .u32 1508970993), .lit (.int .u32 2453635748), .lit (.int .u32 2870763221), .lit (.int .u32 3624381080), .lit (.int .u32 310598401), .lit (.int .u32 607225278), .lit (.int .u32 1426881987), .lit (.int .u32 1925078388), .lit (.int .u32 2162078206), .lit (.int .u32 2614888103), .lit (.int .u32 3248222580), .lit (.int .u32 3835390401), .lit (.int .u32 4022224774), .lit (.int .u32 264347078), .lit (.int .u32 604807628), .lit (.int .u32 770255983), .lit (.int .u32 1249150122), .lit (.int .u32 1555081692), .lit (.int .u32 1996064986), .lit (.int .u32 2554220882), .lit (.int .u32 2821834349), .lit (.int .u32 2952996808), .lit (.int .u32 3210313671), .lit (.int .u32 3336571891), .lit (.int .u32 3584528711), .lit (.int .u32 113926993), .lit (.int .u32 338241895), .lit (.int .u32 666307205), .lit (.int .u32 773529912), .lit (.int .u32 1294757372), .lit (.int .u32 1396182291), .lit (.int .u32 1695183700), .lit (.int .u32 1986661051), .lit (.int .u32 2177026350), .lit (.int .u32 2456956037), .lit (.int .u32 2730485921), .lit (.int .u32 2820302411), .lit (.int .u32 3259730800), .lit (.int .u32 3345764771), .lit (.int .u32 3516065817), .lit (.int .u32 3600352804), .lit (.int .u32 4094571909), .lit (.int .u32 275423344), .lit (.int .u32 430227734), .lit (.int .u32 506948616), .lit (.int .u32 659060556), .lit (.int .u32 883997877), .lit (.int .u32 958139571), .lit (.int .u32 1322822218), .lit (.int .u32 1537002063), .lit (.int .u32 1747873779), .lit (.int .u32 1955562222), .lit (.int .u32 2024104815), .lit (.int .u32 2227730452), .lit (.int .u32 2361852424), .lit (.int .u32 2428436474), .lit (.int .u32 2756734187), .lit (.int .u32 3204031479), .lit (.int .u32 3329325298)]

/-- 'trellislaw3.DigestExact': WHATEVER THE INPUT: true; the input reads as it did. -/
def digestExactSpec : ChangeSpec := { name := "digestExact", fn := fun _ => fun
  | [d] => { results := [.lit (.bool true)], args := [d] }
  | _ => none }
def digestExactRow : OpenClaim := { program := "ytkklmjioheimfaadoor", sum := "0df96199a4fd5b3dc076c317b670597db25744ce02669b8034ab8c8e6e4ee3a0", func := "trellis/trellislaw3.DigestExact", spec := "digestExact", named := ["trellis/digest.factors"], apart := false, laid := [("trellis/digest.factors", laid_trellis_digest_factors)] }
def DigestExactSaid : Prop := digestExactRow.holds Tryd.pinned (OpenSpec.ofChange digestExactSpec)

/-- ITS FALSE NEIGHBOUR: 'it returns false'. Refute it at one input. -/
def digestExactWrong : ChangeSpec := { name := "digestExact", fn := fun _ => fun
  | [d] => { results := [.lit (.bool false)], args := [d] }
  | _ => none }
def DigestExactWrongFalsely : Prop := digestExactRow.holds Tryd.pinned (OpenSpec.ofChange digestExactWrong)

/-- 'trellislaw3.DigestParts': WHATEVER THE INPUT: true; the input reads as it did. -/
def digestPartsSpec : ChangeSpec := { name := "digestParts", fn := fun _ => fun
  | [d] => { results := [.lit (.bool true)], args := [d] }
  | _ => none }
def digestPartsRow : OpenClaim := { program := "ytkklmjioheimfaadoor", sum := "0df96199a4fd5b3dc076c317b670597db25744ce02669b8034ab8c8e6e4ee3a0", func := "trellis/trellislaw3.DigestParts", spec := "digestParts", named := ["trellis/digest.factors"], apart := false, laid := [("trellis/digest.factors", laid_trellis_digest_factors)] }
def DigestPartsSaid : Prop := digestPartsRow.holds Tryd.pinned (OpenSpec.ofChange digestPartsSpec)

/-- ITS FALSE NEIGHBOUR: 'it returns false'. Refute it at one input. -/
def digestPartsWrong : ChangeSpec := { name := "digestParts", fn := fun _ => fun
  | [d] => { results := [.lit (.bool false)], args := [d] }
  | _ => none }
def DigestPartsWrongFalsely : Prop := digestPartsRow.holds Tryd.pinned (OpenSpec.ofChange digestPartsWrong)

/-- 'trellislaw3.DigestHolds': WHATEVER THE INPUT: true; the input reads as it did. -/
def digestHoldsSpec : ChangeSpec := { name := "digestHolds", fn := fun _ => fun
  | [d] => { results := [.lit (.bool true)], args := [d] }
  | _ => none }
def digestHoldsRow : OpenClaim := { program := "ytkklmjioheimfaadoor", sum := "0df96199a4fd5b3dc076c317b670597db25744ce02669b8034ab8c8e6e4ee3a0", func := "trellis/trellislaw3.DigestHolds", spec := "digestHolds", named := ["trellis/digest.factors"], apart := false, laid := [("trellis/digest.factors", laid_trellis_digest_factors)] }
def DigestHoldsSaid : Prop := digestHoldsRow.holds Tryd.pinned (OpenSpec.ofChange digestHoldsSpec)

/-- ITS FALSE NEIGHBOUR: 'it returns false'. Refute it at one input. -/
def digestHoldsWrong : ChangeSpec := { name := "digestHolds", fn := fun _ => fun
  | [d] => { results := [.lit (.bool false)], args := [d] }
  | _ => none }
def DigestHoldsWrongFalsely : Prop := digestHoldsRow.holds Tryd.pinned (OpenSpec.ofChange digestHoldsWrong)

/-- 'trellislaw3.DigestWhole': WHATEVER THE INPUT: true; the input reads as it did. -/
def digestWholeSpec : ChangeSpec := { name := "digestWhole", fn := fun _ => fun
  | [d] => { results := [.lit (.bool true)], args := [d] }
  | _ => none }
def digestWholeRow : OpenClaim := { program := "ytkklmjioheimfaadoor", sum := "0df96199a4fd5b3dc076c317b670597db25744ce02669b8034ab8c8e6e4ee3a0", func := "trellis/trellislaw3.DigestWhole", spec := "digestWhole", named := ["trellis/digest.factors"], apart := false, laid := [("trellis/digest.factors", laid_trellis_digest_factors)] }
def DigestWholeSaid : Prop := digestWholeRow.holds Tryd.pinned (OpenSpec.ofChange digestWholeSpec)

/-- ITS FALSE NEIGHBOUR: 'it returns false'. Refute it at one input. -/
def digestWholeWrong : ChangeSpec := { name := "digestWhole", fn := fun _ => fun
  | [d] => { results := [.lit (.bool false)], args := [d] }
  | _ => none }
def DigestWholeWrongFalsely : Prop := digestWholeRow.holds Tryd.pinned (OpenSpec.ofChange digestWholeWrong)

/-- 'trellislaw3.DigestKnown': WHATEVER THE INPUT: true; the input reads as it did. -/
def digestKnownSpec : ChangeSpec := { name := "digestKnown", fn := fun _ => fun
  | [] => { results := [.lit (.bool true)], args := [] }
  | _ => none }
def digestKnownRow : OpenClaim := { program := "ytkklmjioheimfaadoor", sum := "0df96199a4fd5b3dc076c317b670597db25744ce02669b8034ab8c8e6e4ee3a0", func := "trellis/trellislaw3.DigestKnown", spec := "digestKnown", named := ["trellis/digest.factors"], apart := false, laid := [("trellis/digest.factors", laid_trellis_digest_factors)] }
def DigestKnownSaid : Prop := digestKnownRow.holds Tryd.pinned (OpenSpec.ofChange digestKnownSpec)

/-- ITS FALSE NEIGHBOUR: 'it returns false'. Refute it at one input. -/
def digestKnownWrong : ChangeSpec := { name := "digestKnown", fn := fun _ => fun
  | [] => { results := [.lit (.bool false)], args := [] }
  | _ => none }
def DigestKnownWrongFalsely : Prop := digestKnownRow.holds Tryd.pinned (OpenSpec.ofChange digestKnownWrong)

/-- 'trellislaw3.DigestLaid': WHATEVER THE INPUT: true; the input reads as it did. -/
def digestLaidSpec : ChangeSpec := { name := "digestLaid", fn := fun _ => fun
  | [d] => { results := [.lit (.bool true)], args := [d] }
  | _ => none }
def digestLaidRow : OpenClaim := { program := "ytkklmjioheimfaadoor", sum := "0df96199a4fd5b3dc076c317b670597db25744ce02669b8034ab8c8e6e4ee3a0", func := "trellis/trellislaw3.DigestLaid", spec := "digestLaid", named := ["trellis/digest.factors"], apart := false, laid := [("trellis/digest.factors", laid_trellis_digest_factors)] }
def DigestLaidSaid : Prop := digestLaidRow.holds Tryd.pinned (OpenSpec.ofChange digestLaidSpec)

/-- ITS FALSE NEIGHBOUR: 'it returns false'. Refute it at one input. -/
def digestLaidWrong : ChangeSpec := { name := "digestLaid", fn := fun _ => fun
  | [d] => { results := [.lit (.bool false)], args := [d] }
  | _ => none }
def DigestLaidWrongFalsely : Prop := digestLaidRow.holds Tryd.pinned (OpenSpec.ofChange digestLaidWrong)

/-- 'trellislaw3.DigestBack': WHATEVER THE INPUT: true; the input reads as it did. -/
def digestBackSpec : ChangeSpec := { name := "digestBack", fn := fun _ => fun
  | [d] => { results := [.lit (.bool true)], args := [d] }
  | _ => none }
def digestBackRow : OpenClaim := { program := "ytkklmjioheimfaadoor", sum := "0df96199a4fd5b3dc076c317b670597db25744ce02669b8034ab8c8e6e4ee3a0", func := "trellis/trellislaw3.DigestBack", spec := "digestBack", named := ["trellis/digest.factors"], apart := false, laid := [("trellis/digest.factors", laid_trellis_digest_factors)] }
def DigestBackSaid : Prop := digestBackRow.holds Tryd.pinned (OpenSpec.ofChange digestBackSpec)

/-- ITS FALSE NEIGHBOUR: 'it returns false'. Refute it at one input. -/
def digestBackWrong : ChangeSpec := { name := "digestBack", fn := fun _ => fun
  | [d] => { results := [.lit (.bool false)], args := [d] }
  | _ => none }
def DigestBackWrongFalsely : Prop := digestBackRow.holds Tryd.pinned (OpenSpec.ofChange digestBackWrong)

/- THE SECOND FORM. 'bulk': how many values and letters a reading holds, each counted each time it is reached (what is shared counts as often as it is met; a slice's spare places count too). A statement '..UptoSaid' is the law's where the arguments, and the package variables that the reading takes, are together of bulk at most 1048576: NARROWER than '..Said'. Prove '..Said' where nothing that the law and all that it calls make is longer than what came in: it says more and counts as full. Else prove '..UptoSaid'. A law counts once. -/
mutual
def uptoBulk {H : Type} : DataW H → Nat
  | .lit (.string bytes) => bytes.length + 1
  | .lit _ => 1
  | .nil => 1
  | .ptr d => uptoBulk d + 1
  | .slice elems spare => uptoBulkAll elems + uptoBulkAll spare + 1
  | .agg parts => uptoBulkAll parts + 1
  | .iface _ d => uptoBulk d + 1
  | .map entries => uptoBulkEntries entries + 1
  | .held _ => 1
def uptoBulkAll {H : Type} : List (DataW H) → Nat
  | [] => 0
  | d :: r => uptoBulk d + uptoBulkAll r
def uptoBulkEntries {H : Type} : List (Lit × DataW H) → Nat
  | [] => 0
  | x :: r => uptoBulkEntry x + uptoBulkEntries r
def uptoBulkEntry {H : Type} : Lit × DataW H → Nat
  | (.string bytes, d) => bytes.length + uptoBulk d + 1
  | (_, d) => uptoBulk d + 1
 end
def uptoSmall : (H : Type) → List (DataW H) → Bool := fun _ ds => decide (uptoBulkAll ds ≤ 1048576)
def OpenSpec.upto (s : _root_.Go.ChangeSpec) : _root_.Go.OpenSpec := { _root_.Go.OpenSpec.ofChange s with cond := some uptoSmall }

/-- 'trellislaw3.DigestExact', WHERE WHAT IT READS IS OF BULK AT MOST 1048576: true; the input reads as it did. -/
def digestExactUptoRow : OpenClaim := { program := "ytkklmjioheimfaadoor", sum := "0df96199a4fd5b3dc076c317b670597db25744ce02669b8034ab8c8e6e4ee3a0", func := "trellis/trellislaw3.DigestExact", spec := "digestExact", named := ["trellis/digest.factors"], apart := false, laid := [("trellis/digest.factors", laid_trellis_digest_factors)], narrowed := true }
def DigestExactUptoSaid : Prop := digestExactUptoRow.holds Tryd.pinned (OpenSpec.upto digestExactSpec)

/-- 'trellislaw3.DigestParts', WHERE WHAT IT READS IS OF BULK AT MOST 1048576: true; the input reads as it did. -/
def digestPartsUptoRow : OpenClaim := { program := "ytkklmjioheimfaadoor", sum := "0df96199a4fd5b3dc076c317b670597db25744ce02669b8034ab8c8e6e4ee3a0", func := "trellis/trellislaw3.DigestParts", spec := "digestParts", named := ["trellis/digest.factors"], apart := false, laid := [("trellis/digest.factors", laid_trellis_digest_factors)], narrowed := true }
def DigestPartsUptoSaid : Prop := digestPartsUptoRow.holds Tryd.pinned (OpenSpec.upto digestPartsSpec)

/-- 'trellislaw3.DigestHolds', WHERE WHAT IT READS IS OF BULK AT MOST 1048576: true; the input reads as it did. -/
def digestHoldsUptoRow : OpenClaim := { program := "ytkklmjioheimfaadoor", sum := "0df96199a4fd5b3dc076c317b670597db25744ce02669b8034ab8c8e6e4ee3a0", func := "trellis/trellislaw3.DigestHolds", spec := "digestHolds", named := ["trellis/digest.factors"], apart := false, laid := [("trellis/digest.factors", laid_trellis_digest_factors)], narrowed := true }
def DigestHoldsUptoSaid : Prop := digestHoldsUptoRow.holds Tryd.pinned (OpenSpec.upto digestHoldsSpec)

/-- 'trellislaw3.DigestWhole', WHERE WHAT IT READS IS OF BULK AT MOST 1048576: true; the input reads as it did. -/
def digestWholeUptoRow : OpenClaim := { program := "ytkklmjioheimfaadoor", sum := "0df96199a4fd5b3dc076c317b670597db25744ce02669b8034ab8c8e6e4ee3a0", func := "trellis/trellislaw3.DigestWhole", spec := "digestWhole", named := ["trellis/digest.factors"], apart := false, laid := [("trellis/digest.factors", laid_trellis_digest_factors)], narrowed := true }
def DigestWholeUptoSaid : Prop := digestWholeUptoRow.holds Tryd.pinned (OpenSpec.upto digestWholeSpec)

/-- 'trellislaw3.DigestKnown', WHERE WHAT IT READS IS OF BULK AT MOST 1048576: true; the input reads as it did. -/
def digestKnownUptoRow : OpenClaim := { program := "ytkklmjioheimfaadoor", sum := "0df96199a4fd5b3dc076c317b670597db25744ce02669b8034ab8c8e6e4ee3a0", func := "trellis/trellislaw3.DigestKnown", spec := "digestKnown", named := ["trellis/digest.factors"], apart := false, laid := [("trellis/digest.factors", laid_trellis_digest_factors)], narrowed := true }
def DigestKnownUptoSaid : Prop := digestKnownUptoRow.holds Tryd.pinned (OpenSpec.upto digestKnownSpec)

/-- 'trellislaw3.DigestLaid', WHERE WHAT IT READS IS OF BULK AT MOST 1048576: true; the input reads as it did. -/
def digestLaidUptoRow : OpenClaim := { program := "ytkklmjioheimfaadoor", sum := "0df96199a4fd5b3dc076c317b670597db25744ce02669b8034ab8c8e6e4ee3a0", func := "trellis/trellislaw3.DigestLaid", spec := "digestLaid", named := ["trellis/digest.factors"], apart := false, laid := [("trellis/digest.factors", laid_trellis_digest_factors)], narrowed := true }
def DigestLaidUptoSaid : Prop := digestLaidUptoRow.holds Tryd.pinned (OpenSpec.upto digestLaidSpec)

/-- 'trellislaw3.DigestBack', WHERE WHAT IT READS IS OF BULK AT MOST 1048576: true; the input reads as it did. -/
def digestBackUptoRow : OpenClaim := { program := "ytkklmjioheimfaadoor", sum := "0df96199a4fd5b3dc076c317b670597db25744ce02669b8034ab8c8e6e4ee3a0", func := "trellis/trellislaw3.DigestBack", spec := "digestBack", named := ["trellis/digest.factors"], apart := false, laid := [("trellis/digest.factors", laid_trellis_digest_factors)], narrowed := true }
def DigestBackUptoSaid : Prop := digestBackUptoRow.holds Tryd.pinned (OpenSpec.upto digestBackSpec)

end Rows
end Go.Proofs.YtkklmjioheimfaaDoor
