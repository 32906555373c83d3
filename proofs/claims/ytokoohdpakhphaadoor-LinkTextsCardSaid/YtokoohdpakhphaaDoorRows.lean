/-
  NARROWER THAN 'FOR EVERY INPUT', by the rows' own cells (each row's printed sentence says how): LinkTexts: laid · LinkOne: laid · LinkOrder: laid · LinkBack: laid · LinkHolds: laid · LinkNamed: laid.
  DERIVED. THE GIVEN ROWS OF THIS SEAT. 6 by the template 'for every input the law returns true; each argument reads behind the call as it read before'; 0 by the template 'total and deterministic' (their statements: YtokoohdpakhphaaDoorTotals.lean).
  GIVEN WITH THE SEED: the statements are not yours to turn. If you find one false, say at which input.
  Laid BY PROGRAM, IN A SANDBOX (cutbox-rows.mjs): the forced cells as the released guide's own fill.sh prints them over the translation 184a8b8516bbf563… (all of the seat's roots in one cut). By AI agents, Wed Nov 11 2026. No macro, syntax, notation, axiom, sorry.
-/
import Derived.Test.YtokoohdpakhphaaDoorChecked
import GoSem.Claim
import GoSem.ClaimJoined
import GoSem.ClaimMapViews
import Derived.JoinedTies
import Derived.KernelRfl
namespace Go.Proofs.YtokoohdpakhphaaDoor
/- THE CELL 'sum', in the pinned program and in every row, IS THE sha256 OF THE DUMP (.gsa) THAT YtokoohdpakhphaaDoorProg.lean LOADS. Nothing in Lean hashes anything: it is a label: what it is worth is what the hold of that sum in a sandbox is worth. -/
noncomputable def Tryd.pinned : Pinned := { name := "ytokoohdpakhphaadoor", sum := "184a8b8516bbf56334b2d082744aabda334c0c4a05b04015e9017ad1fd32fe75", checked := Tryd.checked }
namespace Rows
def none {H : Type} : Left H := { results := [], args := [] }

/- WHAT THE LISTED PACKAGE-LEVEL VARIABLES READ AS WHEN THE CALL BEGINS. Each datum BY PROGRAM (the guide's laid-datum.mjs) off the statement by which the dump's own 'gosem.cut.vars' lays the variable. In a bare row this is a premise. The card (YtokoohdpakhphaaDoorCards.lean) ties it to the program's text. -/
def laid_trellis_digest_factors {H : Type} : DataW H := .agg [.lit (.int .u32 1116352408), .lit (.int .u32 1899447441), .lit (.int .u32 3049323471), .lit (.int .u32 3921009573), .lit (.int .u32 961987163), .lit (.int .u32 1508970993), .lit (.int .u32 2453635748), .lit (.int .u32 2870763221), .lit (.int .u32 3624381080), .lit (.int .u32 310598401), .lit (.int .u32 607225278), .lit (.int .u32 1426881987), .lit (.int .u32 1925078388), .lit (.int .u32 2162078206), .lit (.int .u32 2614888103), .lit (.int .u32 3248222580), .lit (.int .u32 3835390401), .lit (.int .u32 4022224774), .lit (.int .u32 264347078), .lit (.int .u32 604807628), .lit (.int .u32 770255983), .lit (.int .u32 1249150122), .lit (.int .u32 1555081692), .lit (.int .u32 1996064986), .lit (.int .u32 2554220882), .lit (.int .u32 2821834349), .lit (.int .u32 2952996808), .lit (.int .u32 3210313671), .lit (.int .u32 3336571891), .lit (.int .u32 3584528711), .lit (.int .u32 113926993), .lit (.int .u32 338241895), .lit (.int .u32 666307205), .lit (.int .u32 773529912), .lit (.int .u32 1294757372), .lit (.int .u32 1396182291), .lit (.int .u32 1695183700), .lit (.int .u32 1986661051), .lit (.int .u32 2177026350), .lit (.int .u32 2456956037), .lit (.int .u32 2730485921), .lit (.int .u32 2820302411), .lit (.int .u32 3259730800), .lit (.int .u32 3345764771), .lit (.int .u32 3516065817), .lit (.int .u32 3600352804), .lit (.int .u32 4094571909), .lit (.int .u32 275423344), .lit (.int .u32 430227734), .lit (.int .u32 506948616), .lit (.int .u32 659060556), .lit (.int .u32 883997877), .lit (.int .u32 958139571), .lit (.int .u32 1322822218), .lit (.int .u32 1537002063), .lit (.int .u32 1747873779), .lit (.int .u32 1955562222), .lit (.int .u32 2024104815), .lit (.int .u32 2227730452), .lit (.int .u32 2361852424), .lit (.int .u32 2428436474), .lit (.int .u32 2756734187), .lit (.int .u32 3204031479), .lit (.int .u32 3329325298)]

/-- 'trellislaw4.LinkTexts': WHATEVER THE INPUT: true; the input reads as it did. -/
def linkTextsSpec : ChangeSpec := { name := "linkTexts", fn := fun _ => fun
  | [d] => { results := [.lit (.bool true)], args := [d] }
  | _ => none }
def linkTextsRow : OpenClaim := { program := "ytokoohdpakhphaadoor", sum := "184a8b8516bbf56334b2d082744aabda334c0c4a05b04015e9017ad1fd32fe75", func := "trellis/trellislaw4.LinkTexts", spec := "linkTexts", inPlace := ["internal/abi.NoEscape", "internal/bytealg.MakeNoZero", "internal/bytealg.IndexByteString"], named := ["trellis/digest.factors"], apart := false, laid := [("trellis/digest.factors", laid_trellis_digest_factors)] }
def LinkTextsSaid : Prop := linkTextsRow.holds Tryd.pinned (OpenSpec.ofChange linkTextsSpec)

/-- ITS FALSE NEIGHBOUR: 'it returns false'. Refute it at one input. -/
def linkTextsWrong : ChangeSpec := { name := "linkTexts", fn := fun _ => fun
  | [d] => { results := [.lit (.bool false)], args := [d] }
  | _ => none }
def LinkTextsWrongFalsely : Prop := linkTextsRow.holds Tryd.pinned (OpenSpec.ofChange linkTextsWrong)

/-- 'trellislaw4.LinkOne': WHATEVER THE INPUT: true; the input reads as it did. -/
def linkOneSpec : ChangeSpec := { name := "linkOne", fn := fun _ => fun
  | [d] => { results := [.lit (.bool true)], args := [d] }
  | _ => none }
def linkOneRow : OpenClaim := { program := "ytokoohdpakhphaadoor", sum := "184a8b8516bbf56334b2d082744aabda334c0c4a05b04015e9017ad1fd32fe75", func := "trellis/trellislaw4.LinkOne", spec := "linkOne", inPlace := ["internal/abi.NoEscape", "internal/bytealg.MakeNoZero", "internal/bytealg.IndexByteString"], named := ["trellis/digest.factors"], apart := false, laid := [("trellis/digest.factors", laid_trellis_digest_factors)] }
def LinkOneSaid : Prop := linkOneRow.holds Tryd.pinned (OpenSpec.ofChange linkOneSpec)

/-- ITS FALSE NEIGHBOUR: 'it returns false'. Refute it at one input. -/
def linkOneWrong : ChangeSpec := { name := "linkOne", fn := fun _ => fun
  | [d] => { results := [.lit (.bool false)], args := [d] }
  | _ => none }
def LinkOneWrongFalsely : Prop := linkOneRow.holds Tryd.pinned (OpenSpec.ofChange linkOneWrong)

/-- 'trellislaw4.LinkOrder': WHATEVER THE INPUT: true; the input reads as it did. -/
def linkOrderSpec : ChangeSpec := { name := "linkOrder", fn := fun _ => fun
  | [d] => { results := [.lit (.bool true)], args := [d] }
  | _ => none }
def linkOrderRow : OpenClaim := { program := "ytokoohdpakhphaadoor", sum := "184a8b8516bbf56334b2d082744aabda334c0c4a05b04015e9017ad1fd32fe75", func := "trellis/trellislaw4.LinkOrder", spec := "linkOrder", inPlace := ["internal/abi.NoEscape", "internal/bytealg.MakeNoZero", "internal/bytealg.IndexByteString", "internal/bytealg.Compare"], named := ["trellis/digest.factors"], apart := false, laid := [("trellis/digest.factors", laid_trellis_digest_factors)] }
def LinkOrderSaid : Prop := linkOrderRow.holds Tryd.pinned (OpenSpec.ofChange linkOrderSpec)

/-- ITS FALSE NEIGHBOUR: 'it returns false'. Refute it at one input. -/
def linkOrderWrong : ChangeSpec := { name := "linkOrder", fn := fun _ => fun
  | [d] => { results := [.lit (.bool false)], args := [d] }
  | _ => none }
def LinkOrderWrongFalsely : Prop := linkOrderRow.holds Tryd.pinned (OpenSpec.ofChange linkOrderWrong)

/-- 'trellislaw4.LinkBack': WHATEVER THE INPUT: true; the input reads as it did. -/
def linkBackSpec : ChangeSpec := { name := "linkBack", fn := fun _ => fun
  | [d] => { results := [.lit (.bool true)], args := [d] }
  | _ => none }
def linkBackRow : OpenClaim := { program := "ytokoohdpakhphaadoor", sum := "184a8b8516bbf56334b2d082744aabda334c0c4a05b04015e9017ad1fd32fe75", func := "trellis/trellislaw4.LinkBack", spec := "linkBack", inPlace := ["internal/abi.NoEscape", "internal/bytealg.MakeNoZero", "internal/bytealg.IndexByteString", "internal/bytealg.Compare"], named := ["trellis/digest.factors"], apart := false, laid := [("trellis/digest.factors", laid_trellis_digest_factors)] }
def LinkBackSaid : Prop := linkBackRow.holds Tryd.pinned (OpenSpec.ofChange linkBackSpec)

/-- ITS FALSE NEIGHBOUR: 'it returns false'. Refute it at one input. -/
def linkBackWrong : ChangeSpec := { name := "linkBack", fn := fun _ => fun
  | [d] => { results := [.lit (.bool false)], args := [d] }
  | _ => none }
def LinkBackWrongFalsely : Prop := linkBackRow.holds Tryd.pinned (OpenSpec.ofChange linkBackWrong)

/-- 'trellislaw4.LinkHolds': WHATEVER THE INPUT: true; the input reads as it did. -/
def linkHoldsSpec : ChangeSpec := { name := "linkHolds", fn := fun _ => fun
  | [d] => { results := [.lit (.bool true)], args := [d] }
  | _ => none }
def linkHoldsRow : OpenClaim := { program := "ytokoohdpakhphaadoor", sum := "184a8b8516bbf56334b2d082744aabda334c0c4a05b04015e9017ad1fd32fe75", func := "trellis/trellislaw4.LinkHolds", spec := "linkHolds", inPlace := ["internal/abi.NoEscape", "internal/bytealg.MakeNoZero", "internal/bytealg.IndexByteString"], named := ["trellis/digest.factors"], apart := false, laid := [("trellis/digest.factors", laid_trellis_digest_factors)] }
def LinkHoldsSaid : Prop := linkHoldsRow.holds Tryd.pinned (OpenSpec.ofChange linkHoldsSpec)

/-- ITS FALSE NEIGHBOUR: 'it returns false'. Refute it at one input. -/
def linkHoldsWrong : ChangeSpec := { name := "linkHolds", fn := fun _ => fun
  | [d] => { results := [.lit (.bool false)], args := [d] }
  | _ => none }
def LinkHoldsWrongFalsely : Prop := linkHoldsRow.holds Tryd.pinned (OpenSpec.ofChange linkHoldsWrong)

/-- 'trellislaw4.LinkNamed': WHATEVER THE INPUT: true; the input reads as it did. -/
def linkNamedSpec : ChangeSpec := { name := "linkNamed", fn := fun _ => fun
  | [d] => { results := [.lit (.bool true)], args := [d] }
  | _ => none }
def linkNamedRow : OpenClaim := { program := "ytokoohdpakhphaadoor", sum := "184a8b8516bbf56334b2d082744aabda334c0c4a05b04015e9017ad1fd32fe75", func := "trellis/trellislaw4.LinkNamed", spec := "linkNamed", inPlace := ["internal/abi.NoEscape", "internal/bytealg.MakeNoZero", "internal/bytealg.IndexByteString"], named := ["trellis/digest.factors"], apart := false, laid := [("trellis/digest.factors", laid_trellis_digest_factors)] }
def LinkNamedSaid : Prop := linkNamedRow.holds Tryd.pinned (OpenSpec.ofChange linkNamedSpec)

/-- ITS FALSE NEIGHBOUR: 'it returns false'. Refute it at one input. -/
def linkNamedWrong : ChangeSpec := { name := "linkNamed", fn := fun _ => fun
  | [d] => { results := [.lit (.bool false)], args := [d] }
  | _ => none }
def LinkNamedWrongFalsely : Prop := linkNamedRow.holds Tryd.pinned (OpenSpec.ofChange linkNamedWrong)

/- THE SECOND FORM. 'bulk': how many values and letters a reading holds, each counted each time it is reached (what is shared counts as often as it is met; a slice's spare places count too). A statement '..UptoSaid' is the law's where the arguments, and the package variables that the reading takes, are together of bulk at most 1048576: NARROWER than '..Said'. Prove '..Said' where nothing that the law and all that it calls make is longer than what came in: it says more and counts as full. Else prove '..UptoSaid'. A law counts once. -/
mutual
def uptoBulk {H : Type} : DataW H → Nat
  | .lit (.string bytes) => bytes.length + 1
  | .lit _ => 1
  | .nil => 1
  | .ptr d => uptoBulk d + 1
  | .slice elems spare => uptoBulkAll elems + uptoBulkAll spare + 1
  | .agg parts => uptoBulkAll parts + 1
  | .iface _ d => uptoBulk d + 1
  | .map entries => uptoBulkEntries entries + 1
  | .held _ => 1
def uptoBulkAll {H : Type} : List (DataW H) → Nat
  | [] => 0
  | d :: r => uptoBulk d + uptoBulkAll r
def uptoBulkEntries {H : Type} : List (Lit × DataW H) → Nat
  | [] => 0
  | x :: r => uptoBulkEntry x + uptoBulkEntries r
def uptoBulkEntry {H : Type} : Lit × DataW H → Nat
  | (.string bytes, d) => bytes.length + uptoBulk d + 1
  | (_, d) => uptoBulk d + 1
 end
def uptoSmall : (H : Type) → List (DataW H) → Bool := fun _ ds => decide (uptoBulkAll ds ≤ 1048576)
def OpenSpec.upto (s : _root_.Go.ChangeSpec) : _root_.Go.OpenSpec := { _root_.Go.OpenSpec.ofChange s with cond := some uptoSmall }

/-- 'trellislaw4.LinkTexts', WHERE WHAT IT READS IS OF BULK AT MOST 1048576: true; the input reads as it did. -/
def linkTextsUptoRow : OpenClaim := { program := "ytokoohdpakhphaadoor", sum := "184a8b8516bbf56334b2d082744aabda334c0c4a05b04015e9017ad1fd32fe75", func := "trellis/trellislaw4.LinkTexts", spec := "linkTexts", inPlace := ["internal/abi.NoEscape", "internal/bytealg.MakeNoZero", "internal/bytealg.IndexByteString"], named := ["trellis/digest.factors"], apart := false, laid := [("trellis/digest.factors", laid_trellis_digest_factors)], narrowed := true }
def LinkTextsUptoSaid : Prop := linkTextsUptoRow.holds Tryd.pinned (OpenSpec.upto linkTextsSpec)

/-- 'trellislaw4.LinkOne', WHERE WHAT IT READS IS OF BULK AT MOST 1048576: true; the input reads as it did. -/
def linkOneUptoRow : OpenClaim := { program := "ytokoohdpakhphaadoor", sum := "184a8b8516bbf56334b2d082744aabda334c0c4a05b04015e9017ad1fd32fe75", func := "trellis/trellislaw4.LinkOne", spec := "linkOne", inPlace := ["internal/abi.NoEscape", "internal/bytealg.MakeNoZero", "internal/bytealg.IndexByteString"], named := ["trellis/digest.factors"], apart := false, laid := [("trellis/digest.factors", laid_trellis_digest_factors)], narrowed := true }
def LinkOneUptoSaid : Prop := linkOneUptoRow.holds Tryd.pinned (OpenSpec.upto linkOneSpec)

/-- 'trellislaw4.LinkOrder', WHERE WHAT IT READS IS OF BULK AT MOST 1048576: true; the input reads as it did. -/
def linkOrderUptoRow : OpenClaim := { program := "ytokoohdpakhphaadoor", sum := "184a8b8516bbf56334b2d082744aabda334c0c4a05b04015e9017ad1fd32fe75", func := "trellis/trellislaw4.LinkOrder", spec := "linkOrder", inPlace := ["internal/abi.NoEscape", "internal/bytealg.MakeNoZero", "internal/bytealg.IndexByteString", "internal/bytealg.Compare"], named := ["trellis/digest.factors"], apart := false, laid := [("trellis/digest.factors", laid_trellis_digest_factors)], narrowed := true }
def LinkOrderUptoSaid : Prop := linkOrderUptoRow.holds Tryd.pinned (OpenSpec.upto linkOrderSpec)

/-- 'trellislaw4.LinkBack', WHERE WHAT IT READS IS OF BULK AT MOST 1048576: true; the input reads as it did. -/
def linkBackUptoRow : OpenClaim := { program := "ytokoohdpakhphaadoor", sum := "184a8b8516bbf56334b2d082744aabda334c0c4a05b04015e9017ad1fd32fe75", func := "trellis/trellislaw4.LinkBack", spec := "linkBack", inPlace := ["internal/abi.NoEscape", "internal/bytealg.MakeNoZero", "internal/bytealg.IndexByteString", "internal/bytealg.Compare"], named := ["trellis/digest.factors"], apart := false, laid := [("trellis/digest.factors", laid_trellis_digest_factors)], narrowed := true }
def LinkBackUptoSaid : Prop := linkBackUptoRow.holds Tryd.pinned (OpenSpec.upto linkBackSpec)

/-- 'trellislaw4.LinkHolds', WHERE WHAT IT READS IS OF BULK AT MOST 1048576: true; the input reads as it did. -/
def linkHoldsUptoRow : OpenClaim := { program := "ytokoohdpakhphaadoor", sum := "184a8b8516bbf56334b2d082744aabda334c0c4a05b04015e9017ad1fd32fe75", func := "trellis/trellislaw4.LinkHolds", spec := "linkHolds", inPlace := ["internal/abi.NoEscape", "internal/bytealg.MakeNoZero", "internal/bytealg.IndexByteString"], named := ["trellis/digest.factors"], apart := false, laid := [("trellis/digest.factors", laid_trellis_digest_factors)], narrowed := true }
def LinkHoldsUptoSaid : Prop := linkHoldsUptoRow.holds Tryd.pinned (OpenSpec.upto linkHoldsSpec)

/-- 'trellislaw4.LinkNamed', WHERE WHAT IT READS IS OF BULK AT MOST 1048576: true; the input reads as it did. -/
def linkNamedUptoRow : OpenClaim := { program := "ytokoohdpakhphaadoor", sum := "184a8b8516bbf56334b2d082744aabda334c0c4a05b04015e9017ad1fd32fe75", func := "trellis/trellislaw4.LinkNamed", spec := "linkNamed", inPlace := ["internal/abi.NoEscape", "internal/bytealg.MakeNoZero", "internal/bytealg.IndexByteString"], named := ["trellis/digest.factors"], apart := false, laid := [("trellis/digest.factors", laid_trellis_digest_factors)], narrowed := true }
def LinkNamedUptoSaid : Prop := linkNamedUptoRow.holds Tryd.pinned (OpenSpec.upto linkNamedSpec)

end Rows
end Go.Proofs.YtokoohdpakhphaaDoor
