/- The row VarintThere. -/
import Derived.Test.YtinnfbhdafkogaaRows
import Derived.Test.YtinnfbhdafkogaaVarintThereW
import Derived.Test.YtinnfbhdafkogaaOpen
import Derived.WalkKit
import Derived.ProofKit
import Derived.OpenShut
import Derived.ShutString
import Derived.ChangeOld
import Derived.Below
import Derived.Carry
import Derived.SizedLaws
namespace Go.Proofs.Ytinnfbhdafkogaa.varintThere
open Go VC Go.ChangeShapes Go.WideShapes Go.ChangeAt Go.RowKit
set_option linter.unusedVariables false
theorem laidOut : laidOutB Try.prog = true := by kernel_rfl
theorem own : ownKnob Try.prog.godebug = none := by kernel_rfl
set_option maxRecDepth 100000 in
theorem lifted (os : Os) (started : os.Started) (H : Type) (enc : TypeId × Value → H) :
    ReturnsInHanded {} Try.checked os 8 .any (Rows.varintThereSpec.pre6 enc Try.prog Try.f8 Rows.varintThereRow.domain false) (Rows.varintThereSpec.post enc Try.prog Try.f8 false true false false) := by
  refine returnsInHanded_of_change_sized (C := Try.checked) own started (by kernel_rfl) Try.func8
    (ChangeSpec.witness6 (enc := enc) (C := Try.checked) false ⟨#[], #[.agg #[.slice none 0 0, .slice none 0 0]], []⟩ 8 (by kernel_rfl) (by kernel_rfl) (by kernel_rfl) (by kernel_rfl)) ?_
  intro W base args ds gs before hval0 hW hcnd hsz0 _
  have hval : ∀ (j : Nat) t v, Try.f8.params[j]? = some t → args[j]? = some v → Value.okWide Try.prog W .any base t v := hval0
  have hsz : (DataW.weightsEach Try.prog (Try.f8.params.toList ++ Rows.varintThereSpec.plain.varTypes Try.prog) (ds ++ gs)).all (· ≤ reachBytes) = true := hsz0
  have hW' := hW
  obtain ⟨p, q, hA0, hV, rfl, hfz, hnd⟩ := hW
  have hA : DataW.TrodAll enc Try.prog W 0 (fun _ => true) true Try.f8.params.toList args.toList ds p := hA0
  rw [Try.params8] at hA hval hsz
  obtain ⟨v, d, rfl, rfl, h0⟩ := trodAll_one hA
  obtain ⟨rfl, rfl⟩ := trodVars_none hV
  have hlt : ∀ x ∈ p, x.block < W.heap.size := fun x hx => hW'.lt x (List.mem_append_left _ hx)
  have h0k := h0
  obtain ⟨cs0, rfl, _⟩ := okWide_struct (Try.underlying73) (hval 0 73 v rfl rfl)
  obtain ⟨fuel, hf⟩ := h0
  have hw : ∀ n ∈ d.weights Try.prog 73, n ≤ reachBytes := fun n hn => by
    have := List.all_eq_true.1 hsz _ (DataW.weights_mem_each (j := 0) (t := 73) (d := d) rfl rfl n hn)
    simpa using this
  obtain ⟨r, hr, hq⟩ := opens_struct (P := Try.prog) (t := 73) (w := W) (Try.underlying73) (fin := 2) (by kernel_rfl) (opensF_cons (sz := 1) (opens_slice opens_u64 (fun _ => rfl)) rfl (by kernel_rfl) (opensF_cons (sz := 1) (opens_slice opens_u8 (fun _ => rfl)) rfl (by kernel_rfl) (opensF_nil 2))) H enc fuel _ d p hf hw
  have hreach : reachBytes = 140737488351232 := rfl
  obtain ⟨rN, rT, u⟩ := r
  obtain ⟨⟨hN, hNl, hNc, hNq⟩, ⟨hT, hTl, hTc, _⟩, _⟩ := hq
  have hv : cs0 = #[rN.v, rT.v] := by
    have : cs0.toList = [rN.v, rT.v] := by simpa [Value.cells] using hr
    exact Array.toList_inj.1 this
  subst hv
  have eN : rN.xs.flatMap (fun n : Nat => [Value.int .u64 n]) = rN.xs.map Varint.u64v := (List.map_eq_flatMap ..).symm
  have eT : rT.xs.flatMap (fun b : UInt8 => [u8v b]) = rT.xs.map u8v := (List.map_eq_flatMap ..).symm
  dsimp only at hN hT hNl hTl hNc hTc hNq
  rw [eN] at hN
  rw [eT] at hT
  refine Calls.mono (Varint.VarintThere_calls W rN.a rT.a rN.c rT.c rN.xs rT.xs hN hNq (by omega) hT hTl (by omega)) fun e W' ⟨he, bel⟩ => ?_
  subst he
  have hargs := Below.trod (P := Try.prog) laidOut (by kernel_rfl) (of_decide_eq_true (by kernel_rfl)) h0k bel hlt
  exact ⟨_, rfl, _, _, _, _, _, [], hW', trodAll_mk1 (shut_bool Try.underlying4 _), trodAll_mk1 hargs, rfl, bel.frame _, fun h => by cases h⟩
theorem over : Rows.varintThereRow.holds Try.pinned (OpenSpec.ofChange Rows.varintThereSpec) :=
  OpenClaim.holds_of_wide 8 Try.f8 rfl rfl rfl rfl rfl rfl rfl ⟨rfl, rfl, rfl, rfl, rfl⟩ rfl rfl rfl rfl rfl (by kernel_rfl) Try.func8 (by kernel_rfl)
    (of_decide_eq_true (by kernel_rfl)) (by unfold Func.isWrapper; first | (rw [if_pos (by decide +kernel)]; kernel_rfl) | (rw [if_neg (by decide +kernel)]; exact ⟨rfl, rfl⟩))
    (fun os started H enc _ => lifted os started H enc)
end Go.Proofs.Ytinnfbhdafkogaa.varintThere
namespace Go.Proofs.Ytinnfbhdafkogaa
/-- The row. -/
theorem varintThere_holds : Rows.VarintThereSaid := varintThere.over
#print axioms varintThere_holds
end Go.Proofs.Ytinnfbhdafkogaa
