/- The row DigestHolds, where trellis/digest.factors reads as the program's text lays it. -/
import Derived.Test.YtkklmjioheimfaaDoorLaidF
import Derived.Test.YtkklmjioheimfaaDoorDHoldsW
import Derived.Test.YtkklmjioheimfaaDoorOpen
import Derived.Test.YtkklmjioheimfaaDoorRowBB
import Derived.WalkKit
import Derived.ProofKit
import Derived.OpenShut
import Derived.ShutString
import Derived.ChangeOld
import Derived.Below
import Derived.Carry
import Derived.SizedLaws
namespace Go.Proofs.YtkklmjioheimfaaDoor.digestHolds
open Go VC Go.ChangeShapes Go.WideShapes Go.ChangeAt Go.RowKit
set_option linter.unusedVariables false
theorem laidOut : laidOutB Tryd.prog = true := by kernel_rfl
theorem own : ownKnob Tryd.prog.godebug = none := by kernel_rfl
set_option maxRecDepth 100000 in
theorem lifted (os : Os) (started : os.Started) (H : Type) (enc : TypeId × Value → H) :
    ReturnsInHanded {} Tryd.checked os 5 .any (fun w args => (Rows.digestHoldsSpec.pre enc Tryd.prog Tryd.f5 [] false w args ∧ laidMetH Tryd.prog Dig.lvars w) ∧ sizedMet enc Tryd.prog Tryd.f5 (OpenSpec.ofChange Rows.digestHoldsSpec) false w args) (Rows.digestHoldsSpec.post enc Tryd.prog Tryd.f5 false true false false) := by
  refine returnsInHanded_of_change_and (C := Tryd.checked) (X := fun w _ => laidMetH Tryd.prog Dig.lvars w) (fun _ _ _ hh h => h.of_heap hh) own started (by kernel_rfl) Tryd.func5
    (ChangeSpec.witness_shaped (enc := enc) (C := Tryd.checked) (os := os) (X := fun w _ => laidMetH Tryd.prog Dig.lvars w) false (World.doorLaid Tryd.prog 2000 os) #[.agg #[.slice none 0 0, .slice none 0 0, .slice none 0 0]] 8 rfl (World.shaped_of_RefB (by kernel_rfl) (by kernel_rfl)) (by kernel_rfl) (by kernel_rfl) (by kernel_rfl) (Dig.door_met os _)) ?_
  intro W base args ds gs before hval0 hW hcnd hsz0 hL _
  have hval : ∀ (j : Nat) t v, Tryd.f5.params[j]? = some t → args[j]? = some v → Value.okWide Tryd.prog W .any base t v := hval0
  have hsz : (DataW.weightsEach Tryd.prog (Tryd.f5.params.toList ++ Rows.digestHoldsSpec.plain.varTypes Tryd.prog) (ds ++ gs)).all (· ≤ reachBytes) = true := hsz0
  have hW' := hW
  obtain ⟨p, q, hA0, hV, rfl, hfz, hnd⟩ := hW
  have hA : DataW.TrodAll enc Tryd.prog W 0 (fun _ => true) true Tryd.f5.params.toList args.toList ds p := hA0
  rw [Tryd.params5] at hA hval hsz
  obtain ⟨v, d, rfl, rfl, h0⟩ := trodAll_one hA
  obtain ⟨rfl, rfl⟩ := trodVars_none hV
  have hlt : ∀ x ∈ p, x.block < W.heap.size := fun x hx => hW'.lt x (List.mem_append_left _ hx)
  have h0k := h0
  obtain ⟨cs0, rfl, _⟩ := okWide_struct (Tryd.underlying47) (hval 0 47 v rfl rfl)
  obtain ⟨fuel, hf⟩ := h0
  have hw : ∀ n ∈ d.weights Tryd.prog 47, n ≤ reachBytes := fun n hn => by
    have := List.all_eq_true.1 hsz _ (DataW.weights_mem_each (j := 0) (t := 47) (d := d) rfl rfl n hn)
    simpa using this
  obtain ⟨r, hr, hq⟩ := opens_struct (P := Tryd.prog) (t := 47) (w := W) (Tryd.underlying47) (fin := 3) (by kernel_rfl) (opensF_cons (sz := 1) (opens_slice opens_u64 (fun _ => rfl)) rfl (by kernel_rfl) (opensF_cons (sz := 1) (opens_slice (opens_slice opens_u8 (fun _ => rfl)) (fun _ => rfl)) rfl (by kernel_rfl) (opensF_cons (sz := 1) (opens_slice (opens_slice opens_u8 (fun _ => rfl)) (fun _ => rfl)) rfl (by kernel_rfl) (opensF_nil 3)))) H enc fuel _ d p hf hw
  have hreach : reachBytes = 140737488351232 := rfl
  obtain ⟨rH, rD, rM, u⟩ := r
  obtain ⟨⟨hH, hHl, hHc, hHq⟩, ⟨hD, hDl, hDc, hDq⟩, ⟨hM, hMl, hMc, hMq⟩, _⟩ := hq
  have hv : cs0 = [rH.v, rD.v, rM.v].toArray := by
    have : cs0.toList = [rH.v, rD.v, rM.v] := by simpa [Value.cells] using hr
    exact Array.toList_inj.1 this
  subst hv
  dsimp only at hH hD hM hHl hDl hMl hHc hDc hMc hHq hDq hMq
  have hxD := Dig.rdbb_of hD (fun x hx => ⟨(hDq x hx).1, (hDq x hx).2.1, by have h1 := (hDq x hx).2.1; have := (hDq x hx).2.2.1; omega⟩)
  have hxM := Dig.rdbb_of hM (fun x hx => ⟨(hMq x hx).1, (hMq x hx).2.1, by have h1 := (hMq x hx).2.1; have := (hMq x hx).2.2.1; omega⟩)
  have eH : rH.xs.flatMap (fun n : Nat => [Value.int .u64 n]) = rH.xs.map fun n : Nat => Value.int .u64 n := (List.map_eq_flatMap ..).symm
  rw [eH] at hH
  have hc := Dig.DigestHolds_calls W rH.a rD.a rM.a rH.c rD.c rM.c rH.xs _ _ (Rd.ro hH) hxD hxM (by simp; omega) (by simp; omega) (Rd.ro (Dig.of_laid hL))
  rw [List.length_map, List.length_map] at hc
  refine Calls.mono hc fun e W' ⟨he, bel⟩ => ?_
  subst he
  have hargs := Below.trod (P := Tryd.prog) laidOut (by kernel_rfl) (of_decide_eq_true (by kernel_rfl)) h0k bel hlt
  exact ⟨_, rfl, _, _, _, _, _, [], hW', trodAll_mk1 (shut_bool Tryd.underlying4 _), trodAll_mk1 hargs, rfl, bel.frame _, fun h => by cases h⟩
theorem over : Rows.digestHoldsRow.holds Tryd.pinned (OpenSpec.ofChange Rows.digestHoldsSpec) :=
  OpenClaim.holds_of_wide 5 Tryd.f5 rfl rfl rfl rfl rfl rfl rfl ⟨rfl, rfl, rfl, rfl, rfl⟩ rfl rfl rfl rfl rfl (by kernel_rfl) Tryd.func5 (by kernel_rfl)
    (of_decide_eq_true (by kernel_rfl)) (by unfold Func.isWrapper; first | (rw [if_pos (by decide +kernel)]; kernel_rfl) | (rw [if_neg (by decide +kernel)]; exact ⟨rfl, rfl⟩))
    (fun os started H enc _ => lifted os started H enc)
end Go.Proofs.YtkklmjioheimfaaDoor.digestHolds
