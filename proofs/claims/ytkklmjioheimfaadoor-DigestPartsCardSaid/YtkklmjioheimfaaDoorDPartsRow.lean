/- The row DigestParts, where trellis/digest.factors reads as the program's text lays it. -/
import Derived.Test.YtkklmjioheimfaaDoorLaidF
import Derived.Test.YtkklmjioheimfaaDoorDPartsW
import Derived.Test.YtkklmjioheimfaaDoorOpen
import Derived.Test.YtkklmjioheimfaaDoorRowsB
import Derived.WalkKit
import Derived.ProofKit
import Derived.OpenShut
import Derived.ShutString
import Derived.ChangeOld
import Derived.Below
import Derived.Carry
import Derived.SizedLaws
namespace Go.Proofs.YtkklmjioheimfaaDoor.digestParts
open Go VC Go.ChangeShapes Go.WideShapes Go.ChangeAt Go.RowKit
set_option linter.unusedVariables false
theorem laidOut : laidOutB Tryd.prog = true := by kernel_rfl
theorem own : ownKnob Tryd.prog.godebug = none := by kernel_rfl
set_option maxRecDepth 100000 in
theorem lifted (os : Os) (started : os.Started) (H : Type) (enc : TypeId × Value → H) :
    ReturnsInHanded {} Tryd.checked os 4 .any (fun w args => (Rows.digestPartsSpec.pre enc Tryd.prog Tryd.f4 [] false w args ∧ laidMetH Tryd.prog Dig.lvars w) ∧ sizedMet enc Tryd.prog Tryd.f4 (OpenSpec.ofChange Rows.digestPartsSpec) false w args) (Rows.digestPartsSpec.post enc Tryd.prog Tryd.f4 false true false false) := by
  refine returnsInHanded_of_change_and (C := Tryd.checked) (X := fun w _ => laidMetH Tryd.prog Dig.lvars w) (fun _ _ _ hh h => h.of_heap hh) own started (by kernel_rfl) Tryd.func4
    (ChangeSpec.witness_shaped (enc := enc) (C := Tryd.checked) (os := os) (X := fun w _ => laidMetH Tryd.prog Dig.lvars w) false (World.doorLaid Tryd.prog 2000 os) #[.slice none 0 0] 8 rfl (World.shaped_of_RefB (by kernel_rfl) (by kernel_rfl)) (by kernel_rfl) (by kernel_rfl) (by kernel_rfl) (Dig.door_met os _)) ?_
  intro W base args ds gs before hval0 hW hcnd hsz0 hL _
  have hval : ∀ (j : Nat) t v, Tryd.f4.params[j]? = some t → args[j]? = some v → Value.okWide Tryd.prog W .any base t v := hval0
  have hsz : (DataW.weightsEach Tryd.prog (Tryd.f4.params.toList ++ Rows.digestPartsSpec.plain.varTypes Tryd.prog) (ds ++ gs)).all (· ≤ reachBytes) = true := hsz0
  have hW' := hW
  obtain ⟨p, q, hA0, hV, rfl, hfz, hnd⟩ := hW
  have hA : DataW.TrodAll enc Tryd.prog W 0 (fun _ => true) true Tryd.f4.params.toList args.toList ds p := hA0
  rw [Tryd.params4] at hA hval hsz
  obtain ⟨v, d, rfl, rfl, h0⟩ := trodAll_one hA
  obtain ⟨rfl, rfl⟩ := trodVars_none hV
  have hlt : ∀ x ∈ p, x.block < W.heap.size := fun x hx => hW'.lt x (List.mem_append_left _ hx)
  have h0k := h0
  obtain ⟨a0, n0, c0, rfl⟩ := okWide_slice (Tryd.underlying35) (hval 0 35 v rfl rfl)
  obtain ⟨fuel, hf⟩ := h0
  have hw : ∀ n ∈ d.weights Tryd.prog 35, n ≤ reachBytes := fun n hn => by
    have := List.all_eq_true.1 hsz _ (DataW.weights_mem_each (j := 0) (t := 35) (d := d) rfl rfl n hn)
    simpa using this
  have hOp := opens_struct (P := Tryd.prog) (t := 41) (w := W) (Tryd.underlying41) (fin := 3) (by kernel_rfl) (opensF_cons (sz := 1) (opens_int (k := .i64)) rfl (by kernel_rfl) (opensF_cons (sz := 1) (opens_int (k := .i64)) rfl (by kernel_rfl) (opensF_cons (sz := 1) (opens_slice opens_u8 (fun _ => rfl)) rfl (by kernel_rfl) (opensF_nil 3))))
  obtain ⟨r, hr, hrd, hlen, hcap, hq⟩ := opens_slice (P := Tryd.prog) (t := 35) (w := W) hOp (fun _ => rfl) H enc fuel _ d p hf hw
  have hv : Value.slice a0 n0 c0 = r.v := by simpa [Value.cells] using hr
  rw [hv]
  have hreach : reachBytes = 140737488351232 := rfl
  let mk : Int × Int × SRow UInt8 × Unit → Dig.OpR := fun x => ⟨x.1, x.2.1, x.2.2.1.a, x.2.2.1.c, x.2.2.1.xs⟩
  have hx : Ro (.at W) r.a ((r.xs.map mk).flatMap Dig.OpR.vals) := by
    have e : (r.xs.map mk).flatMap Dig.OpR.vals = r.xs.flatMap (fun x : Int × Int × SRow UInt8 × Unit => [Value.int .i64 x.1] ++ ([Value.int .i64 x.2.1] ++ ([x.2.2.1.v] ++ []))) := by
      rw [List.flatMap_map]
      rfl
    rw [e]
    exact Rd.ro hrd
  have hx2 : ∀ y ∈ r.xs.map mk, Ro (.at W) y.a (y.xs.map u8v) ∧ y.xs.length ≤ 140737488351232 := fun y hy => by
    obtain ⟨x, hx, rfl⟩ := List.mem_map.1 hy
    obtain ⟨_, _, ⟨h1, h2, h3, _⟩, _⟩ := hq x hx
    refine ⟨?_, by show x.2.2.1.xs.length ≤ _; omega⟩
    have e : x.2.2.1.xs.flatMap (fun b : UInt8 => [u8v b]) = x.2.2.1.xs.map u8v := (List.map_eq_flatMap ..).symm
    rw [e] at h1
    exact Rd.ro h1
  have hc := Dig.DigestParts_calls W r.a r.c _ hx hx2 (by simp; omega) (Rd.ro (Dig.of_laid hL))
  rw [List.length_map] at hc
  refine Calls.mono hc fun e W' ⟨he, bel⟩ => ?_
  subst he
  have hargs := Below.trod (P := Tryd.prog) laidOut (by kernel_rfl) (of_decide_eq_true (by kernel_rfl)) h0k bel hlt
  rw [hv] at hargs hW'
  exact ⟨_, rfl, _, _, _, _, _, [], hW', trodAll_mk1 (shut_bool Tryd.underlying4 _), trodAll_mk1 hargs, rfl, bel.frame _, fun h => by cases h⟩
theorem over : Rows.digestPartsRow.holds Tryd.pinned (OpenSpec.ofChange Rows.digestPartsSpec) :=
  OpenClaim.holds_of_wide 4 Tryd.f4 rfl rfl rfl rfl rfl rfl rfl ⟨rfl, rfl, rfl, rfl, rfl⟩ rfl rfl rfl rfl rfl (by kernel_rfl) Tryd.func4 (by kernel_rfl)
    (of_decide_eq_true (by kernel_rfl)) (by unfold Func.isWrapper; first | (rw [if_pos (by decide +kernel)]; kernel_rfl) | (rw [if_neg (by decide +kernel)]; exact ⟨rfl, rfl⟩))
    (fun os started H enc _ => lifted os started H enc)
end Go.Proofs.YtkklmjioheimfaaDoor.digestParts
