/- The row VarintBack. -/
import Derived.Test.YtinnfbhdafkogaaRows
import Derived.Test.YtinnfbhdafkogaaVarintBackW
import Derived.Test.YtinnfbhdafkogaaOpen
import Derived.WalkKit
import Derived.ProofKit
import Derived.OpenShut
import Derived.ShutString
import Derived.ChangeOld
import Derived.Below
import Derived.Carry
import Derived.SizedLaws
namespace Go.Proofs.Ytinnfbhdafkogaa.varintBack
open Go VC Go.ChangeShapes Go.WideShapes Go.ChangeAt Go.RowKit
set_option linter.unusedVariables false
theorem laidOut : laidOutB Try.prog = true := by kernel_rfl
theorem own : ownKnob Try.prog.godebug = none := by kernel_rfl
set_option maxRecDepth 100000 in
theorem lifted (os : Os) (started : os.Started) (H : Type) (enc : TypeId × Value → H) :
    ReturnsInHanded {} Try.checked os 9 .any (Rows.varintBackSpec.pre6 enc Try.prog Try.f9 Rows.varintBackRow.domain false) (Rows.varintBackSpec.post enc Try.prog Try.f9 false true false false) := by
  refine returnsInHanded_of_change_sized (C := Try.checked) own started (by kernel_rfl) Try.func9
    (ChangeSpec.witness6 (enc := enc) (C := Try.checked) false ⟨#[], #[.slice none 0 0], []⟩ 8 (by kernel_rfl) (by kernel_rfl) (by kernel_rfl) (by kernel_rfl)) ?_
  intro W base args ds gs before hval0 hW hcnd hsz0 _
  have hval : ∀ (j : Nat) t v, Try.f9.params[j]? = some t → args[j]? = some v → Value.okWide Try.prog W .any base t v := hval0
  have hsz : (DataW.weightsEach Try.prog (Try.f9.params.toList ++ Rows.varintBackSpec.plain.varTypes Try.prog) (ds ++ gs)).all (· ≤ reachBytes) = true := hsz0
  have hW' := hW
  obtain ⟨p, q, hA0, hV, rfl, hfz, hnd⟩ := hW
  have hA : DataW.TrodAll enc Try.prog W 0 (fun _ => true) true Try.f9.params.toList args.toList ds p := hA0
  rw [Try.params9] at hA hval hsz
  obtain ⟨v, d, rfl, rfl, h0⟩ := trodAll_one hA
  obtain ⟨rfl, rfl⟩ := trodVars_none hV
  have hlt : ∀ x ∈ p, x.block < W.heap.size := fun x hx => hW'.lt x (List.mem_append_left _ hx)
  have h0k := h0
  obtain ⟨a0, n0, c0, rfl⟩ := okWide_slice (Try.underlying32) (hval 0 32 v rfl rfl)
  obtain ⟨fuel, hf⟩ := h0
  have hw : ∀ n ∈ d.weights Try.prog 32, n ≤ reachBytes := fun n hn => by
    have := List.all_eq_true.1 hsz _ (DataW.weights_mem_each (j := 0) (t := 32) (d := d) rfl rfl n hn)
    simpa using this
  obtain ⟨r, hr, hrd, hlen, hcap, hq⟩ := opens_slice (P := Try.prog) (t := 32) (w := W) (opens_slice (opens_u8) (fun _ => rfl)) (fun _ => rfl) H enc fuel _ d p hf hw
  have hv : Value.slice a0 n0 c0 = r.v := by simpa [Value.cells] using hr
  rw [hv]
  have hreach : reachBytes = 140737488351232 := rfl
  have hx : RdBB W W.heap.size r.a (r.xs.map fun x => ⟨x.a, x.c, x.xs⟩) := ⟨by
      have e : r.xs.flatMap (fun x : SRow UInt8 => [x.v]) = (r.xs.map fun x => (⟨x.a, x.c, x.xs⟩ : BRow)).map BRow.v := by
        simp [List.map_map, ← List.map_eq_flatMap]
        exact fun a _ => rfl
      rw [← e]; exact hrd, fun y hy => by
      obtain ⟨x, hx, rfl⟩ := List.mem_map.1 hy
      obtain ⟨h1, h2, h3, _⟩ := hq x hx
      refine ⟨?_, h2, by dsimp only; omega⟩
      have e : x.xs.flatMap (fun b : UInt8 => [u8v b]) = x.xs.map u8v := (List.map_eq_flatMap ..).symm
      rw [e] at h1
      exact h1⟩
  have hc := Varint.VarintBack_calls W r.a r.c _ hx (by simp; omega)
  rw [List.length_map] at hc
  refine Calls.mono hc fun e W' ⟨he, bel⟩ => ?_
  subst he
  have hargs := Below.trod (P := Try.prog) laidOut (by kernel_rfl) (of_decide_eq_true (by kernel_rfl)) h0k bel hlt
  rw [hv] at hargs hW'
  exact ⟨_, rfl, _, _, _, _, _, [], hW', trodAll_mk1 (shut_bool Try.underlying4 _), trodAll_mk1 hargs, rfl, bel.frame _, fun h => by cases h⟩
theorem over : Rows.varintBackRow.holds Try.pinned (OpenSpec.ofChange Rows.varintBackSpec) :=
  OpenClaim.holds_of_wide 9 Try.f9 rfl rfl rfl rfl rfl rfl rfl ⟨rfl, rfl, rfl, rfl, rfl⟩ rfl rfl rfl rfl rfl (by kernel_rfl) Try.func9 (by kernel_rfl)
    (of_decide_eq_true (by kernel_rfl)) (by unfold Func.isWrapper; first | (rw [if_pos (by decide +kernel)]; kernel_rfl) | (rw [if_neg (by decide +kernel)]; exact ⟨rfl, rfl⟩))
    (fun os started H enc _ => lifted os started H enc)
end Go.Proofs.Ytinnfbhdafkogaa.varintBack
namespace Go.Proofs.Ytinnfbhdafkogaa
/-- The row. -/
theorem varintBack_holds : Rows.VarintBackSaid := varintBack.over
#print axioms varintBack_holds
end Go.Proofs.Ytinnfbhdafkogaa
