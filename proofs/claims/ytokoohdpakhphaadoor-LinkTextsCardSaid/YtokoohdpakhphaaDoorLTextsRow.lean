/- The row LinkTexts, where trellis/digest.factors reads as the program's text lays it. -/
import Derived.Test.YtokoohdpakhphaaDoorLaidF
import Derived.Test.YtokoohdpakhphaaDoorLTextsW
import Derived.Test.YtokoohdpakhphaaDoorRowG
import Derived.WalkKit
import Derived.ProofKit
import Derived.OpenShut
import Derived.ShutString
import Derived.ChangeOld
import Derived.Below
import Derived.Carry
import Derived.SizedLaws
namespace Go.Proofs.YtokoohdpakhphaaDoor.linkTexts
open Go VC Go.ChangeShapes Go.WideShapes Go.ChangeAt Go.RowKit
set_option linter.unusedVariables false
theorem laidOut : laidOutB Tryd.prog = true := by kernel_rfl
theorem own : ownKnob Tryd.prog.godebug = none := by kernel_rfl
set_option maxRecDepth 100000 in
theorem lifted (os : Os) (started : os.Started) (H : Type) (enc : TypeId × Value → H) :
    ReturnsInHanded {} Tryd.checked os 3 .any (fun w args => (Rows.linkTextsSpec.pre enc Tryd.prog Tryd.f3 [] false w args ∧ laidMetH Tryd.prog Dig.lvars w) ∧ sizedMet enc Tryd.prog Tryd.f3 (OpenSpec.ofChange Rows.linkTextsSpec) false w args) (Rows.linkTextsSpec.post enc Tryd.prog Tryd.f3 false true false false) := by
  refine returnsInHanded_of_change_and (C := Tryd.checked) (X := fun w _ => laidMetH Tryd.prog Dig.lvars w) (fun _ _ _ hh h => h.of_heap hh) own started (by kernel_rfl) Tryd.func3
    (ChangeSpec.witness_shaped (enc := enc) (C := Tryd.checked) (os := os) (X := fun w _ => laidMetH Tryd.prog Dig.lvars w) false (World.doorLaid Tryd.prog 2000 os) #[.agg #[.slice none 0 0, .slice none 0 0, .slice none 0 0, .slice none 0 0, .slice none 0 0]] 8 rfl (World.shaped_of_RefB (by kernel_rfl) (by kernel_rfl)) (by kernel_rfl) (by kernel_rfl) (by kernel_rfl) (Dig.door_met os _)) ?_
  intro W base args ds gs before hval0 hW hcnd hsz0 hL _
  have hval : ∀ (j : Nat) t v, Tryd.f3.params[j]? = some t → args[j]? = some v → Value.okWide Tryd.prog W .any base t v := hval0
  have hsz : (DataW.weightsEach Tryd.prog (Tryd.f3.params.toList ++ Rows.linkTextsSpec.plain.varTypes Tryd.prog) (ds ++ gs)).all (· ≤ reachBytes) = true := hsz0
  have hW' := hW
  obtain ⟨p, q, hA0, hV, rfl, hfz, hnd⟩ := hW
  have hA : DataW.TrodAll enc Tryd.prog W 0 (fun _ => true) true Tryd.f3.params.toList args.toList ds p := hA0
  rw [Tryd.params3] at hA hval hsz
  obtain ⟨v, d, rfl, rfl, h0⟩ := trodAll_one hA
  obtain ⟨rfl, rfl⟩ := trodVars_none hV
  have hlt : ∀ x ∈ p, x.block < W.heap.size := fun x hx => hW'.lt x (List.mem_append_left _ hx)
  have h0k := h0
  obtain ⟨cs0, rfl, _⟩ := okWide_struct (Tryd.underlying28) (hval 0 28 v rfl rfl)
  obtain ⟨fuel, hf⟩ := h0
  have hw : ∀ n ∈ d.weights Tryd.prog 28, n ≤ reachBytes := fun n hn => by
    have := List.all_eq_true.1 hsz _ (DataW.weights_mem_each (j := 0) (t := 28) (d := d) rfl rfl n hn)
    simpa using this
  obtain ⟨r, hr, hq⟩ := opens_struct (P := Tryd.prog) (t := 28) (w := W) (Tryd.underlying28) (fin := 5) (by kernel_rfl) (opensF_cons (sz := 1) (opens_slice (sz := 4) (opens_struct (Tryd.underlying35) (fin := 4) (by kernel_rfl) (opensF_cons (sz := 1) (opens_int (k := .i64)) rfl (by kernel_rfl) (opensF_cons (sz := 1) opens_u64 rfl (by kernel_rfl) (opensF_cons (sz := 1) opens_u64 rfl (by kernel_rfl) (opensF_cons (sz := 1) opens_str rfl (by kernel_rfl) (opensF_nil 4)))))) (fun _ => rfl)) rfl (by kernel_rfl) (opensF_cons (sz := 1) (opens_slice opens_u64 (fun _ => rfl)) rfl (by kernel_rfl) (opensF_cons (sz := 1) (opens_slice (opens_slice opens_u8 (fun _ => rfl)) (fun _ => rfl)) rfl (by kernel_rfl) (opensF_cons (sz := 1) (opens_slice opens_str (fun _ => rfl)) rfl (by kernel_rfl) (opensF_cons (sz := 1) (opens_slice (opens_int (k := .i64)) (fun _ => rfl)) rfl (by kernel_rfl) (opensF_nil 5)))))) H enc fuel _ d p hf hw
  have hreach : reachBytes = 140737488351232 := rfl
  obtain ⟨rL, rC, rB, rS, rN, u⟩ := r
  obtain ⟨⟨hL1, hLl, hLc, hLq⟩, ⟨hC, hCl, hCc, hCq⟩, ⟨hB, hBl, hBc, hBq⟩, ⟨hS, hSl, hSc, hSq⟩, ⟨hN, hNl, hNc, hNq⟩, _⟩ := hq
  have hv : cs0 = [rL.v, rC.v, rB.v, rS.v, rN.v].toArray := by
    have : cs0.toList = [rL.v, rC.v, rB.v, rS.v, rN.v] := by simpa [Value.cells] using hr
    exact Array.toList_inj.1 this
  subst hv
  dsimp only at hL1 hC hB hS hN hLl hCl hBl hSl hNl hLc hCc hBc hSc hNc hLq hCq hBq hSq hNq
  have hLr : Rd W W.heap.size rL.a ((rL.xs.map Lnk.toLkU).flatMap Lnk.Lk.fs) := by
    rw [List.flatMap_map]
    exact hL1
  have hLd : ∀ l ∈ rL.xs.map Lnk.toLkU, l.d.length ≤ 140737488351232 := fun l hl => by
    obtain ⟨x, hx, rfl⟩ := List.mem_map.1 hl
    have h4 := (hLq x hx).2.2.2.1
    show x.2.2.2.1.data.toList.length ≤ _
    have h5 : x.2.2.2.1.data.toList.length = x.2.2.2.1.size := rfl
    omega
  have hTe : (rS.xs.map (fun s : ByteArray => s.data.toList)).map Lnk.strV = rS.xs.flatMap (fun s => [.string s]) := by
    rw [List.map_map, ← List.map_eq_flatMap]
    exact List.map_congr_left fun s _ => rfl
  have hxT : Rd W W.heap.size rS.a ((rS.xs.map (fun s : ByteArray => s.data.toList)).map Lnk.strV) := by
    rw [hTe]
    exact hS
  have hTd : ∀ l ∈ rS.xs.map (fun s : ByteArray => s.data.toList), l.length ≤ 140737488351232 := fun l hl => by
    obtain ⟨x, hx, rfl⟩ := List.mem_map.1 hl
    have h4 := hSq x hx
    have h5 : x.data.toList.length = x.size := rfl
    omega
  have hxN : Rd W W.heap.size rN.a (rN.xs.map fun n : Int => Value.int .i64 n) := by
    rw [List.map_eq_flatMap]
    exact hN
  have hc := Lnk.LinkTexts_calls W rC.v rB.v rL.a rS.a rN.a rL.c rS.c rN.c _ _ _ hLr hLd (by simp; omega) hxT (by simp; omega) hTd hxN (Rd.ro (Dig.of_laid hL))
  rw [List.length_map, List.length_map] at hc
  refine Calls.mono hc fun e W' ⟨he, bel⟩ => ?_
  subst he
  have hargs := Below.trod (P := Tryd.prog) laidOut (by kernel_rfl) (of_decide_eq_true (by kernel_rfl)) h0k bel hlt
  exact ⟨_, rfl, _, _, _, _, _, [], hW', trodAll_mk1 (shut_bool Tryd.underlying4 _), trodAll_mk1 hargs, rfl, bel.frame _, fun h => by cases h⟩
theorem over : Rows.linkTextsRow.holds Tryd.pinned (OpenSpec.ofChange Rows.linkTextsSpec) :=
  OpenClaim.holds_of_wide 3 Tryd.f3 rfl rfl rfl rfl rfl rfl rfl ⟨rfl, rfl, rfl, rfl, rfl⟩ rfl rfl rfl rfl rfl (by kernel_rfl) Tryd.func3 (by kernel_rfl)
    (of_decide_eq_true (by kernel_rfl)) (by unfold Func.isWrapper; first | (rw [if_pos (by decide +kernel)]; kernel_rfl) | (rw [if_neg (by decide +kernel)]; exact ⟨rfl, rfl⟩))
    (fun os started H enc _ => lifted os started H enc)
end Go.Proofs.YtokoohdpakhphaaDoor.linkTexts
