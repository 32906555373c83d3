/- The row VarintExact, where what it reads is of small bulk: beyond, the kept answers outgrow any machine. -/
import Derived.Test.YtinnfbhdafkogaaCond
import Derived.Test.YtinnfbhdafkogaaVExactW
import Derived.Test.YtinnfbhdafkogaaRowBB
import Derived.WalkKit
import Derived.ProofKit
import Derived.OpenShut
import Derived.ShutString
import Derived.ChangeOld
import Derived.Below
import Derived.Carry
import Derived.SizedLaws
namespace Go.Proofs.Ytinnfbhdafkogaa.varintExact
open Go VC Go.ChangeShapes Go.WideShapes Go.ChangeAt Go.RowKit
set_option linter.unusedVariables false
theorem laidOut : laidOutB Try.prog = true := by kernel_rfl
theorem own : ownKnob Try.prog.godebug = none := by kernel_rfl
theorem bulk_len {H : Type} : ∀ l : List (DataW H), l.length ≤ Rows.uptoBulkAll l
  | [] => Nat.zero_le _
  | d :: l => by
    have h1 := bulk_len l
    have h2 : 1 ≤ Rows.uptoBulk d := by
      cases d with
      | lit x => cases x <;> simp [Rows.uptoBulk]
      | _ => simp [Rows.uptoBulk]
    rw [Rows.uptoBulkAll, List.length_cons]
    omega
set_option maxRecDepth 100000 in
theorem lifted (os : Os) (started : os.Started) (H : Type) (enc : TypeId × Value → H) (F : Stop.Interp) :
    ReturnsInHanded {} Try.checked os 7 .any ((Rows.OpenSpec.upto Rows.varintExactSpec).pre6 enc Try.prog Try.f7 [] false) (((Rows.OpenSpec.upto Rows.varintExactSpec).at F).post enc Try.prog Try.f7 false true false false) := by
  refine returnsCond_sized (C := Try.checked) (k := Rows.uptoSmall) rfl own started (by kernel_rfl) Try.func7
    (OpenSpec.witness (enc := enc) (C := Try.checked) (s := Rows.OpenSpec.upto Rows.varintExactSpec) (k := Rows.uptoSmall) rfl false ⟨#[], #[.agg #[.slice none 0 0, .slice none 0 0]], []⟩ 8 (by kernel_rfl) (by kernel_rfl) (by kernel_rfl)
      (x := ([.agg [.nil, .nil]], [], [])) (by kernel_rfl) rfl rfl) ?_
  intro W base args ds gs before hval0 hW hcnd hsz0
  have hval : ∀ (j : Nat) t v, Try.f7.params[j]? = some t → args[j]? = some v → Value.okWide Try.prog W .any base t v := hval0
  have hsz : (DataW.weightsEach Try.prog (Try.f7.params.toList ++ (Rows.OpenSpec.upto Rows.varintExactSpec).bare.plain.varTypes Try.prog) (ds ++ gs)).all (· ≤ reachBytes) = true := hsz0
  have hW' := hW
  obtain ⟨p, q, hA0, hV, rfl, hfz, hnd⟩ := hW
  have hA : DataW.TrodAll enc Try.prog W 0 (fun _ => true) true Try.f7.params.toList args.toList ds p := hA0
  rw [Try.params7] at hA hval hsz
  obtain ⟨v, d, rfl, rfl, h0⟩ := trodAll_one hA
  obtain ⟨rfl, rfl⟩ := trodVars_none hV
  have hlt : ∀ x ∈ p, x.block < W.heap.size := fun x hx => hW'.lt x (List.mem_append_left _ hx)
  have h0k := h0
  obtain ⟨cs0, rfl, _⟩ := okWide_struct (Try.underlying34) (hval 0 34 v rfl rfl)
  obtain ⟨fuel, hf⟩ := h0
  have hw : ∀ n ∈ d.weights Try.prog 34, n ≤ reachBytes := fun n hn => by
    have := List.all_eq_true.1 hsz _ (DataW.weights_mem_each (j := 0) (t := 34) (d := d) rfl rfl n hn)
    simpa using this
  obtain ⟨r, hr, hq⟩ := opens_struct (P := Try.prog) (t := 34) (w := W) (Try.underlying34) (fin := 2) (by kernel_rfl) (opensF_cons (sz := 1) (opens_slice opens_u64 (fun _ => rfl)) rfl (by kernel_rfl) (opensF_cons (sz := 1) (opens_slice (opens_slice opens_u8 (fun _ => rfl)) (fun _ => rfl)) rfl (by kernel_rfl) (opensF_nil 2))) H enc fuel _ d p hf hw
  have hreach : reachBytes = 140737488351232 := rfl
  obtain ⟨rN, rB, u⟩ := r
  obtain ⟨⟨hN, hNl, hNc, hNq⟩, ⟨hB, hBl, hBc, hBq⟩, _⟩ := hq
  have hv : cs0 = [rN.v, rB.v].toArray := by
    have : cs0.toList = [rN.v, rB.v] := by simpa [Value.cells] using hr
    exact Array.toList_inj.1 this
  subst hv
  dsimp only at hN hB hNl hBl hNc hBc hNq hBq
  have hbulk : rN.xs.length ≤ 1048576 := by
    have hk : Rows.uptoBulkAll [d] ≤ 1048576 := by
      have := hcnd
      unfold Rows.uptoSmall at this
      simpa using this
    obtain ⟨xs, m, rfl, hx, hl, hxl, hall⟩ := DataW.trod_struct (Try.underlying34) hf
    injection hx with hx1 hx2
    subst hx1
    have h1 := hall 0 _ rfl
    have hxs : ∃ x0 rest, xs = x0 :: rest := by
      cases xs with
      | nil => simp at hxl
      | cons x0 rest => exact ⟨x0, rest, rfl⟩
    obtain ⟨x0, rest, rfl⟩ := hxs
    have h2 : DataW.trod enc Try.prog W 0 (fun _ => true) true m 31 [rN.v] = some x0 := h1
    rcases Deep.open_slice (Try.underlying31) h2 with ⟨e1, _⟩ | ⟨a, len, cap, m', n', D, Pl, e1, _, _, _, _, e2, _⟩
    · unfold SRow.v at e1
      simp at e1
      rw [e1.2.1]; simp
    · unfold SRow.v at e1
      simp at e1
      obtain ⟨_, e3, _⟩ := e1
      subst e2
      simp only [List.map_cons, Rows.uptoBulkAll, Rows.uptoBulk] at hk
      have h3 := bulk_len ((List.range len).map D)
      rw [List.length_map, List.length_range] at h3
      omega
  have hxB := Dig.rdbb_of hB (fun x hx => ⟨(hBq x hx).1, (hBq x hx).2.1, by have h1 := (hBq x hx).2.1; have := (hBq x hx).2.2.1; omega⟩)
  have eN : rN.xs.flatMap (fun n : Nat => [Value.int .u64 n]) = rN.xs.map fun n : Nat => Value.int .u64 n := (List.map_eq_flatMap ..).symm
  rw [eN] at hN
  have hc := Varint.VarintExact_calls W rN.a rB.a rN.c rB.c rN.xs _ (Rd.ro hN) hNq (by omega) hxB (by simp; omega)
  rw [List.length_map] at hc
  refine Calls.mono hc fun e W' ⟨he, bel⟩ => ?_
  subst he
  have hargs := Below.trod (P := Try.prog) laidOut (by kernel_rfl) (of_decide_eq_true (by kernel_rfl)) h0k bel hlt
  exact ⟨_, rfl, _, _, _, _, _, [], hW', trodAll_mk1 (shut_bool Try.underlying4 _), trodAll_mk1 hargs, rfl, bel.frame _, fun h => by cases h⟩
theorem over : Rows.varintExactUptoRow.holds Try.pinned (Rows.OpenSpec.upto Rows.varintExactSpec) :=
  OpenClaim.holds_of_cond 7 Try.f7 rfl rfl rfl rfl rfl rfl rfl ⟨rfl, rfl, rfl, rfl, rfl⟩ rfl rfl rfl rfl rfl (by kernel_rfl) Try.func7 (by kernel_rfl)
    (of_decide_eq_true (by kernel_rfl)) (by unfold Func.isWrapper; first | (rw [if_pos (by decide +kernel)]; kernel_rfl) | (rw [if_neg (by decide +kernel)]; exact ⟨rfl, rfl⟩))
    (fun os started H enc _ F => lifted os started H enc F)
end Go.Proofs.Ytinnfbhdafkogaa.varintExact
namespace Go.Proofs.Ytinnfbhdafkogaa
/-- The row. -/
theorem varintExact_upto_holds : Rows.VarintExactUptoSaid := varintExact.over
#print axioms varintExact_upto_holds
end Go.Proofs.Ytinnfbhdafkogaa
