/- The listed variable trellis/digest.factors: what its datum says of memory. -/
import Derived.Test.YtokoohdpakhphaaDoorRows
import Derived.Test.YtokoohdpakhphaaDoorTy
import Derived.Test.YtokoohdpakhphaaDoorSha
import Derived.ProofKit
import Derived.LaidMore
import Derived.OpenShut
import Derived.Stop.Joined
namespace Go.Proofs.YtokoohdpakhphaaDoor.Dig
open Go VC Go.RowKit Sha Go.ChangeShapes Go.WideShapes Go.ChangeAt
set_option linter.unusedVariables false
set_option maxRecDepth 100000
/-- an array of words that reads as a datum of literals holds these words -/
theorem words_of_trod {P : Program} {W : World} {fuel t e n : Nat} {cs : List Value} {ns : List Int} {base : Nat} {spare : Nat → Bool} {held : Bool} {H : Type} {enc : TypeId × Value → H} (ht : P.underlying t = some (.array n e)) (he : P.underlying e = some (.int .u32)) (hc : P.cellsOf e = 1) (hct : P.cellsOf t = n)
    {x : DataW H × List MemPlace} (h : DataW.trod enc P W base spare held fuel t cs = some x) (hx1 : x.1 = .agg (ns.map fun k => .lit (.int .u32 k))) : cs = ns.map (fun k => .int .u32 k) := by
  obtain ⟨xs, m, rfl, hx, hlen, hn, hel⟩ := DataW.trod_array ht h
  rw [hc] at hel
  rw [hct] at hlen
  rw [hx] at hx1
  simp only [DataW.agg.injEq] at hx1
  have hnl : ns.length = n := by
    have := congrArg List.length hx1
    simpa [hn] using this.symm
  apply List.ext_getElem?
  intro i
  by_cases hi : i < n
  · have h0 := hel i hi
    rw [List.getElem?_eq_getElem (by omega : i < xs.length)] at h0
    obtain ⟨k, e1, e2, _⟩ := DataW.trod_int he h0
    have e3 : xs[i].1 = .lit (.int .u32 ns[i]) := by
      have := congrArg (·[i]?) hx1
      simp only [List.getElem?_map, List.getElem?_eq_getElem (by omega : i < xs.length), List.getElem?_eq_getElem (by omega : i < ns.length), Option.map_some, Option.some.injEq] at this
      exact this
    rw [e2] at e3
    simp only [DataW.lit.injEq, Lit.int.injEq, true_and] at e3
    rw [List.getElem?_map, List.getElem?_eq_getElem (by omega : i < ns.length), Option.map_some, ← e3]
    rw [Nat.mul_one, List.drop_eq_getElem_cons (by omega), List.take_succ_cons, List.take_zero] at e1
    have e4 := List.head_eq_of_cons_eq e1
    rw [List.getElem?_eq_getElem (by omega), e4]
  · rw [List.getElem?_eq_none (by omega), List.getElem?_eq_none (by simp; omega)]
def lvars : List (String × DataW Unit) := [("trellis/digest.factors", Rows.laid_trellis_digest_factors)]
theorem gF : Tryd.prog.globalNamed "trellis/digest.factors" = some 1 := by kernel_rfl
theorem tF : (Tryd.prog.globals[1]?).map (·.type) = some 128 := by kernel_rfl
theorem of_laid {W : World} (h : laidMetH Tryd.prog lvars W) : Rd W W.heap.size (some ⟨1, 0, none⟩) (factors.map u32v) := by
  rw [MakeChecks.laidMetH_plain _ _ _ (by kernel_rfl)] at h
  obtain ⟨ps, ⟨g0, t0, cs0, f0, p0, q0, hg0, ht0, hv0, hd0, _⟩, _⟩ := h
  obtain rfl := Option.some.inj (gF.symm.trans hg0)
  obtain rfl := Option.some.inj (tF.symm.trans ht0)
  have hcs := words_of_trod (ns := factors.map fun x => (x.toNat : Int)) (Tryd.underlying128) (Tryd.underlying108) (by kernel_rfl) (by kernel_rfl) hd0 (by rfl)
  have hc : ∀ j, W.cell? ⟨1, j, none⟩ = cs0[j]? := fun j => World.var?_cell hg0 hv0 j
  have hcs' : cs0.toList = factors.map u32v := by rw [hcs, List.map_map]; rfl
  have hcell : ∀ (i : Nat) (hi : i < (factors.map u32v).length), W.cell? ⟨1, i, none⟩ = some (factors.map u32v)[i] := fun i hi => by
    rw [hc i, ← Array.getElem?_toList, hcs', List.getElem?_eq_getElem hi]
  intro hn
  refine ⟨_, rfl, ?_, fun i hi => by rw [add_lit0]; exact hcell i hi⟩
  have h0 := hcell 0 (by simp [factors])
  unfold World.cell? at h0
  by_cases hlt : 1 < W.heap.size
  · exact hlt
  · rw [Array.getElem?_eq_none (by show W.heap.size ≤ 1; omega)] at h0
    cases h0
theorem door_met (os : Os) (args : Array Value) : laidMetH Tryd.prog lvars ((World.doorLaid Tryd.prog 2000 os).forCall (fun _ _ => 0) ⟨#[], args, []⟩).memory :=
  laidMetH_of_parts3 (fuel := 8) (laidMet_of_run' 8 (by kernel_rfl) (by kernel_rfl)) (by kernel_rfl) (by kernel_rfl)
end Go.Proofs.YtokoohdpakhphaaDoor.Dig
