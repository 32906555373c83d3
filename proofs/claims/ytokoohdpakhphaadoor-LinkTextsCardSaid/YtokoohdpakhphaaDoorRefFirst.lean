/- The first state and the factors, in the document's own answer; the program's first state. -/
import Derived.Test.YtokoohdpakhphaaDoorTurnA
namespace Go.Proofs.YtokoohdpakhphaaDoor.Sha
open Go VC Go.RowKit
set_option linter.unusedSimpArgs false
set_option maxRecDepth 20000
theorem first_calls (w : World) : Calls Tryd.prog 72 #[] w fun e w' => e = .returned (.agg (first.list.map u32v).toArray) ∧ Below w.heap.size w w' := by
  refine calls_vc Tryd.func72 rfl (by kernel_rfl) (by kernel_rfl) ?_; intro R hR
  rw [← mw_start w]
  simp (disch := first | omega | assumption | exact Option.isSome_some | (simp only [adO_isSome]; assumption)) only [↓vcp, vcs, vcm, if_true, if_false, Nat.reduceBEq, ↓reduceIte, Nat.reduceEqDiff, Nat.reduceAdd, Nat.reduceMul, Nat.reduceSub, Int.reduceToNat, reduceCtorEq, Nat.reduceLT, Nat.reduceLeDiff, Int.reduceSub, Int.reduceAdd, Int.reduceNeg]
  refine ret_cell (p := some ⟨w.heap.size, 0, none⟩) (l := first.list.map u32v) rfl rfl ?_ (hR _ _ ⟨rfl, below_mw 0 [] _ (Below.refl _ _) (Nat.le_refl _) (fun x hx => by cases hx)⟩)
  rw [cellsO_mw0]
  rfl
theorem factor_calls (w : World) : Calls Tryd.prog 90 #[] w fun e w' => e = .returned (.agg (factors.map u32v).toArray) ∧ Below w.heap.size w w' := by
  refine calls_vc Tryd.func90 rfl (by kernel_rfl) (by kernel_rfl) ?_; intro R hR
  rw [← mw_start w]
  simp (disch := first | omega | assumption | exact Option.isSome_some | (simp only [adO_isSome]; assumption)) only [↓vcp, vcs, vcm, if_true, if_false, Nat.reduceBEq, ↓reduceIte, Nat.reduceEqDiff, Nat.reduceAdd, Nat.reduceMul, Nat.reduceSub, Int.reduceToNat, reduceCtorEq, Nat.reduceLT, Nat.reduceLeDiff, Int.reduceSub, Int.reduceAdd, Int.reduceNeg]
  refine ret_cell (p := some ⟨w.heap.size, 0, none⟩) (l := factors.map u32v) rfl rfl ?_ (hR _ _ ⟨rfl, below_mw 0 [] _ (Below.refl _ _) (Nat.le_refl _) (fun x hx => by cases hx)⟩)
  rw [cellsO_mw0]
  rfl
theorem factor_exact (w : World) : Calls Tryd.prog 90 #[] w fun e w' => e = .returned (.agg (factors.map u32v).toArray) ∧ mw w 0 [] [(factors.map u32v, 128)] = w' := by
  refine calls_vc Tryd.func90 rfl (by kernel_rfl) (by kernel_rfl) ?_; intro R hR
  rw [← mw_start w]
  simp (disch := first | omega | assumption | exact Option.isSome_some | (simp only [adO_isSome]; assumption)) only [↓vcp, vcs, vcm, if_true, if_false, Nat.reduceBEq, ↓reduceIte, Nat.reduceEqDiff, Nat.reduceAdd, Nat.reduceMul, Nat.reduceSub, Int.reduceToNat, reduceCtorEq, Nat.reduceLT, Nat.reduceLeDiff, Int.reduceSub, Int.reduceAdd, Int.reduceNeg]
  refine ret_cell (p := some ⟨w.heap.size, 0, none⟩) (l := factors.map u32v) rfl rfl ?_ (hR _ _ ⟨rfl, rfl⟩)
  rw [cellsO_mw0]
  rfl
end Go.Proofs.YtokoohdpakhphaaDoor.Sha
