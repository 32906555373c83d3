/- The statements' own small functions for bytes: num, Len, Lend, markAt, Head, begins. -/
import Derived.Test.YtinnfbhdafkogaaVarintL
import Derived.Test.YtinnfbhdafkogaaVarintR
namespace Go.Proofs.Ytinnfbhdafkogaa.Varint
open Go VC Go.RowKit
set_option linter.unusedSimpArgs false
set_option maxRecDepth 20000
theorem num_calls (w : World) (n : Int) : Calls Try.prog 17 #[.int .i64 n] w fun e w' => e = .returned (.int .i64 n) ∧ w = w' := by
  refine calls_vc Try.func17 rfl (by kernel_rfl) (by kernel_rfl) ?_; intro R hR
  simp (disch := first | omega | assumption | exact Option.isSome_some | (simp only [adO_isSome]; assumption)) only [↓vcp, vcs, vcm, if_true, if_false, Nat.reduceBEq, ↓reduceIte, Nat.reduceEqDiff, Nat.reduceAdd, Nat.reduceMul, Nat.reduceSub, Int.reduceToNat, reduceCtorEq, Nat.reduceLT, Nat.reduceLeDiff, Int.reduceSub, Int.reduceAdd, Int.reduceNeg]
  exact ret_tmp rfl (hR _ _ ⟨rfl, rfl⟩)
theorem Len_calls (w : World) (n : Nat) (h : n < 2 ^ 64) : Calls Try.prog 18 #[.int .u64 n] w fun e w' => e = .returned (.int .i64 (if n < 2 ^ 63 then ((vlay n).length : Int) else 0)) ∧ Below w.heap.size w w' := by
  refine calls_vc Try.func18 rfl (by kernel_rfl) (by kernel_rfl) ?_; intro R hR
  simp (disch := first | omega | assumption | exact Option.isSome_some | (simp only [adO_isSome]; assumption)) only [↓vcp, vcs, vcm, if_true, if_false, Nat.reduceBEq, ↓reduceIte, Nat.reduceEqDiff, Nat.reduceAdd, Nat.reduceMul, Nat.reduceSub, Int.reduceToNat, reduceCtorEq, Nat.reduceLT, Nat.reduceLeDiff, Int.reduceSub, Int.reduceAdd, Int.reduceNeg]
  by_cases h63 : n < 2 ^ 63
  · refine call_ok (by kernel_rfl) (Lay_calls w n h63) ?_; rintro e w1 ⟨a, c, rfl, h1, h2⟩; rw [callK_ret]
    simp (disch := first | omega | assumption | exact Option.isSome_some | (simp only [adO_isSome]; assumption)) only [↓vcp, vcs, vcm, if_true, if_false, Nat.reduceBEq, ↓reduceIte, Nat.reduceEqDiff, Nat.reduceAdd, Nat.reduceMul, Nat.reduceSub, Int.reduceToNat, reduceCtorEq, Nat.reduceLT, Nat.reduceLeDiff, Int.reduceSub, Int.reduceAdd, Int.reduceNeg]
    refine ret_tmp rfl (hR _ _ ⟨?_, h2⟩)
    rw [if_pos h63]; rfl
  · refine call_ok (by kernel_rfl) (Lay_long w n (by omega) h) ?_; rintro e w1 ⟨rfl, rfl⟩; rw [callK_ret]
    simp (disch := first | omega | assumption | exact Option.isSome_some | (simp only [adO_isSome]; assumption)) only [↓vcp, vcs, vcm, if_true, if_false, Nat.reduceBEq, ↓reduceIte, Nat.reduceEqDiff, Nat.reduceAdd, Nat.reduceMul, Nat.reduceSub, Int.reduceToNat, reduceCtorEq, Nat.reduceLT, Nat.reduceLeDiff, Int.reduceSub, Int.reduceAdd, Int.reduceNeg]
    refine ret_tmp rfl (hR _ _ ⟨?_, Below.refl _ _⟩)
    rw [if_neg h63]; rfl
end Go.Proofs.Ytinnfbhdafkogaa.Varint
