/- The statements' closed example of varints answers true. -/
import Derived.Test.YtinnfbhdafkogaaLend
import Derived.Test.YtinnfbhdafkogaaVNum
namespace Go.Proofs.Ytinnfbhdafkogaa.Varint
open Go VC Go.RowKit
set_option linter.unusedSimpArgs false
set_option maxRecDepth 20000
theorem vlay300 : vlay 300 = [172, 2] := by
  rw [vlay_big (by omega), vlay_small (by omega)]; rfl
theorem lays_calls (w : World) : Calls Try.prog 26 #[] w fun e w' => e = .returned (.bool true) ∧ Below w.heap.size w w' := by
  refine calls_vc Try.func26 rfl (by kernel_rfl) (by kernel_rfl) ?_; intro R hR
  simp (disch := first | omega | assumption | exact Option.isSome_some | (simp only [adO_isSome]; assumption)) only [↓vcp, vcs, vcm, if_true, if_false, Nat.reduceBEq, ↓reduceIte, Nat.reduceEqDiff, Nat.reduceAdd, Nat.reduceMul, Nat.reduceSub, Int.reduceToNat, reduceCtorEq, Nat.reduceLT, Nat.reduceLeDiff, Int.reduceSub, Int.reduceAdd, Int.reduceNeg]
  refine call_ok (by kernel_rfl) (Lay_calls w 300 (by omega)) ?_
  rintro e w1 ⟨a, c, rfl, hown, hb1⟩
  rw [callK_ret]
  simp (disch := first | omega | assumption | exact Option.isSome_some | (simp only [adO_isSome]; assumption)) only [↓vcp, vcs, vcm, if_true, if_false, Nat.reduceBEq, ↓reduceIte, Nat.reduceEqDiff, Nat.reduceAdd, Nat.reduceMul, Nat.reduceSub, Int.reduceToNat, reduceCtorEq, Nat.reduceLT, Nat.reduceLeDiff, Int.reduceSub, Int.reduceAdd, Int.reduceNeg]
  refine (m_bs 59 3 _ #[.int .u8 172, .int .u8 2, .int .u8 5] (by omega) (by omega) (by kernel_rfl)).mpr ?_
  simp (disch := first | omega | assumption | exact Option.isSome_some | (simp only [adO_isSome]; assumption)) only [↓vcp, vcs, vcm, if_true, if_false, Nat.reduceBEq, ↓reduceIte, Nat.reduceEqDiff, Nat.reduceAdd, Nat.reduceMul, Nat.reduceSub, Int.reduceToNat, reduceCtorEq, Nat.reduceLT, Nat.reduceLeDiff, Int.reduceSub, Int.reduceAdd, Int.reduceNeg]
  have hr : RdB (w1.alloc (.cells #[.int .u8 172, .int .u8 2, .int .u8 5] 5)) (w1.heap.size + 1) (some ⟨w1.heap.size, 0, none⟩) [172, 2, 5] := new_row w1 [.int .u8 172, .int .u8 2, .int .u8 5] 5
  refine call_ok (by kernel_rfl) (Read_calls _ (w1.heap.size + 1) _ 3 [172, 2, 5] hr (by simp)) ?_; rintro e w2 ⟨rfl, rfl⟩; rw [callK_ret]
  have hv : vread [172, 2, 5] = (300, 2, 0) := by decide
  rw [hv]
  have hs : (⟨(vlay 300).toArray⟩ : ByteArray) = ⟨#[172, 2]⟩ := by rw [vlay300]
  have ho : RdB (w1.alloc (.cells #[.int .u8 172, .int .u8 2, .int .u8 5] 5)) w1.heap.size a (vlay 300) := Rd.alloc hown.rd (Nat.le_refl _) _
  simp (disch := first | omega | assumption | exact Option.isSome_some | (simp only [adO_isSome]; assumption)) only [↓vcp, vcs, vcm, if_true, if_false, Nat.reduceBEq, ↓reduceIte, Nat.reduceEqDiff, Nat.reduceAdd, Nat.reduceMul, Nat.reduceSub, Int.reduceToNat, reduceCtorEq, Nat.reduceLT, Nat.reduceLeDiff, Int.reduceSub, Int.reduceAdd, Int.reduceNeg, m_strOf]
  refine call_ok (by kernel_rfl) (num_calls _ _) ?_; rintro e w' ⟨rfl, rfl⟩; rw [callK_ret]
  simp (disch := first | omega | assumption | exact Option.isSome_some | (simp only [adO_isSome]; assumption)) only [↓vcp, vcs, vcm, if_true, if_false, Nat.reduceBEq, ↓reduceIte, Nat.reduceEqDiff, Nat.reduceAdd, Nat.reduceMul, Nat.reduceSub, Int.reduceToNat, reduceCtorEq, Nat.reduceLT, Nat.reduceLeDiff, Int.reduceSub, Int.reduceAdd, Int.reduceNeg, m_strOf]
  refine call_ok (by kernel_rfl) (num_calls _ _) ?_; rintro e w' ⟨rfl, rfl⟩; rw [callK_ret]
  simp (disch := first | omega | assumption | exact Option.isSome_some | (simp only [adO_isSome]; assumption)) only [↓vcp, vcs, vcm, if_true, if_false, Nat.reduceBEq, ↓reduceIte, Nat.reduceEqDiff, Nat.reduceAdd, Nat.reduceMul, Nat.reduceSub, Int.reduceToNat, reduceCtorEq, Nat.reduceLT, Nat.reduceLeDiff, Int.reduceSub, Int.reduceAdd, Int.reduceNeg, m_strOf]
  refine call_ok (by kernel_rfl) (Len_calls _ 300 (by omega)) ?_
  rintro e w3 ⟨rfl, hb3⟩
  rw [callK_ret]
  rw [if_pos (by omega), vlay300]
  simp (disch := first | omega | assumption | exact Option.isSome_some | (simp only [adO_isSome]; assumption)) only [↓vcp, vcs, vcm, if_true, if_false, Nat.reduceBEq, ↓reduceIte, Nat.reduceEqDiff, Nat.reduceAdd, Nat.reduceMul, Nat.reduceSub, Int.reduceToNat, reduceCtorEq, Nat.reduceLT, Nat.reduceLeDiff, Int.reduceSub, Int.reduceAdd, Int.reduceNeg, m_strOf]
  refine ret_tmp rfl (hR _ _ ⟨rfl, (hb1.alloc hb1.size _).trans (hb3.mono ?_)⟩)
  have := hb1.size
  simp; omega
end Go.Proofs.Ytinnfbhdafkogaa.Varint
