/- Which links may be: the program's Check and the document's. -/
import Derived.Test.YtokoohdpakhphaaDoorStr
import Derived.Test.YtokoohdpakhphaaDoorRefDig
namespace Go.Proofs.YtokoohdpakhphaaDoor.Lnk
open Go VC Go.RowKit Dig Varint
set_option linter.unusedSimpArgs false
set_option linter.unusedVariables false
set_option maxRecDepth 20000
set_option maxHeartbeats 4000000
/-- a link -/
structure Lk where
  v : Int
  c : Nat
  h : Nat
  d : List UInt8
deriving DecidableEq
def Lk.fs (l : Lk) : List Value := [.int .i64 l.v, .int .u64 l.c, .int .u64 l.h, .string ⟨l.d.toArray⟩]
def lmay (l : Lk) : Prop := (l.v = 0 ∧ l.c = 112 ∧ l.h = 18 ∧ l.d.length = 32) ∨ (l.v = 1 ∧ l.c < 9223372036854775808 ∧ (l.h = 18 ∧ l.d.length = 32 ∨ l.h = 0 ∧ l.d.length ≤ 64))
instance (l : Lk) : Decidable (lmay l) := by unfold lmay; infer_instance
def lcheck (l : Lk) : Nat := if lmay l then 0 else 40
theorem num_calls (w : World) (n : Int) : Calls Tryd.prog 12 #[.int .i64 n] w fun e w' => e = .returned (.int .i64 n) ∧ w = w' := by
  refine calls_vc Tryd.func12 rfl (by kernel_rfl) (by kernel_rfl) ?_; intro R hR
  simp (disch := first | omega | assumption | exact Option.isSome_some | (simp only [adO_isSome]; assumption)) only [↓vcp, vcs, vcm, if_true, if_false, Nat.reduceBEq, ↓reduceIte, Nat.reduceEqDiff, Nat.reduceAdd, Nat.reduceMul, Nat.reduceSub, Int.reduceToNat, reduceCtorEq, Nat.reduceLT, Nat.reduceLeDiff, Int.reduceSub, Int.reduceAdd, Int.reduceNeg]
  exact ret_tmp rfl (hR _ _ ⟨rfl, rfl⟩)
theorem Check_calls (w0 : World) (l : Lk) : Calls Tryd.prog 21 #[.agg l.fs.toArray] w0 fun e w' => e = .returned (.int .i64 (lcheck l)) ∧ Below w0.heap.size w0 w' := by
  refine calls_vc Tryd.func21 rfl (by kernel_rfl) (by kernel_rfl) ?_; intro R hR
  have hs := Sat.start w0
  obtain ⟨v, c, h, d⟩ := l
  unfold Lk.fs
  dsimp only
  by_cases hv0 : v = 0
  · by_cases hc : c = 112 <;> by_cases hh : h = 18 <;> by_cases hd : d.length = 32
    all_goals first | rw [show lcheck ⟨v, c, h, d⟩ = 0 from if_pos (by unfold lmay; dsimp only; omega)] at hR | rw [show lcheck ⟨v, c, h, d⟩ = 40 from if_neg (by unfold lmay; dsimp only; omega)] at hR
    all_goals (
      (repeat (first | (simp (disch := first | omega | assumption | exact Option.isSome_some | (simp only [adO_isSome]; assumption)) only [↓vcp, vcs, vct, if_true, if_false, Nat.reduceBEq, ↓reduceIte, Nat.reduceEqDiff, Nat.reduceAdd, Nat.reduceMul, Nat.reduceSub, Int.reduceToNat, reduceCtorEq, Nat.reduceLT, Nat.reduceLeDiff, Int.reduceSub, Int.reduceAdd, Int.reduceNeg, Sat.look hs, Sat.lookA hs, ba_size]) | (refine khK he hs ?_; clear he; intro he) | ((first | refine stK hs ?_ | refine stFK hs ?_ | refine stAK hs ?_ | refine msK hs ?_); clear hs; (try clear w); rintro w hs; try simp only [cls] at hs) | ((first | refine al_ok hs ?_ | refine bx_ok hs ?_ | refine bsvK hs ?_ | refine bs1_ok hs ?_ | refine bs0_ok hs ?_); clear hs; (try clear w); rintro _ w hs; try simp only [cls] at hs)))
      exact ret_tmp rfl (hR _ _ ⟨rfl, hs.belowAt⟩))
  · by_cases hv1 : v = 1
    · by_cases hc : c < 9223372036854775808
      · by_cases hh : h = 18 <;> by_cases hd : d.length = 32 <;> by_cases h0 : h = 0 <;> by_cases hd64 : d.length ≤ 64
        all_goals try omega
        all_goals first | rw [show lcheck ⟨v, c, h, d⟩ = 0 from if_pos (by unfold lmay; dsimp only; omega)] at hR | rw [show lcheck ⟨v, c, h, d⟩ = 40 from if_neg (by unfold lmay; dsimp only; omega)] at hR
        all_goals (
          (repeat (first | (simp (disch := first | omega | assumption | exact Option.isSome_some | (simp only [adO_isSome]; assumption)) only [↓vcp, vcs, vct, if_true, if_false, Nat.reduceBEq, ↓reduceIte, Nat.reduceEqDiff, Nat.reduceAdd, Nat.reduceMul, Nat.reduceSub, Int.reduceToNat, reduceCtorEq, Nat.reduceLT, Nat.reduceLeDiff, Int.reduceSub, Int.reduceAdd, Int.reduceNeg, Sat.look hs, Sat.lookA hs, ba_size]) | (refine khK he hs ?_; clear he; intro he) | ((first | refine stK hs ?_ | refine stFK hs ?_ | refine stAK hs ?_ | refine msK hs ?_); clear hs; (try clear w); rintro w hs; try simp only [cls] at hs) | ((first | refine al_ok hs ?_ | refine bx_ok hs ?_ | refine bsvK hs ?_ | refine bs1_ok hs ?_ | refine bs0_ok hs ?_); clear hs; (try clear w); rintro _ w hs; try simp only [cls] at hs)))
          exact ret_tmp rfl (hR _ _ ⟨rfl, hs.belowAt⟩))
      · rw [show lcheck ⟨v, c, h, d⟩ = 40 from if_neg (by unfold lmay; dsimp only; omega)] at hR
        (repeat (first | (simp (disch := first | omega | assumption | exact Option.isSome_some | (simp only [adO_isSome]; assumption)) only [↓vcp, vcs, vct, if_true, if_false, Nat.reduceBEq, ↓reduceIte, Nat.reduceEqDiff, Nat.reduceAdd, Nat.reduceMul, Nat.reduceSub, Int.reduceToNat, reduceCtorEq, Nat.reduceLT, Nat.reduceLeDiff, Int.reduceSub, Int.reduceAdd, Int.reduceNeg, Sat.look hs, Sat.lookA hs, ba_size]) | (refine khK he hs ?_; clear he; intro he) | ((first | refine stK hs ?_ | refine stFK hs ?_ | refine stAK hs ?_ | refine msK hs ?_); clear hs; (try clear w); rintro w hs; try simp only [cls] at hs) | ((first | refine al_ok hs ?_ | refine bx_ok hs ?_ | refine bsvK hs ?_ | refine bs1_ok hs ?_ | refine bs0_ok hs ?_); clear hs; (try clear w); rintro _ w hs; try simp only [cls] at hs)))
        exact ret_tmp rfl (hR _ _ ⟨rfl, hs.belowAt⟩)
    · rw [show lcheck ⟨v, c, h, d⟩ = 40 from if_neg (by unfold lmay; dsimp only; omega)] at hR
      (repeat (first | (simp (disch := first | omega | assumption | exact Option.isSome_some | (simp only [adO_isSome]; assumption)) only [↓vcp, vcs, vct, if_true, if_false, Nat.reduceBEq, ↓reduceIte, Nat.reduceEqDiff, Nat.reduceAdd, Nat.reduceMul, Nat.reduceSub, Int.reduceToNat, reduceCtorEq, Nat.reduceLT, Nat.reduceLeDiff, Int.reduceSub, Int.reduceAdd, Int.reduceNeg, Sat.look hs, Sat.lookA hs, ba_size]) | (refine khK he hs ?_; clear he; intro he) | ((first | refine stK hs ?_ | refine stFK hs ?_ | refine stAK hs ?_ | refine msK hs ?_); clear hs; (try clear w); rintro w hs; try simp only [cls] at hs) | ((first | refine al_ok hs ?_ | refine bx_ok hs ?_ | refine bsvK hs ?_ | refine bs1_ok hs ?_ | refine bs0_ok hs ?_); clear hs; (try clear w); rintro _ w hs; try simp only [cls] at hs)))
      exact ret_tmp rfl (hR _ _ ⟨rfl, hs.belowAt⟩)
end Go.Proofs.YtokoohdpakhphaaDoor.Lnk
