/- The statements' own small functions for bytes: Copy, Other, Into, Over. -/
import Derived.Test.YtokoohdpakhphaaDoorTy
import Derived.Test.YtokoohdpakhphaaDoorNums
namespace Go.Proofs.YtokoohdpakhphaaDoor.Loan
open Go VC Go.RowKit
set_option linter.unusedSimpArgs false
set_option maxRecDepth 20000
set_option maxHeartbeats 4000000
theorem u8get {xs : List UInt8} {i : Nat} (h : i < xs.length) : (xs.map u8v)[i]? = some (u8v xs[i]) := by rw [List.getElem?_map, List.getElem?_eq_getElem h]; rfl
theorem set_step {ys xs : List UInt8} {i : Nat} (h : xs.length = ys.length) (hi : i < ys.length) : (ys.take i ++ xs.drop i).set i ys[i] = ys.take (i + 1) ++ xs.drop (i + 1) := by
  rw [List.set_append_right _ _ (by simp; omega), List.length_take, Nat.min_eq_left (by omega), Nat.sub_self, List.drop_eq_getElem_cons (by omega), List.set_cons_zero, List.take_succ_eq_append_getElem hi, List.append_assoc]
  rfl
theorem Copy_calls (w0 : World) (a : Option Addr) (c : Nat) (xs : List UInt8) (hx : Ro (.at w0) a (xs.map u8v)) (hl : xs.length ≤ 140737488351232) :
    Calls Tryd.prog 19 #[.slice a xs.length c] w0 fun e w' => ∃ a' c', e = .returned (.slice a' xs.length c') ∧ xs.length ≤ c' ∧ Sat (.at w0) [.sl a' c' (xs.map u8v) 5 1] w' := by
  refine calls_vc Tryd.func19 rfl (by kernel_rfl) (by kernel_rfl) ?_; intro R hR
  have hs := Sat.start w0
  replace hs := Sat.nil hs 5 1; try simp only [cls] at hs
  simp (disch := first | omega | assumption | exact Option.isSome_some | (simp only [adO_isSome]; assumption)) only [↓vcp, vcs, vct, if_true, if_false, Nat.reduceBEq, ↓reduceIte, Nat.reduceEqDiff, Nat.reduceAdd, Nat.reduceMul, Nat.reduceSub, Int.reduceToNat, reduceCtorEq, Nat.reduceLT, Nat.reduceLeDiff, Int.reduceSub, Int.reduceAdd, Int.reduceNeg, Sat.look hs, Sat.lookA hs]
  refine apK (xs.length) hs (hx.rd hs) ?_; clear hs; (try clear w); rintro a1 c1 w hc1 hs; try simp only [cls] at hs
  simp (disch := first | omega | assumption | exact Option.isSome_some | (simp only [adO_isSome]; assumption)) only [↓vcp, vcs, vct, if_true, if_false, Nat.reduceBEq, ↓reduceIte, Nat.reduceEqDiff, Nat.reduceAdd, Nat.reduceMul, Nat.reduceSub, Int.reduceToNat, reduceCtorEq, Nat.reduceLT, Nat.reduceLeDiff, Int.reduceSub, Int.reduceAdd, Int.reduceNeg, Sat.look hs, Sat.lookA hs]
  rw [Nat.zero_add] at hc1
  exact ret_tmp rfl (hR _ _ ⟨a1, c1, rfl, hc1, hs⟩)
/-- the bytes the other way round; of a palindrome the last one is changed -/
def other (xs : List UInt8) : List UInt8 := if 0 < xs.length ∧ xs.reverse = xs then xs.reverse.set (xs.length - 1) ((xs.reverse).getD (xs.length - 1) 0 ^^^ 1) else xs.reverse
theorem other_len (xs : List UInt8) : (other xs).length = xs.length := by unfold other; split <;> simp
end Go.Proofs.YtokoohdpakhphaaDoor.Loan
