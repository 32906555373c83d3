/- Four bytes as a word, in the document's own answer. -/
import Derived.Test.YtokoohdpakhphaaDoorTurn
namespace Go.Proofs.YtokoohdpakhphaaDoor.Sha
open Go VC Go.RowKit
set_option linter.unusedSimpArgs false
set_option maxRecDepth 20000
def wpart (b : List UInt8) (p : Nat) : Nat → Nat
  | 0 => 0
  | i + 1 => 256 * wpart b p i + (b.getD (p + i) 0).toNat
theorem wpart_lt (b : List UInt8) (p : Nat) : ∀ i, wpart b p i < 256 ^ i
  | 0 => by simp [wpart]
  | i + 1 => by
    have h1 := wpart_lt b p i
    have h2 := (b.getD (p + i) 0).toNat_lt
    have h3 : 256 ^ (i + 1) = 256 * 256 ^ i := by rw [Nat.pow_succ, Nat.mul_comm]
    simp only [wpart]
    omega
theorem wpart_word (b : List UInt8) (p : Nat) : wpart b p 4 = (word b p).toNat := by
  have h := wpart_lt b p 4
  unfold word
  rw [UInt32.toNat_ofNat']
  have e : wpart b p 4 = (b.getD p 0).toNat * 2 ^ 24 + (b.getD (p + 1) 0).toNat * 2 ^ 16 + (b.getD (p + 2) 0).toNat * 2 ^ 8 + (b.getD (p + 3) 0).toNat := by
    simp only [wpart, Nat.add_zero]
    omega
  rw [← e, Nat.mod_eq_of_lt (by omega)]
theorem word_calls (w : World) (B : Nat) (a : Option Addr) (c p : Nat) (b : List UInt8) (hx : RdB w B a b) (hp : p + 4 ≤ b.length) (hl : b.length ≤ 140737488355328) :
    Calls Tryd.prog 91 #[.slice a b.length c, .int .i64 p] w fun e w' => e = .returned (.int .u32 (word b p).toNat) ∧ w = w' := by
  refine calls_vc Tryd.func91 rfl (by kernel_rfl) (by kernel_rfl) ?_; intro R hR
  simp (disch := first | omega | assumption | exact Option.isSome_some | (simp only [adO_isSome]; assumption)) only [↓vcp, vcs, vcm, if_true, if_false, Nat.reduceBEq, ↓reduceIte, Nat.reduceEqDiff, Nat.reduceAdd, Nat.reduceMul, Nat.reduceSub, Int.reduceToNat, reduceCtorEq, Nat.reduceLT, Nat.reduceLeDiff, Int.reduceSub, Int.reduceAdd, Int.reduceNeg]
  refine loop_rule (σ := Nat) [5, 6] (fun i => [.int .u32 (wpart b p i : Nat), .int .i64 i]) [0, 1] (fun i w' => i ≤ 4 ∧ w = w') (fun i _ => 4 - i) 0 (by kernel_rfl) rfl ⟨by omega, rfl⟩ ?_
  rintro e i w1 ⟨hi, rfl⟩
  simp (disch := first | omega | assumption | exact Option.isSome_some | (simp only [adO_isSome]; assumption)) only [↓vcp, vcs, vcm, if_true, if_false, Nat.reduceBEq, ↓reduceIte, Nat.reduceEqDiff, Nat.reduceAdd, Nat.reduceMul, Nat.reduceSub, Int.reduceToNat, reduceCtorEq, Nat.reduceLT, Nat.reduceLeDiff, Int.reduceSub, Int.reduceAdd, Int.reduceNeg]
  by_cases hlt : i < 4
  case neg =>
    obtain rfl : i = 4 := by omega
    rw [wpart_word]
    simp (disch := first | omega | assumption | exact Option.isSome_some | (simp only [adO_isSome]; assumption)) only [↓vcp, vcs, vcm, if_true, if_false, Nat.reduceBEq, ↓reduceIte, Nat.reduceEqDiff, Nat.reduceAdd, Nat.reduceMul, Nat.reduceSub, Int.reduceToNat, reduceCtorEq, Nat.reduceLT, Nat.reduceLeDiff, Int.reduceSub, Int.reduceAdd, Int.reduceNeg]
    exact ret_tmp rfl (hR _ _ ⟨rfl, rfl⟩)
  case pos =>
    have hb := wpart_lt b p i
    have h3 : 256 ^ i ≤ 256 ^ 3 := Nat.pow_le_pow_right (by omega) (by omega)
    have hc := RdB.cell hx (i := p + i) (by omega)
    have hs := RdB.isSome hx (by omega)
    have hu := (b[p + i]'(by omega)).toNat_lt
    have hcast : ((p : Int) + (i : Int)).toNat = p + i := by omega
    simp (disch := first | omega | assumption | exact Option.isSome_some | (simp only [adO_isSome]; assumption)) only [↓vcp, vcs, vcm, if_true, if_false, Nat.reduceBEq, ↓reduceIte, Nat.reduceEqDiff, Nat.reduceAdd, Nat.reduceMul, Nat.reduceSub, Int.reduceToNat, reduceCtorEq, Nat.reduceLT, Nat.reduceLeDiff, Int.reduceSub, Int.reduceAdd, Int.reduceNeg, hcast, hc]
    refine ⟨i + 1, ?_, by rfl, ⟨by omega, rfl⟩, by dsimp only; omega⟩
    simp (disch := first | omega | assumption | exact Option.isSome_some | (simp only [adO_isSome]; assumption)) only [↓vcp, vcs, vcm, if_true, if_false, Nat.reduceBEq, ↓reduceIte, Nat.reduceEqDiff, Nat.reduceAdd, Nat.reduceMul, Nat.reduceSub, Int.reduceToNat, reduceCtorEq, Nat.reduceLT, Nat.reduceLeDiff, Int.reduceSub, Int.reduceAdd, Int.reduceNeg]
    have e1 : b.getD (p + i) 0 = b[p + i]'(by omega) := by rw [List.getD_eq_getElem?_getD, List.getElem?_eq_getElem (by omega)]; rfl
    simp only [wpart, e1]
    rfl
end Go.Proofs.YtokoohdpakhphaaDoor.Sha
