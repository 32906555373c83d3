/- Several texts in one. -/
import Derived.Test.YtokoohdpakhphaaDoorTy
import Derived.Test.YtokoohdpakhphaaDoorBitsU
import Derived.Test.YtokoohdpakhphaaDoorSha
namespace Go.Proofs.YtokoohdpakhphaaDoor.Sha
open Go VC Go.RowKit
set_option linter.unusedSimpArgs false
set_option maxRecDepth 20000
theorem shr10 (x : UInt32) : Shr .u32 (x.toNat : Int) 10 = ((x >>> 10).toNat : Int) := by
  have := Shr_u .u32 x.toNat 10 (by rw [u32b]; omega)
  simp only [Int.cast_ofNat_Int] at this
  rw [this]
  simp [Nat.shiftRight_eq_div_pow]
theorem shr3 (x : UInt32) : Shr .u32 (x.toNat : Int) 3 = ((x >>> 3).toNat : Int) := by
  have := Shr_u .u32 x.toNat 3 (by rw [u32b]; omega)
  simp only [Int.cast_ofNat_Int] at this
  rw [this]
  simp [Nat.shiftRight_eq_div_pow]
theorem w32_not (x : UInt32) : Bxor .u32 (if IntKind.u32.signed then -1 else IntKind.u32.max) (x.toNat : Int) = ((~~~x).toNat : Int) := by
  have h := Bxor_u .u32 rfl (2 ^ 32 - 1) x.toNat (by decide) (u32_lt x)
  have e : (if IntKind.u32.signed then (-1 : Int) else IntKind.u32.max) = ((2 ^ 32 - 1 : Nat) : Int) := rfl
  rw [e, h]
  have h2 : (2 ^ 32 - 1) ^^^ x.toNat = (~~~x).toNat := by
    rw [Nat.xor_comm]
    have := UInt32.toNat_not x
    rw [this]
    have h3 : (BitVec.ofNat 32 x.toNat ^^^ BitVec.allOnes 32).toNat = (~~~ BitVec.ofNat 32 x.toNat).toNat := by rw [BitVec.xor_allOnes]
    have hlt := u32_lt x
    simp only [BitVec.toNat_xor, BitVec.toNat_allOnes, BitVec.toNat_not, BitVec.toNat_ofNat, Nat.mod_eq_of_lt hlt] at h3
    rw [h3]
  rw [h2]
theorem band31 (n : Nat) (h0 : 0 < n) (h : n < 32) : Band .u64 (IntKind.u64.wrap (-(n : Int))) 31 = ((32 - n : Nat) : Int) := by
  have : ∀ m : Fin 32, 0 < m.val → Band .u64 (IntKind.u64.wrap (-(m.val : Int))) 31 = ((32 - m.val : Nat) : Int) := by decide +kernel
  exact this ⟨n, h⟩ h0
theorem Rotate_calls (w : World) (x : UInt32) (n : Nat) (h0 : 0 < n) (h : n < 32) :
    Calls Tryd.prog 100 #[.int .u32 x.toNat, .int .i64 (-(n : Int))] w fun e w' => e = .returned (.int .u32 (rotr x n).toNat) ∧ w = w' := by
  refine calls_vc Tryd.func100 rfl (by kernel_rfl) (by kernel_rfl) ?_; intro R hR
  have hsub : (32 : Int) - ((32 - n : Nat) : Int) = (n : Int) := by omega
  simp (disch := first | omega | assumption | exact Option.isSome_some | (simp only [adO_isSome]; assumption)) only [↓vcp, vcs, vcm, if_true, if_false, Nat.reduceBEq, ↓reduceIte, Nat.reduceEqDiff, Nat.reduceAdd, Nat.reduceMul, Nat.reduceSub, Int.reduceToNat, reduceCtorEq, Nat.reduceLT, Nat.reduceLeDiff, Int.reduceSub, Int.reduceAdd, Int.reduceNeg, band31 n h0 h, hsub, rot_or x n (Nat.le_of_lt h)]
  exact ret_tmp rfl (hR _ _ ⟨rfl, rfl⟩)
theorem turnA_calls (w : World) (x : UInt32) (n : Nat) (h0 : 0 < n) (h : n < 32) :
    Calls Tryd.prog 93 #[.int .u32 x.toNat, .int .i64 n] w fun e w' => e = .returned (.int .u32 (rotr x n).toNat) ∧ w = w' := by
  refine calls_vc Tryd.func93 rfl (by kernel_rfl) (by kernel_rfl) ?_; intro R hR
  simp (disch := first | omega | assumption | exact Option.isSome_some | (simp only [adO_isSome]; assumption)) only [↓vcp, vcs, vcm, if_true, if_false, Nat.reduceBEq, ↓reduceIte, Nat.reduceEqDiff, Nat.reduceAdd, Nat.reduceMul, Nat.reduceSub, Int.reduceToNat, reduceCtorEq, Nat.reduceLT, Nat.reduceLeDiff, Int.reduceSub, Int.reduceAdd, Int.reduceNeg, Int.zero_sub]
  refine call_ok (by kernel_rfl) (Rotate_calls w x n h0 h) ?_; rintro e w' ⟨rfl, rfl⟩; rw [callK_ret]
  simp (disch := first | omega | assumption | exact Option.isSome_some | (simp only [adO_isSome]; assumption)) only [↓vcp, vcs, vcm, if_true, if_false, Nat.reduceBEq, ↓reduceIte, Nat.reduceEqDiff, Nat.reduceAdd, Nat.reduceMul, Nat.reduceSub, Int.reduceToNat, reduceCtorEq, Nat.reduceLT, Nat.reduceLeDiff, Int.reduceSub, Int.reduceAdd, Int.reduceNeg]
  exact ret_tmp rfl (hR _ _ ⟨rfl, rfl⟩)
theorem turnB_calls (w : World) (x : UInt32) (n : Nat) (h0 : 0 < n) (h : n < 32) :
    Calls Tryd.prog 92 #[.int .u32 x.toNat, .int .i64 n] w fun e w' => e = .returned (.int .u32 (rotr x n).toNat) ∧ w = w' := by
  have hs1 : Shl .u32 1 (n : Int) = ((2 ^ n : Nat) : Int) := by
    have := Shl_u .u32 rfl 1 n (by rw [u32b]; omega)
    rw [u32b, Nat.one_mul, Nat.mod_eq_of_lt (Nat.pow_lt_pow_right (by omega) h)] at this
    exact this
  have hm : (x.toNat : Int).tmod ((2 ^ n : Nat) : Int) = ((x.toNat % 2 ^ n : Nat) : Int) := by
    rw [← Int.ofNat_tmod]
  have hne : ((2 ^ n : Nat) : Int) ≠ 0 := by have := Nat.two_pow_pos n; omega
  have hsub : (32 : Int) - (n : Int) = ((32 - n : Nat) : Int) := by omega
  refine calls_vc Tryd.func92 rfl (by kernel_rfl) (by kernel_rfl) ?_; intro R hR
  simp (disch := first | omega | assumption | exact Option.isSome_some | (simp only [adO_isSome]; assumption)) only [↓vcp, vcs, vcm, if_true, if_false, Nat.reduceBEq, ↓reduceIte, Nat.reduceEqDiff, Nat.reduceAdd, Nat.reduceMul, Nat.reduceSub, Int.reduceToNat, reduceCtorEq, Nat.reduceLT, Nat.reduceLeDiff, Int.reduceSub, Int.reduceAdd, Int.reduceNeg, hs1, hm, hsub, rot_add x n h0 (Nat.le_of_lt h)]
  exact ret_tmp rfl (hR _ _ ⟨rfl, rfl⟩)
theorem turnI (w : World) (x : UInt32) (i : Int) (h0 : 0 < i) (h : i < 32) : Calls Tryd.prog 93 #[.int .u32 x.toNat, .int .i64 i] w fun e w' => e = .returned (.int .u32 (rotr x i.toNat).toNat) ∧ w = w' := by
  have := turnA_calls w x i.toNat (by omega) (by omega)
  rwa [Int.toNat_of_nonneg (by omega)] at this
end Go.Proofs.YtokoohdpakhphaaDoor.Sha
namespace Go.Proofs.YtokoohdpakhphaaDoor.Sha
open Go VC Go.RowKit
set_option linter.unusedSimpArgs false
set_option maxRecDepth 20000
def wpart (b : List UInt8) (p : Nat) : Nat → Nat
  | 0 => 0
  | i + 1 => 256 * wpart b p i + (b.getD (p + i) 0).toNat
theorem wpart_lt (b : List UInt8) (p : Nat) : ∀ i, wpart b p i < 256 ^ i
  | 0 => by simp [wpart]
  | i + 1 => by
    have h1 := wpart_lt b p i
    have h2 := (b.getD (p + i) 0).toNat_lt
    have h3 : 256 ^ (i + 1) = 256 * 256 ^ i := by rw [Nat.pow_succ, Nat.mul_comm]
    simp only [wpart]
    omega
theorem wpart_word (b : List UInt8) (p : Nat) : wpart b p 4 = (word b p).toNat := by
  have h := wpart_lt b p 4
  unfold word
  rw [UInt32.toNat_ofNat']
  have e : wpart b p 4 = (b.getD p 0).toNat * 2 ^ 24 + (b.getD (p + 1) 0).toNat * 2 ^ 16 + (b.getD (p + 2) 0).toNat * 2 ^ 8 + (b.getD (p + 3) 0).toNat := by
    simp only [wpart, Nat.add_zero]
    omega
  rw [← e, Nat.mod_eq_of_lt (by omega)]
theorem word_calls (w : World) (B : Nat) (a : Option Addr) (c p : Nat) (b : List UInt8) (hx : RdB w B a b) (hp : p + 4 ≤ b.length) (hl : b.length ≤ 140737488355328) :
    Calls Tryd.prog 91 #[.slice a b.length c, .int .i64 p] w fun e w' => e = .returned (.int .u32 (word b p).toNat) ∧ w = w' := by
  refine calls_vc Tryd.func91 rfl (by kernel_rfl) (by kernel_rfl) ?_; intro R hR
  simp (disch := first | omega | assumption | exact Option.isSome_some | (simp only [adO_isSome]; assumption)) only [↓vcp, vcs, vcm, if_true, if_false, Nat.reduceBEq, ↓reduceIte, Nat.reduceEqDiff, Nat.reduceAdd, Nat.reduceMul, Nat.reduceSub, Int.reduceToNat, reduceCtorEq, Nat.reduceLT, Nat.reduceLeDiff, Int.reduceSub, Int.reduceAdd, Int.reduceNeg]
  refine loop_rule (σ := Nat) [5, 6] (fun i => [.int .u32 (wpart b p i : Nat), .int .i64 i]) [0, 1] (fun i w' => i ≤ 4 ∧ w = w') (fun i _ => 4 - i) 0 (by kernel_rfl) rfl ⟨by omega, rfl⟩ ?_
  rintro e i w1 ⟨hi, rfl⟩
  simp (disch := first | omega | assumption | exact Option.isSome_some | (simp only [adO_isSome]; assumption)) only [↓vcp, vcs, vcm, if_true, if_false, Nat.reduceBEq, ↓reduceIte, Nat.reduceEqDiff, Nat.reduceAdd, Nat.reduceMul, Nat.reduceSub, Int.reduceToNat, reduceCtorEq, Nat.reduceLT, Nat.reduceLeDiff, Int.reduceSub, Int.reduceAdd, Int.reduceNeg]
  by_cases hlt : i < 4
  case neg =>
    obtain rfl : i = 4 := by omega
    rw [wpart_word]
    simp (disch := first | omega | assumption | exact Option.isSome_some | (simp only [adO_isSome]; assumption)) only [↓vcp, vcs, vcm, if_true, if_false, Nat.reduceBEq, ↓reduceIte, Nat.reduceEqDiff, Nat.reduceAdd, Nat.reduceMul, Nat.reduceSub, Int.reduceToNat, reduceCtorEq, Nat.reduceLT, Nat.reduceLeDiff, Int.reduceSub, Int.reduceAdd, Int.reduceNeg]
    exact ret_tmp rfl (hR _ _ ⟨rfl, rfl⟩)
  case pos =>
    have hb := wpart_lt b p i
    have h3 : 256 ^ i ≤ 256 ^ 3 := Nat.pow_le_pow_right (by omega) (by omega)
    have hc := RdB.cell hx (i := p + i) (by omega)
    have hs := RdB.isSome hx (by omega)
    have hu := (b[p + i]'(by omega)).toNat_lt
    have hcast : ((p : Int) + (i : Int)).toNat = p + i := by omega
    simp (disch := first | omega | assumption | exact Option.isSome_some | (simp only [adO_isSome]; assumption)) only [↓vcp, vcs, vcm, if_true, if_false, Nat.reduceBEq, ↓reduceIte, Nat.reduceEqDiff, Nat.reduceAdd, Nat.reduceMul, Nat.reduceSub, Int.reduceToNat, reduceCtorEq, Nat.reduceLT, Nat.reduceLeDiff, Int.reduceSub, Int.reduceAdd, Int.reduceNeg, hcast, hc]
    refine ⟨i + 1, ?_, by rfl, ⟨by omega, rfl⟩, by dsimp only; omega⟩
    simp (disch := first | omega | assumption | exact Option.isSome_some | (simp only [adO_isSome]; assumption)) only [↓vcp, vcs, vcm, if_true, if_false, Nat.reduceBEq, ↓reduceIte, Nat.reduceEqDiff, Nat.reduceAdd, Nat.reduceMul, Nat.reduceSub, Int.reduceToNat, reduceCtorEq, Nat.reduceLT, Nat.reduceLeDiff, Int.reduceSub, Int.reduceAdd, Int.reduceNeg]
    have e1 : b.getD (p + i) 0 = b[p + i]'(by omega) := by rw [List.getD_eq_getElem?_getD, List.getElem?_eq_getElem (by omega)]; rfl
    simp only [wpart, e1]
    rfl
end Go.Proofs.YtokoohdpakhphaaDoor.Sha
