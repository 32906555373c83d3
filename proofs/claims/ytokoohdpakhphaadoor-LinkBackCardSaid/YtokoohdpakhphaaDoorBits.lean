/- Integers' bits as plain numbers. No statement about the program stands here. -/
import Derived.Test.YtokoohdpakhphaaDoorVcOps
namespace Go.Proofs.YtokoohdpakhphaaDoor.VC
open Go
theorem wrap_u (k : IntKind) (hk : k.signed = false) (n : Nat) (h : n < 2 ^ k.bits) : k.wrap (n : Int) = n := by
  unfold IntKind.wrap
  simp only [hk, Bool.false_and, Bool.false_eq_true, if_false]
  have : ((2 : Int) ^ k.bits) = ((2 ^ k.bits : Nat) : Int) := by norm_cast
  rw [this, ← Int.natCast_emod, Nat.mod_eq_of_lt h]
theorem bv_ofInt (k : Nat) (n : Nat) : BitVec.ofInt k (n : Int) = BitVec.ofNat k n := by
  apply BitVec.eq_of_toNat_eq
  simp
theorem Band_u (k : IntKind) (hk : k.signed = false) (x y : Nat) (hx : x < 2 ^ k.bits) (hy : y < 2 ^ k.bits) : Band k x y = ((x &&& y : Nat) : Int) := by
  unfold Band
  rw [bv_ofInt, bv_ofInt, BitVec.toNat_and, BitVec.toNat_ofNat, BitVec.toNat_ofNat, Nat.mod_eq_of_lt hx, Nat.mod_eq_of_lt hy]
  exact wrap_u k hk _ (Nat.lt_of_le_of_lt Nat.and_le_left hx)
theorem Bor_u (k : IntKind) (hk : k.signed = false) (x y : Nat) (hx : x < 2 ^ k.bits) (hy : y < 2 ^ k.bits) : Bor k x y = ((x ||| y : Nat) : Int) := by
  unfold Bor
  rw [bv_ofInt, bv_ofInt, BitVec.toNat_or, BitVec.toNat_ofNat, BitVec.toNat_ofNat, Nat.mod_eq_of_lt hx, Nat.mod_eq_of_lt hy]
  exact wrap_u k hk _ (Nat.or_lt_two_pow hx hy)
theorem Bxor_u (k : IntKind) (hk : k.signed = false) (x y : Nat) (hx : x < 2 ^ k.bits) (hy : y < 2 ^ k.bits) : Bxor k x y = ((x ^^^ y : Nat) : Int) := by
  unfold Bxor
  rw [bv_ofInt, bv_ofInt, BitVec.toNat_xor, BitVec.toNat_ofNat, BitVec.toNat_ofNat, Nat.mod_eq_of_lt hx, Nat.mod_eq_of_lt hy]
  exact wrap_u k hk _ (Nat.xor_lt_two_pow hx hy)
theorem Shl_u (k : IntKind) (hk : k.signed = false) (x y : Nat) (hy : y ≤ k.bits) : Shl k x y = ((x * 2 ^ y % 2 ^ k.bits : Nat) : Int) := by
  unfold Shl IntKind.wrap
  simp only [hk, Bool.false_and, Bool.false_eq_true, if_false, Int.toNat_natCast, Nat.min_eq_left hy]
  norm_cast
theorem Shr_u (k : IntKind) (x y : Nat) (hy : y ≤ k.bits) : Shr k x y = ((x / 2 ^ y : Nat) : Int) := by
  unfold Shr
  have h2 : ((2 : Int) ^ y) = ((2 ^ y : Nat) : Int) := by norm_cast
  rw [Int.toNat_natCast, Nat.min_eq_left hy, h2, Int.fdiv_eq_ediv_of_nonneg _ (Int.natCast_nonneg _)]
  norm_cast
theorem wrap_u8_mod (n : Nat) : IntKind.u8.wrap (n : Int) = ((n % 256 : Nat) : Int) := by
  unfold IntKind.wrap
  simp [IntKind.signed, IntKind.bits]
theorem u8_lt (b : UInt8) : b.toNat < 256 := b.toNat_lt
end Go.Proofs.YtokoohdpakhphaaDoor.VC
