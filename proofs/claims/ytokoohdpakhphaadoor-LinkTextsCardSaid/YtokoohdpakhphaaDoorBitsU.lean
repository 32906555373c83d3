/- Several texts in one. -/
import Derived.Test.YtokoohdpakhphaaDoorVcOps
namespace Go.Proofs.YtokoohdpakhphaaDoor.VC
open Go
theorem wrap_u (k : IntKind) (hk : k.signed = false) (n : Nat) (h : n < 2 ^ k.bits) : k.wrap (n : Int) = n := by
  unfold IntKind.wrap
  simp only [hk, Bool.false_and, Bool.false_eq_true, if_false]
  have : ((2 : Int) ^ k.bits) = ((2 ^ k.bits : Nat) : Int) := by norm_cast
  rw [this, ← Int.natCast_emod, Nat.mod_eq_of_lt h]
theorem bv_ofInt (k : Nat) (n : Nat) : BitVec.ofInt k (n : Int) = BitVec.ofNat k n := by
  apply BitVec.eq_of_toNat_eq
  simp
theorem Band_u (k : IntKind) (hk : k.signed = false) (x y : Nat) (hx : x < 2 ^ k.bits) (hy : y < 2 ^ k.bits) : Band k x y = ((x &&& y : Nat) : Int) := by
  unfold Band
  rw [bv_ofInt, bv_ofInt, BitVec.toNat_and, BitVec.toNat_ofNat, BitVec.toNat_ofNat, Nat.mod_eq_of_lt hx, Nat.mod_eq_of_lt hy]
  exact wrap_u k hk _ (Nat.lt_of_le_of_lt Nat.and_le_left hx)
theorem Bor_u (k : IntKind) (hk : k.signed = false) (x y : Nat) (hx : x < 2 ^ k.bits) (hy : y < 2 ^ k.bits) : Bor k x y = ((x ||| y : Nat) : Int) := by
  unfold Bor
  rw [bv_ofInt, bv_ofInt, BitVec.toNat_or, BitVec.toNat_ofNat, BitVec.toNat_ofNat, Nat.mod_eq_of_lt hx, Nat.mod_eq_of_lt hy]
  exact wrap_u k hk _ (Nat.or_lt_two_pow hx hy)
theorem Bxor_u (k : IntKind) (hk : k.signed = false) (x y : Nat) (hx : x < 2 ^ k.bits) (hy : y < 2 ^ k.bits) : Bxor k x y = ((x ^^^ y : Nat) : Int) := by
  unfold Bxor
  rw [bv_ofInt, bv_ofInt, BitVec.toNat_xor, BitVec.toNat_ofNat, BitVec.toNat_ofNat, Nat.mod_eq_of_lt hx, Nat.mod_eq_of_lt hy]
  exact wrap_u k hk _ (Nat.xor_lt_two_pow hx hy)
theorem Shl_u (k : IntKind) (hk : k.signed = false) (x y : Nat) (hy : y ≤ k.bits) : Shl k x y = ((x * 2 ^ y % 2 ^ k.bits : Nat) : Int) := by
  unfold Shl IntKind.wrap
  simp only [hk, Bool.false_and, Bool.false_eq_true, if_false, Int.toNat_natCast, Nat.min_eq_left hy]
  norm_cast
theorem Shr_u (k : IntKind) (x y : Nat) (hy : y ≤ k.bits) : Shr k x y = ((x / 2 ^ y : Nat) : Int) := by
  unfold Shr
  have h2 : ((2 : Int) ^ y) = ((2 ^ y : Nat) : Int) := by norm_cast
  rw [Int.toNat_natCast, Nat.min_eq_left hy, h2, Int.fdiv_eq_ediv_of_nonneg _ (Int.natCast_nonneg _)]
  norm_cast
theorem wrap_u8_mod (n : Nat) : IntKind.u8.wrap (n : Int) = ((n % 256 : Nat) : Int) := by
  unfold IntKind.wrap
  simp [IntKind.signed, IntKind.bits]
theorem u8_lt (b : UInt8) : b.toNat < 256 := b.toNat_lt
end Go.Proofs.YtokoohdpakhphaaDoor.VC
namespace Go.Proofs.YtokoohdpakhphaaDoor.VC
open Go
def u32v (x : UInt32) : Value := .int .u32 x.toNat
theorem u32b : IntKind.u32.bits = 32 := rfl
theorem u32_lt (x : UInt32) : x.toNat < 2 ^ 32 := x.toNat_lt
theorem w32_nat (n : Nat) : IntKind.u32.wrap (n : Int) = ((UInt32.ofNat n).toNat : Int) := by
  unfold IntKind.wrap
  simp [IntKind.signed, IntKind.bits]
theorem w32_add (x y : UInt32) : IntKind.u32.wrap ((x.toNat : Int) + (y.toNat : Int)) = ((x + y).toNat : Int) := by
  rw [← Int.natCast_add, w32_nat]
  simp [UInt32.ofNat_add]
theorem w32_mul (x y : UInt32) : IntKind.u32.wrap ((x.toNat : Int) * (y.toNat : Int)) = ((x * y).toNat : Int) := by
  rw [← Int.natCast_mul, w32_nat]
  simp [UInt32.ofNat_mul]
theorem w32_xor (x y : UInt32) : Bxor .u32 (x.toNat : Int) (y.toNat : Int) = ((x ^^^ y).toNat : Int) := by
  rw [Bxor_u .u32 rfl _ _ (u32_lt x) (u32_lt y), UInt32.toNat_xor]
theorem w32_and (x y : UInt32) : Band .u32 (x.toNat : Int) (y.toNat : Int) = ((x &&& y).toNat : Int) := by
  rw [Band_u .u32 rfl _ _ (u32_lt x) (u32_lt y), UInt32.toNat_and]
theorem w32_or (x y : UInt32) : Bor .u32 (x.toNat : Int) (y.toNat : Int) = ((x ||| y).toNat : Int) := by
  rw [Bor_u .u32 rfl _ _ (u32_lt x) (u32_lt y), UInt32.toNat_or]
/-- turned right by n places -/
def rotr (x : UInt32) (n : Nat) : UInt32 := UInt32.ofNat (x.toNat / 2 ^ n + x.toNat % 2 ^ n * 2 ^ (32 - n))
theorem rotr_toNat (x : UInt32) (n : Nat) (h : n ≤ 32) : (rotr x n).toNat = x.toNat / 2 ^ n + x.toNat % 2 ^ n * 2 ^ (32 - n) := by
  unfold rotr
  rw [UInt32.toNat_ofNat']
  apply Nat.mod_eq_of_lt
  have h1 : x.toNat / 2 ^ n < 2 ^ (32 - n) := by
    apply Nat.div_lt_of_lt_mul
    rw [← Nat.pow_add, Nat.add_sub_cancel' h]
    exact u32_lt x
  have h2 : x.toNat % 2 ^ n < 2 ^ n := Nat.mod_lt _ (Nat.two_pow_pos _)
  have h3 : 2 ^ n * 2 ^ (32 - n) = 2 ^ 32 := by rw [← Nat.pow_add, Nat.add_sub_cancel' h]
  have h4 : x.toNat % 2 ^ n * 2 ^ (32 - n) ≤ (2 ^ n - 1) * 2 ^ (32 - n) := Nat.mul_le_mul_right _ (by omega)
  have h5 : (2 ^ n - 1) * 2 ^ (32 - n) + 2 ^ (32 - n) = 2 ^ 32 := by
    rw [← h3, ← Nat.succ_mul]
    congr 1
    have := Nat.two_pow_pos n
    omega
  omega
theorem rot_or (x : UInt32) (n : Nat) (h : n ≤ 32) : Bor .u32 (Shl .u32 (x.toNat : Int) ((32 - n : Nat) : Int)) (Shr .u32 (x.toNat : Int) (n : Int)) = ((rotr x n).toNat : Int) := by
  have h1 : x.toNat / 2 ^ n < 2 ^ (32 - n) := by
    apply Nat.div_lt_of_lt_mul
    rw [← Nat.pow_add, Nat.add_sub_cancel' h]
    exact u32_lt x
  have e : x.toNat * 2 ^ (32 - n) % 2 ^ 32 = x.toNat % 2 ^ n * 2 ^ (32 - n) := by
    have : 2 ^ 32 = 2 ^ n * 2 ^ (32 - n) := by rw [← Nat.pow_add, Nat.add_sub_cancel' h]
    rw [this, Nat.mul_mod_mul_right]
  have hb := Bor_u .u32 rfl (x.toNat * 2 ^ (32 - n) % 2 ^ 32) (x.toNat / 2 ^ n) (Nat.mod_lt _ (by decide)) (Nat.lt_of_le_of_lt (Nat.div_le_self _ _) (u32_lt x))
  rw [Shl_u .u32 rfl _ _ (by rw [u32b]; omega), Shr_u .u32 _ _ (by rw [u32b]; omega), u32b, hb, rotr_toNat x n h, e]
  congr 1
  rw [← Nat.shiftLeft_eq, ← Nat.shiftLeft_add_eq_or_of_lt h1, Nat.add_comm]
theorem rot_add (x : UInt32) (n : Nat) (h : 0 < n) (h' : n ≤ 32) : IntKind.u32.wrap (Shr .u32 (x.toNat : Int) (n : Int) + Shl .u32 ((x.toNat % 2 ^ n : Nat) : Int) ((32 - n : Nat) : Int)) = ((rotr x n).toNat : Int) := by
  have e := rotr_toNat x n h'
  have hr := u32_lt (rotr x n)
  have hl : x.toNat % 2 ^ n * 2 ^ (32 - n) < 2 ^ 32 := by rw [e] at hr; exact Nat.lt_of_le_of_lt (Nat.le_add_left _ _) hr
  rw [Shl_u .u32 rfl _ _ (by rw [u32b]; omega), Shr_u .u32 _ _ (by rw [u32b]; omega), u32b, Nat.mod_eq_of_lt hl, ← Int.natCast_add, ← e, w32_nat]
  simp
end Go.Proofs.YtokoohdpakhphaaDoor.VC
