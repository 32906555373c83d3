/- Varints as plain lists and numbers. No statement about the program stands here. -/
import Derived.Test.YtkklmjioheimfaaDoorBits
namespace Go.Proofs.YtkklmjioheimfaaDoor.Varint
open Go VC

/-- what is read of bytes, from place i on, acc being what was read ahead of it: the number, how many bytes, the error -/
def vgo : List UInt8 → Nat → Nat → Nat × Nat × Nat
  | xs, i, acc => if i = 9 then (0, 0, 11) else match xs with
    | [] => (0, 0, 10)
    | b :: t => if 128 ≤ b.toNat then vgo t (i + 1) (acc + b.toNat % 128 * 2 ^ (7 * i)) else if b.toNat = 0 ∧ 0 < i then (0, 0, 12) else (acc + b.toNat * 2 ^ (7 * i), i + 1, 0)
def vread (xs : List UInt8) : Nat × Nat × Nat := vgo xs 0 0

theorem vgo_9 (xs : List UInt8) (acc : Nat) : vgo xs 9 acc = (0, 0, 11) := by unfold vgo; simp
theorem vgo_nil {i acc : Nat} (h : i ≠ 9) : vgo [] i acc = (0, 0, 10) := by unfold vgo; simp [h]
theorem vgo_big {b : UInt8} {t : List UInt8} {i acc : Nat} (h : i ≠ 9) (hb : 128 ≤ b.toNat) : vgo (b :: t) i acc = vgo t (i + 1) (acc + b.toNat % 128 * 2 ^ (7 * i)) := by
  rw [vgo]; simp [h, hb]
theorem vgo_form {b : UInt8} {t : List UInt8} {i acc : Nat} (h : i ≠ 9) (hb : b.toNat = 0) (hi : 0 < i) : vgo (b :: t) i acc = (0, 0, 12) := by
  rw [vgo]; simp [h, hb, hi]
theorem vgo_end {b : UInt8} {t : List UInt8} {i acc : Nat} (h : i ≠ 9) (hb : b.toNat < 128) (hi : ¬ (b.toNat = 0 ∧ 0 < i)) : vgo (b :: t) i acc = (acc + b.toNat * 2 ^ (7 * i), i + 1, 0) := by
  rw [vgo, if_neg h, if_neg (by omega), if_neg hi]

/-! the bits of one byte -/
theorem andn128 (b : UInt8) : Bandn .u8 (b.toNat : Int) 128 = ((b.toNat % 128 : Nat) : Int) := by
  have : ∀ n : Fin 256, Bandn .u8 (n.val : Int) 128 = ((n.val % 128 : Nat) : Int) := by decide +kernel
  exact this ⟨b.toNat, b.toNat_lt⟩
theorem and128 (b : UInt8) : Band .u8 (b.toNat : Int) 128 = if 128 ≤ b.toNat then 128 else 0 := by
  have : ∀ n : Fin 256, Band .u8 (n.val : Int) 128 = if 128 ≤ n.val then 128 else 0 := by decide +kernel
  exact this ⟨b.toNat, b.toNat_lt⟩
theorem or_step {acc x i : Nat} (hi : i ≤ 8) (ha : acc < 2 ^ (7 * i)) (hx : x < 128) : Bor .u64 (acc : Int) (Shl .u64 (x : Int) ((7 * i : Nat) : Int)) = ((acc + x * 2 ^ (7 * i) : Nat) : Int) := by
  have h56 : 2 ^ (7 * i) ≤ 2 ^ 56 := Nat.pow_le_pow_right (by omega) (by omega)
  have hlt : x * 2 ^ (7 * i) < 2 ^ 64 := by
    calc x * 2 ^ (7 * i) ≤ 127 * 2 ^ 56 := Nat.mul_le_mul (by omega) h56
      _ < 2 ^ 64 := by decide
  have hb : IntKind.u64.bits = 64 := rfl
  rw [Shl_u .u64 rfl x (7 * i) (by rw [hb]; omega), hb, Nat.mod_eq_of_lt hlt, Bor_u .u64 rfl acc _ (by rw [hb]; omega) (by rw [hb]; exact hlt)]
  congr 1
  rw [Nat.or_comm, Nat.add_comm, ← Nat.shiftLeft_eq, Nat.shiftLeft_add_eq_or_of_lt ha]
theorem acc_step {acc x i : Nat} (ha : acc < 2 ^ (7 * i)) (hx : x < 128) : acc + x * 2 ^ (7 * i) < 2 ^ (7 * (i + 1)) := by
  have : 2 ^ (7 * (i + 1)) = 128 * 2 ^ (7 * i) := by rw [Nat.mul_add, Nat.pow_add]; omega
  rw [this]
  have : x * 2 ^ (7 * i) ≤ 127 * 2 ^ (7 * i) := Nat.mul_le_mul_right _ (by omega)
  omega

/-! laying -/
def vlay (n : Nat) : List UInt8 := if n < 128 then [UInt8.ofNat n] else UInt8.ofNat (n % 128 + 128) :: vlay (n / 128)
termination_by n
decreasing_by omega
theorem vlay_small {n : Nat} (h : n < 128) : vlay n = [UInt8.ofNat n] := by rw [vlay, if_pos h]
theorem vlay_big {n : Nat} (h : 128 ≤ n) : vlay n = UInt8.ofNat (n % 128 + 128) :: vlay (n / 128) := by rw [vlay, if_neg (by omega)]
theorem vlay_len : ∀ (k n : Nat), n < 128 ^ (k + 1) → (vlay n).length ≤ k + 1
  | 0, n, h => by rw [vlay_small (by simpa using h)]; simp
  | k + 1, n, h => by
    by_cases hn : n < 128
    · rw [vlay_small hn]; simp
    · rw [vlay_big (by omega)]
      have := vlay_len k (n / 128) (by rw [Nat.pow_succ] at h; omega)
      simp only [List.length_cons]; omega
theorem vlay_pos (n : Nat) : 0 < (vlay n).length := by
  by_cases hn : n < 128
  · rw [vlay_small hn]; simp
  · rw [vlay_big (by omega)]; simp
theorem bor128 (n : Nat) : Bor .u8 (IntKind.u8.wrap (n : Int)) 128 = ((n % 128 + 128 : Nat) : Int) := by
  have : ∀ m : Fin 256, Bor .u8 (m.val : Int) 128 = ((m.val % 128 + 128 : Nat) : Int) := by decide +kernel
  rw [wrap_u8_mod]
  have h := this ⟨n % 256, Nat.mod_lt _ (by omega)⟩
  simp only at h
  rw [h]
  congr 2
  omega
theorem ofNat_toNat (n : Nat) (h : n < 256) : (UInt8.ofNat n).toNat = n := by simp [UInt8.toNat_ofNat']; omega
end Go.Proofs.YtkklmjioheimfaaDoor.Varint
