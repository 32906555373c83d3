/- What is laid: its length, its bytes, what is read of it. No statement about the program stands here. -/
import Derived.Test.YtinnfbhdafkogaaVarintP
namespace Go.Proofs.Ytinnfbhdafkogaa.Varint
open Go VC
theorem vgo_vlay (rest : List UInt8) (m : Nat) : ∀ i acc, i + (vlay m).length ≤ 9 → (m = 0 → i = 0) → vgo (vlay m ++ rest) i acc = (acc + m * 2 ^ (7 * i), i + (vlay m).length, 0) := by
  induction m using Nat.strongRecOn with
  | _ m ih =>
    intro i acc hl h0
    by_cases hm : m < 128
    · rw [vlay_small hm] at hl ⊢
      simp only [List.length_cons, List.length_nil] at hl ⊢
      have e := ofNat_toNat m (by omega)
      rw [List.cons_append, vgo_end (by omega) (by rw [e]; exact hm) (by rw [e]; omega), e]
    · rw [vlay_big (by omega)] at hl ⊢
      simp only [List.length_cons] at hl ⊢
      have e := ofNat_toNat (m % 128 + 128) (by omega)
      rw [List.cons_append, vgo_big (by omega) (by rw [e]; omega), e, ih (m / 128) (by omega) (i + 1) _ (by omega) (by omega)]
      have h2 : 2 ^ (7 * (i + 1)) = 128 * 2 ^ (7 * i) := by rw [Nat.mul_add, Nat.pow_add]; omega
      have h3 : (m % 128 + 128) % 128 * 2 ^ (7 * i) + m / 128 * (128 * 2 ^ (7 * i)) = m * 2 ^ (7 * i) := by
        rw [← Nat.mul_assoc, ← Nat.add_mul]
        congr 1
        omega
      rw [h2]
      refine Prod.ext ?_ (Prod.ext ?_ rfl)
      · dsimp only; omega
      · dsimp only; omega
theorem vlay_len9 {n : Nat} (h : n < 2 ^ 63) : (vlay n).length ≤ 9 := vlay_len 8 n (by omega)
theorem vread_vlay {n : Nat} (h : n < 2 ^ 63) (rest : List UInt8) : vread (vlay n ++ rest) = (n, (vlay n).length, 0) := by
  unfold vread
  rw [vgo_vlay rest n 0 0 (by have := vlay_len9 h; omega) (fun _ => rfl)]
  simp
theorem vlay_high (n : Nat) : ∀ i (h : i < (vlay n).length), i + 1 < (vlay n).length → 128 ≤ (vlay n)[i].toNat := by
  induction n using Nat.strongRecOn with
  | _ n ih =>
    intro i h h1
    by_cases hn : n < 128
    · rw [vlay_small hn] at h1; simp at h1
    · have e := vlay_big (n := n) (by omega)
      simp only [e] at h h1 ⊢
      cases i with
      | zero => simp only [List.getElem_cons_zero]; rw [ofNat_toNat _ (by omega)]; omega
      | succ i =>
        simp only [List.getElem_cons_succ]
        exact ih (n / 128) (by omega) i _ (by simpa using h1)
theorem vlay_begins {n k : Nat} (h : n < 2 ^ 63) (hk : k < (vlay n).length) : vread ((vlay n).take k) = (0, 0, 10) := by
  have h9 := vlay_len9 h
  have hl : ((vlay n).take k).length = k := by rw [List.length_take]; omega
  refine High.short (j := k) ⟨by omega, by omega, fun i hi hik => ?_⟩ (by omega) hl.symm
  rw [List.getElem_take]
  exact vlay_high n i (by omega) (by omega)
theorem vlay_mono (n : Nat) : ∀ m, m ≤ n → (vlay m).length ≤ (vlay n).length := by
  induction n using Nat.strongRecOn with
  | _ n ih =>
    intro m hm
    by_cases hm1 : m < 128
    · rw [vlay_small hm1]; exact vlay_pos n
    · rw [vlay_big (n := m) (by omega), vlay_big (n := n) (by omega)]
      have := ih (n / 128) (by omega) (m / 128) (by omega)
      simp only [List.length_cons]; omega
theorem vlay_upper (n : Nat) : n < 2 ^ (7 * (vlay n).length) := by
  induction n using Nat.strongRecOn with
  | _ n ih =>
    by_cases hn : n < 128
    · rw [vlay_small hn]; simpa using hn
    · rw [vlay_big (by omega)]
      have := ih (n / 128) (by omega)
      have h2 : 2 ^ (7 * ((vlay (n / 128)).length + 1)) = 128 * 2 ^ (7 * (vlay (n / 128)).length) := by rw [Nat.mul_add, Nat.pow_add]; omega
      simp only [List.length_cons, h2]; omega
theorem vlay_lower (n : Nat) : 1 < (vlay n).length → 2 ^ (7 * ((vlay n).length - 1)) ≤ n := by
  induction n using Nat.strongRecOn with
  | _ n ih =>
    intro h
    by_cases hn : n < 128
    · rw [vlay_small hn] at h; simp at h
    · rw [vlay_big (by omega)]
      simp only [List.length_cons, Nat.add_sub_cancel]
      by_cases h1 : 1 < (vlay (n / 128)).length
      · have := ih (n / 128) (by omega) h1
        have e : (vlay (n / 128)).length = ((vlay (n / 128)).length - 1) + 1 := by omega
        have h2 : 2 ^ (7 * (vlay (n / 128)).length) = 128 * 2 ^ (7 * ((vlay (n / 128)).length - 1)) := by
          rw [e, Nat.mul_add, Nat.pow_add, Nat.add_sub_cancel]; omega
        rw [h2]; omega
      · have hp := vlay_pos (n / 128)
        have : (vlay (n / 128)).length = 1 := by omega
        rw [this]; omega
end Go.Proofs.Ytinnfbhdafkogaa.Varint
