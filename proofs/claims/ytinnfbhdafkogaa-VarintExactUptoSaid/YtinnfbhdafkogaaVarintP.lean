/- What is read of bytes is laid just so: plain facts on varints. No statement about the program stands here. -/
import Derived.Test.YtinnfbhdafkogaaVarintM
namespace Go.Proofs.Ytinnfbhdafkogaa.Varint
open Go VC
def dec : List UInt8 → Nat
  | [] => 0
  | b :: t => b.toNat % 128 + 128 * dec t
theorem dec_snoc (b : UInt8) : ∀ l : List UInt8, dec (l ++ [b]) = dec l + b.toNat % 128 * 2 ^ (7 * l.length)
  | [] => by simp [dec]
  | x :: l => by
    simp only [List.cons_append, dec, dec_snoc b l, List.length_cons]
    have : 2 ^ (7 * (l.length + 1)) = 128 * 2 ^ (7 * l.length) := by rw [Nat.mul_add, Nat.pow_add]; omega
    rw [this, Nat.mul_add, Nat.mul_left_comm]
    omega
theorem dec_lt : ∀ l : List UInt8, dec l < 2 ^ (7 * l.length)
  | [] => by simp [dec]
  | x :: l => by
    have := dec_lt l
    have h2 : 2 ^ (7 * (l.length + 1)) = 128 * 2 ^ (7 * l.length) := by rw [Nat.mul_add, Nat.pow_add]; omega
    simp only [dec, List.length_cons, h2]
    have : x.toNat % 128 < 128 := Nat.mod_lt _ (by omega)
    omega
theorem vlay_dec (b : UInt8) (hb : b.toNat < 128) : ∀ l : List UInt8, (∀ x ∈ l, 128 ≤ x.toNat) → (l ≠ [] → b.toNat ≠ 0) → vlay (dec (l ++ [b])) = l ++ [b]
  | [], _, _ => by
    simp only [List.nil_append, dec, Nat.mul_zero, Nat.add_zero, Nat.mod_eq_of_lt hb]
    rw [vlay_small hb]
    simp
  | x :: l, h, h0 => by
    have hx := h x (by simp)
    have hx' := x.toNat_lt
    have ih := vlay_dec b hb l (fun y hy => h y (by simp [hy])) (fun _ => h0 (by simp))
    have hpos : 0 < dec (l ++ [b]) := by
      rw [dec_snoc, Nat.mod_eq_of_lt hb]
      have : 0 < b.toNat * 2 ^ (7 * l.length) := Nat.mul_pos (by have := h0 (by simp); omega) (Nat.two_pow_pos _)
      omega
    simp only [List.cons_append, dec]
    rw [vlay_big (by omega)]
    have e1 : (x.toNat % 128 + 128 * dec (l ++ [b])) % 128 + 128 = x.toNat := by omega
    have e2 : (x.toNat % 128 + 128 * dec (l ++ [b])) / 128 = dec (l ++ [b]) := by omega
    rw [e1, e2, ih]
    simp
theorem vgo_skip (xs : List UInt8) : ∀ j, j ≤ 9 → j ≤ xs.length → (∀ i (h : i < xs.length), i < j → 128 ≤ xs[i].toNat) → vread xs = vgo (xs.drop j) j (dec (xs.take j))
  | 0, _, _, _ => by simp [vread, dec]
  | j + 1, h9, hl, h => by
    have hlt : j < xs.length := by omega
    rw [vgo_skip xs j (by omega) (by omega) (fun i hi hij => h i hi (by omega)), List.drop_eq_getElem_cons hlt, vgo_big (by omega) (h j hlt (by omega))]
    rw [List.take_succ_eq_append_getElem hlt, dec_snoc, List.length_take, Nat.min_eq_left (by omega)]
/-- how many of the first bytes have the high bit -/
structure High (xs : List UInt8) (j : Nat) : Prop where
  le9 : j ≤ 9
  le : j ≤ xs.length
  all : ∀ i (h : i < xs.length), i < j → 128 ≤ xs[i].toNat
theorem High.r9 {xs : List UInt8} (h : High xs 9) : vread xs = (0, 0, 11) := by rw [vgo_skip xs 9 h.le9 h.le h.all, vgo_9]
theorem High.short {xs : List UInt8} {j : Nat} (h : High xs j) (h9 : j ≠ 9) (hl : j = xs.length) : vread xs = (0, 0, 10) := by
  rw [vgo_skip xs j h.le9 h.le h.all, hl, List.drop_length, vgo_nil (by omega)]
theorem High.form {xs : List UInt8} {j : Nat} (h : High xs j) (h9 : j ≠ 9) (hl : j < xs.length) (h0 : 0 < j) (hb : xs[j].toNat = 0) : vread xs = (0, 0, 12) := by
  rw [vgo_skip xs j h.le9 h.le h.all, List.drop_eq_getElem_cons hl, vgo_form h9 hb h0]
theorem High.good {xs : List UInt8} {j : Nat} (h : High xs j) (h9 : j ≠ 9) (hl : j < xs.length) (hb : xs[j].toNat < 128) (h0 : ¬ (0 < j ∧ xs[j].toNat = 0)) :
    ∃ n, vread xs = (n, j + 1, 0) ∧ n < 2 ^ 63 ∧ vlay n = xs.take (j + 1) := by
  have ht : xs.take (j + 1) = xs.take j ++ [xs[j]] := List.take_succ_eq_append_getElem hl
  have hlen : (xs.take j).length = j := by rw [List.length_take, Nat.min_eq_left h.le]
  have hd : dec (xs.take (j + 1)) = dec (xs.take j) + xs[j].toNat * 2 ^ (7 * j) := by rw [ht, dec_snoc, Nat.mod_eq_of_lt hb, hlen]
  have hj := h.le9
  refine ⟨dec (xs.take (j + 1)), ?_, ?_, ?_⟩
  · rw [vgo_skip xs j h.le9 h.le h.all, List.drop_eq_getElem_cons hl, vgo_end h9 hb (by omega), hd]
  · refine Nat.lt_of_lt_of_le (dec_lt _) ?_
    rw [List.length_take]
    exact Nat.pow_le_pow_right (by omega) (by omega)
  · rw [ht]
    refine vlay_dec _ hb _ ?_ ?_
    · intro x hx
      obtain ⟨i, hi, rfl⟩ := List.getElem_of_mem hx
      rw [List.getElem_take]
      rw [hlen] at hi
      exact h.all i (by omega) hi
    · intro hne hz
      refine h0 ⟨?_, hz⟩
      rcases Nat.eq_zero_or_pos j with e | e
      · subst e; simp at hne
      · exact e
end Go.Proofs.Ytinnfbhdafkogaa.Varint
