/- Digests in bytes, as plain Lean: what is read of any bytes. No statement about the program stands here. -/
import Derived.Test.YtkklmjioheimfaaDoorDig
import Derived.Test.YtkklmjioheimfaaDoorVarintT
namespace Go.Proofs.YtkklmjioheimfaaDoor.Dig
open Go VC Go.RowKit Sha Loan Varint Help
set_option maxRecDepth 20000
set_option maxHeartbeats 4000000
theorem vread_cases (xs : List UInt8) : ∃ j, High xs j ∧ (j = 9 ∨ j ≠ 9 ∧ j = xs.length ∨ j ≠ 9 ∧ ∃ h : j < xs.length, xs[j].toNat < 128) := by
  have go : ∀ n j, n + j = 9 → High xs j → ∃ j, High xs j ∧ (j = 9 ∨ j ≠ 9 ∧ j = xs.length ∨ j ≠ 9 ∧ ∃ h : j < xs.length, xs[j].toNat < 128) := by
    intro n
    induction n with
    | zero => intro j hj h; exact ⟨j, h, .inl (by omega)⟩
    | succ n ih =>
      intro j hj h
      by_cases hl : j = xs.length
      · exact ⟨j, h, .inr (.inl ⟨by omega, hl⟩)⟩
      · have hlt : j < xs.length := by have := h.le; omega
        by_cases hb : xs[j].toNat < 128
        · exact ⟨j, h, .inr (.inr ⟨by omega, hlt, hb⟩)⟩
        · refine ih (j + 1) (by omega) ⟨by omega, hlt, fun i hi hij => ?_⟩
          rcases Nat.lt_or_ge i j with h1 | h1
          · exact h.all i hi h1
          · obtain rfl : i = j := by omega
            omega
  exact go 9 0 rfl ⟨by omega, by omega, fun i hi h => by omega⟩
theorem vread_out (xs : List UInt8) : vread xs = (0, 0, 10) ∨ vread xs = (0, 0, 11) ∨ vread xs = (0, 0, 12) ∨ ∃ n m, vread xs = (n, m, 0) ∧ n < 2 ^ 63 ∧ 0 < m ∧ m ≤ xs.length ∧ vlay n = xs.take m := by
  obtain ⟨j, hj, h | ⟨h9, h⟩ | ⟨h9, h, hb⟩⟩ := vread_cases xs
  · subst h; exact .inr (.inl hj.r9)
  · exact .inl (hj.short h9 h)
  · by_cases h0 : 0 < j ∧ xs[j].toNat = 0
    · exact .inr (.inr (.inl (hj.form h9 h h0.1 h0.2)))
    · obtain ⟨n, h1, h2, h3⟩ := hj.good h9 h hb h0
      exact .inr (.inr (.inr ⟨n, j + 1, h1, h2, by omega, by omega, h3⟩))
def errOf (e : Nat) : Nat := if e = 0 then 0 else if e = 10 then 32 else 33
/-- a number at a place: the number, the place behind it, the error -/
def dnum (xs : List UInt8) (at' : Nat) : Nat × Nat × Nat :=
  if (vread (xs.drop at')).2.2 = 0 then ((vread (xs.drop at')).1, at' + (vread (xs.drop at')).2.1, 0) else (0, 0, errOf (vread (xs.drop at')).2.2)
def dread (xs : List UInt8) : Nat × List UInt8 × Nat × Nat :=
  if (dnum xs 0).2.2 ≠ 0 then (0, [], 0, (dnum xs 0).2.2)
  else if (dnum xs (dnum xs 0).2.1).2.2 ≠ 0 then (0, [], 0, (dnum xs (dnum xs 0).2.1).2.2)
  else if fitsE (dnum xs 0).1 (dnum xs (dnum xs 0).2.1).1 ≠ 0 then (0, [], 0, fitsE (dnum xs 0).1 (dnum xs (dnum xs 0).2.1).1)
  else if xs.length - (dnum xs (dnum xs 0).2.1).2.1 < (dnum xs (dnum xs 0).2.1).1 then (0, [], 0, 32)
  else ((dnum xs 0).1, (xs.drop (dnum xs (dnum xs 0).2.1).2.1).take (dnum xs (dnum xs 0).2.1).1, (dnum xs (dnum xs 0).2.1).2.1 + (dnum xs (dnum xs 0).2.1).1, 0)
theorem dnum_out (xs : List UInt8) (k : Nat) (hk : k ≤ xs.length) : (∃ e, e ≠ 0 ∧ e < 100 ∧ dnum xs k = (0, 0, e)) ∨ ∃ n m, dnum xs k = (n, k + m, 0) ∧ n < 2 ^ 63 ∧ 0 < m ∧ k + m ≤ xs.length ∧ vlay n = (xs.drop k).take m := by
  unfold dnum
  rcases vread_out (xs.drop k) with h | h | h | ⟨n, m, h, h1, h2, h3, h4⟩
  · exact .inl ⟨32, by omega, by omega, by rw [h]; rfl⟩
  · exact .inl ⟨33, by omega, by omega, by rw [h]; rfl⟩
  · exact .inl ⟨33, by omega, by omega, by rw [h]; rfl⟩
  · exact .inr ⟨n, m, by rw [h]; rfl, h1, h2, by rw [List.length_drop] at h3; omega, h4⟩
theorem vlay_small1 {n : Nat} (h : n < 128) : vlay n = [UInt8.ofNat n] := vlay_small h
theorem vread_small {n : Nat} (h : n < 128) (rest : List UInt8) : vread (UInt8.ofNat n :: rest) = (n, 1, 0) := by
  have := vread_vlay (n := n) (by omega) rest
  rw [vlay_small h] at this
  exact this
theorem dread_dlay {hash : Nat} {ds : List UInt8} (hf : fitsE hash ds.length = 0) (rest : List UInt8) : dread (dlay hash ds ++ rest) = (hash, ds, (dlay hash ds).length, 0) := by
  obtain ⟨h18, h64⟩ := fits_small hf
  have hd : dlay hash ds = UInt8.ofNat hash :: UInt8.ofNat ds.length :: ds := by unfold dlay; rw [if_pos hf]
  rw [hd]
  have e1 : dnum (UInt8.ofNat hash :: UInt8.ofNat ds.length :: ds ++ rest) 0 = (hash, 1, 0) := by
    unfold dnum
    rw [List.drop_zero, List.cons_append, vread_small (by omega)]
    rfl
  have e2 : dnum (UInt8.ofNat hash :: UInt8.ofNat ds.length :: ds ++ rest) 1 = (ds.length, 2, 0) := by
    unfold dnum
    rw [List.cons_append, List.cons_append, List.drop_succ_cons, List.drop_zero, vread_small (by omega)]
    rfl
  unfold dread
  rw [e1]
  dsimp only
  rw [e2]
  dsimp only
  rw [if_neg (by simp), if_neg (by simp), if_neg (by simp [hf]), if_neg (by simp)]
  simp [List.length_cons]
  try omega
theorem dread_begins {hash : Nat} {ds : List UInt8} (hf : fitsE hash ds.length = 0) {k : Nat} (hk : k < (dlay hash ds).length) : dread ((dlay hash ds).take k) = (0, [], 0, 32) := by
  obtain ⟨h18, h64⟩ := fits_small hf
  have hd : dlay hash ds = UInt8.ofNat hash :: UInt8.ofNat ds.length :: ds := by unfold dlay; rw [if_pos hf]
  rw [hd] at hk ⊢
  have hn : vread [] = (0, 0, 10) := rfl
  rcases k with _ | _ | k
  · unfold dread dnum; simp [hn, errOf]
  · have e1 : dnum [UInt8.ofNat hash] 0 = (hash, 1, 0) := by
      unfold dnum
      rw [List.drop_zero, vread_small (by omega)]
      rfl
    have e2 : dnum [UInt8.ofNat hash] 1 = (0, 0, 32) := by
      unfold dnum
      simp [hn, errOf]
    unfold dread
    rw [List.take_succ_cons, List.take_zero, e1]
    dsimp only
    rw [e2]
    simp
  · have hkl : k < ds.length := by simp at hk; omega
    rw [List.take_succ_cons, List.take_succ_cons]
    have e1 : dnum (UInt8.ofNat hash :: UInt8.ofNat ds.length :: ds.take k) 0 = (hash, 1, 0) := by
      unfold dnum
      rw [List.drop_zero, vread_small (by omega)]
      rfl
    have e2 : dnum (UInt8.ofNat hash :: UInt8.ofNat ds.length :: ds.take k) 1 = (ds.length, 2, 0) := by
      unfold dnum
      rw [List.drop_succ_cons, List.drop_zero, vread_small (by omega)]
      rfl
    unfold dread
    rw [e1]
    dsimp only
    rw [e2]
    dsimp only
    rw [if_neg (by simp), if_neg (by simp), if_neg (by simp [hf]), if_pos (by simp; omega)]
/-- what is read lies so -/
theorem dread_back {xs : List UInt8} (h : (dread xs).2.2.2 = 0) : (dread xs).2.2.1 ≤ xs.length ∧ fitsE (dread xs).1 (dread xs).2.1.length = 0 ∧ dlay (dread xs).1 (dread xs).2.1 = xs.take (dread xs).2.2.1 := by
  rcases dnum_out xs 0 (by omega) with ⟨e, he, _, h1⟩ | ⟨n, m, h1, hn, hm, hml, hv⟩
  · have : dread xs = (0, [], 0, e) := by unfold dread; rw [h1]; simp [he]
    rw [this] at h; exact (he h).elim
  rw [Nat.zero_add] at h1 hml
  rcases dnum_out xs m hml with ⟨e, he, _, h2⟩ | ⟨n2, m2, h2, hn2, hm2, hml2, hv2⟩
  · have : dread xs = (0, [], 0, e) := by unfold dread; rw [h1]; dsimp only; rw [h2]; simp [he]
    rw [this] at h; exact (he h).elim
  have hd : dread xs = if fitsE n n2 ≠ 0 then (0, [], 0, fitsE n n2) else if xs.length - (m + m2) < n2 then (0, [], 0, 32) else (n, (xs.drop (m + m2)).take n2, m + m2 + n2, 0) := by
    unfold dread; rw [h1]; dsimp only; rw [h2]; dsimp only; rw [if_neg (by simp), if_neg (by simp)]
  by_cases hf : fitsE n n2 = 0
  · by_cases hs : xs.length - (m + m2) < n2
    · rw [hd, if_neg (by simp [hf]), if_pos hs] at h; simp at h
    · rw [hd, if_neg (by simp [hf]), if_neg hs]
      obtain ⟨h18, h64⟩ := fits_small hf
      have hl : ((xs.drop (m + m2)).take n2).length = n2 := by rw [List.length_take, List.length_drop]; omega
      dsimp only
      rw [hl]
      refine ⟨by omega, hf, ?_⟩
      unfold dlay
      rw [hl, if_pos hf]
      rw [vlay_small (by omega), List.drop_zero] at hv
      rw [vlay_small (by omega)] at hv2
      have e1 : xs.take (m + m2 + n2) = xs.take m ++ ((xs.drop m).take m2 ++ (xs.drop (m + m2)).take n2) := by
        rw [List.take_add, List.take_add, List.append_assoc]
      rw [e1, ← hv, ← hv2]
      rfl
  · rw [hd, if_pos hf] at h; exact (hf h).elim
theorem dread_err {xs : List UInt8} (h : (dread xs).2.2.2 ≠ 0) : dread xs = (0, [], 0, (dread xs).2.2.2) := by
  unfold dread at h ⊢
  split
  · rfl
  · split
    · rfl
    · split
      · rfl
      · split
        · rfl
        · rename_i h1 h2 h3 h4
          rw [if_neg h1, if_neg h2, if_neg h3, if_neg h4] at h
          exact (h rfl).elim
end Go.Proofs.YtkklmjioheimfaaDoor.Dig
