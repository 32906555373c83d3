/- Several texts in one. -/
import Derived.Test.YtokoohdpakhphaaDoorLnkA
import Derived.Test.YtokoohdpakhphaaDoorVarintA
import Derived.Lib.Bytealg
namespace Go.Proofs.YtokoohdpakhphaaDoor.Lnk
open Go VC Go.RowKit Dig Varint
theorem lfirst_lay {l : Lk} (hm : lmay l) (z : List UInt8) : lfirst (lbytes l ++ z) = (l, (lbytes l).length, 0) := by
  have hf := lmay_fits hm
  have hmm := hm
  unfold lmay at hmm
  have hd := dread_dlay hf z
  unfold lbytes
  rw [if_pos hm]
  obtain ⟨v, c, h, d⟩ := l
  dsimp only at hf hmm hd ⊢
  by_cases hv : v = 1
  · subst hv
    rw [if_pos rfl, vlay_small (by decide : 1 < 128)]
    have e : [UInt8.ofNat 1] ++ vlay c ++ dlay h d ++ z = 1 :: (vlay c ++ (dlay h d ++ z)) := by simp
    rw [e]
    unfold lfirst
    have h1 : vread (1 :: (vlay c ++ (dlay h d ++ z))) = (1, 1, 0) := by
      have := vread_vlay (n := 1) (by decide) (vlay c ++ (dlay h d ++ z))
      rw [vlay_small (by decide : 1 < 128)] at this
      exact this
    have n1 : lnum (1 :: (vlay c ++ (dlay h d ++ z))) 0 = (1, 1, 0) := by
      unfold lnum
      rw [List.drop_zero, h1]
      rfl
    have n2 : lnum (1 :: (vlay c ++ (dlay h d ++ z))) 1 = (c, 1 + (vlay c).length, 0) := by
      unfold lnum
      rw [List.drop_succ_cons, List.drop_zero, vread_vlay (by omega)]
      rfl
    rw [n1]
    dsimp only
    rw [n2]
    dsimp only
    rw [if_neg (by simp), if_neg (by simp), if_neg (by simp), if_neg (by simp)]
    unfold ldig
    have e2 : (1 :: (vlay c ++ (dlay h d ++ z))).drop (1 + (vlay c).length) = dlay h d ++ z := by
      rw [Nat.add_comm, List.drop_succ_cons, List.drop_left]
    rw [e2, hd]
    simp
    omega
  · have hv0 : v = 0 ∧ c = 112 ∧ h = 18 := by omega
    obtain ⟨rfl, rfl, rfl⟩ := hv0
    rw [if_neg (by omega), List.nil_append]
    unfold lfirst
    have h0 : (dlay 18 d ++ z)[0]? = some 18 := by
      unfold dlay
      rw [if_pos hf]
      rfl
    rw [if_pos h0]
    unfold ldig
    rw [List.drop_zero, hd]
    simp
theorem lbytes_begins {l m : Lk} (hl : lmay l) (hm : lmay m) {z : List UInt8} (h : lbytes m = lbytes l ++ z) : l = m ∧ z = [] := by
  have h1 := lfirst_lay hl z
  have h2 := lfirst_lay hm []
  rw [List.append_nil, h, h1] at h2
  have e1 := congrArg Prod.fst h2
  have e2 := congrArg (fun r => r.2.1) h2
  dsimp only at e1 e2
  rw [List.length_append] at e2
  exact ⟨e1, List.eq_nil_of_length_eq_zero (by omega)⟩
def llt (l m : Lk) : Bool := decide (lmay l ∧ lmay m ∧ Lib.compareBytes (lbytes l) (lbytes m) < 0)
theorem cmp_self : ∀ x : List UInt8, Lib.compareBytes x x = 0
  | [] => rfl
  | a :: us => by
    unfold Lib.compareBytes
    rw [if_neg (UInt8.lt_irrefl a), if_neg (UInt8.lt_irrefl a)]
    exact cmp_self us
/-- at the first place where they part, the one is below the other -/
def fdiff : List UInt8 → List UInt8 → Bool
  | a :: us, b :: bs => if a ≠ b then decide (a < b) else fdiff us bs
  | _, _ => false
theorem fdiff_cmp : ∀ x y : List UInt8, (∀ z, y = x ++ z → z = []) → fdiff x y = decide (Lib.compareBytes x y < 0)
  | [], [], _ => rfl
  | [], b :: bs, h => by cases h (b :: bs) rfl
  | a :: us, [], _ => rfl
  | a :: us, b :: bs, h => by
    unfold fdiff Lib.compareBytes
    by_cases hab : a = b
    · subst hab
      rw [if_neg (by simp), if_neg (UInt8.lt_irrefl a), if_neg (UInt8.lt_irrefl a)]
      exact fdiff_cmp us bs fun z hz => h z (by rw [hz]; rfl)
    · rw [if_pos hab]
      by_cases hlt : a < b
      · rw [if_pos hlt]; simp [hlt]
      · rw [if_neg hlt]
        have : b < a := by
          rcases UInt8.lt_or_lt_of_ne hab with h | h
          · exact absurd h hlt
          · exact h
        rw [if_pos this]
        simp [hlt]
theorem fdiff_llt (l m : Lk) (hl : lmay l) (hm : lmay m) : fdiff (lbytes l) (lbytes m) = llt l m := by
  unfold llt
  rw [fdiff_cmp _ _ fun z hz => (lbytes_begins hl hm hz).2]
  simp [hl, hm]
theorem llt_self (l : Lk) : llt l l = false := by
  unfold llt
  rw [cmp_self]
  simp
end Go.Proofs.YtokoohdpakhphaaDoor.Lnk
namespace Go.Proofs.YtokoohdpakhphaaDoor.Lnk
open Go VC Go.RowKit Dig Varint
set_option linter.unusedVariables false
set_option linter.unusedSimpArgs false
theorem ldig_back {l : Lk} {xs : List UInt8} {k : Nat} (hk : k ≤ xs.length) (h : (ldig l xs k).2.2 = 0) :
    ∃ hh d n, ldig l xs k = (⟨l.v, l.c, hh, d⟩, k + n, 0) ∧ k + n ≤ xs.length ∧ fitsE hh d.length = 0 ∧ dlay hh d = (xs.drop k).take n := by
  unfold ldig at h ⊢
  by_cases h0 : (dread (xs.drop k)).2.2.2 = 0
  · rw [if_pos h0]
    obtain ⟨h1, h2, h3⟩ := dread_back h0
    rw [List.length_drop] at h1
    exact ⟨_, _, _, rfl, by omega, h2, h3⟩
  · rw [if_neg h0] at h
    split at h <;> simp at h
theorem ldig_err {l : Lk} {xs : List UInt8} {k : Nat} (h : (ldig l xs k).2.2 ≠ 0) : ldig l xs k = (zeroLk, 0, (ldig l xs k).2.2) := by
  unfold ldig at h ⊢
  by_cases h0 : (dread (xs.drop k)).2.2.2 = 0
  · rw [if_pos h0] at h
    exact absurd rfl h
  · rw [if_neg h0]
    split <;> rfl
theorem lnum_back {xs : List UInt8} {k : Nat} (hk : k ≤ xs.length) (h : (lnum xs k).2.2 = 0) : ∃ n m, lnum xs k = (n, k + m, 0) ∧ n < 2 ^ 63 ∧ k + m ≤ xs.length ∧ vlay n = (xs.drop k).take m := by
  unfold lnum at h ⊢
  rcases vread_out (xs.drop k) with h1 | h1 | h1 | ⟨n, m, h1, h2, h3, h4, h5⟩
  · rw [h1] at h; simp at h
  · rw [h1] at h; simp at h
  · rw [h1] at h; simp at h
  · rw [h1]
    rw [List.length_drop] at h4
    exact ⟨n, m, rfl, h2, by omega, h5⟩
theorem lfirst_err {xs : List UInt8} (h : (lfirst xs).2.2 ≠ 0) : lfirst xs = (zeroLk, 0, (lfirst xs).2.2) := by
  unfold lfirst at h ⊢
  split
  · rename_i h1
    rw [if_pos h1] at h
    exact ldig_err h
  · rename_i h1
    rw [if_neg h1] at h
    split
    · rfl
    · rename_i h2
      rw [if_neg h2] at h
      split
      · rfl
      · rename_i h3
        rw [if_neg h3] at h
        split
        · rfl
        · rename_i h4
          rw [if_neg h4] at h
          exact ldig_err h
theorem lfirst_back {xs : List UInt8} {l : Lk} {n : Nat} (h : lfirst xs = (l, n, 0)) : lmay l ∧ n ≤ xs.length ∧ lbytes l = xs.take n := by
  unfold lfirst at h
  by_cases h1 : xs[0]? = some 18
  · rw [if_pos h1] at h
    obtain ⟨hh, d, m, e1, e2, e3, e4⟩ := ldig_back (Nat.zero_le _) (by rw [h])
    rw [e1] at h
    injection h with a1 a2
    injection a2 with a2 _
    dsimp only at a1
    subst a1 a2
    rw [Nat.zero_add] at e2 ⊢
    rw [List.drop_zero] at e4
    obtain ⟨f1, f2⟩ := fits_small e3
    have hd : dlay hh d = UInt8.ofNat hh :: UInt8.ofNat d.length :: d := by unfold dlay; rw [if_pos e3]
    have h18 : hh = 18 := by
      have e5 := congrArg (fun l : List UInt8 => l[0]?) e4
      have hm : 0 < m := by
        rcases Nat.eq_zero_or_pos m with h0 | h0
        · rw [hd, h0] at e4; cases e4
        · exact h0
      rw [hd, List.getElem?_take_of_lt hm, h1] at e5
      have e6 : UInt8.ofNat hh = 18 := Option.some.inj e5
      have e7 := congrArg UInt8.toNat e6
      rw [UInt8.toNat_ofNat'] at e7
      rw [Nat.mod_eq_of_lt (by omega)] at e7
      exact e7
    subst h18
    have h32 : d.length = 32 := by
      unfold fitsE at e3
      rw [if_pos rfl] at e3
      split at e3
      · assumption
      · omega
    have hmay : lmay ⟨0, 112, 18, d⟩ := by unfold lmay; dsimp only; omega
    refine ⟨hmay, e2, ?_⟩
    unfold lbytes
    rw [if_pos hmay]
    dsimp only
    rw [if_neg (by omega), List.nil_append]
    exact e4
  · rw [if_neg h1] at h
    by_cases h2 : (lnum xs 0).2.2 = 0
    · rw [if_neg (by simpa using h2)] at h
      obtain ⟨v, m, e1, e2, e3, e4⟩ := lnum_back (Nat.zero_le _) h2
      rw [e1] at h
      dsimp only at h
      by_cases h3 : v = 1
      · subst h3
        rw [if_neg (by simp)] at h
        by_cases h4 : (lnum xs (0 + m)).2.2 = 0
        · rw [if_neg (by simpa using h4)] at h
          obtain ⟨c, m2, g1, g2, g3, g4⟩ := lnum_back e3 h4
          rw [g1] at h
          dsimp only at h
          obtain ⟨hh, d, m3, k1, k2, k3, k4⟩ := ldig_back g3 (by rw [h])
          rw [k1] at h
          injection h with a1 a2
          injection a2 with a2 _
          dsimp only at a1
          subst a1 a2
          have hmay : lmay ⟨1, c, hh, d⟩ := by
            unfold lmay
            unfold fitsE at k3
            dsimp only
            by_cases b1 : hh = 18
            · rw [if_pos b1] at k3
              split at k3
              · omega
              · omega
            · rw [if_neg b1] at k3
              split at k3
              · split at k3
                · omega
                · omega
              · omega
          refine ⟨hmay, k2, ?_⟩
          unfold lbytes
          rw [if_pos hmay]
          dsimp only
          rw [if_pos rfl, e4, g4, k4, List.drop_zero, Nat.zero_add]
          rw [List.take_add, List.take_add]
        · rw [if_pos (by simpa using h4)] at h
          injection h with _ h
          injection h with _ h
          omega
      · rw [if_pos (by simpa using h3)] at h
        injection h with _ h
        injection h with _ h
        omega
    · rw [if_pos (by simpa using h2)] at h
      injection h with _ h
      injection h with _ h
      omega
theorem lparse_err {xs : List UInt8} (h : (lparse xs).2 ≠ 0) : lparse xs = (zeroLk, (lparse xs).2) := by
  unfold lparse at h ⊢
  split
  · rfl
  · split
    · rfl
    · rename_i h1 h2
      rw [if_neg h1, if_neg h2] at h
      exact absurd rfl h
theorem lparse_back {xs : List UInt8} {l : Lk} (h : lparse xs = (l, 0)) : lmay l ∧ lbytes l = xs := by
  unfold lparse at h
  by_cases h1 : (lfirst xs).2.2 = 0
  · rw [if_neg (by simpa using h1)] at h
    by_cases h2 : (lfirst xs).2.1 < xs.length
    · rw [if_pos h2] at h
      injection h with _ h
      omega
    · rw [if_neg h2] at h
      injection h with h _
      obtain ⟨h3, h4, h5⟩ := lfirst_back (xs := xs) (l := l) (n := (lfirst xs).2.1) (by rw [← h, ← h1])
      refine ⟨h3, ?_⟩
      rw [h5, List.take_of_length_le (by omega)]
  · rw [if_pos h1] at h
    injection h with _ h
    omega
theorem lparse_lay {l : Lk} (hm : lmay l) : lparse (lbytes l) = (l, 0) := by
  have h := lfirst_lay hm []
  rw [List.append_nil] at h
  unfold lparse
  rw [h]
  simp
theorem lbytes_head {l : Lk} (hm : lmay l) : ∃ t, lbytes l = (if l.v = 1 then 1 else 18) :: t := by
  have hf := lmay_fits hm
  unfold lbytes
  rw [if_pos hm]
  by_cases hv : l.v = 1
  · rw [if_pos hv, if_pos hv, vlay_small (by decide : 1 < 128)]
    exact ⟨_, rfl⟩
  · rw [if_neg hv, if_neg hv]
    unfold lmay at hm
    have h18 : l.h = 18 := by omega
    unfold dlay
    rw [if_pos hf, h18]
    exact ⟨_, rfl⟩
end Go.Proofs.YtokoohdpakhphaaDoor.Lnk
