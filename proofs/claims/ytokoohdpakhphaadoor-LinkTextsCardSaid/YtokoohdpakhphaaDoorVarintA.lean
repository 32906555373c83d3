/- Several texts in one. -/
import Derived.Test.YtokoohdpakhphaaDoorBitsU
import Derived.Test.YtokoohdpakhphaaDoorTy
namespace Go.Proofs.YtokoohdpakhphaaDoor.Varint
open Go VC

/-- what is read of bytes, from place i on, acc being what was read ahead of it: the number, how many bytes, the error -/
def vgo : List UInt8 → Nat → Nat → Nat × Nat × Nat
  | xs, i, acc => if i = 9 then (0, 0, 11) else match xs with
    | [] => (0, 0, 10)
    | b :: t => if 128 ≤ b.toNat then vgo t (i + 1) (acc + b.toNat % 128 * 2 ^ (7 * i)) else if b.toNat = 0 ∧ 0 < i then (0, 0, 12) else (acc + b.toNat * 2 ^ (7 * i), i + 1, 0)
def vread (xs : List UInt8) : Nat × Nat × Nat := vgo xs 0 0

theorem vgo_9 (xs : List UInt8) (acc : Nat) : vgo xs 9 acc = (0, 0, 11) := by unfold vgo; simp
theorem vgo_nil {i acc : Nat} (h : i ≠ 9) : vgo [] i acc = (0, 0, 10) := by unfold vgo; simp [h]
theorem vgo_big {b : UInt8} {t : List UInt8} {i acc : Nat} (h : i ≠ 9) (hb : 128 ≤ b.toNat) : vgo (b :: t) i acc = vgo t (i + 1) (acc + b.toNat % 128 * 2 ^ (7 * i)) := by
  rw [vgo]; simp [h, hb]
theorem vgo_form {b : UInt8} {t : List UInt8} {i acc : Nat} (h : i ≠ 9) (hb : b.toNat = 0) (hi : 0 < i) : vgo (b :: t) i acc = (0, 0, 12) := by
  rw [vgo]; simp [h, hb, hi]
theorem vgo_end {b : UInt8} {t : List UInt8} {i acc : Nat} (h : i ≠ 9) (hb : b.toNat < 128) (hi : ¬ (b.toNat = 0 ∧ 0 < i)) : vgo (b :: t) i acc = (acc + b.toNat * 2 ^ (7 * i), i + 1, 0) := by
  rw [vgo, if_neg h, if_neg (by omega), if_neg hi]

/-! the bits of one byte -/
theorem andn128 (b : UInt8) : Bandn .u8 (b.toNat : Int) 128 = ((b.toNat % 128 : Nat) : Int) := by
  have : ∀ n : Fin 256, Bandn .u8 (n.val : Int) 128 = ((n.val % 128 : Nat) : Int) := by decide +kernel
  exact this ⟨b.toNat, b.toNat_lt⟩
theorem and128 (b : UInt8) : Band .u8 (b.toNat : Int) 128 = if 128 ≤ b.toNat then 128 else 0 := by
  have : ∀ n : Fin 256, Band .u8 (n.val : Int) 128 = if 128 ≤ n.val then 128 else 0 := by decide +kernel
  exact this ⟨b.toNat, b.toNat_lt⟩
theorem or_step {acc x i : Nat} (hi : i ≤ 8) (ha : acc < 2 ^ (7 * i)) (hx : x < 128) : Bor .u64 (acc : Int) (Shl .u64 (x : Int) ((7 * i : Nat) : Int)) = ((acc + x * 2 ^ (7 * i) : Nat) : Int) := by
  have h56 : 2 ^ (7 * i) ≤ 2 ^ 56 := Nat.pow_le_pow_right (by omega) (by omega)
  have hlt : x * 2 ^ (7 * i) < 2 ^ 64 := by
    calc x * 2 ^ (7 * i) ≤ 127 * 2 ^ 56 := Nat.mul_le_mul (by omega) h56
      _ < 2 ^ 64 := by decide
  have hb : IntKind.u64.bits = 64 := rfl
  rw [Shl_u .u64 rfl x (7 * i) (by rw [hb]; omega), hb, Nat.mod_eq_of_lt hlt, Bor_u .u64 rfl acc _ (by rw [hb]; omega) (by rw [hb]; exact hlt)]
  congr 1
  rw [Nat.or_comm, Nat.add_comm, ← Nat.shiftLeft_eq, Nat.shiftLeft_add_eq_or_of_lt ha]
theorem acc_step {acc x i : Nat} (ha : acc < 2 ^ (7 * i)) (hx : x < 128) : acc + x * 2 ^ (7 * i) < 2 ^ (7 * (i + 1)) := by
  have : 2 ^ (7 * (i + 1)) = 128 * 2 ^ (7 * i) := by rw [Nat.mul_add, Nat.pow_add]; omega
  rw [this]
  have : x * 2 ^ (7 * i) ≤ 127 * 2 ^ (7 * i) := Nat.mul_le_mul_right _ (by omega)
  omega

/-! laying -/
def vlay (n : Nat) : List UInt8 := if n < 128 then [UInt8.ofNat n] else UInt8.ofNat (n % 128 + 128) :: vlay (n / 128)
termination_by n
decreasing_by omega
theorem vlay_small {n : Nat} (h : n < 128) : vlay n = [UInt8.ofNat n] := by rw [vlay, if_pos h]
theorem vlay_big {n : Nat} (h : 128 ≤ n) : vlay n = UInt8.ofNat (n % 128 + 128) :: vlay (n / 128) := by rw [vlay, if_neg (by omega)]
theorem vlay_len : ∀ (k n : Nat), n < 128 ^ (k + 1) → (vlay n).length ≤ k + 1
  | 0, n, h => by rw [vlay_small (by simpa using h)]; simp
  | k + 1, n, h => by
    by_cases hn : n < 128
    · rw [vlay_small hn]; simp
    · rw [vlay_big (by omega)]
      have := vlay_len k (n / 128) (by rw [Nat.pow_succ] at h; omega)
      simp only [List.length_cons]; omega
theorem vlay_pos (n : Nat) : 0 < (vlay n).length := by
  by_cases hn : n < 128
  · rw [vlay_small hn]; simp
  · rw [vlay_big (by omega)]; simp
theorem bor128 (n : Nat) : Bor .u8 (IntKind.u8.wrap (n : Int)) 128 = ((n % 128 + 128 : Nat) : Int) := by
  have : ∀ m : Fin 256, Bor .u8 (m.val : Int) 128 = ((m.val % 128 + 128 : Nat) : Int) := by decide +kernel
  rw [wrap_u8_mod]
  have h := this ⟨n % 256, Nat.mod_lt _ (by omega)⟩
  simp only at h
  rw [h]
  congr 2
  omega
theorem ofNat_toNat (n : Nat) (h : n < 256) : (UInt8.ofNat n).toNat = n := by simp [UInt8.toNat_ofNat']; omega
end Go.Proofs.YtokoohdpakhphaaDoor.Varint
namespace Go.Proofs.YtokoohdpakhphaaDoor.Varint
open Go VC
def dec : List UInt8 → Nat
  | [] => 0
  | b :: t => b.toNat % 128 + 128 * dec t
theorem dec_snoc (b : UInt8) : ∀ l : List UInt8, dec (l ++ [b]) = dec l + b.toNat % 128 * 2 ^ (7 * l.length)
  | [] => by simp [dec]
  | x :: l => by
    simp only [List.cons_append, dec, dec_snoc b l, List.length_cons]
    have : 2 ^ (7 * (l.length + 1)) = 128 * 2 ^ (7 * l.length) := by rw [Nat.mul_add, Nat.pow_add]; omega
    rw [this, Nat.mul_add, Nat.mul_left_comm]
    omega
theorem dec_lt : ∀ l : List UInt8, dec l < 2 ^ (7 * l.length)
  | [] => by simp [dec]
  | x :: l => by
    have := dec_lt l
    have h2 : 2 ^ (7 * (l.length + 1)) = 128 * 2 ^ (7 * l.length) := by rw [Nat.mul_add, Nat.pow_add]; omega
    simp only [dec, List.length_cons, h2]
    have : x.toNat % 128 < 128 := Nat.mod_lt _ (by omega)
    omega
theorem vlay_dec (b : UInt8) (hb : b.toNat < 128) : ∀ l : List UInt8, (∀ x ∈ l, 128 ≤ x.toNat) → (l ≠ [] → b.toNat ≠ 0) → vlay (dec (l ++ [b])) = l ++ [b]
  | [], _, _ => by
    simp only [List.nil_append, dec, Nat.mul_zero, Nat.add_zero, Nat.mod_eq_of_lt hb]
    rw [vlay_small hb]
    simp
  | x :: l, h, h0 => by
    have hx := h x (by simp)
    have hx' := x.toNat_lt
    have ih := vlay_dec b hb l (fun y hy => h y (by simp [hy])) (fun _ => h0 (by simp))
    have hpos : 0 < dec (l ++ [b]) := by
      rw [dec_snoc, Nat.mod_eq_of_lt hb]
      have : 0 < b.toNat * 2 ^ (7 * l.length) := Nat.mul_pos (by have := h0 (by simp); omega) (Nat.two_pow_pos _)
      omega
    simp only [List.cons_append, dec]
    rw [vlay_big (by omega)]
    have e1 : (x.toNat % 128 + 128 * dec (l ++ [b])) % 128 + 128 = x.toNat := by omega
    have e2 : (x.toNat % 128 + 128 * dec (l ++ [b])) / 128 = dec (l ++ [b]) := by omega
    rw [e1, e2, ih]
    simp
theorem vgo_skip (xs : List UInt8) : ∀ j, j ≤ 9 → j ≤ xs.length → (∀ i (h : i < xs.length), i < j → 128 ≤ xs[i].toNat) → vread xs = vgo (xs.drop j) j (dec (xs.take j))
  | 0, _, _, _ => by simp [vread, dec]
  | j + 1, h9, hl, h => by
    have hlt : j < xs.length := by omega
    rw [vgo_skip xs j (by omega) (by omega) (fun i hi hij => h i hi (by omega)), List.drop_eq_getElem_cons hlt, vgo_big (by omega) (h j hlt (by omega))]
    rw [List.take_succ_eq_append_getElem hlt, dec_snoc, List.length_take, Nat.min_eq_left (by omega)]
/-- how many of the first bytes have the high bit -/
structure High (xs : List UInt8) (j : Nat) : Prop where
  le9 : j ≤ 9
  le : j ≤ xs.length
  all : ∀ i (h : i < xs.length), i < j → 128 ≤ xs[i].toNat
theorem High.r9 {xs : List UInt8} (h : High xs 9) : vread xs = (0, 0, 11) := by rw [vgo_skip xs 9 h.le9 h.le h.all, vgo_9]
theorem High.short {xs : List UInt8} {j : Nat} (h : High xs j) (h9 : j ≠ 9) (hl : j = xs.length) : vread xs = (0, 0, 10) := by
  rw [vgo_skip xs j h.le9 h.le h.all, hl, List.drop_length, vgo_nil (by omega)]
theorem High.form {xs : List UInt8} {j : Nat} (h : High xs j) (h9 : j ≠ 9) (hl : j < xs.length) (h0 : 0 < j) (hb : xs[j].toNat = 0) : vread xs = (0, 0, 12) := by
  rw [vgo_skip xs j h.le9 h.le h.all, List.drop_eq_getElem_cons hl, vgo_form h9 hb h0]
theorem High.good {xs : List UInt8} {j : Nat} (h : High xs j) (h9 : j ≠ 9) (hl : j < xs.length) (hb : xs[j].toNat < 128) (h0 : ¬ (0 < j ∧ xs[j].toNat = 0)) :
    ∃ n, vread xs = (n, j + 1, 0) ∧ n < 2 ^ 63 ∧ vlay n = xs.take (j + 1) := by
  have ht : xs.take (j + 1) = xs.take j ++ [xs[j]] := List.take_succ_eq_append_getElem hl
  have hlen : (xs.take j).length = j := by rw [List.length_take, Nat.min_eq_left h.le]
  have hd : dec (xs.take (j + 1)) = dec (xs.take j) + xs[j].toNat * 2 ^ (7 * j) := by rw [ht, dec_snoc, Nat.mod_eq_of_lt hb, hlen]
  have hj := h.le9
  refine ⟨dec (xs.take (j + 1)), ?_, ?_, ?_⟩
  · rw [vgo_skip xs j h.le9 h.le h.all, List.drop_eq_getElem_cons hl, vgo_end h9 hb (by omega), hd]
  · refine Nat.lt_of_lt_of_le (dec_lt _) ?_
    rw [List.length_take]
    exact Nat.pow_le_pow_right (by omega) (by omega)
  · rw [ht]
    refine vlay_dec _ hb _ ?_ ?_
    · intro x hx
      obtain ⟨i, hi, rfl⟩ := List.getElem_of_mem hx
      rw [List.getElem_take]
      rw [hlen] at hi
      exact h.all i (by omega) hi
    · intro hne hz
      refine h0 ⟨?_, hz⟩
      rcases Nat.eq_zero_or_pos j with e | e
      · subst e; simp at hne
      · exact e
end Go.Proofs.YtokoohdpakhphaaDoor.Varint
namespace Go.Proofs.YtokoohdpakhphaaDoor.Varint
open Go VC
theorem vgo_vlay (rest : List UInt8) (m : Nat) : ∀ i acc, i + (vlay m).length ≤ 9 → (m = 0 → i = 0) → vgo (vlay m ++ rest) i acc = (acc + m * 2 ^ (7 * i), i + (vlay m).length, 0) := by
  induction m using Nat.strongRecOn with
  | _ m ih =>
    intro i acc hl h0
    by_cases hm : m < 128
    · rw [vlay_small hm] at hl ⊢
      simp only [List.length_cons, List.length_nil] at hl ⊢
      have e := ofNat_toNat m (by omega)
      rw [List.cons_append, vgo_end (by omega) (by rw [e]; exact hm) (by rw [e]; omega), e]
    · rw [vlay_big (by omega)] at hl ⊢
      simp only [List.length_cons] at hl ⊢
      have e := ofNat_toNat (m % 128 + 128) (by omega)
      rw [List.cons_append, vgo_big (by omega) (by rw [e]; omega), e, ih (m / 128) (by omega) (i + 1) _ (by omega) (by omega)]
      have h2 : 2 ^ (7 * (i + 1)) = 128 * 2 ^ (7 * i) := by rw [Nat.mul_add, Nat.pow_add]; omega
      have h3 : (m % 128 + 128) % 128 * 2 ^ (7 * i) + m / 128 * (128 * 2 ^ (7 * i)) = m * 2 ^ (7 * i) := by
        rw [← Nat.mul_assoc, ← Nat.add_mul]
        congr 1
        omega
      rw [h2]
      refine Prod.ext ?_ (Prod.ext ?_ rfl)
      · dsimp only; omega
      · dsimp only; omega
theorem vlay_len9 {n : Nat} (h : n < 2 ^ 63) : (vlay n).length ≤ 9 := vlay_len 8 n (by omega)
theorem vread_vlay {n : Nat} (h : n < 2 ^ 63) (rest : List UInt8) : vread (vlay n ++ rest) = (n, (vlay n).length, 0) := by
  unfold vread
  rw [vgo_vlay rest n 0 0 (by have := vlay_len9 h; omega) (fun _ => rfl)]
  simp
theorem vlay_high (n : Nat) : ∀ i (h : i < (vlay n).length), i + 1 < (vlay n).length → 128 ≤ (vlay n)[i].toNat := by
  induction n using Nat.strongRecOn with
  | _ n ih =>
    intro i h h1
    by_cases hn : n < 128
    · rw [vlay_small hn] at h1; simp at h1
    · have e := vlay_big (n := n) (by omega)
      simp only [e] at h h1 ⊢
      cases i with
      | zero => simp only [List.getElem_cons_zero]; rw [ofNat_toNat _ (by omega)]; omega
      | succ i =>
        simp only [List.getElem_cons_succ]
        exact ih (n / 128) (by omega) i _ (by simpa using h1)
theorem vlay_begins {n k : Nat} (h : n < 2 ^ 63) (hk : k < (vlay n).length) : vread ((vlay n).take k) = (0, 0, 10) := by
  have h9 := vlay_len9 h
  have hl : ((vlay n).take k).length = k := by rw [List.length_take]; omega
  refine High.short (j := k) ⟨by omega, by omega, fun i hi hik => ?_⟩ (by omega) hl.symm
  rw [List.getElem_take]
  exact vlay_high n i (by omega) (by omega)
theorem vlay_mono (n : Nat) : ∀ m, m ≤ n → (vlay m).length ≤ (vlay n).length := by
  induction n using Nat.strongRecOn with
  | _ n ih =>
    intro m hm
    by_cases hm1 : m < 128
    · rw [vlay_small hm1]; exact vlay_pos n
    · rw [vlay_big (n := m) (by omega), vlay_big (n := n) (by omega)]
      have := ih (n / 128) (by omega) (m / 128) (by omega)
      simp only [List.length_cons]; omega
theorem vlay_upper (n : Nat) : n < 2 ^ (7 * (vlay n).length) := by
  induction n using Nat.strongRecOn with
  | _ n ih =>
    by_cases hn : n < 128
    · rw [vlay_small hn]; simpa using hn
    · rw [vlay_big (by omega)]
      have := ih (n / 128) (by omega)
      have h2 : 2 ^ (7 * ((vlay (n / 128)).length + 1)) = 128 * 2 ^ (7 * (vlay (n / 128)).length) := by rw [Nat.mul_add, Nat.pow_add]; omega
      simp only [List.length_cons, h2]; omega
theorem vlay_lower (n : Nat) : 1 < (vlay n).length → 2 ^ (7 * ((vlay n).length - 1)) ≤ n := by
  induction n using Nat.strongRecOn with
  | _ n ih =>
    intro h
    by_cases hn : n < 128
    · rw [vlay_small hn] at h; simp at h
    · rw [vlay_big (by omega)]
      simp only [List.length_cons, Nat.add_sub_cancel]
      by_cases h1 : 1 < (vlay (n / 128)).length
      · have := ih (n / 128) (by omega) h1
        have e : (vlay (n / 128)).length = ((vlay (n / 128)).length - 1) + 1 := by omega
        have h2 : 2 ^ (7 * (vlay (n / 128)).length) = 128 * 2 ^ (7 * ((vlay (n / 128)).length - 1)) := by
          rw [e, Nat.mul_add, Nat.pow_add, Nat.add_sub_cancel]; omega
        rw [h2]; omega
      · have hp := vlay_pos (n / 128)
        have : (vlay (n / 128)).length = 1 := by omega
        rw [this]; omega
end Go.Proofs.YtokoohdpakhphaaDoor.Varint

namespace Go.Proofs.YtokoohdpakhphaaDoor.Varint
open Go VC
set_option linter.unusedSimpArgs false
set_option maxRecDepth 20000
theorem Read_calls (w : World) (B : Nat) (a : Option Addr) (c : Nat) (xs : List UInt8) (hx : RdB w B a xs) (hn : xs.length ≤ 140737488355328) :
    Calls Tryd.prog 69 #[.slice a xs.length c] w fun e w' => e = .returned (.tuple #[.int .u64 (vread xs).1, .int .i64 (vread xs).2.1, .int .i64 (vread xs).2.2]) ∧ w = w' := by
  refine calls_vc Tryd.func69 rfl (by kernel_rfl) (by kernel_rfl) ?_; intro R hR
  simp (disch := first | omega | assumption | exact Option.isSome_some | (simp only [adO_isSome]; assumption)) only [↓vcp, vcs, vcm, if_true, if_false, Nat.reduceBEq, ↓reduceIte, Nat.reduceEqDiff, Nat.reduceAdd, Nat.reduceMul, Nat.reduceSub, Int.reduceToNat, reduceCtorEq, Nat.reduceLT, Nat.reduceLeDiff, Int.reduceSub, Int.reduceAdd, Int.reduceNeg]
  refine scope_rule (σ := Nat × Nat) 0 [5, 6] (fun s => [.int .u64 s.1, .int .i64 s.2]) [0] (fun s w' => w' = w ∧ s.2 ≤ 9 ∧ s.2 ≤ xs.length ∧ s.1 < 2 ^ (7 * s.2) ∧ vread xs = vgo (xs.drop s.2) s.2 s.1) (fun s _ => 9 - s.2) 10 rfl rfl (by kernel_rfl) (by kernel_rfl) ?_ ?_
  · simp (disch := first | omega | assumption | exact Option.isSome_some | (simp only [adO_isSome]; assumption)) only [↓vcp, vcs, vcm, if_true, if_false, Nat.reduceBEq, ↓reduceIte, Nat.reduceEqDiff, Nat.reduceAdd, Nat.reduceMul, Nat.reduceSub, Int.reduceToNat, reduceCtorEq, Nat.reduceLT, Nat.reduceLeDiff, Int.reduceSub, Int.reduceAdd, Int.reduceNeg]
    exact ⟨(0, 0), rfl, rfl, ⟨rfl, by decide, by simp, by decide, rfl⟩, by dsimp only; omega⟩
  · rintro b ⟨acc, i⟩ w1 ⟨rfl, hi9, hin, hacc, hv⟩
    dsimp only at hi9 hin hacc hv
    simp (disch := first | omega | assumption | exact Option.isSome_some | (simp only [adO_isSome]; assumption)) only [↓vcp, vcs, vcm, if_true, if_false, Nat.reduceBEq, ↓reduceIte, Nat.reduceEqDiff, Nat.reduceAdd, Nat.reduceMul, Nat.reduceSub, Int.reduceToNat, reduceCtorEq, Nat.reduceLT, Nat.reduceLeDiff, Int.reduceSub, Int.reduceAdd, Int.reduceNeg]
    by_cases h9 : i = 9
    · subst h9
      simp (disch := first | omega | assumption | exact Option.isSome_some | (simp only [adO_isSome]; assumption)) only [↓vcp, vcs, vcm, if_true, if_false, Nat.reduceBEq, ↓reduceIte, Nat.reduceEqDiff, Nat.reduceAdd, Nat.reduceMul, Nat.reduceSub, Int.reduceToNat, reduceCtorEq, Nat.reduceLT, Nat.reduceLeDiff, Int.reduceSub, Int.reduceAdd, Int.reduceNeg]
      refine ret_tmp3 rfl (hR _ _ ⟨?_, rfl⟩)
      rw [hv, vgo_9]; rfl
    · simp (disch := first | omega | assumption | exact Option.isSome_some | (simp only [adO_isSome]; assumption)) only [↓vcp, vcs, vcm, if_true, if_false, Nat.reduceBEq, ↓reduceIte, Nat.reduceEqDiff, Nat.reduceAdd, Nat.reduceMul, Nat.reduceSub, Int.reduceToNat, reduceCtorEq, Nat.reduceLT, Nat.reduceLeDiff, Int.reduceSub, Int.reduceAdd, Int.reduceNeg]
      by_cases hl : i = xs.length
      · subst hl
        simp (disch := first | omega | assumption | exact Option.isSome_some | (simp only [adO_isSome]; assumption)) only [↓vcp, vcs, vcm, if_true, if_false, Nat.reduceBEq, ↓reduceIte, Nat.reduceEqDiff, Nat.reduceAdd, Nat.reduceMul, Nat.reduceSub, Int.reduceToNat, reduceCtorEq, Nat.reduceLT, Nat.reduceLeDiff, Int.reduceSub, Int.reduceAdd, Int.reduceNeg]
        refine ret_tmp3 rfl (hR _ _ ⟨?_, rfl⟩)
        rw [hv, List.drop_length, vgo_nil h9]; rfl
      · have hlt : i < xs.length := by omega
        have hc := hx.cell hlt
        have hs := hx.isSome (by omega : 0 < xs.length)
        rw [List.drop_eq_getElem_cons hlt] at hv
        have h8 := u8_lt xs[i]
        have hm : xs[i].toNat % 128 < 128 := Nat.mod_lt _ (by omega)
        have h7 : (7 * (i : Int)) = ((7 * i : Nat) : Int) := by omega
        by_cases hb : 128 ≤ xs[i].toNat
        · have ha := and128 xs[i]
          rw [if_pos hb] at ha
          simp (disch := first | omega | assumption | exact Option.isSome_some | (simp only [adO_isSome]; assumption)) only [↓vcp, vcs, vcm, if_true, if_false, Nat.reduceBEq, ↓reduceIte, Nat.reduceEqDiff, Nat.reduceAdd, Nat.reduceMul, Nat.reduceSub, Int.reduceToNat, reduceCtorEq, Nat.reduceLT, Nat.reduceLeDiff, Int.reduceSub, Int.reduceAdd, Int.reduceNeg, hc, andn128, ha, h7, or_step (by omega : i ≤ 8) hacc hm]
          refine ⟨(acc + xs[i].toNat % 128 * 2 ^ (7 * i), i + 1), ?_, rfl, ⟨rfl, by dsimp only; omega, by dsimp only; omega, acc_step hacc hm, ?_⟩, by dsimp only; omega⟩
          · simp (disch := first | omega | assumption | exact Option.isSome_some | (simp only [adO_isSome]; assumption)) only [↓vcp, vcs, vcm, if_true, if_false, Nat.reduceBEq, ↓reduceIte, Nat.reduceEqDiff, Nat.reduceAdd, Nat.reduceMul, Nat.reduceSub, Int.reduceToNat, reduceCtorEq, Nat.reduceLT, Nat.reduceLeDiff, Int.reduceSub, Int.reduceAdd, Int.reduceNeg]
            rfl
          · rw [hv, vgo_big h9 hb]
        · have ha := and128 xs[i]
          rw [if_neg hb] at ha
          rw [Nat.mod_eq_of_lt (by omega)] at hm
          have hmod : xs[i].toNat % 128 = xs[i].toNat := Nat.mod_eq_of_lt (by omega)
          by_cases hf : xs[i].toNat = 0 ∧ 0 < i
          · simp (disch := first | omega | assumption | exact Option.isSome_some | (simp only [adO_isSome]; assumption)) only [↓vcp, vcs, vcm, if_true, if_false, Nat.reduceBEq, ↓reduceIte, Nat.reduceEqDiff, Nat.reduceAdd, Nat.reduceMul, Nat.reduceSub, Int.reduceToNat, reduceCtorEq, Nat.reduceLT, Nat.reduceLeDiff, Int.reduceSub, Int.reduceAdd, Int.reduceNeg, hc, andn128, ha, h7, hmod, or_step (by omega : i ≤ 8) hacc hm]
            refine ret_tmp3 rfl (hR _ _ ⟨?_, rfl⟩)
            rw [hv, vgo_form h9 hf.1 hf.2]; rfl
          · by_cases h0 : xs[i].toNat = 0
            all_goals
              simp (disch := first | omega | assumption | exact Option.isSome_some | (simp only [adO_isSome]; assumption)) only [↓vcp, vcs, vcm, if_true, if_false, Nat.reduceBEq, ↓reduceIte, Nat.reduceEqDiff, Nat.reduceAdd, Nat.reduceMul, Nat.reduceSub, Int.reduceToNat, reduceCtorEq, Nat.reduceLT, Nat.reduceLeDiff, Int.reduceSub, Int.reduceAdd, Int.reduceNeg, hc, andn128, ha, h7, hmod, or_step (by omega : i ≤ 8) hacc hm]
              refine ret_tmp3 rfl (hR _ _ ⟨?_, rfl⟩)
              rw [hv, vgo_end h9 (by omega) hf]
              simp (disch := first | omega | assumption | exact Option.isSome_some | (simp only [adO_isSome]; assumption)) only [↓vcp, vcs, vcm, if_true, if_false, Nat.reduceBEq, ↓reduceIte, Nat.reduceEqDiff, Nat.reduceAdd, Nat.reduceMul, Nat.reduceSub, Int.reduceToNat, reduceCtorEq, Nat.reduceLT, Nat.reduceLeDiff, Int.reduceSub, Int.reduceAdd, Int.reduceNeg]
              rfl
end Go.Proofs.YtokoohdpakhphaaDoor.Varint

namespace Go.Proofs.YtokoohdpakhphaaDoor.Varint
open Go VC Go.RowKit
set_option linter.unusedSimpArgs false
theorem Lay_long (w : World) (n : Nat) (h : 2 ^ 63 ≤ n) (h' : n < 2 ^ 64) :
    Calls Tryd.prog 47 #[.int .u64 n] w fun e w' => e = .returned (.tuple #[.slice none 0 0, .int .i64 11]) ∧ w = w' := by
  refine calls_vc Tryd.func47 rfl (by kernel_rfl) (by kernel_rfl) ?_; intro R hR
  have hs : Shr .u64 (n : Int) 63 = ((1 : Nat) : Int) := by
    have := Shr_u .u64 n 63 (by decide)
    simp only [Int.cast_ofNat_Int] at this
    rw [this]
    congr 1
    omega
  simp (disch := first | omega | assumption | exact Option.isSome_some | (simp only [adO_isSome]; assumption)) only [↓vcp, vcs, vcm, if_true, if_false, Nat.reduceBEq, ↓reduceIte, Nat.reduceEqDiff, Nat.reduceAdd, Nat.reduceMul, Nat.reduceSub, Int.reduceToNat, reduceCtorEq, Nat.reduceLT, Nat.reduceLeDiff, Int.reduceSub, Int.reduceAdd, Int.reduceNeg]
  refine scope_straight (by kernel_rfl) ?_
  simp (disch := first | omega | assumption | exact Option.isSome_some | (simp only [adO_isSome]; assumption)) only [↓vcp, vcs, vcm, if_true, if_false, Nat.reduceBEq, ↓reduceIte, Nat.reduceEqDiff, Nat.reduceAdd, Nat.reduceMul, Nat.reduceSub, Int.reduceToNat, reduceCtorEq, Nat.reduceLT, Nat.reduceLeDiff, Int.reduceSub, Int.reduceAdd, Int.reduceNeg, hs]
  refine ret_tmp2 rfl (hR _ _ ⟨rfl, rfl⟩)
set_option maxRecDepth 20000 in
theorem Lay_calls (w : World) (n : Nat) (h : n < 2 ^ 63) :
    Calls Tryd.prog 47 #[.int .u64 n] w fun e w' => ∃ a c, e = .returned (.tuple #[.slice a (vlay n).length c, .int .i64 0]) ∧
      Own w' w.heap.size 5 1 a (vlay n).length c ((vlay n).map u8v) ∧ Below w.heap.size w w' := by
  refine calls_vc Tryd.func47 rfl (by kernel_rfl) (by kernel_rfl) ?_; intro R hR
  have hs : Shr .u64 (n : Int) 63 = ((0 : Nat) : Int) := by
    have := Shr_u .u64 n 63 (by decide)
    simp only [Int.cast_ofNat_Int] at this
    rw [this]
    congr 1
    omega
  simp (disch := first | omega | assumption | exact Option.isSome_some | (simp only [adO_isSome]; assumption)) only [↓vcp, vcs, vcm, if_true, if_false, Nat.reduceBEq, ↓reduceIte, Nat.reduceEqDiff, Nat.reduceAdd, Nat.reduceMul, Nat.reduceSub, Int.reduceToNat, reduceCtorEq, Nat.reduceLT, Nat.reduceLeDiff, Int.reduceSub, Int.reduceAdd, Int.reduceNeg]
  refine scope_rule (σ := Nat × Option Addr × Nat × List UInt8) 0 [0, 4] (fun s => [.int .u64 s.1, .slice s.2.1 s.2.2.2.length s.2.2.1]) []
    (fun s w' => s.1 < 2 ^ 63 ∧ s.2.2.2 ++ vlay s.1 = vlay n ∧ Own w' w.heap.size 5 1 s.2.1 s.2.2.2.length s.2.2.1 (s.2.2.2.map u8v) ∧ Below w.heap.size w w') (fun s _ => s.1) (n + 1) rfl rfl (by kernel_rfl) (by kernel_rfl) ?_ ?_
  · simp (disch := first | omega | assumption | exact Option.isSome_some | (simp only [adO_isSome]; assumption)) only [↓vcp, vcs, vcm, if_true, if_false, Nat.reduceBEq, ↓reduceIte, Nat.reduceEqDiff, Nat.reduceAdd, Nat.reduceMul, Nat.reduceSub, Int.reduceToNat, reduceCtorEq, Nat.reduceLT, Nat.reduceLeDiff, Int.reduceSub, Int.reduceAdd, Int.reduceNeg, hs]
    refine m_make 49 w.heap.size 9 rfl (by omega) (by unfold maxLen; omega) (Nat.le_refl _) fun w1 hown hg _ => ?_
    simp (disch := first | omega | assumption | exact Option.isSome_some | (simp only [adO_isSome]; assumption)) only [↓vcp, vcs, vcm, if_true, if_false, Nat.reduceBEq, ↓reduceIte, Nat.reduceEqDiff, Nat.reduceAdd, Nat.reduceMul, Nat.reduceSub, Int.reduceToNat, reduceCtorEq, Nat.reduceLT, Nat.reduceLeDiff, Int.reduceSub, Int.reduceAdd, Int.reduceNeg]
    exact ⟨(n, some ⟨w.heap.size, 0, none⟩, 9, []), rfl, rfl, ⟨h, rfl, hown, (Below.refl _ _).grown hg (Nat.le_refl _) (fun k hk => by cases hk)⟩, by dsimp only; omega⟩
  · rintro b ⟨m, a, c, acc⟩ w1 ⟨hm, hacc, hown, hb⟩
    dsimp only at hm hacc hown
    have hlen : acc.length + (vlay m).length ≤ 9 := by
      have h1 := vlay_len 8 n (by omega)
      rw [← hacc, List.length_append] at h1
      omega
    have hpos := vlay_pos m
    have hsz := hb.size
    have hnew : ∀ (v : Value) , (w1.alloc (.cells #[v] 5)).heap.size = w1.heap.size + 1 := fun v => by simp
    have hcell : ∀ v : Value, Rd (w1.alloc (.cells #[v] 5)) (w1.heap.size + 1) (some ⟨w1.heap.size, 0, none⟩) [v] := fun v hn => ⟨_, rfl, by simp, fun i hi => by
      exact cell_one_new _ _ _ i _ (List.getElem?_eq_getElem hi)⟩
    by_cases hbig : 128 ≤ m
    · simp (disch := first | omega | assumption | exact Option.isSome_some | (simp only [adO_isSome]; assumption)) only [↓vcp, vcs, vcm, if_true, if_false, Nat.reduceBEq, ↓reduceIte, Nat.reduceEqDiff, Nat.reduceAdd, Nat.reduceMul, Nat.reduceSub, Int.reduceToNat, reduceCtorEq, Nat.reduceLT, Nat.reduceLeDiff, Int.reduceSub, Int.reduceAdd, Int.reduceNeg, bor128]
      refine m_append 49 _ w.heap.size (m := 1) (by rfl) (by omega) (hown.alloc _) (hcell _) rfl (by simp [Value.oneCell']) (by unfold maxLen; omega) (by omega) (by rw [hnew]; omega) fun a' c' w2 hown2 hg2 _ => ?_
      simp (disch := first | omega | assumption | exact Option.isSome_some | (simp only [adO_isSome]; assumption)) only [↓vcp, vcs, vcm, if_true, if_false, Nat.reduceBEq, ↓reduceIte, Nat.reduceEqDiff, Nat.reduceAdd, Nat.reduceMul, Nat.reduceSub, Int.reduceToNat, reduceCtorEq, Nat.reduceLT, Nat.reduceLeDiff, Int.reduceSub, Int.reduceAdd, Int.reduceNeg]
      have hb2 : Below w.heap.size w w2 := (hb.alloc hsz _).grown hg2 (by rw [hnew]; omega) (fun k hk => (World.ownsRow.lt hown k hk).1)
      have hshr : Shr .u64 (m : Int) 7 = ((m / 128 : Nat) : Int) := Shr_u .u64 m 7 (by decide)
      have hvl := vlay_big hbig
      have hu : u8v (UInt8.ofNat (m % 128 + 128)) = .int .u8 ((m % 128 + 128 : Nat) : Int) := by unfold u8v; rw [ofNat_toNat _ (by omega)]
      refine ⟨(m / 128, a', c', acc ++ [UInt8.ofNat (m % 128 + 128)]), ?_, rfl, ⟨by dsimp only; omega, by dsimp only; rw [← hacc, hvl]; simp, ?_, hb2⟩, by dsimp only; omega⟩
      · simp (disch := first | omega | assumption | exact Option.isSome_some | (simp only [adO_isSome]; assumption)) only [↓vcp, vcs, vcm, if_true, if_false, Nat.reduceBEq, ↓reduceIte, Nat.reduceEqDiff, Nat.reduceAdd, Nat.reduceMul, Nat.reduceSub, Int.reduceToNat, reduceCtorEq, Nat.reduceLT, Nat.reduceLeDiff, Int.reduceSub, Int.reduceAdd, Int.reduceNeg, hshr]
        simp
      · dsimp only
        rw [List.map_append, List.map_cons, List.map_nil, hu, List.length_append]
        exact hown2
    · have hvl := vlay_small (n := m) (by omega)
      have hw8 : IntKind.u8.wrap (m : Int) = (m : Int) := by rw [wrap_u8_mod, Nat.mod_eq_of_lt (by omega)]
      simp (disch := first | omega | assumption | exact Option.isSome_some | (simp only [adO_isSome]; assumption)) only [↓vcp, vcs, vcm, if_true, if_false, Nat.reduceBEq, ↓reduceIte, Nat.reduceEqDiff, Nat.reduceAdd, Nat.reduceMul, Nat.reduceSub, Int.reduceToNat, reduceCtorEq, Nat.reduceLT, Nat.reduceLeDiff, Int.reduceSub, Int.reduceAdd, Int.reduceNeg, hw8]
      refine m_append 49 _ w.heap.size (m := 1) (by rfl) (by omega) (hown.alloc _) (hcell _) rfl (by simp [Value.oneCell']) (by unfold maxLen; omega) (by omega) (by rw [hnew]; omega) fun a' c' w2 hown2 hg2 _ => ?_
      simp (disch := first | omega | assumption | exact Option.isSome_some | (simp only [adO_isSome]; assumption)) only [↓vcp, vcs, vcm, if_true, if_false, Nat.reduceBEq, ↓reduceIte, Nat.reduceEqDiff, Nat.reduceAdd, Nat.reduceMul, Nat.reduceSub, Int.reduceToNat, reduceCtorEq, Nat.reduceLT, Nat.reduceLeDiff, Int.reduceSub, Int.reduceAdd, Int.reduceNeg]
      have hb2 : Below w.heap.size w w2 := (hb.alloc hsz _).grown hg2 (by rw [hnew]; omega) (fun k hk => (World.ownsRow.lt hown k hk).1)
      have hu : u8v (UInt8.ofNat m) = .int .u8 (m : Int) := by unfold u8v; rw [ofNat_toNat _ (by omega)]
      have hvn : vlay n = acc ++ [UInt8.ofNat m] := by rw [← hacc, hvl]
      refine ret_tmp2 rfl (hR _ _ ⟨a', c', ?_, ?_, hb2⟩)
      · simp (disch := first | omega | assumption | exact Option.isSome_some | (simp only [adO_isSome]; assumption)) only [↓vcp, vcs, vcm, if_true, if_false, Nat.reduceBEq, ↓reduceIte, Nat.reduceEqDiff, Nat.reduceAdd, Nat.reduceMul, Nat.reduceSub, Int.reduceToNat, reduceCtorEq, Nat.reduceLT, Nat.reduceLeDiff, Int.reduceSub, Int.reduceAdd, Int.reduceNeg, hvn]
        simp
      · rw [hvn, List.map_append, List.map_cons, List.map_nil, hu, List.length_append]
        exact hown2
end Go.Proofs.YtokoohdpakhphaaDoor.Varint
