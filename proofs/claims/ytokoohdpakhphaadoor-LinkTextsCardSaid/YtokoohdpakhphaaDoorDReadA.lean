/- Several texts in one. -/
import Derived.Test.YtokoohdpakhphaaDoorDig
import Derived.Test.YtokoohdpakhphaaDoorVarintA
namespace Go.Proofs.YtokoohdpakhphaaDoor.Dig
open Go VC Go.RowKit Sha Loan Varint Help
set_option maxRecDepth 20000
set_option maxHeartbeats 4000000
theorem vread_cases (xs : List UInt8) : ∃ j, High xs j ∧ (j = 9 ∨ j ≠ 9 ∧ j = xs.length ∨ j ≠ 9 ∧ ∃ h : j < xs.length, xs[j].toNat < 128) := by
  have go : ∀ n j, n + j = 9 → High xs j → ∃ j, High xs j ∧ (j = 9 ∨ j ≠ 9 ∧ j = xs.length ∨ j ≠ 9 ∧ ∃ h : j < xs.length, xs[j].toNat < 128) := by
    intro n
    induction n with
    | zero => intro j hj h; exact ⟨j, h, .inl (by omega)⟩
    | succ n ih =>
      intro j hj h
      by_cases hl : j = xs.length
      · exact ⟨j, h, .inr (.inl ⟨by omega, hl⟩)⟩
      · have hlt : j < xs.length := by have := h.le; omega
        by_cases hb : xs[j].toNat < 128
        · exact ⟨j, h, .inr (.inr ⟨by omega, hlt, hb⟩)⟩
        · refine ih (j + 1) (by omega) ⟨by omega, hlt, fun i hi hij => ?_⟩
          rcases Nat.lt_or_ge i j with h1 | h1
          · exact h.all i hi h1
          · obtain rfl : i = j := by omega
            omega
  exact go 9 0 rfl ⟨by omega, by omega, fun i hi h => by omega⟩
theorem vread_out (xs : List UInt8) : vread xs = (0, 0, 10) ∨ vread xs = (0, 0, 11) ∨ vread xs = (0, 0, 12) ∨ ∃ n m, vread xs = (n, m, 0) ∧ n < 2 ^ 63 ∧ 0 < m ∧ m ≤ xs.length ∧ vlay n = xs.take m := by
  obtain ⟨j, hj, h | ⟨h9, h⟩ | ⟨h9, h, hb⟩⟩ := vread_cases xs
  · subst h; exact .inr (.inl hj.r9)
  · exact .inl (hj.short h9 h)
  · by_cases h0 : 0 < j ∧ xs[j].toNat = 0
    · exact .inr (.inr (.inl (hj.form h9 h h0.1 h0.2)))
    · obtain ⟨n, h1, h2, h3⟩ := hj.good h9 h hb h0
      exact .inr (.inr (.inr ⟨n, j + 1, h1, h2, by omega, by omega, h3⟩))
def errOf (e : Nat) : Nat := if e = 0 then 0 else if e = 10 then 32 else 33
/-- a number at a place: the number, the place behind it, the error -/
def dnum (xs : List UInt8) (at' : Nat) : Nat × Nat × Nat :=
  if (vread (xs.drop at')).2.2 = 0 then ((vread (xs.drop at')).1, at' + (vread (xs.drop at')).2.1, 0) else (0, 0, errOf (vread (xs.drop at')).2.2)
def dread (xs : List UInt8) : Nat × List UInt8 × Nat × Nat :=
  if (dnum xs 0).2.2 ≠ 0 then (0, [], 0, (dnum xs 0).2.2)
  else if (dnum xs (dnum xs 0).2.1).2.2 ≠ 0 then (0, [], 0, (dnum xs (dnum xs 0).2.1).2.2)
  else if fitsE (dnum xs 0).1 (dnum xs (dnum xs 0).2.1).1 ≠ 0 then (0, [], 0, fitsE (dnum xs 0).1 (dnum xs (dnum xs 0).2.1).1)
  else if xs.length - (dnum xs (dnum xs 0).2.1).2.1 < (dnum xs (dnum xs 0).2.1).1 then (0, [], 0, 32)
  else ((dnum xs 0).1, (xs.drop (dnum xs (dnum xs 0).2.1).2.1).take (dnum xs (dnum xs 0).2.1).1, (dnum xs (dnum xs 0).2.1).2.1 + (dnum xs (dnum xs 0).2.1).1, 0)
theorem dnum_out (xs : List UInt8) (k : Nat) (hk : k ≤ xs.length) : (∃ e, e ≠ 0 ∧ e < 100 ∧ dnum xs k = (0, 0, e)) ∨ ∃ n m, dnum xs k = (n, k + m, 0) ∧ n < 2 ^ 63 ∧ 0 < m ∧ k + m ≤ xs.length ∧ vlay n = (xs.drop k).take m := by
  unfold dnum
  rcases vread_out (xs.drop k) with h | h | h | ⟨n, m, h, h1, h2, h3, h4⟩
  · exact .inl ⟨32, by omega, by omega, by rw [h]; rfl⟩
  · exact .inl ⟨33, by omega, by omega, by rw [h]; rfl⟩
  · exact .inl ⟨33, by omega, by omega, by rw [h]; rfl⟩
  · exact .inr ⟨n, m, by rw [h]; rfl, h1, h2, by rw [List.length_drop] at h3; omega, h4⟩
theorem vlay_small1 {n : Nat} (h : n < 128) : vlay n = [UInt8.ofNat n] := vlay_small h
theorem vread_small {n : Nat} (h : n < 128) (rest : List UInt8) : vread (UInt8.ofNat n :: rest) = (n, 1, 0) := by
  have := vread_vlay (n := n) (by omega) rest
  rw [vlay_small h] at this
  exact this
theorem dread_dlay {hash : Nat} {ds : List UInt8} (hf : fitsE hash ds.length = 0) (rest : List UInt8) : dread (dlay hash ds ++ rest) = (hash, ds, (dlay hash ds).length, 0) := by
  obtain ⟨h18, h64⟩ := fits_small hf
  have hd : dlay hash ds = UInt8.ofNat hash :: UInt8.ofNat ds.length :: ds := by unfold dlay; rw [if_pos hf]
  rw [hd]
  have e1 : dnum (UInt8.ofNat hash :: UInt8.ofNat ds.length :: ds ++ rest) 0 = (hash, 1, 0) := by
    unfold dnum
    rw [List.drop_zero, List.cons_append, vread_small (by omega)]
    rfl
  have e2 : dnum (UInt8.ofNat hash :: UInt8.ofNat ds.length :: ds ++ rest) 1 = (ds.length, 2, 0) := by
    unfold dnum
    rw [List.cons_append, List.cons_append, List.drop_succ_cons, List.drop_zero, vread_small (by omega)]
    rfl
  unfold dread
  rw [e1]
  dsimp only
  rw [e2]
  dsimp only
  rw [if_neg (by simp), if_neg (by simp), if_neg (by simp [hf]), if_neg (by simp)]
  simp [List.length_cons]
  try omega
theorem dread_begins {hash : Nat} {ds : List UInt8} (hf : fitsE hash ds.length = 0) {k : Nat} (hk : k < (dlay hash ds).length) : dread ((dlay hash ds).take k) = (0, [], 0, 32) := by
  obtain ⟨h18, h64⟩ := fits_small hf
  have hd : dlay hash ds = UInt8.ofNat hash :: UInt8.ofNat ds.length :: ds := by unfold dlay; rw [if_pos hf]
  rw [hd] at hk ⊢
  have hn : vread [] = (0, 0, 10) := rfl
  rcases k with _ | _ | k
  · unfold dread dnum; simp [hn, errOf]
  · have e1 : dnum [UInt8.ofNat hash] 0 = (hash, 1, 0) := by
      unfold dnum
      rw [List.drop_zero, vread_small (by omega)]
      rfl
    have e2 : dnum [UInt8.ofNat hash] 1 = (0, 0, 32) := by
      unfold dnum
      simp [hn, errOf]
    unfold dread
    rw [List.take_succ_cons, List.take_zero, e1]
    dsimp only
    rw [e2]
    simp
  · have hkl : k < ds.length := by simp at hk; omega
    rw [List.take_succ_cons, List.take_succ_cons]
    have e1 : dnum (UInt8.ofNat hash :: UInt8.ofNat ds.length :: ds.take k) 0 = (hash, 1, 0) := by
      unfold dnum
      rw [List.drop_zero, vread_small (by omega)]
      rfl
    have e2 : dnum (UInt8.ofNat hash :: UInt8.ofNat ds.length :: ds.take k) 1 = (ds.length, 2, 0) := by
      unfold dnum
      rw [List.drop_succ_cons, List.drop_zero, vread_small (by omega)]
      rfl
    unfold dread
    rw [e1]
    dsimp only
    rw [e2]
    dsimp only
    rw [if_neg (by simp), if_neg (by simp), if_neg (by simp [hf]), if_pos (by simp; omega)]
/-- what is read lies so -/
theorem dread_back {xs : List UInt8} (h : (dread xs).2.2.2 = 0) : (dread xs).2.2.1 ≤ xs.length ∧ fitsE (dread xs).1 (dread xs).2.1.length = 0 ∧ dlay (dread xs).1 (dread xs).2.1 = xs.take (dread xs).2.2.1 := by
  rcases dnum_out xs 0 (by omega) with ⟨e, he, _, h1⟩ | ⟨n, m, h1, hn, hm, hml, hv⟩
  · have : dread xs = (0, [], 0, e) := by unfold dread; rw [h1]; simp [he]
    rw [this] at h; exact (he h).elim
  rw [Nat.zero_add] at h1 hml
  rcases dnum_out xs m hml with ⟨e, he, _, h2⟩ | ⟨n2, m2, h2, hn2, hm2, hml2, hv2⟩
  · have : dread xs = (0, [], 0, e) := by unfold dread; rw [h1]; dsimp only; rw [h2]; simp [he]
    rw [this] at h; exact (he h).elim
  have hd : dread xs = if fitsE n n2 ≠ 0 then (0, [], 0, fitsE n n2) else if xs.length - (m + m2) < n2 then (0, [], 0, 32) else (n, (xs.drop (m + m2)).take n2, m + m2 + n2, 0) := by
    unfold dread; rw [h1]; dsimp only; rw [h2]; dsimp only; rw [if_neg (by simp), if_neg (by simp)]
  by_cases hf : fitsE n n2 = 0
  · by_cases hs : xs.length - (m + m2) < n2
    · rw [hd, if_neg (by simp [hf]), if_pos hs] at h; simp at h
    · rw [hd, if_neg (by simp [hf]), if_neg hs]
      obtain ⟨h18, h64⟩ := fits_small hf
      have hl : ((xs.drop (m + m2)).take n2).length = n2 := by rw [List.length_take, List.length_drop]; omega
      dsimp only
      rw [hl]
      refine ⟨by omega, hf, ?_⟩
      unfold dlay
      rw [hl, if_pos hf]
      rw [vlay_small (by omega), List.drop_zero] at hv
      rw [vlay_small (by omega)] at hv2
      have e1 : xs.take (m + m2 + n2) = xs.take m ++ ((xs.drop m).take m2 ++ (xs.drop (m + m2)).take n2) := by
        rw [List.take_add, List.take_add, List.append_assoc]
      rw [e1, ← hv, ← hv2]
      rfl
  · rw [hd, if_pos hf] at h; exact (hf h).elim
theorem dread_err {xs : List UInt8} (h : (dread xs).2.2.2 ≠ 0) : dread xs = (0, [], 0, (dread xs).2.2.2) := by
  unfold dread at h ⊢
  split
  · rfl
  · split
    · rfl
    · split
      · rfl
      · split
        · rfl
        · rename_i h1 h2 h3 h4
          rw [if_neg h1, if_neg h2, if_neg h3, if_neg h4] at h
          exact (h rfl).elim
end Go.Proofs.YtokoohdpakhphaaDoor.Dig
namespace Go.Proofs.YtokoohdpakhphaaDoor.Dig
open Go VC Go.RowKit Sha Loan Varint Help
set_option linter.unusedSimpArgs false
set_option maxRecDepth 20000
set_option maxHeartbeats 4000000
theorem Clone_calls (w0 : World) (a : Option Addr) (c : Nat) (xs : List UInt8) (hx : Ro (.at w0) a (xs.map u8v)) (hn : a = none → c = 0) (hl : xs.length ≤ 140737488355328) :
    Calls Tryd.prog 89 #[.slice a xs.length c] w0 fun e w' => ∃ a' c', e = .returned (.slice a' xs.length c') ∧ xs.length ≤ c' ∧ Sat (.at w0) [.sl a' c' (xs.map u8v) 5 1] w' := by
  refine calls_vc Tryd.func89 rfl (by kernel_rfl) (by kernel_rfl) ?_; intro R hR
  have hs := Sat.start w0
  cases a with
  | none =>
    have hxs : xs = [] := by
      cases xs with
      | nil => rfl
      | cons x l => have := hx.isSome (by simp); cases this
    subst hxs
    obtain rfl := hn rfl
    replace hs := Sat.nil hs 5 1; try simp only [cls] at hs
    (repeat (first | (simp (disch := first | omega | assumption | exact Option.isSome_some | (simp only [adO_isSome]; assumption)) only [↓vcp, vcs, vct, if_true, if_false, Nat.reduceBEq, ↓reduceIte, Nat.reduceEqDiff, Nat.reduceAdd, Nat.reduceMul, Nat.reduceSub, Int.reduceToNat, reduceCtorEq, Nat.reduceLT, Nat.reduceLeDiff, Int.reduceSub, Int.reduceAdd, Int.reduceNeg, Sat.look hs, Sat.lookA hs]) | (refine khK he hs ?_; clear he; intro he) | ((first | refine stK hs ?_ | refine stFK hs ?_ | refine stAK hs ?_ | refine msK hs ?_); clear hs; (try clear w); rintro w hs; try simp only [cls] at hs) | ((first | refine al_ok hs ?_ | refine bx_ok hs ?_ | refine bsvK hs ?_ | refine bs1_ok hs ?_ | refine bs0_ok hs ?_); clear hs; (try clear w); rintro _ w hs; try simp only [cls] at hs)))
    exact ret_tmp rfl (hR _ _ ⟨none, 0, rfl, by simp, hs⟩)
  | some ad =>
    (repeat (first | (simp (disch := first | omega | assumption | exact Option.isSome_some | (simp only [adO_isSome]; assumption)) only [↓vcp, vcs, vct, if_true, if_false, Nat.reduceBEq, ↓reduceIte, Nat.reduceEqDiff, Nat.reduceAdd, Nat.reduceMul, Nat.reduceSub, Int.reduceToNat, reduceCtorEq, Nat.reduceLT, Nat.reduceLeDiff, Int.reduceSub, Int.reduceAdd, Int.reduceNeg, Sat.look hs, Sat.lookA hs]) | (refine khK he hs ?_; clear he; intro he) | ((first | refine stK hs ?_ | refine stFK hs ?_ | refine stAK hs ?_ | refine msK hs ?_); clear hs; (try clear w); rintro w hs; try simp only [cls] at hs) | ((first | refine al_ok hs ?_ | refine bx_ok hs ?_ | refine bsvK hs ?_ | refine bs1_ok hs ?_ | refine bs0_ok hs ?_); clear hs; (try clear w); rintro _ w hs; try simp only [cls] at hs)))
    refine apK (xs.length) hs (hx.rd hs) ?_; clear hs; (try clear w); rintro a1 c1 w hc1 hs; try simp only [cls] at hs
    (repeat (first | (simp (disch := first | omega | assumption | exact Option.isSome_some | (simp only [adO_isSome]; assumption)) only [↓vcp, vcs, vct, if_true, if_false, Nat.reduceBEq, ↓reduceIte, Nat.reduceEqDiff, Nat.reduceAdd, Nat.reduceMul, Nat.reduceSub, Int.reduceToNat, reduceCtorEq, Nat.reduceLT, Nat.reduceLeDiff, Int.reduceSub, Int.reduceAdd, Int.reduceNeg, Sat.look hs, Sat.lookA hs]) | (refine khK he hs ?_; clear he; intro he) | ((first | refine stK hs ?_ | refine stFK hs ?_ | refine stAK hs ?_ | refine msK hs ?_); clear hs; (try clear w); rintro w hs; try simp only [cls] at hs) | ((first | refine al_ok hs ?_ | refine bx_ok hs ?_ | refine bsvK hs ?_ | refine bs1_ok hs ?_ | refine bs0_ok hs ?_); clear hs; (try clear w); rintro _ w hs; try simp only [cls] at hs)))
    exact ret_tmp rfl (hR _ _ ⟨a1, c1, rfl, by omega, hs⟩)
theorem number_calls (w : World) (a : Option Addr) (c : Nat) (xs : List UInt8) (k : Nat) (hx : RdB w w.heap.size a xs) (hc : xs.length ≤ c) (hk : k ≤ xs.length) (hn : xs.length ≤ 140737488355328) :
    Calls Tryd.prog 88 #[.slice a xs.length c, .int .i64 k] w fun e w' => e = .returned (.tuple #[.int .u64 (dnum xs k).1, .int .i64 (dnum xs k).2.1, .int .i64 (dnum xs k).2.2]) ∧ w = w' := by
  refine calls_vc Tryd.func88 rfl (by kernel_rfl) (by kernel_rfl) ?_; intro R hR
  have hs := Sat.start w
  have hr : RdB w w.heap.size (cutA a k xs.length 1) (xs.drop k) := by
    have h := Rd.cut (sz := 1) hx k xs.length xs.length (Nat.le_refl _)
    simp only [Nat.mul_one] at h
    rw [← List.map_take, ← List.map_drop, List.take_length] at h
    exact h
  have hrd := Read_calls w w.heap.size (cutA a k xs.length 1) (xs.length - k) (xs.drop k) hr (by rw [List.length_drop]; omega)
  rw [List.length_drop] at hrd
  unfold dnum at hR
  rcases vread_out (xs.drop k) with h | h | h | ⟨n, m, h, h1, h2, h3, h4⟩
  · rw [h] at hrd hR
    (repeat (first | (simp (disch := first | omega | assumption | exact Option.isSome_some | (simp only [adO_isSome]; assumption)) only [↓vcp, vcs, vct, if_true, if_false, Nat.reduceBEq, ↓reduceIte, Nat.reduceEqDiff, Nat.reduceAdd, Nat.reduceMul, Nat.reduceSub, Int.reduceToNat, reduceCtorEq, Nat.reduceLT, Nat.reduceLeDiff, Int.reduceSub, Int.reduceAdd, Int.reduceNeg, Sat.look hs, Sat.lookA hs]) | (refine khK he hs ?_; clear he; intro he) | ((first | refine stK hs ?_ | refine stFK hs ?_ | refine stAK hs ?_ | refine msK hs ?_); clear hs; (try clear w); rintro w hs; try simp only [cls] at hs) | ((first | refine al_ok hs ?_ | refine bx_ok hs ?_ | refine bsvK hs ?_ | refine bs1_ok hs ?_ | refine bs0_ok hs ?_); clear hs; (try clear w); rintro _ w hs; try simp only [cls] at hs) | (refine call_ok (by kernel_rfl) (hrd) ?_; rintro _ _ ⟨rfl, rfl⟩; rw [callK_ret]) | (refine call_still (by kernel_rfl) (hrd) ?_)))
    exact ret_tmp3 rfl (hR _ _ ⟨rfl, rfl⟩)
  · rw [h] at hrd hR
    (repeat (first | (simp (disch := first | omega | assumption | exact Option.isSome_some | (simp only [adO_isSome]; assumption)) only [↓vcp, vcs, vct, if_true, if_false, Nat.reduceBEq, ↓reduceIte, Nat.reduceEqDiff, Nat.reduceAdd, Nat.reduceMul, Nat.reduceSub, Int.reduceToNat, reduceCtorEq, Nat.reduceLT, Nat.reduceLeDiff, Int.reduceSub, Int.reduceAdd, Int.reduceNeg, Sat.look hs, Sat.lookA hs]) | (refine khK he hs ?_; clear he; intro he) | ((first | refine stK hs ?_ | refine stFK hs ?_ | refine stAK hs ?_ | refine msK hs ?_); clear hs; (try clear w); rintro w hs; try simp only [cls] at hs) | ((first | refine al_ok hs ?_ | refine bx_ok hs ?_ | refine bsvK hs ?_ | refine bs1_ok hs ?_ | refine bs0_ok hs ?_); clear hs; (try clear w); rintro _ w hs; try simp only [cls] at hs) | (refine call_ok (by kernel_rfl) (hrd) ?_; rintro _ _ ⟨rfl, rfl⟩; rw [callK_ret]) | (refine call_still (by kernel_rfl) (hrd) ?_)))
    exact ret_tmp3 rfl (hR _ _ ⟨rfl, rfl⟩)
  · rw [h] at hrd hR
    (repeat (first | (simp (disch := first | omega | assumption | exact Option.isSome_some | (simp only [adO_isSome]; assumption)) only [↓vcp, vcs, vct, if_true, if_false, Nat.reduceBEq, ↓reduceIte, Nat.reduceEqDiff, Nat.reduceAdd, Nat.reduceMul, Nat.reduceSub, Int.reduceToNat, reduceCtorEq, Nat.reduceLT, Nat.reduceLeDiff, Int.reduceSub, Int.reduceAdd, Int.reduceNeg, Sat.look hs, Sat.lookA hs]) | (refine khK he hs ?_; clear he; intro he) | ((first | refine stK hs ?_ | refine stFK hs ?_ | refine stAK hs ?_ | refine msK hs ?_); clear hs; (try clear w); rintro w hs; try simp only [cls] at hs) | ((first | refine al_ok hs ?_ | refine bx_ok hs ?_ | refine bsvK hs ?_ | refine bs1_ok hs ?_ | refine bs0_ok hs ?_); clear hs; (try clear w); rintro _ w hs; try simp only [cls] at hs) | (refine call_ok (by kernel_rfl) (hrd) ?_; rintro _ _ ⟨rfl, rfl⟩; rw [callK_ret]) | (refine call_still (by kernel_rfl) (hrd) ?_)))
    exact ret_tmp3 rfl (hR _ _ ⟨rfl, rfl⟩)
  · rw [h] at hrd hR
    rw [List.length_drop] at h3
    (repeat (first | (simp (disch := first | omega | assumption | exact Option.isSome_some | (simp only [adO_isSome]; assumption)) only [↓vcp, vcs, vct, if_true, if_false, Nat.reduceBEq, ↓reduceIte, Nat.reduceEqDiff, Nat.reduceAdd, Nat.reduceMul, Nat.reduceSub, Int.reduceToNat, reduceCtorEq, Nat.reduceLT, Nat.reduceLeDiff, Int.reduceSub, Int.reduceAdd, Int.reduceNeg, Sat.look hs, Sat.lookA hs]) | (refine khK he hs ?_; clear he; intro he) | ((first | refine stK hs ?_ | refine stFK hs ?_ | refine stAK hs ?_ | refine msK hs ?_); clear hs; (try clear w); rintro w hs; try simp only [cls] at hs) | ((first | refine al_ok hs ?_ | refine bx_ok hs ?_ | refine bsvK hs ?_ | refine bs1_ok hs ?_ | refine bs0_ok hs ?_); clear hs; (try clear w); rintro _ w hs; try simp only [cls] at hs) | (refine call_ok (by kernel_rfl) (hrd) ?_; rintro _ _ ⟨rfl, rfl⟩; rw [callK_ret]) | (refine call_still (by kernel_rfl) (hrd) ?_)))
    exact ret_tmp3 rfl (hR _ _ ⟨rfl, rfl⟩)
theorem DRead_calls (w0 : World) (a : Option Addr) (c : Nat) (xs : List UInt8) (hx : Ro (.at w0) a (xs.map u8v)) (hc : xs.length ≤ c) (hn : xs.length ≤ 140737488355328) :
    Calls Tryd.prog 68 #[.slice a xs.length c] w0 fun e w' => ∃ a' c', e = .returned (.tuple #[.int .u64 (dread xs).1, .slice a' (dread xs).2.1.length c', .int .i64 (dread xs).2.2.1, .int .i64 (dread xs).2.2.2]) ∧ (dread xs).2.1.length ≤ c' ∧ Sat (.at w0) [.sl a' c' ((dread xs).2.1.map u8v) 5 1] w' := by
  refine calls_vc Tryd.func68 rfl (by kernel_rfl) (by kernel_rfl) ?_; intro R hR
  have hs := Sat.start w0
  have hr : RdB w0 w0.heap.size a xs := hx.rd hs
  have hn1 := number_calls w0 a c xs 0 hr hc (by omega) hn
  rcases dnum_out xs 0 (by omega) with ⟨e, he, _, h1⟩ | ⟨n, m, h1, hn, hm, hml, hv⟩
  · have hd : dread xs = (0, [], 0, e) := by unfold dread; rw [h1]; simp [he]
    rw [h1] at hn1
    rw [hd] at hR
    replace hs := Sat.nil hs 5 1; try simp only [cls] at hs
    (repeat (first | (simp (disch := first | omega | assumption | exact Option.isSome_some | (simp only [adO_isSome]; assumption)) only [↓vcp, vcs, vct, if_true, if_false, Nat.reduceBEq, ↓reduceIte, Nat.reduceEqDiff, Nat.reduceAdd, Nat.reduceMul, Nat.reduceSub, Int.reduceToNat, reduceCtorEq, Nat.reduceLT, Nat.reduceLeDiff, Int.reduceSub, Int.reduceAdd, Int.reduceNeg, Sat.look hs, Sat.lookA hs]) | (refine khK he hs ?_; clear he; intro he) | ((first | refine stK hs ?_ | refine stFK hs ?_ | refine stAK hs ?_ | refine msK hs ?_); clear hs; (try clear w); rintro w hs; try simp only [cls] at hs) | ((first | refine al_ok hs ?_ | refine bx_ok hs ?_ | refine bsvK hs ?_ | refine bs1_ok hs ?_ | refine bs0_ok hs ?_); clear hs; (try clear w); rintro _ w hs; try simp only [cls] at hs) | (refine call_ok (by kernel_rfl) (hn1) ?_; rintro _ _ ⟨rfl, rfl⟩; rw [callK_ret]) | (refine call_still (by kernel_rfl) (hn1) ?_)))
    exact ret_tmp4 rfl (hR _ _ ⟨none, 0, rfl, by simp, hs⟩)
  rw [Nat.zero_add] at h1 hml
  rw [h1] at hn1
  have hn2 := number_calls w0 a c xs m hr hc hml (by omega)
  rcases dnum_out xs m hml with ⟨e, he, _, h2⟩ | ⟨n2, m2, h2, hn2', hm2, hml2, hv2⟩
  · have hd : dread xs = (0, [], 0, e) := by unfold dread; rw [h1]; dsimp only; rw [h2]; simp [he]
    rw [h2] at hn2
    rw [hd] at hR
    replace hs := Sat.nil hs 5 1; try simp only [cls] at hs
    (repeat (first | (simp (disch := first | omega | assumption | exact Option.isSome_some | (simp only [adO_isSome]; assumption)) only [↓vcp, vcs, vct, if_true, if_false, Nat.reduceBEq, ↓reduceIte, Nat.reduceEqDiff, Nat.reduceAdd, Nat.reduceMul, Nat.reduceSub, Int.reduceToNat, reduceCtorEq, Nat.reduceLT, Nat.reduceLeDiff, Int.reduceSub, Int.reduceAdd, Int.reduceNeg, Sat.look hs, Sat.lookA hs]) | (refine khK he hs ?_; clear he; intro he) | ((first | refine stK hs ?_ | refine stFK hs ?_ | refine stAK hs ?_ | refine msK hs ?_); clear hs; (try clear w); rintro w hs; try simp only [cls] at hs) | ((first | refine al_ok hs ?_ | refine bx_ok hs ?_ | refine bsvK hs ?_ | refine bs1_ok hs ?_ | refine bs0_ok hs ?_); clear hs; (try clear w); rintro _ w hs; try simp only [cls] at hs)))
    refine call_ok (by kernel_rfl) (hn1) ?_; rintro _ _ ⟨rfl, rfl⟩; rw [callK_ret]
    (repeat (first | (simp (disch := first | omega | assumption | exact Option.isSome_some | (simp only [adO_isSome]; assumption)) only [↓vcp, vcs, vct, if_true, if_false, Nat.reduceBEq, ↓reduceIte, Nat.reduceEqDiff, Nat.reduceAdd, Nat.reduceMul, Nat.reduceSub, Int.reduceToNat, reduceCtorEq, Nat.reduceLT, Nat.reduceLeDiff, Int.reduceSub, Int.reduceAdd, Int.reduceNeg, Sat.look hs, Sat.lookA hs]) | (refine khK he hs ?_; clear he; intro he) | ((first | refine stK hs ?_ | refine stFK hs ?_ | refine stAK hs ?_ | refine msK hs ?_); clear hs; (try clear w); rintro w hs; try simp only [cls] at hs) | ((first | refine al_ok hs ?_ | refine bx_ok hs ?_ | refine bsvK hs ?_ | refine bs1_ok hs ?_ | refine bs0_ok hs ?_); clear hs; (try clear w); rintro _ w hs; try simp only [cls] at hs)))
    refine call_ok (by kernel_rfl) (hn2) ?_; rintro _ _ ⟨rfl, rfl⟩; rw [callK_ret]
    (repeat (first | (simp (disch := first | omega | assumption | exact Option.isSome_some | (simp only [adO_isSome]; assumption)) only [↓vcp, vcs, vct, if_true, if_false, Nat.reduceBEq, ↓reduceIte, Nat.reduceEqDiff, Nat.reduceAdd, Nat.reduceMul, Nat.reduceSub, Int.reduceToNat, reduceCtorEq, Nat.reduceLT, Nat.reduceLeDiff, Int.reduceSub, Int.reduceAdd, Int.reduceNeg, Sat.look hs, Sat.lookA hs]) | (refine khK he hs ?_; clear he; intro he) | ((first | refine stK hs ?_ | refine stFK hs ?_ | refine stAK hs ?_ | refine msK hs ?_); clear hs; (try clear w); rintro w hs; try simp only [cls] at hs) | ((first | refine al_ok hs ?_ | refine bx_ok hs ?_ | refine bsvK hs ?_ | refine bs1_ok hs ?_ | refine bs0_ok hs ?_); clear hs; (try clear w); rintro _ w hs; try simp only [cls] at hs)))
    exact ret_tmp4 rfl (hR _ _ ⟨none, 0, rfl, by simp, hs⟩)
  have hd : dread xs = if fitsE n n2 ≠ 0 then (0, [], 0, fitsE n n2) else if xs.length - (m + m2) < n2 then (0, [], 0, 32) else (n, (xs.drop (m + m2)).take n2, m + m2 + n2, 0) := by
    unfold dread; rw [h1]; dsimp only; rw [h2]; dsimp only; rw [if_neg (by simp), if_neg (by simp)]
  rw [h2] at hn2
  have hw : IntKind.u64.wrap ((xs.length : Int) - ((m + m2 : Nat) : Int)) = ((xs.length - (m + m2) : Nat) : Int) := by
    rw [show (xs.length : Int) - ((m + m2 : Nat) : Int) = ((xs.length - (m + m2) : Nat) : Int) by omega]
    exact wrap_u .u64 rfl _ (by rw [bits64]; omega)
  (repeat (first | (simp (disch := first | omega | assumption | exact Option.isSome_some | (simp only [adO_isSome]; assumption)) only [↓vcp, vcs, vct, if_true, if_false, Nat.reduceBEq, ↓reduceIte, Nat.reduceEqDiff, Nat.reduceAdd, Nat.reduceMul, Nat.reduceSub, Int.reduceToNat, reduceCtorEq, Nat.reduceLT, Nat.reduceLeDiff, Int.reduceSub, Int.reduceAdd, Int.reduceNeg, Sat.look hs, Sat.lookA hs]) | (refine khK he hs ?_; clear he; intro he) | ((first | refine stK hs ?_ | refine stFK hs ?_ | refine stAK hs ?_ | refine msK hs ?_); clear hs; (try clear w); rintro w hs; try simp only [cls] at hs) | ((first | refine al_ok hs ?_ | refine bx_ok hs ?_ | refine bsvK hs ?_ | refine bs1_ok hs ?_ | refine bs0_ok hs ?_); clear hs; (try clear w); rintro _ w hs; try simp only [cls] at hs)))
  refine call_ok (by kernel_rfl) (hn1) ?_; rintro _ _ ⟨rfl, rfl⟩; rw [callK_ret]
  (repeat (first | (simp (disch := first | omega | assumption | exact Option.isSome_some | (simp only [adO_isSome]; assumption)) only [↓vcp, vcs, vct, if_true, if_false, Nat.reduceBEq, ↓reduceIte, Nat.reduceEqDiff, Nat.reduceAdd, Nat.reduceMul, Nat.reduceSub, Int.reduceToNat, reduceCtorEq, Nat.reduceLT, Nat.reduceLeDiff, Int.reduceSub, Int.reduceAdd, Int.reduceNeg, Sat.look hs, Sat.lookA hs]) | (refine khK he hs ?_; clear he; intro he) | ((first | refine stK hs ?_ | refine stFK hs ?_ | refine stAK hs ?_ | refine msK hs ?_); clear hs; (try clear w); rintro w hs; try simp only [cls] at hs) | ((first | refine al_ok hs ?_ | refine bx_ok hs ?_ | refine bsvK hs ?_ | refine bs1_ok hs ?_ | refine bs0_ok hs ?_); clear hs; (try clear w); rintro _ w hs; try simp only [cls] at hs)))
  refine call_ok (by kernel_rfl) (hn2) ?_; rintro _ _ ⟨rfl, rfl⟩; rw [callK_ret]
  (repeat (first | (simp (disch := first | omega | assumption | exact Option.isSome_some | (simp only [adO_isSome]; assumption)) only [↓vcp, vcs, vct, if_true, if_false, Nat.reduceBEq, ↓reduceIte, Nat.reduceEqDiff, Nat.reduceAdd, Nat.reduceMul, Nat.reduceSub, Int.reduceToNat, reduceCtorEq, Nat.reduceLT, Nat.reduceLeDiff, Int.reduceSub, Int.reduceAdd, Int.reduceNeg, Sat.look hs, Sat.lookA hs]) | (refine khK he hs ?_; clear he; intro he) | ((first | refine stK hs ?_ | refine stFK hs ?_ | refine stAK hs ?_ | refine msK hs ?_); clear hs; (try clear w); rintro w hs; try simp only [cls] at hs) | ((first | refine al_ok hs ?_ | refine bx_ok hs ?_ | refine bsvK hs ?_ | refine bs1_ok hs ?_ | refine bs0_ok hs ?_); clear hs; (try clear w); rintro _ w hs; try simp only [cls] at hs)))
  refine call_ok (by kernel_rfl) (fits_calls _ n n2) ?_; rintro _ _ ⟨rfl, rfl⟩; rw [callK_ret]
  have hfb : fitsE n n2 = 0 ∨ fitsE n n2 ≠ 0 := by omega
  by_cases hf : fitsE n n2 = 0
  · obtain ⟨h18, h64⟩ := fits_small hf
    rw [hf]
    by_cases hsh : xs.length - (m + m2) < n2
    · rw [hd, if_neg (by simp [hf]), if_pos hsh] at hR
      replace hs := Sat.nil hs 5 1; try simp only [cls] at hs
      (repeat (first | (simp (disch := first | omega | assumption | exact Option.isSome_some | (simp only [adO_isSome]; assumption)) only [↓vcp, vcs, vct, if_true, if_false, Nat.reduceBEq, ↓reduceIte, Nat.reduceEqDiff, Nat.reduceAdd, Nat.reduceMul, Nat.reduceSub, Int.reduceToNat, reduceCtorEq, Nat.reduceLT, Nat.reduceLeDiff, Int.reduceSub, Int.reduceAdd, Int.reduceNeg, Sat.look hs, Sat.lookA hs, hw]) | (refine khK he hs ?_; clear he; intro he) | ((first | refine stK hs ?_ | refine stFK hs ?_ | refine stAK hs ?_ | refine msK hs ?_); clear hs; (try clear w); rintro w hs; try simp only [cls] at hs) | ((first | refine al_ok hs ?_ | refine bx_ok hs ?_ | refine bsvK hs ?_ | refine bs1_ok hs ?_ | refine bs0_ok hs ?_); clear hs; (try clear w); rintro _ w hs; try simp only [cls] at hs)))
      exact ret_tmp4 rfl (hR _ _ ⟨none, 0, rfl, by simp, hs⟩)
    · rw [hd, if_neg (by simp [hf]), if_neg hsh] at hR
      have hsum : (((m + m2 : Nat) : Int) + (n2 : Int)) = ((m + m2 + n2 : Nat) : Int) := by omega
      have hsub : m + m2 + n2 - (m + m2) = n2 := by omega
      (repeat (first | (simp (disch := first | omega | assumption | exact Option.isSome_some | (simp only [adO_isSome]; assumption)) only [↓vcp, vcs, vct, if_true, if_false, Nat.reduceBEq, ↓reduceIte, Nat.reduceEqDiff, Nat.reduceAdd, Nat.reduceMul, Nat.reduceSub, Int.reduceToNat, reduceCtorEq, Nat.reduceLT, Nat.reduceLeDiff, Int.reduceSub, Int.reduceAdd, Int.reduceNeg, Sat.look hs, Sat.lookA hs, hw, hsum, hsub]) | (refine khK he hs ?_; clear he; intro he) | ((first | refine stK hs ?_ | refine stFK hs ?_ | refine stAK hs ?_ | refine msK hs ?_); clear hs; (try clear w); rintro w hs; try simp only [cls] at hs) | ((first | refine al_ok hs ?_ | refine bx_ok hs ?_ | refine bsvK hs ?_ | refine bs1_ok hs ?_ | refine bs0_ok hs ?_); clear hs; (try clear w); rintro _ w hs; try simp only [cls] at hs)))
      have hdl : ((xs.drop (m + m2)).take n2).length = n2 := by rw [List.length_take, List.length_drop]; omega
      have hcr : Ro (.at w0) (cutA a (m + m2) (m + m2 + n2) 1) (((xs.drop (m + m2)).take n2).map u8v) := by
        have h := Rd.cut (sz := 1) hr (m + m2) (m + m2 + n2) (m + m2 + n2) (Nat.le_refl _)
        simp only [Nat.mul_one] at h
        rw [← List.map_take, ← List.map_drop] at h
        rw [show (xs.drop (m + m2)).take n2 = (xs.take (m + m2 + n2)).drop (m + m2) by rw [List.drop_take, hsub]]
        exact Rd.ro h
      have has : a.isSome = true := hx.isSome (by rw [List.length_map]; omega)
      have hc0 : cutA a (m + m2) (m + m2 + n2) 1 = none → n2 = 0 := fun h => by
        obtain ⟨ad, rfl⟩ := Option.isSome_iff_exists.1 has
        unfold cutA at h
        split at h
        · cases h
        · cases h
      have hcl := Clone_calls w0 _ n2 _ hcr hc0 (by omega)
      rw [hdl] at hcl
      refine call_ok (by kernel_rfl) hcl ?_
      rintro _ w2 ⟨a', c', rfl, hc', hb⟩
      rw [callK_ret]
      replace hs := Sat.add hs hb
      try simp only [cls] at hs
      (repeat (first | (simp (disch := first | omega | assumption | exact Option.isSome_some | (simp only [adO_isSome]; assumption)) only [↓vcp, vcs, vct, if_true, if_false, Nat.reduceBEq, ↓reduceIte, Nat.reduceEqDiff, Nat.reduceAdd, Nat.reduceMul, Nat.reduceSub, Int.reduceToNat, reduceCtorEq, Nat.reduceLT, Nat.reduceLeDiff, Int.reduceSub, Int.reduceAdd, Int.reduceNeg, Sat.look hs, Sat.lookA hs, hw, hsum, hsub]) | (refine khK he hs ?_; clear he; intro he) | ((first | refine stK hs ?_ | refine stFK hs ?_ | refine stAK hs ?_ | refine msK hs ?_); clear hs; (try clear w); rintro w hs; try simp only [cls] at hs) | ((first | refine al_ok hs ?_ | refine bx_ok hs ?_ | refine bsvK hs ?_ | refine bs1_ok hs ?_ | refine bs0_ok hs ?_); clear hs; (try clear w); rintro _ w hs; try simp only [cls] at hs)))
      exact ret_tmp4 rfl (hR _ _ ⟨a', c', by dsimp only; rw [hdl]; rfl, by dsimp only; omega, hs⟩)
  · rw [hd, if_pos hf] at hR
    replace hs := Sat.nil hs 5 1; try simp only [cls] at hs
    (repeat (first | (simp (disch := first | omega | assumption | exact Option.isSome_some | (simp only [adO_isSome]; assumption)) only [↓vcp, vcs, vct, if_true, if_false, Nat.reduceBEq, ↓reduceIte, Nat.reduceEqDiff, Nat.reduceAdd, Nat.reduceMul, Nat.reduceSub, Int.reduceToNat, reduceCtorEq, Nat.reduceLT, Nat.reduceLeDiff, Int.reduceSub, Int.reduceAdd, Int.reduceNeg, Sat.look hs, Sat.lookA hs, hw]) | (refine khK he hs ?_; clear he; intro he) | ((first | refine stK hs ?_ | refine stFK hs ?_ | refine stAK hs ?_ | refine msK hs ?_); clear hs; (try clear w); rintro w hs; try simp only [cls] at hs) | ((first | refine al_ok hs ?_ | refine bx_ok hs ?_ | refine bsvK hs ?_ | refine bs1_ok hs ?_ | refine bs0_ok hs ?_); clear hs; (try clear w); rintro _ w hs; try simp only [cls] at hs)))
    exact ret_tmp4 rfl (hR _ _ ⟨none, 0, rfl, by simp, hs⟩)
end Go.Proofs.YtokoohdpakhphaaDoor.Dig
