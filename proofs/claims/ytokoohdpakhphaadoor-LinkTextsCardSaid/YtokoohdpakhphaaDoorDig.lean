/- Digests with the number of their hash ahead: the program's fits, Holds, Lay; the statements' small functions. -/
import Derived.Test.YtokoohdpakhphaaDoorWriteA
import Derived.Test.YtokoohdpakhphaaDoorShaB
import Derived.Test.YtokoohdpakhphaaDoorLendA
import Derived.Test.YtokoohdpakhphaaDoorLoan
namespace Go.Proofs.YtokoohdpakhphaaDoor.Dig
open Go VC Go.RowKit Sha Loan Varint
set_option linter.unusedSimpArgs false
set_option maxRecDepth 20000
set_option maxHeartbeats 4000000
def fitsE (hash n : Nat) : Nat := if hash = 18 then (if n = 32 then 0 else 31) else if hash = 0 then (if n ≤ 64 then 0 else 31) else 30
theorem fits_calls (w : World) (hash n : Nat) : Calls Tryd.prog 70 #[.int .u64 hash, .int .u64 n] w fun e w' => e = .returned (.int .i64 (fitsE hash n)) ∧ w = w' := by
  refine calls_vc Tryd.func70 rfl (by kernel_rfl) (by kernel_rfl) ?_; intro R hR
  unfold fitsE at hR
  simp (disch := first | omega | assumption | exact Option.isSome_some | (simp only [adO_isSome]; assumption)) only [↓vcp, vcs, vcm, if_true, if_false, Nat.reduceBEq, ↓reduceIte, Nat.reduceEqDiff, Nat.reduceAdd, Nat.reduceMul, Nat.reduceSub, Int.reduceToNat, reduceCtorEq, Nat.reduceLT, Nat.reduceLeDiff, Int.reduceSub, Int.reduceAdd, Int.reduceNeg]
  by_cases h1 : hash = 18
  · subst h1
    by_cases h2 : n = 32
    · subst h2
      simp (disch := first | omega | assumption | exact Option.isSome_some | (simp only [adO_isSome]; assumption)) only [↓vcp, vcs, vcm, if_true, if_false, Nat.reduceBEq, ↓reduceIte, Nat.reduceEqDiff, Nat.reduceAdd, Nat.reduceMul, Nat.reduceSub, Int.reduceToNat, reduceCtorEq, Nat.reduceLT, Nat.reduceLeDiff, Int.reduceSub, Int.reduceAdd, Int.reduceNeg]
      exact ret_tmp rfl (hR _ _ ⟨by simp; rfl, rfl⟩)
    · simp (disch := first | omega | assumption | exact Option.isSome_some | (simp only [adO_isSome]; assumption)) only [↓vcp, vcs, vcm, if_true, if_false, Nat.reduceBEq, ↓reduceIte, Nat.reduceEqDiff, Nat.reduceAdd, Nat.reduceMul, Nat.reduceSub, Int.reduceToNat, reduceCtorEq, Nat.reduceLT, Nat.reduceLeDiff, Int.reduceSub, Int.reduceAdd, Int.reduceNeg]
      exact ret_tmp rfl (hR _ _ ⟨by simp [h2]; rfl, rfl⟩)
  · by_cases h3 : hash = 0
    · subst h3
      by_cases h2 : n ≤ 64
      · simp (disch := first | omega | assumption | exact Option.isSome_some | (simp only [adO_isSome]; assumption)) only [↓vcp, vcs, vcm, if_true, if_false, Nat.reduceBEq, ↓reduceIte, Nat.reduceEqDiff, Nat.reduceAdd, Nat.reduceMul, Nat.reduceSub, Int.reduceToNat, reduceCtorEq, Nat.reduceLT, Nat.reduceLeDiff, Int.reduceSub, Int.reduceAdd, Int.reduceNeg]
        exact ret_tmp rfl (hR _ _ ⟨by simp [h2]; rfl, rfl⟩)
      · simp (disch := first | omega | assumption | exact Option.isSome_some | (simp only [adO_isSome]; assumption)) only [↓vcp, vcs, vcm, if_true, if_false, Nat.reduceBEq, ↓reduceIte, Nat.reduceEqDiff, Nat.reduceAdd, Nat.reduceMul, Nat.reduceSub, Int.reduceToNat, reduceCtorEq, Nat.reduceLT, Nat.reduceLeDiff, Int.reduceSub, Int.reduceAdd, Int.reduceNeg]
        exact ret_tmp rfl (hR _ _ ⟨by simp [h2]; rfl, rfl⟩)
    · simp (disch := first | omega | assumption | exact Option.isSome_some | (simp only [adO_isSome]; assumption)) only [↓vcp, vcs, vcm, if_true, if_false, Nat.reduceBEq, ↓reduceIte, Nat.reduceEqDiff, Nat.reduceAdd, Nat.reduceMul, Nat.reduceSub, Int.reduceToNat, reduceCtorEq, Nat.reduceLT, Nat.reduceLeDiff, Int.reduceSub, Int.reduceAdd, Int.reduceNeg]
      exact ret_tmp rfl (hR _ _ ⟨by simp [h1, h3]; rfl, rfl⟩)
theorem Equal_calls (w : World) (a b : Option Addr) (c d n m : Nat) (xs ys : List UInt8) (hx : RdB w w.heap.size a xs) (hy : RdB w w.heap.size b ys) (hn : xs.length = n) (hm : ys.length = m) :
    Calls Tryd.prog 75 #[.slice a n c, .slice b m d] w fun e w' => e = .returned (.bool (decide (xs = ys))) ∧ w = w' := by
  refine calls_vc Tryd.func75 rfl (by kernel_rfl) (by kernel_rfl) ?_; intro R hR
  simp (disch := first | omega | assumption | exact Option.isSome_some | (simp only [adO_isSome]; assumption)) only [↓vcp, vcs, vcm, if_true, if_false, Nat.reduceBEq, ↓reduceIte, Nat.reduceEqDiff, Nat.reduceAdd, Nat.reduceMul, Nat.reduceSub, Int.reduceToNat, reduceCtorEq, Nat.reduceLT, Nat.reduceLeDiff, Int.reduceSub, Int.reduceAdd, Int.reduceNeg, m_strOfL _ _ hx hn, m_strOfL _ _ hy hm, ba_eq]
  exact ret_tmp rfl (hR _ _ ⟨rfl, rfl⟩)
/-- does the digest d by that hash hold the bytes? -/
def holdsB (hash : Nat) (d xs : List UInt8) : Bool := decide (hash = 18 ∧ d = sum xs ∨ hash = 0 ∧ d.length ≤ 64 ∧ d = xs)
theorem Holds_calls (w0 : World) (hash : Nat) (a b : Option Addr) (c d : Nat) (ds xs : List UInt8) (hG : Ro (.at w0) (some ⟨1, 0, none⟩) (factors.map u32v)) (ha : Ro (.at w0) a (ds.map u8v)) (hb : Ro (.at w0) b (xs.map u8v)) (hc : xs.length ≤ d) (hdl : ds.length ≤ 1125899906842624) (hl : xs.length ≤ 1125899906842624) :
    Calls Tryd.prog 53 #[.int .u64 hash, .slice a ds.length c, .slice b xs.length d] w0 fun e w' => e = .returned (.bool (holdsB hash ds xs)) ∧ Below w0.heap.size w0 w' := by
  refine calls_vc Tryd.func53 rfl (by kernel_rfl) (by kernel_rfl) ?_; intro R hR
  have hs := Sat.start w0
  (repeat (first | (simp (disch := first | omega | assumption | exact Option.isSome_some | (simp only [adO_isSome]; assumption)) only [↓vcp, vcs, vct, if_true, if_false, Nat.reduceBEq, ↓reduceIte, Nat.reduceEqDiff, Nat.reduceAdd, Nat.reduceMul, Nat.reduceSub, Int.reduceToNat, reduceCtorEq, Nat.reduceLT, Nat.reduceLeDiff, Int.reduceSub, Int.reduceAdd, Int.reduceNeg, Sat.look hs, Sat.lookA hs]) | (refine khK he hs ?_; clear he; intro he) | ((first | refine stK hs ?_ | refine stFK hs ?_ | refine stAK hs ?_ | refine msK hs ?_); clear hs; (try clear w); rintro w hs; try simp only [cls] at hs) | ((first | refine al_ok hs ?_ | refine bx_ok hs ?_ | refine bsvK hs ?_ | refine bs1_ok hs ?_ | refine bs0_ok hs ?_); clear hs; (try clear w); rintro _ w hs; try simp only [cls] at hs) | (refine call_ok (by kernel_rfl) (fits_calls _ _ _) ?_; rintro _ _ ⟨rfl, rfl⟩; rw [callK_ret]) | (refine call_still (by kernel_rfl) (fits_calls _ _ _) ?_)))
  have hsl := sum_len xs
  by_cases hf : fitsE hash ds.length = 0
  case neg =>
    (repeat (first | (simp (disch := first | omega | assumption | exact Option.isSome_some | (simp only [adO_isSome]; assumption)) only [↓vcp, vcs, vct, if_true, if_false, Nat.reduceBEq, ↓reduceIte, Nat.reduceEqDiff, Nat.reduceAdd, Nat.reduceMul, Nat.reduceSub, Int.reduceToNat, reduceCtorEq, Nat.reduceLT, Nat.reduceLeDiff, Int.reduceSub, Int.reduceAdd, Int.reduceNeg, Sat.look hs, Sat.lookA hs]) | (refine khK he hs ?_; clear he; intro he) | ((first | refine stK hs ?_ | refine stFK hs ?_ | refine stAK hs ?_ | refine msK hs ?_); clear hs; (try clear w); rintro w hs; try simp only [cls] at hs) | ((first | refine al_ok hs ?_ | refine bx_ok hs ?_ | refine bsvK hs ?_ | refine bs1_ok hs ?_ | refine bs0_ok hs ?_); clear hs; (try clear w); rintro _ w hs; try simp only [cls] at hs)))
    refine ret_tmp rfl (hR _ _ ⟨?_, hs.belowAt⟩)
    have : holdsB hash ds xs = false := by
      unfold holdsB
      rw [decide_eq_false]
      rintro (⟨rfl, h⟩ | ⟨rfl, h, _⟩)
      · rw [h, hsl] at hf; exact hf rfl
      · exact hf (by simp [fitsE, h])
    rw [this]; rfl
  case pos =>
    by_cases h0 : hash = 0
    case pos =>
      subst h0
      (repeat (first | (simp (disch := first | omega | assumption | exact Option.isSome_some | (simp only [adO_isSome]; assumption)) only [↓vcp, vcs, vct, if_true, if_false, Nat.reduceBEq, ↓reduceIte, Nat.reduceEqDiff, Nat.reduceAdd, Nat.reduceMul, Nat.reduceSub, Int.reduceToNat, reduceCtorEq, Nat.reduceLT, Nat.reduceLeDiff, Int.reduceSub, Int.reduceAdd, Int.reduceNeg, Sat.look hs, Sat.lookA hs]) | (refine khK he hs ?_; clear he; intro he) | ((first | refine stK hs ?_ | refine stFK hs ?_ | refine stAK hs ?_ | refine msK hs ?_); clear hs; (try clear w); rintro w hs; try simp only [cls] at hs) | ((first | refine al_ok hs ?_ | refine bx_ok hs ?_ | refine bsvK hs ?_ | refine bs1_ok hs ?_ | refine bs0_ok hs ?_); clear hs; (try clear w); rintro _ w hs; try simp only [cls] at hs) | (refine call_ok (by kernel_rfl) (Equal_calls _ _ _ _ _ _ _ _ _ (ha.rd hs) (hb.rd hs) rfl rfl) ?_; rintro _ _ ⟨rfl, rfl⟩; rw [callK_ret]) | (refine call_still (by kernel_rfl) (Equal_calls _ _ _ _ _ _ _ _ _ (ha.rd hs) (hb.rd hs) rfl rfl) ?_)))
      refine ret_tmp rfl (hR _ _ ⟨?_, hs.belowAt⟩)
      have h64 : ds.length ≤ 64 := by
        unfold fitsE at hf
        simp at hf
        by_cases h : ds.length ≤ 64
        · exact h
        · simp [h] at hf
      have : holdsB 0 ds xs = decide (ds = xs) := by unfold holdsB; simp [h64]
      rw [this]; rfl
    case neg =>
      have h18 : hash = 18 := by
        unfold fitsE at hf
        by_cases h : hash = 18
        · exact h
        · simp [h, h0] at hf
      subst h18
      (repeat (first | (simp (disch := first | omega | assumption | exact Option.isSome_some | (simp only [adO_isSome]; assumption)) only [↓vcp, vcs, vct, if_true, if_false, Nat.reduceBEq, ↓reduceIte, Nat.reduceEqDiff, Nat.reduceAdd, Nat.reduceMul, Nat.reduceSub, Int.reduceToNat, reduceCtorEq, Nat.reduceLT, Nat.reduceLeDiff, Int.reduceSub, Int.reduceAdd, Int.reduceNeg, Sat.look hs, Sat.lookA hs]) | (refine khK he hs ?_; clear he; intro he) | ((first | refine stK hs ?_ | refine stFK hs ?_ | refine stAK hs ?_ | refine msK hs ?_); clear hs; (try clear w); rintro w hs; try simp only [cls] at hs) | ((first | refine al_ok hs ?_ | refine bx_ok hs ?_ | refine bsvK hs ?_ | refine bs1_ok hs ?_ | refine bs0_ok hs ?_); clear hs; (try clear w); rintro _ w hs; try simp only [cls] at hs)))
      refine call_ok (by kernel_rfl) (DSum_calls w0 b d xs (hG.up0 hs) (hb.up0 hs) hc hl) ?_; rintro _ w2 ⟨rfl, hb⟩; rw [callK_ret]; replace hs := Sat.add hs (Below.sat hb); clear hb; (try clear w); rename World => w; try simp only [cls] at hs
      (repeat (first | (simp (disch := first | omega | assumption | exact Option.isSome_some | (simp only [adO_isSome]; assumption)) only [↓vcp, vcs, vct, if_true, if_false, Nat.reduceBEq, ↓reduceIte, Nat.reduceEqDiff, Nat.reduceAdd, Nat.reduceMul, Nat.reduceSub, Int.reduceToNat, reduceCtorEq, Nat.reduceLT, Nat.reduceLeDiff, Int.reduceSub, Int.reduceAdd, Int.reduceNeg, Sat.look hs, Sat.lookA hs]) | (refine khK he hs ?_; clear he; intro he) | ((first | refine stK hs ?_ | refine stFK hs ?_ | refine stAK hs ?_ | refine msK hs ?_); clear hs; (try clear w); rintro w hs; try simp only [cls] at hs) | ((first | refine al_ok hs ?_ | refine bx_ok hs ?_ | refine bsvK hs ?_ | refine bs1_ok hs ?_ | refine bs0_ok hs ?_); clear hs; (try clear w); rintro _ w hs; try simp only [cls] at hs)))
      rename_i sb
      have hr : RdB w w.heap.size (some ⟨sb, 0, none⟩) (sum xs) := hs.rdBk 0 rfl
      (repeat (first | (simp (disch := first | omega | assumption | exact Option.isSome_some | (simp only [adO_isSome]; assumption)) only [↓vcp, vcs, vct, if_true, if_false, Nat.reduceBEq, ↓reduceIte, Nat.reduceEqDiff, Nat.reduceAdd, Nat.reduceMul, Nat.reduceSub, Int.reduceToNat, reduceCtorEq, Nat.reduceLT, Nat.reduceLeDiff, Int.reduceSub, Int.reduceAdd, Int.reduceNeg, Sat.look hs, Sat.lookA hs]) | (refine khK he hs ?_; clear he; intro he) | ((first | refine stK hs ?_ | refine stFK hs ?_ | refine stAK hs ?_ | refine msK hs ?_); clear hs; (try clear w); rintro w hs; try simp only [cls] at hs) | ((first | refine al_ok hs ?_ | refine bx_ok hs ?_ | refine bsvK hs ?_ | refine bs1_ok hs ?_ | refine bs0_ok hs ?_); clear hs; (try clear w); rintro _ w hs; try simp only [cls] at hs) | (refine call_ok (by kernel_rfl) (Equal_calls _ _ _ _ _ _ _ _ _ (ha.rd hs) hr rfl hsl) ?_; rintro _ _ ⟨rfl, rfl⟩; rw [callK_ret]) | (refine call_still (by kernel_rfl) (Equal_calls _ _ _ _ _ _ _ _ _ (ha.rd hs) hr rfl hsl) ?_)))
      refine ret_tmp rfl (hR _ _ ⟨?_, hs.belowAt⟩)
      have : holdsB 18 ds xs = decide (ds = sum xs) := by unfold holdsB; simp
      rw [this]; rfl
theorem VLay_calls (w : World) (n : Nat) (h : n < 128) :
    Calls Tryd.prog 47 #[.int .u64 n] w fun e w' => ∃ a c, e = .returned (.tuple #[.slice a 1 c, .int .i64 0]) ∧ 1 ≤ c ∧ Sat (.at w) [.sl a c [u8v (UInt8.ofNat n)] 5 1] w' :=
  (Lay_calls w n (by omega)).mono fun e w' ⟨a, c, h1, h2, h3⟩ => by
    have hv := vlay_small h
    rw [hv] at h1 h2
    refine ⟨a, c, h1, ?_, Own.sat h2 h3⟩
    rcases h2.form with ⟨_, h, _, _⟩ | ⟨_, _, _, _, _, h, _⟩
    · simp at h
    · exact h
def dlay (hash : Nat) (ds : List UInt8) : List UInt8 := if fitsE hash ds.length = 0 then UInt8.ofNat hash :: UInt8.ofNat ds.length :: ds else []
theorem fits_small {hash n : Nat} (h : fitsE hash n = 0) : hash ≤ 18 ∧ n ≤ 64 := by
  unfold fitsE at h
  by_cases h1 : hash = 18
  · by_cases h2 : n = 32
    · omega
    · simp [h1, h2] at h
  · by_cases h3 : hash = 0
    · by_cases h2 : n ≤ 64
      · omega
      · simp [h3, h2] at h
    · simp [h1, h3] at h
theorem DLay_calls (w0 : World) (hash : Nat) (a : Option Addr) (c : Nat) (ds : List UInt8) (ha : Ro (.at w0) a (ds.map u8v)) (hdl : ds.length ≤ 1125899906842624) :
    Calls Tryd.prog 48 #[.int .u64 hash, .slice a ds.length c] w0 fun e w' => ∃ a' c', e = .returned (.tuple #[.slice a' (dlay hash ds).length c', .int .i64 (fitsE hash ds.length)]) ∧ (dlay hash ds).length ≤ c' ∧ Sat (.at w0) [.sl a' c' ((dlay hash ds).map u8v) 5 1] w' := by
  refine calls_vc Tryd.func48 rfl (by kernel_rfl) (by kernel_rfl) ?_; intro R hR
  have hs := Sat.start w0
  (repeat (first | (simp (disch := first | omega | assumption | exact Option.isSome_some | (simp only [adO_isSome]; assumption)) only [↓vcp, vcs, vct, if_true, if_false, Nat.reduceBEq, ↓reduceIte, Nat.reduceEqDiff, Nat.reduceAdd, Nat.reduceMul, Nat.reduceSub, Int.reduceToNat, reduceCtorEq, Nat.reduceLT, Nat.reduceLeDiff, Int.reduceSub, Int.reduceAdd, Int.reduceNeg, Sat.look hs, Sat.lookA hs]) | (refine khK he hs ?_; clear he; intro he) | ((first | refine stK hs ?_ | refine stFK hs ?_ | refine stAK hs ?_ | refine msK hs ?_); clear hs; (try clear w); rintro w hs; try simp only [cls] at hs) | ((first | refine al_ok hs ?_ | refine bx_ok hs ?_ | refine bsvK hs ?_ | refine bs1_ok hs ?_ | refine bs0_ok hs ?_); clear hs; (try clear w); rintro _ w hs; try simp only [cls] at hs) | (refine call_ok (by kernel_rfl) (fits_calls _ _ _) ?_; rintro _ _ ⟨rfl, rfl⟩; rw [callK_ret]) | (refine call_still (by kernel_rfl) (fits_calls _ _ _) ?_)))
  by_cases hf : fitsE hash ds.length = 0
  case neg =>
    have hd : dlay hash ds = [] := by unfold dlay; rw [if_neg hf]
    (repeat (first | (simp (disch := first | omega | assumption | exact Option.isSome_some | (simp only [adO_isSome]; assumption)) only [↓vcp, vcs, vct, if_true, if_false, Nat.reduceBEq, ↓reduceIte, Nat.reduceEqDiff, Nat.reduceAdd, Nat.reduceMul, Nat.reduceSub, Int.reduceToNat, reduceCtorEq, Nat.reduceLT, Nat.reduceLeDiff, Int.reduceSub, Int.reduceAdd, Int.reduceNeg, Sat.look hs, Sat.lookA hs]) | (refine khK he hs ?_; clear he; intro he) | ((first | refine stK hs ?_ | refine stFK hs ?_ | refine stAK hs ?_ | refine msK hs ?_); clear hs; (try clear w); rintro w hs; try simp only [cls] at hs) | ((first | refine al_ok hs ?_ | refine bx_ok hs ?_ | refine bsvK hs ?_ | refine bs1_ok hs ?_ | refine bs0_ok hs ?_); clear hs; (try clear w); rintro _ w hs; try simp only [cls] at hs)))
    refine ret_tmp2 rfl (hR _ _ ⟨none, 0, ?_, by rw [hd]; exact Nat.le_refl _, by rw [hd]; exact hs.nil _ _⟩)
    rw [hd]; rfl
  case pos =>
    have hsm := fits_small hf
    have hd : dlay hash ds = UInt8.ofNat hash :: UInt8.ofNat ds.length :: ds := by unfold dlay; rw [if_pos hf]
    (repeat (first | (simp (disch := first | omega | assumption | exact Option.isSome_some | (simp only [adO_isSome]; assumption)) only [↓vcp, vcs, vct, if_true, if_false, Nat.reduceBEq, ↓reduceIte, Nat.reduceEqDiff, Nat.reduceAdd, Nat.reduceMul, Nat.reduceSub, Int.reduceToNat, reduceCtorEq, Nat.reduceLT, Nat.reduceLeDiff, Int.reduceSub, Int.reduceAdd, Int.reduceNeg, Sat.look hs, Sat.lookA hs]) | (refine khK he hs ?_; clear he; intro he) | ((first | refine stK hs ?_ | refine stFK hs ?_ | refine stAK hs ?_ | refine msK hs ?_); clear hs; (try clear w); rintro w hs; try simp only [cls] at hs) | ((first | refine al_ok hs ?_ | refine bx_ok hs ?_ | refine bsvK hs ?_ | refine bs1_ok hs ?_ | refine bs0_ok hs ?_); clear hs; (try clear w); rintro _ w hs; try simp only [cls] at hs)))
    refine call_ok (by kernel_rfl) (VLay_calls w0 hash (by omega)) ?_; rintro _ w2 ⟨a1, c1, rfl, hc1, hb⟩; rw [callK_ret]; replace hs := Sat.add hs hb; clear hb; (try clear w); rename World => w; try simp only [cls] at hs
    (repeat (first | (simp (disch := first | omega | assumption | exact Option.isSome_some | (simp only [adO_isSome]; assumption)) only [↓vcp, vcs, vct, if_true, if_false, Nat.reduceBEq, ↓reduceIte, Nat.reduceEqDiff, Nat.reduceAdd, Nat.reduceMul, Nat.reduceSub, Int.reduceToNat, reduceCtorEq, Nat.reduceLT, Nat.reduceLeDiff, Int.reduceSub, Int.reduceAdd, Int.reduceNeg, Sat.look hs, Sat.lookA hs]) | (refine khK he hs ?_; clear he; intro he) | ((first | refine stK hs ?_ | refine stFK hs ?_ | refine stAK hs ?_ | refine msK hs ?_); clear hs; (try clear w); rintro w hs; try simp only [cls] at hs) | ((first | refine al_ok hs ?_ | refine bx_ok hs ?_ | refine bsvK hs ?_ | refine bs1_ok hs ?_ | refine bs0_ok hs ?_); clear hs; (try clear w); rintro _ w hs; try simp only [cls] at hs)))
    refine call_ok (by kernel_rfl) (VLay_calls w ds.length (by omega)) ?_; rintro _ w2 ⟨a2, c2, rfl, hc2, hb⟩; rw [callK_ret]; replace hs := Sat.add hs hb; clear hb; (try clear w); rename World => w; try simp only [cls] at hs
    (repeat (first | (simp (disch := first | omega | assumption | exact Option.isSome_some | (simp only [adO_isSome]; assumption)) only [↓vcp, vcs, vct, if_true, if_false, Nat.reduceBEq, ↓reduceIte, Nat.reduceEqDiff, Nat.reduceAdd, Nat.reduceMul, Nat.reduceSub, Int.reduceToNat, reduceCtorEq, Nat.reduceLT, Nat.reduceLeDiff, Int.reduceSub, Int.reduceAdd, Int.reduceNeg, Sat.look hs, Sat.lookA hs]) | (refine khK he hs ?_; clear he; intro he) | ((first | refine stK hs ?_ | refine stFK hs ?_ | refine stAK hs ?_ | refine msK hs ?_); clear hs; (try clear w); rintro w hs; try simp only [cls] at hs) | ((first | refine al_ok hs ?_ | refine bx_ok hs ?_ | refine bsvK hs ?_ | refine bs1_ok hs ?_ | refine bs0_ok hs ?_); clear hs; (try clear w); rintro _ w hs; try simp only [cls] at hs)))
    refine apK 1 hs (hs.rd) ?_; clear hs; (try clear w); rintro a3 c3 w hc3 hs; try simp only [cls] at hs
    (repeat (first | (simp (disch := first | omega | assumption | exact Option.isSome_some | (simp only [adO_isSome]; assumption)) only [↓vcp, vcs, vct, if_true, if_false, Nat.reduceBEq, ↓reduceIte, Nat.reduceEqDiff, Nat.reduceAdd, Nat.reduceMul, Nat.reduceSub, Int.reduceToNat, reduceCtorEq, Nat.reduceLT, Nat.reduceLeDiff, Int.reduceSub, Int.reduceAdd, Int.reduceNeg, Sat.look hs, Sat.lookA hs]) | (refine khK he hs ?_; clear he; intro he) | ((first | refine stK hs ?_ | refine stFK hs ?_ | refine stAK hs ?_ | refine msK hs ?_); clear hs; (try clear w); rintro w hs; try simp only [cls] at hs) | ((first | refine al_ok hs ?_ | refine bx_ok hs ?_ | refine bsvK hs ?_ | refine bs1_ok hs ?_ | refine bs0_ok hs ?_); clear hs; (try clear w); rintro _ w hs; try simp only [cls] at hs)))
    refine apK (ds.length) hs (ha.rd hs) ?_; clear hs; (try clear w); rintro a4 c4 w hc4 hs; try simp only [cls] at hs
    (repeat (first | (simp (disch := first | omega | assumption | exact Option.isSome_some | (simp only [adO_isSome]; assumption)) only [↓vcp, vcs, vct, if_true, if_false, Nat.reduceBEq, ↓reduceIte, Nat.reduceEqDiff, Nat.reduceAdd, Nat.reduceMul, Nat.reduceSub, Int.reduceToNat, reduceCtorEq, Nat.reduceLT, Nat.reduceLeDiff, Int.reduceSub, Int.reduceAdd, Int.reduceNeg, Sat.look hs, Sat.lookA hs]) | (refine khK he hs ?_; clear he; intro he) | ((first | refine stK hs ?_ | refine stFK hs ?_ | refine stAK hs ?_ | refine msK hs ?_); clear hs; (try clear w); rintro w hs; try simp only [cls] at hs) | ((first | refine al_ok hs ?_ | refine bx_ok hs ?_ | refine bsvK hs ?_ | refine bs1_ok hs ?_ | refine bs0_ok hs ?_); clear hs; (try clear w); rintro _ w hs; try simp only [cls] at hs)))
    have hl2 : (dlay hash ds).length = 1 + 1 + ds.length := by rw [hd]; simp; omega
    refine ret_tmp2 rfl (hR _ _ ⟨a4, c4, ?_, by omega, by rw [hd]; exact hs.take 1⟩)
    rw [hl2, hf]; rfl
end Go.Proofs.YtokoohdpakhphaaDoor.Dig
