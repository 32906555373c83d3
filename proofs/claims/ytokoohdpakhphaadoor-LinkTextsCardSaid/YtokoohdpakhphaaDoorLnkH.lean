/- Several texts in one. -/
import Derived.Test.YtokoohdpakhphaaDoorLnkOB
import Derived.Test.YtokoohdpakhphaaDoorRefDig
namespace Go.Proofs.YtokoohdpakhphaaDoor.Lnk
open Go VC Go.RowKit Dig Varint Sha
set_option linter.unusedSimpArgs false
set_option linter.unusedVariables false
set_option maxRecDepth 20000
set_option maxHeartbeats 4000000
theorem fits_may {l : Lk} (hv : l.v = 1) : lmay l ↔ (l.c < 9223372036854775808 ∧ fitsE l.h l.d.length = 0) := by
  unfold lmay fitsE
  by_cases h1 : l.h = 18
  · rw [if_pos h1]
    by_cases h2 : l.d.length = 32
    · rw [if_pos h2]; omega
    · rw [if_neg h2]; omega
  · rw [if_neg h1]
    by_cases h0 : l.h = 0
    · rw [if_pos h0]
      by_cases h2 : l.d.length ≤ 64
      · rw [if_pos h2]; omega
      · rw [if_neg h2]; omega
    · rw [if_neg h0]; omega
theorem RCheck_calls (w0 : World) (l : Lk) (hd : l.d.length ≤ 140737488355328) : Calls Tryd.prog 52 #[.agg l.fs.toArray] w0 fun e w' => e = .returned (.int .i64 (lcheck l)) ∧ Below w0.heap.size w0 w' := by
  refine calls_vc Tryd.func52 rfl (by kernel_rfl) (by kernel_rfl) ?_; intro R hR
  have hs := Sat.start w0
  have hfm := @fits_may l
  obtain ⟨v, c, h, d⟩ := l
  unfold Lk.fs
  dsimp only at hd hfm ⊢
  by_cases hv0 : v = 0
  · by_cases hc : c = 112
    · by_cases hh : h = 18
      · by_cases hd2 : d.length = 32
        · rw [show lcheck ⟨v, c, h, d⟩ = 0 from if_pos (by unfold lmay; dsimp only; omega)] at hR
          (repeat (first | (simp (disch := first | omega | assumption | exact Option.isSome_some | (simp only [adO_isSome]; assumption)) only [↓vcp, vcs, vct, if_true, if_false, Nat.reduceBEq, ↓reduceIte, Nat.reduceEqDiff, Nat.reduceAdd, Nat.reduceMul, Nat.reduceSub, Int.reduceToNat, reduceCtorEq, Nat.reduceLT, Nat.reduceLeDiff, Int.reduceSub, Int.reduceAdd, Int.reduceNeg, Sat.look hs, Sat.lookA hs, ba_size]) | (refine khK he hs ?_; clear he; intro he) | ((first | refine stK hs ?_ | refine stFK hs ?_ | refine stAK hs ?_ | refine msK hs ?_); clear hs; (try clear w); rintro w hs; try simp only [cls] at hs) | ((first | refine al_ok hs ?_ | refine bx_ok hs ?_ | refine bsvK hs ?_ | refine bs1_ok hs ?_ | refine bs0_ok hs ?_); clear hs; (try clear w); rintro _ w hs; try simp only [cls] at hs)))
          exact ret_tmp rfl (hR _ _ ⟨rfl, hs.belowAt⟩)
        · rw [show lcheck ⟨v, c, h, d⟩ = 40 from if_neg (by unfold lmay; dsimp only; omega)] at hR
          (repeat (first | (simp (disch := first | omega | assumption | exact Option.isSome_some | (simp only [adO_isSome]; assumption)) only [↓vcp, vcs, vct, if_true, if_false, Nat.reduceBEq, ↓reduceIte, Nat.reduceEqDiff, Nat.reduceAdd, Nat.reduceMul, Nat.reduceSub, Int.reduceToNat, reduceCtorEq, Nat.reduceLT, Nat.reduceLeDiff, Int.reduceSub, Int.reduceAdd, Int.reduceNeg, Sat.look hs, Sat.lookA hs, ba_size]) | (refine khK he hs ?_; clear he; intro he) | ((first | refine stK hs ?_ | refine stFK hs ?_ | refine stAK hs ?_ | refine msK hs ?_); clear hs; (try clear w); rintro w hs; try simp only [cls] at hs) | ((first | refine al_ok hs ?_ | refine bx_ok hs ?_ | refine bsvK hs ?_ | refine bs1_ok hs ?_ | refine bs0_ok hs ?_); clear hs; (try clear w); rintro _ w hs; try simp only [cls] at hs)))
          exact ret_tmp rfl (hR _ _ ⟨rfl, hs.belowAt⟩)
      · rw [show lcheck ⟨v, c, h, d⟩ = 40 from if_neg (by unfold lmay; dsimp only; omega)] at hR
        (repeat (first | (simp (disch := first | omega | assumption | exact Option.isSome_some | (simp only [adO_isSome]; assumption)) only [↓vcp, vcs, vct, if_true, if_false, Nat.reduceBEq, ↓reduceIte, Nat.reduceEqDiff, Nat.reduceAdd, Nat.reduceMul, Nat.reduceSub, Int.reduceToNat, reduceCtorEq, Nat.reduceLT, Nat.reduceLeDiff, Int.reduceSub, Int.reduceAdd, Int.reduceNeg, Sat.look hs, Sat.lookA hs, ba_size]) | (refine khK he hs ?_; clear he; intro he) | ((first | refine stK hs ?_ | refine stFK hs ?_ | refine stAK hs ?_ | refine msK hs ?_); clear hs; (try clear w); rintro w hs; try simp only [cls] at hs) | ((first | refine al_ok hs ?_ | refine bx_ok hs ?_ | refine bsvK hs ?_ | refine bs1_ok hs ?_ | refine bs0_ok hs ?_); clear hs; (try clear w); rintro _ w hs; try simp only [cls] at hs)))
        exact ret_tmp rfl (hR _ _ ⟨rfl, hs.belowAt⟩)
    · rw [show lcheck ⟨v, c, h, d⟩ = 40 from if_neg (by unfold lmay; dsimp only; omega)] at hR
      (repeat (first | (simp (disch := first | omega | assumption | exact Option.isSome_some | (simp only [adO_isSome]; assumption)) only [↓vcp, vcs, vct, if_true, if_false, Nat.reduceBEq, ↓reduceIte, Nat.reduceEqDiff, Nat.reduceAdd, Nat.reduceMul, Nat.reduceSub, Int.reduceToNat, reduceCtorEq, Nat.reduceLT, Nat.reduceLeDiff, Int.reduceSub, Int.reduceAdd, Int.reduceNeg, Sat.look hs, Sat.lookA hs, ba_size]) | (refine khK he hs ?_; clear he; intro he) | ((first | refine stK hs ?_ | refine stFK hs ?_ | refine stAK hs ?_ | refine msK hs ?_); clear hs; (try clear w); rintro w hs; try simp only [cls] at hs) | ((first | refine al_ok hs ?_ | refine bx_ok hs ?_ | refine bsvK hs ?_ | refine bs1_ok hs ?_ | refine bs0_ok hs ?_); clear hs; (try clear w); rintro _ w hs; try simp only [cls] at hs)))
      exact ret_tmp rfl (hR _ _ ⟨rfl, hs.belowAt⟩)
  · by_cases hv1 : v = 1
    · have hfm := hfm hv1
      unfold lcheck at hR
      (repeat (first | (simp (disch := first | omega | assumption | exact Option.isSome_some | (simp only [adO_isSome]; assumption)) only [↓vcp, vcs, vct, if_true, if_false, Nat.reduceBEq, ↓reduceIte, Nat.reduceEqDiff, Nat.reduceAdd, Nat.reduceMul, Nat.reduceSub, Int.reduceToNat, reduceCtorEq, Nat.reduceLT, Nat.reduceLeDiff, Int.reduceSub, Int.reduceAdd, Int.reduceNeg, Sat.look hs, Sat.lookA hs, ba_size]) | (refine khK he hs ?_; clear he; intro he) | ((first | refine stK hs ?_ | refine stFK hs ?_ | refine stAK hs ?_ | refine msK hs ?_); clear hs; (try clear w); rintro w hs; try simp only [cls] at hs) | ((first | refine al_ok hs ?_ | refine bx_ok hs ?_ | refine bsvK hs ?_ | refine bs1_ok hs ?_ | refine bs0_ok hs ?_); clear hs; (try clear w); rintro _ w hs; try simp only [cls] at hs)))
      refine cvb_ok hs ?_; clear hs; (try clear w); rintro ba bc pad w hcap hs; try simp only [cls] at hs
      (repeat (first | (simp (disch := first | omega | assumption | exact Option.isSome_some | (simp only [adO_isSome]; assumption)) only [↓vcp, vcs, vct, if_true, if_false, Nat.reduceBEq, ↓reduceIte, Nat.reduceEqDiff, Nat.reduceAdd, Nat.reduceMul, Nat.reduceSub, Int.reduceToNat, reduceCtorEq, Nat.reduceLT, Nat.reduceLeDiff, Int.reduceSub, Int.reduceAdd, Int.reduceNeg, Sat.look hs, Sat.lookA hs]) | (refine khK he hs ?_; clear he; intro he) | ((first | refine stK hs ?_ | refine stFK hs ?_ | refine stAK hs ?_ | refine msK hs ?_); clear hs; (try clear w); rintro w hs; try simp only [cls] at hs) | ((first | refine al_ok hs ?_ | refine bx_ok hs ?_ | refine bsvK hs ?_ | refine bs1_ok hs ?_ | refine bs0_ok hs ?_); clear hs; (try clear w); rintro _ w hs; try simp only [cls] at hs)))
      refine call_ok (by kernel_rfl) (RefLay_calls w h (some ⟨ba, 0, none⟩) bc d (Ro.left (Rd.ro (hs.rdBk 1 rfl))) hd) ?_; rintro _ w2 ⟨a2, c2, rfl, hc2, hb⟩; rw [callK_ret]; replace hs := Sat.add hs hb; clear hb; (try clear w); rename World => w; try simp only [cls] at hs
      generalize hfe : fitsE h d.length = fe at *
      by_cases hc : c < 9223372036854775808
      · by_cases hf0 : fe = 0
        · rw [if_pos (hfm.2 ⟨hc, hf0⟩)] at hR
          (repeat (first | (simp (disch := first | omega | assumption | exact Option.isSome_some | (simp only [adO_isSome]; assumption)) only [↓vcp, vcs, vct, if_true, if_false, Nat.reduceBEq, ↓reduceIte, Nat.reduceEqDiff, Nat.reduceAdd, Nat.reduceMul, Nat.reduceSub, Int.reduceToNat, reduceCtorEq, Nat.reduceLT, Nat.reduceLeDiff, Int.reduceSub, Int.reduceAdd, Int.reduceNeg, Sat.look hs, Sat.lookA hs]) | (refine khK he hs ?_; clear he; intro he) | ((first | refine stK hs ?_ | refine stFK hs ?_ | refine stAK hs ?_ | refine msK hs ?_); clear hs; (try clear w); rintro w hs; try simp only [cls] at hs) | ((first | refine al_ok hs ?_ | refine bx_ok hs ?_ | refine bsvK hs ?_ | refine bs1_ok hs ?_ | refine bs0_ok hs ?_); clear hs; (try clear w); rintro _ w hs; try simp only [cls] at hs)))
          exact ret_tmp rfl (hR _ _ ⟨rfl, hs.belowAt⟩)
        · rw [if_neg (fun h => hf0 (hfm.1 h).2)] at hR
          (repeat (first | (simp (disch := first | omega | assumption | exact Option.isSome_some | (simp only [adO_isSome]; assumption)) only [↓vcp, vcs, vct, if_true, if_false, Nat.reduceBEq, ↓reduceIte, Nat.reduceEqDiff, Nat.reduceAdd, Nat.reduceMul, Nat.reduceSub, Int.reduceToNat, reduceCtorEq, Nat.reduceLT, Nat.reduceLeDiff, Int.reduceSub, Int.reduceAdd, Int.reduceNeg, Sat.look hs, Sat.lookA hs]) | (refine khK he hs ?_; clear he; intro he) | ((first | refine stK hs ?_ | refine stFK hs ?_ | refine stAK hs ?_ | refine msK hs ?_); clear hs; (try clear w); rintro w hs; try simp only [cls] at hs) | ((first | refine al_ok hs ?_ | refine bx_ok hs ?_ | refine bsvK hs ?_ | refine bs1_ok hs ?_ | refine bs0_ok hs ?_); clear hs; (try clear w); rintro _ w hs; try simp only [cls] at hs)))
          exact ret_tmp rfl (hR _ _ ⟨rfl, hs.belowAt⟩)
      · rw [if_neg (fun h => hc (hfm.1 h).1)] at hR
        (repeat (first | (simp (disch := first | omega | assumption | exact Option.isSome_some | (simp only [adO_isSome]; assumption)) only [↓vcp, vcs, vct, if_true, if_false, Nat.reduceBEq, ↓reduceIte, Nat.reduceEqDiff, Nat.reduceAdd, Nat.reduceMul, Nat.reduceSub, Int.reduceToNat, reduceCtorEq, Nat.reduceLT, Nat.reduceLeDiff, Int.reduceSub, Int.reduceAdd, Int.reduceNeg, Sat.look hs, Sat.lookA hs]) | (refine khK he hs ?_; clear he; intro he) | ((first | refine stK hs ?_ | refine stFK hs ?_ | refine stAK hs ?_ | refine msK hs ?_); clear hs; (try clear w); rintro w hs; try simp only [cls] at hs) | ((first | refine al_ok hs ?_ | refine bx_ok hs ?_ | refine bsvK hs ?_ | refine bs1_ok hs ?_ | refine bs0_ok hs ?_); clear hs; (try clear w); rintro _ w hs; try simp only [cls] at hs)))
        exact ret_tmp rfl (hR _ _ ⟨rfl, hs.belowAt⟩)
    · rw [show lcheck ⟨v, c, h, d⟩ = 40 from if_neg (by unfold lmay; dsimp only; omega)] at hR
      (repeat (first | (simp (disch := first | omega | assumption | exact Option.isSome_some | (simp only [adO_isSome]; assumption)) only [↓vcp, vcs, vct, if_true, if_false, Nat.reduceBEq, ↓reduceIte, Nat.reduceEqDiff, Nat.reduceAdd, Nat.reduceMul, Nat.reduceSub, Int.reduceToNat, reduceCtorEq, Nat.reduceLT, Nat.reduceLeDiff, Int.reduceSub, Int.reduceAdd, Int.reduceNeg, Sat.look hs, Sat.lookA hs, ba_size]) | (refine khK he hs ?_; clear he; intro he) | ((first | refine stK hs ?_ | refine stFK hs ?_ | refine stAK hs ?_ | refine msK hs ?_); clear hs; (try clear w); rintro w hs; try simp only [cls] at hs) | ((first | refine al_ok hs ?_ | refine bx_ok hs ?_ | refine bsvK hs ?_ | refine bs1_ok hs ?_ | refine bs0_ok hs ?_); clear hs; (try clear w); rintro _ w hs; try simp only [cls] at hs)))
      exact ret_tmp rfl (hR _ _ ⟨rfl, hs.belowAt⟩)
end Go.Proofs.YtokoohdpakhphaaDoor.Lnk
namespace Go.Proofs.YtokoohdpakhphaaDoor.Lnk
open Go VC Go.RowKit Dig Varint Sha
set_option linter.unusedSimpArgs false
set_option linter.unusedVariables false
set_option maxRecDepth 20000
set_option maxHeartbeats 4000000
theorem RVar_calls (w0 : World) (n : Nat) (hn : n < 9223372036854775808) :
    Calls Tryd.prog 60 #[.int .u64 n] w0 fun e w' => ∃ a' c', e = .returned (.slice a' (vlay n).length c') ∧ (vlay n).length ≤ c' ∧ VC.Sat (.at w0) [.sl a' c' ((vlay n).map u8v) 5 1] w' := by
  refine calls_vc Tryd.func60 rfl (by kernel_rfl) (by kernel_rfl) ?_; intro R hR
  have hs := Sat.start w0
  have hvl := vlay_len 8 n (by omega)
  replace hs := Sat.nil hs 5 1; try simp only [cls] at hs
  (repeat (first | (simp (disch := first | omega | assumption | exact Option.isSome_some | (simp only [adO_isSome]; assumption)) only [↓vcp, vcs, vct, if_true, if_false, Nat.reduceBEq, ↓reduceIte, Nat.reduceEqDiff, Nat.reduceAdd, Nat.reduceMul, Nat.reduceSub, Int.reduceToNat, reduceCtorEq, Nat.reduceLT, Nat.reduceLeDiff, Int.reduceSub, Int.reduceAdd, Int.reduceNeg, Sat.look hs, Sat.lookA hs]) | (refine khK he hs ?_; clear he; intro he) | ((first | refine stK hs ?_ | refine stFK hs ?_ | refine stAK hs ?_ | refine msK hs ?_); clear hs; (try clear w); rintro w hs; try simp only [cls] at hs) | ((first | refine al_ok hs ?_ | refine bx_ok hs ?_ | refine bsvK hs ?_ | refine bs1_ok hs ?_ | refine bs0_ok hs ?_); clear hs; (try clear w); rintro _ w hs; try simp only [cls] at hs)))
  refine loop_join (σ := Nat × Option Addr × Nat × List UInt8) 0 [0, 3] (fun x => [.int .u64 x.1, .slice x.2.1 x.2.2.2.length x.2.2.1]) [] (fun x w' => x.1 < 128 ∧ x.2.2.2 ++ vlay x.1 = vlay n ∧ x.2.2.2.length ≤ x.2.2.1 ∧ VC.Sat (.at w0) [.sl x.2.1 x.2.2.1 (x.2.2.2.map u8v) 5 1] w') ?_ ?_
  · refine loop_rule (σ := Nat × Option Addr × Nat × List UInt8) [0, 3] (fun x => [.int .u64 x.1, .slice x.2.1 x.2.2.2.length x.2.2.1]) [] (fun x w' => x.1 < 9223372036854775808 ∧ x.2.2.2 ++ vlay x.1 = vlay n ∧ x.2.2.2.length ≤ x.2.2.1 ∧ VC.Sat (.at w0) [.sl x.2.1 x.2.2.1 (x.2.2.2.map u8v) 5 1] w') (fun x _ => x.1) (n, none, 0, []) (by kernel_rfl) rfl ⟨hn, by simp, by simp, hs⟩ ?_
    clear hs
    rintro e ⟨m, a, c, out⟩ w ⟨hm, heq, hc, hs⟩
    dsimp only at hm heq hc hs ⊢
    have hol : out.length ≤ 9 := by
      have := congrArg List.length heq
      rw [List.length_append] at this
      omega
    simp (disch := first | omega | assumption | exact Option.isSome_some | (simp only [adO_isSome]; assumption)) only [↓vcp, vcs, vct, if_true, if_false, Nat.reduceBEq, ↓reduceIte, Nat.reduceEqDiff, Nat.reduceAdd, Nat.reduceMul, Nat.reduceSub, Int.reduceToNat, reduceCtorEq, Nat.reduceLT, Nat.reduceLeDiff, Int.reduceSub, Int.reduceAdd, Int.reduceNeg, Sat.look hs, Sat.lookA hs]
    by_cases h128 : 128 ≤ m
    case neg =>
      (repeat (first | (simp (disch := first | omega | assumption | exact Option.isSome_some | (simp only [adO_isSome]; assumption)) only [↓vcp, vcs, vct, if_true, if_false, Nat.reduceBEq, ↓reduceIte, Nat.reduceEqDiff, Nat.reduceAdd, Nat.reduceMul, Nat.reduceSub, Int.reduceToNat, reduceCtorEq, Nat.reduceLT, Nat.reduceLeDiff, Int.reduceSub, Int.reduceAdd, Int.reduceNeg, Sat.look hs, Sat.lookA hs]) | (refine khK he hs ?_; clear he; intro he) | ((first | refine stK hs ?_ | refine stFK hs ?_ | refine stAK hs ?_ | refine msK hs ?_); clear hs; (try clear w); rintro w hs; try simp only [cls] at hs) | ((first | refine al_ok hs ?_ | refine bx_ok hs ?_ | refine bsvK hs ?_ | refine bs1_ok hs ?_ | refine bs0_ok hs ?_); clear hs; (try clear w); rintro _ w hs; try simp only [cls] at hs)))
      exact ⟨(m, a, c, out), by rfl, by rfl, by dsimp only; omega, heq, hc, hs⟩
    have hw8 := wr8 (128 + m % 128)
    rw [vlay_big h128] at heq
    have hq : UInt8.ofNat (m % 128 + 128) = UInt8.ofNat (128 + m % 128) := by rw [Nat.add_comm]
    rw [hq] at heq
    (repeat (first | (simp (disch := first | omega | assumption | exact Option.isSome_some | (simp only [adO_isSome]; assumption)) only [↓vcp, vcs, vct, if_true, if_false, Nat.reduceBEq, ↓reduceIte, Nat.reduceEqDiff, Nat.reduceAdd, Nat.reduceMul, Nat.reduceSub, Int.reduceToNat, reduceCtorEq, Nat.reduceLT, Nat.reduceLeDiff, Int.reduceSub, Int.reduceAdd, Int.reduceNeg, Sat.look hs, Sat.lookA hs, tmod_lit, tdiv_lit, hw8]) | (refine khK he hs ?_; clear he; intro he) | ((first | refine stK hs ?_ | refine stFK hs ?_ | refine stAK hs ?_ | refine msK hs ?_); clear hs; (try clear w); rintro w hs; try simp only [cls] at hs) | ((first | refine al_ok hs ?_ | refine bx_ok hs ?_ | refine bsvK hs ?_ | refine bs1_ok hs ?_ | refine bs0_ok hs ?_); clear hs; (try clear w); rintro _ w hs; try simp only [cls] at hs)))
    rename_i l1
    have e8 : (128 + ((m % 128 : Nat) : Int)) = ((UInt8.ofNat (128 + m % 128)).toNat : Int) := by
      rw [← hw8, wrap_u .u8 rfl _ (by rw [bits8]; omega)]
      omega
    rw [e8] at hs
    generalize UInt8.ofNat (128 + m % 128) = qb at *
    refine apK 1 hs (hs.rd (a := some ⟨l1, 0, none⟩)) ?_; clear hs; (try clear w); rintro a2 c2 w hc2 hs; try simp only [cls] at hs
    have e1 : out.map u8v ++ [Value.int .u8 (qb.toNat : Int)] = (out ++ [qb]).map u8v := by simp [u8v]
    rw [e1] at hs
    rw [show out.length + 1 = (out ++ [qb]).length by simp] at hc2 ⊢
    (repeat (first | (simp (disch := first | omega | assumption | exact Option.isSome_some | (simp only [adO_isSome]; assumption)) only [↓vcp, vcs, vct, if_true, if_false, Nat.reduceBEq, ↓reduceIte, Nat.reduceEqDiff, Nat.reduceAdd, Nat.reduceMul, Nat.reduceSub, Int.reduceToNat, reduceCtorEq, Nat.reduceLT, Nat.reduceLeDiff, Int.reduceSub, Int.reduceAdd, Int.reduceNeg, Sat.look hs, Sat.lookA hs, tmod_lit, tdiv_lit]) | (refine khK he hs ?_; clear he; intro he) | ((first | refine stK hs ?_ | refine stFK hs ?_ | refine stAK hs ?_ | refine msK hs ?_); clear hs; (try clear w); rintro w hs; try simp only [cls] at hs) | ((first | refine al_ok hs ?_ | refine bx_ok hs ?_ | refine bsvK hs ?_ | refine bs1_ok hs ?_ | refine bs0_ok hs ?_); clear hs; (try clear w); rintro _ w hs; try simp only [cls] at hs)))
    exact ⟨(m / 128, a2, c2, out ++ [qb]), by rfl, by rfl, ⟨by dsimp only; omega, by dsimp only; rw [List.append_assoc]; exact heq, hc2, hs.sub (.cons_cons _ (List.nil_sublist _))⟩, by dsimp only; omega⟩
  · clear hs
    rintro e ⟨m, a, c, out⟩ w ⟨hm, heq, hc, hs⟩
    dsimp only at hm heq hc hs ⊢
    have hol : out.length ≤ 9 := by
      have := congrArg List.length heq
      rw [List.length_append] at this
      omega
    rw [vlay_small hm] at heq
    have hw8 := wr8 m
    (repeat (first | (simp (disch := first | omega | assumption | exact Option.isSome_some | (simp only [adO_isSome]; assumption)) only [↓vcp, vcs, vct, if_true, if_false, Nat.reduceBEq, ↓reduceIte, Nat.reduceEqDiff, Nat.reduceAdd, Nat.reduceMul, Nat.reduceSub, Int.reduceToNat, reduceCtorEq, Nat.reduceLT, Nat.reduceLeDiff, Int.reduceSub, Int.reduceAdd, Int.reduceNeg, Sat.look hs, Sat.lookA hs, hw8]) | (refine khK he hs ?_; clear he; intro he) | ((first | refine stK hs ?_ | refine stFK hs ?_ | refine stAK hs ?_ | refine msK hs ?_); clear hs; (try clear w); rintro w hs; try simp only [cls] at hs) | ((first | refine al_ok hs ?_ | refine bx_ok hs ?_ | refine bsvK hs ?_ | refine bs1_ok hs ?_ | refine bs0_ok hs ?_); clear hs; (try clear w); rintro _ w hs; try simp only [cls] at hs)))
    rename_i l1
    generalize UInt8.ofNat m = qb at *
    refine apK 1 hs (hs.rd (a := some ⟨l1, 0, none⟩)) ?_; clear hs; (try clear w); rintro a2 c2 w hc2 hs; try simp only [cls] at hs
    have e1 : out.map u8v ++ [Value.int .u8 (qb.toNat : Int)] = (out ++ [qb]).map u8v := by simp [u8v]
    rw [e1] at hs
    rw [show out.length + 1 = (out ++ [qb]).length by simp] at hc2 ⊢
    rw [heq] at hs hc2 ⊢
    (repeat (first | (simp (disch := first | omega | assumption | exact Option.isSome_some | (simp only [adO_isSome]; assumption)) only [↓vcp, vcs, vct, if_true, if_false, Nat.reduceBEq, ↓reduceIte, Nat.reduceEqDiff, Nat.reduceAdd, Nat.reduceMul, Nat.reduceSub, Int.reduceToNat, reduceCtorEq, Nat.reduceLT, Nat.reduceLeDiff, Int.reduceSub, Int.reduceAdd, Int.reduceNeg, Sat.look hs, Sat.lookA hs]) | (refine khK he hs ?_; clear he; intro he) | ((first | refine stK hs ?_ | refine stFK hs ?_ | refine stAK hs ?_ | refine msK hs ?_); clear hs; (try clear w); rintro w hs; try simp only [cls] at hs) | ((first | refine al_ok hs ?_ | refine bx_ok hs ?_ | refine bsvK hs ?_ | refine bs1_ok hs ?_ | refine bs0_ok hs ?_); clear hs; (try clear w); rintro _ w hs; try simp only [cls] at hs)))
    exact ret_tmp rfl (hR _ _ ⟨a2, c2, rfl, hc2, hs.sub (.cons_cons _ (List.nil_sublist _))⟩)
theorem RBytes_calls (w0 : World) (l : Lk) (hd : l.d.length ≤ 140737488351232) :
    Calls Tryd.prog 36 #[.agg l.fs.toArray] w0 fun e w' => ∃ a' c', e = .returned (.tuple #[.slice a' (lbytes l).length c', .int .i64 (lcheck l)]) ∧ (lbytes l).length ≤ c' ∧ VC.Sat (.at w0) [.sl a' c' ((lbytes l).map u8v) 5 1] w' := by
  refine calls_vc Tryd.func36 rfl (by kernel_rfl) (by kernel_rfl) ?_; intro R hR
  have hs := Sat.start w0
  unfold lbytes at hR
  have q1 := fun w => RCheck_calls w l (by omega)
  replace hs := Sat.nil hs 5 1; try simp only [cls] at hs
  by_cases hm : lmay l
  case neg =>
    rw [if_neg hm] at hR
    rw [lcheck_not hm] at q1 hR
    obtain ⟨v, cd, h, d⟩ := l
    unfold Lk.fs at q1 ⊢
    dsimp only at q1 ⊢
    (repeat (first | (simp (disch := first | omega | assumption | exact Option.isSome_some | (simp only [adO_isSome]; assumption)) only [↓vcp, vcs, vct, if_true, if_false, Nat.reduceBEq, ↓reduceIte, Nat.reduceEqDiff, Nat.reduceAdd, Nat.reduceMul, Nat.reduceSub, Int.reduceToNat, reduceCtorEq, Nat.reduceLT, Nat.reduceLeDiff, Int.reduceSub, Int.reduceAdd, Int.reduceNeg, Sat.look hs, Sat.lookA hs]) | (refine khK he hs ?_; clear he; intro he) | ((first | refine stK hs ?_ | refine stFK hs ?_ | refine stAK hs ?_ | refine msK hs ?_); clear hs; (try clear w); rintro w hs; try simp only [cls] at hs) | ((first | refine al_ok hs ?_ | refine bx_ok hs ?_ | refine bsvK hs ?_ | refine bs1_ok hs ?_ | refine bs0_ok hs ?_); clear hs; (try clear w); rintro _ w hs; try simp only [cls] at hs)))
    refine call_ok (by kernel_rfl) (q1 w) ?_; rintro _ w2 ⟨rfl, hb⟩; rw [callK_ret]; replace hs := Sat.add hs (Below.sat hb); clear hb; (try clear w); rename World => w; try simp only [cls] at hs
    (repeat (first | (simp (disch := first | omega | assumption | exact Option.isSome_some | (simp only [adO_isSome]; assumption)) only [↓vcp, vcs, vct, if_true, if_false, Nat.reduceBEq, ↓reduceIte, Nat.reduceEqDiff, Nat.reduceAdd, Nat.reduceMul, Nat.reduceSub, Int.reduceToNat, reduceCtorEq, Nat.reduceLT, Nat.reduceLeDiff, Int.reduceSub, Int.reduceAdd, Int.reduceNeg, Sat.look hs, Sat.lookA hs]) | (refine khK he hs ?_; clear he; intro he) | ((first | refine stK hs ?_ | refine stFK hs ?_ | refine stAK hs ?_ | refine msK hs ?_); clear hs; (try clear w); rintro w hs; try simp only [cls] at hs) | ((first | refine al_ok hs ?_ | refine bx_ok hs ?_ | refine bsvK hs ?_ | refine bs1_ok hs ?_ | refine bs0_ok hs ?_); clear hs; (try clear w); rintro _ w hs; try simp only [cls] at hs)))
    exact ret_tmp2 rfl (hR _ _ ⟨none, 0, rfl, by simp, hs.sub (.cons_cons _ (List.nil_sublist _))⟩)
  rw [if_pos hm] at hR
  have hfit := lmay_fits hm
  have hmm := hm
  unfold lmay at hmm
  rw [lcheck_may hm] at q1 hR
  obtain ⟨v, cd, h, d⟩ := l
  unfold Lk.fs at q1 ⊢
  dsimp only at q1 hd hfit hmm hR ⊢
  have hdl66 := @dlay_len h d
  (repeat (first | (simp (disch := first | omega | assumption | exact Option.isSome_some | (simp only [adO_isSome]; assumption)) only [↓vcp, vcs, vct, if_true, if_false, Nat.reduceBEq, ↓reduceIte, Nat.reduceEqDiff, Nat.reduceAdd, Nat.reduceMul, Nat.reduceSub, Int.reduceToNat, reduceCtorEq, Nat.reduceLT, Nat.reduceLeDiff, Int.reduceSub, Int.reduceAdd, Int.reduceNeg, Sat.look hs, Sat.lookA hs]) | (refine khK he hs ?_; clear he; intro he) | ((first | refine stK hs ?_ | refine stFK hs ?_ | refine stAK hs ?_ | refine msK hs ?_); clear hs; (try clear w); rintro w hs; try simp only [cls] at hs) | ((first | refine al_ok hs ?_ | refine bx_ok hs ?_ | refine bsvK hs ?_ | refine bs1_ok hs ?_ | refine bs0_ok hs ?_); clear hs; (try clear w); rintro _ w hs; try simp only [cls] at hs)))
  refine call_ok (by kernel_rfl) (q1 w) ?_; rintro _ w2 ⟨rfl, hb⟩; rw [callK_ret]; replace hs := Sat.add hs (Below.sat hb); clear hb; (try clear w); rename World => w; try simp only [cls] at hs
  (repeat (first | (simp (disch := first | omega | assumption | exact Option.isSome_some | (simp only [adO_isSome]; assumption)) only [↓vcp, vcs, vct, if_true, if_false, Nat.reduceBEq, ↓reduceIte, Nat.reduceEqDiff, Nat.reduceAdd, Nat.reduceMul, Nat.reduceSub, Int.reduceToNat, reduceCtorEq, Nat.reduceLT, Nat.reduceLeDiff, Int.reduceSub, Int.reduceAdd, Int.reduceNeg, Sat.look hs, Sat.lookA hs]) | (refine khK he hs ?_; clear he; intro he) | ((first | refine stK hs ?_ | refine stFK hs ?_ | refine stAK hs ?_ | refine msK hs ?_); clear hs; (try clear w); rintro w hs; try simp only [cls] at hs) | ((first | refine al_ok hs ?_ | refine bx_ok hs ?_ | refine bsvK hs ?_ | refine bs1_ok hs ?_ | refine bs0_ok hs ?_); clear hs; (try clear w); rintro _ w hs; try simp only [cls] at hs)))
  refine cvb_ok hs ?_; clear hs; (try clear w); rintro ba bc pad w hcap hs; try simp only [cls] at hs
  (repeat (first | (simp (disch := first | omega | assumption | exact Option.isSome_some | (simp only [adO_isSome]; assumption)) only [↓vcp, vcs, vct, if_true, if_false, Nat.reduceBEq, ↓reduceIte, Nat.reduceEqDiff, Nat.reduceAdd, Nat.reduceMul, Nat.reduceSub, Int.reduceToNat, reduceCtorEq, Nat.reduceLT, Nat.reduceLeDiff, Int.reduceSub, Int.reduceAdd, Int.reduceNeg, Sat.look hs, Sat.lookA hs]) | (refine khK he hs ?_; clear he; intro he) | ((first | refine stK hs ?_ | refine stFK hs ?_ | refine stAK hs ?_ | refine msK hs ?_); clear hs; (try clear w); rintro w hs; try simp only [cls] at hs) | ((first | refine al_ok hs ?_ | refine bx_ok hs ?_ | refine bsvK hs ?_ | refine bs1_ok hs ?_ | refine bs0_ok hs ?_); clear hs; (try clear w); rintro _ w hs; try simp only [cls] at hs)))
  have q2 := RefLay_calls w h (some ⟨ba, 0, none⟩) bc d (Ro.left (Rd.ro (hs.rdBk 2 rfl))) (by omega)
  rw [hfit] at q2
  generalize dlay h d = dl at *
  refine call_ok (by kernel_rfl) (q2) ?_; rintro _ w2 ⟨a5, c5, rfl, hc5, hb⟩; rw [callK_ret]; replace hs := Sat.add hs hb; clear hb; (try clear w); rename World => w; try simp only [cls] at hs
  clear q2
  by_cases hv0 : v = 0
  · rw [if_neg (by omega)] at hR
    (repeat (first | (simp (disch := first | omega | assumption | exact Option.isSome_some | (simp only [adO_isSome]; assumption)) only [↓vcp, vcs, vct, if_true, if_false, Nat.reduceBEq, ↓reduceIte, Nat.reduceEqDiff, Nat.reduceAdd, Nat.reduceMul, Nat.reduceSub, Int.reduceToNat, reduceCtorEq, Nat.reduceLT, Nat.reduceLeDiff, Int.reduceSub, Int.reduceAdd, Int.reduceNeg, Sat.look hs, Sat.lookA hs]) | (refine khK he hs ?_; clear he; intro he) | ((first | refine stK hs ?_ | refine stFK hs ?_ | refine stAK hs ?_ | refine msK hs ?_); clear hs; (try clear w); rintro w hs; try simp only [cls] at hs) | ((first | refine al_ok hs ?_ | refine bx_ok hs ?_ | refine bsvK hs ?_ | refine bs1_ok hs ?_ | refine bs0_ok hs ?_); clear hs; (try clear w); rintro _ w hs; try simp only [cls] at hs)))
    exact ret_tmp2 rfl (hR _ _ ⟨a5, c5, by rw [List.nil_append]; rfl, by rw [List.nil_append]; exact hc5, by rw [List.nil_append]; exact hs.sub (.cons _ (.cons _ (.cons _ (List.Sublist.refl _))))⟩)
  · have hv1 : v = 1 := by omega
    rw [if_pos hv1, vlay_small (by decide : 1 < 128)] at hR
    (repeat (first | (simp (disch := first | omega | assumption | exact Option.isSome_some | (simp only [adO_isSome]; assumption)) only [↓vcp, vcs, vct, if_true, if_false, Nat.reduceBEq, ↓reduceIte, Nat.reduceEqDiff, Nat.reduceAdd, Nat.reduceMul, Nat.reduceSub, Int.reduceToNat, reduceCtorEq, Nat.reduceLT, Nat.reduceLeDiff, Int.reduceSub, Int.reduceAdd, Int.reduceNeg, Sat.look hs, Sat.lookA hs]) | (refine khK he hs ?_; clear he; intro he) | ((first | refine stK hs ?_ | refine stFK hs ?_ | refine stAK hs ?_ | refine msK hs ?_); clear hs; (try clear w); rintro w hs; try simp only [cls] at hs) | ((first | refine al_ok hs ?_ | refine bx_ok hs ?_ | refine bsvK hs ?_ | refine bs1_ok hs ?_ | refine bs0_ok hs ?_); clear hs; (try clear w); rintro _ w hs; try simp only [cls] at hs)))
    have hvl := vlay_len 8 cd (by omega)
    have q3 := RVar_calls w cd (by omega)
    generalize vlay cd = v2 at *
    refine call_ok (by kernel_rfl) (q3) ?_; rintro _ w2 ⟨a6, c6, rfl, hc6, hb⟩; rw [callK_ret]; replace hs := Sat.add hs hb; clear hb; (try clear w); rename World => w; try simp only [cls] at hs
    clear q3
    (repeat (first | (simp (disch := first | omega | assumption | exact Option.isSome_some | (simp only [adO_isSome]; assumption)) only [↓vcp, vcs, vct, if_true, if_false, Nat.reduceBEq, ↓reduceIte, Nat.reduceEqDiff, Nat.reduceAdd, Nat.reduceMul, Nat.reduceSub, Int.reduceToNat, reduceCtorEq, Nat.reduceLT, Nat.reduceLeDiff, Int.reduceSub, Int.reduceAdd, Int.reduceNeg, Sat.look hs, Sat.lookA hs]) | (refine khK he hs ?_; clear he; intro he) | ((first | refine stK hs ?_ | refine stFK hs ?_ | refine stAK hs ?_ | refine msK hs ?_); clear hs; (try clear w); rintro w hs; try simp only [cls] at hs) | ((first | refine al_ok hs ?_ | refine bx_ok hs ?_ | refine bsvK hs ?_ | refine bs1_ok hs ?_ | refine bs0_ok hs ?_); clear hs; (try clear w); rintro _ w hs; try simp only [cls] at hs)))
    rename_i l1
    refine apK (v2.length) hs (hs.rd (a := a6)) ?_; clear hs; (try clear w); rintro a7 c7 w hc7 hs; try simp only [cls] at hs
    (repeat (first | (simp (disch := first | omega | assumption | exact Option.isSome_some | (simp only [adO_isSome]; assumption)) only [↓vcp, vcs, vct, if_true, if_false, Nat.reduceBEq, ↓reduceIte, Nat.reduceEqDiff, Nat.reduceAdd, Nat.reduceMul, Nat.reduceSub, Int.reduceToNat, reduceCtorEq, Nat.reduceLT, Nat.reduceLeDiff, Int.reduceSub, Int.reduceAdd, Int.reduceNeg, Sat.look hs, Sat.lookA hs]) | (refine khK he hs ?_; clear he; intro he) | ((first | refine stK hs ?_ | refine stFK hs ?_ | refine stAK hs ?_ | refine msK hs ?_); clear hs; (try clear w); rintro w hs; try simp only [cls] at hs) | ((first | refine al_ok hs ?_ | refine bx_ok hs ?_ | refine bsvK hs ?_ | refine bs1_ok hs ?_ | refine bs0_ok hs ?_); clear hs; (try clear w); rintro _ w hs; try simp only [cls] at hs)))
    refine apK (dl.length) hs (hs.rd (a := a5)) ?_; clear hs; (try clear w); rintro a8 c8 w hc8 hs; try simp only [cls] at hs
    (repeat (first | (simp (disch := first | omega | assumption | exact Option.isSome_some | (simp only [adO_isSome]; assumption)) only [↓vcp, vcs, vct, if_true, if_false, Nat.reduceBEq, ↓reduceIte, Nat.reduceEqDiff, Nat.reduceAdd, Nat.reduceMul, Nat.reduceSub, Int.reduceToNat, reduceCtorEq, Nat.reduceLT, Nat.reduceLeDiff, Int.reduceSub, Int.reduceAdd, Int.reduceNeg, Sat.look hs, Sat.lookA hs]) | (refine khK he hs ?_; clear he; intro he) | ((first | refine stK hs ?_ | refine stFK hs ?_ | refine stAK hs ?_ | refine msK hs ?_); clear hs; (try clear w); rintro w hs; try simp only [cls] at hs) | ((first | refine al_ok hs ?_ | refine bx_ok hs ?_ | refine bsvK hs ?_ | refine bs1_ok hs ?_ | refine bs0_ok hs ?_); clear hs; (try clear w); rintro _ w hs; try simp only [cls] at hs)))
    refine ret_tmp2 rfl (hR _ _ ⟨a8, c8, ?_, ?_, ?_⟩)
    · rw [List.length_append, List.length_append]; rfl
    · rw [List.length_append, List.length_append]; exact hc8
    · rw [List.map_append, List.map_append, List.append_assoc]
      exact hs.sub (by repeat (first | exact List.nil_sublist _ | refine .cons_cons _ ?_ | refine .cons _ ?_))
end Go.Proofs.YtokoohdpakhphaaDoor.Lnk
