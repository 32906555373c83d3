/- The document's digests in bytes: Number, Lay, Read. -/
import Derived.Test.YtokoohdpakhphaaDoorDReadA
namespace Go.Proofs.YtokoohdpakhphaaDoor.Dig
open Go VC Go.RowKit Sha Loan Varint Help
set_option linter.unusedSimpArgs false
set_option linter.unusedVariables false
set_option maxRecDepth 20000
set_option maxHeartbeats 4000000
theorem RefNumber_calls (w0 : World) (a : Option Addr) (c : Nat) (xs : List UInt8) (hx : Ro (.at w0) a (xs.map u8v)) (hn : xs.length ≤ 140737488355328) :
    Calls Tryd.prog 85 #[.slice a xs.length c] w0 fun e w' => e = .returned (.tuple #[.int .u64 (dnum xs 0).1, .int .i64 (dnum xs 0).2.1, .int .i64 (dnum xs 0).2.2]) ∧ w0 = w' := by
  refine calls_vc Tryd.func85 rfl (by kernel_rfl) (by kernel_rfl) ?_; intro R hR
  have hs := Sat.start w0
  unfold dnum at hR
  rw [List.drop_zero] at hR
  (repeat (first | (simp (disch := first | omega | assumption | exact Option.isSome_some | (simp only [adO_isSome]; assumption)) only [↓vcp, vcs, vct, if_true, if_false, Nat.reduceBEq, ↓reduceIte, Nat.reduceEqDiff, Nat.reduceAdd, Nat.reduceMul, Nat.reduceSub, Int.reduceToNat, reduceCtorEq, Nat.reduceLT, Nat.reduceLeDiff, Int.reduceSub, Int.reduceAdd, Int.reduceNeg, Sat.look hs, Sat.lookA hs]) | (refine khK he hs ?_; clear he; intro he) | ((first | refine stK hs ?_ | refine stFK hs ?_ | refine stAK hs ?_ | refine msK hs ?_); clear hs; (try clear w); rintro w hs; try simp only [cls] at hs) | ((first | refine al_ok hs ?_ | refine bx_ok hs ?_ | refine bsvK hs ?_ | refine bs1_ok hs ?_ | refine bs0_ok hs ?_); clear hs; (try clear w); rintro _ w hs; try simp only [cls] at hs)))
  refine loop_rule (σ := Nat) [6, 5] (fun i => [.int .i64 i, .int .u64 (dec (xs.take i))]) [0] (fun i w' => High xs i ∧ w0 = w') (fun i _ => 9 - i) 0 (by kernel_rfl) rfl ⟨⟨by omega, by omega, fun i hi h => by omega⟩, rfl⟩ ?_
  rintro e i _ ⟨hh, rfl⟩
  have h9 := hh.le9
  have hil := hh.le
  simp (disch := first | omega | assumption | exact Option.isSome_some | (simp only [adO_isSome]; assumption)) only [↓vcp, vcs, vct, if_true, if_false, Nat.reduceBEq, ↓reduceIte, Nat.reduceEqDiff, Nat.reduceAdd, Nat.reduceMul, Nat.reduceSub, Int.reduceToNat, reduceCtorEq, Nat.reduceLT, Nat.reduceLeDiff, Int.reduceSub, Int.reduceAdd, Int.reduceNeg, Sat.look hs, Sat.lookA hs]
  by_cases hlt : i < xs.length ∧ i < 9
  case neg =>
    by_cases h9' : i = 9
    · have hv : vread xs = (0, 0, 11) := by subst h9'; exact hh.r9
      rw [hv] at hR
      have h9l : 9 ≤ xs.length := by omega
      by_cases hl2 : i < xs.length
      · (repeat (first | (simp (disch := first | omega | assumption | exact Option.isSome_some | (simp only [adO_isSome]; assumption)) only [↓vcp, vcs, vct, if_true, if_false, Nat.reduceBEq, ↓reduceIte, Nat.reduceEqDiff, Nat.reduceAdd, Nat.reduceMul, Nat.reduceSub, Int.reduceToNat, reduceCtorEq, Nat.reduceLT, Nat.reduceLeDiff, Int.reduceSub, Int.reduceAdd, Int.reduceNeg, Sat.look hs, Sat.lookA hs]) | (refine khK he hs ?_; clear he; intro he) | ((first | refine stK hs ?_ | refine stFK hs ?_ | refine stAK hs ?_ | refine msK hs ?_); clear hs; (try clear w); rintro w hs; try simp only [cls] at hs) | ((first | refine al_ok hs ?_ | refine bx_ok hs ?_ | refine bsvK hs ?_ | refine bs1_ok hs ?_ | refine bs0_ok hs ?_); clear hs; (try clear w); rintro _ w hs; try simp only [cls] at hs)))
        exact ret_tmp3 rfl (hR _ _ ⟨rfl, rfl⟩)
      · (repeat (first | (simp (disch := first | omega | assumption | exact Option.isSome_some | (simp only [adO_isSome]; assumption)) only [↓vcp, vcs, vct, if_true, if_false, Nat.reduceBEq, ↓reduceIte, Nat.reduceEqDiff, Nat.reduceAdd, Nat.reduceMul, Nat.reduceSub, Int.reduceToNat, reduceCtorEq, Nat.reduceLT, Nat.reduceLeDiff, Int.reduceSub, Int.reduceAdd, Int.reduceNeg, Sat.look hs, Sat.lookA hs]) | (refine khK he hs ?_; clear he; intro he) | ((first | refine stK hs ?_ | refine stFK hs ?_ | refine stAK hs ?_ | refine msK hs ?_); clear hs; (try clear w); rintro w hs; try simp only [cls] at hs) | ((first | refine al_ok hs ?_ | refine bx_ok hs ?_ | refine bsvK hs ?_ | refine bs1_ok hs ?_ | refine bs0_ok hs ?_); clear hs; (try clear w); rintro _ w hs; try simp only [cls] at hs)))
        exact ret_tmp3 rfl (hR _ _ ⟨rfl, rfl⟩)
    · have hl : i = xs.length := by omega
      have hv : vread xs = (0, 0, 10) := hh.short h9' hl
      rw [hv] at hR
      have h9l : ¬ 9 ≤ xs.length := by omega
      have hl2 : ¬ i < xs.length := by omega
      (repeat (first | (simp (disch := first | omega | assumption | exact Option.isSome_some | (simp only [adO_isSome]; assumption)) only [↓vcp, vcs, vct, if_true, if_false, Nat.reduceBEq, ↓reduceIte, Nat.reduceEqDiff, Nat.reduceAdd, Nat.reduceMul, Nat.reduceSub, Int.reduceToNat, reduceCtorEq, Nat.reduceLT, Nat.reduceLeDiff, Int.reduceSub, Int.reduceAdd, Int.reduceNeg, Sat.look hs, Sat.lookA hs]) | (refine khK he hs ?_; clear he; intro he) | ((first | refine stK hs ?_ | refine stFK hs ?_ | refine stAK hs ?_ | refine msK hs ?_); clear hs; (try clear w); rintro w hs; try simp only [cls] at hs) | ((first | refine al_ok hs ?_ | refine bx_ok hs ?_ | refine bsvK hs ?_ | refine bs1_ok hs ?_ | refine bs0_ok hs ?_); clear hs; (try clear w); rintro _ w hs; try simp only [cls] at hs)))
      exact ret_tmp3 rfl (hR _ _ ⟨rfl, rfl⟩)
  case pos =>
    obtain ⟨hl, hl9⟩ := hlt
    have has : a.isSome = true := hx.isSome (by rw [List.length_map]; omega)
    have hb : oldO (.at w0) (adO a i) = some (.int .u8 (xs[i].toNat : Int)) := hx i _ (by rw [List.getElem?_map, List.getElem?_eq_getElem hl]; rfl)
    have hdl := dec_lt (xs.take i)
    have hti : (xs.take i).length = i := by rw [List.length_take]; omega
    rw [hti] at hdl
    generalize hb8 : xs[i] = b8 at *
    have hb256 : b8.toNat < 256 := b8.toNat_lt
    have hpw : 2 ^ (7 * i) ≤ 2 ^ 56 := Nat.pow_le_pow_right (by omega) (by omega)
    have hxp : b8.toNat % 128 * 2 ^ (7 * i) ≤ 127 * 2 ^ 56 := Nat.mul_le_mul (by omega) hpw
    have e1 : ((b8.toNat : Int)).tmod 128 = ((b8.toNat % 128 : Nat) : Int) := rfl
    have e2 : (7 * (i : Int)) = ((7 * i : Nat) : Int) := by omega
    have e3 : IntKind.u64.wrap ((b8.toNat % 128 : Nat) : Int) = ((b8.toNat % 128 : Nat) : Int) := wrap_u .u64 rfl _ (by rw [bits64]; omega)
    have e4 : IntKind.u64.wrap ((7 * i : Nat) : Int) = ((7 * i : Nat) : Int) := wrap_u .u64 rfl _ (by rw [bits64]; omega)
    have e5 : Shl .u64 ((b8.toNat % 128 : Nat) : Int) ((7 * i : Nat) : Int) = ((b8.toNat % 128 * 2 ^ (7 * i) : Nat) : Int) := by
      unfold Shl
      rw [Int.toNat_natCast, bits64, Nat.min_eq_left (by omega)]
      have := wrap_u .u64 rfl (b8.toNat % 128 * 2 ^ (7 * i)) (by rw [bits64]; omega)
      rw [← this]
      norm_cast
    have e6 : IntKind.u64.wrap ((dec (xs.take i) : Int) + ((b8.toNat % 128 * 2 ^ (7 * i) : Nat) : Int)) = ((dec (xs.take i) + b8.toNat % 128 * 2 ^ (7 * i) : Nat) : Int) := by
      rw [← Int.natCast_add]
      exact wrap_u .u64 rfl _ (by rw [bits64]; omega)
    have hdec : dec (xs.take (i + 1)) = dec (xs.take i) + b8.toNat % 128 * 2 ^ (7 * i) := by
      rw [List.take_succ_eq_append_getElem hl, dec_snoc, hti, hb8]
    have hskip := vgo_skip xs i h9 hil hh.all
    rw [List.drop_eq_getElem_cons hl, hb8] at hskip
    by_cases hb128 : b8.toNat < 128
    case neg =>
      (repeat (first | (simp (disch := first | omega | assumption | exact Option.isSome_some | (simp only [adO_isSome]; assumption)) only [↓vcp, vcs, vct, if_true, if_false, Nat.reduceBEq, ↓reduceIte, Nat.reduceEqDiff, Nat.reduceAdd, Nat.reduceMul, Nat.reduceSub, Int.reduceToNat, reduceCtorEq, Nat.reduceLT, Nat.reduceLeDiff, Int.reduceSub, Int.reduceAdd, Int.reduceNeg, Sat.look hs, Sat.lookA hs, hs.old hb, tmod_lit, e1, e2, e3, e4, e5, e6]) | (refine khK he hs ?_; clear he; intro he) | ((first | refine stK hs ?_ | refine stFK hs ?_ | refine stAK hs ?_ | refine msK hs ?_); clear hs; (try clear w); rintro w hs; try simp only [cls] at hs) | ((first | refine al_ok hs ?_ | refine bx_ok hs ?_ | refine bsvK hs ?_ | refine bs1_ok hs ?_ | refine bs0_ok hs ?_); clear hs; (try clear w); rintro _ w hs; try simp only [cls] at hs)))
      exact ⟨i + 1, by (show _ = [_, Value.int .u64 _]; rw [hdec]; rfl), by rfl, ⟨⟨by omega, by omega, fun k hk hki => by
        rcases Nat.lt_or_ge k i with h1 | h1
        · exact hh.all k hk h1
        · obtain rfl : k = i := by omega
          rw [hb8]; omega⟩, rfl⟩, by dsimp only; omega⟩
    case pos =>
      by_cases h0 : 0 < i
      · by_cases hz : b8.toNat = 0
        · (repeat (first | (simp (disch := first | omega | assumption | exact Option.isSome_some | (simp only [adO_isSome]; assumption)) only [↓vcp, vcs, vct, if_true, if_false, Nat.reduceBEq, ↓reduceIte, Nat.reduceEqDiff, Nat.reduceAdd, Nat.reduceMul, Nat.reduceSub, Int.reduceToNat, reduceCtorEq, Nat.reduceLT, Nat.reduceLeDiff, Int.reduceSub, Int.reduceAdd, Int.reduceNeg, Sat.look hs, Sat.lookA hs, hs.old hb, tmod_lit, e1, e2, e3, e4, e5, e6]) | (refine khK he hs ?_; clear he; intro he) | ((first | refine stK hs ?_ | refine stFK hs ?_ | refine stAK hs ?_ | refine msK hs ?_); clear hs; (try clear w); rintro w hs; try simp only [cls] at hs) | ((first | refine al_ok hs ?_ | refine bx_ok hs ?_ | refine bsvK hs ?_ | refine bs1_ok hs ?_ | refine bs0_ok hs ?_); clear hs; (try clear w); rintro _ w hs; try simp only [cls] at hs)))
          rw [vgo_form (by omega) hz h0] at hskip
          rw [hskip] at hR
          exact ret_tmp3 rfl (hR _ _ ⟨rfl, rfl⟩)
        · (repeat (first | (simp (disch := first | omega | assumption | exact Option.isSome_some | (simp only [adO_isSome]; assumption)) only [↓vcp, vcs, vct, if_true, if_false, Nat.reduceBEq, ↓reduceIte, Nat.reduceEqDiff, Nat.reduceAdd, Nat.reduceMul, Nat.reduceSub, Int.reduceToNat, reduceCtorEq, Nat.reduceLT, Nat.reduceLeDiff, Int.reduceSub, Int.reduceAdd, Int.reduceNeg, Sat.look hs, Sat.lookA hs, hs.old hb, tmod_lit, e1, e2, e3, e4, e5, e6]) | (refine khK he hs ?_; clear he; intro he) | ((first | refine stK hs ?_ | refine stFK hs ?_ | refine stAK hs ?_ | refine msK hs ?_); clear hs; (try clear w); rintro w hs; try simp only [cls] at hs) | ((first | refine al_ok hs ?_ | refine bx_ok hs ?_ | refine bsvK hs ?_ | refine bs1_ok hs ?_ | refine bs0_ok hs ?_); clear hs; (try clear w); rintro _ w hs; try simp only [cls] at hs)))
          rw [vgo_end (by omega) hb128 (by omega)] at hskip
          rw [hskip] at hR
          refine ret_tmp3 rfl (hR _ _ ⟨?_, rfl⟩)
          rw [Nat.mod_eq_of_lt hb128, Nat.zero_add]
          rfl
      · (repeat (first | (simp (disch := first | omega | assumption | exact Option.isSome_some | (simp only [adO_isSome]; assumption)) only [↓vcp, vcs, vct, if_true, if_false, Nat.reduceBEq, ↓reduceIte, Nat.reduceEqDiff, Nat.reduceAdd, Nat.reduceMul, Nat.reduceSub, Int.reduceToNat, reduceCtorEq, Nat.reduceLT, Nat.reduceLeDiff, Int.reduceSub, Int.reduceAdd, Int.reduceNeg, Sat.look hs, Sat.lookA hs, hs.old hb, tmod_lit, e1, e2, e3, e4, e5, e6]) | (refine khK he hs ?_; clear he; intro he) | ((first | refine stK hs ?_ | refine stFK hs ?_ | refine stAK hs ?_ | refine msK hs ?_); clear hs; (try clear w); rintro w hs; try simp only [cls] at hs) | ((first | refine al_ok hs ?_ | refine bx_ok hs ?_ | refine bsvK hs ?_ | refine bs1_ok hs ?_ | refine bs0_ok hs ?_); clear hs; (try clear w); rintro _ w hs; try simp only [cls] at hs)))
        rw [vgo_end (by omega) hb128 (by omega)] at hskip
        rw [hskip] at hR
        refine ret_tmp3 rfl (hR _ _ ⟨?_, rfl⟩)
        rw [Nat.mod_eq_of_lt hb128, Nat.zero_add]
        rfl
theorem RefLay_calls (w0 : World) (hash : Nat) (a : Option Addr) (c : Nat) (ds : List UInt8) (ha : Ro (.at w0) a (ds.map u8v)) (hdl : ds.length ≤ 140737488355328) :
    Calls Tryd.prog 59 #[.int .u64 hash, .slice a ds.length c] w0 fun e w' => ∃ a' c', e = .returned (.tuple #[.slice a' (dlay hash ds).length c', .int .i64 (fitsE hash ds.length)]) ∧ (dlay hash ds).length ≤ c' ∧ Sat (.at w0) [.sl a' c' ((dlay hash ds).map u8v) 5 1] w' := by
  refine calls_vc Tryd.func59 rfl (by kernel_rfl) (by kernel_rfl) ?_; intro R hR
  have hs := Sat.start w0
  by_cases hf : fitsE hash ds.length = 0
  case neg =>
    have hd : dlay hash ds = [] := by unfold dlay; rw [if_neg hf]
    rw [hd] at hR
    replace hs := Sat.nil hs 5 1; try simp only [cls] at hs
    unfold fitsE at hf hR
    by_cases h18 : hash = 18
    · rw [if_pos h18] at hf hR
      have hl : ds.length ≠ 32 := fun h => hf (if_pos h)
      rw [if_neg hl] at hR
      (repeat (first | (simp (disch := first | omega | assumption | exact Option.isSome_some | (simp only [adO_isSome]; assumption)) only [↓vcp, vcs, vct, if_true, if_false, Nat.reduceBEq, ↓reduceIte, Nat.reduceEqDiff, Nat.reduceAdd, Nat.reduceMul, Nat.reduceSub, Int.reduceToNat, reduceCtorEq, Nat.reduceLT, Nat.reduceLeDiff, Int.reduceSub, Int.reduceAdd, Int.reduceNeg, Sat.look hs, Sat.lookA hs]) | (refine khK he hs ?_; clear he; intro he) | ((first | refine stK hs ?_ | refine stFK hs ?_ | refine stAK hs ?_ | refine msK hs ?_); clear hs; (try clear w); rintro w hs; try simp only [cls] at hs) | ((first | refine al_ok hs ?_ | refine bx_ok hs ?_ | refine bsvK hs ?_ | refine bs1_ok hs ?_ | refine bs0_ok hs ?_); clear hs; (try clear w); rintro _ w hs; try simp only [cls] at hs)))
      exact ret_tmp2 rfl (hR _ _ ⟨none, 0, rfl, by simp, hs⟩)
    · rw [if_neg h18] at hf hR
      by_cases h0 : hash = 0
      · rw [if_pos h0] at hf hR
        have hl : ¬ ds.length ≤ 64 := fun h => hf (if_pos h)
        rw [if_neg hl] at hR
        (repeat (first | (simp (disch := first | omega | assumption | exact Option.isSome_some | (simp only [adO_isSome]; assumption)) only [↓vcp, vcs, vct, if_true, if_false, Nat.reduceBEq, ↓reduceIte, Nat.reduceEqDiff, Nat.reduceAdd, Nat.reduceMul, Nat.reduceSub, Int.reduceToNat, reduceCtorEq, Nat.reduceLT, Nat.reduceLeDiff, Int.reduceSub, Int.reduceAdd, Int.reduceNeg, Sat.look hs, Sat.lookA hs]) | (refine khK he hs ?_; clear he; intro he) | ((first | refine stK hs ?_ | refine stFK hs ?_ | refine stAK hs ?_ | refine msK hs ?_); clear hs; (try clear w); rintro w hs; try simp only [cls] at hs) | ((first | refine al_ok hs ?_ | refine bx_ok hs ?_ | refine bsvK hs ?_ | refine bs1_ok hs ?_ | refine bs0_ok hs ?_); clear hs; (try clear w); rintro _ w hs; try simp only [cls] at hs)))
        exact ret_tmp2 rfl (hR _ _ ⟨none, 0, rfl, by simp, hs⟩)
      · rw [if_neg h0] at hR
        (repeat (first | (simp (disch := first | omega | assumption | exact Option.isSome_some | (simp only [adO_isSome]; assumption)) only [↓vcp, vcs, vct, if_true, if_false, Nat.reduceBEq, ↓reduceIte, Nat.reduceEqDiff, Nat.reduceAdd, Nat.reduceMul, Nat.reduceSub, Int.reduceToNat, reduceCtorEq, Nat.reduceLT, Nat.reduceLeDiff, Int.reduceSub, Int.reduceAdd, Int.reduceNeg, Sat.look hs, Sat.lookA hs]) | (refine khK he hs ?_; clear he; intro he) | ((first | refine stK hs ?_ | refine stFK hs ?_ | refine stAK hs ?_ | refine msK hs ?_); clear hs; (try clear w); rintro w hs; try simp only [cls] at hs) | ((first | refine al_ok hs ?_ | refine bx_ok hs ?_ | refine bsvK hs ?_ | refine bs1_ok hs ?_ | refine bs0_ok hs ?_); clear hs; (try clear w); rintro _ w hs; try simp only [cls] at hs)))
        exact ret_tmp2 rfl (hR _ _ ⟨none, 0, rfl, by simp, hs⟩)
  case pos =>
    obtain ⟨h18, h64⟩ := fits_small hf
    have hd : dlay hash ds = UInt8.ofNat hash :: UInt8.ofNat ds.length :: ds := by unfold dlay; rw [if_pos hf]
    rw [hf, hd] at hR
    have e1 : IntKind.u8.wrap (hash : Int) = ((UInt8.ofNat hash).toNat : Int) := wr8 _
    have e2 : IntKind.u8.wrap (ds.length : Int) = ((UInt8.ofNat ds.length).toNat : Int) := wr8 _
    have hln : 2 + ds.length = (UInt8.ofNat hash :: UInt8.ofNat ds.length :: ds).length := by simp only [List.length_cons]; omega
    rcases (by unfold fitsE at hf; by_cases h : hash = 18 <;> by_cases h' : hash = 0 <;> by_cases h2 : ds.length = 32 <;> simp_all : hash = 18 ∧ ds.length = 32 ∨ hash = 0) with ⟨h1, h2⟩ | h1
    · (repeat (first | (simp (disch := first | omega | assumption | exact Option.isSome_some | (simp only [adO_isSome]; assumption)) only [↓vcp, vcs, vct, if_true, if_false, Nat.reduceBEq, ↓reduceIte, Nat.reduceEqDiff, Nat.reduceAdd, Nat.reduceMul, Nat.reduceSub, Int.reduceToNat, reduceCtorEq, Nat.reduceLT, Nat.reduceLeDiff, Int.reduceSub, Int.reduceAdd, Int.reduceNeg, Sat.look hs, Sat.lookA hs, e1, e2]) | (refine khK he hs ?_; clear he; intro he) | ((first | refine stK hs ?_ | refine stFK hs ?_ | refine stAK hs ?_ | refine msK hs ?_); clear hs; (try clear w); rintro w hs; try simp only [cls] at hs) | ((first | refine al_ok hs ?_ | refine bx_ok hs ?_ | refine bsvK hs ?_ | refine bs1_ok hs ?_ | refine bs0_ok hs ?_); clear hs; (try clear w); rintro _ w hs; try simp only [cls] at hs)))
      refine apK (ds.length) hs (ha.rd hs) ?_; clear hs; (try clear w); rintro a1 c1 w hc1 hs; try simp only [cls] at hs
      (repeat (first | (simp (disch := first | omega | assumption | exact Option.isSome_some | (simp only [adO_isSome]; assumption)) only [↓vcp, vcs, vct, if_true, if_false, Nat.reduceBEq, ↓reduceIte, Nat.reduceEqDiff, Nat.reduceAdd, Nat.reduceMul, Nat.reduceSub, Int.reduceToNat, reduceCtorEq, Nat.reduceLT, Nat.reduceLeDiff, Int.reduceSub, Int.reduceAdd, Int.reduceNeg, Sat.look hs, Sat.lookA hs]) | (refine khK he hs ?_; clear he; intro he) | ((first | refine stK hs ?_ | refine stFK hs ?_ | refine stAK hs ?_ | refine msK hs ?_); clear hs; (try clear w); rintro w hs; try simp only [cls] at hs) | ((first | refine al_ok hs ?_ | refine bx_ok hs ?_ | refine bsvK hs ?_ | refine bs1_ok hs ?_ | refine bs0_ok hs ?_); clear hs; (try clear w); rintro _ w hs; try simp only [cls] at hs)))
      refine ret_tmp2 rfl (hR _ _ ⟨a1, c1, ?_, by simp only [List.length_cons]; omega, hs⟩)
      rw [← hln]
      rfl
    · (repeat (first | (simp (disch := first | omega | assumption | exact Option.isSome_some | (simp only [adO_isSome]; assumption)) only [↓vcp, vcs, vct, if_true, if_false, Nat.reduceBEq, ↓reduceIte, Nat.reduceEqDiff, Nat.reduceAdd, Nat.reduceMul, Nat.reduceSub, Int.reduceToNat, reduceCtorEq, Nat.reduceLT, Nat.reduceLeDiff, Int.reduceSub, Int.reduceAdd, Int.reduceNeg, Sat.look hs, Sat.lookA hs, e1, e2]) | (refine khK he hs ?_; clear he; intro he) | ((first | refine stK hs ?_ | refine stFK hs ?_ | refine stAK hs ?_ | refine msK hs ?_); clear hs; (try clear w); rintro w hs; try simp only [cls] at hs) | ((first | refine al_ok hs ?_ | refine bx_ok hs ?_ | refine bsvK hs ?_ | refine bs1_ok hs ?_ | refine bs0_ok hs ?_); clear hs; (try clear w); rintro _ w hs; try simp only [cls] at hs)))
      refine apK (ds.length) hs (ha.rd hs) ?_; clear hs; (try clear w); rintro a1 c1 w hc1 hs; try simp only [cls] at hs
      (repeat (first | (simp (disch := first | omega | assumption | exact Option.isSome_some | (simp only [adO_isSome]; assumption)) only [↓vcp, vcs, vct, if_true, if_false, Nat.reduceBEq, ↓reduceIte, Nat.reduceEqDiff, Nat.reduceAdd, Nat.reduceMul, Nat.reduceSub, Int.reduceToNat, reduceCtorEq, Nat.reduceLT, Nat.reduceLeDiff, Int.reduceSub, Int.reduceAdd, Int.reduceNeg, Sat.look hs, Sat.lookA hs]) | (refine khK he hs ?_; clear he; intro he) | ((first | refine stK hs ?_ | refine stFK hs ?_ | refine stAK hs ?_ | refine msK hs ?_); clear hs; (try clear w); rintro w hs; try simp only [cls] at hs) | ((first | refine al_ok hs ?_ | refine bx_ok hs ?_ | refine bsvK hs ?_ | refine bs1_ok hs ?_ | refine bs0_ok hs ?_); clear hs; (try clear w); rintro _ w hs; try simp only [cls] at hs)))
      refine ret_tmp2 rfl (hR _ _ ⟨a1, c1, ?_, by simp only [List.length_cons]; omega, hs⟩)
      rw [← hln]
      rfl
theorem RefRead_calls (w0 : World) (a : Option Addr) (c : Nat) (xs : List UInt8) (hx : Ro (.at w0) a (xs.map u8v)) (hc : xs.length ≤ c) (hn : xs.length ≤ 140737488355328) :
    Calls Tryd.prog 86 #[.slice a xs.length c] w0 fun e w' => ∃ a' c', e = .returned (.tuple #[.int .u64 (dread xs).1, .slice a' (dread xs).2.1.length c', .int .i64 (dread xs).2.2.1, .int .i64 (dread xs).2.2.2]) ∧ (dread xs).2.1.length ≤ c' ∧ Sat (.at w0) [.sl a' c' ((dread xs).2.1.map u8v) 5 1] w' := by
  refine calls_vc Tryd.func86 rfl (by kernel_rfl) (by kernel_rfl) ?_; intro R hR
  have hs := Sat.start w0
  have hr : RdB w0 w0.heap.size a xs := hx.rd hs
  have hn1 := RefNumber_calls w0 a c xs hx hn
  rcases dnum_out xs 0 (by omega) with ⟨e, he, _, h1⟩ | ⟨n, m, h1, hnn, hm, hml, hv⟩
  · have hd : dread xs = (0, [], 0, e) := by unfold dread; rw [h1]; simp [he]
    rw [h1] at hn1
    rw [hd] at hR
    replace hs := Sat.nil hs 5 1; try simp only [cls] at hs
    (repeat (first | (simp (disch := first | omega | assumption | exact Option.isSome_some | (simp only [adO_isSome]; assumption)) only [↓vcp, vcs, vct, if_true, if_false, Nat.reduceBEq, ↓reduceIte, Nat.reduceEqDiff, Nat.reduceAdd, Nat.reduceMul, Nat.reduceSub, Int.reduceToNat, reduceCtorEq, Nat.reduceLT, Nat.reduceLeDiff, Int.reduceSub, Int.reduceAdd, Int.reduceNeg, Sat.look hs, Sat.lookA hs]) | (refine khK he hs ?_; clear he; intro he) | ((first | refine stK hs ?_ | refine stFK hs ?_ | refine stAK hs ?_ | refine msK hs ?_); clear hs; (try clear w); rintro w hs; try simp only [cls] at hs) | ((first | refine al_ok hs ?_ | refine bx_ok hs ?_ | refine bsvK hs ?_ | refine bs1_ok hs ?_ | refine bs0_ok hs ?_); clear hs; (try clear w); rintro _ w hs; try simp only [cls] at hs)))
    refine call_ok (by kernel_rfl) (hn1) ?_; rintro _ _ ⟨rfl, rfl⟩; rw [callK_ret]
    (repeat (first | (simp (disch := first | omega | assumption | exact Option.isSome_some | (simp only [adO_isSome]; assumption)) only [↓vcp, vcs, vct, if_true, if_false, Nat.reduceBEq, ↓reduceIte, Nat.reduceEqDiff, Nat.reduceAdd, Nat.reduceMul, Nat.reduceSub, Int.reduceToNat, reduceCtorEq, Nat.reduceLT, Nat.reduceLeDiff, Int.reduceSub, Int.reduceAdd, Int.reduceNeg, Sat.look hs, Sat.lookA hs]) | (refine khK he hs ?_; clear he; intro he) | ((first | refine stK hs ?_ | refine stFK hs ?_ | refine stAK hs ?_ | refine msK hs ?_); clear hs; (try clear w); rintro w hs; try simp only [cls] at hs) | ((first | refine al_ok hs ?_ | refine bx_ok hs ?_ | refine bsvK hs ?_ | refine bs1_ok hs ?_ | refine bs0_ok hs ?_); clear hs; (try clear w); rintro _ w hs; try simp only [cls] at hs)))
    exact ret_tmp4 rfl (hR _ _ ⟨none, 0, rfl, by simp, hs⟩)
  rw [Nat.zero_add] at h1 hml
  rw [h1] at hn1
  have hcut : Ro (.at w0) (cutA a m c 1) ((xs.drop m).map u8v) := by
    have h := hx.cut1 m c (by rw [List.length_map]; omega)
    rwa [← List.map_drop] at h
  have hn2 := RefNumber_calls w0 (cutA a m c 1) (c - m) (xs.drop m) hcut (by rw [List.length_drop]; omega)
  rw [List.length_drop] at hn2
  have hdd : dnum xs m = (if (dnum (xs.drop m) 0).2.2 = 0 then ((dnum (xs.drop m) 0).1, m + (dnum (xs.drop m) 0).2.1, 0) else dnum (xs.drop m) 0) := by
    unfold dnum
    rw [List.drop_zero]
    by_cases h : (vread (xs.drop m)).2.2 = 0
    · simp [h]
    · rw [if_neg h, if_neg h]
      have : errOf (vread (xs.drop m)).2.2 ≠ 0 := by unfold errOf; rw [if_neg h]; split <;> simp
      simp [this]
  rcases dnum_out (xs.drop m) 0 (by omega) with ⟨e, he, _, h2⟩ | ⟨n2, m2, h2, hn2', hm2, hml2, hv2⟩
  · rw [h2] at hdd
    have hd : dread xs = (0, [], 0, e) := by unfold dread; rw [h1]; dsimp only; rw [hdd]; simp [he]
    rw [h2] at hn2
    rw [hd] at hR
    replace hs := Sat.nil hs 5 1; try simp only [cls] at hs
    (repeat (first | (simp (disch := first | omega | assumption | exact Option.isSome_some | (simp only [adO_isSome]; assumption)) only [↓vcp, vcs, vct, if_true, if_false, Nat.reduceBEq, ↓reduceIte, Nat.reduceEqDiff, Nat.reduceAdd, Nat.reduceMul, Nat.reduceSub, Int.reduceToNat, reduceCtorEq, Nat.reduceLT, Nat.reduceLeDiff, Int.reduceSub, Int.reduceAdd, Int.reduceNeg, Sat.look hs, Sat.lookA hs]) | (refine khK he hs ?_; clear he; intro he) | ((first | refine stK hs ?_ | refine stFK hs ?_ | refine stAK hs ?_ | refine msK hs ?_); clear hs; (try clear w); rintro w hs; try simp only [cls] at hs) | ((first | refine al_ok hs ?_ | refine bx_ok hs ?_ | refine bsvK hs ?_ | refine bs1_ok hs ?_ | refine bs0_ok hs ?_); clear hs; (try clear w); rintro _ w hs; try simp only [cls] at hs)))
    refine call_ok (by kernel_rfl) (hn1) ?_; rintro _ _ ⟨rfl, rfl⟩; rw [callK_ret]
    (repeat (first | (simp (disch := first | omega | assumption | exact Option.isSome_some | (simp only [adO_isSome]; assumption)) only [↓vcp, vcs, vct, if_true, if_false, Nat.reduceBEq, ↓reduceIte, Nat.reduceEqDiff, Nat.reduceAdd, Nat.reduceMul, Nat.reduceSub, Int.reduceToNat, reduceCtorEq, Nat.reduceLT, Nat.reduceLeDiff, Int.reduceSub, Int.reduceAdd, Int.reduceNeg, Sat.look hs, Sat.lookA hs]) | (refine khK he hs ?_; clear he; intro he) | ((first | refine stK hs ?_ | refine stFK hs ?_ | refine stAK hs ?_ | refine msK hs ?_); clear hs; (try clear w); rintro w hs; try simp only [cls] at hs) | ((first | refine al_ok hs ?_ | refine bx_ok hs ?_ | refine bsvK hs ?_ | refine bs1_ok hs ?_ | refine bs0_ok hs ?_); clear hs; (try clear w); rintro _ w hs; try simp only [cls] at hs)))
    refine call_ok (by kernel_rfl) (hn2) ?_; rintro _ _ ⟨rfl, rfl⟩; rw [callK_ret]
    (repeat (first | (simp (disch := first | omega | assumption | exact Option.isSome_some | (simp only [adO_isSome]; assumption)) only [↓vcp, vcs, vct, if_true, if_false, Nat.reduceBEq, ↓reduceIte, Nat.reduceEqDiff, Nat.reduceAdd, Nat.reduceMul, Nat.reduceSub, Int.reduceToNat, reduceCtorEq, Nat.reduceLT, Nat.reduceLeDiff, Int.reduceSub, Int.reduceAdd, Int.reduceNeg, Sat.look hs, Sat.lookA hs]) | (refine khK he hs ?_; clear he; intro he) | ((first | refine stK hs ?_ | refine stFK hs ?_ | refine stAK hs ?_ | refine msK hs ?_); clear hs; (try clear w); rintro w hs; try simp only [cls] at hs) | ((first | refine al_ok hs ?_ | refine bx_ok hs ?_ | refine bsvK hs ?_ | refine bs1_ok hs ?_ | refine bs0_ok hs ?_); clear hs; (try clear w); rintro _ w hs; try simp only [cls] at hs)))
    exact ret_tmp4 rfl (hR _ _ ⟨none, 0, rfl, by simp, hs⟩)
  rw [Nat.zero_add] at h2
  rw [h2] at hdd hn2
  rw [List.length_drop, Nat.zero_add] at hml2
  dsimp only at hdd
  rw [if_pos rfl] at hdd
  have hd : dread xs = if fitsE n n2 ≠ 0 then (0, [], 0, fitsE n n2) else if xs.length - (m + m2) < n2 then (0, [], 0, 32) else (n, (xs.drop (m + m2)).take n2, m + m2 + n2, 0) := by
    unfold dread; rw [h1]; dsimp only; rw [hdd]; dsimp only; rw [if_neg (by simp), if_neg (by simp)]
  have hw : IntKind.u64.wrap ((xs.length : Int) - ((m + m2 : Nat) : Int)) = ((xs.length - (m + m2) : Nat) : Int) := by
    rw [show (xs.length : Int) - ((m + m2 : Nat) : Int) = ((xs.length - (m + m2) : Nat) : Int) by omega]
    exact wrap_u .u64 rfl _ (by rw [bits64]; omega)
  have hmm : ((m : Int) + (m2 : Int)) = ((m + m2 : Nat) : Int) := by omega
  (repeat (first | (simp (disch := first | omega | assumption | exact Option.isSome_some | (simp only [adO_isSome]; assumption)) only [↓vcp, vcs, vct, if_true, if_false, Nat.reduceBEq, ↓reduceIte, Nat.reduceEqDiff, Nat.reduceAdd, Nat.reduceMul, Nat.reduceSub, Int.reduceToNat, reduceCtorEq, Nat.reduceLT, Nat.reduceLeDiff, Int.reduceSub, Int.reduceAdd, Int.reduceNeg, Sat.look hs, Sat.lookA hs]) | (refine khK he hs ?_; clear he; intro he) | ((first | refine stK hs ?_ | refine stFK hs ?_ | refine stAK hs ?_ | refine msK hs ?_); clear hs; (try clear w); rintro w hs; try simp only [cls] at hs) | ((first | refine al_ok hs ?_ | refine bx_ok hs ?_ | refine bsvK hs ?_ | refine bs1_ok hs ?_ | refine bs0_ok hs ?_); clear hs; (try clear w); rintro _ w hs; try simp only [cls] at hs)))
  refine call_ok (by kernel_rfl) (hn1) ?_; rintro _ _ ⟨rfl, rfl⟩; rw [callK_ret]
  (repeat (first | (simp (disch := first | omega | assumption | exact Option.isSome_some | (simp only [adO_isSome]; assumption)) only [↓vcp, vcs, vct, if_true, if_false, Nat.reduceBEq, ↓reduceIte, Nat.reduceEqDiff, Nat.reduceAdd, Nat.reduceMul, Nat.reduceSub, Int.reduceToNat, reduceCtorEq, Nat.reduceLT, Nat.reduceLeDiff, Int.reduceSub, Int.reduceAdd, Int.reduceNeg, Sat.look hs, Sat.lookA hs]) | (refine khK he hs ?_; clear he; intro he) | ((first | refine stK hs ?_ | refine stFK hs ?_ | refine stAK hs ?_ | refine msK hs ?_); clear hs; (try clear w); rintro w hs; try simp only [cls] at hs) | ((first | refine al_ok hs ?_ | refine bx_ok hs ?_ | refine bsvK hs ?_ | refine bs1_ok hs ?_ | refine bs0_ok hs ?_); clear hs; (try clear w); rintro _ w hs; try simp only [cls] at hs)))
  refine call_ok (by kernel_rfl) (hn2) ?_; rintro _ _ ⟨rfl, rfl⟩; rw [callK_ret]
  (repeat (first | (simp (disch := first | omega | assumption | exact Option.isSome_some | (simp only [adO_isSome]; assumption)) only [↓vcp, vcs, vct, if_true, if_false, Nat.reduceBEq, ↓reduceIte, Nat.reduceEqDiff, Nat.reduceAdd, Nat.reduceMul, Nat.reduceSub, Int.reduceToNat, reduceCtorEq, Nat.reduceLT, Nat.reduceLeDiff, Int.reduceSub, Int.reduceAdd, Int.reduceNeg, Sat.look hs, Sat.lookA hs, hmm]) | (refine khK he hs ?_; clear he; intro he) | ((first | refine stK hs ?_ | refine stFK hs ?_ | refine stAK hs ?_ | refine msK hs ?_); clear hs; (try clear w); rintro w hs; try simp only [cls] at hs) | ((first | refine al_ok hs ?_ | refine bx_ok hs ?_ | refine bsvK hs ?_ | refine bs1_ok hs ?_ | refine bs0_ok hs ?_); clear hs; (try clear w); rintro _ w hs; try simp only [cls] at hs)))
  unfold fitsE at hd
  by_cases h18 : n = 18
  · subst h18
    rw [if_pos rfl] at hd
    by_cases h32 : n2 = 32
    · subst h32
      rw [if_pos rfl, if_neg (by simp)] at hd
      by_cases hsh : xs.length - (m + m2) < 32
      · rw [if_pos hsh] at hd
        rw [hd] at hR
        replace hs := Sat.nil hs 5 1; try simp only [cls] at hs
        (repeat (first | (simp (disch := first | omega | assumption | exact Option.isSome_some | (simp only [adO_isSome]; assumption)) only [↓vcp, vcs, vct, if_true, if_false, Nat.reduceBEq, ↓reduceIte, Nat.reduceEqDiff, Nat.reduceAdd, Nat.reduceMul, Nat.reduceSub, Int.reduceToNat, reduceCtorEq, Nat.reduceLT, Nat.reduceLeDiff, Int.reduceSub, Int.reduceAdd, Int.reduceNeg, Sat.look hs, Sat.lookA hs, hmm, hw]) | (refine khK he hs ?_; clear he; intro he) | ((first | refine stK hs ?_ | refine stFK hs ?_ | refine stAK hs ?_ | refine msK hs ?_); clear hs; (try clear w); rintro w hs; try simp only [cls] at hs) | ((first | refine al_ok hs ?_ | refine bx_ok hs ?_ | refine bsvK hs ?_ | refine bs1_ok hs ?_ | refine bs0_ok hs ?_); clear hs; (try clear w); rintro _ w hs; try simp only [cls] at hs)))
        exact ret_tmp4 rfl (hR _ _ ⟨none, 0, rfl, by simp, hs⟩)
      · rw [if_neg hsh] at hd
        rw [hd] at hR
        have hsum : (((m + m2 : Nat) : Int) + ((32 : Nat) : Int)) = ((m + m2 + 32 : Nat) : Int) := by omega
        have hsub : m + m2 + 32 - (m + m2) = 32 := by omega
        have hdl : ((xs.drop (m + m2)).take 32).length = 32 := by rw [List.length_take, List.length_drop]; omega
        have hcr : Rd w0 w0.heap.size (cutA a (m + m2) c 1) (((xs.drop (m + m2)).take 32).map u8v) := by
          have h := Rd.cut (sz := 1) hr (m + m2) (m + m2 + 32) c (by omega)
          simp only [Nat.mul_one] at h
          rw [← List.map_take, ← List.map_drop] at h
          rw [show (xs.drop (m + m2)).take 32 = (xs.take (m + m2 + 32)).drop (m + m2) by rw [List.drop_take, hsub]]
          exact h
        replace hs := Sat.nil hs 5 1; try simp only [cls] at hs
        (repeat (first | (simp (disch := first | omega | assumption | exact Option.isSome_some | (simp only [adO_isSome]; assumption)) only [↓vcp, vcs, vct, if_true, if_false, Nat.reduceBEq, ↓reduceIte, Nat.reduceEqDiff, Nat.reduceAdd, Nat.reduceMul, Nat.reduceSub, Int.reduceToNat, reduceCtorEq, Nat.reduceLT, Nat.reduceLeDiff, Int.reduceSub, Int.reduceAdd, Int.reduceNeg, Sat.look hs, Sat.lookA hs, hmm, hw, hsum, hsub]) | (refine khK he hs ?_; clear he; intro he) | ((first | refine stK hs ?_ | refine stFK hs ?_ | refine stAK hs ?_ | refine msK hs ?_); clear hs; (try clear w); rintro w hs; try simp only [cls] at hs) | ((first | refine al_ok hs ?_ | refine bx_ok hs ?_ | refine bsvK hs ?_ | refine bs1_ok hs ?_ | refine bs0_ok hs ?_); clear hs; (try clear w); rintro _ w hs; try simp only [cls] at hs)))
        refine apK 32 hs (hcr) ?_; clear hs; (try clear w); rintro a1 c1 w hc1 hs; try simp only [cls] at hs
        (repeat (first | (simp (disch := first | omega | assumption | exact Option.isSome_some | (simp only [adO_isSome]; assumption)) only [↓vcp, vcs, vct, if_true, if_false, Nat.reduceBEq, ↓reduceIte, Nat.reduceEqDiff, Nat.reduceAdd, Nat.reduceMul, Nat.reduceSub, Int.reduceToNat, reduceCtorEq, Nat.reduceLT, Nat.reduceLeDiff, Int.reduceSub, Int.reduceAdd, Int.reduceNeg, Sat.look hs, Sat.lookA hs, hmm, hw, hsum, hsub]) | (refine khK he hs ?_; clear he; intro he) | ((first | refine stK hs ?_ | refine stFK hs ?_ | refine stAK hs ?_ | refine msK hs ?_); clear hs; (try clear w); rintro w hs; try simp only [cls] at hs) | ((first | refine al_ok hs ?_ | refine bx_ok hs ?_ | refine bsvK hs ?_ | refine bs1_ok hs ?_ | refine bs0_ok hs ?_); clear hs; (try clear w); rintro _ w hs; try simp only [cls] at hs)))
        exact ret_tmp4 rfl (hR _ _ ⟨a1, c1, by dsimp only; rw [hdl, ← Nat.zero_add 32]; rfl, by dsimp only; omega, hs⟩)
    · rw [if_neg h32, if_pos (by simp)] at hd
      rw [hd] at hR
      replace hs := Sat.nil hs 5 1; try simp only [cls] at hs
      (repeat (first | (simp (disch := first | omega | assumption | exact Option.isSome_some | (simp only [adO_isSome]; assumption)) only [↓vcp, vcs, vct, if_true, if_false, Nat.reduceBEq, ↓reduceIte, Nat.reduceEqDiff, Nat.reduceAdd, Nat.reduceMul, Nat.reduceSub, Int.reduceToNat, reduceCtorEq, Nat.reduceLT, Nat.reduceLeDiff, Int.reduceSub, Int.reduceAdd, Int.reduceNeg, Sat.look hs, Sat.lookA hs, hmm]) | (refine khK he hs ?_; clear he; intro he) | ((first | refine stK hs ?_ | refine stFK hs ?_ | refine stAK hs ?_ | refine msK hs ?_); clear hs; (try clear w); rintro w hs; try simp only [cls] at hs) | ((first | refine al_ok hs ?_ | refine bx_ok hs ?_ | refine bsvK hs ?_ | refine bs1_ok hs ?_ | refine bs0_ok hs ?_); clear hs; (try clear w); rintro _ w hs; try simp only [cls] at hs)))
      exact ret_tmp4 rfl (hR _ _ ⟨none, 0, rfl, by simp, hs⟩)
  · rw [if_neg h18] at hd
    by_cases h0 : n = 0
    · subst h0
      rw [if_pos rfl] at hd
      by_cases h64 : n2 ≤ 64
      · rw [if_pos h64, if_neg (by simp)] at hd
        by_cases hsh : xs.length - (m + m2) < n2
        · rw [if_pos hsh] at hd
          rw [hd] at hR
          replace hs := Sat.nil hs 5 1; try simp only [cls] at hs
          (repeat (first | (simp (disch := first | omega | assumption | exact Option.isSome_some | (simp only [adO_isSome]; assumption)) only [↓vcp, vcs, vct, if_true, if_false, Nat.reduceBEq, ↓reduceIte, Nat.reduceEqDiff, Nat.reduceAdd, Nat.reduceMul, Nat.reduceSub, Int.reduceToNat, reduceCtorEq, Nat.reduceLT, Nat.reduceLeDiff, Int.reduceSub, Int.reduceAdd, Int.reduceNeg, Sat.look hs, Sat.lookA hs, hmm, hw]) | (refine khK he hs ?_; clear he; intro he) | ((first | refine stK hs ?_ | refine stFK hs ?_ | refine stAK hs ?_ | refine msK hs ?_); clear hs; (try clear w); rintro w hs; try simp only [cls] at hs) | ((first | refine al_ok hs ?_ | refine bx_ok hs ?_ | refine bsvK hs ?_ | refine bs1_ok hs ?_ | refine bs0_ok hs ?_); clear hs; (try clear w); rintro _ w hs; try simp only [cls] at hs)))
          exact ret_tmp4 rfl (hR _ _ ⟨none, 0, rfl, by simp, hs⟩)
        · rw [if_neg hsh] at hd
          rw [hd] at hR
          have hsum : (((m + m2 : Nat) : Int) + ((n2 : Nat) : Int)) = ((m + m2 + n2 : Nat) : Int) := by omega
          have hsub : m + m2 + n2 - (m + m2) = n2 := by omega
          have hdl : ((xs.drop (m + m2)).take n2).length = n2 := by rw [List.length_take, List.length_drop]; omega
          have hcr : Rd w0 w0.heap.size (cutA a (m + m2) c 1) (((xs.drop (m + m2)).take n2).map u8v) := by
            have h := Rd.cut (sz := 1) hr (m + m2) (m + m2 + n2) c (by omega)
            simp only [Nat.mul_one] at h
            rw [← List.map_take, ← List.map_drop] at h
            rw [show (xs.drop (m + m2)).take n2 = (xs.take (m + m2 + n2)).drop (m + m2) by rw [List.drop_take, hsub]]
            exact h
          replace hs := Sat.nil hs 5 1; try simp only [cls] at hs
          (repeat (first | (simp (disch := first | omega | assumption | exact Option.isSome_some | (simp only [adO_isSome]; assumption)) only [↓vcp, vcs, vct, if_true, if_false, Nat.reduceBEq, ↓reduceIte, Nat.reduceEqDiff, Nat.reduceAdd, Nat.reduceMul, Nat.reduceSub, Int.reduceToNat, reduceCtorEq, Nat.reduceLT, Nat.reduceLeDiff, Int.reduceSub, Int.reduceAdd, Int.reduceNeg, Sat.look hs, Sat.lookA hs, hmm, hw, hsum, hsub]) | (refine khK he hs ?_; clear he; intro he) | ((first | refine stK hs ?_ | refine stFK hs ?_ | refine stAK hs ?_ | refine msK hs ?_); clear hs; (try clear w); rintro w hs; try simp only [cls] at hs) | ((first | refine al_ok hs ?_ | refine bx_ok hs ?_ | refine bsvK hs ?_ | refine bs1_ok hs ?_ | refine bs0_ok hs ?_); clear hs; (try clear w); rintro _ w hs; try simp only [cls] at hs)))
          refine apK n2 hs (hcr) ?_; clear hs; (try clear w); rintro a1 c1 w hc1 hs; try simp only [cls] at hs
          (repeat (first | (simp (disch := first | omega | assumption | exact Option.isSome_some | (simp only [adO_isSome]; assumption)) only [↓vcp, vcs, vct, if_true, if_false, Nat.reduceBEq, ↓reduceIte, Nat.reduceEqDiff, Nat.reduceAdd, Nat.reduceMul, Nat.reduceSub, Int.reduceToNat, reduceCtorEq, Nat.reduceLT, Nat.reduceLeDiff, Int.reduceSub, Int.reduceAdd, Int.reduceNeg, Sat.look hs, Sat.lookA hs, hmm, hw, hsum, hsub]) | (refine khK he hs ?_; clear he; intro he) | ((first | refine stK hs ?_ | refine stFK hs ?_ | refine stAK hs ?_ | refine msK hs ?_); clear hs; (try clear w); rintro w hs; try simp only [cls] at hs) | ((first | refine al_ok hs ?_ | refine bx_ok hs ?_ | refine bsvK hs ?_ | refine bs1_ok hs ?_ | refine bs0_ok hs ?_); clear hs; (try clear w); rintro _ w hs; try simp only [cls] at hs)))
          exact ret_tmp4 rfl (hR _ _ ⟨a1, c1, by dsimp only; rw [hdl, ← Nat.zero_add n2]; rfl, by dsimp only; omega, hs⟩)
      · rw [if_neg h64, if_pos (by simp)] at hd
        rw [hd] at hR
        replace hs := Sat.nil hs 5 1; try simp only [cls] at hs
        (repeat (first | (simp (disch := first | omega | assumption | exact Option.isSome_some | (simp only [adO_isSome]; assumption)) only [↓vcp, vcs, vct, if_true, if_false, Nat.reduceBEq, ↓reduceIte, Nat.reduceEqDiff, Nat.reduceAdd, Nat.reduceMul, Nat.reduceSub, Int.reduceToNat, reduceCtorEq, Nat.reduceLT, Nat.reduceLeDiff, Int.reduceSub, Int.reduceAdd, Int.reduceNeg, Sat.look hs, Sat.lookA hs, hmm]) | (refine khK he hs ?_; clear he; intro he) | ((first | refine stK hs ?_ | refine stFK hs ?_ | refine stAK hs ?_ | refine msK hs ?_); clear hs; (try clear w); rintro w hs; try simp only [cls] at hs) | ((first | refine al_ok hs ?_ | refine bx_ok hs ?_ | refine bsvK hs ?_ | refine bs1_ok hs ?_ | refine bs0_ok hs ?_); clear hs; (try clear w); rintro _ w hs; try simp only [cls] at hs)))
        exact ret_tmp4 rfl (hR _ _ ⟨none, 0, rfl, by simp, hs⟩)
    · rw [if_neg h0, if_pos (by simp)] at hd
      rw [hd] at hR
      replace hs := Sat.nil hs 5 1; try simp only [cls] at hs
      (repeat (first | (simp (disch := first | omega | assumption | exact Option.isSome_some | (simp only [adO_isSome]; assumption)) only [↓vcp, vcs, vct, if_true, if_false, Nat.reduceBEq, ↓reduceIte, Nat.reduceEqDiff, Nat.reduceAdd, Nat.reduceMul, Nat.reduceSub, Int.reduceToNat, reduceCtorEq, Nat.reduceLT, Nat.reduceLeDiff, Int.reduceSub, Int.reduceAdd, Int.reduceNeg, Sat.look hs, Sat.lookA hs, hmm]) | (refine khK he hs ?_; clear he; intro he) | ((first | refine stK hs ?_ | refine stFK hs ?_ | refine stAK hs ?_ | refine msK hs ?_); clear hs; (try clear w); rintro w hs; try simp only [cls] at hs) | ((first | refine al_ok hs ?_ | refine bx_ok hs ?_ | refine bsvK hs ?_ | refine bs1_ok hs ?_ | refine bs0_ok hs ?_); clear hs; (try clear w); rintro _ w hs; try simp only [cls] at hs)))
      exact ret_tmp4 rfl (hR _ _ ⟨none, 0, rfl, by simp, hs⟩)
end Go.Proofs.YtokoohdpakhphaaDoor.Dig
