/- Several texts in one. -/
import Derived.Test.YtokoohdpakhphaaDoorLnkA
import Derived.Test.YtokoohdpakhphaaDoorLnkXT
import Derived.Test.YtokoohdpakhphaaDoorDocY
import Derived.Test.YtokoohdpakhphaaDoorDocW
namespace Go.Proofs.YtokoohdpakhphaaDoor.Lnk
open Go VC Go.RowKit Dig Varint
set_option linter.unusedSimpArgs false
set_option linter.unusedVariables false
set_option maxRecDepth 20000
set_option maxHeartbeats 4000000
theorem Rdigest_calls (w : World) (e : Nat) : Calls Tryd.prog 87 #[.int .i64 e] w fun x w' => x = .returned (.int .i64 (if e = 32 ∨ e = 33 then 42 else 43 : Nat)) ∧ w = w' := by
  refine calls_vc Tryd.func87 rfl (by kernel_rfl) (by kernel_rfl) ?_; intro R hR
  have hs := Sat.start w
  by_cases h32 : e = 32
  · rw [if_pos (.inl h32)] at hR
    (repeat (first | (simp (disch := first | omega | assumption | exact Option.isSome_some | (simp only [adO_isSome]; assumption)) only [↓vcp, vcs, vct, if_true, if_false, Nat.reduceBEq, ↓reduceIte, Nat.reduceEqDiff, Nat.reduceAdd, Nat.reduceMul, Nat.reduceSub, Int.reduceToNat, reduceCtorEq, Nat.reduceLT, Nat.reduceLeDiff, Int.reduceSub, Int.reduceAdd, Int.reduceNeg, Sat.look hs, Sat.lookA hs]) | (refine khK he hs ?_; clear he; intro he) | ((first | refine stK hs ?_ | refine stFK hs ?_ | refine stAK hs ?_ | refine msK hs ?_); clear hs; (try clear w); rintro w hs; try simp only [cls] at hs) | ((first | refine al_ok hs ?_ | refine bx_ok hs ?_ | refine bsvK hs ?_ | refine bs1_ok hs ?_ | refine bs0_ok hs ?_); clear hs; (try clear w); rintro _ w hs; try simp only [cls] at hs)))
    exact ret_tmp rfl (hR _ _ ⟨rfl, rfl⟩)
  · by_cases h33 : e = 33
    · rw [if_pos (.inr h33)] at hR
      (repeat (first | (simp (disch := first | omega | assumption | exact Option.isSome_some | (simp only [adO_isSome]; assumption)) only [↓vcp, vcs, vct, if_true, if_false, Nat.reduceBEq, ↓reduceIte, Nat.reduceEqDiff, Nat.reduceAdd, Nat.reduceMul, Nat.reduceSub, Int.reduceToNat, reduceCtorEq, Nat.reduceLT, Nat.reduceLeDiff, Int.reduceSub, Int.reduceAdd, Int.reduceNeg, Sat.look hs, Sat.lookA hs]) | (refine khK he hs ?_; clear he; intro he) | ((first | refine stK hs ?_ | refine stFK hs ?_ | refine stAK hs ?_ | refine msK hs ?_); clear hs; (try clear w); rintro w hs; try simp only [cls] at hs) | ((first | refine al_ok hs ?_ | refine bx_ok hs ?_ | refine bsvK hs ?_ | refine bs1_ok hs ?_ | refine bs0_ok hs ?_); clear hs; (try clear w); rintro _ w hs; try simp only [cls] at hs)))
      exact ret_tmp rfl (hR _ _ ⟨rfl, rfl⟩)
    · rw [if_neg (by omega)] at hR
      (repeat (first | (simp (disch := first | omega | assumption | exact Option.isSome_some | (simp only [adO_isSome]; assumption)) only [↓vcp, vcs, vct, if_true, if_false, Nat.reduceBEq, ↓reduceIte, Nat.reduceEqDiff, Nat.reduceAdd, Nat.reduceMul, Nat.reduceSub, Int.reduceToNat, reduceCtorEq, Nat.reduceLT, Nat.reduceLeDiff, Int.reduceSub, Int.reduceAdd, Int.reduceNeg, Sat.look hs, Sat.lookA hs]) | (refine khK he hs ?_; clear he; intro he) | ((first | refine stK hs ?_ | refine stFK hs ?_ | refine stAK hs ?_ | refine msK hs ?_); clear hs; (try clear w); rintro w hs; try simp only [cls] at hs) | ((first | refine al_ok hs ?_ | refine bx_ok hs ?_ | refine bsvK hs ?_ | refine bs1_ok hs ?_ | refine bs0_ok hs ?_); clear hs; (try clear w); rintro _ w hs; try simp only [cls] at hs)))
      exact ret_tmp rfl (hR _ _ ⟨rfl, rfl⟩)
theorem rlnum (xs : List UInt8) (k : Nat) (hk : k ≤ xs.length) : (lnum xs k = (0, 0, 42) ∧ ∃ e, e ≠ 0 ∧ dnum (xs.drop k) 0 = (0, 0, e)) ∨ ∃ n m, lnum xs k = (n, k + m, 0) ∧ dnum (xs.drop k) 0 = (n, m, 0) ∧ n < 2 ^ 63 ∧ 0 < m ∧ k + m ≤ xs.length := by
  unfold lnum dnum
  rw [List.drop_zero]
  rcases vread_out (xs.drop k) with h | h | h | ⟨n, m, h, h1, h2, h3, h4⟩
  · rw [h]; exact .inl ⟨rfl, 32, by omega, rfl⟩
  · rw [h]; exact .inl ⟨rfl, 33, by omega, rfl⟩
  · rw [h]; exact .inl ⟨rfl, 33, by omega, rfl⟩
  · rw [h]
    rw [List.length_drop] at h3
    exact .inr ⟨n, m, rfl, by simp, h1, h2, by omega⟩
theorem RFirst_calls (w0 : World) (a : Option Addr) (c : Nat) (xs : List UInt8) (hx : Ro (.at w0) a (xs.map u8v)) (hc : xs.length ≤ c) (hn : xs.length ≤ 140737488355328) :
    Calls Tryd.prog 67 #[.slice a xs.length c] w0 fun e w' => e = .returned (.tuple #[.agg (lfirst xs).1.fs.toArray, .int .i64 (lfirst xs).2.1, .int .i64 (lfirst xs).2.2]) ∧ Below w0.heap.size w0 w' := by
  refine calls_vc Tryd.func67 rfl (by kernel_rfl) (by kernel_rfl) ?_; intro R hR
  have hs := Sat.start w0
  unfold lfirst at hR
  by_cases h18 : xs[0]? = some 18
  · rw [if_pos h18] at hR
    have hl0 : 0 < xs.length := (List.getElem?_eq_some_iff.1 h18).1
    have has : a.isSome = true := hx.isSome (by rw [List.length_map]; exact hl0)
    have f0 : oldO (.at w0) (adO a 0) = some (.int .u8 18) := hx 0 _ (by rw [List.getElem?_map, h18]; rfl)
    have f0' : oldO (.at w0) a = some (.int .u8 18) := by rw [adO_0] at f0; exact f0
    (repeat (first | (simp (disch := first | omega | assumption | exact Option.isSome_some | (simp only [adO_isSome]; assumption)) only [↓vcp, vcs, vct, if_true, if_false, Nat.reduceBEq, ↓reduceIte, Nat.reduceEqDiff, Nat.reduceAdd, Nat.reduceMul, Nat.reduceSub, Int.reduceToNat, reduceCtorEq, Nat.reduceLT, Nat.reduceLeDiff, Int.reduceSub, Int.reduceAdd, Int.reduceNeg, Sat.look hs, Sat.lookA hs, hs.old f0, hs.old f0']) | (refine khK he hs ?_; clear he; intro he) | ((first | refine stK hs ?_ | refine stFK hs ?_ | refine stAK hs ?_ | refine msK hs ?_); clear hs; (try clear w); rintro w hs; try simp only [cls] at hs) | ((first | refine al_ok hs ?_ | refine bx_ok hs ?_ | refine bsvK hs ?_ | refine bs1_ok hs ?_ | refine bs0_ok hs ?_); clear hs; (try clear w); rintro _ w hs; try simp only [cls] at hs)))
    have hr0 : Ro (.at w0) (cutA a 0 c 1) ((xs.drop 0).map u8v) := by
      have h := hx.cut1 0 c (by rw [List.length_map]; exact hc)
      rwa [← List.map_drop] at h
    unfold ldig at hR
    dsimp only at hR
    obtain ⟨hu1, hu2⟩ := dread_used (xs.drop 0)
    rw [List.length_drop] at hu1 hu2
    have q1 := RefRead_calls w (cutA a 0 c 1) (c - 0) (xs.drop 0) (hr0.up0 hs) (by rw [List.length_drop]; omega) (by rw [List.length_drop]; omega)
    rw [List.length_drop] at q1
    generalize dread (xs.drop 0) = r at *
    obtain ⟨rh, rd, ru, re⟩ := r
    dsimp only at q1 hu1 hu2 hR
    refine call_ok (by kernel_rfl) (q1) ?_; rintro _ w2 ⟨a2, c2, rfl, hc2, hb⟩; rw [callK_ret]; replace hs := Sat.add hs hb; clear hb; (try clear w); rename World => w; try simp only [cls] at hs
    clear q1
    by_cases he0 : re = 0
    · rw [if_pos he0] at hR
      (repeat (first | (simp (disch := first | omega | assumption | exact Option.isSome_some | (simp only [adO_isSome]; assumption)) only [↓vcp, vcs, vct, if_true, if_false, Nat.reduceBEq, ↓reduceIte, Nat.reduceEqDiff, Nat.reduceAdd, Nat.reduceMul, Nat.reduceSub, Int.reduceToNat, reduceCtorEq, Nat.reduceLT, Nat.reduceLeDiff, Int.reduceSub, Int.reduceAdd, Int.reduceNeg, Sat.look hs, Sat.lookA hs]) | (refine khK he hs ?_; clear he; intro he) | ((first | refine stK hs ?_ | refine stFK hs ?_ | refine stAK hs ?_ | refine msK hs ?_); clear hs; (try clear w); rintro w hs; try simp only [cls] at hs) | ((first | refine al_ok hs ?_ | refine bx_ok hs ?_ | refine bsvK hs ?_ | refine bs1_ok hs ?_ | refine bs0_ok hs ?_); clear hs; (try clear w); rintro _ w hs; try simp only [cls] at hs)))
      rw [m_strOfL (xs := rd) 49 9 (hs.rd (a := a2)) rfl]
      (repeat (first | (simp (disch := first | omega | assumption | exact Option.isSome_some | (simp only [adO_isSome]; assumption)) only [↓vcp, vcs, vct, if_true, if_false, Nat.reduceBEq, ↓reduceIte, Nat.reduceEqDiff, Nat.reduceAdd, Nat.reduceMul, Nat.reduceSub, Int.reduceToNat, reduceCtorEq, Nat.reduceLT, Nat.reduceLeDiff, Int.reduceSub, Int.reduceAdd, Int.reduceNeg, Sat.look hs, Sat.lookA hs]) | (refine khK he hs ?_; clear he; intro he) | ((first | refine stK hs ?_ | refine stFK hs ?_ | refine stAK hs ?_ | refine msK hs ?_); clear hs; (try clear w); rintro w hs; try simp only [cls] at hs) | ((first | refine al_ok hs ?_ | refine bx_ok hs ?_ | refine bsvK hs ?_ | refine bs1_ok hs ?_ | refine bs0_ok hs ?_); clear hs; (try clear w); rintro _ w hs; try simp only [cls] at hs)))
      exact ret_cellT2 (sz := 4) rfl (by rfl) (hs.cellsBk 0 rfl rfl (by omega)) (hR _ _ ⟨rfl, hs.belowAt⟩)
    · rw [if_neg he0] at hR
      have qd := fun w => Rdigest_calls w re
      by_cases h3 : re = 32 ∨ re = 33
      · rw [if_pos h3] at hR
        rw [if_pos h3] at qd
        (repeat (first | (simp (disch := first | omega | assumption | exact Option.isSome_some | (simp only [adO_isSome]; assumption)) only [↓vcp, vcs, vct, if_true, if_false, Nat.reduceBEq, ↓reduceIte, Nat.reduceEqDiff, Nat.reduceAdd, Nat.reduceMul, Nat.reduceSub, Int.reduceToNat, reduceCtorEq, Nat.reduceLT, Nat.reduceLeDiff, Int.reduceSub, Int.reduceAdd, Int.reduceNeg, Sat.look hs, Sat.lookA hs]) | (refine khK he hs ?_; clear he; intro he) | ((first | refine stK hs ?_ | refine stFK hs ?_ | refine stAK hs ?_ | refine msK hs ?_); clear hs; (try clear w); rintro w hs; try simp only [cls] at hs) | ((first | refine al_ok hs ?_ | refine bx_ok hs ?_ | refine bsvK hs ?_ | refine bs1_ok hs ?_ | refine bs0_ok hs ?_); clear hs; (try clear w); rintro _ w hs; try simp only [cls] at hs) | (refine call_ok (by kernel_rfl) (qd _) ?_; rintro _ _ ⟨rfl, rfl⟩; rw [callK_ret]) | (refine call_still (by kernel_rfl) (qd _) ?_)))
        exact ret_cellT2 (sz := 4) rfl (by rfl) (hs.cellsBk 0 rfl rfl (by omega)) (hR _ _ ⟨rfl, hs.belowAt⟩)
      · rw [if_neg h3] at hR
        rw [if_neg h3] at qd
        (repeat (first | (simp (disch := first | omega | assumption | exact Option.isSome_some | (simp only [adO_isSome]; assumption)) only [↓vcp, vcs, vct, if_true, if_false, Nat.reduceBEq, ↓reduceIte, Nat.reduceEqDiff, Nat.reduceAdd, Nat.reduceMul, Nat.reduceSub, Int.reduceToNat, reduceCtorEq, Nat.reduceLT, Nat.reduceLeDiff, Int.reduceSub, Int.reduceAdd, Int.reduceNeg, Sat.look hs, Sat.lookA hs]) | (refine khK he hs ?_; clear he; intro he) | ((first | refine stK hs ?_ | refine stFK hs ?_ | refine stAK hs ?_ | refine msK hs ?_); clear hs; (try clear w); rintro w hs; try simp only [cls] at hs) | ((first | refine al_ok hs ?_ | refine bx_ok hs ?_ | refine bsvK hs ?_ | refine bs1_ok hs ?_ | refine bs0_ok hs ?_); clear hs; (try clear w); rintro _ w hs; try simp only [cls] at hs) | (refine call_ok (by kernel_rfl) (qd _) ?_; rintro _ _ ⟨rfl, rfl⟩; rw [callK_ret]) | (refine call_still (by kernel_rfl) (qd _) ?_)))
        exact ret_cellT2 (sz := 4) rfl (by rfl) (hs.cellsBk 0 rfl rfl (by omega)) (hR _ _ ⟨rfl, hs.belowAt⟩)
  · rw [if_neg h18] at hR
    refine (fun (h : xs.length = 0 ∨ ∃ y, xs[0]? = some y ∧ y.toNat ≠ 18) => ?_) (by
      rcases Nat.eq_zero_or_pos xs.length with h | h
      · exact .inl h
      · refine .inr ⟨xs[0], List.getElem?_eq_getElem h, fun h2 => h18 ?_⟩
        rw [List.getElem?_eq_getElem h]
        exact congrArg some (UInt8.toNat_inj.1 h2))
    rcases h with h0 | ⟨y, hy, hy18⟩
    · (repeat (first | (simp (disch := first | omega | assumption | exact Option.isSome_some | (simp only [adO_isSome]; assumption)) only [↓vcp, vcs, vct, if_true, if_false, Nat.reduceBEq, ↓reduceIte, Nat.reduceEqDiff, Nat.reduceAdd, Nat.reduceMul, Nat.reduceSub, Int.reduceToNat, reduceCtorEq, Nat.reduceLT, Nat.reduceLeDiff, Int.reduceSub, Int.reduceAdd, Int.reduceNeg, Sat.look hs, Sat.lookA hs]) | (refine khK he hs ?_; clear he; intro he) | ((first | refine stK hs ?_ | refine stFK hs ?_ | refine stAK hs ?_ | refine msK hs ?_); clear hs; (try clear w); rintro w hs; try simp only [cls] at hs) | ((first | refine al_ok hs ?_ | refine bx_ok hs ?_ | refine bsvK hs ?_ | refine bs1_ok hs ?_ | refine bs0_ok hs ?_); clear hs; (try clear w); rintro _ w hs; try simp only [cls] at hs)))
      have q1 := RefNumber_calls w a c xs (hx.up0 hs) hn
      rcases rlnum xs 0 (Nat.zero_le _) with ⟨h1, e1, he1, h2⟩ | ⟨n, m, h1, h2, hn1, hm, hml⟩
      · rw [List.drop_zero] at h2
        rw [h2] at q1
        rw [h1] at hR
        rw [if_pos (by simp)] at hR
        refine call_ok (by kernel_rfl) (q1) ?_; rintro _ _ ⟨rfl, rfl⟩; rw [callK_ret]
        (repeat (first | (simp (disch := first | omega | assumption | exact Option.isSome_some | (simp only [adO_isSome]; assumption)) only [↓vcp, vcs, vct, if_true, if_false, Nat.reduceBEq, ↓reduceIte, Nat.reduceEqDiff, Nat.reduceAdd, Nat.reduceMul, Nat.reduceSub, Int.reduceToNat, reduceCtorEq, Nat.reduceLT, Nat.reduceLeDiff, Int.reduceSub, Int.reduceAdd, Int.reduceNeg, Sat.look hs, Sat.lookA hs]) | (refine khK he hs ?_; clear he; intro he) | ((first | refine stK hs ?_ | refine stFK hs ?_ | refine stAK hs ?_ | refine msK hs ?_); clear hs; (try clear w); rintro w hs; try simp only [cls] at hs) | ((first | refine al_ok hs ?_ | refine bx_ok hs ?_ | refine bsvK hs ?_ | refine bs1_ok hs ?_ | refine bs0_ok hs ?_); clear hs; (try clear w); rintro _ w hs; try simp only [cls] at hs)))
        exact ret_cellT2 (sz := 4) rfl (by rfl) (hs.cellsBk 0 rfl rfl (by omega)) (hR _ _ ⟨rfl, hs.belowAt⟩)
      · omega
    · have hl0 : 0 < xs.length := (List.getElem?_eq_some_iff.1 hy).1
      have has : a.isSome = true := hx.isSome (by rw [List.length_map]; exact hl0)
      have f0 : oldO (.at w0) (adO a 0) = some (.int .u8 (y.toNat : Int)) := hx 0 _ (by rw [List.getElem?_map, hy]; rfl)
      have f0' : oldO (.at w0) a = some (.int .u8 (y.toNat : Int)) := by rw [adO_0] at f0; exact f0
      (repeat (first | (simp (disch := first | omega | assumption | exact Option.isSome_some | (simp only [adO_isSome]; assumption)) only [↓vcp, vcs, vct, if_true, if_false, Nat.reduceBEq, ↓reduceIte, Nat.reduceEqDiff, Nat.reduceAdd, Nat.reduceMul, Nat.reduceSub, Int.reduceToNat, reduceCtorEq, Nat.reduceLT, Nat.reduceLeDiff, Int.reduceSub, Int.reduceAdd, Int.reduceNeg, Sat.look hs, Sat.lookA hs, hs.old f0, hs.old f0']) | (refine khK he hs ?_; clear he; intro he) | ((first | refine stK hs ?_ | refine stFK hs ?_ | refine stAK hs ?_ | refine msK hs ?_); clear hs; (try clear w); rintro w hs; try simp only [cls] at hs) | ((first | refine al_ok hs ?_ | refine bx_ok hs ?_ | refine bsvK hs ?_ | refine bs1_ok hs ?_ | refine bs0_ok hs ?_); clear hs; (try clear w); rintro _ w hs; try simp only [cls] at hs)))
      have q1 := RefNumber_calls w a c xs (hx.up0 hs) hn
      rcases rlnum xs 0 (Nat.zero_le _) with ⟨h1, e1, he1, h2⟩ | ⟨n, m, h1, h2, hn1, hm, hml⟩
      · rw [List.drop_zero] at h2
        rw [h2] at q1
        rw [h1] at hR
        rw [if_pos (by simp)] at hR
        refine call_ok (by kernel_rfl) (q1) ?_; rintro _ _ ⟨rfl, rfl⟩; rw [callK_ret]
        (repeat (first | (simp (disch := first | omega | assumption | exact Option.isSome_some | (simp only [adO_isSome]; assumption)) only [↓vcp, vcs, vct, if_true, if_false, Nat.reduceBEq, ↓reduceIte, Nat.reduceEqDiff, Nat.reduceAdd, Nat.reduceMul, Nat.reduceSub, Int.reduceToNat, reduceCtorEq, Nat.reduceLT, Nat.reduceLeDiff, Int.reduceSub, Int.reduceAdd, Int.reduceNeg, Sat.look hs, Sat.lookA hs]) | (refine khK he hs ?_; clear he; intro he) | ((first | refine stK hs ?_ | refine stFK hs ?_ | refine stAK hs ?_ | refine msK hs ?_); clear hs; (try clear w); rintro w hs; try simp only [cls] at hs) | ((first | refine al_ok hs ?_ | refine bx_ok hs ?_ | refine bsvK hs ?_ | refine bs1_ok hs ?_ | refine bs0_ok hs ?_); clear hs; (try clear w); rintro _ w hs; try simp only [cls] at hs)))
        exact ret_cellT2 (sz := 4) rfl (by rfl) (hs.cellsBk 0 rfl rfl (by omega)) (hR _ _ ⟨rfl, hs.belowAt⟩)
      · rw [List.drop_zero] at h2
        rw [Nat.zero_add] at h1 hml
        rw [h2] at q1
        rw [h1] at hR
        rw [if_neg (by simp)] at hR
        dsimp only at q1 hR
        refine call_ok (by kernel_rfl) (q1) ?_; rintro _ _ ⟨rfl, rfl⟩; rw [callK_ret]
        by_cases hn1' : n = 1
        case neg =>
          rw [if_pos hn1'] at hR
          (repeat (first | (simp (disch := first | omega | assumption | exact Option.isSome_some | (simp only [adO_isSome]; assumption)) only [↓vcp, vcs, vct, if_true, if_false, Nat.reduceBEq, ↓reduceIte, Nat.reduceEqDiff, Nat.reduceAdd, Nat.reduceMul, Nat.reduceSub, Int.reduceToNat, reduceCtorEq, Nat.reduceLT, Nat.reduceLeDiff, Int.reduceSub, Int.reduceAdd, Int.reduceNeg, Sat.look hs, Sat.lookA hs]) | (refine khK he hs ?_; clear he; intro he) | ((first | refine stK hs ?_ | refine stFK hs ?_ | refine stAK hs ?_ | refine msK hs ?_); clear hs; (try clear w); rintro w hs; try simp only [cls] at hs) | ((first | refine al_ok hs ?_ | refine bx_ok hs ?_ | refine bsvK hs ?_ | refine bs1_ok hs ?_ | refine bs0_ok hs ?_); clear hs; (try clear w); rintro _ w hs; try simp only [cls] at hs)))
          exact ret_cellT2 (sz := 4) rfl (by rfl) (hs.cellsBk 0 rfl rfl (by omega)) (hR _ _ ⟨rfl, hs.belowAt⟩)
        rw [if_neg (by omega)] at hR
        (repeat (first | (simp (disch := first | omega | assumption | exact Option.isSome_some | (simp only [adO_isSome]; assumption)) only [↓vcp, vcs, vct, if_true, if_false, Nat.reduceBEq, ↓reduceIte, Nat.reduceEqDiff, Nat.reduceAdd, Nat.reduceMul, Nat.reduceSub, Int.reduceToNat, reduceCtorEq, Nat.reduceLT, Nat.reduceLeDiff, Int.reduceSub, Int.reduceAdd, Int.reduceNeg, Sat.look hs, Sat.lookA hs]) | (refine khK he hs ?_; clear he; intro he) | ((first | refine stK hs ?_ | refine stFK hs ?_ | refine stAK hs ?_ | refine msK hs ?_); clear hs; (try clear w); rintro w hs; try simp only [cls] at hs) | ((first | refine al_ok hs ?_ | refine bx_ok hs ?_ | refine bsvK hs ?_ | refine bs1_ok hs ?_ | refine bs0_ok hs ?_); clear hs; (try clear w); rintro _ w hs; try simp only [cls] at hs)))
        have hrm : Ro (.at w0) (cutA a m c 1) ((xs.drop m).map u8v) := by
          have h := hx.cut1 m c (by rw [List.length_map]; exact hc)
          rwa [← List.map_drop] at h
        have q2 := RefNumber_calls w (cutA a m c 1) (c - m) (xs.drop m) (hrm.up0 hs) (by rw [List.length_drop]; omega)
        rw [List.length_drop] at q2
        rcases rlnum xs m hml with ⟨h3, e3, he3, h4⟩ | ⟨n2, m2, h3, h4, hn2, hm2, hml2⟩
        · rw [h4] at q2
          rw [h3] at hR
          rw [if_pos (by simp)] at hR
          refine call_ok (by kernel_rfl) (q2) ?_; rintro _ _ ⟨rfl, rfl⟩; rw [callK_ret]
          (repeat (first | (simp (disch := first | omega | assumption | exact Option.isSome_some | (simp only [adO_isSome]; assumption)) only [↓vcp, vcs, vct, if_true, if_false, Nat.reduceBEq, ↓reduceIte, Nat.reduceEqDiff, Nat.reduceAdd, Nat.reduceMul, Nat.reduceSub, Int.reduceToNat, reduceCtorEq, Nat.reduceLT, Nat.reduceLeDiff, Int.reduceSub, Int.reduceAdd, Int.reduceNeg, Sat.look hs, Sat.lookA hs]) | (refine khK he hs ?_; clear he; intro he) | ((first | refine stK hs ?_ | refine stFK hs ?_ | refine stAK hs ?_ | refine msK hs ?_); clear hs; (try clear w); rintro w hs; try simp only [cls] at hs) | ((first | refine al_ok hs ?_ | refine bx_ok hs ?_ | refine bsvK hs ?_ | refine bs1_ok hs ?_ | refine bs0_ok hs ?_); clear hs; (try clear w); rintro _ w hs; try simp only [cls] at hs)))
          exact ret_cellT2 (sz := 4) rfl (by rfl) (hs.cellsBk 0 rfl rfl (by omega)) (hR _ _ ⟨rfl, hs.belowAt⟩)
        · rw [h4] at q2
          rw [h3] at hR
          rw [if_neg (by simp)] at hR
          dsimp only at q2 hR
          refine call_ok (by kernel_rfl) (q2) ?_; rintro _ _ ⟨rfl, rfl⟩; rw [callK_ret]
          have hmm : (m : Int) + (m2 : Int) = ((m + m2 : Nat) : Int) := by omega
          (repeat (first | (simp (disch := first | omega | assumption | exact Option.isSome_some | (simp only [adO_isSome]; assumption)) only [↓vcp, vcs, vct, if_true, if_false, Nat.reduceBEq, ↓reduceIte, Nat.reduceEqDiff, Nat.reduceAdd, Nat.reduceMul, Nat.reduceSub, Int.reduceToNat, reduceCtorEq, Nat.reduceLT, Nat.reduceLeDiff, Int.reduceSub, Int.reduceAdd, Int.reduceNeg, Sat.look hs, Sat.lookA hs, hmm]) | (refine khK he hs ?_; clear he; intro he) | ((first | refine stK hs ?_ | refine stFK hs ?_ | refine stAK hs ?_ | refine msK hs ?_); clear hs; (try clear w); rintro w hs; try simp only [cls] at hs) | ((first | refine al_ok hs ?_ | refine bx_ok hs ?_ | refine bsvK hs ?_ | refine bs1_ok hs ?_ | refine bs0_ok hs ?_); clear hs; (try clear w); rintro _ w hs; try simp only [cls] at hs)))
          generalize hK : m + m2 = K at *
          have hr0 : Ro (.at w0) (cutA a K c 1) ((xs.drop K).map u8v) := by
            have h := hx.cut1 K c (by rw [List.length_map]; exact hc)
            rwa [← List.map_drop] at h
          unfold ldig at hR
          dsimp only at hR
          obtain ⟨hu1, hu2⟩ := dread_used (xs.drop K)
          rw [List.length_drop] at hu1 hu2
          have q1 := RefRead_calls w (cutA a K c 1) (c - K) (xs.drop K) (hr0.up0 hs) (by rw [List.length_drop]; omega) (by rw [List.length_drop]; omega)
          rw [List.length_drop] at q1
          generalize dread (xs.drop K) = r at *
          obtain ⟨rh, rd, ru, re⟩ := r
          dsimp only at q1 hu1 hu2 hR
          refine call_ok (by kernel_rfl) (q1) ?_; rintro _ w2 ⟨a2, c2, rfl, hc2, hb⟩; rw [callK_ret]; replace hs := Sat.add hs hb; clear hb; (try clear w); rename World => w; try simp only [cls] at hs
          clear q1
          by_cases he0 : re = 0
          · rw [if_pos he0] at hR
            (repeat (first | (simp (disch := first | omega | assumption | exact Option.isSome_some | (simp only [adO_isSome]; assumption)) only [↓vcp, vcs, vct, if_true, if_false, Nat.reduceBEq, ↓reduceIte, Nat.reduceEqDiff, Nat.reduceAdd, Nat.reduceMul, Nat.reduceSub, Int.reduceToNat, reduceCtorEq, Nat.reduceLT, Nat.reduceLeDiff, Int.reduceSub, Int.reduceAdd, Int.reduceNeg, Sat.look hs, Sat.lookA hs]) | (refine khK he hs ?_; clear he; intro he) | ((first | refine stK hs ?_ | refine stFK hs ?_ | refine stAK hs ?_ | refine msK hs ?_); clear hs; (try clear w); rintro w hs; try simp only [cls] at hs) | ((first | refine al_ok hs ?_ | refine bx_ok hs ?_ | refine bsvK hs ?_ | refine bs1_ok hs ?_ | refine bs0_ok hs ?_); clear hs; (try clear w); rintro _ w hs; try simp only [cls] at hs)))
            rw [m_strOfL (xs := rd) 49 9 (hs.rd (a := a2)) rfl]
            (repeat (first | (simp (disch := first | omega | assumption | exact Option.isSome_some | (simp only [adO_isSome]; assumption)) only [↓vcp, vcs, vct, if_true, if_false, Nat.reduceBEq, ↓reduceIte, Nat.reduceEqDiff, Nat.reduceAdd, Nat.reduceMul, Nat.reduceSub, Int.reduceToNat, reduceCtorEq, Nat.reduceLT, Nat.reduceLeDiff, Int.reduceSub, Int.reduceAdd, Int.reduceNeg, Sat.look hs, Sat.lookA hs]) | (refine khK he hs ?_; clear he; intro he) | ((first | refine stK hs ?_ | refine stFK hs ?_ | refine stAK hs ?_ | refine msK hs ?_); clear hs; (try clear w); rintro w hs; try simp only [cls] at hs) | ((first | refine al_ok hs ?_ | refine bx_ok hs ?_ | refine bsvK hs ?_ | refine bs1_ok hs ?_ | refine bs0_ok hs ?_); clear hs; (try clear w); rintro _ w hs; try simp only [cls] at hs)))
            exact ret_cellT2 (sz := 4) rfl (by rfl) (hs.cellsBk 0 rfl rfl (by omega)) (hR _ _ ⟨rfl, hs.belowAt⟩)
          · rw [if_neg he0] at hR
            have qd := fun w => Rdigest_calls w re
            by_cases h3 : re = 32 ∨ re = 33
            · rw [if_pos h3] at hR
              rw [if_pos h3] at qd
              (repeat (first | (simp (disch := first | omega | assumption | exact Option.isSome_some | (simp only [adO_isSome]; assumption)) only [↓vcp, vcs, vct, if_true, if_false, Nat.reduceBEq, ↓reduceIte, Nat.reduceEqDiff, Nat.reduceAdd, Nat.reduceMul, Nat.reduceSub, Int.reduceToNat, reduceCtorEq, Nat.reduceLT, Nat.reduceLeDiff, Int.reduceSub, Int.reduceAdd, Int.reduceNeg, Sat.look hs, Sat.lookA hs]) | (refine khK he hs ?_; clear he; intro he) | ((first | refine stK hs ?_ | refine stFK hs ?_ | refine stAK hs ?_ | refine msK hs ?_); clear hs; (try clear w); rintro w hs; try simp only [cls] at hs) | ((first | refine al_ok hs ?_ | refine bx_ok hs ?_ | refine bsvK hs ?_ | refine bs1_ok hs ?_ | refine bs0_ok hs ?_); clear hs; (try clear w); rintro _ w hs; try simp only [cls] at hs) | (refine call_ok (by kernel_rfl) (qd _) ?_; rintro _ _ ⟨rfl, rfl⟩; rw [callK_ret]) | (refine call_still (by kernel_rfl) (qd _) ?_)))
              exact ret_cellT2 (sz := 4) rfl (by rfl) (hs.cellsBk 0 rfl rfl (by omega)) (hR _ _ ⟨rfl, hs.belowAt⟩)
            · rw [if_neg h3] at hR
              rw [if_neg h3] at qd
              (repeat (first | (simp (disch := first | omega | assumption | exact Option.isSome_some | (simp only [adO_isSome]; assumption)) only [↓vcp, vcs, vct, if_true, if_false, Nat.reduceBEq, ↓reduceIte, Nat.reduceEqDiff, Nat.reduceAdd, Nat.reduceMul, Nat.reduceSub, Int.reduceToNat, reduceCtorEq, Nat.reduceLT, Nat.reduceLeDiff, Int.reduceSub, Int.reduceAdd, Int.reduceNeg, Sat.look hs, Sat.lookA hs]) | (refine khK he hs ?_; clear he; intro he) | ((first | refine stK hs ?_ | refine stFK hs ?_ | refine stAK hs ?_ | refine msK hs ?_); clear hs; (try clear w); rintro w hs; try simp only [cls] at hs) | ((first | refine al_ok hs ?_ | refine bx_ok hs ?_ | refine bsvK hs ?_ | refine bs1_ok hs ?_ | refine bs0_ok hs ?_); clear hs; (try clear w); rintro _ w hs; try simp only [cls] at hs) | (refine call_ok (by kernel_rfl) (qd _) ?_; rintro _ _ ⟨rfl, rfl⟩; rw [callK_ret]) | (refine call_still (by kernel_rfl) (qd _) ?_)))
              exact ret_cellT2 (sz := 4) rfl (by rfl) (hs.cellsBk 0 rfl rfl (by omega)) (hR _ _ ⟨rfl, hs.belowAt⟩)
theorem RParse_calls (w0 : World) (a : Option Addr) (c : Nat) (xs : List UInt8) (hx : Ro (.at w0) a (xs.map u8v)) (hc : xs.length ≤ c) (hn : xs.length ≤ 140737488355328) :
    Calls Tryd.prog 44 #[.slice a xs.length c] w0 fun e w' => e = .returned (.tuple #[.agg (lparse xs).1.fs.toArray, .int .i64 (lparse xs).2]) ∧ Below w0.heap.size w0 w' := by
  refine calls_vc Tryd.func44 rfl (by kernel_rfl) (by kernel_rfl) ?_; intro R hR
  have hs := Sat.start w0
  unfold lparse at hR
  (repeat (first | (simp (disch := first | omega | assumption | exact Option.isSome_some | (simp only [adO_isSome]; assumption)) only [↓vcp, vcs, vct, if_true, if_false, Nat.reduceBEq, ↓reduceIte, Nat.reduceEqDiff, Nat.reduceAdd, Nat.reduceMul, Nat.reduceSub, Int.reduceToNat, reduceCtorEq, Nat.reduceLT, Nat.reduceLeDiff, Int.reduceSub, Int.reduceAdd, Int.reduceNeg, Sat.look hs, Sat.lookA hs]) | (refine khK he hs ?_; clear he; intro he) | ((first | refine stK hs ?_ | refine stFK hs ?_ | refine stAK hs ?_ | refine msK hs ?_); clear hs; (try clear w); rintro w hs; try simp only [cls] at hs) | ((first | refine al_ok hs ?_ | refine bx_ok hs ?_ | refine bsvK hs ?_ | refine bs1_ok hs ?_ | refine bs0_ok hs ?_); clear hs; (try clear w); rintro _ w hs; try simp only [cls] at hs)))
  have q1 := RFirst_calls w a c xs (hx.up0 hs) hc hn
  generalize lfirst xs = r at *
  obtain ⟨⟨lv, lc, lh, ld⟩, n, e⟩ := r
  unfold Lk.fs at q1 hR
  dsimp only at q1 hR
  refine call_ok (by kernel_rfl) (q1) ?_; rintro _ w2 ⟨rfl, hb⟩; rw [callK_ret]; replace hs := Sat.add hs (Below.sat hb); clear hb; (try clear w); rename World => w; try simp only [cls] at hs
  clear q1
  by_cases he : e = 0
  · rw [if_neg (by omega)] at hR
    by_cases hlt : n < xs.length
    · rw [if_pos hlt] at hR
      (repeat (first | (simp (disch := first | omega | assumption | exact Option.isSome_some | (simp only [adO_isSome]; assumption)) only [↓vcp, vcs, vct, if_true, if_false, Nat.reduceBEq, ↓reduceIte, Nat.reduceEqDiff, Nat.reduceAdd, Nat.reduceMul, Nat.reduceSub, Int.reduceToNat, reduceCtorEq, Nat.reduceLT, Nat.reduceLeDiff, Int.reduceSub, Int.reduceAdd, Int.reduceNeg, Sat.look hs, Sat.lookA hs]) | (refine khK he hs ?_; clear he; intro he) | ((first | refine stK hs ?_ | refine stFK hs ?_ | refine stAK hs ?_ | refine msK hs ?_); clear hs; (try clear w); rintro w hs; try simp only [cls] at hs) | ((first | refine al_ok hs ?_ | refine bx_ok hs ?_ | refine bsvK hs ?_ | refine bs1_ok hs ?_ | refine bs0_ok hs ?_); clear hs; (try clear w); rintro _ w hs; try simp only [cls] at hs)))
      exact ret_cellT (sz := 4) rfl (by rfl) (hs.cellsBk 0 rfl rfl (by omega)) (hR _ _ ⟨rfl, hs.belowAt⟩)
    · rw [if_neg hlt] at hR
      (repeat (first | (simp (disch := first | omega | assumption | exact Option.isSome_some | (simp only [adO_isSome]; assumption)) only [↓vcp, vcs, vct, if_true, if_false, Nat.reduceBEq, ↓reduceIte, Nat.reduceEqDiff, Nat.reduceAdd, Nat.reduceMul, Nat.reduceSub, Int.reduceToNat, reduceCtorEq, Nat.reduceLT, Nat.reduceLeDiff, Int.reduceSub, Int.reduceAdd, Int.reduceNeg, Sat.look hs, Sat.lookA hs]) | (refine khK he hs ?_; clear he; intro he) | ((first | refine stK hs ?_ | refine stFK hs ?_ | refine stAK hs ?_ | refine msK hs ?_); clear hs; (try clear w); rintro w hs; try simp only [cls] at hs) | ((first | refine al_ok hs ?_ | refine bx_ok hs ?_ | refine bsvK hs ?_ | refine bs1_ok hs ?_ | refine bs0_ok hs ?_); clear hs; (try clear w); rintro _ w hs; try simp only [cls] at hs)))
      exact ret_cellT (sz := 4) rfl (by rfl) (hs.cellsBk 0 rfl rfl (by omega)) (hR _ _ ⟨rfl, hs.belowAt⟩)
  · rw [if_pos he] at hR
    (repeat (first | (simp (disch := first | omega | assumption | exact Option.isSome_some | (simp only [adO_isSome]; assumption)) only [↓vcp, vcs, vct, if_true, if_false, Nat.reduceBEq, ↓reduceIte, Nat.reduceEqDiff, Nat.reduceAdd, Nat.reduceMul, Nat.reduceSub, Int.reduceToNat, reduceCtorEq, Nat.reduceLT, Nat.reduceLeDiff, Int.reduceSub, Int.reduceAdd, Int.reduceNeg, Sat.look hs, Sat.lookA hs]) | (refine khK he hs ?_; clear he; intro he) | ((first | refine stK hs ?_ | refine stFK hs ?_ | refine stAK hs ?_ | refine msK hs ?_); clear hs; (try clear w); rintro w hs; try simp only [cls] at hs) | ((first | refine al_ok hs ?_ | refine bx_ok hs ?_ | refine bsvK hs ?_ | refine bs1_ok hs ?_ | refine bs0_ok hs ?_); clear hs; (try clear w); rintro _ w hs; try simp only [cls] at hs)))
    exact ret_cellT (sz := 4) rfl (by rfl) (hs.cellsBk 0 rfl rfl (by omega)) (hR _ _ ⟨rfl, hs.belowAt⟩)
end Go.Proofs.YtokoohdpakhphaaDoor.Lnk
namespace Go.Proofs.YtokoohdpakhphaaDoor.Lnk
open Go VC Go.RowKit Dig
set_option linter.unusedSimpArgs false
set_option linter.unusedVariables false
set_option maxRecDepth 20000
set_option maxHeartbeats 4000000
theorem apart16b : apart (dgs 1) := apart16
theorem apart32b : apart (dgs 2) := apart32
theorem RParseText_calls (w0 : World) (s : List UInt8) (hl : s.length ≤ 9223372036854775807) :
    Calls Tryd.prog 17 #[.string ⟨s.toArray⟩] w0 fun e w' => e = .returned (.tuple #[.agg (lptext s).1.fs.toArray, .int .i64 (lptext s).2]) ∧ Below w0.heap.size w0 w' := by
  refine calls_vc Tryd.func17 rfl (by kernel_rfl) (by kernel_rfl) ?_; intro R hR
  have hs := Sat.start w0
  have hz : zeroLk.fs = [.int .i64 0, .int .u64 0, .int .u64 0, .string ⟨#[]⟩] := rfl
  have hsz : (ByteArray.mk s.toArray).size = s.length := ba_size s
  unfold lptext at hR
  by_cases hlong : 153 < s.length
  · rw [if_pos hlong] at hR
    dsimp only at hR
    rw [hz] at hR
    (repeat (first | (simp (disch := first | omega | assumption | exact Option.isSome_some | (simp only [adO_isSome]; assumption)) only [↓vcp, vcs, vct, if_true, if_false, Nat.reduceBEq, ↓reduceIte, Nat.reduceEqDiff, Nat.reduceAdd, Nat.reduceMul, Nat.reduceSub, Int.reduceToNat, reduceCtorEq, Nat.reduceLT, Nat.reduceLeDiff, Int.reduceSub, Int.reduceAdd, Int.reduceNeg, Sat.look hs, Sat.lookA hs, hsz]) | (refine khK he hs ?_; clear he; intro he) | ((first | refine stK hs ?_ | refine stFK hs ?_ | refine stAK hs ?_ | refine msK hs ?_); clear hs; (try clear w); rintro w hs; try simp only [cls] at hs) | ((first | refine al_ok hs ?_ | refine bx_ok hs ?_ | refine bsvK hs ?_ | refine bs1_ok hs ?_ | refine bs0_ok hs ?_); clear hs; (try clear w); rintro _ w hs; try simp only [cls] at hs)))
    exact ret_cellT (sz := 4) rfl (by rfl) (hs.cellsBk 0 rfl rfl (by omega)) (hR _ _ ⟨rfl, hs.belowAt⟩)
  rw [if_neg hlong] at hR
  cases s with
  | nil =>
    dsimp only at hR
    rw [hz] at hR
    (repeat (first | (simp (disch := first | omega | assumption | exact Option.isSome_some | (simp only [adO_isSome]; assumption)) only [↓vcp, vcs, vct, if_true, if_false, Nat.reduceBEq, ↓reduceIte, Nat.reduceEqDiff, Nat.reduceAdd, Nat.reduceMul, Nat.reduceSub, Int.reduceToNat, reduceCtorEq, Nat.reduceLT, Nat.reduceLeDiff, Int.reduceSub, Int.reduceAdd, Int.reduceNeg, Sat.look hs, Sat.lookA hs, hsz]) | (refine khK he hs ?_; clear he; intro he) | ((first | refine stK hs ?_ | refine stFK hs ?_ | refine stAK hs ?_ | refine msK hs ?_); clear hs; (try clear w); rintro w hs; try simp only [cls] at hs) | ((first | refine al_ok hs ?_ | refine bx_ok hs ?_ | refine bsvK hs ?_ | refine bs1_ok hs ?_ | refine bs0_ok hs ?_); clear hs; (try clear w); rintro _ w hs; try simp only [cls] at hs)))
    exact ret_cellT (sz := 4) rfl (by rfl) (hs.cellsBk 0 rfl rfl (by omega)) (hR _ _ ⟨rfl, hs.belowAt⟩)
  | cons x t =>
    have hne : (ByteArray.mk (x :: t).toArray = ByteArray.mk #[]) = False := by simp
    have hbt : bt ⟨(x :: t).toArray⟩ 0 = (x.toNat : Int) := by rw [bt_list _ 0 (by simp)]; rfl
    have hsz : (ByteArray.mk (x :: t).toArray).size = t.length + 1 := by rw [ba_size]; rfl
    have hlen : ((x :: t : List UInt8).length : Int) = (t.length : Int) + 1 := by simp
    have hlen2 : (x :: t : List UInt8).length = t.length + 1 := by simp
    dsimp only at hR
    have hx256 := x.toNat_lt
    have htl : t.length ≤ 152 := by rw [hlen2] at hlong; omega
    by_cases h81 : x = 81
    · rw [if_pos h81] at hR
      subst h81
      have hx : ((81 : UInt8).toNat : Int) = 81 := rfl
      (repeat (first | (simp (disch := first | omega | assumption | exact Option.isSome_some | (simp only [adO_isSome]; assumption)) only [↓vcp, vcs, vct, if_true, if_false, Nat.reduceBEq, ↓reduceIte, Nat.reduceEqDiff, Nat.reduceAdd, Nat.reduceMul, Nat.reduceSub, Int.reduceToNat, reduceCtorEq, Nat.reduceLT, Nat.reduceLeDiff, Int.reduceSub, Int.reduceAdd, Int.reduceNeg, Sat.look hs, Sat.lookA hs, hsz, hne, hbt, hx]) | (refine khK he hs ?_; clear he; intro he) | ((first | refine stK hs ?_ | refine stFK hs ?_ | refine stAK hs ?_ | refine msK hs ?_); clear hs; (try clear w); rintro w hs; try simp only [cls] at hs) | ((first | refine al_ok hs ?_ | refine bx_ok hs ?_ | refine bsvK hs ?_ | refine bs1_ok hs ?_ | refine bs0_ok hs ?_); clear hs; (try clear w); rintro _ w hs; try simp only [cls] at hs)))
      have q1 := in58_calls w (81 :: t) (by rw [hlen2]; omega)
      have hrl : (dec58 (81 :: t)).1.length ≤ 153 := Nat.le_trans (dec58_len _) (by rw [hlen2]; omega)
      refine call_ok (by kernel_rfl) (q1) ?_; rintro _ w2 ⟨a1, c1, rfl, hc1, hb⟩; rw [callK_ret]; replace hs := Sat.add hs hb; clear hb; (try clear w); rename World => w; try simp only [cls] at hs
      clear q1
      generalize dec58 (81 :: t) = r at *
      obtain ⟨B, g⟩ := r
      dsimp only at hc1 hs hrl
      unfold lrd at hR
      cases g with
      | false =>
        rw [if_pos rfl] at hR
        dsimp only at hR
        rw [hz] at hR
        (repeat (first | (simp (disch := first | omega | assumption | exact Option.isSome_some | (simp only [adO_isSome]; assumption)) only [↓vcp, vcs, vct, if_true, if_false, Nat.reduceBEq, ↓reduceIte, Nat.reduceEqDiff, Nat.reduceAdd, Nat.reduceMul, Nat.reduceSub, Int.reduceToNat, reduceCtorEq, Nat.reduceLT, Nat.reduceLeDiff, Int.reduceSub, Int.reduceAdd, Int.reduceNeg, Sat.look hs, Sat.lookA hs]) | (refine khK he hs ?_; clear he; intro he) | ((first | refine stK hs ?_ | refine stFK hs ?_ | refine stAK hs ?_ | refine msK hs ?_); clear hs; (try clear w); rintro w hs; try simp only [cls] at hs) | ((first | refine al_ok hs ?_ | refine bx_ok hs ?_ | refine bsvK hs ?_ | refine bs1_ok hs ?_ | refine bs0_ok hs ?_); clear hs; (try clear w); rintro _ w hs; try simp only [cls] at hs)))
        exact ret_cellT (sz := 4) rfl (by rfl) (hs.cellsBk 0 rfl rfl (by omega)) (hR _ _ ⟨rfl, hs.belowAt⟩)
      | true =>
        rw [if_neg (by simp)] at hR
        dsimp only at hR
        (repeat (first | (simp (disch := first | omega | assumption | exact Option.isSome_some | (simp only [adO_isSome]; assumption)) only [↓vcp, vcs, vct, if_true, if_false, Nat.reduceBEq, ↓reduceIte, Nat.reduceEqDiff, Nat.reduceAdd, Nat.reduceMul, Nat.reduceSub, Int.reduceToNat, reduceCtorEq, Nat.reduceLT, Nat.reduceLeDiff, Int.reduceSub, Int.reduceAdd, Int.reduceNeg, Sat.look hs, Sat.lookA hs]) | (refine khK he hs ?_; clear he; intro he) | ((first | refine stK hs ?_ | refine stFK hs ?_ | refine stAK hs ?_ | refine msK hs ?_); clear hs; (try clear w); rintro w hs; try simp only [cls] at hs) | ((first | refine al_ok hs ?_ | refine bx_ok hs ?_ | refine bsvK hs ?_ | refine bs1_ok hs ?_ | refine bs0_ok hs ?_); clear hs; (try clear w); rintro _ w hs; try simp only [cls] at hs)))
        have q2 := RParse_calls w a1 c1 B hs.ro hc1 (by omega)
        generalize lparse B = Pr at *
        obtain ⟨⟨lv, lc, lh, ld⟩, e⟩ := Pr
        unfold Lk.fs at q2
        dsimp only at q2 hR
        refine call_ok (by kernel_rfl) (q2) ?_; rintro _ w2 ⟨rfl, hb⟩; rw [callK_ret]; replace hs := Sat.add hs (Below.sat hb); clear hb; (try clear w); rename World => w; try simp only [cls] at hs
        clear q2
        by_cases he : e = 0
        · rw [if_neg (by omega)] at hR
          by_cases hlv : lv = 0
          · rw [if_neg (by omega)] at hR
            unfold Lk.fs at hR
            dsimp only at hR
            (repeat (first | (simp (disch := first | omega | assumption | exact Option.isSome_some | (simp only [adO_isSome]; assumption)) only [↓vcp, vcs, vct, if_true, if_false, Nat.reduceBEq, ↓reduceIte, Nat.reduceEqDiff, Nat.reduceAdd, Nat.reduceMul, Nat.reduceSub, Int.reduceToNat, reduceCtorEq, Nat.reduceLT, Nat.reduceLeDiff, Int.reduceSub, Int.reduceAdd, Int.reduceNeg, Sat.look hs, Sat.lookA hs]) | (refine khK he hs ?_; clear he; intro he) | ((first | refine stK hs ?_ | refine stFK hs ?_ | refine stAK hs ?_ | refine msK hs ?_); clear hs; (try clear w); rintro w hs; try simp only [cls] at hs) | ((first | refine al_ok hs ?_ | refine bx_ok hs ?_ | refine bsvK hs ?_ | refine bs1_ok hs ?_ | refine bs0_ok hs ?_); clear hs; (try clear w); rintro _ w hs; try simp only [cls] at hs)))
            exact ret_cellT (sz := 4) rfl (by rfl) (hs.cellsBk 0 rfl rfl (by omega)) (hR _ _ ⟨rfl, hs.belowAt⟩)
          · rw [if_pos hlv] at hR
            dsimp only at hR
            rw [hz] at hR
            (repeat (first | (simp (disch := first | omega | assumption | exact Option.isSome_some | (simp only [adO_isSome]; assumption)) only [↓vcp, vcs, vct, if_true, if_false, Nat.reduceBEq, ↓reduceIte, Nat.reduceEqDiff, Nat.reduceAdd, Nat.reduceMul, Nat.reduceSub, Int.reduceToNat, reduceCtorEq, Nat.reduceLT, Nat.reduceLeDiff, Int.reduceSub, Int.reduceAdd, Int.reduceNeg, Sat.look hs, Sat.lookA hs]) | (refine khK he hs ?_; clear he; intro he) | ((first | refine stK hs ?_ | refine stFK hs ?_ | refine stAK hs ?_ | refine msK hs ?_); clear hs; (try clear w); rintro w hs; try simp only [cls] at hs) | ((first | refine al_ok hs ?_ | refine bx_ok hs ?_ | refine bsvK hs ?_ | refine bs1_ok hs ?_ | refine bs0_ok hs ?_); clear hs; (try clear w); rintro _ w hs; try simp only [cls] at hs)))
            exact ret_cellT (sz := 4) rfl (by rfl) (hs.cellsBk 0 rfl rfl (by omega)) (hR _ _ ⟨rfl, hs.belowAt⟩)
        · rw [if_pos he] at hR
          dsimp only at hR
          rw [hz] at hR
          (repeat (first | (simp (disch := first | omega | assumption | exact Option.isSome_some | (simp only [adO_isSome]; assumption)) only [↓vcp, vcs, vct, if_true, if_false, Nat.reduceBEq, ↓reduceIte, Nat.reduceEqDiff, Nat.reduceAdd, Nat.reduceMul, Nat.reduceSub, Int.reduceToNat, reduceCtorEq, Nat.reduceLT, Nat.reduceLeDiff, Int.reduceSub, Int.reduceAdd, Int.reduceNeg, Sat.look hs, Sat.lookA hs]) | (refine khK he hs ?_; clear he; intro he) | ((first | refine stK hs ?_ | refine stFK hs ?_ | refine stAK hs ?_ | refine msK hs ?_); clear hs; (try clear w); rintro w hs; try simp only [cls] at hs) | ((first | refine al_ok hs ?_ | refine bx_ok hs ?_ | refine bsvK hs ?_ | refine bs1_ok hs ?_ | refine bs0_ok hs ?_); clear hs; (try clear w); rintro _ w hs; try simp only [cls] at hs)))
          exact ret_cellT (sz := 4) rfl (by rfl) (hs.cellsBk 0 rfl rfl (by omega)) (hR _ _ ⟨rfl, hs.belowAt⟩)
    have n81 : (x.toNat : Int) ≠ 81 := fun h => h81 (UInt8.toNat_inj.1 (by show x.toNat = 81; omega))
    rw [if_neg h81] at hR
    by_cases h102 : x = 102
    · rw [if_pos h102] at hR
      subst h102
      have hx : ((102 : UInt8).toNat : Int) = 102 := rfl
      (repeat (first | (simp (disch := first | omega | assumption | exact Option.isSome_some | (simp only [adO_isSome]; assumption)) only [↓vcp, vcs, vct, if_true, if_false, Nat.reduceBEq, ↓reduceIte, Nat.reduceEqDiff, Nat.reduceAdd, Nat.reduceMul, Nat.reduceSub, Int.reduceToNat, reduceCtorEq, Nat.reduceLT, Nat.reduceLeDiff, Int.reduceSub, Int.reduceAdd, Int.reduceNeg, Sat.look hs, Sat.lookA hs, hsz, hne, hbt, hx]) | (refine khK he hs ?_; clear he; intro he) | ((first | refine stK hs ?_ | refine stFK hs ?_ | refine stAK hs ?_ | refine msK hs ?_); clear hs; (try clear w); rintro w hs; try simp only [cls] at hs) | ((first | refine al_ok hs ?_ | refine bx_ok hs ?_ | refine bsvK hs ?_ | refine bs1_ok hs ?_ | refine bs0_ok hs ?_); clear hs; (try clear w); rintro _ w hs; try simp only [cls] at hs)))
      rw [m_sliceStr (102 :: t) .i64 1 (by omega) (by simp only [List.length_cons]; omega), show List.drop (Int.toNat 1) (102 :: t) = t from rfl]
      (repeat (first | (simp (disch := first | omega | assumption | exact Option.isSome_some | (simp only [adO_isSome]; assumption)) only [↓vcp, vcs, vct, if_true, if_false, Nat.reduceBEq, ↓reduceIte, Nat.reduceEqDiff, Nat.reduceAdd, Nat.reduceMul, Nat.reduceSub, Int.reduceToNat, reduceCtorEq, Nat.reduceLT, Nat.reduceLeDiff, Int.reduceSub, Int.reduceAdd, Int.reduceNeg, Sat.look hs, Sat.lookA hs]) | (refine khK he hs ?_; clear he; intro he) | ((first | refine stK hs ?_ | refine stFK hs ?_ | refine stAK hs ?_ | refine msK hs ?_); clear hs; (try clear w); rintro w hs; try simp only [cls] at hs) | ((first | refine al_ok hs ?_ | refine bx_ok hs ?_ | refine bsvK hs ?_ | refine bs1_ok hs ?_ | refine bs0_ok hs ?_); clear hs; (try clear w); rintro _ w hs; try simp only [cls] at hs)))
      have q1 := inBits_calls w t 1 4 (by decide) (by decide) (by decide) apart16b (by omega)
      rw [show dgs 1 = d16 from rfl] at q1
      have hrl : (gatherL 4 d16 t).1.length ≤ 153 := Nat.le_trans (gatherL_len 4 d16 t) (by omega)
      refine call_ok (by kernel_rfl) (q1) ?_; rintro _ w2 ⟨a1, c1, rfl, hc1, hb⟩; rw [callK_ret]; replace hs := Sat.add hs hb; clear hb; (try clear w); rename World => w; try simp only [cls] at hs
      clear q1
      generalize gatherL 4 d16 t = r at *
      obtain ⟨B, g⟩ := r
      dsimp only at hc1 hs hrl
      unfold lrd at hR
      cases g with
      | false =>
        rw [if_pos rfl] at hR
        dsimp only at hR
        rw [hz] at hR
        (repeat (first | (simp (disch := first | omega | assumption | exact Option.isSome_some | (simp only [adO_isSome]; assumption)) only [↓vcp, vcs, vct, if_true, if_false, Nat.reduceBEq, ↓reduceIte, Nat.reduceEqDiff, Nat.reduceAdd, Nat.reduceMul, Nat.reduceSub, Int.reduceToNat, reduceCtorEq, Nat.reduceLT, Nat.reduceLeDiff, Int.reduceSub, Int.reduceAdd, Int.reduceNeg, Sat.look hs, Sat.lookA hs]) | (refine khK he hs ?_; clear he; intro he) | ((first | refine stK hs ?_ | refine stFK hs ?_ | refine stAK hs ?_ | refine msK hs ?_); clear hs; (try clear w); rintro w hs; try simp only [cls] at hs) | ((first | refine al_ok hs ?_ | refine bx_ok hs ?_ | refine bsvK hs ?_ | refine bs1_ok hs ?_ | refine bs0_ok hs ?_); clear hs; (try clear w); rintro _ w hs; try simp only [cls] at hs)))
        exact ret_cellT (sz := 4) rfl (by rfl) (hs.cellsBk 0 rfl rfl (by omega)) (hR _ _ ⟨rfl, hs.belowAt⟩)
      | true =>
        rw [if_neg (by simp)] at hR
        dsimp only at hR
        (repeat (first | (simp (disch := first | omega | assumption | exact Option.isSome_some | (simp only [adO_isSome]; assumption)) only [↓vcp, vcs, vct, if_true, if_false, Nat.reduceBEq, ↓reduceIte, Nat.reduceEqDiff, Nat.reduceAdd, Nat.reduceMul, Nat.reduceSub, Int.reduceToNat, reduceCtorEq, Nat.reduceLT, Nat.reduceLeDiff, Int.reduceSub, Int.reduceAdd, Int.reduceNeg, Sat.look hs, Sat.lookA hs]) | (refine khK he hs ?_; clear he; intro he) | ((first | refine stK hs ?_ | refine stFK hs ?_ | refine stAK hs ?_ | refine msK hs ?_); clear hs; (try clear w); rintro w hs; try simp only [cls] at hs) | ((first | refine al_ok hs ?_ | refine bx_ok hs ?_ | refine bsvK hs ?_ | refine bs1_ok hs ?_ | refine bs0_ok hs ?_); clear hs; (try clear w); rintro _ w hs; try simp only [cls] at hs)))
        have q2 := RParse_calls w a1 c1 B hs.ro hc1 (by omega)
        generalize lparse B = Pr at *
        obtain ⟨⟨lv, lc, lh, ld⟩, e⟩ := Pr
        unfold Lk.fs at q2
        dsimp only at q2 hR
        refine call_ok (by kernel_rfl) (q2) ?_; rintro _ w2 ⟨rfl, hb⟩; rw [callK_ret]; replace hs := Sat.add hs (Below.sat hb); clear hb; (try clear w); rename World => w; try simp only [cls] at hs
        clear q2
        by_cases he : e = 0
        · rw [if_neg (by omega)] at hR
          by_cases hlv : lv = 1
          · rw [if_neg (by omega)] at hR
            unfold Lk.fs at hR
            dsimp only at hR
            (repeat (first | (simp (disch := first | omega | assumption | exact Option.isSome_some | (simp only [adO_isSome]; assumption)) only [↓vcp, vcs, vct, if_true, if_false, Nat.reduceBEq, ↓reduceIte, Nat.reduceEqDiff, Nat.reduceAdd, Nat.reduceMul, Nat.reduceSub, Int.reduceToNat, reduceCtorEq, Nat.reduceLT, Nat.reduceLeDiff, Int.reduceSub, Int.reduceAdd, Int.reduceNeg, Sat.look hs, Sat.lookA hs]) | (refine khK he hs ?_; clear he; intro he) | ((first | refine stK hs ?_ | refine stFK hs ?_ | refine stAK hs ?_ | refine msK hs ?_); clear hs; (try clear w); rintro w hs; try simp only [cls] at hs) | ((first | refine al_ok hs ?_ | refine bx_ok hs ?_ | refine bsvK hs ?_ | refine bs1_ok hs ?_ | refine bs0_ok hs ?_); clear hs; (try clear w); rintro _ w hs; try simp only [cls] at hs)))
            exact ret_cellT (sz := 4) rfl (by rfl) (hs.cellsBk 0 rfl rfl (by omega)) (hR _ _ ⟨rfl, hs.belowAt⟩)
          · rw [if_pos hlv] at hR
            dsimp only at hR
            rw [hz] at hR
            (repeat (first | (simp (disch := first | omega | assumption | exact Option.isSome_some | (simp only [adO_isSome]; assumption)) only [↓vcp, vcs, vct, if_true, if_false, Nat.reduceBEq, ↓reduceIte, Nat.reduceEqDiff, Nat.reduceAdd, Nat.reduceMul, Nat.reduceSub, Int.reduceToNat, reduceCtorEq, Nat.reduceLT, Nat.reduceLeDiff, Int.reduceSub, Int.reduceAdd, Int.reduceNeg, Sat.look hs, Sat.lookA hs]) | (refine khK he hs ?_; clear he; intro he) | ((first | refine stK hs ?_ | refine stFK hs ?_ | refine stAK hs ?_ | refine msK hs ?_); clear hs; (try clear w); rintro w hs; try simp only [cls] at hs) | ((first | refine al_ok hs ?_ | refine bx_ok hs ?_ | refine bsvK hs ?_ | refine bs1_ok hs ?_ | refine bs0_ok hs ?_); clear hs; (try clear w); rintro _ w hs; try simp only [cls] at hs)))
            exact ret_cellT (sz := 4) rfl (by rfl) (hs.cellsBk 0 rfl rfl (by omega)) (hR _ _ ⟨rfl, hs.belowAt⟩)
        · rw [if_pos he] at hR
          dsimp only at hR
          rw [hz] at hR
          (repeat (first | (simp (disch := first | omega | assumption | exact Option.isSome_some | (simp only [adO_isSome]; assumption)) only [↓vcp, vcs, vct, if_true, if_false, Nat.reduceBEq, ↓reduceIte, Nat.reduceEqDiff, Nat.reduceAdd, Nat.reduceMul, Nat.reduceSub, Int.reduceToNat, reduceCtorEq, Nat.reduceLT, Nat.reduceLeDiff, Int.reduceSub, Int.reduceAdd, Int.reduceNeg, Sat.look hs, Sat.lookA hs]) | (refine khK he hs ?_; clear he; intro he) | ((first | refine stK hs ?_ | refine stFK hs ?_ | refine stAK hs ?_ | refine msK hs ?_); clear hs; (try clear w); rintro w hs; try simp only [cls] at hs) | ((first | refine al_ok hs ?_ | refine bx_ok hs ?_ | refine bsvK hs ?_ | refine bs1_ok hs ?_ | refine bs0_ok hs ?_); clear hs; (try clear w); rintro _ w hs; try simp only [cls] at hs)))
          exact ret_cellT (sz := 4) rfl (by rfl) (hs.cellsBk 0 rfl rfl (by omega)) (hR _ _ ⟨rfl, hs.belowAt⟩)
    have n102 : (x.toNat : Int) ≠ 102 := fun h => h102 (UInt8.toNat_inj.1 (by show x.toNat = 102; omega))
    rw [if_neg h102] at hR
    by_cases h98 : x = 98
    · rw [if_pos h98] at hR
      subst h98
      have hx : ((98 : UInt8).toNat : Int) = 98 := rfl
      (repeat (first | (simp (disch := first | omega | assumption | exact Option.isSome_some | (simp only [adO_isSome]; assumption)) only [↓vcp, vcs, vct, if_true, if_false, Nat.reduceBEq, ↓reduceIte, Nat.reduceEqDiff, Nat.reduceAdd, Nat.reduceMul, Nat.reduceSub, Int.reduceToNat, reduceCtorEq, Nat.reduceLT, Nat.reduceLeDiff, Int.reduceSub, Int.reduceAdd, Int.reduceNeg, Sat.look hs, Sat.lookA hs, hsz, hne, hbt, hx]) | (refine khK he hs ?_; clear he; intro he) | ((first | refine stK hs ?_ | refine stFK hs ?_ | refine stAK hs ?_ | refine msK hs ?_); clear hs; (try clear w); rintro w hs; try simp only [cls] at hs) | ((first | refine al_ok hs ?_ | refine bx_ok hs ?_ | refine bsvK hs ?_ | refine bs1_ok hs ?_ | refine bs0_ok hs ?_); clear hs; (try clear w); rintro _ w hs; try simp only [cls] at hs)))
      rw [m_sliceStr (98 :: t) .i64 1 (by omega) (by simp only [List.length_cons]; omega), show List.drop (Int.toNat 1) (98 :: t) = t from rfl]
      (repeat (first | (simp (disch := first | omega | assumption | exact Option.isSome_some | (simp only [adO_isSome]; assumption)) only [↓vcp, vcs, vct, if_true, if_false, Nat.reduceBEq, ↓reduceIte, Nat.reduceEqDiff, Nat.reduceAdd, Nat.reduceMul, Nat.reduceSub, Int.reduceToNat, reduceCtorEq, Nat.reduceLT, Nat.reduceLeDiff, Int.reduceSub, Int.reduceAdd, Int.reduceNeg, Sat.look hs, Sat.lookA hs]) | (refine khK he hs ?_; clear he; intro he) | ((first | refine stK hs ?_ | refine stFK hs ?_ | refine stAK hs ?_ | refine msK hs ?_); clear hs; (try clear w); rintro w hs; try simp only [cls] at hs) | ((first | refine al_ok hs ?_ | refine bx_ok hs ?_ | refine bsvK hs ?_ | refine bs1_ok hs ?_ | refine bs0_ok hs ?_); clear hs; (try clear w); rintro _ w hs; try simp only [cls] at hs)))
      have q1 := inBits_calls w t 2 5 (by decide) (by decide) (by decide) apart32b (by omega)
      rw [show dgs 2 = d32 from rfl] at q1
      have hrl : (gatherL 5 d32 t).1.length ≤ 153 := Nat.le_trans (gatherL_len 5 d32 t) (by omega)
      refine call_ok (by kernel_rfl) (q1) ?_; rintro _ w2 ⟨a1, c1, rfl, hc1, hb⟩; rw [callK_ret]; replace hs := Sat.add hs hb; clear hb; (try clear w); rename World => w; try simp only [cls] at hs
      clear q1
      generalize gatherL 5 d32 t = r at *
      obtain ⟨B, g⟩ := r
      dsimp only at hc1 hs hrl
      unfold lrd at hR
      cases g with
      | false =>
        rw [if_pos rfl] at hR
        dsimp only at hR
        rw [hz] at hR
        (repeat (first | (simp (disch := first | omega | assumption | exact Option.isSome_some | (simp only [adO_isSome]; assumption)) only [↓vcp, vcs, vct, if_true, if_false, Nat.reduceBEq, ↓reduceIte, Nat.reduceEqDiff, Nat.reduceAdd, Nat.reduceMul, Nat.reduceSub, Int.reduceToNat, reduceCtorEq, Nat.reduceLT, Nat.reduceLeDiff, Int.reduceSub, Int.reduceAdd, Int.reduceNeg, Sat.look hs, Sat.lookA hs]) | (refine khK he hs ?_; clear he; intro he) | ((first | refine stK hs ?_ | refine stFK hs ?_ | refine stAK hs ?_ | refine msK hs ?_); clear hs; (try clear w); rintro w hs; try simp only [cls] at hs) | ((first | refine al_ok hs ?_ | refine bx_ok hs ?_ | refine bsvK hs ?_ | refine bs1_ok hs ?_ | refine bs0_ok hs ?_); clear hs; (try clear w); rintro _ w hs; try simp only [cls] at hs)))
        exact ret_cellT (sz := 4) rfl (by rfl) (hs.cellsBk 0 rfl rfl (by omega)) (hR _ _ ⟨rfl, hs.belowAt⟩)
      | true =>
        rw [if_neg (by simp)] at hR
        dsimp only at hR
        (repeat (first | (simp (disch := first | omega | assumption | exact Option.isSome_some | (simp only [adO_isSome]; assumption)) only [↓vcp, vcs, vct, if_true, if_false, Nat.reduceBEq, ↓reduceIte, Nat.reduceEqDiff, Nat.reduceAdd, Nat.reduceMul, Nat.reduceSub, Int.reduceToNat, reduceCtorEq, Nat.reduceLT, Nat.reduceLeDiff, Int.reduceSub, Int.reduceAdd, Int.reduceNeg, Sat.look hs, Sat.lookA hs]) | (refine khK he hs ?_; clear he; intro he) | ((first | refine stK hs ?_ | refine stFK hs ?_ | refine stAK hs ?_ | refine msK hs ?_); clear hs; (try clear w); rintro w hs; try simp only [cls] at hs) | ((first | refine al_ok hs ?_ | refine bx_ok hs ?_ | refine bsvK hs ?_ | refine bs1_ok hs ?_ | refine bs0_ok hs ?_); clear hs; (try clear w); rintro _ w hs; try simp only [cls] at hs)))
        have q2 := RParse_calls w a1 c1 B hs.ro hc1 (by omega)
        generalize lparse B = Pr at *
        obtain ⟨⟨lv, lc, lh, ld⟩, e⟩ := Pr
        unfold Lk.fs at q2
        dsimp only at q2 hR
        refine call_ok (by kernel_rfl) (q2) ?_; rintro _ w2 ⟨rfl, hb⟩; rw [callK_ret]; replace hs := Sat.add hs (Below.sat hb); clear hb; (try clear w); rename World => w; try simp only [cls] at hs
        clear q2
        by_cases he : e = 0
        · rw [if_neg (by omega)] at hR
          by_cases hlv : lv = 1
          · rw [if_neg (by omega)] at hR
            unfold Lk.fs at hR
            dsimp only at hR
            (repeat (first | (simp (disch := first | omega | assumption | exact Option.isSome_some | (simp only [adO_isSome]; assumption)) only [↓vcp, vcs, vct, if_true, if_false, Nat.reduceBEq, ↓reduceIte, Nat.reduceEqDiff, Nat.reduceAdd, Nat.reduceMul, Nat.reduceSub, Int.reduceToNat, reduceCtorEq, Nat.reduceLT, Nat.reduceLeDiff, Int.reduceSub, Int.reduceAdd, Int.reduceNeg, Sat.look hs, Sat.lookA hs]) | (refine khK he hs ?_; clear he; intro he) | ((first | refine stK hs ?_ | refine stFK hs ?_ | refine stAK hs ?_ | refine msK hs ?_); clear hs; (try clear w); rintro w hs; try simp only [cls] at hs) | ((first | refine al_ok hs ?_ | refine bx_ok hs ?_ | refine bsvK hs ?_ | refine bs1_ok hs ?_ | refine bs0_ok hs ?_); clear hs; (try clear w); rintro _ w hs; try simp only [cls] at hs)))
            exact ret_cellT (sz := 4) rfl (by rfl) (hs.cellsBk 0 rfl rfl (by omega)) (hR _ _ ⟨rfl, hs.belowAt⟩)
          · rw [if_pos hlv] at hR
            dsimp only at hR
            rw [hz] at hR
            (repeat (first | (simp (disch := first | omega | assumption | exact Option.isSome_some | (simp only [adO_isSome]; assumption)) only [↓vcp, vcs, vct, if_true, if_false, Nat.reduceBEq, ↓reduceIte, Nat.reduceEqDiff, Nat.reduceAdd, Nat.reduceMul, Nat.reduceSub, Int.reduceToNat, reduceCtorEq, Nat.reduceLT, Nat.reduceLeDiff, Int.reduceSub, Int.reduceAdd, Int.reduceNeg, Sat.look hs, Sat.lookA hs]) | (refine khK he hs ?_; clear he; intro he) | ((first | refine stK hs ?_ | refine stFK hs ?_ | refine stAK hs ?_ | refine msK hs ?_); clear hs; (try clear w); rintro w hs; try simp only [cls] at hs) | ((first | refine al_ok hs ?_ | refine bx_ok hs ?_ | refine bsvK hs ?_ | refine bs1_ok hs ?_ | refine bs0_ok hs ?_); clear hs; (try clear w); rintro _ w hs; try simp only [cls] at hs)))
            exact ret_cellT (sz := 4) rfl (by rfl) (hs.cellsBk 0 rfl rfl (by omega)) (hR _ _ ⟨rfl, hs.belowAt⟩)
        · rw [if_pos he] at hR
          dsimp only at hR
          rw [hz] at hR
          (repeat (first | (simp (disch := first | omega | assumption | exact Option.isSome_some | (simp only [adO_isSome]; assumption)) only [↓vcp, vcs, vct, if_true, if_false, Nat.reduceBEq, ↓reduceIte, Nat.reduceEqDiff, Nat.reduceAdd, Nat.reduceMul, Nat.reduceSub, Int.reduceToNat, reduceCtorEq, Nat.reduceLT, Nat.reduceLeDiff, Int.reduceSub, Int.reduceAdd, Int.reduceNeg, Sat.look hs, Sat.lookA hs]) | (refine khK he hs ?_; clear he; intro he) | ((first | refine stK hs ?_ | refine stFK hs ?_ | refine stAK hs ?_ | refine msK hs ?_); clear hs; (try clear w); rintro w hs; try simp only [cls] at hs) | ((first | refine al_ok hs ?_ | refine bx_ok hs ?_ | refine bsvK hs ?_ | refine bs1_ok hs ?_ | refine bs0_ok hs ?_); clear hs; (try clear w); rintro _ w hs; try simp only [cls] at hs)))
          exact ret_cellT (sz := 4) rfl (by rfl) (hs.cellsBk 0 rfl rfl (by omega)) (hR _ _ ⟨rfl, hs.belowAt⟩)
    have n98 : (x.toNat : Int) ≠ 98 := fun h => h98 (UInt8.toNat_inj.1 (by show x.toNat = 98; omega))
    rw [if_neg h98] at hR
    by_cases h122 : x = 122
    · rw [if_pos h122] at hR
      subst h122
      have hx : ((122 : UInt8).toNat : Int) = 122 := rfl
      (repeat (first | (simp (disch := first | omega | assumption | exact Option.isSome_some | (simp only [adO_isSome]; assumption)) only [↓vcp, vcs, vct, if_true, if_false, Nat.reduceBEq, ↓reduceIte, Nat.reduceEqDiff, Nat.reduceAdd, Nat.reduceMul, Nat.reduceSub, Int.reduceToNat, reduceCtorEq, Nat.reduceLT, Nat.reduceLeDiff, Int.reduceSub, Int.reduceAdd, Int.reduceNeg, Sat.look hs, Sat.lookA hs, hsz, hne, hbt, hx]) | (refine khK he hs ?_; clear he; intro he) | ((first | refine stK hs ?_ | refine stFK hs ?_ | refine stAK hs ?_ | refine msK hs ?_); clear hs; (try clear w); rintro w hs; try simp only [cls] at hs) | ((first | refine al_ok hs ?_ | refine bx_ok hs ?_ | refine bsvK hs ?_ | refine bs1_ok hs ?_ | refine bs0_ok hs ?_); clear hs; (try clear w); rintro _ w hs; try simp only [cls] at hs)))
      rw [m_sliceStr (122 :: t) .i64 1 (by omega) (by simp only [List.length_cons]; omega), show List.drop (Int.toNat 1) (122 :: t) = t from rfl]
      (repeat (first | (simp (disch := first | omega | assumption | exact Option.isSome_some | (simp only [adO_isSome]; assumption)) only [↓vcp, vcs, vct, if_true, if_false, Nat.reduceBEq, ↓reduceIte, Nat.reduceEqDiff, Nat.reduceAdd, Nat.reduceMul, Nat.reduceSub, Int.reduceToNat, reduceCtorEq, Nat.reduceLT, Nat.reduceLeDiff, Int.reduceSub, Int.reduceAdd, Int.reduceNeg, Sat.look hs, Sat.lookA hs]) | (refine khK he hs ?_; clear he; intro he) | ((first | refine stK hs ?_ | refine stFK hs ?_ | refine stAK hs ?_ | refine msK hs ?_); clear hs; (try clear w); rintro w hs; try simp only [cls] at hs) | ((first | refine al_ok hs ?_ | refine bx_ok hs ?_ | refine bsvK hs ?_ | refine bs1_ok hs ?_ | refine bs0_ok hs ?_); clear hs; (try clear w); rintro _ w hs; try simp only [cls] at hs)))
      have q1 := in58_calls w t (by omega)
      have hrl : (dec58 t).1.length ≤ 153 := Nat.le_trans (dec58_len _) (by omega)
      refine call_ok (by kernel_rfl) (q1) ?_; rintro _ w2 ⟨a1, c1, rfl, hc1, hb⟩; rw [callK_ret]; replace hs := Sat.add hs hb; clear hb; (try clear w); rename World => w; try simp only [cls] at hs
      clear q1
      generalize dec58 t = r at *
      obtain ⟨B, g⟩ := r
      dsimp only at hc1 hs hrl
      unfold lrd at hR
      cases g with
      | false =>
        rw [if_pos rfl] at hR
        dsimp only at hR
        rw [hz] at hR
        (repeat (first | (simp (disch := first | omega | assumption | exact Option.isSome_some | (simp only [adO_isSome]; assumption)) only [↓vcp, vcs, vct, if_true, if_false, Nat.reduceBEq, ↓reduceIte, Nat.reduceEqDiff, Nat.reduceAdd, Nat.reduceMul, Nat.reduceSub, Int.reduceToNat, reduceCtorEq, Nat.reduceLT, Nat.reduceLeDiff, Int.reduceSub, Int.reduceAdd, Int.reduceNeg, Sat.look hs, Sat.lookA hs]) | (refine khK he hs ?_; clear he; intro he) | ((first | refine stK hs ?_ | refine stFK hs ?_ | refine stAK hs ?_ | refine msK hs ?_); clear hs; (try clear w); rintro w hs; try simp only [cls] at hs) | ((first | refine al_ok hs ?_ | refine bx_ok hs ?_ | refine bsvK hs ?_ | refine bs1_ok hs ?_ | refine bs0_ok hs ?_); clear hs; (try clear w); rintro _ w hs; try simp only [cls] at hs)))
        exact ret_cellT (sz := 4) rfl (by rfl) (hs.cellsBk 0 rfl rfl (by omega)) (hR _ _ ⟨rfl, hs.belowAt⟩)
      | true =>
        rw [if_neg (by simp)] at hR
        dsimp only at hR
        (repeat (first | (simp (disch := first | omega | assumption | exact Option.isSome_some | (simp only [adO_isSome]; assumption)) only [↓vcp, vcs, vct, if_true, if_false, Nat.reduceBEq, ↓reduceIte, Nat.reduceEqDiff, Nat.reduceAdd, Nat.reduceMul, Nat.reduceSub, Int.reduceToNat, reduceCtorEq, Nat.reduceLT, Nat.reduceLeDiff, Int.reduceSub, Int.reduceAdd, Int.reduceNeg, Sat.look hs, Sat.lookA hs]) | (refine khK he hs ?_; clear he; intro he) | ((first | refine stK hs ?_ | refine stFK hs ?_ | refine stAK hs ?_ | refine msK hs ?_); clear hs; (try clear w); rintro w hs; try simp only [cls] at hs) | ((first | refine al_ok hs ?_ | refine bx_ok hs ?_ | refine bsvK hs ?_ | refine bs1_ok hs ?_ | refine bs0_ok hs ?_); clear hs; (try clear w); rintro _ w hs; try simp only [cls] at hs)))
        have q2 := RParse_calls w a1 c1 B hs.ro hc1 (by omega)
        generalize lparse B = Pr at *
        obtain ⟨⟨lv, lc, lh, ld⟩, e⟩ := Pr
        unfold Lk.fs at q2
        dsimp only at q2 hR
        refine call_ok (by kernel_rfl) (q2) ?_; rintro _ w2 ⟨rfl, hb⟩; rw [callK_ret]; replace hs := Sat.add hs (Below.sat hb); clear hb; (try clear w); rename World => w; try simp only [cls] at hs
        clear q2
        by_cases he : e = 0
        · rw [if_neg (by omega)] at hR
          by_cases hlv : lv = 1
          · rw [if_neg (by omega)] at hR
            unfold Lk.fs at hR
            dsimp only at hR
            (repeat (first | (simp (disch := first | omega | assumption | exact Option.isSome_some | (simp only [adO_isSome]; assumption)) only [↓vcp, vcs, vct, if_true, if_false, Nat.reduceBEq, ↓reduceIte, Nat.reduceEqDiff, Nat.reduceAdd, Nat.reduceMul, Nat.reduceSub, Int.reduceToNat, reduceCtorEq, Nat.reduceLT, Nat.reduceLeDiff, Int.reduceSub, Int.reduceAdd, Int.reduceNeg, Sat.look hs, Sat.lookA hs]) | (refine khK he hs ?_; clear he; intro he) | ((first | refine stK hs ?_ | refine stFK hs ?_ | refine stAK hs ?_ | refine msK hs ?_); clear hs; (try clear w); rintro w hs; try simp only [cls] at hs) | ((first | refine al_ok hs ?_ | refine bx_ok hs ?_ | refine bsvK hs ?_ | refine bs1_ok hs ?_ | refine bs0_ok hs ?_); clear hs; (try clear w); rintro _ w hs; try simp only [cls] at hs)))
            exact ret_cellT (sz := 4) rfl (by rfl) (hs.cellsBk 0 rfl rfl (by omega)) (hR _ _ ⟨rfl, hs.belowAt⟩)
          · rw [if_pos hlv] at hR
            dsimp only at hR
            rw [hz] at hR
            (repeat (first | (simp (disch := first | omega | assumption | exact Option.isSome_some | (simp only [adO_isSome]; assumption)) only [↓vcp, vcs, vct, if_true, if_false, Nat.reduceBEq, ↓reduceIte, Nat.reduceEqDiff, Nat.reduceAdd, Nat.reduceMul, Nat.reduceSub, Int.reduceToNat, reduceCtorEq, Nat.reduceLT, Nat.reduceLeDiff, Int.reduceSub, Int.reduceAdd, Int.reduceNeg, Sat.look hs, Sat.lookA hs]) | (refine khK he hs ?_; clear he; intro he) | ((first | refine stK hs ?_ | refine stFK hs ?_ | refine stAK hs ?_ | refine msK hs ?_); clear hs; (try clear w); rintro w hs; try simp only [cls] at hs) | ((first | refine al_ok hs ?_ | refine bx_ok hs ?_ | refine bsvK hs ?_ | refine bs1_ok hs ?_ | refine bs0_ok hs ?_); clear hs; (try clear w); rintro _ w hs; try simp only [cls] at hs)))
            exact ret_cellT (sz := 4) rfl (by rfl) (hs.cellsBk 0 rfl rfl (by omega)) (hR _ _ ⟨rfl, hs.belowAt⟩)
        · rw [if_pos he] at hR
          dsimp only at hR
          rw [hz] at hR
          (repeat (first | (simp (disch := first | omega | assumption | exact Option.isSome_some | (simp only [adO_isSome]; assumption)) only [↓vcp, vcs, vct, if_true, if_false, Nat.reduceBEq, ↓reduceIte, Nat.reduceEqDiff, Nat.reduceAdd, Nat.reduceMul, Nat.reduceSub, Int.reduceToNat, reduceCtorEq, Nat.reduceLT, Nat.reduceLeDiff, Int.reduceSub, Int.reduceAdd, Int.reduceNeg, Sat.look hs, Sat.lookA hs]) | (refine khK he hs ?_; clear he; intro he) | ((first | refine stK hs ?_ | refine stFK hs ?_ | refine stAK hs ?_ | refine msK hs ?_); clear hs; (try clear w); rintro w hs; try simp only [cls] at hs) | ((first | refine al_ok hs ?_ | refine bx_ok hs ?_ | refine bsvK hs ?_ | refine bs1_ok hs ?_ | refine bs0_ok hs ?_); clear hs; (try clear w); rintro _ w hs; try simp only [cls] at hs)))
          exact ret_cellT (sz := 4) rfl (by rfl) (hs.cellsBk 0 rfl rfl (by omega)) (hR _ _ ⟨rfl, hs.belowAt⟩)
    have n122 : (x.toNat : Int) ≠ 122 := fun h => h122 (UInt8.toNat_inj.1 (by show x.toNat = 122; omega))
    rw [if_neg h122] at hR
    dsimp only at hR
    rw [hz] at hR
    (repeat (first | (simp (disch := first | omega | assumption | exact Option.isSome_some | (simp only [adO_isSome]; assumption)) only [↓vcp, vcs, vct, if_true, if_false, Nat.reduceBEq, ↓reduceIte, Nat.reduceEqDiff, Nat.reduceAdd, Nat.reduceMul, Nat.reduceSub, Int.reduceToNat, reduceCtorEq, Nat.reduceLT, Nat.reduceLeDiff, Int.reduceSub, Int.reduceAdd, Int.reduceNeg, Sat.look hs, Sat.lookA hs, hsz, hne, hbt]) | (refine khK he hs ?_; clear he; intro he) | ((first | refine stK hs ?_ | refine stFK hs ?_ | refine stAK hs ?_ | refine msK hs ?_); clear hs; (try clear w); rintro w hs; try simp only [cls] at hs) | ((first | refine al_ok hs ?_ | refine bx_ok hs ?_ | refine bsvK hs ?_ | refine bs1_ok hs ?_ | refine bs0_ok hs ?_); clear hs; (try clear w); rintro _ w hs; try simp only [cls] at hs)))
    exact ret_cellT (sz := 4) rfl (by rfl) (hs.cellsBk 0 rfl rfl (by omega)) (hR _ _ ⟨rfl, hs.belowAt⟩)
end Go.Proofs.YtokoohdpakhphaaDoor.Lnk
