/- Several texts in one. -/
import Derived.Test.YtokoohdpakhphaaDoorDig
import Derived.Test.YtokoohdpakhphaaDoorLnkO
import Derived.Test.YtokoohdpakhphaaDoorRefDig
namespace Go.Proofs.YtokoohdpakhphaaDoor.Dig
open Go VC Go.RowKit Sha Loan Varint Help
set_option linter.unusedSimpArgs false
set_option linter.unusedVariables false
set_option maxRecDepth 20000
set_option maxHeartbeats 4000000
theorem refsame_calls (w : World) (a b : Option Addr) (c d : Nat) (xs ys : List UInt8) (hx : RdB w w.heap.size a xs) (hy : RdB w w.heap.size b ys) (hxl : xs.length ≤ 140737488355328) :
    Calls Tryd.prog 76 #[.slice a xs.length c, .slice b ys.length d] w fun e w' => e = .returned (.bool (decide (xs = ys))) ∧ Below w.heap.size w w' := by
  refine calls_vc Tryd.func76 rfl (by kernel_rfl) (by kernel_rfl) ?_; intro R hR
  simp (disch := first | omega | assumption | exact Option.isSome_some | (simp only [adO_isSome]; assumption)) only [↓vcp, vcs, vcm, if_true, if_false, Nat.reduceBEq, ↓reduceIte, Nat.reduceEqDiff, Nat.reduceAdd, Nat.reduceMul, Nat.reduceSub, Int.reduceToNat, reduceCtorEq, Nat.reduceLT, Nat.reduceLeDiff, Int.reduceSub, Int.reduceAdd, Int.reduceNeg]
  by_cases hl : xs.length = ys.length
  case neg =>
    have hne : xs ≠ ys := fun e => hl (by rw [e])
    rw [decide_eq_false hne] at hR
    simp (disch := first | omega | assumption | exact Option.isSome_some | (simp only [adO_isSome]; assumption)) only [↓vcp, vcs, vcm, if_true, if_false, Nat.reduceBEq, ↓reduceIte, Nat.reduceEqDiff, Nat.reduceAdd, Nat.reduceMul, Nat.reduceSub, Int.reduceToNat, reduceCtorEq, Nat.reduceLT, Nat.reduceLeDiff, Int.reduceSub, Int.reduceAdd, Int.reduceNeg]
    exact ret_tmp rfl (hR _ _ ⟨rfl, Below.refl _ _⟩)
  case pos =>
    simp (disch := first | omega | assumption | exact Option.isSome_some | (simp only [adO_isSome]; assumption)) only [↓vcp, vcs, vcm, if_true, if_false, Nat.reduceBEq, ↓reduceIte, Nat.reduceEqDiff, Nat.reduceAdd, Nat.reduceMul, Nat.reduceSub, Int.reduceToNat, reduceCtorEq, Nat.reduceLT, Nat.reduceLeDiff, Int.reduceSub, Int.reduceAdd, Int.reduceNeg]
    refine loop_rule (σ := Nat) [5] (fun i => [.int .i64 i]) [0, 1] (fun i w' => i ≤ xs.length ∧ xs.take i = ys.take i ∧ Below w.heap.size w w') (fun i _ => xs.length - i) 0 (by kernel_rfl) rfl ⟨by omega, rfl, Below.refl _ _⟩ ?_
    rintro e i w1 ⟨hi, htk, hb⟩
    simp (disch := first | omega | assumption | exact Option.isSome_some | (simp only [adO_isSome]; assumption)) only [↓vcp, vcs, vcm, if_true, if_false, Nat.reduceBEq, ↓reduceIte, Nat.reduceEqDiff, Nat.reduceAdd, Nat.reduceMul, Nat.reduceSub, Int.reduceToNat, reduceCtorEq, Nat.reduceLT, Nat.reduceLeDiff, Int.reduceSub, Int.reduceAdd, Int.reduceNeg]
    by_cases hlt : i < xs.length
    case neg =>
      have heq : xs = ys := by
        have h1 : i = xs.length := by omega
        rw [h1, List.take_length, hl, List.take_length] at htk
        exact htk
      rw [decide_eq_true heq] at hR
      simp (disch := first | omega | assumption | exact Option.isSome_some | (simp only [adO_isSome]; assumption)) only [↓vcp, vcs, vcm, if_true, if_false, Nat.reduceBEq, ↓reduceIte, Nat.reduceEqDiff, Nat.reduceAdd, Nat.reduceMul, Nat.reduceSub, Int.reduceToNat, reduceCtorEq, Nat.reduceLT, Nat.reduceLeDiff, Int.reduceSub, Int.reduceAdd, Int.reduceNeg]
      exact ret_tmp rfl (hR _ _ ⟨rfl, hb⟩)
    case pos =>
      have hx1 := hx.below hb
      have hy1 := hy.below hb
      have h1 := RdB.cell hx1 hlt
      have h2 := RdB.cell hy1 (i := i) (by omega)
      have hs1 := RdB.isSome hx1 (by omega)
      have hs2 := RdB.isSome hy1 (by omega)
      simp (disch := first | omega | assumption | exact Option.isSome_some | (simp only [adO_isSome]; assumption)) only [↓vcp, vcs, vcm, if_true, if_false, Nat.reduceBEq, ↓reduceIte, Nat.reduceEqDiff, Nat.reduceAdd, Nat.reduceMul, Nat.reduceSub, Int.reduceToNat, reduceCtorEq, Nat.reduceLT, Nat.reduceLeDiff, Int.reduceSub, Int.reduceAdd, Int.reduceNeg, h1, h2]
      refine draw_quiet (by kernel_rfl) (by kernel_rfl) (by kernel_rfl) ?_
      simp (disch := first | omega | assumption | exact Option.isSome_some | (simp only [adO_isSome]; assumption)) only [↓vcp, vcs, vcm, if_true, if_false, Nat.reduceBEq, ↓reduceIte, Nat.reduceEqDiff, Nat.reduceAdd, Nat.reduceMul, Nat.reduceSub, Int.reduceToNat, reduceCtorEq, Nat.reduceLT, Nat.reduceLeDiff, Int.reduceSub, Int.reduceAdd, Int.reduceNeg, h1, h2]
      intro n
      by_cases hxy : xs[i] = ys[i]
      · have hn : xs[i].toNat = (ys[i]'(by omega)).toNat := by rw [hxy]
        simp (disch := first | omega | assumption | exact Option.isSome_some | (simp only [adO_isSome]; assumption)) only [↓vcp, vcs, vcm, if_true, if_false, Nat.reduceBEq, ↓reduceIte, Nat.reduceEqDiff, Nat.reduceAdd, Nat.reduceMul, Nat.reduceSub, Int.reduceToNat, reduceCtorEq, Nat.reduceLT, Nat.reduceLeDiff, Int.reduceSub, Int.reduceAdd, Int.reduceNeg]
        refine ⟨i + 1, by rfl, by rfl, ⟨by omega, ?_, below_drewN hb n⟩, by dsimp only; omega⟩
        rw [List.take_succ_eq_append_getElem hlt, List.take_succ_eq_append_getElem (by omega), htk, hxy]
      · have hn : xs[i].toNat ≠ (ys[i]'(by omega)).toNat := fun h => hxy (u8_inj h)
        have hne : xs ≠ ys := fun e => hxy (by simp [e])
        rw [decide_eq_false hne] at hR
        simp (disch := first | omega | assumption | exact Option.isSome_some | (simp only [adO_isSome]; assumption)) only [↓vcp, vcs, vcm, if_true, if_false, Nat.reduceBEq, ↓reduceIte, Nat.reduceEqDiff, Nat.reduceAdd, Nat.reduceMul, Nat.reduceSub, Int.reduceToNat, reduceCtorEq, Nat.reduceLT, Nat.reduceLeDiff, Int.reduceSub, Int.reduceAdd, Int.reduceNeg]
        exact ret_tmp rfl (hR _ _ ⟨rfl, below_drewN hb n⟩)
theorem RefHolds_calls (w0 : World) (hash : Nat) (a b : Option Addr) (c d : Nat) (ds xs : List UInt8) (hG : Ro (.at w0) (some ⟨1, 0, none⟩) (factors.map u32v)) (ha : Ro (.at w0) a (ds.map u8v)) (hy : Ro (.at w0) b (xs.map u8v)) (hc : xs.length ≤ d) (hdl : ds.length ≤ 140737488355328) (hl : xs.length ≤ 140737488351232) :
    Calls Tryd.prog 54 #[.int .u64 hash, .slice a ds.length c, .slice b xs.length d] w0 fun e w' => e = .returned (.bool (holdsB hash ds xs)) ∧ Below w0.heap.size w0 w' := by
  refine calls_vc Tryd.func54 rfl (by kernel_rfl) (by kernel_rfl) ?_; intro R hR
  have hs := Sat.start w0
  have hsl := sum_len xs
  by_cases h18 : hash = 18
  · have : holdsB hash ds xs = decide (ds = sum xs) := by unfold holdsB; simp [h18]
    rw [this] at hR
    generalize hsx : sum xs = sx at *
    have hsl' : (sx.map u8v).length = 32 := by rw [List.length_map]; exact hsl
    (repeat (first | (simp (disch := first | omega | assumption | exact Option.isSome_some | (simp only [adO_isSome]; assumption)) only [↓vcp, vcs, vct, if_true, if_false, Nat.reduceBEq, ↓reduceIte, Nat.reduceEqDiff, Nat.reduceAdd, Nat.reduceMul, Nat.reduceSub, Int.reduceToNat, reduceCtorEq, Nat.reduceLT, Nat.reduceLeDiff, Int.reduceSub, Int.reduceAdd, Int.reduceNeg, Sat.look hs, Sat.lookA hs]) | (refine khK he hs ?_; clear he; intro he) | ((first | refine stK hs ?_ | refine stFK hs ?_ | refine stAK hs ?_ | refine msK hs ?_); clear hs; (try clear w); rintro w hs; try simp only [cls] at hs) | ((first | refine al_ok hs ?_ | refine bx_ok hs ?_ | refine bsvK hs ?_ | refine bs1_ok hs ?_ | refine bs0_ok hs ?_); clear hs; (try clear w); rintro _ w hs; try simp only [cls] at hs)))
    have e1 := Sum_calls w0 b d xs (hy.up0 hs) hl
    rw [hsx] at e1
    refine call_ok (by kernel_rfl) (e1) ?_; rintro _ w2 ⟨rfl, hb⟩; rw [callK_ret]; replace hs := Sat.add hs (Below.sat hb); clear hb; (try clear w); rename World => w; try simp only [cls] at hs
    clear e1
    (repeat (first | (simp (disch := first | omega | assumption | exact Option.isSome_some | (simp only [adO_isSome]; assumption)) only [↓vcp, vcs, vct, if_true, if_false, Nat.reduceBEq, ↓reduceIte, Nat.reduceEqDiff, Nat.reduceAdd, Nat.reduceMul, Nat.reduceSub, Int.reduceToNat, reduceCtorEq, Nat.reduceLT, Nat.reduceLeDiff, Int.reduceSub, Int.reduceAdd, Int.reduceNeg, Sat.look hs, Sat.lookA hs, hsl']) | (refine khK he hs ?_; clear he; intro he) | ((first | refine stK hs ?_ | refine stFK hs ?_ | refine stAK hs ?_ | refine msK hs ?_); clear hs; (try clear w); rintro w hs; try simp only [cls] at hs; try simp only [hsl'] at hs) | ((first | refine al_ok hs ?_ | refine bx_ok hs ?_ | refine bsvK hs ?_ | refine bs1_ok hs ?_ | refine bs0_ok hs ?_); clear hs; (try clear w); rintro _ w hs; try simp only [cls] at hs; try simp only [hsl'] at hs) | ((first | refine stK hs ?_ (by first | omega | (simp only [hsl', cells_bk, cells_sl, List.length_cons, List.length_nil, List.length_set, List.length_append, List.length_map, List.length_replicate, List.length_take, List.length_drop]; omega) | assumption | rfl) | refine stFK hs ?_ (by first | omega | (simp only [hsl', cells_bk, cells_sl, List.length_cons, List.length_nil, List.length_set, List.length_append, List.length_map, List.length_replicate, List.length_take, List.length_drop]; omega) | assumption | rfl) (by first | omega | (simp only [hsl', cells_bk, cells_sl, List.length_cons, List.length_nil, List.length_set, List.length_append, List.length_map, List.length_replicate, List.length_take, List.length_drop]; omega) | assumption | rfl) | refine stAK hs ?_ (by first | omega | (simp only [hsl', cells_bk, cells_sl, List.length_cons, List.length_nil, List.length_set, List.length_append, List.length_map, List.length_replicate, List.length_take, List.length_drop]; omega) | assumption | rfl) (by first | omega | (simp only [hsl', cells_bk, cells_sl, List.length_cons, List.length_nil, List.length_set, List.length_append, List.length_map, List.length_replicate, List.length_take, List.length_drop]; omega) | assumption | rfl) | refine msK hs ?_ (by first | omega | (simp only [hsl', cells_bk, cells_sl, List.length_cons, List.length_nil, List.length_set, List.length_append, List.length_map, List.length_replicate, List.length_take, List.length_drop]; omega) | assumption | rfl)); clear hs; (try clear w); rintro w hs; try simp only [cls] at hs; try simp only [hsl'] at hs)))
    rename_i tb
    have heq := refsame_calls w a (some ⟨tb, 0, none⟩) c 32 ds sx (ha.rd hs) (hs.rdBk 0 rfl) (by omega)
    rw [hsl] at heq
    refine call_ok (by kernel_rfl) (heq) ?_; rintro _ w2 ⟨rfl, hb⟩; rw [callK_ret]; replace hs := Sat.add hs (Below.sat hb); clear hb; (try clear w); rename World => w; try simp only [cls] at hs
    (repeat (first | (simp (disch := first | omega | assumption | exact Option.isSome_some | (simp only [adO_isSome]; assumption)) only [↓vcp, vcs, vct, if_true, if_false, Nat.reduceBEq, ↓reduceIte, Nat.reduceEqDiff, Nat.reduceAdd, Nat.reduceMul, Nat.reduceSub, Int.reduceToNat, reduceCtorEq, Nat.reduceLT, Nat.reduceLeDiff, Int.reduceSub, Int.reduceAdd, Int.reduceNeg, Sat.look hs, Sat.lookA hs]) | (refine khK he hs ?_; clear he; intro he) | ((first | refine stK hs ?_ | refine stFK hs ?_ | refine stAK hs ?_ | refine msK hs ?_); clear hs; (try clear w); rintro w hs; try simp only [cls] at hs) | ((first | refine al_ok hs ?_ | refine bx_ok hs ?_ | refine bsvK hs ?_ | refine bs1_ok hs ?_ | refine bs0_ok hs ?_); clear hs; (try clear w); rintro _ w hs; try simp only [cls] at hs)))
    exact ret_tmp rfl (hR _ _ ⟨rfl, hs.belowAt⟩)
  · by_cases h0 : hash = 0
    · by_cases h64 : ds.length ≤ 64
      · have : holdsB hash ds xs = decide (ds = xs) := by unfold holdsB; simp [h18, h0, h64]
        rw [this] at hR
        (repeat (first | (simp (disch := first | omega | assumption | exact Option.isSome_some | (simp only [adO_isSome]; assumption)) only [↓vcp, vcs, vct, if_true, if_false, Nat.reduceBEq, ↓reduceIte, Nat.reduceEqDiff, Nat.reduceAdd, Nat.reduceMul, Nat.reduceSub, Int.reduceToNat, reduceCtorEq, Nat.reduceLT, Nat.reduceLeDiff, Int.reduceSub, Int.reduceAdd, Int.reduceNeg, Sat.look hs, Sat.lookA hs]) | (refine khK he hs ?_; clear he; intro he) | ((first | refine stK hs ?_ | refine stFK hs ?_ | refine stAK hs ?_ | refine msK hs ?_); clear hs; (try clear w); rintro w hs; try simp only [cls] at hs) | ((first | refine al_ok hs ?_ | refine bx_ok hs ?_ | refine bsvK hs ?_ | refine bs1_ok hs ?_ | refine bs0_ok hs ?_); clear hs; (try clear w); rintro _ w hs; try simp only [cls] at hs)))
        refine call_ok (by kernel_rfl) (refsame_calls w0 a b c d ds xs (ha.rd hs) (hy.rd hs) (by omega)) ?_; rintro _ w2 ⟨rfl, hb⟩; rw [callK_ret]; replace hs := Sat.add hs (Below.sat hb); clear hb; (try clear w); rename World => w; try simp only [cls] at hs
        (repeat (first | (simp (disch := first | omega | assumption | exact Option.isSome_some | (simp only [adO_isSome]; assumption)) only [↓vcp, vcs, vct, if_true, if_false, Nat.reduceBEq, ↓reduceIte, Nat.reduceEqDiff, Nat.reduceAdd, Nat.reduceMul, Nat.reduceSub, Int.reduceToNat, reduceCtorEq, Nat.reduceLT, Nat.reduceLeDiff, Int.reduceSub, Int.reduceAdd, Int.reduceNeg, Sat.look hs, Sat.lookA hs]) | (refine khK he hs ?_; clear he; intro he) | ((first | refine stK hs ?_ | refine stFK hs ?_ | refine stAK hs ?_ | refine msK hs ?_); clear hs; (try clear w); rintro w hs; try simp only [cls] at hs) | ((first | refine al_ok hs ?_ | refine bx_ok hs ?_ | refine bsvK hs ?_ | refine bs1_ok hs ?_ | refine bs0_ok hs ?_); clear hs; (try clear w); rintro _ w hs; try simp only [cls] at hs)))
        exact ret_tmp rfl (hR _ _ ⟨rfl, hs.belowAt⟩)
      · have : holdsB hash ds xs = false := by unfold holdsB; simp [h18, h64]
        rw [this] at hR
        (repeat (first | (simp (disch := first | omega | assumption | exact Option.isSome_some | (simp only [adO_isSome]; assumption)) only [↓vcp, vcs, vct, if_true, if_false, Nat.reduceBEq, ↓reduceIte, Nat.reduceEqDiff, Nat.reduceAdd, Nat.reduceMul, Nat.reduceSub, Int.reduceToNat, reduceCtorEq, Nat.reduceLT, Nat.reduceLeDiff, Int.reduceSub, Int.reduceAdd, Int.reduceNeg, Sat.look hs, Sat.lookA hs]) | (refine khK he hs ?_; clear he; intro he) | ((first | refine stK hs ?_ | refine stFK hs ?_ | refine stAK hs ?_ | refine msK hs ?_); clear hs; (try clear w); rintro w hs; try simp only [cls] at hs) | ((first | refine al_ok hs ?_ | refine bx_ok hs ?_ | refine bsvK hs ?_ | refine bs1_ok hs ?_ | refine bs0_ok hs ?_); clear hs; (try clear w); rintro _ w hs; try simp only [cls] at hs)))
        exact ret_tmp rfl (hR _ _ ⟨rfl, hs.belowAt⟩)
    · have : holdsB hash ds xs = false := by unfold holdsB; simp [h18, h0]
      rw [this] at hR
      (repeat (first | (simp (disch := first | omega | assumption | exact Option.isSome_some | (simp only [adO_isSome]; assumption)) only [↓vcp, vcs, vct, if_true, if_false, Nat.reduceBEq, ↓reduceIte, Nat.reduceEqDiff, Nat.reduceAdd, Nat.reduceMul, Nat.reduceSub, Int.reduceToNat, reduceCtorEq, Nat.reduceLT, Nat.reduceLeDiff, Int.reduceSub, Int.reduceAdd, Int.reduceNeg, Sat.look hs, Sat.lookA hs]) | (refine khK he hs ?_; clear he; intro he) | ((first | refine stK hs ?_ | refine stFK hs ?_ | refine stAK hs ?_ | refine msK hs ?_); clear hs; (try clear w); rintro w hs; try simp only [cls] at hs) | ((first | refine al_ok hs ?_ | refine bx_ok hs ?_ | refine bsvK hs ?_ | refine bs1_ok hs ?_ | refine bs0_ok hs ?_); clear hs; (try clear w); rintro _ w hs; try simp only [cls] at hs)))
      exact ret_tmp rfl (hR _ _ ⟨rfl, hs.belowAt⟩)
end Go.Proofs.YtokoohdpakhphaaDoor.Dig
namespace Go.Proofs.YtokoohdpakhphaaDoor.Lnk
open Go VC Go.RowKit Dig Varint Sha
set_option linter.unusedSimpArgs false
set_option linter.unusedVariables false
set_option maxRecDepth 20000
set_option maxHeartbeats 4000000
theorem fits_may {l : Lk} (hv : l.v = 1) : lmay l ↔ (l.c < 9223372036854775808 ∧ fitsE l.h l.d.length = 0) := by
  unfold lmay fitsE
  by_cases h1 : l.h = 18
  · rw [if_pos h1]
    by_cases h2 : l.d.length = 32
    · rw [if_pos h2]; omega
    · rw [if_neg h2]; omega
  · rw [if_neg h1]
    by_cases h0 : l.h = 0
    · rw [if_pos h0]
      by_cases h2 : l.d.length ≤ 64
      · rw [if_pos h2]; omega
      · rw [if_neg h2]; omega
    · rw [if_neg h0]; omega
theorem RCheck_calls (w0 : World) (l : Lk) (hd : l.d.length ≤ 140737488355328) : Calls Tryd.prog 52 #[.agg l.fs.toArray] w0 fun e w' => e = .returned (.int .i64 (lcheck l)) ∧ Below w0.heap.size w0 w' := by
  refine calls_vc Tryd.func52 rfl (by kernel_rfl) (by kernel_rfl) ?_; intro R hR
  have hs := Sat.start w0
  have hfm := @fits_may l
  obtain ⟨v, c, h, d⟩ := l
  unfold Lk.fs
  dsimp only at hd hfm ⊢
  by_cases hv0 : v = 0
  · by_cases hc : c = 112
    · by_cases hh : h = 18
      · by_cases hd2 : d.length = 32
        · rw [show lcheck ⟨v, c, h, d⟩ = 0 from if_pos (by unfold lmay; dsimp only; omega)] at hR
          (repeat (first | (simp (disch := first | omega | assumption | exact Option.isSome_some | (simp only [adO_isSome]; assumption)) only [↓vcp, vcs, vct, if_true, if_false, Nat.reduceBEq, ↓reduceIte, Nat.reduceEqDiff, Nat.reduceAdd, Nat.reduceMul, Nat.reduceSub, Int.reduceToNat, reduceCtorEq, Nat.reduceLT, Nat.reduceLeDiff, Int.reduceSub, Int.reduceAdd, Int.reduceNeg, Sat.look hs, Sat.lookA hs, ba_size]) | (refine khK he hs ?_; clear he; intro he) | ((first | refine stK hs ?_ | refine stFK hs ?_ | refine stAK hs ?_ | refine msK hs ?_); clear hs; (try clear w); rintro w hs; try simp only [cls] at hs) | ((first | refine al_ok hs ?_ | refine bx_ok hs ?_ | refine bsvK hs ?_ | refine bs1_ok hs ?_ | refine bs0_ok hs ?_); clear hs; (try clear w); rintro _ w hs; try simp only [cls] at hs)))
          exact ret_tmp rfl (hR _ _ ⟨rfl, hs.belowAt⟩)
        · rw [show lcheck ⟨v, c, h, d⟩ = 40 from if_neg (by unfold lmay; dsimp only; omega)] at hR
          (repeat (first | (simp (disch := first | omega | assumption | exact Option.isSome_some | (simp only [adO_isSome]; assumption)) only [↓vcp, vcs, vct, if_true, if_false, Nat.reduceBEq, ↓reduceIte, Nat.reduceEqDiff, Nat.reduceAdd, Nat.reduceMul, Nat.reduceSub, Int.reduceToNat, reduceCtorEq, Nat.reduceLT, Nat.reduceLeDiff, Int.reduceSub, Int.reduceAdd, Int.reduceNeg, Sat.look hs, Sat.lookA hs, ba_size]) | (refine khK he hs ?_; clear he; intro he) | ((first | refine stK hs ?_ | refine stFK hs ?_ | refine stAK hs ?_ | refine msK hs ?_); clear hs; (try clear w); rintro w hs; try simp only [cls] at hs) | ((first | refine al_ok hs ?_ | refine bx_ok hs ?_ | refine bsvK hs ?_ | refine bs1_ok hs ?_ | refine bs0_ok hs ?_); clear hs; (try clear w); rintro _ w hs; try simp only [cls] at hs)))
          exact ret_tmp rfl (hR _ _ ⟨rfl, hs.belowAt⟩)
      · rw [show lcheck ⟨v, c, h, d⟩ = 40 from if_neg (by unfold lmay; dsimp only; omega)] at hR
        (repeat (first | (simp (disch := first | omega | assumption | exact Option.isSome_some | (simp only [adO_isSome]; assumption)) only [↓vcp, vcs, vct, if_true, if_false, Nat.reduceBEq, ↓reduceIte, Nat.reduceEqDiff, Nat.reduceAdd, Nat.reduceMul, Nat.reduceSub, Int.reduceToNat, reduceCtorEq, Nat.reduceLT, Nat.reduceLeDiff, Int.reduceSub, Int.reduceAdd, Int.reduceNeg, Sat.look hs, Sat.lookA hs, ba_size]) | (refine khK he hs ?_; clear he; intro he) | ((first | refine stK hs ?_ | refine stFK hs ?_ | refine stAK hs ?_ | refine msK hs ?_); clear hs; (try clear w); rintro w hs; try simp only [cls] at hs) | ((first | refine al_ok hs ?_ | refine bx_ok hs ?_ | refine bsvK hs ?_ | refine bs1_ok hs ?_ | refine bs0_ok hs ?_); clear hs; (try clear w); rintro _ w hs; try simp only [cls] at hs)))
        exact ret_tmp rfl (hR _ _ ⟨rfl, hs.belowAt⟩)
    · rw [show lcheck ⟨v, c, h, d⟩ = 40 from if_neg (by unfold lmay; dsimp only; omega)] at hR
      (repeat (first | (simp (disch := first | omega | assumption | exact Option.isSome_some | (simp only [adO_isSome]; assumption)) only [↓vcp, vcs, vct, if_true, if_false, Nat.reduceBEq, ↓reduceIte, Nat.reduceEqDiff, Nat.reduceAdd, Nat.reduceMul, Nat.reduceSub, Int.reduceToNat, reduceCtorEq, Nat.reduceLT, Nat.reduceLeDiff, Int.reduceSub, Int.reduceAdd, Int.reduceNeg, Sat.look hs, Sat.lookA hs, ba_size]) | (refine khK he hs ?_; clear he; intro he) | ((first | refine stK hs ?_ | refine stFK hs ?_ | refine stAK hs ?_ | refine msK hs ?_); clear hs; (try clear w); rintro w hs; try simp only [cls] at hs) | ((first | refine al_ok hs ?_ | refine bx_ok hs ?_ | refine bsvK hs ?_ | refine bs1_ok hs ?_ | refine bs0_ok hs ?_); clear hs; (try clear w); rintro _ w hs; try simp only [cls] at hs)))
      exact ret_tmp rfl (hR _ _ ⟨rfl, hs.belowAt⟩)
  · by_cases hv1 : v = 1
    · have hfm := hfm hv1
      unfold lcheck at hR
      (repeat (first | (simp (disch := first | omega | assumption | exact Option.isSome_some | (simp only [adO_isSome]; assumption)) only [↓vcp, vcs, vct, if_true, if_false, Nat.reduceBEq, ↓reduceIte, Nat.reduceEqDiff, Nat.reduceAdd, Nat.reduceMul, Nat.reduceSub, Int.reduceToNat, reduceCtorEq, Nat.reduceLT, Nat.reduceLeDiff, Int.reduceSub, Int.reduceAdd, Int.reduceNeg, Sat.look hs, Sat.lookA hs, ba_size]) | (refine khK he hs ?_; clear he; intro he) | ((first | refine stK hs ?_ | refine stFK hs ?_ | refine stAK hs ?_ | refine msK hs ?_); clear hs; (try clear w); rintro w hs; try simp only [cls] at hs) | ((first | refine al_ok hs ?_ | refine bx_ok hs ?_ | refine bsvK hs ?_ | refine bs1_ok hs ?_ | refine bs0_ok hs ?_); clear hs; (try clear w); rintro _ w hs; try simp only [cls] at hs)))
      refine cvb_ok hs ?_; clear hs; (try clear w); rintro ba bc pad w hcap hs; try simp only [cls] at hs
      (repeat (first | (simp (disch := first | omega | assumption | exact Option.isSome_some | (simp only [adO_isSome]; assumption)) only [↓vcp, vcs, vct, if_true, if_false, Nat.reduceBEq, ↓reduceIte, Nat.reduceEqDiff, Nat.reduceAdd, Nat.reduceMul, Nat.reduceSub, Int.reduceToNat, reduceCtorEq, Nat.reduceLT, Nat.reduceLeDiff, Int.reduceSub, Int.reduceAdd, Int.reduceNeg, Sat.look hs, Sat.lookA hs]) | (refine khK he hs ?_; clear he; intro he) | ((first | refine stK hs ?_ | refine stFK hs ?_ | refine stAK hs ?_ | refine msK hs ?_); clear hs; (try clear w); rintro w hs; try simp only [cls] at hs) | ((first | refine al_ok hs ?_ | refine bx_ok hs ?_ | refine bsvK hs ?_ | refine bs1_ok hs ?_ | refine bs0_ok hs ?_); clear hs; (try clear w); rintro _ w hs; try simp only [cls] at hs)))
      refine call_ok (by kernel_rfl) (RefLay_calls w h (some ⟨ba, 0, none⟩) bc d (Ro.left (Rd.ro (hs.rdBk 1 rfl))) hd) ?_; rintro _ w2 ⟨a2, c2, rfl, hc2, hb⟩; rw [callK_ret]; replace hs := Sat.add hs hb; clear hb; (try clear w); rename World => w; try simp only [cls] at hs
      generalize hfe : fitsE h d.length = fe at *
      by_cases hc : c < 9223372036854775808
      · by_cases hf0 : fe = 0
        · rw [if_pos (hfm.2 ⟨hc, hf0⟩)] at hR
          (repeat (first | (simp (disch := first | omega | assumption | exact Option.isSome_some | (simp only [adO_isSome]; assumption)) only [↓vcp, vcs, vct, if_true, if_false, Nat.reduceBEq, ↓reduceIte, Nat.reduceEqDiff, Nat.reduceAdd, Nat.reduceMul, Nat.reduceSub, Int.reduceToNat, reduceCtorEq, Nat.reduceLT, Nat.reduceLeDiff, Int.reduceSub, Int.reduceAdd, Int.reduceNeg, Sat.look hs, Sat.lookA hs]) | (refine khK he hs ?_; clear he; intro he) | ((first | refine stK hs ?_ | refine stFK hs ?_ | refine stAK hs ?_ | refine msK hs ?_); clear hs; (try clear w); rintro w hs; try simp only [cls] at hs) | ((first | refine al_ok hs ?_ | refine bx_ok hs ?_ | refine bsvK hs ?_ | refine bs1_ok hs ?_ | refine bs0_ok hs ?_); clear hs; (try clear w); rintro _ w hs; try simp only [cls] at hs)))
          exact ret_tmp rfl (hR _ _ ⟨rfl, hs.belowAt⟩)
        · rw [if_neg (fun h => hf0 (hfm.1 h).2)] at hR
          (repeat (first | (simp (disch := first | omega | assumption | exact Option.isSome_some | (simp only [adO_isSome]; assumption)) only [↓vcp, vcs, vct, if_true, if_false, Nat.reduceBEq, ↓reduceIte, Nat.reduceEqDiff, Nat.reduceAdd, Nat.reduceMul, Nat.reduceSub, Int.reduceToNat, reduceCtorEq, Nat.reduceLT, Nat.reduceLeDiff, Int.reduceSub, Int.reduceAdd, Int.reduceNeg, Sat.look hs, Sat.lookA hs]) | (refine khK he hs ?_; clear he; intro he) | ((first | refine stK hs ?_ | refine stFK hs ?_ | refine stAK hs ?_ | refine msK hs ?_); clear hs; (try clear w); rintro w hs; try simp only [cls] at hs) | ((first | refine al_ok hs ?_ | refine bx_ok hs ?_ | refine bsvK hs ?_ | refine bs1_ok hs ?_ | refine bs0_ok hs ?_); clear hs; (try clear w); rintro _ w hs; try simp only [cls] at hs)))
          exact ret_tmp rfl (hR _ _ ⟨rfl, hs.belowAt⟩)
      · rw [if_neg (fun h => hc (hfm.1 h).1)] at hR
        (repeat (first | (simp (disch := first | omega | assumption | exact Option.isSome_some | (simp only [adO_isSome]; assumption)) only [↓vcp, vcs, vct, if_true, if_false, Nat.reduceBEq, ↓reduceIte, Nat.reduceEqDiff, Nat.reduceAdd, Nat.reduceMul, Nat.reduceSub, Int.reduceToNat, reduceCtorEq, Nat.reduceLT, Nat.reduceLeDiff, Int.reduceSub, Int.reduceAdd, Int.reduceNeg, Sat.look hs, Sat.lookA hs]) | (refine khK he hs ?_; clear he; intro he) | ((first | refine stK hs ?_ | refine stFK hs ?_ | refine stAK hs ?_ | refine msK hs ?_); clear hs; (try clear w); rintro w hs; try simp only [cls] at hs) | ((first | refine al_ok hs ?_ | refine bx_ok hs ?_ | refine bsvK hs ?_ | refine bs1_ok hs ?_ | refine bs0_ok hs ?_); clear hs; (try clear w); rintro _ w hs; try simp only [cls] at hs)))
        exact ret_tmp rfl (hR _ _ ⟨rfl, hs.belowAt⟩)
    · rw [show lcheck ⟨v, c, h, d⟩ = 40 from if_neg (by unfold lmay; dsimp only; omega)] at hR
      (repeat (first | (simp (disch := first | omega | assumption | exact Option.isSome_some | (simp only [adO_isSome]; assumption)) only [↓vcp, vcs, vct, if_true, if_false, Nat.reduceBEq, ↓reduceIte, Nat.reduceEqDiff, Nat.reduceAdd, Nat.reduceMul, Nat.reduceSub, Int.reduceToNat, reduceCtorEq, Nat.reduceLT, Nat.reduceLeDiff, Int.reduceSub, Int.reduceAdd, Int.reduceNeg, Sat.look hs, Sat.lookA hs, ba_size]) | (refine khK he hs ?_; clear he; intro he) | ((first | refine stK hs ?_ | refine stFK hs ?_ | refine stAK hs ?_ | refine msK hs ?_); clear hs; (try clear w); rintro w hs; try simp only [cls] at hs) | ((first | refine al_ok hs ?_ | refine bx_ok hs ?_ | refine bsvK hs ?_ | refine bs1_ok hs ?_ | refine bs0_ok hs ?_); clear hs; (try clear w); rintro _ w hs; try simp only [cls] at hs)))
      exact ret_tmp rfl (hR _ _ ⟨rfl, hs.belowAt⟩)
theorem ROf_calls (w0 : World) (cd : Nat) (a : Option Addr) (c : Nat) (xs : List UInt8) (hx : Ro (.at w0) a (xs.map u8v)) (hl : xs.length ≤ 140737488351232) :
    Calls Tryd.prog 30 #[.int .u64 cd, .slice a xs.length c] w0 fun e w' => e = .returned (.tuple #[.agg (lof cd xs).1.fs.toArray, .int .i64 (lof cd xs).2]) ∧ Below w0.heap.size w0 w' := by
  refine calls_vc Tryd.func30 rfl (by kernel_rfl) (by kernel_rfl) ?_; intro R hR
  have hs := Sat.start w0
  unfold lof at hR
  (repeat (first | (simp (disch := first | omega | assumption | exact Option.isSome_some | (simp only [adO_isSome]; assumption)) only [↓vcp, vcs, vct, if_true, if_false, Nat.reduceBEq, ↓reduceIte, Nat.reduceEqDiff, Nat.reduceAdd, Nat.reduceMul, Nat.reduceSub, Int.reduceToNat, reduceCtorEq, Nat.reduceLT, Nat.reduceLeDiff, Int.reduceSub, Int.reduceAdd, Int.reduceNeg, Sat.look hs, Sat.lookA hs]) | (refine khK he hs ?_; clear he; intro he) | ((first | refine stK hs ?_ | refine stFK hs ?_ | refine stAK hs ?_ | refine msK hs ?_); clear hs; (try clear w); rintro w hs; try simp only [cls] at hs) | ((first | refine al_ok hs ?_ | refine bx_ok hs ?_ | refine bsvK hs ?_ | refine bs1_ok hs ?_ | refine bs0_ok hs ?_); clear hs; (try clear w); rintro _ w hs; try simp only [cls] at hs)))
  have q1 := Sum_calls w a c xs (hx.up0 hs) hl
  have hsl := sum_len xs
  generalize sum xs = sx at *
  have hsl' : (sx.map u8v).length = 32 := by rw [List.length_map]; exact hsl
  refine call_ok (by kernel_rfl) (q1) ?_; rintro _ w2 ⟨rfl, hb⟩; rw [callK_ret]; replace hs := Sat.add hs (Below.sat hb); clear hb; (try clear w); rename World => w; try simp only [cls] at hs
  clear q1
  (repeat (first | (simp (disch := first | omega | assumption | exact Option.isSome_some | (simp only [adO_isSome]; assumption)) only [↓vcp, vcs, vct, if_true, if_false, Nat.reduceBEq, ↓reduceIte, Nat.reduceEqDiff, Nat.reduceAdd, Nat.reduceMul, Nat.reduceSub, Int.reduceToNat, reduceCtorEq, Nat.reduceLT, Nat.reduceLeDiff, Int.reduceSub, Int.reduceAdd, Int.reduceNeg, Sat.look hs, Sat.lookA hs, hsl']) | (refine khK he hs ?_; clear he; intro he) | ((first | refine stK hs ?_ | refine stFK hs ?_ | refine stAK hs ?_ | refine msK hs ?_); clear hs; (try clear w); rintro w hs; try simp only [cls] at hs; try simp only [hsl'] at hs) | ((first | refine al_ok hs ?_ | refine bx_ok hs ?_ | refine bsvK hs ?_ | refine bs1_ok hs ?_ | refine bs0_ok hs ?_); clear hs; (try clear w); rintro _ w hs; try simp only [cls] at hs; try simp only [hsl'] at hs) | ((first | refine stK hs ?_ (by first | omega | (simp only [hsl', cells_bk, cells_sl, List.length_cons, List.length_nil, List.length_set, List.length_append, List.length_map, List.length_replicate, List.length_take, List.length_drop]; omega) | assumption | rfl) | refine stFK hs ?_ (by first | omega | (simp only [hsl', cells_bk, cells_sl, List.length_cons, List.length_nil, List.length_set, List.length_append, List.length_map, List.length_replicate, List.length_take, List.length_drop]; omega) | assumption | rfl) (by first | omega | (simp only [hsl', cells_bk, cells_sl, List.length_cons, List.length_nil, List.length_set, List.length_append, List.length_map, List.length_replicate, List.length_take, List.length_drop]; omega) | assumption | rfl) | refine stAK hs ?_ (by first | omega | (simp only [hsl', cells_bk, cells_sl, List.length_cons, List.length_nil, List.length_set, List.length_append, List.length_map, List.length_replicate, List.length_take, List.length_drop]; omega) | assumption | rfl) (by first | omega | (simp only [hsl', cells_bk, cells_sl, List.length_cons, List.length_nil, List.length_set, List.length_append, List.length_map, List.length_replicate, List.length_take, List.length_drop]; omega) | assumption | rfl) | refine msK hs ?_ (by first | omega | (simp only [hsl', cells_bk, cells_sl, List.length_cons, List.length_nil, List.length_set, List.length_append, List.length_map, List.length_replicate, List.length_take, List.length_drop]; omega) | assumption | rfl)); clear hs; (try clear w); rintro w hs; try simp only [cls] at hs; try simp only [hsl'] at hs)))
  rw [m_strOfL (xs := sx) 49 9 (hs.rdBk 1 rfl) hsl]
  (repeat (first | (simp (disch := first | omega | assumption | exact Option.isSome_some | (simp only [adO_isSome]; assumption)) only [↓vcp, vcs, vct, if_true, if_false, Nat.reduceBEq, ↓reduceIte, Nat.reduceEqDiff, Nat.reduceAdd, Nat.reduceMul, Nat.reduceSub, Int.reduceToNat, reduceCtorEq, Nat.reduceLT, Nat.reduceLeDiff, Int.reduceSub, Int.reduceAdd, Int.reduceNeg, Sat.look hs, Sat.lookA hs, hsl']) | (refine khK he hs ?_; clear he; intro he) | ((first | refine stK hs ?_ | refine stFK hs ?_ | refine stAK hs ?_ | refine msK hs ?_); clear hs; (try clear w); rintro w hs; try simp only [cls] at hs; try simp only [hsl'] at hs) | ((first | refine al_ok hs ?_ | refine bx_ok hs ?_ | refine bsvK hs ?_ | refine bs1_ok hs ?_ | refine bs0_ok hs ?_); clear hs; (try clear w); rintro _ w hs; try simp only [cls] at hs; try simp only [hsl'] at hs) | ((first | refine stK hs ?_ (by first | omega | (simp only [hsl', cells_bk, cells_sl, List.length_cons, List.length_nil, List.length_set, List.length_append, List.length_map, List.length_replicate, List.length_take, List.length_drop]; omega) | assumption | rfl) | refine stFK hs ?_ (by first | omega | (simp only [hsl', cells_bk, cells_sl, List.length_cons, List.length_nil, List.length_set, List.length_append, List.length_map, List.length_replicate, List.length_take, List.length_drop]; omega) | assumption | rfl) (by first | omega | (simp only [hsl', cells_bk, cells_sl, List.length_cons, List.length_nil, List.length_set, List.length_append, List.length_map, List.length_replicate, List.length_take, List.length_drop]; omega) | assumption | rfl) | refine stAK hs ?_ (by first | omega | (simp only [hsl', cells_bk, cells_sl, List.length_cons, List.length_nil, List.length_set, List.length_append, List.length_map, List.length_replicate, List.length_take, List.length_drop]; omega) | assumption | rfl) (by first | omega | (simp only [hsl', cells_bk, cells_sl, List.length_cons, List.length_nil, List.length_set, List.length_append, List.length_map, List.length_replicate, List.length_take, List.length_drop]; omega) | assumption | rfl) | refine msK hs ?_ (by first | omega | (simp only [hsl', cells_bk, cells_sl, List.length_cons, List.length_nil, List.length_set, List.length_append, List.length_map, List.length_replicate, List.length_take, List.length_drop]; omega) | assumption | rfl)); clear hs; (try clear w); rintro w hs; try simp only [cls] at hs; try simp only [hsl'] at hs)))
  have q2 := RCheck_calls w ⟨1, cd, 18, sx⟩ (by dsimp only; omega)
  unfold Lk.fs at q2
  dsimp only at q2
  by_cases hcd : cd < 9223372036854775808
  · rw [if_pos hcd] at hR
    rw [show lcheck ⟨1, cd, 18, sx⟩ = 0 from if_pos (by unfold lmay; dsimp only; omega)] at q2
    refine call_ok (by kernel_rfl) (q2) ?_; rintro _ w2 ⟨rfl, hb⟩; rw [callK_ret]; replace hs := Sat.add hs (Below.sat hb); clear hb; (try clear w); rename World => w; try simp only [cls] at hs
    (repeat (first | (simp (disch := first | omega | assumption | exact Option.isSome_some | (simp only [adO_isSome]; assumption)) only [↓vcp, vcs, vct, if_true, if_false, Nat.reduceBEq, ↓reduceIte, Nat.reduceEqDiff, Nat.reduceAdd, Nat.reduceMul, Nat.reduceSub, Int.reduceToNat, reduceCtorEq, Nat.reduceLT, Nat.reduceLeDiff, Int.reduceSub, Int.reduceAdd, Int.reduceNeg, Sat.look hs, Sat.lookA hs]) | (refine khK he hs ?_; clear he; intro he) | ((first | refine stK hs ?_ | refine stFK hs ?_ | refine stAK hs ?_ | refine msK hs ?_); clear hs; (try clear w); rintro w hs; try simp only [cls] at hs) | ((first | refine al_ok hs ?_ | refine bx_ok hs ?_ | refine bsvK hs ?_ | refine bs1_ok hs ?_ | refine bs0_ok hs ?_); clear hs; (try clear w); rintro _ w hs; try simp only [cls] at hs)))
    exact ret_cellT (sz := 4) rfl (by rfl) (hs.cellsBk 0 rfl rfl (by omega)) (hR _ _ ⟨rfl, hs.belowAt⟩)
  · rw [if_neg hcd] at hR
    rw [show lcheck ⟨1, cd, 18, sx⟩ = 40 from if_neg (by unfold lmay; dsimp only; omega)] at q2
    refine call_ok (by kernel_rfl) (q2) ?_; rintro _ w2 ⟨rfl, hb⟩; rw [callK_ret]; replace hs := Sat.add hs (Below.sat hb); clear hb; (try clear w); rename World => w; try simp only [cls] at hs
    (repeat (first | (simp (disch := first | omega | assumption | exact Option.isSome_some | (simp only [adO_isSome]; assumption)) only [↓vcp, vcs, vct, if_true, if_false, Nat.reduceBEq, ↓reduceIte, Nat.reduceEqDiff, Nat.reduceAdd, Nat.reduceMul, Nat.reduceSub, Int.reduceToNat, reduceCtorEq, Nat.reduceLT, Nat.reduceLeDiff, Int.reduceSub, Int.reduceAdd, Int.reduceNeg, Sat.look hs, Sat.lookA hs]) | (refine khK he hs ?_; clear he; intro he) | ((first | refine stK hs ?_ | refine stFK hs ?_ | refine stAK hs ?_ | refine msK hs ?_); clear hs; (try clear w); rintro w hs; try simp only [cls] at hs) | ((first | refine al_ok hs ?_ | refine bx_ok hs ?_ | refine bsvK hs ?_ | refine bs1_ok hs ?_ | refine bs0_ok hs ?_); clear hs; (try clear w); rintro _ w hs; try simp only [cls] at hs)))
    exact ret_cellT (sz := 4) rfl (by rfl) (hs.cellsBk 0 rfl rfl (by omega)) (hR _ _ ⟨rfl, hs.belowAt⟩)
theorem RLHolds_calls (w0 : World) (l : Lk) (a : Option Addr) (c : Nat) (xs : List UInt8) (hG : Ro (.at w0) (some ⟨1, 0, none⟩) (factors.map u32v)) (hx : Ro (.at w0) a (xs.map u8v)) (hc : xs.length ≤ c) (hl : xs.length ≤ 140737488351232) (hd : l.d.length ≤ 140737488351232) :
    Calls Tryd.prog 33 #[.agg l.fs.toArray, .slice a xs.length c] w0 fun e w' => e = .returned (.bool (lholds l xs)) ∧ Below w0.heap.size w0 w' := by
  refine calls_vc Tryd.func33 rfl (by kernel_rfl) (by kernel_rfl) ?_; intro R hR
  have hs := Sat.start w0
  unfold lholds at hR
  have q1 := fun w => RCheck_calls w l (by omega)
  by_cases hm : lmay l
  · rw [decide_eq_true hm, Bool.true_and] at hR
    rw [lcheck_may hm] at q1
    obtain ⟨v, cd, h, d⟩ := l
    unfold Lk.fs at q1 ⊢
    dsimp only at hR hd q1 ⊢
    (repeat (first | (simp (disch := first | omega | assumption | exact Option.isSome_some | (simp only [adO_isSome]; assumption)) only [↓vcp, vcs, vct, if_true, if_false, Nat.reduceBEq, ↓reduceIte, Nat.reduceEqDiff, Nat.reduceAdd, Nat.reduceMul, Nat.reduceSub, Int.reduceToNat, reduceCtorEq, Nat.reduceLT, Nat.reduceLeDiff, Int.reduceSub, Int.reduceAdd, Int.reduceNeg, Sat.look hs, Sat.lookA hs]) | (refine khK he hs ?_; clear he; intro he) | ((first | refine stK hs ?_ | refine stFK hs ?_ | refine stAK hs ?_ | refine msK hs ?_); clear hs; (try clear w); rintro w hs; try simp only [cls] at hs) | ((first | refine al_ok hs ?_ | refine bx_ok hs ?_ | refine bsvK hs ?_ | refine bs1_ok hs ?_ | refine bs0_ok hs ?_); clear hs; (try clear w); rintro _ w hs; try simp only [cls] at hs)))
    refine call_ok (by kernel_rfl) (q1 w) ?_; rintro _ w2 ⟨rfl, hb⟩; rw [callK_ret]; replace hs := Sat.add hs (Below.sat hb); clear hb; (try clear w); rename World => w; try simp only [cls] at hs
    (repeat (first | (simp (disch := first | omega | assumption | exact Option.isSome_some | (simp only [adO_isSome]; assumption)) only [↓vcp, vcs, vct, if_true, if_false, Nat.reduceBEq, ↓reduceIte, Nat.reduceEqDiff, Nat.reduceAdd, Nat.reduceMul, Nat.reduceSub, Int.reduceToNat, reduceCtorEq, Nat.reduceLT, Nat.reduceLeDiff, Int.reduceSub, Int.reduceAdd, Int.reduceNeg, Sat.look hs, Sat.lookA hs]) | (refine khK he hs ?_; clear he; intro he) | ((first | refine stK hs ?_ | refine stFK hs ?_ | refine stAK hs ?_ | refine msK hs ?_); clear hs; (try clear w); rintro w hs; try simp only [cls] at hs) | ((first | refine al_ok hs ?_ | refine bx_ok hs ?_ | refine bsvK hs ?_ | refine bs1_ok hs ?_ | refine bs0_ok hs ?_); clear hs; (try clear w); rintro _ w hs; try simp only [cls] at hs)))
    refine cvb_ok hs ?_; clear hs; (try clear w); rintro ba bc pad w hcap hs; try simp only [cls] at hs
    (repeat (first | (simp (disch := first | omega | assumption | exact Option.isSome_some | (simp only [adO_isSome]; assumption)) only [↓vcp, vcs, vct, if_true, if_false, Nat.reduceBEq, ↓reduceIte, Nat.reduceEqDiff, Nat.reduceAdd, Nat.reduceMul, Nat.reduceSub, Int.reduceToNat, reduceCtorEq, Nat.reduceLT, Nat.reduceLeDiff, Int.reduceSub, Int.reduceAdd, Int.reduceNeg, Sat.look hs, Sat.lookA hs]) | (refine khK he hs ?_; clear he; intro he) | ((first | refine stK hs ?_ | refine stFK hs ?_ | refine stAK hs ?_ | refine msK hs ?_); clear hs; (try clear w); rintro w hs; try simp only [cls] at hs) | ((first | refine al_ok hs ?_ | refine bx_ok hs ?_ | refine bsvK hs ?_ | refine bs1_ok hs ?_ | refine bs0_ok hs ?_); clear hs; (try clear w); rintro _ w hs; try simp only [cls] at hs)))
    have q2 := RefHolds_calls w h (some ⟨ba, 0, none⟩) a bc c d xs (hG.up0 hs) (Ro.left (Rd.ro (hs.rdBk 1 rfl))) (hx.up0 hs) hc (by omega) hl
    generalize holdsB h d xs = r at *
    refine call_ok (by kernel_rfl) (q2) ?_; rintro _ w2 ⟨rfl, hb⟩; rw [callK_ret]; replace hs := Sat.add hs (Below.sat hb); clear hb; (try clear w); rename World => w; try simp only [cls] at hs
    (repeat (first | (simp (disch := first | omega | assumption | exact Option.isSome_some | (simp only [adO_isSome]; assumption)) only [↓vcp, vcs, vct, if_true, if_false, Nat.reduceBEq, ↓reduceIte, Nat.reduceEqDiff, Nat.reduceAdd, Nat.reduceMul, Nat.reduceSub, Int.reduceToNat, reduceCtorEq, Nat.reduceLT, Nat.reduceLeDiff, Int.reduceSub, Int.reduceAdd, Int.reduceNeg, Sat.look hs, Sat.lookA hs]) | (refine khK he hs ?_; clear he; intro he) | ((first | refine stK hs ?_ | refine stFK hs ?_ | refine stAK hs ?_ | refine msK hs ?_); clear hs; (try clear w); rintro w hs; try simp only [cls] at hs) | ((first | refine al_ok hs ?_ | refine bx_ok hs ?_ | refine bsvK hs ?_ | refine bs1_ok hs ?_ | refine bs0_ok hs ?_); clear hs; (try clear w); rintro _ w hs; try simp only [cls] at hs)))
    exact ret_tmp rfl (hR _ _ ⟨rfl, hs.belowAt⟩)
  · rw [decide_eq_false hm, Bool.false_and] at hR
    rw [lcheck_not hm] at q1
    obtain ⟨v, cd, h, d⟩ := l
    unfold Lk.fs at q1 ⊢
    dsimp only at q1 ⊢
    (repeat (first | (simp (disch := first | omega | assumption | exact Option.isSome_some | (simp only [adO_isSome]; assumption)) only [↓vcp, vcs, vct, if_true, if_false, Nat.reduceBEq, ↓reduceIte, Nat.reduceEqDiff, Nat.reduceAdd, Nat.reduceMul, Nat.reduceSub, Int.reduceToNat, reduceCtorEq, Nat.reduceLT, Nat.reduceLeDiff, Int.reduceSub, Int.reduceAdd, Int.reduceNeg, Sat.look hs, Sat.lookA hs]) | (refine khK he hs ?_; clear he; intro he) | ((first | refine stK hs ?_ | refine stFK hs ?_ | refine stAK hs ?_ | refine msK hs ?_); clear hs; (try clear w); rintro w hs; try simp only [cls] at hs) | ((first | refine al_ok hs ?_ | refine bx_ok hs ?_ | refine bsvK hs ?_ | refine bs1_ok hs ?_ | refine bs0_ok hs ?_); clear hs; (try clear w); rintro _ w hs; try simp only [cls] at hs)))
    refine call_ok (by kernel_rfl) (q1 w) ?_; rintro _ w2 ⟨rfl, hb⟩; rw [callK_ret]; replace hs := Sat.add hs (Below.sat hb); clear hb; (try clear w); rename World => w; try simp only [cls] at hs
    (repeat (first | (simp (disch := first | omega | assumption | exact Option.isSome_some | (simp only [adO_isSome]; assumption)) only [↓vcp, vcs, vct, if_true, if_false, Nat.reduceBEq, ↓reduceIte, Nat.reduceEqDiff, Nat.reduceAdd, Nat.reduceMul, Nat.reduceSub, Int.reduceToNat, reduceCtorEq, Nat.reduceLT, Nat.reduceLeDiff, Int.reduceSub, Int.reduceAdd, Int.reduceNeg, Sat.look hs, Sat.lookA hs]) | (refine khK he hs ?_; clear he; intro he) | ((first | refine stK hs ?_ | refine stFK hs ?_ | refine stAK hs ?_ | refine msK hs ?_); clear hs; (try clear w); rintro w hs; try simp only [cls] at hs) | ((first | refine al_ok hs ?_ | refine bx_ok hs ?_ | refine bsvK hs ?_ | refine bs1_ok hs ?_ | refine bs0_ok hs ?_); clear hs; (try clear w); rintro _ w hs; try simp only [cls] at hs)))
    exact ret_tmp rfl (hR _ _ ⟨rfl, hs.belowAt⟩)
end Go.Proofs.YtokoohdpakhphaaDoor.Lnk
