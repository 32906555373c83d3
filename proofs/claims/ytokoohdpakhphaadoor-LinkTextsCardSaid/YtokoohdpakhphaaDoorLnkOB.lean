/- Several texts in one. -/
import Derived.Test.YtokoohdpakhphaaDoorLnkA
import Derived.Test.YtokoohdpakhphaaDoorVarintA
namespace Go.Proofs.YtokoohdpakhphaaDoor.Lnk
open Go VC Go.RowKit Dig Varint Sha
set_option linter.unusedSimpArgs false
set_option linter.unusedVariables false
set_option maxRecDepth 20000
set_option maxHeartbeats 4000000
def lof (cd : Nat) (xs : List UInt8) : Lk × Nat := if cd < 9223372036854775808 then (⟨1, cd, 18, sum xs⟩, 0) else (zeroLk, 40)
def lholds (l : Lk) (xs : List UInt8) : Bool := decide (lmay l) && holdsB l.h l.d xs
theorem Ro.left {S : Cx} {a : Option Addr} {xs ys : List Value} (h : Ro S a (xs ++ ys)) : Ro S a xs := by
  have := h.take xs.length
  rwa [List.take_left] at this
theorem Of_calls (w0 : World) (cd : Nat) (a : Option Addr) (c : Nat) (xs : List UInt8) (hG : Ro (.at w0) (some ⟨1, 0, none⟩) (factors.map u32v)) (hx : Ro (.at w0) a (xs.map u8v)) (hc : xs.length ≤ c) (hl : xs.length ≤ 1125899906842624) :
    Calls Tryd.prog 29 #[.int .u64 cd, .slice a xs.length c] w0 fun e w' => e = .returned (.tuple #[.agg (lof cd xs).1.fs.toArray, .int .i64 (lof cd xs).2]) ∧ Below w0.heap.size w0 w' := by
  refine calls_vc Tryd.func29 rfl (by kernel_rfl) (by kernel_rfl) ?_; intro R hR
  have hs := Sat.start w0
  unfold lof at hR
  by_cases hcd : cd < 9223372036854775808
  · rw [if_pos hcd] at hR
    (repeat (first | (simp (disch := first | omega | assumption | exact Option.isSome_some | (simp only [adO_isSome]; assumption)) only [↓vcp, vcs, vct, if_true, if_false, Nat.reduceBEq, ↓reduceIte, Nat.reduceEqDiff, Nat.reduceAdd, Nat.reduceMul, Nat.reduceSub, Int.reduceToNat, reduceCtorEq, Nat.reduceLT, Nat.reduceLeDiff, Int.reduceSub, Int.reduceAdd, Int.reduceNeg, Sat.look hs, Sat.lookA hs]) | (refine khK he hs ?_; clear he; intro he) | ((first | refine stK hs ?_ | refine stFK hs ?_ | refine stAK hs ?_ | refine msK hs ?_); clear hs; (try clear w); rintro w hs; try simp only [cls] at hs) | ((first | refine al_ok hs ?_ | refine bx_ok hs ?_ | refine bsvK hs ?_ | refine bs1_ok hs ?_ | refine bs0_ok hs ?_); clear hs; (try clear w); rintro _ w hs; try simp only [cls] at hs)))
    have q1 := DSum_calls w a c xs (hG.up0 hs) (hx.up0 hs) hc hl
    have hsl := sum_len xs
    generalize sum xs = sx at *
    have hsl' : (sx.map u8v).length = 32 := by rw [List.length_map]; exact hsl
    refine call_ok (by kernel_rfl) (q1) ?_; rintro _ w2 ⟨rfl, hb⟩; rw [callK_ret]; replace hs := Sat.add hs (Below.sat hb); clear hb; (try clear w); rename World => w; try simp only [cls] at hs
    clear q1
    (repeat (first | (simp (disch := first | omega | assumption | exact Option.isSome_some | (simp only [adO_isSome]; assumption)) only [↓vcp, vcs, vct, if_true, if_false, Nat.reduceBEq, ↓reduceIte, Nat.reduceEqDiff, Nat.reduceAdd, Nat.reduceMul, Nat.reduceSub, Int.reduceToNat, reduceCtorEq, Nat.reduceLT, Nat.reduceLeDiff, Int.reduceSub, Int.reduceAdd, Int.reduceNeg, Sat.look hs, Sat.lookA hs, hsl']) | (refine khK he hs ?_; clear he; intro he) | ((first | refine stK hs ?_ | refine stFK hs ?_ | refine stAK hs ?_ | refine msK hs ?_); clear hs; (try clear w); rintro w hs; try simp only [cls] at hs; try simp only [hsl'] at hs) | ((first | refine al_ok hs ?_ | refine bx_ok hs ?_ | refine bsvK hs ?_ | refine bs1_ok hs ?_ | refine bs0_ok hs ?_); clear hs; (try clear w); rintro _ w hs; try simp only [cls] at hs; try simp only [hsl'] at hs) | ((first | refine stK hs ?_ (by first | omega | (simp only [hsl', cells_bk, cells_sl, List.length_cons, List.length_nil, List.length_set, List.length_append, List.length_map, List.length_replicate, List.length_take, List.length_drop]; omega) | assumption | rfl) | refine stFK hs ?_ (by first | omega | (simp only [hsl', cells_bk, cells_sl, List.length_cons, List.length_nil, List.length_set, List.length_append, List.length_map, List.length_replicate, List.length_take, List.length_drop]; omega) | assumption | rfl) (by first | omega | (simp only [hsl', cells_bk, cells_sl, List.length_cons, List.length_nil, List.length_set, List.length_append, List.length_map, List.length_replicate, List.length_take, List.length_drop]; omega) | assumption | rfl) | refine stAK hs ?_ (by first | omega | (simp only [hsl', cells_bk, cells_sl, List.length_cons, List.length_nil, List.length_set, List.length_append, List.length_map, List.length_replicate, List.length_take, List.length_drop]; omega) | assumption | rfl) (by first | omega | (simp only [hsl', cells_bk, cells_sl, List.length_cons, List.length_nil, List.length_set, List.length_append, List.length_map, List.length_replicate, List.length_take, List.length_drop]; omega) | assumption | rfl) | refine msK hs ?_ (by first | omega | (simp only [hsl', cells_bk, cells_sl, List.length_cons, List.length_nil, List.length_set, List.length_append, List.length_map, List.length_replicate, List.length_take, List.length_drop]; omega) | assumption | rfl)); clear hs; (try clear w); rintro w hs; try simp only [cls] at hs; try simp only [hsl'] at hs)))
    rw [m_strOfL (xs := sx) 49 9 (hs.rdBk 1 rfl) hsl]
    (repeat (first | (simp (disch := first | omega | assumption | exact Option.isSome_some | (simp only [adO_isSome]; assumption)) only [↓vcp, vcs, vct, if_true, if_false, Nat.reduceBEq, ↓reduceIte, Nat.reduceEqDiff, Nat.reduceAdd, Nat.reduceMul, Nat.reduceSub, Int.reduceToNat, reduceCtorEq, Nat.reduceLT, Nat.reduceLeDiff, Int.reduceSub, Int.reduceAdd, Int.reduceNeg, Sat.look hs, Sat.lookA hs, hsl']) | (refine khK he hs ?_; clear he; intro he) | ((first | refine stK hs ?_ | refine stFK hs ?_ | refine stAK hs ?_ | refine msK hs ?_); clear hs; (try clear w); rintro w hs; try simp only [cls] at hs; try simp only [hsl'] at hs) | ((first | refine al_ok hs ?_ | refine bx_ok hs ?_ | refine bsvK hs ?_ | refine bs1_ok hs ?_ | refine bs0_ok hs ?_); clear hs; (try clear w); rintro _ w hs; try simp only [cls] at hs; try simp only [hsl'] at hs) | ((first | refine stK hs ?_ (by first | omega | (simp only [hsl', cells_bk, cells_sl, List.length_cons, List.length_nil, List.length_set, List.length_append, List.length_map, List.length_replicate, List.length_take, List.length_drop]; omega) | assumption | rfl) | refine stFK hs ?_ (by first | omega | (simp only [hsl', cells_bk, cells_sl, List.length_cons, List.length_nil, List.length_set, List.length_append, List.length_map, List.length_replicate, List.length_take, List.length_drop]; omega) | assumption | rfl) (by first | omega | (simp only [hsl', cells_bk, cells_sl, List.length_cons, List.length_nil, List.length_set, List.length_append, List.length_map, List.length_replicate, List.length_take, List.length_drop]; omega) | assumption | rfl) | refine stAK hs ?_ (by first | omega | (simp only [hsl', cells_bk, cells_sl, List.length_cons, List.length_nil, List.length_set, List.length_append, List.length_map, List.length_replicate, List.length_take, List.length_drop]; omega) | assumption | rfl) (by first | omega | (simp only [hsl', cells_bk, cells_sl, List.length_cons, List.length_nil, List.length_set, List.length_append, List.length_map, List.length_replicate, List.length_take, List.length_drop]; omega) | assumption | rfl) | refine msK hs ?_ (by first | omega | (simp only [hsl', cells_bk, cells_sl, List.length_cons, List.length_nil, List.length_set, List.length_append, List.length_map, List.length_replicate, List.length_take, List.length_drop]; omega) | assumption | rfl)); clear hs; (try clear w); rintro w hs; try simp only [cls] at hs; try simp only [hsl'] at hs)))
    exact ret_cellT (sz := 4) rfl (by rfl) (hs.cellsBk 0 rfl rfl (by omega)) (hR _ _ ⟨rfl, hs.belowAt⟩)
  · rw [if_neg hcd] at hR
    (repeat (first | (simp (disch := first | omega | assumption | exact Option.isSome_some | (simp only [adO_isSome]; assumption)) only [↓vcp, vcs, vct, if_true, if_false, Nat.reduceBEq, ↓reduceIte, Nat.reduceEqDiff, Nat.reduceAdd, Nat.reduceMul, Nat.reduceSub, Int.reduceToNat, reduceCtorEq, Nat.reduceLT, Nat.reduceLeDiff, Int.reduceSub, Int.reduceAdd, Int.reduceNeg, Sat.look hs, Sat.lookA hs]) | (refine khK he hs ?_; clear he; intro he) | ((first | refine stK hs ?_ | refine stFK hs ?_ | refine stAK hs ?_ | refine msK hs ?_); clear hs; (try clear w); rintro w hs; try simp only [cls] at hs) | ((first | refine al_ok hs ?_ | refine bx_ok hs ?_ | refine bsvK hs ?_ | refine bs1_ok hs ?_ | refine bs0_ok hs ?_); clear hs; (try clear w); rintro _ w hs; try simp only [cls] at hs)))
    exact ret_cellT (sz := 4) rfl (by rfl) (hs.cellsBk 0 rfl rfl (by omega)) (hR _ _ ⟨rfl, hs.belowAt⟩)
theorem LHolds_calls (w0 : World) (l : Lk) (a : Option Addr) (c : Nat) (xs : List UInt8) (hG : Ro (.at w0) (some ⟨1, 0, none⟩) (factors.map u32v)) (hx : Ro (.at w0) a (xs.map u8v)) (hc : xs.length ≤ c) (hl : xs.length ≤ 1125899906842624) (hd : l.d.length ≤ 1125899906842624) :
    Calls Tryd.prog 32 #[.agg l.fs.toArray, .slice a xs.length c] w0 fun e w' => e = .returned (.bool (lholds l xs)) ∧ Below w0.heap.size w0 w' := by
  refine calls_vc Tryd.func32 rfl (by kernel_rfl) (by kernel_rfl) ?_; intro R hR
  have hs := Sat.start w0
  unfold lholds at hR
  have q1 := fun w => Check_calls w l
  by_cases hm : lmay l
  · rw [decide_eq_true hm, Bool.true_and] at hR
    rw [lcheck_may hm] at q1
    obtain ⟨v, cd, h, d⟩ := l
    unfold Lk.fs at q1 ⊢
    dsimp only at hR hd q1 ⊢
    (repeat (first | (simp (disch := first | omega | assumption | exact Option.isSome_some | (simp only [adO_isSome]; assumption)) only [↓vcp, vcs, vct, if_true, if_false, Nat.reduceBEq, ↓reduceIte, Nat.reduceEqDiff, Nat.reduceAdd, Nat.reduceMul, Nat.reduceSub, Int.reduceToNat, reduceCtorEq, Nat.reduceLT, Nat.reduceLeDiff, Int.reduceSub, Int.reduceAdd, Int.reduceNeg, Sat.look hs, Sat.lookA hs]) | (refine khK he hs ?_; clear he; intro he) | ((first | refine stK hs ?_ | refine stFK hs ?_ | refine stAK hs ?_ | refine msK hs ?_); clear hs; (try clear w); rintro w hs; try simp only [cls] at hs) | ((first | refine al_ok hs ?_ | refine bx_ok hs ?_ | refine bsvK hs ?_ | refine bs1_ok hs ?_ | refine bs0_ok hs ?_); clear hs; (try clear w); rintro _ w hs; try simp only [cls] at hs)))
    refine call_ok (by kernel_rfl) (q1 w) ?_; rintro _ w2 ⟨rfl, hb⟩; rw [callK_ret]; replace hs := Sat.add hs (Below.sat hb); clear hb; (try clear w); rename World => w; try simp only [cls] at hs
    (repeat (first | (simp (disch := first | omega | assumption | exact Option.isSome_some | (simp only [adO_isSome]; assumption)) only [↓vcp, vcs, vct, if_true, if_false, Nat.reduceBEq, ↓reduceIte, Nat.reduceEqDiff, Nat.reduceAdd, Nat.reduceMul, Nat.reduceSub, Int.reduceToNat, reduceCtorEq, Nat.reduceLT, Nat.reduceLeDiff, Int.reduceSub, Int.reduceAdd, Int.reduceNeg, Sat.look hs, Sat.lookA hs]) | (refine khK he hs ?_; clear he; intro he) | ((first | refine stK hs ?_ | refine stFK hs ?_ | refine stAK hs ?_ | refine msK hs ?_); clear hs; (try clear w); rintro w hs; try simp only [cls] at hs) | ((first | refine al_ok hs ?_ | refine bx_ok hs ?_ | refine bsvK hs ?_ | refine bs1_ok hs ?_ | refine bs0_ok hs ?_); clear hs; (try clear w); rintro _ w hs; try simp only [cls] at hs)))
    refine cvb_ok hs ?_; clear hs; (try clear w); rintro ba bc pad w hcap hs; try simp only [cls] at hs
    (repeat (first | (simp (disch := first | omega | assumption | exact Option.isSome_some | (simp only [adO_isSome]; assumption)) only [↓vcp, vcs, vct, if_true, if_false, Nat.reduceBEq, ↓reduceIte, Nat.reduceEqDiff, Nat.reduceAdd, Nat.reduceMul, Nat.reduceSub, Int.reduceToNat, reduceCtorEq, Nat.reduceLT, Nat.reduceLeDiff, Int.reduceSub, Int.reduceAdd, Int.reduceNeg, Sat.look hs, Sat.lookA hs]) | (refine khK he hs ?_; clear he; intro he) | ((first | refine stK hs ?_ | refine stFK hs ?_ | refine stAK hs ?_ | refine msK hs ?_); clear hs; (try clear w); rintro w hs; try simp only [cls] at hs) | ((first | refine al_ok hs ?_ | refine bx_ok hs ?_ | refine bsvK hs ?_ | refine bs1_ok hs ?_ | refine bs0_ok hs ?_); clear hs; (try clear w); rintro _ w hs; try simp only [cls] at hs)))
    have q2 := Holds_calls w h (some ⟨ba, 0, none⟩) a bc c d xs (hG.up0 hs) (Ro.left (Rd.ro (hs.rdBk 1 rfl))) (hx.up0 hs) hc hd hl
    generalize holdsB h d xs = r at *
    refine call_ok (by kernel_rfl) (q2) ?_; rintro _ w2 ⟨rfl, hb⟩; rw [callK_ret]; replace hs := Sat.add hs (Below.sat hb); clear hb; (try clear w); rename World => w; try simp only [cls] at hs
    (repeat (first | (simp (disch := first | omega | assumption | exact Option.isSome_some | (simp only [adO_isSome]; assumption)) only [↓vcp, vcs, vct, if_true, if_false, Nat.reduceBEq, ↓reduceIte, Nat.reduceEqDiff, Nat.reduceAdd, Nat.reduceMul, Nat.reduceSub, Int.reduceToNat, reduceCtorEq, Nat.reduceLT, Nat.reduceLeDiff, Int.reduceSub, Int.reduceAdd, Int.reduceNeg, Sat.look hs, Sat.lookA hs]) | (refine khK he hs ?_; clear he; intro he) | ((first | refine stK hs ?_ | refine stFK hs ?_ | refine stAK hs ?_ | refine msK hs ?_); clear hs; (try clear w); rintro w hs; try simp only [cls] at hs) | ((first | refine al_ok hs ?_ | refine bx_ok hs ?_ | refine bsvK hs ?_ | refine bs1_ok hs ?_ | refine bs0_ok hs ?_); clear hs; (try clear w); rintro _ w hs; try simp only [cls] at hs)))
    exact ret_tmp rfl (hR _ _ ⟨rfl, hs.belowAt⟩)
  · rw [decide_eq_false hm, Bool.false_and] at hR
    rw [lcheck_not hm] at q1
    obtain ⟨v, cd, h, d⟩ := l
    unfold Lk.fs at q1 ⊢
    dsimp only at q1 ⊢
    (repeat (first | (simp (disch := first | omega | assumption | exact Option.isSome_some | (simp only [adO_isSome]; assumption)) only [↓vcp, vcs, vct, if_true, if_false, Nat.reduceBEq, ↓reduceIte, Nat.reduceEqDiff, Nat.reduceAdd, Nat.reduceMul, Nat.reduceSub, Int.reduceToNat, reduceCtorEq, Nat.reduceLT, Nat.reduceLeDiff, Int.reduceSub, Int.reduceAdd, Int.reduceNeg, Sat.look hs, Sat.lookA hs]) | (refine khK he hs ?_; clear he; intro he) | ((first | refine stK hs ?_ | refine stFK hs ?_ | refine stAK hs ?_ | refine msK hs ?_); clear hs; (try clear w); rintro w hs; try simp only [cls] at hs) | ((first | refine al_ok hs ?_ | refine bx_ok hs ?_ | refine bsvK hs ?_ | refine bs1_ok hs ?_ | refine bs0_ok hs ?_); clear hs; (try clear w); rintro _ w hs; try simp only [cls] at hs)))
    refine call_ok (by kernel_rfl) (q1 w) ?_; rintro _ w2 ⟨rfl, hb⟩; rw [callK_ret]; replace hs := Sat.add hs (Below.sat hb); clear hb; (try clear w); rename World => w; try simp only [cls] at hs
    (repeat (first | (simp (disch := first | omega | assumption | exact Option.isSome_some | (simp only [adO_isSome]; assumption)) only [↓vcp, vcs, vct, if_true, if_false, Nat.reduceBEq, ↓reduceIte, Nat.reduceEqDiff, Nat.reduceAdd, Nat.reduceMul, Nat.reduceSub, Int.reduceToNat, reduceCtorEq, Nat.reduceLT, Nat.reduceLeDiff, Int.reduceSub, Int.reduceAdd, Int.reduceNeg, Sat.look hs, Sat.lookA hs]) | (refine khK he hs ?_; clear he; intro he) | ((first | refine stK hs ?_ | refine stFK hs ?_ | refine stAK hs ?_ | refine msK hs ?_); clear hs; (try clear w); rintro w hs; try simp only [cls] at hs) | ((first | refine al_ok hs ?_ | refine bx_ok hs ?_ | refine bsvK hs ?_ | refine bs1_ok hs ?_ | refine bs0_ok hs ?_); clear hs; (try clear w); rintro _ w hs; try simp only [cls] at hs)))
    exact ret_tmp rfl (hR _ _ ⟨rfl, hs.belowAt⟩)
end Go.Proofs.YtokoohdpakhphaaDoor.Lnk
namespace Go.Proofs.YtokoohdpakhphaaDoor.Lnk
open Go VC Go.RowKit Dig Varint Sha
set_option linter.unusedSimpArgs false
set_option linter.unusedVariables false
set_option maxRecDepth 20000
set_option maxHeartbeats 4000000
theorem dlay_len {hash : Nat} {xs : List UInt8} : (dlay hash xs).length ≤ 66 := by
  unfold dlay
  split
  · rename_i h
    have := (fits_small h).2
    simp only [List.length_cons]
    omega
  · simp
theorem Bytes_calls (w0 : World) (l : Lk) (hd : l.d.length ≤ 1125899906842624) :
    Calls Tryd.prog 20 #[.agg l.fs.toArray] w0 fun e w' => ∃ a' c', e = .returned (.tuple #[.slice a' (lbytes l).length c', .int .i64 (lcheck l)]) ∧ (lbytes l).length ≤ c' ∧ Sat (.at w0) [.sl a' c' ((lbytes l).map u8v) 5 1] w' := by
  refine calls_vc Tryd.func20 rfl (by kernel_rfl) (by kernel_rfl) ?_; intro R hR
  have hs := Sat.start w0
  unfold lbytes at hR
  have q1 := fun w => Check_calls w l
  replace hs := Sat.nil hs 5 1; try simp only [cls] at hs
  by_cases hm : lmay l
  case neg =>
    rw [if_neg hm] at hR
    rw [lcheck_not hm] at q1 hR
    obtain ⟨v, cd, h, d⟩ := l
    unfold Lk.fs at q1 ⊢
    dsimp only at q1 ⊢
    (repeat (first | (simp (disch := first | omega | assumption | exact Option.isSome_some | (simp only [adO_isSome]; assumption)) only [↓vcp, vcs, vct, if_true, if_false, Nat.reduceBEq, ↓reduceIte, Nat.reduceEqDiff, Nat.reduceAdd, Nat.reduceMul, Nat.reduceSub, Int.reduceToNat, reduceCtorEq, Nat.reduceLT, Nat.reduceLeDiff, Int.reduceSub, Int.reduceAdd, Int.reduceNeg, Sat.look hs, Sat.lookA hs]) | (refine khK he hs ?_; clear he; intro he) | ((first | refine stK hs ?_ | refine stFK hs ?_ | refine stAK hs ?_ | refine msK hs ?_); clear hs; (try clear w); rintro w hs; try simp only [cls] at hs) | ((first | refine al_ok hs ?_ | refine bx_ok hs ?_ | refine bsvK hs ?_ | refine bs1_ok hs ?_ | refine bs0_ok hs ?_); clear hs; (try clear w); rintro _ w hs; try simp only [cls] at hs)))
    refine call_ok (by kernel_rfl) (q1 w) ?_; rintro _ w2 ⟨rfl, hb⟩; rw [callK_ret]; replace hs := Sat.add hs (Below.sat hb); clear hb; (try clear w); rename World => w; try simp only [cls] at hs
    (repeat (first | (simp (disch := first | omega | assumption | exact Option.isSome_some | (simp only [adO_isSome]; assumption)) only [↓vcp, vcs, vct, if_true, if_false, Nat.reduceBEq, ↓reduceIte, Nat.reduceEqDiff, Nat.reduceAdd, Nat.reduceMul, Nat.reduceSub, Int.reduceToNat, reduceCtorEq, Nat.reduceLT, Nat.reduceLeDiff, Int.reduceSub, Int.reduceAdd, Int.reduceNeg, Sat.look hs, Sat.lookA hs]) | (refine khK he hs ?_; clear he; intro he) | ((first | refine stK hs ?_ | refine stFK hs ?_ | refine stAK hs ?_ | refine msK hs ?_); clear hs; (try clear w); rintro w hs; try simp only [cls] at hs) | ((first | refine al_ok hs ?_ | refine bx_ok hs ?_ | refine bsvK hs ?_ | refine bs1_ok hs ?_ | refine bs0_ok hs ?_); clear hs; (try clear w); rintro _ w hs; try simp only [cls] at hs)))
    exact ret_tmp2 rfl (hR _ _ ⟨none, 0, rfl, by simp, hs.sub (.cons_cons _ (List.nil_sublist _))⟩)
  rw [if_pos hm] at hR
  have hfit := lmay_fits hm
  have hmm := hm
  unfold lmay at hmm
  rw [lcheck_may hm] at q1 hR
  obtain ⟨v, cd, h, d⟩ := l
  unfold Lk.fs at q1 ⊢
  dsimp only at q1 hd hfit hmm hR ⊢
  have hdl66 := @dlay_len h d
  (repeat (first | (simp (disch := first | omega | assumption | exact Option.isSome_some | (simp only [adO_isSome]; assumption)) only [↓vcp, vcs, vct, if_true, if_false, Nat.reduceBEq, ↓reduceIte, Nat.reduceEqDiff, Nat.reduceAdd, Nat.reduceMul, Nat.reduceSub, Int.reduceToNat, reduceCtorEq, Nat.reduceLT, Nat.reduceLeDiff, Int.reduceSub, Int.reduceAdd, Int.reduceNeg, Sat.look hs, Sat.lookA hs]) | (refine khK he hs ?_; clear he; intro he) | ((first | refine stK hs ?_ | refine stFK hs ?_ | refine stAK hs ?_ | refine msK hs ?_); clear hs; (try clear w); rintro w hs; try simp only [cls] at hs) | ((first | refine al_ok hs ?_ | refine bx_ok hs ?_ | refine bsvK hs ?_ | refine bs1_ok hs ?_ | refine bs0_ok hs ?_); clear hs; (try clear w); rintro _ w hs; try simp only [cls] at hs)))
  refine call_ok (by kernel_rfl) (q1 w) ?_; rintro _ w2 ⟨rfl, hb⟩; rw [callK_ret]; replace hs := Sat.add hs (Below.sat hb); clear hb; (try clear w); rename World => w; try simp only [cls] at hs
  by_cases hv1 : v = 1
  · rw [if_pos hv1] at hR
    (repeat (first | (simp (disch := first | omega | assumption | exact Option.isSome_some | (simp only [adO_isSome]; assumption)) only [↓vcp, vcs, vct, if_true, if_false, Nat.reduceBEq, ↓reduceIte, Nat.reduceEqDiff, Nat.reduceAdd, Nat.reduceMul, Nat.reduceSub, Int.reduceToNat, reduceCtorEq, Nat.reduceLT, Nat.reduceLeDiff, Int.reduceSub, Int.reduceAdd, Int.reduceNeg, Sat.look hs, Sat.lookA hs]) | (refine khK he hs ?_; clear he; intro he) | ((first | refine stK hs ?_ | refine stFK hs ?_ | refine stAK hs ?_ | refine msK hs ?_); clear hs; (try clear w); rintro w hs; try simp only [cls] at hs) | ((first | refine al_ok hs ?_ | refine bx_ok hs ?_ | refine bsvK hs ?_ | refine bs1_ok hs ?_ | refine bs0_ok hs ?_); clear hs; (try clear w); rintro _ w hs; try simp only [cls] at hs)))
    refine call_ok (by kernel_rfl) (Lay_calls w 1 (by decide)) ?_; rintro e w2 ⟨a1, c1, rfl, hown, hb⟩; rw [callK_ret]
    replace hs := hs.add (Own.sat hown hb)
    try simp only [cls] at hs
    clear hown hb
    rename World => w
    (repeat (first | (simp (disch := first | omega | assumption | exact Option.isSome_some | (simp only [adO_isSome]; assumption)) only [↓vcp, vcs, vct, if_true, if_false, Nat.reduceBEq, ↓reduceIte, Nat.reduceEqDiff, Nat.reduceAdd, Nat.reduceMul, Nat.reduceSub, Int.reduceToNat, reduceCtorEq, Nat.reduceLT, Nat.reduceLeDiff, Int.reduceSub, Int.reduceAdd, Int.reduceNeg, Sat.look hs, Sat.lookA hs]) | (refine khK he hs ?_; clear he; intro he) | ((first | refine stK hs ?_ | refine stFK hs ?_ | refine stAK hs ?_ | refine msK hs ?_); clear hs; (try clear w); rintro w hs; try simp only [cls] at hs) | ((first | refine al_ok hs ?_ | refine bx_ok hs ?_ | refine bsvK hs ?_ | refine bs1_ok hs ?_ | refine bs0_ok hs ?_); clear hs; (try clear w); rintro _ w hs; try simp only [cls] at hs)))
    refine call_ok (by kernel_rfl) (Lay_calls w cd (by omega)) ?_; rintro e w2 ⟨a2, c2, rfl, hown, hb⟩; rw [callK_ret]
    replace hs := hs.add (Own.sat hown hb)
    try simp only [cls] at hs
    clear hown hb
    rename World => w
    have hl1 : (vlay 1).length = 1 := by rw [vlay_small (by decide)]; rfl
    have hl2 := vlay_len 8 cd (by have := hmm; omega)
    generalize vlay 1 = v1 at *
    generalize vlay cd = v2 at *
    (repeat (first | (simp (disch := first | omega | assumption | exact Option.isSome_some | (simp only [adO_isSome]; assumption)) only [↓vcp, vcs, vct, if_true, if_false, Nat.reduceBEq, ↓reduceIte, Nat.reduceEqDiff, Nat.reduceAdd, Nat.reduceMul, Nat.reduceSub, Int.reduceToNat, reduceCtorEq, Nat.reduceLT, Nat.reduceLeDiff, Int.reduceSub, Int.reduceAdd, Int.reduceNeg, Sat.look hs, Sat.lookA hs]) | (refine khK he hs ?_; clear he; intro he) | ((first | refine stK hs ?_ | refine stFK hs ?_ | refine stAK hs ?_ | refine msK hs ?_); clear hs; (try clear w); rintro w hs; try simp only [cls] at hs) | ((first | refine al_ok hs ?_ | refine bx_ok hs ?_ | refine bsvK hs ?_ | refine bs1_ok hs ?_ | refine bs0_ok hs ?_); clear hs; (try clear w); rintro _ w hs; try simp only [cls] at hs)))
    refine apK (v1.length) hs (hs.rd (a := a1)) ?_; clear hs; (try clear w); rintro a3 c3 w hc3 hs; try simp only [cls] at hs
    try rw [Nat.zero_add] at hc3
    (repeat (first | (simp (disch := first | omega | assumption | exact Option.isSome_some | (simp only [adO_isSome]; assumption)) only [↓vcp, vcs, vct, if_true, if_false, Nat.reduceBEq, ↓reduceIte, Nat.reduceEqDiff, Nat.reduceAdd, Nat.reduceMul, Nat.reduceSub, Int.reduceToNat, reduceCtorEq, Nat.reduceLT, Nat.reduceLeDiff, Int.reduceSub, Int.reduceAdd, Int.reduceNeg, Sat.look hs, Sat.lookA hs]) | (refine khK he hs ?_; clear he; intro he) | ((first | refine stK hs ?_ | refine stFK hs ?_ | refine stAK hs ?_ | refine msK hs ?_); clear hs; (try clear w); rintro w hs; try simp only [cls] at hs) | ((first | refine al_ok hs ?_ | refine bx_ok hs ?_ | refine bsvK hs ?_ | refine bs1_ok hs ?_ | refine bs0_ok hs ?_); clear hs; (try clear w); rintro _ w hs; try simp only [cls] at hs)))
    refine apK (v2.length) hs (hs.rd (a := a2)) ?_; clear hs; (try clear w); rintro a4 c4 w hc4 hs; try simp only [cls] at hs
    (repeat (first | (simp (disch := first | omega | assumption | exact Option.isSome_some | (simp only [adO_isSome]; assumption)) only [↓vcp, vcs, vct, if_true, if_false, Nat.reduceBEq, ↓reduceIte, Nat.reduceEqDiff, Nat.reduceAdd, Nat.reduceMul, Nat.reduceSub, Int.reduceToNat, reduceCtorEq, Nat.reduceLT, Nat.reduceLeDiff, Int.reduceSub, Int.reduceAdd, Int.reduceNeg, Sat.look hs, Sat.lookA hs]) | (refine khK he hs ?_; clear he; intro he) | ((first | refine stK hs ?_ | refine stFK hs ?_ | refine stAK hs ?_ | refine msK hs ?_); clear hs; (try clear w); rintro w hs; try simp only [cls] at hs) | ((first | refine al_ok hs ?_ | refine bx_ok hs ?_ | refine bsvK hs ?_ | refine bs1_ok hs ?_ | refine bs0_ok hs ?_); clear hs; (try clear w); rintro _ w hs; try simp only [cls] at hs)))
    refine cvb_ok hs ?_; clear hs; (try clear w); rintro ba bc pad w hcap hs; try simp only [cls] at hs
    (repeat (first | (simp (disch := first | omega | assumption | exact Option.isSome_some | (simp only [adO_isSome]; assumption)) only [↓vcp, vcs, vct, if_true, if_false, Nat.reduceBEq, ↓reduceIte, Nat.reduceEqDiff, Nat.reduceAdd, Nat.reduceMul, Nat.reduceSub, Int.reduceToNat, reduceCtorEq, Nat.reduceLT, Nat.reduceLeDiff, Int.reduceSub, Int.reduceAdd, Int.reduceNeg, Sat.look hs, Sat.lookA hs]) | (refine khK he hs ?_; clear he; intro he) | ((first | refine stK hs ?_ | refine stFK hs ?_ | refine stAK hs ?_ | refine msK hs ?_); clear hs; (try clear w); rintro w hs; try simp only [cls] at hs) | ((first | refine al_ok hs ?_ | refine bx_ok hs ?_ | refine bsvK hs ?_ | refine bs1_ok hs ?_ | refine bs0_ok hs ?_); clear hs; (try clear w); rintro _ w hs; try simp only [cls] at hs)))
    have q2 := DLay_calls w h (some ⟨ba, 0, none⟩) bc d (Ro.left (Rd.ro (hs.rdBk 4 rfl))) hd
    rw [hfit] at q2
    generalize dlay h d = dl at *
    refine call_ok (by kernel_rfl) (q2) ?_; rintro _ w2 ⟨a5, c5, rfl, hc5, hb⟩; rw [callK_ret]; replace hs := Sat.add hs hb; clear hb; (try clear w); rename World => w; try simp only [cls] at hs
    clear q2
    (repeat (first | (simp (disch := first | omega | assumption | exact Option.isSome_some | (simp only [adO_isSome]; assumption)) only [↓vcp, vcs, vct, if_true, if_false, Nat.reduceBEq, ↓reduceIte, Nat.reduceEqDiff, Nat.reduceAdd, Nat.reduceMul, Nat.reduceSub, Int.reduceToNat, reduceCtorEq, Nat.reduceLT, Nat.reduceLeDiff, Int.reduceSub, Int.reduceAdd, Int.reduceNeg, Sat.look hs, Sat.lookA hs]) | (refine khK he hs ?_; clear he; intro he) | ((first | refine stK hs ?_ | refine stFK hs ?_ | refine stAK hs ?_ | refine msK hs ?_); clear hs; (try clear w); rintro w hs; try simp only [cls] at hs) | ((first | refine al_ok hs ?_ | refine bx_ok hs ?_ | refine bsvK hs ?_ | refine bs1_ok hs ?_ | refine bs0_ok hs ?_); clear hs; (try clear w); rintro _ w hs; try simp only [cls] at hs)))
    refine apK (dl.length) hs (hs.rd (a := a5)) ?_; clear hs; (try clear w); rintro a6 c6 w hc6 hs; try simp only [cls] at hs
    (repeat (first | (simp (disch := first | omega | assumption | exact Option.isSome_some | (simp only [adO_isSome]; assumption)) only [↓vcp, vcs, vct, if_true, if_false, Nat.reduceBEq, ↓reduceIte, Nat.reduceEqDiff, Nat.reduceAdd, Nat.reduceMul, Nat.reduceSub, Int.reduceToNat, reduceCtorEq, Nat.reduceLT, Nat.reduceLeDiff, Int.reduceSub, Int.reduceAdd, Int.reduceNeg, Sat.look hs, Sat.lookA hs]) | (refine khK he hs ?_; clear he; intro he) | ((first | refine stK hs ?_ | refine stFK hs ?_ | refine stAK hs ?_ | refine msK hs ?_); clear hs; (try clear w); rintro w hs; try simp only [cls] at hs) | ((first | refine al_ok hs ?_ | refine bx_ok hs ?_ | refine bsvK hs ?_ | refine bs1_ok hs ?_ | refine bs0_ok hs ?_); clear hs; (try clear w); rintro _ w hs; try simp only [cls] at hs)))
    refine ret_tmp2 rfl (hR _ _ ⟨a6, c6, ?_, ?_, ?_⟩)
    · rw [List.length_append, List.length_append]; rfl
    · rw [List.length_append, List.length_append]; omega
    · rw [List.map_append, List.map_append, List.append_assoc]
      exact hs.sub (.cons_cons _ (List.nil_sublist _))
  · rw [if_neg hv1] at hR
    (repeat (first | (simp (disch := first | omega | assumption | exact Option.isSome_some | (simp only [adO_isSome]; assumption)) only [↓vcp, vcs, vct, if_true, if_false, Nat.reduceBEq, ↓reduceIte, Nat.reduceEqDiff, Nat.reduceAdd, Nat.reduceMul, Nat.reduceSub, Int.reduceToNat, reduceCtorEq, Nat.reduceLT, Nat.reduceLeDiff, Int.reduceSub, Int.reduceAdd, Int.reduceNeg, Sat.look hs, Sat.lookA hs]) | (refine khK he hs ?_; clear he; intro he) | ((first | refine stK hs ?_ | refine stFK hs ?_ | refine stAK hs ?_ | refine msK hs ?_); clear hs; (try clear w); rintro w hs; try simp only [cls] at hs) | ((first | refine al_ok hs ?_ | refine bx_ok hs ?_ | refine bsvK hs ?_ | refine bs1_ok hs ?_ | refine bs0_ok hs ?_); clear hs; (try clear w); rintro _ w hs; try simp only [cls] at hs)))
    refine cvb_ok hs ?_; clear hs; (try clear w); rintro ba bc pad w hcap hs; try simp only [cls] at hs
    (repeat (first | (simp (disch := first | omega | assumption | exact Option.isSome_some | (simp only [adO_isSome]; assumption)) only [↓vcp, vcs, vct, if_true, if_false, Nat.reduceBEq, ↓reduceIte, Nat.reduceEqDiff, Nat.reduceAdd, Nat.reduceMul, Nat.reduceSub, Int.reduceToNat, reduceCtorEq, Nat.reduceLT, Nat.reduceLeDiff, Int.reduceSub, Int.reduceAdd, Int.reduceNeg, Sat.look hs, Sat.lookA hs]) | (refine khK he hs ?_; clear he; intro he) | ((first | refine stK hs ?_ | refine stFK hs ?_ | refine stAK hs ?_ | refine msK hs ?_); clear hs; (try clear w); rintro w hs; try simp only [cls] at hs) | ((first | refine al_ok hs ?_ | refine bx_ok hs ?_ | refine bsvK hs ?_ | refine bs1_ok hs ?_ | refine bs0_ok hs ?_); clear hs; (try clear w); rintro _ w hs; try simp only [cls] at hs)))
    have q2 := DLay_calls w h (some ⟨ba, 0, none⟩) bc d (Ro.left (Rd.ro (hs.rdBk 2 rfl))) hd
    rw [hfit] at q2
    generalize dlay h d = dl at *
    refine call_ok (by kernel_rfl) (q2) ?_; rintro _ w2 ⟨a5, c5, rfl, hc5, hb⟩; rw [callK_ret]; replace hs := Sat.add hs hb; clear hb; (try clear w); rename World => w; try simp only [cls] at hs
    clear q2
    (repeat (first | (simp (disch := first | omega | assumption | exact Option.isSome_some | (simp only [adO_isSome]; assumption)) only [↓vcp, vcs, vct, if_true, if_false, Nat.reduceBEq, ↓reduceIte, Nat.reduceEqDiff, Nat.reduceAdd, Nat.reduceMul, Nat.reduceSub, Int.reduceToNat, reduceCtorEq, Nat.reduceLT, Nat.reduceLeDiff, Int.reduceSub, Int.reduceAdd, Int.reduceNeg, Sat.look hs, Sat.lookA hs]) | (refine khK he hs ?_; clear he; intro he) | ((first | refine stK hs ?_ | refine stFK hs ?_ | refine stAK hs ?_ | refine msK hs ?_); clear hs; (try clear w); rintro w hs; try simp only [cls] at hs) | ((first | refine al_ok hs ?_ | refine bx_ok hs ?_ | refine bsvK hs ?_ | refine bs1_ok hs ?_ | refine bs0_ok hs ?_); clear hs; (try clear w); rintro _ w hs; try simp only [cls] at hs)))
    refine apK (dl.length) hs (hs.rd (a := a5)) ?_; clear hs; (try clear w); rintro a6 c6 w hc6 hs; try simp only [cls] at hs
    (repeat (first | (simp (disch := first | omega | assumption | exact Option.isSome_some | (simp only [adO_isSome]; assumption)) only [↓vcp, vcs, vct, if_true, if_false, Nat.reduceBEq, ↓reduceIte, Nat.reduceEqDiff, Nat.reduceAdd, Nat.reduceMul, Nat.reduceSub, Int.reduceToNat, reduceCtorEq, Nat.reduceLT, Nat.reduceLeDiff, Int.reduceSub, Int.reduceAdd, Int.reduceNeg, Sat.look hs, Sat.lookA hs]) | (refine khK he hs ?_; clear he; intro he) | ((first | refine stK hs ?_ | refine stFK hs ?_ | refine stAK hs ?_ | refine msK hs ?_); clear hs; (try clear w); rintro w hs; try simp only [cls] at hs) | ((first | refine al_ok hs ?_ | refine bx_ok hs ?_ | refine bsvK hs ?_ | refine bs1_ok hs ?_ | refine bs0_ok hs ?_); clear hs; (try clear w); rintro _ w hs; try simp only [cls] at hs)))
    try rw [Nat.zero_add] at hc6
    refine ret_tmp2 rfl (hR _ _ ⟨a6, c6, ?_, ?_, ?_⟩)
    · rw [List.nil_append]; rfl
    · rw [List.nil_append]; exact hc6
    · rw [List.nil_append]; exact hs.sub (.cons_cons _ (List.nil_sublist _))
end Go.Proofs.YtokoohdpakhphaaDoor.Lnk
