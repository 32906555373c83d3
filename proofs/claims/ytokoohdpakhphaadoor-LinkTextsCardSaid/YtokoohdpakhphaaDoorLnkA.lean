/- Several texts in one. -/
import Derived.Test.YtokoohdpakhphaaDoorLnkC
import Derived.Test.YtokoohdpakhphaaDoorDReadA
namespace Go.Proofs.YtokoohdpakhphaaDoor.Lnk
open Go VC Go.RowKit Dig Varint
def zeroLk : Lk := ⟨0, 0, 0, []⟩
def lnum (xs : List UInt8) (k : Nat) : Nat × Nat × Nat := if (vread (xs.drop k)).2.2 = 0 then ((vread (xs.drop k)).1, k + (vread (xs.drop k)).2.1, 0) else (0, 0, 42)
def ldig (l : Lk) (xs : List UInt8) (k : Nat) : Lk × Nat × Nat :=
  if (dread (xs.drop k)).2.2.2 = 0 then (⟨l.v, l.c, (dread (xs.drop k)).1, (dread (xs.drop k)).2.1⟩, k + (dread (xs.drop k)).2.2.1, 0)
  else if (dread (xs.drop k)).2.2.2 = 32 ∨ (dread (xs.drop k)).2.2.2 = 33 then (zeroLk, 0, 42) else (zeroLk, 0, 43)
def lfirst (xs : List UInt8) : Lk × Nat × Nat :=
  if xs[0]? = some 18 then ldig ⟨0, 112, 0, []⟩ xs 0
  else if (lnum xs 0).2.2 ≠ 0 then (zeroLk, 0, 42)
  else if (lnum xs 0).1 ≠ 1 then (zeroLk, 0, 41)
  else if (lnum xs (lnum xs 0).2.1).2.2 ≠ 0 then (zeroLk, 0, 42)
  else ldig ⟨1, (lnum xs (lnum xs 0).2.1).1, 0, []⟩ xs (lnum xs (lnum xs 0).2.1).2.1
def lparse (xs : List UInt8) : Lk × Nat :=
  if (lfirst xs).2.2 ≠ 0 then (zeroLk, (lfirst xs).2.2) else if (lfirst xs).2.1 < xs.length then (zeroLk, 44) else ((lfirst xs).1, 0)
def lbytes (l : Lk) : List UInt8 := if lmay l then (if l.v = 1 then vlay 1 ++ vlay l.c else []) ++ dlay l.h l.d else []
theorem lcheck_may {l : Lk} (h : lmay l) : lcheck l = 0 := if_pos h
theorem lcheck_not {l : Lk} (h : ¬ lmay l) : lcheck l = 40 := if_neg h
theorem lmay_fits {l : Lk} (h : lmay l) : fitsE l.h l.d.length = 0 := by
  unfold lmay at h
  unfold fitsE
  by_cases h1 : l.h = 18
  · rw [if_pos h1, if_pos (by omega)]
  · rw [if_neg h1, if_pos (by omega), if_pos (by omega)]
theorem dread_used (xs : List UInt8) : (dread xs).2.2.1 ≤ xs.length ∧ (dread xs).2.1.length ≤ xs.length := by
  unfold dread
  rcases dnum_out xs 0 (by omega) with ⟨e, he, _, h1⟩ | ⟨n, m, h1, hn, hm, hml, hv⟩
  · rw [h1]; simp [he]
  · rw [Nat.zero_add] at h1 hml
    rw [h1]
    dsimp only
    rw [if_neg (by simp)]
    rcases dnum_out xs m hml with ⟨e, he, _, h2⟩ | ⟨n2, m2, h2, hn2', hm2, hml2, hv2⟩
    · rw [h2]; simp [he]
    · rw [h2]
      dsimp only
      rw [if_neg (by simp)]
      split
      · simp
      · split
        · simp
        · simp only [List.length_take, List.length_drop]; omega
theorem lnum_out (xs : List UInt8) (k : Nat) (hk : k ≤ xs.length) : lnum xs k = (0, 0, 42) ∨ ∃ n m, lnum xs k = (n, k + m, 0) ∧ n < 2 ^ 63 ∧ 0 < m ∧ k + m ≤ xs.length := by
  unfold lnum
  rcases vread_out (xs.drop k) with h | h | h | ⟨n, m, h, h1, h2, h3, h4⟩
  · rw [h]; exact .inl rfl
  · rw [h]; exact .inl rfl
  · rw [h]; exact .inl rfl
  · rw [h]
    rw [List.length_drop] at h3
    exact .inr ⟨n, m, rfl, h1, h2, by omega⟩
end Go.Proofs.YtokoohdpakhphaaDoor.Lnk
namespace Go.Proofs.YtokoohdpakhphaaDoor.Lnk
open Go VC Go.RowKit Dig Varint
set_option linter.unusedSimpArgs false
set_option linter.unusedVariables false
set_option maxRecDepth 20000
set_option maxHeartbeats 4000000
theorem lnumber_calls (w : World) (a : Option Addr) (c : Nat) (xs : List UInt8) (k : Nat) (hx : RdB w w.heap.size a xs) (hc : xs.length ≤ c) (hk : k ≤ xs.length) (hn : xs.length ≤ 140737488355328) :
    Calls Tryd.prog 46 #[.slice a xs.length c, .int .i64 k] w fun e w' => e = .returned (.tuple #[.int .u64 (lnum xs k).1, .int .i64 (lnum xs k).2.1, .int .i64 (lnum xs k).2.2]) ∧ w = w' := by
  refine calls_vc Tryd.func46 rfl (by kernel_rfl) (by kernel_rfl) ?_; intro R hR
  have hs := Sat.start w
  have hr0 : Ro (.at w) (cutA a k c 1) ((xs.drop k).map u8v) := by
    have h := (Rd.ro hx).cut1 k c (by rw [List.length_map]; exact hc)
    rwa [← List.map_drop] at h
  have hr : RdB w w.heap.size (cutA a k c 1) (xs.drop k) := hr0.rd hs
  have hrd := Read_calls w w.heap.size (cutA a k c 1) (c - k) (xs.drop k) hr (by rw [List.length_drop]; omega)
  rw [List.length_drop] at hrd
  unfold lnum at hR
  rcases vread_out (xs.drop k) with h | h | h | ⟨n, m, h, h1, h2, h3, h4⟩
  · rw [h] at hrd hR
    (repeat (first | (simp (disch := first | omega | assumption | exact Option.isSome_some | (simp only [adO_isSome]; assumption)) only [↓vcp, vcs, vct, if_true, if_false, Nat.reduceBEq, ↓reduceIte, Nat.reduceEqDiff, Nat.reduceAdd, Nat.reduceMul, Nat.reduceSub, Int.reduceToNat, reduceCtorEq, Nat.reduceLT, Nat.reduceLeDiff, Int.reduceSub, Int.reduceAdd, Int.reduceNeg, Sat.look hs, Sat.lookA hs]) | (refine khK he hs ?_; clear he; intro he) | ((first | refine stK hs ?_ | refine stFK hs ?_ | refine stAK hs ?_ | refine msK hs ?_); clear hs; (try clear w); rintro w hs; try simp only [cls] at hs) | ((first | refine al_ok hs ?_ | refine bx_ok hs ?_ | refine bsvK hs ?_ | refine bs1_ok hs ?_ | refine bs0_ok hs ?_); clear hs; (try clear w); rintro _ w hs; try simp only [cls] at hs) | (refine call_ok (by kernel_rfl) (hrd) ?_; rintro _ _ ⟨rfl, rfl⟩; rw [callK_ret]) | (refine call_still (by kernel_rfl) (hrd) ?_)))
    exact ret_tmp3 rfl (hR _ _ ⟨rfl, rfl⟩)
  · rw [h] at hrd hR
    (repeat (first | (simp (disch := first | omega | assumption | exact Option.isSome_some | (simp only [adO_isSome]; assumption)) only [↓vcp, vcs, vct, if_true, if_false, Nat.reduceBEq, ↓reduceIte, Nat.reduceEqDiff, Nat.reduceAdd, Nat.reduceMul, Nat.reduceSub, Int.reduceToNat, reduceCtorEq, Nat.reduceLT, Nat.reduceLeDiff, Int.reduceSub, Int.reduceAdd, Int.reduceNeg, Sat.look hs, Sat.lookA hs]) | (refine khK he hs ?_; clear he; intro he) | ((first | refine stK hs ?_ | refine stFK hs ?_ | refine stAK hs ?_ | refine msK hs ?_); clear hs; (try clear w); rintro w hs; try simp only [cls] at hs) | ((first | refine al_ok hs ?_ | refine bx_ok hs ?_ | refine bsvK hs ?_ | refine bs1_ok hs ?_ | refine bs0_ok hs ?_); clear hs; (try clear w); rintro _ w hs; try simp only [cls] at hs) | (refine call_ok (by kernel_rfl) (hrd) ?_; rintro _ _ ⟨rfl, rfl⟩; rw [callK_ret]) | (refine call_still (by kernel_rfl) (hrd) ?_)))
    exact ret_tmp3 rfl (hR _ _ ⟨rfl, rfl⟩)
  · rw [h] at hrd hR
    (repeat (first | (simp (disch := first | omega | assumption | exact Option.isSome_some | (simp only [adO_isSome]; assumption)) only [↓vcp, vcs, vct, if_true, if_false, Nat.reduceBEq, ↓reduceIte, Nat.reduceEqDiff, Nat.reduceAdd, Nat.reduceMul, Nat.reduceSub, Int.reduceToNat, reduceCtorEq, Nat.reduceLT, Nat.reduceLeDiff, Int.reduceSub, Int.reduceAdd, Int.reduceNeg, Sat.look hs, Sat.lookA hs]) | (refine khK he hs ?_; clear he; intro he) | ((first | refine stK hs ?_ | refine stFK hs ?_ | refine stAK hs ?_ | refine msK hs ?_); clear hs; (try clear w); rintro w hs; try simp only [cls] at hs) | ((first | refine al_ok hs ?_ | refine bx_ok hs ?_ | refine bsvK hs ?_ | refine bs1_ok hs ?_ | refine bs0_ok hs ?_); clear hs; (try clear w); rintro _ w hs; try simp only [cls] at hs) | (refine call_ok (by kernel_rfl) (hrd) ?_; rintro _ _ ⟨rfl, rfl⟩; rw [callK_ret]) | (refine call_still (by kernel_rfl) (hrd) ?_)))
    exact ret_tmp3 rfl (hR _ _ ⟨rfl, rfl⟩)
  · rw [h] at hrd hR
    rw [List.length_drop] at h3
    (repeat (first | (simp (disch := first | omega | assumption | exact Option.isSome_some | (simp only [adO_isSome]; assumption)) only [↓vcp, vcs, vct, if_true, if_false, Nat.reduceBEq, ↓reduceIte, Nat.reduceEqDiff, Nat.reduceAdd, Nat.reduceMul, Nat.reduceSub, Int.reduceToNat, reduceCtorEq, Nat.reduceLT, Nat.reduceLeDiff, Int.reduceSub, Int.reduceAdd, Int.reduceNeg, Sat.look hs, Sat.lookA hs]) | (refine khK he hs ?_; clear he; intro he) | ((first | refine stK hs ?_ | refine stFK hs ?_ | refine stAK hs ?_ | refine msK hs ?_); clear hs; (try clear w); rintro w hs; try simp only [cls] at hs) | ((first | refine al_ok hs ?_ | refine bx_ok hs ?_ | refine bsvK hs ?_ | refine bs1_ok hs ?_ | refine bs0_ok hs ?_); clear hs; (try clear w); rintro _ w hs; try simp only [cls] at hs) | (refine call_ok (by kernel_rfl) (hrd) ?_; rintro _ _ ⟨rfl, rfl⟩; rw [callK_ret]) | (refine call_still (by kernel_rfl) (hrd) ?_)))
    exact ret_tmp3 rfl (hR _ _ ⟨rfl, rfl⟩)
theorem digested_calls (w0 : World) (l : Lk) (a : Option Addr) (c : Nat) (xs : List UInt8) (k : Nat) (hx : Ro (.at w0) a (xs.map u8v)) (hc : xs.length ≤ c) (hk : k ≤ xs.length) (hn : xs.length ≤ 140737488355328) :
    Calls Tryd.prog 45 #[.agg l.fs.toArray, .slice a xs.length c, .int .i64 k] w0 fun e w' => e = .returned (.tuple #[.agg (ldig l xs k).1.fs.toArray, .int .i64 (ldig l xs k).2.1, .int .i64 (ldig l xs k).2.2]) ∧ Below w0.heap.size w0 w' := by
  refine calls_vc Tryd.func45 rfl (by kernel_rfl) (by kernel_rfl) ?_; intro R hR
  have hs := Sat.start w0
  obtain ⟨v, cd, h0, d0⟩ := l
  unfold Lk.fs
  dsimp only
  have hr0 : Ro (.at w0) (cutA a k c 1) ((xs.drop k).map u8v) := by
    have h := hx.cut1 k c (by rw [List.length_map]; exact hc)
    rwa [← List.map_drop] at h
  unfold ldig at hR
  obtain ⟨hu1, hu2⟩ := dread_used (xs.drop k)
  rw [List.length_drop] at hu1 hu2
  (repeat (first | (simp (disch := first | omega | assumption | exact Option.isSome_some | (simp only [adO_isSome]; assumption)) only [↓vcp, vcs, vct, if_true, if_false, Nat.reduceBEq, ↓reduceIte, Nat.reduceEqDiff, Nat.reduceAdd, Nat.reduceMul, Nat.reduceSub, Int.reduceToNat, reduceCtorEq, Nat.reduceLT, Nat.reduceLeDiff, Int.reduceSub, Int.reduceAdd, Int.reduceNeg, Sat.look hs, Sat.lookA hs]) | (refine khK he hs ?_; clear he; intro he) | ((first | refine stK hs ?_ | refine stFK hs ?_ | refine stAK hs ?_ | refine msK hs ?_); clear hs; (try clear w); rintro w hs; try simp only [cls] at hs) | ((first | refine al_ok hs ?_ | refine bx_ok hs ?_ | refine bsvK hs ?_ | refine bs1_ok hs ?_ | refine bs0_ok hs ?_); clear hs; (try clear w); rintro _ w hs; try simp only [cls] at hs)))
  have q1 := DRead_calls w (cutA a k c 1) (c - k) (xs.drop k) (hr0.up0 hs) (by rw [List.length_drop]; omega) (by rw [List.length_drop]; omega)
  rw [List.length_drop] at q1
  generalize dread (xs.drop k) = r at *
  obtain ⟨rh, rd, ru, re⟩ := r
  dsimp only at q1 hu1 hu2 hR
  refine call_ok (by kernel_rfl) (q1) ?_; rintro _ w2 ⟨a2, c2, rfl, hc2, hb⟩; rw [callK_ret]; replace hs := Sat.add hs hb; clear hb; (try clear w); rename World => w; try simp only [cls] at hs
  clear q1
  by_cases he0 : re = 0
  · rw [if_pos he0] at hR
    (repeat (first | (simp (disch := first | omega | assumption | exact Option.isSome_some | (simp only [adO_isSome]; assumption)) only [↓vcp, vcs, vct, if_true, if_false, Nat.reduceBEq, ↓reduceIte, Nat.reduceEqDiff, Nat.reduceAdd, Nat.reduceMul, Nat.reduceSub, Int.reduceToNat, reduceCtorEq, Nat.reduceLT, Nat.reduceLeDiff, Int.reduceSub, Int.reduceAdd, Int.reduceNeg, Sat.look hs, Sat.lookA hs]) | (refine khK he hs ?_; clear he; intro he) | ((first | refine stK hs ?_ | refine stFK hs ?_ | refine stAK hs ?_ | refine msK hs ?_); clear hs; (try clear w); rintro w hs; try simp only [cls] at hs) | ((first | refine al_ok hs ?_ | refine bx_ok hs ?_ | refine bsvK hs ?_ | refine bs1_ok hs ?_ | refine bs0_ok hs ?_); clear hs; (try clear w); rintro _ w hs; try simp only [cls] at hs)))
    have hsF := hs
    clear hs
    have hs := hsF.one 0 rfl
    have hxF : Ro _ a2 (rd.map u8v) := hsF.roOther (i := 0) rfl (by decide)
    refine draw_plan (SatE _ []) [(0, true), (1, true), (2, true), (3, true), (4, false), (5, true), (6, false)] (by kernel_rfl) (by kernel_rfl) (Sat.e0 (Sat.drew hs)) ?_; replace hs := Sat.drew hs; revert hs; generalize World.drew _ = w; intro hs; have he := Sat.e0 hs
    (repeat (first | (simp (disch := first | omega | assumption | exact Option.isSome_some | (simp only [adO_isSome]; assumption)) only [↓vcp, vcs, vct, if_true, if_false, Nat.reduceBEq, ↓reduceIte, Nat.reduceEqDiff, Nat.reduceAdd, Nat.reduceMul, Nat.reduceSub, Int.reduceToNat, reduceCtorEq, Nat.reduceLT, Nat.reduceLeDiff, Int.reduceSub, Int.reduceAdd, Int.reduceNeg, Sat.look hs, Sat.lookA hs, m_strOfEO he _ hxF rfl]) | (refine khK he hs ?_; clear he; intro he) | ((first | refine stK hs ?_ | refine stFK hs ?_ | refine stAK hs ?_ | refine msK hs ?_); clear hs; (try clear w); rintro w hs; try simp only [cls] at hs) | ((first | refine al_ok hs ?_ | refine bx_ok hs ?_ | refine bsvK hs ?_ | refine bs1_ok hs ?_ | refine bs0_ok hs ?_); clear hs; (try clear w); rintro _ w hs; try simp only [cls] at hs)))
    have hsG := hsF.upd1 0 rfl hs
    clear hs hsF hxF he
    have hs := hsG
    clear hsG
    simp only [List.set_cons_zero] at hs
    (repeat (first | (simp (disch := first | omega | assumption | exact Option.isSome_some | (simp only [adO_isSome]; assumption)) only [↓vcp, vcs, vct, if_true, if_false, Nat.reduceBEq, ↓reduceIte, Nat.reduceEqDiff, Nat.reduceAdd, Nat.reduceMul, Nat.reduceSub, Int.reduceToNat, reduceCtorEq, Nat.reduceLT, Nat.reduceLeDiff, Int.reduceSub, Int.reduceAdd, Int.reduceNeg, Sat.look hs, Sat.lookA hs]) | (refine khK he hs ?_; clear he; intro he) | ((first | refine stK hs ?_ | refine stFK hs ?_ | refine stAK hs ?_ | refine msK hs ?_); clear hs; (try clear w); rintro w hs; try simp only [cls] at hs) | ((first | refine al_ok hs ?_ | refine bx_ok hs ?_ | refine bsvK hs ?_ | refine bs1_ok hs ?_ | refine bs0_ok hs ?_); clear hs; (try clear w); rintro _ w hs; try simp only [cls] at hs)))
    exact ret_cellT2 (sz := 4) rfl (by rfl) (hs.cellsBk 1 rfl rfl (by omega)) (hR _ _ ⟨rfl, hs.belowAt⟩)
  · rw [if_neg he0] at hR
    by_cases h32 : re = 32
    · rw [if_pos (.inl h32)] at hR
      (repeat (first | (simp (disch := first | omega | assumption | exact Option.isSome_some | (simp only [adO_isSome]; assumption)) only [↓vcp, vcs, vct, if_true, if_false, Nat.reduceBEq, ↓reduceIte, Nat.reduceEqDiff, Nat.reduceAdd, Nat.reduceMul, Nat.reduceSub, Int.reduceToNat, reduceCtorEq, Nat.reduceLT, Nat.reduceLeDiff, Int.reduceSub, Int.reduceAdd, Int.reduceNeg, Sat.look hs, Sat.lookA hs]) | (refine khK he hs ?_; clear he; intro he) | ((first | refine stK hs ?_ | refine stFK hs ?_ | refine stAK hs ?_ | refine msK hs ?_); clear hs; (try clear w); rintro w hs; try simp only [cls] at hs) | ((first | refine al_ok hs ?_ | refine bx_ok hs ?_ | refine bsvK hs ?_ | refine bs1_ok hs ?_ | refine bs0_ok hs ?_); clear hs; (try clear w); rintro _ w hs; try simp only [cls] at hs)))
      exact ret_cellT2 (sz := 4) rfl (by rfl) (hs.cellsBk 1 rfl rfl (by omega)) (hR _ _ ⟨rfl, hs.belowAt⟩)
    · by_cases h33 : re = 33
      · rw [if_pos (.inr h33)] at hR
        (repeat (first | (simp (disch := first | omega | assumption | exact Option.isSome_some | (simp only [adO_isSome]; assumption)) only [↓vcp, vcs, vct, if_true, if_false, Nat.reduceBEq, ↓reduceIte, Nat.reduceEqDiff, Nat.reduceAdd, Nat.reduceMul, Nat.reduceSub, Int.reduceToNat, reduceCtorEq, Nat.reduceLT, Nat.reduceLeDiff, Int.reduceSub, Int.reduceAdd, Int.reduceNeg, Sat.look hs, Sat.lookA hs]) | (refine khK he hs ?_; clear he; intro he) | ((first | refine stK hs ?_ | refine stFK hs ?_ | refine stAK hs ?_ | refine msK hs ?_); clear hs; (try clear w); rintro w hs; try simp only [cls] at hs) | ((first | refine al_ok hs ?_ | refine bx_ok hs ?_ | refine bsvK hs ?_ | refine bs1_ok hs ?_ | refine bs0_ok hs ?_); clear hs; (try clear w); rintro _ w hs; try simp only [cls] at hs)))
        exact ret_cellT2 (sz := 4) rfl (by rfl) (hs.cellsBk 1 rfl rfl (by omega)) (hR _ _ ⟨rfl, hs.belowAt⟩)
      · rw [if_neg (by omega)] at hR
        (repeat (first | (simp (disch := first | omega | assumption | exact Option.isSome_some | (simp only [adO_isSome]; assumption)) only [↓vcp, vcs, vct, if_true, if_false, Nat.reduceBEq, ↓reduceIte, Nat.reduceEqDiff, Nat.reduceAdd, Nat.reduceMul, Nat.reduceSub, Int.reduceToNat, reduceCtorEq, Nat.reduceLT, Nat.reduceLeDiff, Int.reduceSub, Int.reduceAdd, Int.reduceNeg, Sat.look hs, Sat.lookA hs]) | (refine khK he hs ?_; clear he; intro he) | ((first | refine stK hs ?_ | refine stFK hs ?_ | refine stAK hs ?_ | refine msK hs ?_); clear hs; (try clear w); rintro w hs; try simp only [cls] at hs) | ((first | refine al_ok hs ?_ | refine bx_ok hs ?_ | refine bsvK hs ?_ | refine bs1_ok hs ?_ | refine bs0_ok hs ?_); clear hs; (try clear w); rintro _ w hs; try simp only [cls] at hs)))
        exact ret_cellT2 (sz := 4) rfl (by rfl) (hs.cellsBk 1 rfl rfl (by omega)) (hR _ _ ⟨rfl, hs.belowAt⟩)
theorem First_calls (w0 : World) (a : Option Addr) (c : Nat) (xs : List UInt8) (hx : Ro (.at w0) a (xs.map u8v)) (hc : xs.length ≤ c) (hn : xs.length ≤ 140737488355328) :
    Calls Tryd.prog 18 #[.slice a xs.length c] w0 fun e w' => e = .returned (.tuple #[.agg (lfirst xs).1.fs.toArray, .int .i64 (lfirst xs).2.1, .int .i64 (lfirst xs).2.2]) ∧ Below w0.heap.size w0 w' := by
  refine calls_vc Tryd.func18 rfl (by kernel_rfl) (by kernel_rfl) ?_; intro R hR
  have hs := Sat.start w0
  unfold lfirst at hR
  by_cases h18 : xs[0]? = some 18
  · rw [if_pos h18] at hR
    have hl0 : 0 < xs.length := (List.getElem?_eq_some_iff.1 h18).1
    have has : a.isSome = true := hx.isSome (by rw [List.length_map]; exact hl0)
    have f0 : oldO (.at w0) (adO a 0) = some (.int .u8 18) := hx 0 _ (by rw [List.getElem?_map, h18]; rfl)
    have f0' : oldO (.at w0) a = some (.int .u8 18) := by rw [adO_0] at f0; exact f0
    (repeat (first | (simp (disch := first | omega | assumption | exact Option.isSome_some | (simp only [adO_isSome]; assumption)) only [↓vcp, vcs, vct, if_true, if_false, Nat.reduceBEq, ↓reduceIte, Nat.reduceEqDiff, Nat.reduceAdd, Nat.reduceMul, Nat.reduceSub, Int.reduceToNat, reduceCtorEq, Nat.reduceLT, Nat.reduceLeDiff, Int.reduceSub, Int.reduceAdd, Int.reduceNeg, Sat.look hs, Sat.lookA hs, hs.old f0, hs.old f0']) | (refine khK he hs ?_; clear he; intro he) | ((first | refine stK hs ?_ | refine stFK hs ?_ | refine stAK hs ?_ | refine msK hs ?_); clear hs; (try clear w); rintro w hs; try simp only [cls] at hs) | ((first | refine al_ok hs ?_ | refine bx_ok hs ?_ | refine bsvK hs ?_ | refine bs1_ok hs ?_ | refine bs0_ok hs ?_); clear hs; (try clear w); rintro _ w hs; try simp only [cls] at hs)))
    have q1 := digested_calls w ⟨0, 112, 0, []⟩ a c xs 0 (hx.up0 hs) hc (Nat.zero_le _) hn
    generalize ldig ⟨0, 112, 0, []⟩ xs 0 = r at *
    obtain ⟨⟨lv, lc, lh, ld⟩, n, e⟩ := r
    unfold Lk.fs at q1 hR
    dsimp only at q1 hR
    refine call_ok (by kernel_rfl) (q1) ?_; rintro _ w2 ⟨rfl, hb⟩; rw [callK_ret]; replace hs := Sat.add hs (Below.sat hb); clear hb; (try clear w); rename World => w; try simp only [cls] at hs
    clear q1
    (repeat (first | (simp (disch := first | omega | assumption | exact Option.isSome_some | (simp only [adO_isSome]; assumption)) only [↓vcp, vcs, vct, if_true, if_false, Nat.reduceBEq, ↓reduceIte, Nat.reduceEqDiff, Nat.reduceAdd, Nat.reduceMul, Nat.reduceSub, Int.reduceToNat, reduceCtorEq, Nat.reduceLT, Nat.reduceLeDiff, Int.reduceSub, Int.reduceAdd, Int.reduceNeg, Sat.look hs, Sat.lookA hs]) | (refine khK he hs ?_; clear he; intro he) | ((first | refine stK hs ?_ | refine stFK hs ?_ | refine stAK hs ?_ | refine msK hs ?_); clear hs; (try clear w); rintro w hs; try simp only [cls] at hs) | ((first | refine al_ok hs ?_ | refine bx_ok hs ?_ | refine bsvK hs ?_ | refine bs1_ok hs ?_ | refine bs0_ok hs ?_); clear hs; (try clear w); rintro _ w hs; try simp only [cls] at hs)))
    exact ret_cellT2 (sz := 4) rfl (by rfl) (hs.cellsBk 0 rfl rfl (by omega)) (hR _ _ ⟨rfl, hs.belowAt⟩)
  · rw [if_neg h18] at hR
    refine (fun (h : xs.length = 0 ∨ ∃ y, xs[0]? = some y ∧ y.toNat ≠ 18) => ?_) (by
      rcases Nat.eq_zero_or_pos xs.length with h | h
      · exact .inl h
      · refine .inr ⟨xs[0], List.getElem?_eq_getElem h, fun h2 => h18 ?_⟩
        rw [List.getElem?_eq_getElem h]
        exact congrArg some (UInt8.toNat_inj.1 h2))
    rcases h with h0 | ⟨y, hy, hy18⟩
    · (repeat (first | (simp (disch := first | omega | assumption | exact Option.isSome_some | (simp only [adO_isSome]; assumption)) only [↓vcp, vcs, vct, if_true, if_false, Nat.reduceBEq, ↓reduceIte, Nat.reduceEqDiff, Nat.reduceAdd, Nat.reduceMul, Nat.reduceSub, Int.reduceToNat, reduceCtorEq, Nat.reduceLT, Nat.reduceLeDiff, Int.reduceSub, Int.reduceAdd, Int.reduceNeg, Sat.look hs, Sat.lookA hs]) | (refine khK he hs ?_; clear he; intro he) | ((first | refine stK hs ?_ | refine stFK hs ?_ | refine stAK hs ?_ | refine msK hs ?_); clear hs; (try clear w); rintro w hs; try simp only [cls] at hs) | ((first | refine al_ok hs ?_ | refine bx_ok hs ?_ | refine bsvK hs ?_ | refine bs1_ok hs ?_ | refine bs0_ok hs ?_); clear hs; (try clear w); rintro _ w hs; try simp only [cls] at hs)))
      have q1 := lnumber_calls w a c xs 0 (hx.rd hs) hc (Nat.zero_le _) hn
      rcases lnum_out xs 0 (Nat.zero_le _) with h1 | ⟨n, m, h1, hn1, hm, hml⟩
      · rw [h1] at q1 hR
        rw [if_pos (by simp)] at hR
        refine call_ok (by kernel_rfl) (q1) ?_; rintro _ _ ⟨rfl, rfl⟩; rw [callK_ret]
        (repeat (first | (simp (disch := first | omega | assumption | exact Option.isSome_some | (simp only [adO_isSome]; assumption)) only [↓vcp, vcs, vct, if_true, if_false, Nat.reduceBEq, ↓reduceIte, Nat.reduceEqDiff, Nat.reduceAdd, Nat.reduceMul, Nat.reduceSub, Int.reduceToNat, reduceCtorEq, Nat.reduceLT, Nat.reduceLeDiff, Int.reduceSub, Int.reduceAdd, Int.reduceNeg, Sat.look hs, Sat.lookA hs]) | (refine khK he hs ?_; clear he; intro he) | ((first | refine stK hs ?_ | refine stFK hs ?_ | refine stAK hs ?_ | refine msK hs ?_); clear hs; (try clear w); rintro w hs; try simp only [cls] at hs) | ((first | refine al_ok hs ?_ | refine bx_ok hs ?_ | refine bsvK hs ?_ | refine bs1_ok hs ?_ | refine bs0_ok hs ?_); clear hs; (try clear w); rintro _ w hs; try simp only [cls] at hs)))
        exact ret_cellT2 (sz := 4) rfl (by rfl) (hs.cellsBk 0 rfl rfl (by omega)) (hR _ _ ⟨rfl, hs.belowAt⟩)
      · omega
    · have hl0 : 0 < xs.length := (List.getElem?_eq_some_iff.1 hy).1
      have has : a.isSome = true := hx.isSome (by rw [List.length_map]; exact hl0)
      have f0 : oldO (.at w0) (adO a 0) = some (.int .u8 (y.toNat : Int)) := hx 0 _ (by rw [List.getElem?_map, hy]; rfl)
      have f0' : oldO (.at w0) a = some (.int .u8 (y.toNat : Int)) := by rw [adO_0] at f0; exact f0
      (repeat (first | (simp (disch := first | omega | assumption | exact Option.isSome_some | (simp only [adO_isSome]; assumption)) only [↓vcp, vcs, vct, if_true, if_false, Nat.reduceBEq, ↓reduceIte, Nat.reduceEqDiff, Nat.reduceAdd, Nat.reduceMul, Nat.reduceSub, Int.reduceToNat, reduceCtorEq, Nat.reduceLT, Nat.reduceLeDiff, Int.reduceSub, Int.reduceAdd, Int.reduceNeg, Sat.look hs, Sat.lookA hs, hs.old f0, hs.old f0']) | (refine khK he hs ?_; clear he; intro he) | ((first | refine stK hs ?_ | refine stFK hs ?_ | refine stAK hs ?_ | refine msK hs ?_); clear hs; (try clear w); rintro w hs; try simp only [cls] at hs) | ((first | refine al_ok hs ?_ | refine bx_ok hs ?_ | refine bsvK hs ?_ | refine bs1_ok hs ?_ | refine bs0_ok hs ?_); clear hs; (try clear w); rintro _ w hs; try simp only [cls] at hs)))
      have q1 := lnumber_calls w a c xs 0 (hx.rd hs) hc (Nat.zero_le _) hn
      rcases lnum_out xs 0 (Nat.zero_le _) with h1 | ⟨n, m, h1, hn1, hm, hml⟩
      · rw [h1] at q1 hR
        rw [if_pos (by simp)] at hR
        refine call_ok (by kernel_rfl) (q1) ?_; rintro _ _ ⟨rfl, rfl⟩; rw [callK_ret]
        (repeat (first | (simp (disch := first | omega | assumption | exact Option.isSome_some | (simp only [adO_isSome]; assumption)) only [↓vcp, vcs, vct, if_true, if_false, Nat.reduceBEq, ↓reduceIte, Nat.reduceEqDiff, Nat.reduceAdd, Nat.reduceMul, Nat.reduceSub, Int.reduceToNat, reduceCtorEq, Nat.reduceLT, Nat.reduceLeDiff, Int.reduceSub, Int.reduceAdd, Int.reduceNeg, Sat.look hs, Sat.lookA hs]) | (refine khK he hs ?_; clear he; intro he) | ((first | refine stK hs ?_ | refine stFK hs ?_ | refine stAK hs ?_ | refine msK hs ?_); clear hs; (try clear w); rintro w hs; try simp only [cls] at hs) | ((first | refine al_ok hs ?_ | refine bx_ok hs ?_ | refine bsvK hs ?_ | refine bs1_ok hs ?_ | refine bs0_ok hs ?_); clear hs; (try clear w); rintro _ w hs; try simp only [cls] at hs)))
        exact ret_cellT2 (sz := 4) rfl (by rfl) (hs.cellsBk 0 rfl rfl (by omega)) (hR _ _ ⟨rfl, hs.belowAt⟩)
      · rw [Nat.zero_add] at h1 hml
        rw [h1] at q1 hR
        rw [if_neg (by simp)] at hR
        dsimp only at q1 hR
        refine call_ok (by kernel_rfl) (q1) ?_; rintro _ _ ⟨rfl, rfl⟩; rw [callK_ret]
        by_cases hn1' : n = 1
        case neg =>
          rw [if_pos hn1'] at hR
          (repeat (first | (simp (disch := first | omega | assumption | exact Option.isSome_some | (simp only [adO_isSome]; assumption)) only [↓vcp, vcs, vct, if_true, if_false, Nat.reduceBEq, ↓reduceIte, Nat.reduceEqDiff, Nat.reduceAdd, Nat.reduceMul, Nat.reduceSub, Int.reduceToNat, reduceCtorEq, Nat.reduceLT, Nat.reduceLeDiff, Int.reduceSub, Int.reduceAdd, Int.reduceNeg, Sat.look hs, Sat.lookA hs]) | (refine khK he hs ?_; clear he; intro he) | ((first | refine stK hs ?_ | refine stFK hs ?_ | refine stAK hs ?_ | refine msK hs ?_); clear hs; (try clear w); rintro w hs; try simp only [cls] at hs) | ((first | refine al_ok hs ?_ | refine bx_ok hs ?_ | refine bsvK hs ?_ | refine bs1_ok hs ?_ | refine bs0_ok hs ?_); clear hs; (try clear w); rintro _ w hs; try simp only [cls] at hs)))
          exact ret_cellT2 (sz := 4) rfl (by rfl) (hs.cellsBk 0 rfl rfl (by omega)) (hR _ _ ⟨rfl, hs.belowAt⟩)
        rw [if_neg (by omega)] at hR
        (repeat (first | (simp (disch := first | omega | assumption | exact Option.isSome_some | (simp only [adO_isSome]; assumption)) only [↓vcp, vcs, vct, if_true, if_false, Nat.reduceBEq, ↓reduceIte, Nat.reduceEqDiff, Nat.reduceAdd, Nat.reduceMul, Nat.reduceSub, Int.reduceToNat, reduceCtorEq, Nat.reduceLT, Nat.reduceLeDiff, Int.reduceSub, Int.reduceAdd, Int.reduceNeg, Sat.look hs, Sat.lookA hs]) | (refine khK he hs ?_; clear he; intro he) | ((first | refine stK hs ?_ | refine stFK hs ?_ | refine stAK hs ?_ | refine msK hs ?_); clear hs; (try clear w); rintro w hs; try simp only [cls] at hs) | ((first | refine al_ok hs ?_ | refine bx_ok hs ?_ | refine bsvK hs ?_ | refine bs1_ok hs ?_ | refine bs0_ok hs ?_); clear hs; (try clear w); rintro _ w hs; try simp only [cls] at hs)))
        have q2 := lnumber_calls w a c xs m (hx.rd hs) hc hml hn
        rcases lnum_out xs m hml with h2 | ⟨n2, m2, h2, hn2, hm2, hml2⟩
        · rw [h2] at q2 hR
          rw [if_pos (by simp)] at hR
          refine call_ok (by kernel_rfl) (q2) ?_; rintro _ _ ⟨rfl, rfl⟩; rw [callK_ret]
          (repeat (first | (simp (disch := first | omega | assumption | exact Option.isSome_some | (simp only [adO_isSome]; assumption)) only [↓vcp, vcs, vct, if_true, if_false, Nat.reduceBEq, ↓reduceIte, Nat.reduceEqDiff, Nat.reduceAdd, Nat.reduceMul, Nat.reduceSub, Int.reduceToNat, reduceCtorEq, Nat.reduceLT, Nat.reduceLeDiff, Int.reduceSub, Int.reduceAdd, Int.reduceNeg, Sat.look hs, Sat.lookA hs]) | (refine khK he hs ?_; clear he; intro he) | ((first | refine stK hs ?_ | refine stFK hs ?_ | refine stAK hs ?_ | refine msK hs ?_); clear hs; (try clear w); rintro w hs; try simp only [cls] at hs) | ((first | refine al_ok hs ?_ | refine bx_ok hs ?_ | refine bsvK hs ?_ | refine bs1_ok hs ?_ | refine bs0_ok hs ?_); clear hs; (try clear w); rintro _ w hs; try simp only [cls] at hs)))
          exact ret_cellT2 (sz := 4) rfl (by rfl) (hs.cellsBk 0 rfl rfl (by omega)) (hR _ _ ⟨rfl, hs.belowAt⟩)
        · rw [h2] at q2 hR
          rw [if_neg (by simp)] at hR
          dsimp only at q2 hR
          refine call_ok (by kernel_rfl) (q2) ?_; rintro _ _ ⟨rfl, rfl⟩; rw [callK_ret]
          (repeat (first | (simp (disch := first | omega | assumption | exact Option.isSome_some | (simp only [adO_isSome]; assumption)) only [↓vcp, vcs, vct, if_true, if_false, Nat.reduceBEq, ↓reduceIte, Nat.reduceEqDiff, Nat.reduceAdd, Nat.reduceMul, Nat.reduceSub, Int.reduceToNat, reduceCtorEq, Nat.reduceLT, Nat.reduceLeDiff, Int.reduceSub, Int.reduceAdd, Int.reduceNeg, Sat.look hs, Sat.lookA hs]) | (refine khK he hs ?_; clear he; intro he) | ((first | refine stK hs ?_ | refine stFK hs ?_ | refine stAK hs ?_ | refine msK hs ?_); clear hs; (try clear w); rintro w hs; try simp only [cls] at hs) | ((first | refine al_ok hs ?_ | refine bx_ok hs ?_ | refine bsvK hs ?_ | refine bs1_ok hs ?_ | refine bs0_ok hs ?_); clear hs; (try clear w); rintro _ w hs; try simp only [cls] at hs)))
          have q3 := digested_calls w ⟨1, n2, 0, []⟩ a c xs (m + m2) (hx.up0 hs) hc hml2 hn
          generalize ldig ⟨1, n2, 0, []⟩ xs (m + m2) = r at *
          obtain ⟨⟨lv, lc, lh, ld⟩, n3, e⟩ := r
          unfold Lk.fs at q3 hR
          dsimp only at q3 hR
          refine call_ok (by kernel_rfl) (q3) ?_; rintro _ w2 ⟨rfl, hb⟩; rw [callK_ret]; replace hs := Sat.add hs (Below.sat hb); clear hb; (try clear w); rename World => w; try simp only [cls] at hs
          clear q3
          (repeat (first | (simp (disch := first | omega | assumption | exact Option.isSome_some | (simp only [adO_isSome]; assumption)) only [↓vcp, vcs, vct, if_true, if_false, Nat.reduceBEq, ↓reduceIte, Nat.reduceEqDiff, Nat.reduceAdd, Nat.reduceMul, Nat.reduceSub, Int.reduceToNat, reduceCtorEq, Nat.reduceLT, Nat.reduceLeDiff, Int.reduceSub, Int.reduceAdd, Int.reduceNeg, Sat.look hs, Sat.lookA hs]) | (refine khK he hs ?_; clear he; intro he) | ((first | refine stK hs ?_ | refine stFK hs ?_ | refine stAK hs ?_ | refine msK hs ?_); clear hs; (try clear w); rintro w hs; try simp only [cls] at hs) | ((first | refine al_ok hs ?_ | refine bx_ok hs ?_ | refine bsvK hs ?_ | refine bs1_ok hs ?_ | refine bs0_ok hs ?_); clear hs; (try clear w); rintro _ w hs; try simp only [cls] at hs)))
          exact ret_cellT2 (sz := 4) rfl (by rfl) (hs.cellsBk 0 rfl rfl (by omega)) (hR _ _ ⟨rfl, hs.belowAt⟩)
theorem Parse_calls (w0 : World) (a : Option Addr) (c : Nat) (xs : List UInt8) (hx : Ro (.at w0) a (xs.map u8v)) (hc : xs.length ≤ c) (hn : xs.length ≤ 140737488355328) :
    Calls Tryd.prog 25 #[.slice a xs.length c] w0 fun e w' => e = .returned (.tuple #[.agg (lparse xs).1.fs.toArray, .int .i64 (lparse xs).2]) ∧ Below w0.heap.size w0 w' := by
  refine calls_vc Tryd.func25 rfl (by kernel_rfl) (by kernel_rfl) ?_; intro R hR
  have hs := Sat.start w0
  unfold lparse at hR
  have q1 := First_calls
  (repeat (first | (simp (disch := first | omega | assumption | exact Option.isSome_some | (simp only [adO_isSome]; assumption)) only [↓vcp, vcs, vct, if_true, if_false, Nat.reduceBEq, ↓reduceIte, Nat.reduceEqDiff, Nat.reduceAdd, Nat.reduceMul, Nat.reduceSub, Int.reduceToNat, reduceCtorEq, Nat.reduceLT, Nat.reduceLeDiff, Int.reduceSub, Int.reduceAdd, Int.reduceNeg, Sat.look hs, Sat.lookA hs]) | (refine khK he hs ?_; clear he; intro he) | ((first | refine stK hs ?_ | refine stFK hs ?_ | refine stAK hs ?_ | refine msK hs ?_); clear hs; (try clear w); rintro w hs; try simp only [cls] at hs) | ((first | refine al_ok hs ?_ | refine bx_ok hs ?_ | refine bsvK hs ?_ | refine bs1_ok hs ?_ | refine bs0_ok hs ?_); clear hs; (try clear w); rintro _ w hs; try simp only [cls] at hs)))
  have q1 := First_calls w a c xs (hx.up0 hs) hc hn
  generalize lfirst xs = r at *
  obtain ⟨⟨lv, lc, lh, ld⟩, n, e⟩ := r
  unfold Lk.fs at q1 hR
  dsimp only at q1 hR
  refine call_ok (by kernel_rfl) (q1) ?_; rintro _ w2 ⟨rfl, hb⟩; rw [callK_ret]; replace hs := Sat.add hs (Below.sat hb); clear hb; (try clear w); rename World => w; try simp only [cls] at hs
  clear q1
  by_cases he : e = 0
  · rw [if_neg (by omega)] at hR
    by_cases hlt : n < xs.length
    · rw [if_pos hlt] at hR
      (repeat (first | (simp (disch := first | omega | assumption | exact Option.isSome_some | (simp only [adO_isSome]; assumption)) only [↓vcp, vcs, vct, if_true, if_false, Nat.reduceBEq, ↓reduceIte, Nat.reduceEqDiff, Nat.reduceAdd, Nat.reduceMul, Nat.reduceSub, Int.reduceToNat, reduceCtorEq, Nat.reduceLT, Nat.reduceLeDiff, Int.reduceSub, Int.reduceAdd, Int.reduceNeg, Sat.look hs, Sat.lookA hs]) | (refine khK he hs ?_; clear he; intro he) | ((first | refine stK hs ?_ | refine stFK hs ?_ | refine stAK hs ?_ | refine msK hs ?_); clear hs; (try clear w); rintro w hs; try simp only [cls] at hs) | ((first | refine al_ok hs ?_ | refine bx_ok hs ?_ | refine bsvK hs ?_ | refine bs1_ok hs ?_ | refine bs0_ok hs ?_); clear hs; (try clear w); rintro _ w hs; try simp only [cls] at hs)))
      exact ret_cellT (sz := 4) rfl (by rfl) (hs.cellsBk 0 rfl rfl (by omega)) (hR _ _ ⟨rfl, hs.belowAt⟩)
    · rw [if_neg hlt] at hR
      (repeat (first | (simp (disch := first | omega | assumption | exact Option.isSome_some | (simp only [adO_isSome]; assumption)) only [↓vcp, vcs, vct, if_true, if_false, Nat.reduceBEq, ↓reduceIte, Nat.reduceEqDiff, Nat.reduceAdd, Nat.reduceMul, Nat.reduceSub, Int.reduceToNat, reduceCtorEq, Nat.reduceLT, Nat.reduceLeDiff, Int.reduceSub, Int.reduceAdd, Int.reduceNeg, Sat.look hs, Sat.lookA hs]) | (refine khK he hs ?_; clear he; intro he) | ((first | refine stK hs ?_ | refine stFK hs ?_ | refine stAK hs ?_ | refine msK hs ?_); clear hs; (try clear w); rintro w hs; try simp only [cls] at hs) | ((first | refine al_ok hs ?_ | refine bx_ok hs ?_ | refine bsvK hs ?_ | refine bs1_ok hs ?_ | refine bs0_ok hs ?_); clear hs; (try clear w); rintro _ w hs; try simp only [cls] at hs)))
      exact ret_cellT (sz := 4) rfl (by rfl) (hs.cellsBk 0 rfl rfl (by omega)) (hR _ _ ⟨rfl, hs.belowAt⟩)
  · rw [if_pos he] at hR
    (repeat (first | (simp (disch := first | omega | assumption | exact Option.isSome_some | (simp only [adO_isSome]; assumption)) only [↓vcp, vcs, vct, if_true, if_false, Nat.reduceBEq, ↓reduceIte, Nat.reduceEqDiff, Nat.reduceAdd, Nat.reduceMul, Nat.reduceSub, Int.reduceToNat, reduceCtorEq, Nat.reduceLT, Nat.reduceLeDiff, Int.reduceSub, Int.reduceAdd, Int.reduceNeg, Sat.look hs, Sat.lookA hs]) | (refine khK he hs ?_; clear he; intro he) | ((first | refine stK hs ?_ | refine stFK hs ?_ | refine stAK hs ?_ | refine msK hs ?_); clear hs; (try clear w); rintro w hs; try simp only [cls] at hs) | ((first | refine al_ok hs ?_ | refine bx_ok hs ?_ | refine bsvK hs ?_ | refine bs1_ok hs ?_ | refine bs0_ok hs ?_); clear hs; (try clear w); rintro _ w hs; try simp only [cls] at hs)))
    exact ret_cellT (sz := 4) rfl (by rfl) (hs.cellsBk 0 rfl rfl (by omega)) (hR _ _ ⟨rfl, hs.belowAt⟩)
end Go.Proofs.YtokoohdpakhphaaDoor.Lnk
