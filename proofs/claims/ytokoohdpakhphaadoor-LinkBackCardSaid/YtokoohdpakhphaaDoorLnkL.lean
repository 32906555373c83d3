/- Which of two links stands ahead: the program's Less and the document's. -/
import Derived.Test.YtokoohdpakhphaaDoorLnkPA
import Derived.Test.YtokoohdpakhphaaDoorLnkOB
namespace Go.Proofs.YtokoohdpakhphaaDoor.Lnk
open Go VC Go.RowKit Dig Varint Sha
set_option linter.unusedSimpArgs false
set_option linter.unusedVariables false
set_option maxRecDepth 20000
set_option maxHeartbeats 4000000
theorem lbytes_le (l : Lk) : (lbytes l).length ≤ 76 := by
  unfold lbytes
  split
  · rename_i h
    have h1 := @dlay_len l.h l.d
    split
    · have hc : l.c < 9223372036854775808 := by unfold lmay at h; omega
      have h2 := vlay_len 8 l.c (by omega)
      have h3 : (vlay 1).length = 1 := by rw [vlay_small (by decide)]; rfl
      simp only [List.length_append]
      omega
    · simp only [List.length_append, List.length_nil]; omega
  · simp
theorem run_loadB {P : Program} {w : World} : ∀ (l : List UInt8) (a : Addr) (acc : ByteArray), (∀ j x, l[j]? = some x → w.cell? (a.add j) = some (.int .u8 x.toNat)) →
    (Extern.Bytes.loadBytes a l.length acc).run P w = .ok ⟨acc.data ++ l.toArray⟩ w
  | [], a, acc, _ => by simp [Extern.Bytes.loadBytes]
  | x :: l, a, acc, h => by
    have h0 : w.cell? a = some (.int .u8 x.toNat) := by
      have := h 0 x rfl
      simpa [Addr.add] using this
    have ih := run_loadB (P := P) l (a.add 1) (acc.push x) (fun j y hy => by
      have := h (j + 1) y (by simpa using hy)
      have e : (a.add 1).add j = a.add (j + 1) := by
        unfold Addr.add
        by_cases hj : j = 0
        · subst hj; simp
        · simp [hj]; omega
      rw [e]; exact this)
    have hx : ((x.toNat : Int).toNat).toUInt8 = x := by simp
    simp only [List.length_cons, Extern.Bytes.loadBytes, Sem.run_bind, run_load, h0, Result.andThen, hx]
    rw [ih]
    congr 1
    apply ByteArray.ext
    simp [ByteArray.push]
theorem run_bytesOf {P : Program} {w : World} {Bd : Nat} {a : Option Addr} {c : Nat} {xs : List UInt8} (h : RdB w Bd a xs) : (Extern.Bytes.bytesOf (.slice a xs.length c)).run P w = .ok ⟨xs.toArray⟩ w := by
  cases a with
  | none =>
    have : xs = [] := by
      cases xs with
      | nil => rfl
      | cons x l => obtain ⟨ad, h1, _⟩ := h (by simp); cases h1
    subst this
    rfl
  | some ad =>
    show (Extern.Bytes.loadBytes ad xs.length .empty).run P w = _
    rw [run_loadB xs ad .empty fun j x hj => ?_]
    · simp
    · have h2 := RdB.cell h (i := j) (List.getElem?_eq_some_iff.1 hj).1
      rw [(List.getElem?_eq_some_iff.1 hj).2] at h2
      exact h2
theorem run_compare {P : Program} {w : World} {B1 B2 : Nat} {a b : Option Addr} {c d : Nat} {xs ys : List UInt8} (hx : RdB w B1 a xs) (hy : RdB w B2 b ys) :
    (Extern.BytealgCompare.compare #[.slice a xs.length c, .slice b ys.length d]).run P w = .ok (.int .i64 (Lib.compareBytes xs ys)) w := by
  change Sem.run P (do pure (goInt (Extern.BytealgCompare.cmp (← Extern.Bytes.bytesOf (.slice a xs.length c)) (← Extern.Bytes.bytesOf (.slice b ys.length d))))) w = _
  simp only [Sem.run_bind, run_bytesOf hx, run_bytesOf hy, Result.andThen, Sem.run_pure]
  rw [Lib.cmp_eq]
  rfl
theorem compare_calls (w : World) (a b : Option Addr) (c d : Nat) (xs ys : List UInt8) (hx : RdB w w.heap.size a xs) (hy : RdB w w.heap.size b ys) :
    Calls Tryd.prog 49 #[.slice a xs.length c, .slice b ys.length d] w fun e w' => e = .returned (.int .i64 (Lib.compareBytes xs ys)) ∧ w = w' := by
  refine calls_vc Tryd.func49 rfl (by kernel_rfl) (by kernel_rfl) ?_; intro R hR
  have hs := Sat.start w
  (repeat (first | (simp (disch := first | omega | assumption | exact Option.isSome_some | (simp only [adO_isSome]; assumption)) only [↓vcp, vcs, vct, if_true, if_false, Nat.reduceBEq, ↓reduceIte, Nat.reduceEqDiff, Nat.reduceAdd, Nat.reduceMul, Nat.reduceSub, Int.reduceToNat, reduceCtorEq, Nat.reduceLT, Nat.reduceLeDiff, Int.reduceSub, Int.reduceAdd, Int.reduceNeg, Sat.look hs, Sat.lookA hs]) | (refine khK he hs ?_; clear he; intro he) | ((first | refine stK hs ?_ | refine stFK hs ?_ | refine stAK hs ?_ | refine msK hs ?_); clear hs; (try clear w); rintro w hs; try simp only [cls] at hs) | ((first | refine al_ok hs ?_ | refine bx_ok hs ?_ | refine bsvK hs ?_ | refine bs1_ok hs ?_ | refine bs0_ok hs ?_); clear hs; (try clear w); rintro _ w hs; try simp only [cls] at hs)))
  refine ext_ok (e := Extern.BytealgCompare.compare) (v := .int .i64 (Lib.compareBytes xs ys)) Tryd.func71 (by kernel_rfl) (by kernel_rfl) (by kernel_rfl) (by kernel_rfl) (run_compare hx hy) ?_
  (repeat (first | (simp (disch := first | omega | assumption | exact Option.isSome_some | (simp only [adO_isSome]; assumption)) only [↓vcp, vcs, vct, if_true, if_false, Nat.reduceBEq, ↓reduceIte, Nat.reduceEqDiff, Nat.reduceAdd, Nat.reduceMul, Nat.reduceSub, Int.reduceToNat, reduceCtorEq, Nat.reduceLT, Nat.reduceLeDiff, Int.reduceSub, Int.reduceAdd, Int.reduceNeg, Sat.look hs, Sat.lookA hs]) | (refine khK he hs ?_; clear he; intro he) | ((first | refine stK hs ?_ | refine stFK hs ?_ | refine stAK hs ?_ | refine msK hs ?_); clear hs; (try clear w); rintro w hs; try simp only [cls] at hs) | ((first | refine al_ok hs ?_ | refine bx_ok hs ?_ | refine bsvK hs ?_ | refine bs1_ok hs ?_ | refine bs0_ok hs ?_); clear hs; (try clear w); rintro _ w hs; try simp only [cls] at hs)))
  exact ret_tmp rfl (hR _ _ ⟨rfl, rfl⟩)
theorem Less_calls (w0 : World) (l m : Lk) (hd : l.d.length ≤ 1125899906842624) (hd2 : m.d.length ≤ 1125899906842624) :
    Calls Tryd.prog 23 #[.agg l.fs.toArray, .agg m.fs.toArray] w0 fun e w' => e = .returned (.bool (llt l m)) ∧ Below w0.heap.size w0 w' := by
  refine calls_vc Tryd.func23 rfl (by kernel_rfl) (by kernel_rfl) ?_; intro R hR
  have hs := Sat.start w0
  by_cases hlm : l = m
  · subst hlm
    rw [llt_self] at hR
    obtain ⟨v, cd, h, d⟩ := l
    unfold Lk.fs
    dsimp only
    (repeat (first | (simp (disch := first | omega | assumption | exact Option.isSome_some | (simp only [adO_isSome]; assumption)) only [↓vcp, vcs, vct, if_true, if_false, Nat.reduceBEq, ↓reduceIte, Nat.reduceEqDiff, Nat.reduceAdd, Nat.reduceMul, Nat.reduceSub, Int.reduceToNat, reduceCtorEq, Nat.reduceLT, Nat.reduceLeDiff, Int.reduceSub, Int.reduceAdd, Int.reduceNeg, Sat.look hs, Sat.lookA hs]) | (refine khK he hs ?_; clear he; intro he) | ((first | refine stK hs ?_ | refine stFK hs ?_ | refine stAK hs ?_ | refine msK hs ?_); clear hs; (try clear w); rintro w hs; try simp only [cls] at hs) | ((first | refine al_ok hs ?_ | refine bx_ok hs ?_ | refine bsvK hs ?_ | refine bs1_ok hs ?_ | refine bs0_ok hs ?_); clear hs; (try clear w); rintro _ w hs; try simp only [cls] at hs)))
    exact ret_tmp rfl (hR _ _ ⟨rfl, hs.belowAt⟩)
  · unfold llt at hR
    have q1 := fun w => Bytes_calls w l hd
    have q2 := fun w => Bytes_calls w m hd2
    have hcf : ∀ (v v2 : Int) (cd cd2 h h2 : Nat) (d d2 : List UInt8), l = ⟨v, cd, h, d⟩ → m = ⟨v2, cd2, h2, d2⟩ → decide (v = v2 ∧ (cd : Int) = cd2 ∧ (h : Int) = h2 ∧ ByteArray.mk d.toArray = ByteArray.mk d2.toArray) = false := by
      intro v v2 cd cd2 h h2 d d2 e1 e2
      refine decide_eq_false fun ⟨h1, h2', h3, h4⟩ => hlm ?_
      have h5 : d = d2 := by simpa using h4
      rw [e1, e2, h1, h5, Int.ofNat_inj.1 h2', Int.ofNat_inj.1 h3]
    have hbl := lbytes_le l
    have hbm := lbytes_le m
    by_cases hl : lmay l
    case neg =>
      rw [lcheck_not hl] at q1
      rw [decide_eq_false (fun h => hl h.1)] at hR
      generalize lbytes l = X at *
      generalize lbytes m = Y at *
      generalize lcheck m = em at *
      rcases l with ⟨v, cd, h, d⟩
      rcases m with ⟨v2, cd2, h2, d2⟩
      unfold Lk.fs at q1 q2 ⊢
      dsimp only at q1 q2 hd hd2 ⊢
      (repeat (first | (simp (disch := first | omega | assumption | exact Option.isSome_some | (simp only [adO_isSome]; assumption)) only [↓vcp, vcs, vct, if_true, if_false, Nat.reduceBEq, ↓reduceIte, Nat.reduceEqDiff, Nat.reduceAdd, Nat.reduceMul, Nat.reduceSub, Int.reduceToNat, reduceCtorEq, Nat.reduceLT, Nat.reduceLeDiff, Int.reduceSub, Int.reduceAdd, Int.reduceNeg, Sat.look hs, Sat.lookA hs]) | (refine khK he hs ?_; clear he; intro he) | ((first | refine stK hs ?_ | refine stFK hs ?_ | refine stAK hs ?_ | refine msK hs ?_); clear hs; (try clear w); rintro w hs; try simp only [cls] at hs) | ((first | refine al_ok hs ?_ | refine bx_ok hs ?_ | refine bsvK hs ?_ | refine bs1_ok hs ?_ | refine bs0_ok hs ?_); clear hs; (try clear w); rintro _ w hs; try simp only [cls] at hs)))
      rw [hcf v v2 cd cd2 h h2 d d2 rfl rfl]
      (repeat (first | (simp (disch := first | omega | assumption | exact Option.isSome_some | (simp only [adO_isSome]; assumption)) only [↓vcp, vcs, vct, if_true, if_false, Nat.reduceBEq, ↓reduceIte, Nat.reduceEqDiff, Nat.reduceAdd, Nat.reduceMul, Nat.reduceSub, Int.reduceToNat, reduceCtorEq, Nat.reduceLT, Nat.reduceLeDiff, Int.reduceSub, Int.reduceAdd, Int.reduceNeg, Sat.look hs, Sat.lookA hs]) | (refine khK he hs ?_; clear he; intro he) | ((first | refine stK hs ?_ | refine stFK hs ?_ | refine stAK hs ?_ | refine msK hs ?_); clear hs; (try clear w); rintro w hs; try simp only [cls] at hs) | ((first | refine al_ok hs ?_ | refine bx_ok hs ?_ | refine bsvK hs ?_ | refine bs1_ok hs ?_ | refine bs0_ok hs ?_); clear hs; (try clear w); rintro _ w hs; try simp only [cls] at hs)))
      refine call_ok (by kernel_rfl) (q1 w) ?_; rintro _ w2 ⟨a1, c1, rfl, hc1, hb⟩; rw [callK_ret]; replace hs := Sat.add hs hb; clear hb; (try clear w); rename World => w; try simp only [cls] at hs
      (repeat (first | (simp (disch := first | omega | assumption | exact Option.isSome_some | (simp only [adO_isSome]; assumption)) only [↓vcp, vcs, vct, if_true, if_false, Nat.reduceBEq, ↓reduceIte, Nat.reduceEqDiff, Nat.reduceAdd, Nat.reduceMul, Nat.reduceSub, Int.reduceToNat, reduceCtorEq, Nat.reduceLT, Nat.reduceLeDiff, Int.reduceSub, Int.reduceAdd, Int.reduceNeg, Sat.look hs, Sat.lookA hs]) | (refine khK he hs ?_; clear he; intro he) | ((first | refine stK hs ?_ | refine stFK hs ?_ | refine stAK hs ?_ | refine msK hs ?_); clear hs; (try clear w); rintro w hs; try simp only [cls] at hs) | ((first | refine al_ok hs ?_ | refine bx_ok hs ?_ | refine bsvK hs ?_ | refine bs1_ok hs ?_ | refine bs0_ok hs ?_); clear hs; (try clear w); rintro _ w hs; try simp only [cls] at hs)))
      refine call_ok (by kernel_rfl) (q2 w) ?_; rintro _ w2 ⟨a2, c2, rfl, hc2, hb⟩; rw [callK_ret]; replace hs := Sat.add hs hb; clear hb; (try clear w); rename World => w; try simp only [cls] at hs
      (repeat (first | (simp (disch := first | omega | assumption | exact Option.isSome_some | (simp only [adO_isSome]; assumption)) only [↓vcp, vcs, vct, if_true, if_false, Nat.reduceBEq, ↓reduceIte, Nat.reduceEqDiff, Nat.reduceAdd, Nat.reduceMul, Nat.reduceSub, Int.reduceToNat, reduceCtorEq, Nat.reduceLT, Nat.reduceLeDiff, Int.reduceSub, Int.reduceAdd, Int.reduceNeg, Sat.look hs, Sat.lookA hs]) | (refine khK he hs ?_; clear he; intro he) | ((first | refine stK hs ?_ | refine stFK hs ?_ | refine stAK hs ?_ | refine msK hs ?_); clear hs; (try clear w); rintro w hs; try simp only [cls] at hs) | ((first | refine al_ok hs ?_ | refine bx_ok hs ?_ | refine bsvK hs ?_ | refine bs1_ok hs ?_ | refine bs0_ok hs ?_); clear hs; (try clear w); rintro _ w hs; try simp only [cls] at hs)))
      exact ret_tmp rfl (hR _ _ ⟨rfl, hs.belowAt⟩)
    by_cases hm : lmay m
    case neg =>
      rw [lcheck_may hl] at q1
      rw [lcheck_not hm] at q2
      rw [decide_eq_false (fun h => hm h.2.1)] at hR
      generalize lbytes l = X at *
      generalize lbytes m = Y at *
      rcases l with ⟨v, cd, h, d⟩
      rcases m with ⟨v2, cd2, h2, d2⟩
      unfold Lk.fs at q1 q2 ⊢
      dsimp only at q1 q2 hd hd2 ⊢
      (repeat (first | (simp (disch := first | omega | assumption | exact Option.isSome_some | (simp only [adO_isSome]; assumption)) only [↓vcp, vcs, vct, if_true, if_false, Nat.reduceBEq, ↓reduceIte, Nat.reduceEqDiff, Nat.reduceAdd, Nat.reduceMul, Nat.reduceSub, Int.reduceToNat, reduceCtorEq, Nat.reduceLT, Nat.reduceLeDiff, Int.reduceSub, Int.reduceAdd, Int.reduceNeg, Sat.look hs, Sat.lookA hs]) | (refine khK he hs ?_; clear he; intro he) | ((first | refine stK hs ?_ | refine stFK hs ?_ | refine stAK hs ?_ | refine msK hs ?_); clear hs; (try clear w); rintro w hs; try simp only [cls] at hs) | ((first | refine al_ok hs ?_ | refine bx_ok hs ?_ | refine bsvK hs ?_ | refine bs1_ok hs ?_ | refine bs0_ok hs ?_); clear hs; (try clear w); rintro _ w hs; try simp only [cls] at hs)))
      rw [hcf v v2 cd cd2 h h2 d d2 rfl rfl]
      (repeat (first | (simp (disch := first | omega | assumption | exact Option.isSome_some | (simp only [adO_isSome]; assumption)) only [↓vcp, vcs, vct, if_true, if_false, Nat.reduceBEq, ↓reduceIte, Nat.reduceEqDiff, Nat.reduceAdd, Nat.reduceMul, Nat.reduceSub, Int.reduceToNat, reduceCtorEq, Nat.reduceLT, Nat.reduceLeDiff, Int.reduceSub, Int.reduceAdd, Int.reduceNeg, Sat.look hs, Sat.lookA hs]) | (refine khK he hs ?_; clear he; intro he) | ((first | refine stK hs ?_ | refine stFK hs ?_ | refine stAK hs ?_ | refine msK hs ?_); clear hs; (try clear w); rintro w hs; try simp only [cls] at hs) | ((first | refine al_ok hs ?_ | refine bx_ok hs ?_ | refine bsvK hs ?_ | refine bs1_ok hs ?_ | refine bs0_ok hs ?_); clear hs; (try clear w); rintro _ w hs; try simp only [cls] at hs)))
      refine call_ok (by kernel_rfl) (q1 w) ?_; rintro _ w2 ⟨a1, c1, rfl, hc1, hb⟩; rw [callK_ret]; replace hs := Sat.add hs hb; clear hb; (try clear w); rename World => w; try simp only [cls] at hs
      (repeat (first | (simp (disch := first | omega | assumption | exact Option.isSome_some | (simp only [adO_isSome]; assumption)) only [↓vcp, vcs, vct, if_true, if_false, Nat.reduceBEq, ↓reduceIte, Nat.reduceEqDiff, Nat.reduceAdd, Nat.reduceMul, Nat.reduceSub, Int.reduceToNat, reduceCtorEq, Nat.reduceLT, Nat.reduceLeDiff, Int.reduceSub, Int.reduceAdd, Int.reduceNeg, Sat.look hs, Sat.lookA hs]) | (refine khK he hs ?_; clear he; intro he) | ((first | refine stK hs ?_ | refine stFK hs ?_ | refine stAK hs ?_ | refine msK hs ?_); clear hs; (try clear w); rintro w hs; try simp only [cls] at hs) | ((first | refine al_ok hs ?_ | refine bx_ok hs ?_ | refine bsvK hs ?_ | refine bs1_ok hs ?_ | refine bs0_ok hs ?_); clear hs; (try clear w); rintro _ w hs; try simp only [cls] at hs)))
      refine call_ok (by kernel_rfl) (q2 w) ?_; rintro _ w2 ⟨a2, c2, rfl, hc2, hb⟩; rw [callK_ret]; replace hs := Sat.add hs hb; clear hb; (try clear w); rename World => w; try simp only [cls] at hs
      (repeat (first | (simp (disch := first | omega | assumption | exact Option.isSome_some | (simp only [adO_isSome]; assumption)) only [↓vcp, vcs, vct, if_true, if_false, Nat.reduceBEq, ↓reduceIte, Nat.reduceEqDiff, Nat.reduceAdd, Nat.reduceMul, Nat.reduceSub, Int.reduceToNat, reduceCtorEq, Nat.reduceLT, Nat.reduceLeDiff, Int.reduceSub, Int.reduceAdd, Int.reduceNeg, Sat.look hs, Sat.lookA hs]) | (refine khK he hs ?_; clear he; intro he) | ((first | refine stK hs ?_ | refine stFK hs ?_ | refine stAK hs ?_ | refine msK hs ?_); clear hs; (try clear w); rintro w hs; try simp only [cls] at hs) | ((first | refine al_ok hs ?_ | refine bx_ok hs ?_ | refine bsvK hs ?_ | refine bs1_ok hs ?_ | refine bs0_ok hs ?_); clear hs; (try clear w); rintro _ w hs; try simp only [cls] at hs)))
      exact ret_tmp rfl (hR _ _ ⟨rfl, hs.belowAt⟩)
    rw [lcheck_may hl] at q1
    rw [lcheck_may hm] at q2
    rw [show decide (lmay l ∧ lmay m ∧ Lib.compareBytes (lbytes l) (lbytes m) < 0) = decide (Lib.compareBytes (lbytes l) (lbytes m) < 0) by simp [hl, hm]] at hR
    generalize lbytes l = X at *
    generalize lbytes m = Y at *
    rcases l with ⟨v, cd, h, d⟩
    rcases m with ⟨v2, cd2, h2, d2⟩
    unfold Lk.fs at q1 q2 ⊢
    dsimp only at q1 q2 hd hd2 ⊢
    (repeat (first | (simp (disch := first | omega | assumption | exact Option.isSome_some | (simp only [adO_isSome]; assumption)) only [↓vcp, vcs, vct, if_true, if_false, Nat.reduceBEq, ↓reduceIte, Nat.reduceEqDiff, Nat.reduceAdd, Nat.reduceMul, Nat.reduceSub, Int.reduceToNat, reduceCtorEq, Nat.reduceLT, Nat.reduceLeDiff, Int.reduceSub, Int.reduceAdd, Int.reduceNeg, Sat.look hs, Sat.lookA hs]) | (refine khK he hs ?_; clear he; intro he) | ((first | refine stK hs ?_ | refine stFK hs ?_ | refine stAK hs ?_ | refine msK hs ?_); clear hs; (try clear w); rintro w hs; try simp only [cls] at hs) | ((first | refine al_ok hs ?_ | refine bx_ok hs ?_ | refine bsvK hs ?_ | refine bs1_ok hs ?_ | refine bs0_ok hs ?_); clear hs; (try clear w); rintro _ w hs; try simp only [cls] at hs)))
    rw [hcf v v2 cd cd2 h h2 d d2 rfl rfl]
    (repeat (first | (simp (disch := first | omega | assumption | exact Option.isSome_some | (simp only [adO_isSome]; assumption)) only [↓vcp, vcs, vct, if_true, if_false, Nat.reduceBEq, ↓reduceIte, Nat.reduceEqDiff, Nat.reduceAdd, Nat.reduceMul, Nat.reduceSub, Int.reduceToNat, reduceCtorEq, Nat.reduceLT, Nat.reduceLeDiff, Int.reduceSub, Int.reduceAdd, Int.reduceNeg, Sat.look hs, Sat.lookA hs]) | (refine khK he hs ?_; clear he; intro he) | ((first | refine stK hs ?_ | refine stFK hs ?_ | refine stAK hs ?_ | refine msK hs ?_); clear hs; (try clear w); rintro w hs; try simp only [cls] at hs) | ((first | refine al_ok hs ?_ | refine bx_ok hs ?_ | refine bsvK hs ?_ | refine bs1_ok hs ?_ | refine bs0_ok hs ?_); clear hs; (try clear w); rintro _ w hs; try simp only [cls] at hs)))
    refine call_ok (by kernel_rfl) (q1 w) ?_; rintro _ w2 ⟨a1, c1, rfl, hc1, hb⟩; rw [callK_ret]; replace hs := Sat.add hs hb; clear hb; (try clear w); rename World => w; try simp only [cls] at hs
    (repeat (first | (simp (disch := first | omega | assumption | exact Option.isSome_some | (simp only [adO_isSome]; assumption)) only [↓vcp, vcs, vct, if_true, if_false, Nat.reduceBEq, ↓reduceIte, Nat.reduceEqDiff, Nat.reduceAdd, Nat.reduceMul, Nat.reduceSub, Int.reduceToNat, reduceCtorEq, Nat.reduceLT, Nat.reduceLeDiff, Int.reduceSub, Int.reduceAdd, Int.reduceNeg, Sat.look hs, Sat.lookA hs]) | (refine khK he hs ?_; clear he; intro he) | ((first | refine stK hs ?_ | refine stFK hs ?_ | refine stAK hs ?_ | refine msK hs ?_); clear hs; (try clear w); rintro w hs; try simp only [cls] at hs) | ((first | refine al_ok hs ?_ | refine bx_ok hs ?_ | refine bsvK hs ?_ | refine bs1_ok hs ?_ | refine bs0_ok hs ?_); clear hs; (try clear w); rintro _ w hs; try simp only [cls] at hs)))
    refine call_ok (by kernel_rfl) (q2 w) ?_; rintro _ w2 ⟨a2, c2, rfl, hc2, hb⟩; rw [callK_ret]; replace hs := Sat.add hs hb; clear hb; (try clear w); rename World => w; try simp only [cls] at hs
    (repeat (first | (simp (disch := first | omega | assumption | exact Option.isSome_some | (simp only [adO_isSome]; assumption)) only [↓vcp, vcs, vct, if_true, if_false, Nat.reduceBEq, ↓reduceIte, Nat.reduceEqDiff, Nat.reduceAdd, Nat.reduceMul, Nat.reduceSub, Int.reduceToNat, reduceCtorEq, Nat.reduceLT, Nat.reduceLeDiff, Int.reduceSub, Int.reduceAdd, Int.reduceNeg, Sat.look hs, Sat.lookA hs]) | (refine khK he hs ?_; clear he; intro he) | ((first | refine stK hs ?_ | refine stFK hs ?_ | refine stAK hs ?_ | refine msK hs ?_); clear hs; (try clear w); rintro w hs; try simp only [cls] at hs) | ((first | refine al_ok hs ?_ | refine bx_ok hs ?_ | refine bsvK hs ?_ | refine bs1_ok hs ?_ | refine bs0_ok hs ?_); clear hs; (try clear w); rintro _ w hs; try simp only [cls] at hs)))
    refine call_ok (by kernel_rfl) (compare_calls w a1 a2 c1 c2 X Y (hs.rd (a := a1)) (hs.rd (a := a2))) ?_; rintro _ _ ⟨rfl, rfl⟩; rw [callK_ret]
    (repeat (first | (simp (disch := first | omega | assumption | exact Option.isSome_some | (simp only [adO_isSome]; assumption)) only [↓vcp, vcs, vct, if_true, if_false, Nat.reduceBEq, ↓reduceIte, Nat.reduceEqDiff, Nat.reduceAdd, Nat.reduceMul, Nat.reduceSub, Int.reduceToNat, reduceCtorEq, Nat.reduceLT, Nat.reduceLeDiff, Int.reduceSub, Int.reduceAdd, Int.reduceNeg, Sat.look hs, Sat.lookA hs]) | (refine khK he hs ?_; clear he; intro he) | ((first | refine stK hs ?_ | refine stFK hs ?_ | refine stAK hs ?_ | refine msK hs ?_); clear hs; (try clear w); rintro w hs; try simp only [cls] at hs) | ((first | refine al_ok hs ?_ | refine bx_ok hs ?_ | refine bsvK hs ?_ | refine bs1_ok hs ?_ | refine bs0_ok hs ?_); clear hs; (try clear w); rintro _ w hs; try simp only [cls] at hs)))
    exact ret_tmp rfl (hR _ _ ⟨rfl, hs.belowAt⟩)
end Go.Proofs.YtokoohdpakhphaaDoor.Lnk
