/- Several texts in one. -/
import Derived.Test.YtokoohdpakhphaaDoorLnkPA
import Derived.Test.YtokoohdpakhphaaDoorB58A
import Derived.Test.YtokoohdpakhphaaDoorLnkE
import Derived.Test.YtokoohdpakhphaaDoorW58A
namespace Go.Proofs.YtokoohdpakhphaaDoor.Lnk
open Go VC Go.RowKit Dig Varint
set_option linter.unusedVariables false
set_option linter.unusedSimpArgs false
set_option maxRecDepth 20000
theorem apart32 : apart d32 := by unfold apart; decide
def ltext (l : Lk) : List UInt8 × Nat := if lmay l then (if l.v = 0 then enc58 (lbytes l) else 98 :: spreadL 5 d32 (lbytes l), 0) else ([], 40)
def ltextIn (l : Lk) (base : Int) : List UInt8 × Nat :=
  if lmay l then
    if l.v = 0 then ([], 45) else if base = 1 then (102 :: spreadL 4 d16 (lbytes l), 0) else if base = 2 then (98 :: spreadL 5 d32 (lbytes l), 0) else if base = 3 then (122 :: enc58 (lbytes l), 0) else ([], 45)
  else ([], 40)
/-- the link of bytes that a text has -/
def lrd (v : Int) (r : List UInt8 × Bool) : Lk × Nat :=
  if r.2 = false then (zeroLk, 46) else if (lparse r.1).2 ≠ 0 then (zeroLk, (lparse r.1).2) else if (lparse r.1).1.v ≠ v then (zeroLk, 41) else ((lparse r.1).1, 0)
def lptext (s : List UInt8) : Lk × Nat :=
  if 153 < s.length then (zeroLk, 46) else
  match s with
  | [] => (zeroLk, 45)
  | x :: t => if x = 81 then lrd 0 (dec58 (x :: t)) else if x = 102 then lrd 1 (gatherL 4 d16 t) else if x = 98 then lrd 1 (gatherL 5 d32 t) else if x = 122 then lrd 1 (dec58 t) else (zeroLk, 45)
theorem lbytes_len' (l : Lk) : (lbytes l).length ≤ 76 := lbytes_len l
theorem spread_len (bits : Nat) (hb : 0 < bits) (ds b : List UInt8) : bits * (spreadL bits ds b).length < 8 * b.length + bits := by
  obtain ⟨_, k, hk, h⟩ := spgo_flat bits hb b 0 0 hb (by decide)
  have := congrArg List.length h
  rw [flat_len, List.length_append, List.length_append, bof_len, flat_len, nats_len, List.length_replicate] at this
  unfold spreadL
  rw [List.length_map]
  omega
theorem lbytes_no0 {l : Lk} (hm : lmay l) : (lbytes l).head? ≠ some 0 := by
  obtain ⟨t, ht⟩ := lbytes_head hm
  rw [ht]
  split <;> simp
theorem lrd_lay {l : Lk} (hm : lmay l) (v : Int) (hv : l.v = v) : lrd v (lbytes l, true) = (l, 0) := by
  unfold lrd
  dsimp only
  rw [lparse_lay hm]
  simp [hv]
/-- the highest digit -/
theorem digs0_last {b : Nat} (hb : 1 < b) : ∀ (k V : Nat), b ^ k ≤ V → V < b ^ (k + 1) → (digs0 b V).getLast? = some (V / b ^ k)
  | 0, V, h1, h2 => by
    rw [Nat.pow_zero] at h1
    rw [Nat.zero_add, Nat.pow_one] at h2
    rw [digs0_pos hb (by omega), Nat.mod_eq_of_lt h2, Nat.div_eq_of_lt h2, digs0_zero, Nat.pow_zero, Nat.div_one]
    rfl
  | k + 1, V, h1, h2 => by
    have hp : 0 < b ^ (k + 1) := Nat.pow_pos (by omega)
    have g1 : b ^ k ≤ V / b := by rw [Nat.le_div_iff_mul_le (by omega), ← Nat.pow_succ]; exact h1
    have g2 : V / b < b ^ (k + 1) := by rw [Nat.div_lt_iff_lt_mul (by omega), ← Nat.pow_succ]; exact h2
    have hk : 0 < b ^ k := Nat.pow_pos (by omega)
    have ih := digs0_last hb k (V / b) g1 g2
    rw [digs0_pos hb (by omega)]
    cases hd : digs0 b (V / b) with
    | nil => rw [hd] at ih; cases ih
    | cons d ds =>
      rw [List.getLast?_cons_cons, ← hd, ih, Nat.div_div_eq_div_mul, ← Nat.pow_succ']
theorem enc_Q {l : Lk} (hm : lmay l) (hv : l.v = 0) : ∃ t, enc58 (lbytes l) = 81 :: t := by
  have hmm := hm
  unfold lmay at hmm
  have h18 : l.h = 18 ∧ l.d.length = 32 := by omega
  have hb : lbytes l = 18 :: 32 :: l.d := by
    unfold lbytes
    rw [if_pos hm, if_neg (by omega)]
    unfold dlay
    rw [if_pos (lmay_fits hm), h18.1, h18.2]
    rfl
  have hV : valh 256 (nats (lbytes l)) 0 = valh 256 (nats l.d) 4640 := by
    rw [hb]
    rfl
  have h1 : valh 256 (nats l.d) 4640 < 4641 * 256 ^ 32 ∧ 4640 * 256 ^ 32 ≤ valh 256 (nats l.d) 4640 := by
    have hs : ∀ (ds : List Nat) (a : Nat), (∀ p ∈ ds, p < 256) → valh 256 ds a < (a + 1) * 256 ^ ds.length ∧ a * 256 ^ ds.length ≤ valh 256 ds a := by
      intro ds
      induction ds with
      | nil => intro a _; simp [valh]
      | cons d ds ih =>
        intro a h
        have hd := h d (List.mem_cons_self ..)
        obtain ⟨i1, i2⟩ := ih (256 * a + d) fun p hp => h p (List.mem_cons_of_mem _ hp)
        show valh 256 ds (256 * a + d) < _ ∧ _ ≤ valh 256 ds (256 * a + d)
        rw [List.length_cons, Nat.pow_succ', ← Nat.mul_assoc, ← Nat.mul_assoc]
        have m1 := Nat.mul_le_mul_right (256 ^ ds.length) (show 256 * a + d + 1 ≤ (a + 1) * 256 by omega)
        have m2 := Nat.mul_le_mul_right (256 ^ ds.length) (show a * 256 ≤ 256 * a + d by omega)
        omega
    have := hs (nats l.d) 4640 (nats_lt256 _)
    rw [nats_len, h18.2] at this
    exact this
  unfold enc58
  rw [hV]
  generalize valh 256 (nats l.d) 4640 = V at *
  have hlast := digs0_last (b := 58) (by decide) 45 V (Nat.le_trans (by decide) h1.2) (Nat.lt_of_lt_of_le h1.1 (by decide))
  have hq : V / 58 ^ 45 = 23 := by
    refine Nat.div_eq_of_lt_le ?_ ?_
    · exact Nat.le_trans (by decide) h1.2
    · exact Nat.lt_of_lt_of_le h1.1 (by decide)
  rw [hq] at hlast
  have hh : (digs0 58 V).reverse.head? = some 23 := by rw [List.head?_reverse]; exact hlast
  cases hd : (digs0 58 V).reverse with
  | nil => rw [hd] at hh; cases hh
  | cons d ds =>
    rw [hd] at hh
    obtain rfl : d = 23 := Option.some.inj hh
    exact ⟨_, rfl⟩
theorem lptext_text {l : Lk} (hm : lmay l) : lptext (ltext l).1 = (l, 0) ∧ (ltext l).2 = 0 ∧ (ltext l).1.length ≤ 153 ∧ ∃ x t, (ltext l).1 = x :: t ∧ (x = 81 ↔ l.v = 0) ∧ (x = 81 ∨ x = 98) := by
  unfold ltext
  rw [if_pos hm]
  dsimp only
  have hl := lbytes_len' l
  by_cases hv : l.v = 0
  · rw [if_pos hv]
    obtain ⟨t, ht⟩ := enc_Q hm hv
    have hlen := enc58_len (lbytes l)
    have hde := dec_enc (lbytes l) (lbytes_no0 hm)
    rw [ht] at hlen hde ⊢
    refine ⟨?_, rfl, by omega, 81, t, rfl, by simp [hv], .inl rfl⟩
    unfold lptext
    rw [if_neg (by omega)]
    dsimp only
    rw [if_pos rfl, hde]
    exact lrd_lay hm 0 hv
  · rw [if_neg hv]
    have hv1 : l.v = 1 := by unfold lmay at hm; omega
    have hlen := spread_len 5 (by decide) d32 (lbytes l)
    have hgs := gather_spread 5 (by decide) (by decide) d32 rfl apart32 (lbytes l)
    generalize spreadL 5 d32 (lbytes l) = T at *
    refine ⟨?_, rfl, by rw [List.length_cons]; omega, 98, T, rfl, by simp [hv], .inr rfl⟩
    unfold lptext
    rw [if_neg (by rw [List.length_cons]; omega)]
    dsimp only
    rw [if_neg (by decide), if_neg (by decide), if_pos rfl, hgs]
    exact lrd_lay hm 1 hv1
def letter (k : Int) : UInt8 := if k = 1 then 102 else if k = 2 then 98 else 122
theorem lptext_textIn {l : Lk} (hm : lmay l) (hv : l.v ≠ 0) (k : Int) (hk : 1 ≤ k ∧ k ≤ 3) : lptext (ltextIn l k).1 = (l, 0) ∧ (ltextIn l k).2 = 0 ∧ (ltextIn l k).1.length ≤ 153 ∧ ∃ t, (ltextIn l k).1 = letter k :: t := by
  unfold ltextIn
  rw [if_pos hm, if_neg hv]
  have hl := lbytes_len' l
  have hv1 : l.v = 1 := by unfold lmay at hm; omega
  rcases (show k = 1 ∨ k = 2 ∨ k = 3 by omega) with rfl | rfl | rfl
  · rw [if_pos rfl]
    have hlen := spread_len 4 (by decide) d16 (lbytes l)
    have hgs := gather_spread 4 (by decide) (by decide) d16 rfl apart16 (lbytes l)
    generalize spreadL 4 d16 (lbytes l) = T at *
    refine ⟨?_, rfl, by rw [List.length_cons]; omega, T, rfl⟩
    unfold lptext
    rw [if_neg (by rw [List.length_cons]; omega)]
    dsimp only
    rw [if_neg (by decide), if_pos rfl, hgs]
    exact lrd_lay hm 1 hv1
  · rw [if_neg (by omega), if_pos rfl]
    have hlen := spread_len 5 (by decide) d32 (lbytes l)
    have hgs := gather_spread 5 (by decide) (by decide) d32 rfl apart32 (lbytes l)
    generalize spreadL 5 d32 (lbytes l) = T at *
    refine ⟨?_, rfl, by rw [List.length_cons]; omega, T, rfl⟩
    unfold lptext
    rw [if_neg (by rw [List.length_cons]; omega)]
    dsimp only
    rw [if_neg (by decide), if_neg (by decide), if_pos rfl, hgs]
    exact lrd_lay hm 1 hv1
  · rw [if_neg (by omega), if_neg (by omega), if_pos rfl]
    have hlen := enc58_len (lbytes l)
    have hde := dec_enc (lbytes l) (lbytes_no0 hm)
    generalize enc58 (lbytes l) = T at *
    refine ⟨?_, rfl, by rw [List.length_cons]; omega, T, rfl⟩
    unfold lptext
    rw [if_neg (by rw [List.length_cons]; omega)]
    dsimp only
    rw [if_neg (by decide), if_neg (by decide), if_neg (by decide), if_pos rfl, hde]
    exact lrd_lay hm 1 hv1
theorem lrd_err {v : Int} {r : List UInt8 × Bool} (h : (lrd v r).2 ≠ 0) : (lrd v r).1 = zeroLk := by
  unfold lrd at h ⊢
  split
  · rfl
  · split
    · rfl
    · split
      · rfl
      · rename_i h1 h2 h3
        rw [if_neg h1, if_neg h2, if_neg h3] at h
        exact absurd rfl h
theorem lptext_err {s : List UInt8} (h : (lptext s).2 ≠ 0) : (lptext s).1 = zeroLk := by
  unfold lptext at h ⊢
  split
  · rfl
  · rename_i h0
    rw [if_neg h0] at h
    cases s with
    | nil => rfl
    | cons x t =>
      dsimp only at h ⊢
      split
      · rename_i h1; rw [if_pos h1] at h; exact lrd_err h
      · rename_i h1
        rw [if_neg h1] at h
        split
        · rename_i h2; rw [if_pos h2] at h; exact lrd_err h
        · rename_i h2
          rw [if_neg h2] at h
          split
          · rename_i h3; rw [if_pos h3] at h; exact lrd_err h
          · rename_i h3
            rw [if_neg h3] at h
            split
            · rename_i h4; rw [if_pos h4] at h; exact lrd_err h
            · rfl
theorem lrd_back {v : Int} {r : List UInt8 × Bool} {l : Lk} (h : lrd v r = (l, 0)) : r.2 = true ∧ lmay l ∧ lbytes l = r.1 ∧ l.v = v := by
  unfold lrd at h
  cases hr : r.2 with
  | false => rw [if_pos hr] at h; injection h with _ h; omega
  | true =>
    rw [if_neg (by simp [hr])] at h
    by_cases h1 : (lparse r.1).2 = 0
    · rw [if_neg (by simpa using h1)] at h
      by_cases h2 : (lparse r.1).1.v = v
      · rw [if_neg (by simpa using h2)] at h
        injection h with h _
        obtain ⟨h3, h4⟩ := lparse_back (xs := r.1) (l := l) (by rw [← h, ← h1])
        exact ⟨rfl, h3, h4, by rw [← h]; exact h2⟩
      · rw [if_pos h2] at h; injection h with _ h; omega
    · rw [if_pos h1] at h; injection h with _ h; omega
/-- what is read as a text is one of its link's -/
theorem lptext_one {s : List UInt8} {l : Lk} (h : lptext s = (l, 0)) : lmay l ∧ ((ltext l) = (s, 0) ∨ ∃ k : Int, 1 ≤ k ∧ k ≤ 3 ∧ ltextIn l k = (s, 0)) := by
  unfold lptext at h
  split at h
  · injection h with _ h; omega
  cases s with
  | nil => injection h with _ h; omega
  | cons x t =>
    dsimp only at h
    by_cases h1 : x = 81
    · rw [if_pos h1] at h
      obtain ⟨a1, a2, a3, a4⟩ := lrd_back h
      refine ⟨a2, .inl ?_⟩
      unfold ltext
      rw [if_pos a2, if_pos a4]
      rw [enc_dec (x :: t) (lbytes l) (by rw [a3, ← a1]) (lbytes_no0 a2)]
    rw [if_neg h1] at h
    by_cases h2 : x = 102
    · rw [if_pos h2] at h
      obtain ⟨a1, a2, a3, a4⟩ := lrd_back h
      refine ⟨a2, .inr ⟨1, by omega, by omega, ?_⟩⟩
      unfold ltextIn
      rw [if_pos a2, if_neg (by omega), if_pos rfl, spread_gather 4 (by decide) (by decide) d16 rfl t (lbytes l) (by rw [a3, ← a1]), h2]
    rw [if_neg h2] at h
    by_cases h3 : x = 98
    · rw [if_pos h3] at h
      obtain ⟨a1, a2, a3, a4⟩ := lrd_back h
      refine ⟨a2, .inr ⟨2, by omega, by omega, ?_⟩⟩
      unfold ltextIn
      rw [if_pos a2, if_neg (by omega), if_neg (by omega), if_pos rfl, spread_gather 5 (by decide) (by decide) d32 rfl t (lbytes l) (by rw [a3, ← a1]), h3]
    rw [if_neg h3] at h
    by_cases h4 : x = 122
    · rw [if_pos h4] at h
      obtain ⟨a1, a2, a3, a4⟩ := lrd_back h
      refine ⟨a2, .inr ⟨3, by omega, by omega, ?_⟩⟩
      unfold ltextIn
      rw [if_pos a2, if_neg (by omega), if_neg (by omega), if_neg (by omega), if_pos rfl, enc_dec t (lbytes l) (by rw [a3, ← a1]) (lbytes_no0 a2), h4]
    · rw [if_neg h4] at h; injection h with _ h; omega
end Go.Proofs.YtokoohdpakhphaaDoor.Lnk
namespace Go.Proofs.YtokoohdpakhphaaDoor.Lnk
open Go VC Go.RowKit Dig
set_option linter.unusedSimpArgs false
set_option linter.unusedVariables false
set_option maxRecDepth 20000
set_option maxHeartbeats 4000000
theorem TextIn_calls (w0 : World) (l : Lk) (base : Int) (hd : l.d.length ≤ 1125899906842624) :
    Calls Tryd.prog 14 #[.agg l.fs.toArray, .int .i64 base] w0 fun e w' => e = .returned (.tuple #[.string ⟨(ltextIn l base).1.toArray⟩, .int .i64 (ltextIn l base).2]) ∧ Below w0.heap.size w0 w' := by
  refine calls_vc Tryd.func14 rfl (by kernel_rfl) (by kernel_rfl) ?_; intro R hR
  have hs := Sat.start w0
  have q1 := fun w => Bytes_calls w l hd
  unfold ltextIn at hR
  by_cases hm : lmay l
  case neg =>
    rw [lcheck_not hm, show lbytes l = [] from if_neg hm] at q1
    rw [if_neg hm] at hR
    obtain ⟨v, cd, h, d⟩ := l
    unfold Lk.fs at q1 ⊢
    dsimp only at q1 ⊢
    (repeat (first | (simp (disch := first | omega | assumption | exact Option.isSome_some | (simp only [adO_isSome]; assumption)) only [↓vcp, vcs, vct, if_true, if_false, Nat.reduceBEq, ↓reduceIte, Nat.reduceEqDiff, Nat.reduceAdd, Nat.reduceMul, Nat.reduceSub, Int.reduceToNat, reduceCtorEq, Nat.reduceLT, Nat.reduceLeDiff, Int.reduceSub, Int.reduceAdd, Int.reduceNeg, Sat.look hs, Sat.lookA hs]) | (refine khK he hs ?_; clear he; intro he) | ((first | refine stK hs ?_ | refine stFK hs ?_ | refine stAK hs ?_ | refine msK hs ?_); clear hs; (try clear w); rintro w hs; try simp only [cls] at hs) | ((first | refine al_ok hs ?_ | refine bx_ok hs ?_ | refine bsvK hs ?_ | refine bs1_ok hs ?_ | refine bs0_ok hs ?_); clear hs; (try clear w); rintro _ w hs; try simp only [cls] at hs)))
    refine call_ok (by kernel_rfl) (q1 w) ?_; rintro _ w2 ⟨a1, c1, rfl, hc1, hb⟩; rw [callK_ret]; replace hs := Sat.add hs hb; clear hb; (try clear w); rename World => w; try simp only [cls] at hs
    (repeat (first | (simp (disch := first | omega | assumption | exact Option.isSome_some | (simp only [adO_isSome]; assumption)) only [↓vcp, vcs, vct, if_true, if_false, Nat.reduceBEq, ↓reduceIte, Nat.reduceEqDiff, Nat.reduceAdd, Nat.reduceMul, Nat.reduceSub, Int.reduceToNat, reduceCtorEq, Nat.reduceLT, Nat.reduceLeDiff, Int.reduceSub, Int.reduceAdd, Int.reduceNeg, Sat.look hs, Sat.lookA hs]) | (refine khK he hs ?_; clear he; intro he) | ((first | refine stK hs ?_ | refine stFK hs ?_ | refine stAK hs ?_ | refine msK hs ?_); clear hs; (try clear w); rintro w hs; try simp only [cls] at hs) | ((first | refine al_ok hs ?_ | refine bx_ok hs ?_ | refine bsvK hs ?_ | refine bs1_ok hs ?_ | refine bs0_ok hs ?_); clear hs; (try clear w); rintro _ w hs; try simp only [cls] at hs)))
    exact ret_tmp2 rfl (hR _ _ ⟨rfl, hs.belowAt⟩)
  rw [lcheck_may hm] at q1
  rw [if_pos hm] at hR
  have hbl := lbytes_len l
  have hno := lbytes_no0 hm
  generalize lbytes l = B at *
  obtain ⟨v, cd, h, d⟩ := l
  dsimp only at hR
  unfold Lk.fs at q1 ⊢
  dsimp only at q1 ⊢
  by_cases hv : v = 0
  · rw [if_pos hv] at hR
    (repeat (first | (simp (disch := first | omega | assumption | exact Option.isSome_some | (simp only [adO_isSome]; assumption)) only [↓vcp, vcs, vct, if_true, if_false, Nat.reduceBEq, ↓reduceIte, Nat.reduceEqDiff, Nat.reduceAdd, Nat.reduceMul, Nat.reduceSub, Int.reduceToNat, reduceCtorEq, Nat.reduceLT, Nat.reduceLeDiff, Int.reduceSub, Int.reduceAdd, Int.reduceNeg, Sat.look hs, Sat.lookA hs]) | (refine khK he hs ?_; clear he; intro he) | ((first | refine stK hs ?_ | refine stFK hs ?_ | refine stAK hs ?_ | refine msK hs ?_); clear hs; (try clear w); rintro w hs; try simp only [cls] at hs) | ((first | refine al_ok hs ?_ | refine bx_ok hs ?_ | refine bsvK hs ?_ | refine bs1_ok hs ?_ | refine bs0_ok hs ?_); clear hs; (try clear w); rintro _ w hs; try simp only [cls] at hs)))
    refine call_ok (by kernel_rfl) (q1 w) ?_; rintro _ w2 ⟨a1, c1, rfl, hc1, hb⟩; rw [callK_ret]; replace hs := Sat.add hs hb; clear hb; (try clear w); rename World => w; try simp only [cls] at hs
    (repeat (first | (simp (disch := first | omega | assumption | exact Option.isSome_some | (simp only [adO_isSome]; assumption)) only [↓vcp, vcs, vct, if_true, if_false, Nat.reduceBEq, ↓reduceIte, Nat.reduceEqDiff, Nat.reduceAdd, Nat.reduceMul, Nat.reduceSub, Int.reduceToNat, reduceCtorEq, Nat.reduceLT, Nat.reduceLeDiff, Int.reduceSub, Int.reduceAdd, Int.reduceNeg, Sat.look hs, Sat.lookA hs]) | (refine khK he hs ?_; clear he; intro he) | ((first | refine stK hs ?_ | refine stFK hs ?_ | refine stAK hs ?_ | refine msK hs ?_); clear hs; (try clear w); rintro w hs; try simp only [cls] at hs) | ((first | refine al_ok hs ?_ | refine bx_ok hs ?_ | refine bsvK hs ?_ | refine bs1_ok hs ?_ | refine bs0_ok hs ?_); clear hs; (try clear w); rintro _ w hs; try simp only [cls] at hs)))
    exact ret_tmp2 rfl (hR _ _ ⟨rfl, hs.belowAt⟩)
  rw [if_neg hv] at hR
  by_cases h1 : base = 1
  · subst h1
    rw [if_pos rfl] at hR
    (repeat (first | (simp (disch := first | omega | assumption | exact Option.isSome_some | (simp only [adO_isSome]; assumption)) only [↓vcp, vcs, vct, if_true, if_false, Nat.reduceBEq, ↓reduceIte, Nat.reduceEqDiff, Nat.reduceAdd, Nat.reduceMul, Nat.reduceSub, Int.reduceToNat, reduceCtorEq, Nat.reduceLT, Nat.reduceLeDiff, Int.reduceSub, Int.reduceAdd, Int.reduceNeg, Sat.look hs, Sat.lookA hs]) | (refine khK he hs ?_; clear he; intro he) | ((first | refine stK hs ?_ | refine stFK hs ?_ | refine stAK hs ?_ | refine msK hs ?_); clear hs; (try clear w); rintro w hs; try simp only [cls] at hs) | ((first | refine al_ok hs ?_ | refine bx_ok hs ?_ | refine bsvK hs ?_ | refine bs1_ok hs ?_ | refine bs0_ok hs ?_); clear hs; (try clear w); rintro _ w hs; try simp only [cls] at hs)))
    refine call_ok (by kernel_rfl) (q1 w) ?_; rintro _ w2 ⟨a1, c1, rfl, hc1, hb⟩; rw [callK_ret]; replace hs := Sat.add hs hb; clear hb; (try clear w); rename World => w; try simp only [cls] at hs
    (repeat (first | (simp (disch := first | omega | assumption | exact Option.isSome_some | (simp only [adO_isSome]; assumption)) only [↓vcp, vcs, vct, if_true, if_false, Nat.reduceBEq, ↓reduceIte, Nat.reduceEqDiff, Nat.reduceAdd, Nat.reduceMul, Nat.reduceSub, Int.reduceToNat, reduceCtorEq, Nat.reduceLT, Nat.reduceLeDiff, Int.reduceSub, Int.reduceAdd, Int.reduceNeg, Sat.look hs, Sat.lookA hs]) | (refine khK he hs ?_; clear he; intro he) | ((first | refine stK hs ?_ | refine stFK hs ?_ | refine stAK hs ?_ | refine msK hs ?_); clear hs; (try clear w); rintro w hs; try simp only [cls] at hs) | ((first | refine al_ok hs ?_ | refine bx_ok hs ?_ | refine bsvK hs ?_ | refine bs1_ok hs ?_ | refine bs0_ok hs ?_); clear hs; (try clear w); rintro _ w hs; try simp only [cls] at hs)))
    have q2 := spread_calls w a1 c1 B d16 4 (by decide) (by decide) (by decide) hs.ro (by omega)
    have hTl := spreadL_len 4 (by decide) (by decide) d16 B
    generalize spreadL 4 d16 B = T at *
    refine call_ok (by kernel_rfl) (q2) ?_; rintro _ w2 ⟨rfl, hb⟩; rw [callK_ret]; replace hs := Sat.add hs (Below.sat hb); clear hb; (try clear w); rename World => w; try simp only [cls] at hs
    (repeat (first | (simp (disch := first | omega | assumption | exact Option.isSome_some | (simp only [adO_isSome]; assumption)) only [↓vcp, vcs, vct, if_true, if_false, Nat.reduceBEq, ↓reduceIte, Nat.reduceEqDiff, Nat.reduceAdd, Nat.reduceMul, Nat.reduceSub, Int.reduceToNat, reduceCtorEq, Nat.reduceLT, Nat.reduceLeDiff, Int.reduceSub, Int.reduceAdd, Int.reduceNeg, Sat.look hs, Sat.lookA hs]) | (refine khK he hs ?_; clear he; intro he) | ((first | refine stK hs ?_ | refine stFK hs ?_ | refine stAK hs ?_ | refine msK hs ?_); clear hs; (try clear w); rintro w hs; try simp only [cls] at hs) | ((first | refine al_ok hs ?_ | refine bx_ok hs ?_ | refine bsvK hs ?_ | refine bs1_ok hs ?_ | refine bs0_ok hs ?_); clear hs; (try clear w); rintro _ w hs; try simp only [cls] at hs)))
    have hsz : (ByteArray.mk #[102]).size + (ByteArray.mk T.toArray).size ≤ 9223372036854775807 := by rw [ba_size]; show 1 + T.length ≤ _; omega
    rw [s_add (h := hsz), show (ByteArray.mk #[102] ++ ByteArray.mk T.toArray) = ⟨(102 :: T).toArray⟩ from ba_app [102] T]
    (repeat (first | (simp (disch := first | omega | assumption | exact Option.isSome_some | (simp only [adO_isSome]; assumption)) only [↓vcp, vcs, vct, if_true, if_false, Nat.reduceBEq, ↓reduceIte, Nat.reduceEqDiff, Nat.reduceAdd, Nat.reduceMul, Nat.reduceSub, Int.reduceToNat, reduceCtorEq, Nat.reduceLT, Nat.reduceLeDiff, Int.reduceSub, Int.reduceAdd, Int.reduceNeg, Sat.look hs, Sat.lookA hs]) | (refine khK he hs ?_; clear he; intro he) | ((first | refine stK hs ?_ | refine stFK hs ?_ | refine stAK hs ?_ | refine msK hs ?_); clear hs; (try clear w); rintro w hs; try simp only [cls] at hs) | ((first | refine al_ok hs ?_ | refine bx_ok hs ?_ | refine bsvK hs ?_ | refine bs1_ok hs ?_ | refine bs0_ok hs ?_); clear hs; (try clear w); rintro _ w hs; try simp only [cls] at hs)))
    exact ret_tmp2 rfl (hR _ _ ⟨rfl, hs.belowAt⟩)
  rw [if_neg h1] at hR
  by_cases h2 : base = 2
  · subst h2
    rw [if_pos rfl] at hR
    (repeat (first | (simp (disch := first | omega | assumption | exact Option.isSome_some | (simp only [adO_isSome]; assumption)) only [↓vcp, vcs, vct, if_true, if_false, Nat.reduceBEq, ↓reduceIte, Nat.reduceEqDiff, Nat.reduceAdd, Nat.reduceMul, Nat.reduceSub, Int.reduceToNat, reduceCtorEq, Nat.reduceLT, Nat.reduceLeDiff, Int.reduceSub, Int.reduceAdd, Int.reduceNeg, Sat.look hs, Sat.lookA hs]) | (refine khK he hs ?_; clear he; intro he) | ((first | refine stK hs ?_ | refine stFK hs ?_ | refine stAK hs ?_ | refine msK hs ?_); clear hs; (try clear w); rintro w hs; try simp only [cls] at hs) | ((first | refine al_ok hs ?_ | refine bx_ok hs ?_ | refine bsvK hs ?_ | refine bs1_ok hs ?_ | refine bs0_ok hs ?_); clear hs; (try clear w); rintro _ w hs; try simp only [cls] at hs)))
    refine call_ok (by kernel_rfl) (q1 w) ?_; rintro _ w2 ⟨a1, c1, rfl, hc1, hb⟩; rw [callK_ret]; replace hs := Sat.add hs hb; clear hb; (try clear w); rename World => w; try simp only [cls] at hs
    (repeat (first | (simp (disch := first | omega | assumption | exact Option.isSome_some | (simp only [adO_isSome]; assumption)) only [↓vcp, vcs, vct, if_true, if_false, Nat.reduceBEq, ↓reduceIte, Nat.reduceEqDiff, Nat.reduceAdd, Nat.reduceMul, Nat.reduceSub, Int.reduceToNat, reduceCtorEq, Nat.reduceLT, Nat.reduceLeDiff, Int.reduceSub, Int.reduceAdd, Int.reduceNeg, Sat.look hs, Sat.lookA hs]) | (refine khK he hs ?_; clear he; intro he) | ((first | refine stK hs ?_ | refine stFK hs ?_ | refine stAK hs ?_ | refine msK hs ?_); clear hs; (try clear w); rintro w hs; try simp only [cls] at hs) | ((first | refine al_ok hs ?_ | refine bx_ok hs ?_ | refine bsvK hs ?_ | refine bs1_ok hs ?_ | refine bs0_ok hs ?_); clear hs; (try clear w); rintro _ w hs; try simp only [cls] at hs)))
    have q2 := spread_calls w a1 c1 B d32 5 (by decide) (by decide) (by decide) hs.ro (by omega)
    have hTl := spreadL_len 5 (by decide) (by decide) d32 B
    generalize spreadL 5 d32 B = T at *
    refine call_ok (by kernel_rfl) (q2) ?_; rintro _ w2 ⟨rfl, hb⟩; rw [callK_ret]; replace hs := Sat.add hs (Below.sat hb); clear hb; (try clear w); rename World => w; try simp only [cls] at hs
    (repeat (first | (simp (disch := first | omega | assumption | exact Option.isSome_some | (simp only [adO_isSome]; assumption)) only [↓vcp, vcs, vct, if_true, if_false, Nat.reduceBEq, ↓reduceIte, Nat.reduceEqDiff, Nat.reduceAdd, Nat.reduceMul, Nat.reduceSub, Int.reduceToNat, reduceCtorEq, Nat.reduceLT, Nat.reduceLeDiff, Int.reduceSub, Int.reduceAdd, Int.reduceNeg, Sat.look hs, Sat.lookA hs]) | (refine khK he hs ?_; clear he; intro he) | ((first | refine stK hs ?_ | refine stFK hs ?_ | refine stAK hs ?_ | refine msK hs ?_); clear hs; (try clear w); rintro w hs; try simp only [cls] at hs) | ((first | refine al_ok hs ?_ | refine bx_ok hs ?_ | refine bsvK hs ?_ | refine bs1_ok hs ?_ | refine bs0_ok hs ?_); clear hs; (try clear w); rintro _ w hs; try simp only [cls] at hs)))
    have hsz : (ByteArray.mk #[98]).size + (ByteArray.mk T.toArray).size ≤ 9223372036854775807 := by rw [ba_size]; show 1 + T.length ≤ _; omega
    rw [s_add (h := hsz), show (ByteArray.mk #[98] ++ ByteArray.mk T.toArray) = ⟨(98 :: T).toArray⟩ from ba_app [98] T]
    (repeat (first | (simp (disch := first | omega | assumption | exact Option.isSome_some | (simp only [adO_isSome]; assumption)) only [↓vcp, vcs, vct, if_true, if_false, Nat.reduceBEq, ↓reduceIte, Nat.reduceEqDiff, Nat.reduceAdd, Nat.reduceMul, Nat.reduceSub, Int.reduceToNat, reduceCtorEq, Nat.reduceLT, Nat.reduceLeDiff, Int.reduceSub, Int.reduceAdd, Int.reduceNeg, Sat.look hs, Sat.lookA hs]) | (refine khK he hs ?_; clear he; intro he) | ((first | refine stK hs ?_ | refine stFK hs ?_ | refine stAK hs ?_ | refine msK hs ?_); clear hs; (try clear w); rintro w hs; try simp only [cls] at hs) | ((first | refine al_ok hs ?_ | refine bx_ok hs ?_ | refine bsvK hs ?_ | refine bs1_ok hs ?_ | refine bs0_ok hs ?_); clear hs; (try clear w); rintro _ w hs; try simp only [cls] at hs)))
    exact ret_tmp2 rfl (hR _ _ ⟨rfl, hs.belowAt⟩)
  rw [if_neg h2] at hR
  by_cases h3 : base = 3
  · subst h3
    rw [if_pos rfl] at hR
    (repeat (first | (simp (disch := first | omega | assumption | exact Option.isSome_some | (simp only [adO_isSome]; assumption)) only [↓vcp, vcs, vct, if_true, if_false, Nat.reduceBEq, ↓reduceIte, Nat.reduceEqDiff, Nat.reduceAdd, Nat.reduceMul, Nat.reduceSub, Int.reduceToNat, reduceCtorEq, Nat.reduceLT, Nat.reduceLeDiff, Int.reduceSub, Int.reduceAdd, Int.reduceNeg, Sat.look hs, Sat.lookA hs]) | (refine khK he hs ?_; clear he; intro he) | ((first | refine stK hs ?_ | refine stFK hs ?_ | refine stAK hs ?_ | refine msK hs ?_); clear hs; (try clear w); rintro w hs; try simp only [cls] at hs) | ((first | refine al_ok hs ?_ | refine bx_ok hs ?_ | refine bsvK hs ?_ | refine bs1_ok hs ?_ | refine bs0_ok hs ?_); clear hs; (try clear w); rintro _ w hs; try simp only [cls] at hs)))
    refine call_ok (by kernel_rfl) (q1 w) ?_; rintro _ w2 ⟨a1, c1, rfl, hc1, hb⟩; rw [callK_ret]; replace hs := Sat.add hs hb; clear hb; (try clear w); rename World => w; try simp only [cls] at hs
    (repeat (first | (simp (disch := first | omega | assumption | exact Option.isSome_some | (simp only [adO_isSome]; assumption)) only [↓vcp, vcs, vct, if_true, if_false, Nat.reduceBEq, ↓reduceIte, Nat.reduceEqDiff, Nat.reduceAdd, Nat.reduceMul, Nat.reduceSub, Int.reduceToNat, reduceCtorEq, Nat.reduceLT, Nat.reduceLeDiff, Int.reduceSub, Int.reduceAdd, Int.reduceNeg, Sat.look hs, Sat.lookA hs]) | (refine khK he hs ?_; clear he; intro he) | ((first | refine stK hs ?_ | refine stFK hs ?_ | refine stAK hs ?_ | refine msK hs ?_); clear hs; (try clear w); rintro w hs; try simp only [cls] at hs) | ((first | refine al_ok hs ?_ | refine bx_ok hs ?_ | refine bsvK hs ?_ | refine bs1_ok hs ?_ | refine bs0_ok hs ?_); clear hs; (try clear w); rintro _ w hs; try simp only [cls] at hs)))
    have q2 := inBase58_calls w a1 c1 B hs.ro hc1 (by omega) hno
    have hTl := enc58_len B
    generalize enc58 B = T at *
    refine call_ok (by kernel_rfl) (q2) ?_; rintro _ w2 ⟨rfl, hb⟩; rw [callK_ret]; replace hs := Sat.add hs (Below.sat hb); clear hb; (try clear w); rename World => w; try simp only [cls] at hs
    (repeat (first | (simp (disch := first | omega | assumption | exact Option.isSome_some | (simp only [adO_isSome]; assumption)) only [↓vcp, vcs, vct, if_true, if_false, Nat.reduceBEq, ↓reduceIte, Nat.reduceEqDiff, Nat.reduceAdd, Nat.reduceMul, Nat.reduceSub, Int.reduceToNat, reduceCtorEq, Nat.reduceLT, Nat.reduceLeDiff, Int.reduceSub, Int.reduceAdd, Int.reduceNeg, Sat.look hs, Sat.lookA hs]) | (refine khK he hs ?_; clear he; intro he) | ((first | refine stK hs ?_ | refine stFK hs ?_ | refine stAK hs ?_ | refine msK hs ?_); clear hs; (try clear w); rintro w hs; try simp only [cls] at hs) | ((first | refine al_ok hs ?_ | refine bx_ok hs ?_ | refine bsvK hs ?_ | refine bs1_ok hs ?_ | refine bs0_ok hs ?_); clear hs; (try clear w); rintro _ w hs; try simp only [cls] at hs)))
    have hsz : (ByteArray.mk #[122]).size + (ByteArray.mk T.toArray).size ≤ 9223372036854775807 := by rw [ba_size]; show 1 + T.length ≤ _; omega
    rw [s_add (h := hsz), show (ByteArray.mk #[122] ++ ByteArray.mk T.toArray) = ⟨(122 :: T).toArray⟩ from ba_app [122] T]
    (repeat (first | (simp (disch := first | omega | assumption | exact Option.isSome_some | (simp only [adO_isSome]; assumption)) only [↓vcp, vcs, vct, if_true, if_false, Nat.reduceBEq, ↓reduceIte, Nat.reduceEqDiff, Nat.reduceAdd, Nat.reduceMul, Nat.reduceSub, Int.reduceToNat, reduceCtorEq, Nat.reduceLT, Nat.reduceLeDiff, Int.reduceSub, Int.reduceAdd, Int.reduceNeg, Sat.look hs, Sat.lookA hs]) | (refine khK he hs ?_; clear he; intro he) | ((first | refine stK hs ?_ | refine stFK hs ?_ | refine stAK hs ?_ | refine msK hs ?_); clear hs; (try clear w); rintro w hs; try simp only [cls] at hs) | ((first | refine al_ok hs ?_ | refine bx_ok hs ?_ | refine bsvK hs ?_ | refine bs1_ok hs ?_ | refine bs0_ok hs ?_); clear hs; (try clear w); rintro _ w hs; try simp only [cls] at hs)))
    exact ret_tmp2 rfl (hR _ _ ⟨rfl, hs.belowAt⟩)
  · rw [if_neg h3] at hR
    (repeat (first | (simp (disch := first | omega | assumption | exact Option.isSome_some | (simp only [adO_isSome]; assumption)) only [↓vcp, vcs, vct, if_true, if_false, Nat.reduceBEq, ↓reduceIte, Nat.reduceEqDiff, Nat.reduceAdd, Nat.reduceMul, Nat.reduceSub, Int.reduceToNat, reduceCtorEq, Nat.reduceLT, Nat.reduceLeDiff, Int.reduceSub, Int.reduceAdd, Int.reduceNeg, Sat.look hs, Sat.lookA hs]) | (refine khK he hs ?_; clear he; intro he) | ((first | refine stK hs ?_ | refine stFK hs ?_ | refine stAK hs ?_ | refine msK hs ?_); clear hs; (try clear w); rintro w hs; try simp only [cls] at hs) | ((first | refine al_ok hs ?_ | refine bx_ok hs ?_ | refine bsvK hs ?_ | refine bs1_ok hs ?_ | refine bs0_ok hs ?_); clear hs; (try clear w); rintro _ w hs; try simp only [cls] at hs)))
    refine call_ok (by kernel_rfl) (q1 w) ?_; rintro _ w2 ⟨a1, c1, rfl, hc1, hb⟩; rw [callK_ret]; replace hs := Sat.add hs hb; clear hb; (try clear w); rename World => w; try simp only [cls] at hs
    (repeat (first | (simp (disch := first | omega | assumption | exact Option.isSome_some | (simp only [adO_isSome]; assumption)) only [↓vcp, vcs, vct, if_true, if_false, Nat.reduceBEq, ↓reduceIte, Nat.reduceEqDiff, Nat.reduceAdd, Nat.reduceMul, Nat.reduceSub, Int.reduceToNat, reduceCtorEq, Nat.reduceLT, Nat.reduceLeDiff, Int.reduceSub, Int.reduceAdd, Int.reduceNeg, Sat.look hs, Sat.lookA hs]) | (refine khK he hs ?_; clear he; intro he) | ((first | refine stK hs ?_ | refine stFK hs ?_ | refine stAK hs ?_ | refine msK hs ?_); clear hs; (try clear w); rintro w hs; try simp only [cls] at hs) | ((first | refine al_ok hs ?_ | refine bx_ok hs ?_ | refine bsvK hs ?_ | refine bs1_ok hs ?_ | refine bs0_ok hs ?_); clear hs; (try clear w); rintro _ w hs; try simp only [cls] at hs)))
    exact ret_tmp2 rfl (hR _ _ ⟨rfl, hs.belowAt⟩)
theorem Text_calls (w0 : World) (l : Lk) (hd : l.d.length ≤ 1125899906842624) :
    Calls Tryd.prog 10 #[.agg l.fs.toArray] w0 fun e w' => e = .returned (.tuple #[.string ⟨(ltext l).1.toArray⟩, .int .i64 (ltext l).2]) ∧ Below w0.heap.size w0 w' := by
  refine calls_vc Tryd.func10 rfl (by kernel_rfl) (by kernel_rfl) ?_; intro R hR
  have hs := Sat.start w0
  by_cases hv : l.v = 0
  case neg =>
    have q1 := fun w => TextIn_calls w l 2 hd
    have e : ltextIn l 2 = ltext l := by
      unfold ltextIn ltext
      simp [hv]
    rw [e] at q1
    generalize ltext l = T at *
    obtain ⟨v, cd, h, d⟩ := l
    dsimp only at hv
    unfold Lk.fs at q1 ⊢
    dsimp only at q1 ⊢
    (repeat (first | (simp (disch := first | omega | assumption | exact Option.isSome_some | (simp only [adO_isSome]; assumption)) only [↓vcp, vcs, vct, if_true, if_false, Nat.reduceBEq, ↓reduceIte, Nat.reduceEqDiff, Nat.reduceAdd, Nat.reduceMul, Nat.reduceSub, Int.reduceToNat, reduceCtorEq, Nat.reduceLT, Nat.reduceLeDiff, Int.reduceSub, Int.reduceAdd, Int.reduceNeg, Sat.look hs, Sat.lookA hs]) | (refine khK he hs ?_; clear he; intro he) | ((first | refine stK hs ?_ | refine stFK hs ?_ | refine stAK hs ?_ | refine msK hs ?_); clear hs; (try clear w); rintro w hs; try simp only [cls] at hs) | ((first | refine al_ok hs ?_ | refine bx_ok hs ?_ | refine bsvK hs ?_ | refine bs1_ok hs ?_ | refine bs0_ok hs ?_); clear hs; (try clear w); rintro _ w hs; try simp only [cls] at hs)))
    refine call_ok (by kernel_rfl) (q1 w) ?_; rintro _ w2 ⟨rfl, hb⟩; rw [callK_ret]; replace hs := Sat.add hs (Below.sat hb); clear hb; (try clear w); rename World => w; try simp only [cls] at hs
    (repeat (first | (simp (disch := first | omega | assumption | exact Option.isSome_some | (simp only [adO_isSome]; assumption)) only [↓vcp, vcs, vct, if_true, if_false, Nat.reduceBEq, ↓reduceIte, Nat.reduceEqDiff, Nat.reduceAdd, Nat.reduceMul, Nat.reduceSub, Int.reduceToNat, reduceCtorEq, Nat.reduceLT, Nat.reduceLeDiff, Int.reduceSub, Int.reduceAdd, Int.reduceNeg, Sat.look hs, Sat.lookA hs]) | (refine khK he hs ?_; clear he; intro he) | ((first | refine stK hs ?_ | refine stFK hs ?_ | refine stAK hs ?_ | refine msK hs ?_); clear hs; (try clear w); rintro w hs; try simp only [cls] at hs) | ((first | refine al_ok hs ?_ | refine bx_ok hs ?_ | refine bsvK hs ?_ | refine bs1_ok hs ?_ | refine bs0_ok hs ?_); clear hs; (try clear w); rintro _ w hs; try simp only [cls] at hs)))
    exact ret_tmp2 rfl (hR _ _ ⟨rfl, hs.belowAt⟩)
  have q1 := fun w => Bytes_calls w l hd
  unfold ltext at hR
  by_cases hm : lmay l
  case neg =>
    rw [lcheck_not hm, show lbytes l = [] from if_neg hm] at q1
    rw [if_neg hm] at hR
    obtain ⟨v, cd, h, d⟩ := l
    dsimp only at hv
    subst hv
    unfold Lk.fs at q1 ⊢
    dsimp only at q1 ⊢
    (repeat (first | (simp (disch := first | omega | assumption | exact Option.isSome_some | (simp only [adO_isSome]; assumption)) only [↓vcp, vcs, vct, if_true, if_false, Nat.reduceBEq, ↓reduceIte, Nat.reduceEqDiff, Nat.reduceAdd, Nat.reduceMul, Nat.reduceSub, Int.reduceToNat, reduceCtorEq, Nat.reduceLT, Nat.reduceLeDiff, Int.reduceSub, Int.reduceAdd, Int.reduceNeg, Sat.look hs, Sat.lookA hs]) | (refine khK he hs ?_; clear he; intro he) | ((first | refine stK hs ?_ | refine stFK hs ?_ | refine stAK hs ?_ | refine msK hs ?_); clear hs; (try clear w); rintro w hs; try simp only [cls] at hs) | ((first | refine al_ok hs ?_ | refine bx_ok hs ?_ | refine bsvK hs ?_ | refine bs1_ok hs ?_ | refine bs0_ok hs ?_); clear hs; (try clear w); rintro _ w hs; try simp only [cls] at hs)))
    refine call_ok (by kernel_rfl) (q1 w) ?_; rintro _ w2 ⟨a1, c1, rfl, hc1, hb⟩; rw [callK_ret]; replace hs := Sat.add hs hb; clear hb; (try clear w); rename World => w; try simp only [cls] at hs
    (repeat (first | (simp (disch := first | omega | assumption | exact Option.isSome_some | (simp only [adO_isSome]; assumption)) only [↓vcp, vcs, vct, if_true, if_false, Nat.reduceBEq, ↓reduceIte, Nat.reduceEqDiff, Nat.reduceAdd, Nat.reduceMul, Nat.reduceSub, Int.reduceToNat, reduceCtorEq, Nat.reduceLT, Nat.reduceLeDiff, Int.reduceSub, Int.reduceAdd, Int.reduceNeg, Sat.look hs, Sat.lookA hs]) | (refine khK he hs ?_; clear he; intro he) | ((first | refine stK hs ?_ | refine stFK hs ?_ | refine stAK hs ?_ | refine msK hs ?_); clear hs; (try clear w); rintro w hs; try simp only [cls] at hs) | ((first | refine al_ok hs ?_ | refine bx_ok hs ?_ | refine bsvK hs ?_ | refine bs1_ok hs ?_ | refine bs0_ok hs ?_); clear hs; (try clear w); rintro _ w hs; try simp only [cls] at hs)))
    exact ret_tmp2 rfl (hR _ _ ⟨rfl, hs.belowAt⟩)
  rw [lcheck_may hm] at q1
  rw [if_pos hm, if_pos hv] at hR
  have hbl := lbytes_len l
  have hno := lbytes_no0 hm
  generalize lbytes l = B at *
  obtain ⟨v, cd, h, d⟩ := l
  dsimp only at hv hR
  subst hv
  unfold Lk.fs at q1 ⊢
  dsimp only at q1 ⊢
  (repeat (first | (simp (disch := first | omega | assumption | exact Option.isSome_some | (simp only [adO_isSome]; assumption)) only [↓vcp, vcs, vct, if_true, if_false, Nat.reduceBEq, ↓reduceIte, Nat.reduceEqDiff, Nat.reduceAdd, Nat.reduceMul, Nat.reduceSub, Int.reduceToNat, reduceCtorEq, Nat.reduceLT, Nat.reduceLeDiff, Int.reduceSub, Int.reduceAdd, Int.reduceNeg, Sat.look hs, Sat.lookA hs]) | (refine khK he hs ?_; clear he; intro he) | ((first | refine stK hs ?_ | refine stFK hs ?_ | refine stAK hs ?_ | refine msK hs ?_); clear hs; (try clear w); rintro w hs; try simp only [cls] at hs) | ((first | refine al_ok hs ?_ | refine bx_ok hs ?_ | refine bsvK hs ?_ | refine bs1_ok hs ?_ | refine bs0_ok hs ?_); clear hs; (try clear w); rintro _ w hs; try simp only [cls] at hs)))
  refine call_ok (by kernel_rfl) (q1 w) ?_; rintro _ w2 ⟨a1, c1, rfl, hc1, hb⟩; rw [callK_ret]; replace hs := Sat.add hs hb; clear hb; (try clear w); rename World => w; try simp only [cls] at hs
  (repeat (first | (simp (disch := first | omega | assumption | exact Option.isSome_some | (simp only [adO_isSome]; assumption)) only [↓vcp, vcs, vct, if_true, if_false, Nat.reduceBEq, ↓reduceIte, Nat.reduceEqDiff, Nat.reduceAdd, Nat.reduceMul, Nat.reduceSub, Int.reduceToNat, reduceCtorEq, Nat.reduceLT, Nat.reduceLeDiff, Int.reduceSub, Int.reduceAdd, Int.reduceNeg, Sat.look hs, Sat.lookA hs]) | (refine khK he hs ?_; clear he; intro he) | ((first | refine stK hs ?_ | refine stFK hs ?_ | refine stAK hs ?_ | refine msK hs ?_); clear hs; (try clear w); rintro w hs; try simp only [cls] at hs) | ((first | refine al_ok hs ?_ | refine bx_ok hs ?_ | refine bsvK hs ?_ | refine bs1_ok hs ?_ | refine bs0_ok hs ?_); clear hs; (try clear w); rintro _ w hs; try simp only [cls] at hs)))
  have q2 := inBase58_calls w a1 c1 B hs.ro hc1 (by omega) hno
  generalize enc58 B = T at *
  refine call_ok (by kernel_rfl) (q2) ?_; rintro _ w2 ⟨rfl, hb⟩; rw [callK_ret]; replace hs := Sat.add hs (Below.sat hb); clear hb; (try clear w); rename World => w; try simp only [cls] at hs
  (repeat (first | (simp (disch := first | omega | assumption | exact Option.isSome_some | (simp only [adO_isSome]; assumption)) only [↓vcp, vcs, vct, if_true, if_false, Nat.reduceBEq, ↓reduceIte, Nat.reduceEqDiff, Nat.reduceAdd, Nat.reduceMul, Nat.reduceSub, Int.reduceToNat, reduceCtorEq, Nat.reduceLT, Nat.reduceLeDiff, Int.reduceSub, Int.reduceAdd, Int.reduceNeg, Sat.look hs, Sat.lookA hs]) | (refine khK he hs ?_; clear he; intro he) | ((first | refine stK hs ?_ | refine stFK hs ?_ | refine stAK hs ?_ | refine msK hs ?_); clear hs; (try clear w); rintro w hs; try simp only [cls] at hs) | ((first | refine al_ok hs ?_ | refine bx_ok hs ?_ | refine bsvK hs ?_ | refine bs1_ok hs ?_ | refine bs0_ok hs ?_); clear hs; (try clear w); rintro _ w hs; try simp only [cls] at hs)))
  exact ret_tmp2 rfl (hR _ _ ⟨rfl, hs.belowAt⟩)
theorem ParseText_calls (w0 : World) (s : List UInt8) (hl : s.length ≤ 9223372036854775807) :
    Calls Tryd.prog 16 #[.string ⟨s.toArray⟩] w0 fun e w' => e = .returned (.tuple #[.agg (lptext s).1.fs.toArray, .int .i64 (lptext s).2]) ∧ Below w0.heap.size w0 w' := by
  refine calls_vc Tryd.func16 rfl (by kernel_rfl) (by kernel_rfl) ?_; intro R hR
  have hs := Sat.start w0
  have hz : zeroLk.fs = [.int .i64 0, .int .u64 0, .int .u64 0, .string ⟨#[]⟩] := rfl
  have hsz : (ByteArray.mk s.toArray).size = s.length := ba_size s
  unfold lptext at hR
  by_cases hlong : 153 < s.length
  · rw [if_pos hlong] at hR
    dsimp only at hR
    rw [hz] at hR
    (repeat (first | (simp (disch := first | omega | assumption | exact Option.isSome_some | (simp only [adO_isSome]; assumption)) only [↓vcp, vcs, vct, if_true, if_false, Nat.reduceBEq, ↓reduceIte, Nat.reduceEqDiff, Nat.reduceAdd, Nat.reduceMul, Nat.reduceSub, Int.reduceToNat, reduceCtorEq, Nat.reduceLT, Nat.reduceLeDiff, Int.reduceSub, Int.reduceAdd, Int.reduceNeg, Sat.look hs, Sat.lookA hs, hsz]) | (refine khK he hs ?_; clear he; intro he) | ((first | refine stK hs ?_ | refine stFK hs ?_ | refine stAK hs ?_ | refine msK hs ?_); clear hs; (try clear w); rintro w hs; try simp only [cls] at hs) | ((first | refine al_ok hs ?_ | refine bx_ok hs ?_ | refine bsvK hs ?_ | refine bs1_ok hs ?_ | refine bs0_ok hs ?_); clear hs; (try clear w); rintro _ w hs; try simp only [cls] at hs)))
    exact ret_cellT (sz := 4) rfl (by rfl) (hs.cellsBk 0 rfl rfl (by omega)) (hR _ _ ⟨rfl, hs.belowAt⟩)
  rw [if_neg hlong] at hR
  cases s with
  | nil =>
    dsimp only at hR
    rw [hz] at hR
    (repeat (first | (simp (disch := first | omega | assumption | exact Option.isSome_some | (simp only [adO_isSome]; assumption)) only [↓vcp, vcs, vct, if_true, if_false, Nat.reduceBEq, ↓reduceIte, Nat.reduceEqDiff, Nat.reduceAdd, Nat.reduceMul, Nat.reduceSub, Int.reduceToNat, reduceCtorEq, Nat.reduceLT, Nat.reduceLeDiff, Int.reduceSub, Int.reduceAdd, Int.reduceNeg, Sat.look hs, Sat.lookA hs, hsz]) | (refine khK he hs ?_; clear he; intro he) | ((first | refine stK hs ?_ | refine stFK hs ?_ | refine stAK hs ?_ | refine msK hs ?_); clear hs; (try clear w); rintro w hs; try simp only [cls] at hs) | ((first | refine al_ok hs ?_ | refine bx_ok hs ?_ | refine bsvK hs ?_ | refine bs1_ok hs ?_ | refine bs0_ok hs ?_); clear hs; (try clear w); rintro _ w hs; try simp only [cls] at hs)))
    exact ret_cellT (sz := 4) rfl (by rfl) (hs.cellsBk 0 rfl rfl (by omega)) (hR _ _ ⟨rfl, hs.belowAt⟩)
  | cons x t =>
    have hne : (ByteArray.mk (x :: t).toArray = ByteArray.mk #[]) = False := by simp
    have hbt : bt ⟨(x :: t).toArray⟩ 0 = (x.toNat : Int) := by rw [bt_list _ 0 (by simp)]; rfl
    have hsz : (ByteArray.mk (x :: t).toArray).size = t.length + 1 := by rw [ba_size]; rfl
    have hlen : ((x :: t : List UInt8).length : Int) = (t.length : Int) + 1 := by simp
    have hlen2 : (x :: t : List UInt8).length = t.length + 1 := by simp
    dsimp only at hR
    have hx256 := x.toNat_lt
    have htl : t.length ≤ 152 := by rw [hlen2] at hlong; omega
    by_cases h81 : x = 81
    · rw [if_pos h81] at hR
      subst h81
      have hx : ((81 : UInt8).toNat : Int) = 81 := rfl
      (repeat (first | (simp (disch := first | omega | assumption | exact Option.isSome_some | (simp only [adO_isSome]; assumption)) only [↓vcp, vcs, vct, if_true, if_false, Nat.reduceBEq, ↓reduceIte, Nat.reduceEqDiff, Nat.reduceAdd, Nat.reduceMul, Nat.reduceSub, Int.reduceToNat, reduceCtorEq, Nat.reduceLT, Nat.reduceLeDiff, Int.reduceSub, Int.reduceAdd, Int.reduceNeg, Sat.look hs, Sat.lookA hs, hsz, hne, hbt, hx]) | (refine khK he hs ?_; clear he; intro he) | ((first | refine stK hs ?_ | refine stFK hs ?_ | refine stAK hs ?_ | refine msK hs ?_); clear hs; (try clear w); rintro w hs; try simp only [cls] at hs) | ((first | refine al_ok hs ?_ | refine bx_ok hs ?_ | refine bsvK hs ?_ | refine bs1_ok hs ?_ | refine bs0_ok hs ?_); clear hs; (try clear w); rintro _ w hs; try simp only [cls] at hs)))
      have q1 := fromBase58_calls w (81 :: t) (by rw [hlen2]; omega)
      have hrl : (dec58 (81 :: t)).1.length ≤ 153 := Nat.le_trans (dec58_len _) (by rw [hlen2]; omega)
      refine call_ok (by kernel_rfl) (q1) ?_; rintro _ w2 ⟨a1, c1, rfl, hc1, hb⟩; rw [callK_ret]; replace hs := Sat.add hs hb; clear hb; (try clear w); rename World => w; try simp only [cls] at hs
      clear q1
      generalize dec58 (81 :: t) = r at *
      obtain ⟨B, g⟩ := r
      dsimp only at hc1 hs hrl
      unfold lrd at hR
      cases g with
      | false =>
        rw [if_pos rfl] at hR
        dsimp only at hR
        rw [hz] at hR
        (repeat (first | (simp (disch := first | omega | assumption | exact Option.isSome_some | (simp only [adO_isSome]; assumption)) only [↓vcp, vcs, vct, if_true, if_false, Nat.reduceBEq, ↓reduceIte, Nat.reduceEqDiff, Nat.reduceAdd, Nat.reduceMul, Nat.reduceSub, Int.reduceToNat, reduceCtorEq, Nat.reduceLT, Nat.reduceLeDiff, Int.reduceSub, Int.reduceAdd, Int.reduceNeg, Sat.look hs, Sat.lookA hs]) | (refine khK he hs ?_; clear he; intro he) | ((first | refine stK hs ?_ | refine stFK hs ?_ | refine stAK hs ?_ | refine msK hs ?_); clear hs; (try clear w); rintro w hs; try simp only [cls] at hs) | ((first | refine al_ok hs ?_ | refine bx_ok hs ?_ | refine bsvK hs ?_ | refine bs1_ok hs ?_ | refine bs0_ok hs ?_); clear hs; (try clear w); rintro _ w hs; try simp only [cls] at hs)))
        exact ret_cellT (sz := 4) rfl (by rfl) (hs.cellsBk 0 rfl rfl (by omega)) (hR _ _ ⟨rfl, hs.belowAt⟩)
      | true =>
        rw [if_neg (by simp)] at hR
        dsimp only at hR
        (repeat (first | (simp (disch := first | omega | assumption | exact Option.isSome_some | (simp only [adO_isSome]; assumption)) only [↓vcp, vcs, vct, if_true, if_false, Nat.reduceBEq, ↓reduceIte, Nat.reduceEqDiff, Nat.reduceAdd, Nat.reduceMul, Nat.reduceSub, Int.reduceToNat, reduceCtorEq, Nat.reduceLT, Nat.reduceLeDiff, Int.reduceSub, Int.reduceAdd, Int.reduceNeg, Sat.look hs, Sat.lookA hs]) | (refine khK he hs ?_; clear he; intro he) | ((first | refine stK hs ?_ | refine stFK hs ?_ | refine stAK hs ?_ | refine msK hs ?_); clear hs; (try clear w); rintro w hs; try simp only [cls] at hs) | ((first | refine al_ok hs ?_ | refine bx_ok hs ?_ | refine bsvK hs ?_ | refine bs1_ok hs ?_ | refine bs0_ok hs ?_); clear hs; (try clear w); rintro _ w hs; try simp only [cls] at hs)))
        have q2 := Parse_calls w a1 c1 B hs.ro hc1 (by omega)
        generalize lparse B = Pr at *
        obtain ⟨⟨lv, lc, lh, ld⟩, e⟩ := Pr
        unfold Lk.fs at q2
        dsimp only at q2 hR
        refine call_ok (by kernel_rfl) (q2) ?_; rintro _ w2 ⟨rfl, hb⟩; rw [callK_ret]; replace hs := Sat.add hs (Below.sat hb); clear hb; (try clear w); rename World => w; try simp only [cls] at hs
        clear q2
        by_cases he : e = 0
        · rw [if_neg (by omega)] at hR
          by_cases hlv : lv = 0
          · rw [if_neg (by omega)] at hR
            unfold Lk.fs at hR
            dsimp only at hR
            (repeat (first | (simp (disch := first | omega | assumption | exact Option.isSome_some | (simp only [adO_isSome]; assumption)) only [↓vcp, vcs, vct, if_true, if_false, Nat.reduceBEq, ↓reduceIte, Nat.reduceEqDiff, Nat.reduceAdd, Nat.reduceMul, Nat.reduceSub, Int.reduceToNat, reduceCtorEq, Nat.reduceLT, Nat.reduceLeDiff, Int.reduceSub, Int.reduceAdd, Int.reduceNeg, Sat.look hs, Sat.lookA hs]) | (refine khK he hs ?_; clear he; intro he) | ((first | refine stK hs ?_ | refine stFK hs ?_ | refine stAK hs ?_ | refine msK hs ?_); clear hs; (try clear w); rintro w hs; try simp only [cls] at hs) | ((first | refine al_ok hs ?_ | refine bx_ok hs ?_ | refine bsvK hs ?_ | refine bs1_ok hs ?_ | refine bs0_ok hs ?_); clear hs; (try clear w); rintro _ w hs; try simp only [cls] at hs)))
            exact ret_cellT (sz := 4) rfl (by rfl) (hs.cellsBk 0 rfl rfl (by omega)) (hR _ _ ⟨rfl, hs.belowAt⟩)
          · rw [if_pos hlv] at hR
            dsimp only at hR
            rw [hz] at hR
            (repeat (first | (simp (disch := first | omega | assumption | exact Option.isSome_some | (simp only [adO_isSome]; assumption)) only [↓vcp, vcs, vct, if_true, if_false, Nat.reduceBEq, ↓reduceIte, Nat.reduceEqDiff, Nat.reduceAdd, Nat.reduceMul, Nat.reduceSub, Int.reduceToNat, reduceCtorEq, Nat.reduceLT, Nat.reduceLeDiff, Int.reduceSub, Int.reduceAdd, Int.reduceNeg, Sat.look hs, Sat.lookA hs]) | (refine khK he hs ?_; clear he; intro he) | ((first | refine stK hs ?_ | refine stFK hs ?_ | refine stAK hs ?_ | refine msK hs ?_); clear hs; (try clear w); rintro w hs; try simp only [cls] at hs) | ((first | refine al_ok hs ?_ | refine bx_ok hs ?_ | refine bsvK hs ?_ | refine bs1_ok hs ?_ | refine bs0_ok hs ?_); clear hs; (try clear w); rintro _ w hs; try simp only [cls] at hs)))
            exact ret_cellT (sz := 4) rfl (by rfl) (hs.cellsBk 0 rfl rfl (by omega)) (hR _ _ ⟨rfl, hs.belowAt⟩)
        · rw [if_pos he] at hR
          dsimp only at hR
          rw [hz] at hR
          (repeat (first | (simp (disch := first | omega | assumption | exact Option.isSome_some | (simp only [adO_isSome]; assumption)) only [↓vcp, vcs, vct, if_true, if_false, Nat.reduceBEq, ↓reduceIte, Nat.reduceEqDiff, Nat.reduceAdd, Nat.reduceMul, Nat.reduceSub, Int.reduceToNat, reduceCtorEq, Nat.reduceLT, Nat.reduceLeDiff, Int.reduceSub, Int.reduceAdd, Int.reduceNeg, Sat.look hs, Sat.lookA hs]) | (refine khK he hs ?_; clear he; intro he) | ((first | refine stK hs ?_ | refine stFK hs ?_ | refine stAK hs ?_ | refine msK hs ?_); clear hs; (try clear w); rintro w hs; try simp only [cls] at hs) | ((first | refine al_ok hs ?_ | refine bx_ok hs ?_ | refine bsvK hs ?_ | refine bs1_ok hs ?_ | refine bs0_ok hs ?_); clear hs; (try clear w); rintro _ w hs; try simp only [cls] at hs)))
          exact ret_cellT (sz := 4) rfl (by rfl) (hs.cellsBk 0 rfl rfl (by omega)) (hR _ _ ⟨rfl, hs.belowAt⟩)
    have n81 : (x.toNat : Int) ≠ 81 := fun h => h81 (UInt8.toNat_inj.1 (by show x.toNat = 81; omega))
    rw [if_neg h81] at hR
    by_cases h102 : x = 102
    · rw [if_pos h102] at hR
      subst h102
      have hx : ((102 : UInt8).toNat : Int) = 102 := rfl
      (repeat (first | (simp (disch := first | omega | assumption | exact Option.isSome_some | (simp only [adO_isSome]; assumption)) only [↓vcp, vcs, vct, if_true, if_false, Nat.reduceBEq, ↓reduceIte, Nat.reduceEqDiff, Nat.reduceAdd, Nat.reduceMul, Nat.reduceSub, Int.reduceToNat, reduceCtorEq, Nat.reduceLT, Nat.reduceLeDiff, Int.reduceSub, Int.reduceAdd, Int.reduceNeg, Sat.look hs, Sat.lookA hs, hsz, hne, hbt, hx]) | (refine khK he hs ?_; clear he; intro he) | ((first | refine stK hs ?_ | refine stFK hs ?_ | refine stAK hs ?_ | refine msK hs ?_); clear hs; (try clear w); rintro w hs; try simp only [cls] at hs) | ((first | refine al_ok hs ?_ | refine bx_ok hs ?_ | refine bsvK hs ?_ | refine bs1_ok hs ?_ | refine bs0_ok hs ?_); clear hs; (try clear w); rintro _ w hs; try simp only [cls] at hs)))
      rw [m_sliceStr (102 :: t) .i64 1 (by omega) (by simp only [List.length_cons]; omega), show List.drop (Int.toNat 1) (102 :: t) = t from rfl]
      (repeat (first | (simp (disch := first | omega | assumption | exact Option.isSome_some | (simp only [adO_isSome]; assumption)) only [↓vcp, vcs, vct, if_true, if_false, Nat.reduceBEq, ↓reduceIte, Nat.reduceEqDiff, Nat.reduceAdd, Nat.reduceMul, Nat.reduceSub, Int.reduceToNat, reduceCtorEq, Nat.reduceLT, Nat.reduceLeDiff, Int.reduceSub, Int.reduceAdd, Int.reduceNeg, Sat.look hs, Sat.lookA hs]) | (refine khK he hs ?_; clear he; intro he) | ((first | refine stK hs ?_ | refine stFK hs ?_ | refine stAK hs ?_ | refine msK hs ?_); clear hs; (try clear w); rintro w hs; try simp only [cls] at hs) | ((first | refine al_ok hs ?_ | refine bx_ok hs ?_ | refine bsvK hs ?_ | refine bs1_ok hs ?_ | refine bs0_ok hs ?_); clear hs; (try clear w); rintro _ w hs; try simp only [cls] at hs)))
      have q1 := gather_calls w t d16 4 (by decide) (by decide) (by decide) (by omega)
      have hrl : (gatherL 4 d16 t).1.length ≤ 153 := Nat.le_trans (gatherL_len 4 d16 t) (by omega)
      refine call_ok (by kernel_rfl) (q1) ?_; rintro _ w2 ⟨a1, c1, rfl, hc1, hb⟩; rw [callK_ret]; replace hs := Sat.add hs hb; clear hb; (try clear w); rename World => w; try simp only [cls] at hs
      clear q1
      generalize gatherL 4 d16 t = r at *
      obtain ⟨B, g⟩ := r
      dsimp only at hc1 hs hrl
      unfold lrd at hR
      cases g with
      | false =>
        rw [if_pos rfl] at hR
        dsimp only at hR
        rw [hz] at hR
        (repeat (first | (simp (disch := first | omega | assumption | exact Option.isSome_some | (simp only [adO_isSome]; assumption)) only [↓vcp, vcs, vct, if_true, if_false, Nat.reduceBEq, ↓reduceIte, Nat.reduceEqDiff, Nat.reduceAdd, Nat.reduceMul, Nat.reduceSub, Int.reduceToNat, reduceCtorEq, Nat.reduceLT, Nat.reduceLeDiff, Int.reduceSub, Int.reduceAdd, Int.reduceNeg, Sat.look hs, Sat.lookA hs]) | (refine khK he hs ?_; clear he; intro he) | ((first | refine stK hs ?_ | refine stFK hs ?_ | refine stAK hs ?_ | refine msK hs ?_); clear hs; (try clear w); rintro w hs; try simp only [cls] at hs) | ((first | refine al_ok hs ?_ | refine bx_ok hs ?_ | refine bsvK hs ?_ | refine bs1_ok hs ?_ | refine bs0_ok hs ?_); clear hs; (try clear w); rintro _ w hs; try simp only [cls] at hs)))
        exact ret_cellT (sz := 4) rfl (by rfl) (hs.cellsBk 0 rfl rfl (by omega)) (hR _ _ ⟨rfl, hs.belowAt⟩)
      | true =>
        rw [if_neg (by simp)] at hR
        dsimp only at hR
        (repeat (first | (simp (disch := first | omega | assumption | exact Option.isSome_some | (simp only [adO_isSome]; assumption)) only [↓vcp, vcs, vct, if_true, if_false, Nat.reduceBEq, ↓reduceIte, Nat.reduceEqDiff, Nat.reduceAdd, Nat.reduceMul, Nat.reduceSub, Int.reduceToNat, reduceCtorEq, Nat.reduceLT, Nat.reduceLeDiff, Int.reduceSub, Int.reduceAdd, Int.reduceNeg, Sat.look hs, Sat.lookA hs]) | (refine khK he hs ?_; clear he; intro he) | ((first | refine stK hs ?_ | refine stFK hs ?_ | refine stAK hs ?_ | refine msK hs ?_); clear hs; (try clear w); rintro w hs; try simp only [cls] at hs) | ((first | refine al_ok hs ?_ | refine bx_ok hs ?_ | refine bsvK hs ?_ | refine bs1_ok hs ?_ | refine bs0_ok hs ?_); clear hs; (try clear w); rintro _ w hs; try simp only [cls] at hs)))
        have q2 := Parse_calls w a1 c1 B hs.ro hc1 (by omega)
        generalize lparse B = Pr at *
        obtain ⟨⟨lv, lc, lh, ld⟩, e⟩ := Pr
        unfold Lk.fs at q2
        dsimp only at q2 hR
        refine call_ok (by kernel_rfl) (q2) ?_; rintro _ w2 ⟨rfl, hb⟩; rw [callK_ret]; replace hs := Sat.add hs (Below.sat hb); clear hb; (try clear w); rename World => w; try simp only [cls] at hs
        clear q2
        by_cases he : e = 0
        · rw [if_neg (by omega)] at hR
          by_cases hlv : lv = 1
          · rw [if_neg (by omega)] at hR
            unfold Lk.fs at hR
            dsimp only at hR
            (repeat (first | (simp (disch := first | omega | assumption | exact Option.isSome_some | (simp only [adO_isSome]; assumption)) only [↓vcp, vcs, vct, if_true, if_false, Nat.reduceBEq, ↓reduceIte, Nat.reduceEqDiff, Nat.reduceAdd, Nat.reduceMul, Nat.reduceSub, Int.reduceToNat, reduceCtorEq, Nat.reduceLT, Nat.reduceLeDiff, Int.reduceSub, Int.reduceAdd, Int.reduceNeg, Sat.look hs, Sat.lookA hs]) | (refine khK he hs ?_; clear he; intro he) | ((first | refine stK hs ?_ | refine stFK hs ?_ | refine stAK hs ?_ | refine msK hs ?_); clear hs; (try clear w); rintro w hs; try simp only [cls] at hs) | ((first | refine al_ok hs ?_ | refine bx_ok hs ?_ | refine bsvK hs ?_ | refine bs1_ok hs ?_ | refine bs0_ok hs ?_); clear hs; (try clear w); rintro _ w hs; try simp only [cls] at hs)))
            exact ret_cellT (sz := 4) rfl (by rfl) (hs.cellsBk 0 rfl rfl (by omega)) (hR _ _ ⟨rfl, hs.belowAt⟩)
          · rw [if_pos hlv] at hR
            dsimp only at hR
            rw [hz] at hR
            (repeat (first | (simp (disch := first | omega | assumption | exact Option.isSome_some | (simp only [adO_isSome]; assumption)) only [↓vcp, vcs, vct, if_true, if_false, Nat.reduceBEq, ↓reduceIte, Nat.reduceEqDiff, Nat.reduceAdd, Nat.reduceMul, Nat.reduceSub, Int.reduceToNat, reduceCtorEq, Nat.reduceLT, Nat.reduceLeDiff, Int.reduceSub, Int.reduceAdd, Int.reduceNeg, Sat.look hs, Sat.lookA hs]) | (refine khK he hs ?_; clear he; intro he) | ((first | refine stK hs ?_ | refine stFK hs ?_ | refine stAK hs ?_ | refine msK hs ?_); clear hs; (try clear w); rintro w hs; try simp only [cls] at hs) | ((first | refine al_ok hs ?_ | refine bx_ok hs ?_ | refine bsvK hs ?_ | refine bs1_ok hs ?_ | refine bs0_ok hs ?_); clear hs; (try clear w); rintro _ w hs; try simp only [cls] at hs)))
            exact ret_cellT (sz := 4) rfl (by rfl) (hs.cellsBk 0 rfl rfl (by omega)) (hR _ _ ⟨rfl, hs.belowAt⟩)
        · rw [if_pos he] at hR
          dsimp only at hR
          rw [hz] at hR
          (repeat (first | (simp (disch := first | omega | assumption | exact Option.isSome_some | (simp only [adO_isSome]; assumption)) only [↓vcp, vcs, vct, if_true, if_false, Nat.reduceBEq, ↓reduceIte, Nat.reduceEqDiff, Nat.reduceAdd, Nat.reduceMul, Nat.reduceSub, Int.reduceToNat, reduceCtorEq, Nat.reduceLT, Nat.reduceLeDiff, Int.reduceSub, Int.reduceAdd, Int.reduceNeg, Sat.look hs, Sat.lookA hs]) | (refine khK he hs ?_; clear he; intro he) | ((first | refine stK hs ?_ | refine stFK hs ?_ | refine stAK hs ?_ | refine msK hs ?_); clear hs; (try clear w); rintro w hs; try simp only [cls] at hs) | ((first | refine al_ok hs ?_ | refine bx_ok hs ?_ | refine bsvK hs ?_ | refine bs1_ok hs ?_ | refine bs0_ok hs ?_); clear hs; (try clear w); rintro _ w hs; try simp only [cls] at hs)))
          exact ret_cellT (sz := 4) rfl (by rfl) (hs.cellsBk 0 rfl rfl (by omega)) (hR _ _ ⟨rfl, hs.belowAt⟩)
    have n102 : (x.toNat : Int) ≠ 102 := fun h => h102 (UInt8.toNat_inj.1 (by show x.toNat = 102; omega))
    rw [if_neg h102] at hR
    by_cases h98 : x = 98
    · rw [if_pos h98] at hR
      subst h98
      have hx : ((98 : UInt8).toNat : Int) = 98 := rfl
      (repeat (first | (simp (disch := first | omega | assumption | exact Option.isSome_some | (simp only [adO_isSome]; assumption)) only [↓vcp, vcs, vct, if_true, if_false, Nat.reduceBEq, ↓reduceIte, Nat.reduceEqDiff, Nat.reduceAdd, Nat.reduceMul, Nat.reduceSub, Int.reduceToNat, reduceCtorEq, Nat.reduceLT, Nat.reduceLeDiff, Int.reduceSub, Int.reduceAdd, Int.reduceNeg, Sat.look hs, Sat.lookA hs, hsz, hne, hbt, hx]) | (refine khK he hs ?_; clear he; intro he) | ((first | refine stK hs ?_ | refine stFK hs ?_ | refine stAK hs ?_ | refine msK hs ?_); clear hs; (try clear w); rintro w hs; try simp only [cls] at hs) | ((first | refine al_ok hs ?_ | refine bx_ok hs ?_ | refine bsvK hs ?_ | refine bs1_ok hs ?_ | refine bs0_ok hs ?_); clear hs; (try clear w); rintro _ w hs; try simp only [cls] at hs)))
      rw [m_sliceStr (98 :: t) .i64 1 (by omega) (by simp only [List.length_cons]; omega), show List.drop (Int.toNat 1) (98 :: t) = t from rfl]
      (repeat (first | (simp (disch := first | omega | assumption | exact Option.isSome_some | (simp only [adO_isSome]; assumption)) only [↓vcp, vcs, vct, if_true, if_false, Nat.reduceBEq, ↓reduceIte, Nat.reduceEqDiff, Nat.reduceAdd, Nat.reduceMul, Nat.reduceSub, Int.reduceToNat, reduceCtorEq, Nat.reduceLT, Nat.reduceLeDiff, Int.reduceSub, Int.reduceAdd, Int.reduceNeg, Sat.look hs, Sat.lookA hs]) | (refine khK he hs ?_; clear he; intro he) | ((first | refine stK hs ?_ | refine stFK hs ?_ | refine stAK hs ?_ | refine msK hs ?_); clear hs; (try clear w); rintro w hs; try simp only [cls] at hs) | ((first | refine al_ok hs ?_ | refine bx_ok hs ?_ | refine bsvK hs ?_ | refine bs1_ok hs ?_ | refine bs0_ok hs ?_); clear hs; (try clear w); rintro _ w hs; try simp only [cls] at hs)))
      have q1 := gather_calls w t d32 5 (by decide) (by decide) (by decide) (by omega)
      have hrl : (gatherL 5 d32 t).1.length ≤ 153 := Nat.le_trans (gatherL_len 5 d32 t) (by omega)
      refine call_ok (by kernel_rfl) (q1) ?_; rintro _ w2 ⟨a1, c1, rfl, hc1, hb⟩; rw [callK_ret]; replace hs := Sat.add hs hb; clear hb; (try clear w); rename World => w; try simp only [cls] at hs
      clear q1
      generalize gatherL 5 d32 t = r at *
      obtain ⟨B, g⟩ := r
      dsimp only at hc1 hs hrl
      unfold lrd at hR
      cases g with
      | false =>
        rw [if_pos rfl] at hR
        dsimp only at hR
        rw [hz] at hR
        (repeat (first | (simp (disch := first | omega | assumption | exact Option.isSome_some | (simp only [adO_isSome]; assumption)) only [↓vcp, vcs, vct, if_true, if_false, Nat.reduceBEq, ↓reduceIte, Nat.reduceEqDiff, Nat.reduceAdd, Nat.reduceMul, Nat.reduceSub, Int.reduceToNat, reduceCtorEq, Nat.reduceLT, Nat.reduceLeDiff, Int.reduceSub, Int.reduceAdd, Int.reduceNeg, Sat.look hs, Sat.lookA hs]) | (refine khK he hs ?_; clear he; intro he) | ((first | refine stK hs ?_ | refine stFK hs ?_ | refine stAK hs ?_ | refine msK hs ?_); clear hs; (try clear w); rintro w hs; try simp only [cls] at hs) | ((first | refine al_ok hs ?_ | refine bx_ok hs ?_ | refine bsvK hs ?_ | refine bs1_ok hs ?_ | refine bs0_ok hs ?_); clear hs; (try clear w); rintro _ w hs; try simp only [cls] at hs)))
        exact ret_cellT (sz := 4) rfl (by rfl) (hs.cellsBk 0 rfl rfl (by omega)) (hR _ _ ⟨rfl, hs.belowAt⟩)
      | true =>
        rw [if_neg (by simp)] at hR
        dsimp only at hR
        (repeat (first | (simp (disch := first | omega | assumption | exact Option.isSome_some | (simp only [adO_isSome]; assumption)) only [↓vcp, vcs, vct, if_true, if_false, Nat.reduceBEq, ↓reduceIte, Nat.reduceEqDiff, Nat.reduceAdd, Nat.reduceMul, Nat.reduceSub, Int.reduceToNat, reduceCtorEq, Nat.reduceLT, Nat.reduceLeDiff, Int.reduceSub, Int.reduceAdd, Int.reduceNeg, Sat.look hs, Sat.lookA hs]) | (refine khK he hs ?_; clear he; intro he) | ((first | refine stK hs ?_ | refine stFK hs ?_ | refine stAK hs ?_ | refine msK hs ?_); clear hs; (try clear w); rintro w hs; try simp only [cls] at hs) | ((first | refine al_ok hs ?_ | refine bx_ok hs ?_ | refine bsvK hs ?_ | refine bs1_ok hs ?_ | refine bs0_ok hs ?_); clear hs; (try clear w); rintro _ w hs; try simp only [cls] at hs)))
        have q2 := Parse_calls w a1 c1 B hs.ro hc1 (by omega)
        generalize lparse B = Pr at *
        obtain ⟨⟨lv, lc, lh, ld⟩, e⟩ := Pr
        unfold Lk.fs at q2
        dsimp only at q2 hR
        refine call_ok (by kernel_rfl) (q2) ?_; rintro _ w2 ⟨rfl, hb⟩; rw [callK_ret]; replace hs := Sat.add hs (Below.sat hb); clear hb; (try clear w); rename World => w; try simp only [cls] at hs
        clear q2
        by_cases he : e = 0
        · rw [if_neg (by omega)] at hR
          by_cases hlv : lv = 1
          · rw [if_neg (by omega)] at hR
            unfold Lk.fs at hR
            dsimp only at hR
            (repeat (first | (simp (disch := first | omega | assumption | exact Option.isSome_some | (simp only [adO_isSome]; assumption)) only [↓vcp, vcs, vct, if_true, if_false, Nat.reduceBEq, ↓reduceIte, Nat.reduceEqDiff, Nat.reduceAdd, Nat.reduceMul, Nat.reduceSub, Int.reduceToNat, reduceCtorEq, Nat.reduceLT, Nat.reduceLeDiff, Int.reduceSub, Int.reduceAdd, Int.reduceNeg, Sat.look hs, Sat.lookA hs]) | (refine khK he hs ?_; clear he; intro he) | ((first | refine stK hs ?_ | refine stFK hs ?_ | refine stAK hs ?_ | refine msK hs ?_); clear hs; (try clear w); rintro w hs; try simp only [cls] at hs) | ((first | refine al_ok hs ?_ | refine bx_ok hs ?_ | refine bsvK hs ?_ | refine bs1_ok hs ?_ | refine bs0_ok hs ?_); clear hs; (try clear w); rintro _ w hs; try simp only [cls] at hs)))
            exact ret_cellT (sz := 4) rfl (by rfl) (hs.cellsBk 0 rfl rfl (by omega)) (hR _ _ ⟨rfl, hs.belowAt⟩)
          · rw [if_pos hlv] at hR
            dsimp only at hR
            rw [hz] at hR
            (repeat (first | (simp (disch := first | omega | assumption | exact Option.isSome_some | (simp only [adO_isSome]; assumption)) only [↓vcp, vcs, vct, if_true, if_false, Nat.reduceBEq, ↓reduceIte, Nat.reduceEqDiff, Nat.reduceAdd, Nat.reduceMul, Nat.reduceSub, Int.reduceToNat, reduceCtorEq, Nat.reduceLT, Nat.reduceLeDiff, Int.reduceSub, Int.reduceAdd, Int.reduceNeg, Sat.look hs, Sat.lookA hs]) | (refine khK he hs ?_; clear he; intro he) | ((first | refine stK hs ?_ | refine stFK hs ?_ | refine stAK hs ?_ | refine msK hs ?_); clear hs; (try clear w); rintro w hs; try simp only [cls] at hs) | ((first | refine al_ok hs ?_ | refine bx_ok hs ?_ | refine bsvK hs ?_ | refine bs1_ok hs ?_ | refine bs0_ok hs ?_); clear hs; (try clear w); rintro _ w hs; try simp only [cls] at hs)))
            exact ret_cellT (sz := 4) rfl (by rfl) (hs.cellsBk 0 rfl rfl (by omega)) (hR _ _ ⟨rfl, hs.belowAt⟩)
        · rw [if_pos he] at hR
          dsimp only at hR
          rw [hz] at hR
          (repeat (first | (simp (disch := first | omega | assumption | exact Option.isSome_some | (simp only [adO_isSome]; assumption)) only [↓vcp, vcs, vct, if_true, if_false, Nat.reduceBEq, ↓reduceIte, Nat.reduceEqDiff, Nat.reduceAdd, Nat.reduceMul, Nat.reduceSub, Int.reduceToNat, reduceCtorEq, Nat.reduceLT, Nat.reduceLeDiff, Int.reduceSub, Int.reduceAdd, Int.reduceNeg, Sat.look hs, Sat.lookA hs]) | (refine khK he hs ?_; clear he; intro he) | ((first | refine stK hs ?_ | refine stFK hs ?_ | refine stAK hs ?_ | refine msK hs ?_); clear hs; (try clear w); rintro w hs; try simp only [cls] at hs) | ((first | refine al_ok hs ?_ | refine bx_ok hs ?_ | refine bsvK hs ?_ | refine bs1_ok hs ?_ | refine bs0_ok hs ?_); clear hs; (try clear w); rintro _ w hs; try simp only [cls] at hs)))
          exact ret_cellT (sz := 4) rfl (by rfl) (hs.cellsBk 0 rfl rfl (by omega)) (hR _ _ ⟨rfl, hs.belowAt⟩)
    have n98 : (x.toNat : Int) ≠ 98 := fun h => h98 (UInt8.toNat_inj.1 (by show x.toNat = 98; omega))
    rw [if_neg h98] at hR
    by_cases h122 : x = 122
    · rw [if_pos h122] at hR
      subst h122
      have hx : ((122 : UInt8).toNat : Int) = 122 := rfl
      (repeat (first | (simp (disch := first | omega | assumption | exact Option.isSome_some | (simp only [adO_isSome]; assumption)) only [↓vcp, vcs, vct, if_true, if_false, Nat.reduceBEq, ↓reduceIte, Nat.reduceEqDiff, Nat.reduceAdd, Nat.reduceMul, Nat.reduceSub, Int.reduceToNat, reduceCtorEq, Nat.reduceLT, Nat.reduceLeDiff, Int.reduceSub, Int.reduceAdd, Int.reduceNeg, Sat.look hs, Sat.lookA hs, hsz, hne, hbt, hx]) | (refine khK he hs ?_; clear he; intro he) | ((first | refine stK hs ?_ | refine stFK hs ?_ | refine stAK hs ?_ | refine msK hs ?_); clear hs; (try clear w); rintro w hs; try simp only [cls] at hs) | ((first | refine al_ok hs ?_ | refine bx_ok hs ?_ | refine bsvK hs ?_ | refine bs1_ok hs ?_ | refine bs0_ok hs ?_); clear hs; (try clear w); rintro _ w hs; try simp only [cls] at hs)))
      rw [m_sliceStr (122 :: t) .i64 1 (by omega) (by simp only [List.length_cons]; omega), show List.drop (Int.toNat 1) (122 :: t) = t from rfl]
      (repeat (first | (simp (disch := first | omega | assumption | exact Option.isSome_some | (simp only [adO_isSome]; assumption)) only [↓vcp, vcs, vct, if_true, if_false, Nat.reduceBEq, ↓reduceIte, Nat.reduceEqDiff, Nat.reduceAdd, Nat.reduceMul, Nat.reduceSub, Int.reduceToNat, reduceCtorEq, Nat.reduceLT, Nat.reduceLeDiff, Int.reduceSub, Int.reduceAdd, Int.reduceNeg, Sat.look hs, Sat.lookA hs]) | (refine khK he hs ?_; clear he; intro he) | ((first | refine stK hs ?_ | refine stFK hs ?_ | refine stAK hs ?_ | refine msK hs ?_); clear hs; (try clear w); rintro w hs; try simp only [cls] at hs) | ((first | refine al_ok hs ?_ | refine bx_ok hs ?_ | refine bsvK hs ?_ | refine bs1_ok hs ?_ | refine bs0_ok hs ?_); clear hs; (try clear w); rintro _ w hs; try simp only [cls] at hs)))
      have q1 := fromBase58_calls w t (by omega)
      have hrl : (dec58 t).1.length ≤ 153 := Nat.le_trans (dec58_len _) (by omega)
      refine call_ok (by kernel_rfl) (q1) ?_; rintro _ w2 ⟨a1, c1, rfl, hc1, hb⟩; rw [callK_ret]; replace hs := Sat.add hs hb; clear hb; (try clear w); rename World => w; try simp only [cls] at hs
      clear q1
      generalize dec58 t = r at *
      obtain ⟨B, g⟩ := r
      dsimp only at hc1 hs hrl
      unfold lrd at hR
      cases g with
      | false =>
        rw [if_pos rfl] at hR
        dsimp only at hR
        rw [hz] at hR
        (repeat (first | (simp (disch := first | omega | assumption | exact Option.isSome_some | (simp only [adO_isSome]; assumption)) only [↓vcp, vcs, vct, if_true, if_false, Nat.reduceBEq, ↓reduceIte, Nat.reduceEqDiff, Nat.reduceAdd, Nat.reduceMul, Nat.reduceSub, Int.reduceToNat, reduceCtorEq, Nat.reduceLT, Nat.reduceLeDiff, Int.reduceSub, Int.reduceAdd, Int.reduceNeg, Sat.look hs, Sat.lookA hs]) | (refine khK he hs ?_; clear he; intro he) | ((first | refine stK hs ?_ | refine stFK hs ?_ | refine stAK hs ?_ | refine msK hs ?_); clear hs; (try clear w); rintro w hs; try simp only [cls] at hs) | ((first | refine al_ok hs ?_ | refine bx_ok hs ?_ | refine bsvK hs ?_ | refine bs1_ok hs ?_ | refine bs0_ok hs ?_); clear hs; (try clear w); rintro _ w hs; try simp only [cls] at hs)))
        exact ret_cellT (sz := 4) rfl (by rfl) (hs.cellsBk 0 rfl rfl (by omega)) (hR _ _ ⟨rfl, hs.belowAt⟩)
      | true =>
        rw [if_neg (by simp)] at hR
        dsimp only at hR
        (repeat (first | (simp (disch := first | omega | assumption | exact Option.isSome_some | (simp only [adO_isSome]; assumption)) only [↓vcp, vcs, vct, if_true, if_false, Nat.reduceBEq, ↓reduceIte, Nat.reduceEqDiff, Nat.reduceAdd, Nat.reduceMul, Nat.reduceSub, Int.reduceToNat, reduceCtorEq, Nat.reduceLT, Nat.reduceLeDiff, Int.reduceSub, Int.reduceAdd, Int.reduceNeg, Sat.look hs, Sat.lookA hs]) | (refine khK he hs ?_; clear he; intro he) | ((first | refine stK hs ?_ | refine stFK hs ?_ | refine stAK hs ?_ | refine msK hs ?_); clear hs; (try clear w); rintro w hs; try simp only [cls] at hs) | ((first | refine al_ok hs ?_ | refine bx_ok hs ?_ | refine bsvK hs ?_ | refine bs1_ok hs ?_ | refine bs0_ok hs ?_); clear hs; (try clear w); rintro _ w hs; try simp only [cls] at hs)))
        have q2 := Parse_calls w a1 c1 B hs.ro hc1 (by omega)
        generalize lparse B = Pr at *
        obtain ⟨⟨lv, lc, lh, ld⟩, e⟩ := Pr
        unfold Lk.fs at q2
        dsimp only at q2 hR
        refine call_ok (by kernel_rfl) (q2) ?_; rintro _ w2 ⟨rfl, hb⟩; rw [callK_ret]; replace hs := Sat.add hs (Below.sat hb); clear hb; (try clear w); rename World => w; try simp only [cls] at hs
        clear q2
        by_cases he : e = 0
        · rw [if_neg (by omega)] at hR
          by_cases hlv : lv = 1
          · rw [if_neg (by omega)] at hR
            unfold Lk.fs at hR
            dsimp only at hR
            (repeat (first | (simp (disch := first | omega | assumption | exact Option.isSome_some | (simp only [adO_isSome]; assumption)) only [↓vcp, vcs, vct, if_true, if_false, Nat.reduceBEq, ↓reduceIte, Nat.reduceEqDiff, Nat.reduceAdd, Nat.reduceMul, Nat.reduceSub, Int.reduceToNat, reduceCtorEq, Nat.reduceLT, Nat.reduceLeDiff, Int.reduceSub, Int.reduceAdd, Int.reduceNeg, Sat.look hs, Sat.lookA hs]) | (refine khK he hs ?_; clear he; intro he) | ((first | refine stK hs ?_ | refine stFK hs ?_ | refine stAK hs ?_ | refine msK hs ?_); clear hs; (try clear w); rintro w hs; try simp only [cls] at hs) | ((first | refine al_ok hs ?_ | refine bx_ok hs ?_ | refine bsvK hs ?_ | refine bs1_ok hs ?_ | refine bs0_ok hs ?_); clear hs; (try clear w); rintro _ w hs; try simp only [cls] at hs)))
            exact ret_cellT (sz := 4) rfl (by rfl) (hs.cellsBk 0 rfl rfl (by omega)) (hR _ _ ⟨rfl, hs.belowAt⟩)
          · rw [if_pos hlv] at hR
            dsimp only at hR
            rw [hz] at hR
            (repeat (first | (simp (disch := first | omega | assumption | exact Option.isSome_some | (simp only [adO_isSome]; assumption)) only [↓vcp, vcs, vct, if_true, if_false, Nat.reduceBEq, ↓reduceIte, Nat.reduceEqDiff, Nat.reduceAdd, Nat.reduceMul, Nat.reduceSub, Int.reduceToNat, reduceCtorEq, Nat.reduceLT, Nat.reduceLeDiff, Int.reduceSub, Int.reduceAdd, Int.reduceNeg, Sat.look hs, Sat.lookA hs]) | (refine khK he hs ?_; clear he; intro he) | ((first | refine stK hs ?_ | refine stFK hs ?_ | refine stAK hs ?_ | refine msK hs ?_); clear hs; (try clear w); rintro w hs; try simp only [cls] at hs) | ((first | refine al_ok hs ?_ | refine bx_ok hs ?_ | refine bsvK hs ?_ | refine bs1_ok hs ?_ | refine bs0_ok hs ?_); clear hs; (try clear w); rintro _ w hs; try simp only [cls] at hs)))
            exact ret_cellT (sz := 4) rfl (by rfl) (hs.cellsBk 0 rfl rfl (by omega)) (hR _ _ ⟨rfl, hs.belowAt⟩)
        · rw [if_pos he] at hR
          dsimp only at hR
          rw [hz] at hR
          (repeat (first | (simp (disch := first | omega | assumption | exact Option.isSome_some | (simp only [adO_isSome]; assumption)) only [↓vcp, vcs, vct, if_true, if_false, Nat.reduceBEq, ↓reduceIte, Nat.reduceEqDiff, Nat.reduceAdd, Nat.reduceMul, Nat.reduceSub, Int.reduceToNat, reduceCtorEq, Nat.reduceLT, Nat.reduceLeDiff, Int.reduceSub, Int.reduceAdd, Int.reduceNeg, Sat.look hs, Sat.lookA hs]) | (refine khK he hs ?_; clear he; intro he) | ((first | refine stK hs ?_ | refine stFK hs ?_ | refine stAK hs ?_ | refine msK hs ?_); clear hs; (try clear w); rintro w hs; try simp only [cls] at hs) | ((first | refine al_ok hs ?_ | refine bx_ok hs ?_ | refine bsvK hs ?_ | refine bs1_ok hs ?_ | refine bs0_ok hs ?_); clear hs; (try clear w); rintro _ w hs; try simp only [cls] at hs)))
          exact ret_cellT (sz := 4) rfl (by rfl) (hs.cellsBk 0 rfl rfl (by omega)) (hR _ _ ⟨rfl, hs.belowAt⟩)
    have n122 : (x.toNat : Int) ≠ 122 := fun h => h122 (UInt8.toNat_inj.1 (by show x.toNat = 122; omega))
    rw [if_neg h122] at hR
    dsimp only at hR
    rw [hz] at hR
    (repeat (first | (simp (disch := first | omega | assumption | exact Option.isSome_some | (simp only [adO_isSome]; assumption)) only [↓vcp, vcs, vct, if_true, if_false, Nat.reduceBEq, ↓reduceIte, Nat.reduceEqDiff, Nat.reduceAdd, Nat.reduceMul, Nat.reduceSub, Int.reduceToNat, reduceCtorEq, Nat.reduceLT, Nat.reduceLeDiff, Int.reduceSub, Int.reduceAdd, Int.reduceNeg, Sat.look hs, Sat.lookA hs, hsz, hne, hbt]) | (refine khK he hs ?_; clear he; intro he) | ((first | refine stK hs ?_ | refine stFK hs ?_ | refine stAK hs ?_ | refine msK hs ?_); clear hs; (try clear w); rintro w hs; try simp only [cls] at hs) | ((first | refine al_ok hs ?_ | refine bx_ok hs ?_ | refine bsvK hs ?_ | refine bs1_ok hs ?_ | refine bs0_ok hs ?_); clear hs; (try clear w); rintro _ w hs; try simp only [cls] at hs)))
    exact ret_cellT (sz := 4) rfl (by rfl) (hs.cellsBk 0 rfl rfl (by omega)) (hR _ _ ⟨rfl, hs.belowAt⟩)
end Go.Proofs.YtokoohdpakhphaaDoor.Lnk
