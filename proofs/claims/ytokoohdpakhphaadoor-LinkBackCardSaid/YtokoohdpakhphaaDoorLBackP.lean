/- Unlike links have unlike bytes and texts, and an order: plain functions; the law's texts and begins. -/
import Derived.Test.YtokoohdpakhphaaDoorLnkXT
import Derived.Test.YtokoohdpakhphaaDoorLnkL
import Derived.Test.YtokoohdpakhphaaDoorLnkU
namespace Go.Proofs.YtokoohdpakhphaaDoor.Lnk
open Go VC Go.RowKit Dig Help
set_option linter.unusedSimpArgs false
set_option linter.unusedVariables false
set_option maxRecDepth 20000
set_option maxHeartbeats 4000000
theorem cmp_tot : ∀ x y : List UInt8, x ≠ y → (Lib.compareBytes x y < 0 ↔ ¬ Lib.compareBytes y x < 0)
  | [], [], h => absurd rfl h
  | [], b :: bs, _ => by simp [Lib.compareBytes]
  | a :: us, [], _ => by simp [Lib.compareBytes]
  | a :: us, b :: bs, h => by
    unfold Lib.compareBytes
    by_cases hab : a = b
    · subst hab
      rw [if_neg (UInt8.lt_irrefl a), if_neg (UInt8.lt_irrefl a), if_neg (UInt8.lt_irrefl a), if_neg (UInt8.lt_irrefl a)]
      exact cmp_tot us bs fun e => h (by rw [e])
    · by_cases hlt : a < b
      · have h2 : ¬ b < a := fun h3 => UInt8.lt_irrefl a (UInt8.lt_trans hlt h3)
        simp [hlt, h2]
      · have h2 : b < a := by
          rcases UInt8.lt_or_lt_of_ne hab with h3 | h3
          · exact absurd h3 hlt
          · exact h3
        simp [hlt, h2]
theorem lbytes_inj {l m : Lk} (hl : lmay l) (hm : lmay m) (h : lbytes l = lbytes m) : l = m := (lbytes_begins hl hm (z := []) (by rw [List.append_nil, h])).1
theorem ltext_inj {l m : Lk} (hl : lmay l) (hm : lmay m) (h : (ltext l).1 = (ltext m).1) : l = m := by
  have h1 := (lptext_text hl).1
  have h2 := (lptext_text hm).1
  rw [h, h2] at h1
  exact (congrArg Prod.fst h1).symm
theorem llt_tot {l m : Lk} (hl : lmay l) (hm : lmay m) (h : l ≠ m) : llt l m = !llt m l := by
  have := cmp_tot (lbytes l) (lbytes m) fun e => h (lbytes_inj hl hm e)
  unfold llt
  by_cases h1 : Lib.compareBytes (lbytes l) (lbytes m) < 0
  · have h2 := this.1 h1
    simp [hl, hm, h1, h2]
  · have h2 : Lib.compareBytes (lbytes m) (lbytes l) < 0 := Classical.byContradiction fun h3 => h1 (this.2 h3)
    simp [hl, hm, h1, h2]
theorem lbytes_pos {l : Lk} (hl : lmay l) : 0 < (lbytes l).length := by
  obtain ⟨t, ht⟩ := lbytes_head hl
  rw [ht]
  simp
theorem lparse_one {l : Lk} (hl : lmay l) : lparse (lbytes l ++ [0]) = (zeroLk, 44) := by
  have h := lfirst_lay hl [0]
  unfold lparse
  rw [h]
  simp
theorem begins_calls (w0 : World) (a b : Option Addr) (c d : Nat) (xs ys : List UInt8) (hx : Ro (.at w0) a (xs.map u8v)) (hy : Ro (.at w0) b (ys.map u8v)) (hd : ys.length ≤ d) (hxl : xs.length ≤ 1048576) (hyl : ys.length ≤ 1048576) :
    Calls Tryd.prog 27 #[.slice a xs.length c, .slice b ys.length d] w0 fun e w' => e = .returned (.bool (decide (xs.length ≤ ys.length ∧ xs = ys.take xs.length))) ∧ Below w0.heap.size w0 w' := by
  refine calls_vc Tryd.func27 rfl (by kernel_rfl) (by kernel_rfl) ?_; intro R hR
  have hs := Sat.start w0
  by_cases hle : xs.length ≤ ys.length
  case neg =>
    rw [decide_eq_false (fun h => hle h.1)] at hR
    (repeat (first | (simp (disch := first | omega | assumption | exact Option.isSome_some | (simp only [adO_isSome]; assumption)) only [↓vcp, vcs, vct, if_true, if_false, Nat.reduceBEq, ↓reduceIte, Nat.reduceEqDiff, Nat.reduceAdd, Nat.reduceMul, Nat.reduceSub, Int.reduceToNat, reduceCtorEq, Nat.reduceLT, Nat.reduceLeDiff, Int.reduceSub, Int.reduceAdd, Int.reduceNeg, Sat.look hs, Sat.lookA hs]) | (refine khK he hs ?_; clear he; intro he) | ((first | refine stK hs ?_ | refine stFK hs ?_ | refine stAK hs ?_ | refine msK hs ?_); clear hs; (try clear w); rintro w hs; try simp only [cls] at hs) | ((first | refine al_ok hs ?_ | refine bx_ok hs ?_ | refine bsvK hs ?_ | refine bs1_ok hs ?_ | refine bs0_ok hs ?_); clear hs; (try clear w); rintro _ w hs; try simp only [cls] at hs)))
    exact ret_tmp rfl (hR _ _ ⟨rfl, hs.belowAt⟩)
  have hyt : Ro (.at w0) b ((ys.take xs.length).map u8v) := by
    have h := hy.take xs.length
    rwa [← List.map_take] at h
  have htl : (ys.take xs.length).length = xs.length := List.length_take_of_le hle
  have q1 := fun w h1 h2 => Eq_calls w a b c d xs (ys.take xs.length) h1 h2 (by omega)
  rw [htl] at q1
  rw [show decide (xs.length ≤ ys.length ∧ xs = ys.take xs.length) = decide (xs = ys.take xs.length) by simp [hle]] at hR
  generalize decide (xs = ys.take xs.length) = dd at *
  (repeat (first | (simp (disch := first | omega | assumption | exact Option.isSome_some | (simp only [adO_isSome]; assumption)) only [↓vcp, vcs, vct, if_true, if_false, Nat.reduceBEq, ↓reduceIte, Nat.reduceEqDiff, Nat.reduceAdd, Nat.reduceMul, Nat.reduceSub, Int.reduceToNat, reduceCtorEq, Nat.reduceLT, Nat.reduceLeDiff, Int.reduceSub, Int.reduceAdd, Int.reduceNeg, Sat.look hs, Sat.lookA hs]) | (refine khK he hs ?_; clear he; intro he) | ((first | refine stK hs ?_ | refine stFK hs ?_ | refine stAK hs ?_ | refine msK hs ?_); clear hs; (try clear w); rintro w hs; try simp only [cls] at hs) | ((first | refine al_ok hs ?_ | refine bx_ok hs ?_ | refine bsvK hs ?_ | refine bs1_ok hs ?_ | refine bs0_ok hs ?_); clear hs; (try clear w); rintro _ w hs; try simp only [cls] at hs)))
  refine call_ok (by kernel_rfl) (q1 _ (hx.rd hs) (hyt.rd hs)) ?_; rintro _ w2 ⟨rfl, hb⟩; rw [callK_ret]; replace hs := Sat.add hs (Below.sat hb); clear hb; (try clear w); rename World => w; try simp only [cls] at hs
  (repeat (first | (simp (disch := first | omega | assumption | exact Option.isSome_some | (simp only [adO_isSome]; assumption)) only [↓vcp, vcs, vct, if_true, if_false, Nat.reduceBEq, ↓reduceIte, Nat.reduceEqDiff, Nat.reduceAdd, Nat.reduceMul, Nat.reduceSub, Int.reduceToNat, reduceCtorEq, Nat.reduceLT, Nat.reduceLeDiff, Int.reduceSub, Int.reduceAdd, Int.reduceNeg, Sat.look hs, Sat.lookA hs]) | (refine khK he hs ?_; clear he; intro he) | ((first | refine stK hs ?_ | refine stFK hs ?_ | refine stAK hs ?_ | refine msK hs ?_); clear hs; (try clear w); rintro w hs; try simp only [cls] at hs) | ((first | refine al_ok hs ?_ | refine bx_ok hs ?_ | refine bsvK hs ?_ | refine bs1_ok hs ?_ | refine bs0_ok hs ?_); clear hs; (try clear w); rintro _ w hs; try simp only [cls] at hs)))
  exact ret_tmp rfl (hR _ _ ⟨rfl, hs.belowAt⟩)
theorem texts_calls (w0 : World) (l : Lk) (hm : lmay l) :
    Calls Tryd.prog 26 #[.agg l.fs.toArray] w0 fun e w' => e = .returned (.bool true) ∧ Below w0.heap.size w0 w' := by
  refine calls_vc Tryd.func26 rfl (by kernel_rfl) (by kernel_rfl) ?_; intro R hR
  have hs := Sat.start w0
  have hld : l.d.length ≤ 64 := by unfold lmay at hm; omega
  have q1 := fun w => Text_calls w l (by omega)
  have q2 := fun w k => TextIn_calls w l k (by omega)
  have q3 := fun w s h => ParseText_calls w s h
  obtain ⟨p1, p2, p3, x, t, p4, p5, p6⟩ := lptext_text hm
  have hk := fun k h1 h2 => lptext_textIn hm h1 k h2
  have h0 : l.v = 0 → ∀ k, ltextIn l k = ([], 45) := fun h k => by unfold ltextIn; rw [if_pos hm, if_pos h]
  generalize ltext l = T at *
  generalize hTI : ltextIn l = TI at *
  clear hTI
  obtain ⟨Ts, Te⟩ := T
  dsimp only at p1 p2 p3 p4 q1
  subst p2
  have q3a := fun w => q3 w Ts (by omega)
  rw [p1] at q3a
  subst p4
  have hlv : l.v = 0 ∨ l.v = 1 := by unfold lmay at hm; omega
  clear hm
  obtain ⟨lv, lc, lh, ld⟩ := l
  unfold Lk.fs at q1 q2 q3a ⊢
  dsimp only at q1 q2 q3a hlv h0 p5 hk ⊢
  have hbt : bt ⟨(x :: t).toArray⟩ 0 = (x.toNat : Int) := by rw [bt_list _ 0 (by simp)]; rfl
  have hsz : (ByteArray.mk (x :: t).toArray).size = t.length + 1 := by rw [ba_size]; rfl
  have htl : t.length ≤ 152 := by simp only [List.length_cons] at p3; omega
  (repeat (first | (simp (disch := first | omega | assumption | exact Option.isSome_some | (simp only [adO_isSome]; assumption)) only [↓vcp, vcs, vct, if_true, if_false, Nat.reduceBEq, ↓reduceIte, Nat.reduceEqDiff, Nat.reduceAdd, Nat.reduceMul, Nat.reduceSub, Int.reduceToNat, reduceCtorEq, Nat.reduceLT, Nat.reduceLeDiff, Int.reduceSub, Int.reduceAdd, Int.reduceNeg, Sat.look hs, Sat.lookA hs]) | (refine khK he hs ?_; clear he; intro he) | ((first | refine stK hs ?_ | refine stFK hs ?_ | refine stAK hs ?_ | refine msK hs ?_); clear hs; (try clear w); rintro w hs; try simp only [cls] at hs) | ((first | refine al_ok hs ?_ | refine bx_ok hs ?_ | refine bsvK hs ?_ | refine bs1_ok hs ?_ | refine bs0_ok hs ?_); clear hs; (try clear w); rintro _ w hs; try simp only [cls] at hs)))
  refine call_ok (by kernel_rfl) (q1 _) ?_; rintro _ w2 ⟨rfl, hb⟩; rw [callK_ret]; replace hs := Sat.add hs (Below.sat hb); clear hb; (try clear w); rename World => w; try simp only [cls] at hs
  (repeat (first | (simp (disch := first | omega | assumption | exact Option.isSome_some | (simp only [adO_isSome]; assumption)) only [↓vcp, vcs, vct, if_true, if_false, Nat.reduceBEq, ↓reduceIte, Nat.reduceEqDiff, Nat.reduceAdd, Nat.reduceMul, Nat.reduceSub, Int.reduceToNat, reduceCtorEq, Nat.reduceLT, Nat.reduceLeDiff, Int.reduceSub, Int.reduceAdd, Int.reduceNeg, Sat.look hs, Sat.lookA hs]) | (refine khK he hs ?_; clear he; intro he) | ((first | refine stK hs ?_ | refine stFK hs ?_ | refine stAK hs ?_ | refine msK hs ?_); clear hs; (try clear w); rintro w hs; try simp only [cls] at hs) | ((first | refine al_ok hs ?_ | refine bx_ok hs ?_ | refine bsvK hs ?_ | refine bs1_ok hs ?_ | refine bs0_ok hs ?_); clear hs; (try clear w); rintro _ w hs; try simp only [cls] at hs)))
  refine call_ok (by kernel_rfl) (q3a _) ?_; rintro _ w2 ⟨rfl, hb⟩; rw [callK_ret]; replace hs := Sat.add hs (Below.sat hb); clear hb; (try clear w); rename World => w; try simp only [cls] at hs
  (repeat (first | (simp (disch := first | omega | assumption | exact Option.isSome_some | (simp only [adO_isSome]; assumption)) only [↓vcp, vcs, vct, if_true, if_false, Nat.reduceBEq, ↓reduceIte, Nat.reduceEqDiff, Nat.reduceAdd, Nat.reduceMul, Nat.reduceSub, Int.reduceToNat, reduceCtorEq, Nat.reduceLT, Nat.reduceLeDiff, Int.reduceSub, Int.reduceAdd, Int.reduceNeg, Sat.look hs, Sat.lookA hs]) | (refine khK he hs ?_; clear he; intro he) | ((first | refine stK hs ?_ | refine stFK hs ?_ | refine stAK hs ?_ | refine msK hs ?_); clear hs; (try clear w); rintro w hs; try simp only [cls] at hs) | ((first | refine al_ok hs ?_ | refine bx_ok hs ?_ | refine bsvK hs ?_ | refine bs1_ok hs ?_ | refine bs0_ok hs ?_); clear hs; (try clear w); rintro _ w hs; try simp only [cls] at hs)))
  have hs0 := hs
  rename_i ta tc
  have ha1 : Ro (.at w) (some ⟨ta, 0, none⟩) [.int .i64 lv, .int .u64 lc, .int .u64 lh, .string ⟨ld.toArray⟩] := Rd.ro (hs.rdBk 0 rfl)
  have hc1 : Ro (.at w) (some ⟨tc, 0, none⟩) [.int .i64 lv, .int .u64 lc, .int .u64 lh, .string ⟨ld.toArray⟩] := Rd.ro (hs.rdBk 1 rfl)
  clear hs
  obtain ⟨wB, rfl⟩ : ∃ wB, wB = w := ⟨w, rfl⟩
  have hs := Sat.start wB
  have hxv : (decide ((x.toNat : Int) = 81)) = decide (lv = 0) := by
    by_cases h : lv = 0
    · rw [p5.2 h, decide_eq_true h]; rfl
    · have h2 : ¬ x = 81 := fun e => h (p5.1 e)
      rw [decide_eq_false h, decide_eq_false fun e => h2 (UInt8.toNat_inj.1 (by show x.toNat = 81; omega))]
  have fa0 : oldO (.at wB) (some ⟨ta, 0, none⟩) = some (.int .i64 lv) := ha1 0 _ rfl
  refine draw_plan (SatE _ _) [(0, true), (1, false), (2, true), (3, true), (4, true), (5, false), (6, true), (7, true), (8, true), (9, true), (10, true), (11, true), (12, true), (13, true), (14, true), (15, true), (16, true), (17, true), (18, true), (19, true), (20, true), (21, true), (22, true), (23, true), (24, true), (25, true), (26, true), (27, true), (28, true), (29, true), (30, true), (31, true)] (by kernel_rfl) (by kernel_rfl) (Sat.e (Sat.drew hs)) ?_; replace hs := Sat.drew hs; revert hs; generalize World.drew _ = w; intro hs; have he := Sat.e hs
  (repeat (first | (simp (disch := first | omega | assumption | exact Option.isSome_some | (simp only [adO_isSome]; assumption)) only [↓vcp, vcs, vct, if_true, if_false, Nat.reduceBEq, ↓reduceIte, Nat.reduceEqDiff, Nat.reduceAdd, Nat.reduceMul, Nat.reduceSub, Int.reduceToNat, reduceCtorEq, Nat.reduceLT, Nat.reduceLeDiff, Int.reduceSub, Int.reduceAdd, Int.reduceNeg, Sat.look hs, Sat.lookA hs, m_loadU (sz := 4) _ he _ ha1 rfl (by omega), m_loadU (sz := 4) _ he _ hc1 rfl (by omega), m_loadEO _ he _ fa0, hbt, hsz, hxv]) | (refine khK he hs ?_; clear he; intro he) | ((first | refine stK hs ?_ | refine stFK hs ?_ | refine stAK hs ?_ | refine msK hs ?_); clear hs; (try clear w); rintro w hs; try simp only [cls] at hs) | ((first | refine al_ok hs ?_ | refine bx_ok hs ?_ | refine bsvK hs ?_ | refine bs1_ok hs ?_ | refine bs0_ok hs ?_); clear hs; (try clear w); rintro _ w hs; try simp only [cls] at hs) | (refine call_ok (by kernel_rfl) (num_calls _ _) ?_; rintro _ _ ⟨rfl, rfl⟩; rw [callK_ret]) | (refine call_still (by kernel_rfl) (num_calls _ _) ?_)))
  (try clear he)
  have hs1 := stayU hs0 hs
  clear hs hs0 ha1 hc1 fa0 hbt hsz hxv
  have hs := hs1
  clear hs1
  have hL : (ByteArray.mk ([102, 98, 122] : List UInt8).toArray).size = 3 := rfl
  refine loop_rule (σ := Nat) [8] (fun s => [.int .i64 s]) [1, 5, 7] (fun s w' => s ≤ 3 ∧ VC.Sat (.at w0) [.bk ta [.int .i64 lv, .int .u64 lc, .int .u64 lh, .string ⟨ld.toArray⟩] 35, .bk tc [.int .i64 lv, .int .u64 lc, .int .u64 lh, .string ⟨ld.toArray⟩] 35] w') (fun s _ => 3 - s) 0 (by kernel_rfl) rfl ⟨by omega, hs⟩ ?_
  clear hs
  rintro e k w ⟨hk3, hs⟩
  simp (disch := first | omega | assumption | exact Option.isSome_some | (simp only [adO_isSome]; assumption)) only [↓vcp, vcs, vct, if_true, if_false, Nat.reduceBEq, ↓reduceIte, Nat.reduceEqDiff, Nat.reduceAdd, Nat.reduceMul, Nat.reduceSub, Int.reduceToNat, reduceCtorEq, Nat.reduceLT, Nat.reduceLeDiff, Int.reduceSub, Int.reduceAdd, Int.reduceNeg, Sat.look hs, Sat.lookA hs]
  by_cases hlt : k < 3
  case neg =>
    (repeat (first | (simp (disch := first | omega | assumption | exact Option.isSome_some | (simp only [adO_isSome]; assumption)) only [↓vcp, vcs, vct, if_true, if_false, Nat.reduceBEq, ↓reduceIte, Nat.reduceEqDiff, Nat.reduceAdd, Nat.reduceMul, Nat.reduceSub, Int.reduceToNat, reduceCtorEq, Nat.reduceLT, Nat.reduceLeDiff, Int.reduceSub, Int.reduceAdd, Int.reduceNeg, Sat.look hs, Sat.lookA hs]) | (refine khK he hs ?_; clear he; intro he) | ((first | refine stK hs ?_ | refine stFK hs ?_ | refine stAK hs ?_ | refine msK hs ?_); clear hs; (try clear w); rintro w hs; try simp only [cls] at hs) | ((first | refine al_ok hs ?_ | refine bx_ok hs ?_ | refine bsvK hs ?_ | refine bs1_ok hs ?_ | refine bs0_ok hs ?_); clear hs; (try clear w); rintro _ w hs; try simp only [cls] at hs)))
    exact ret_tmp rfl (hR _ _ ⟨rfl, hs.belowAt⟩)
  have hb7 : bt ⟨([102, 98, 122] : List UInt8).toArray⟩ k = ((letter ((1 : Int) + (k : Int))).toNat : Int) := by
    rcases (show k = 0 ∨ k = 1 ∨ k = 2 by omega) with rfl | rfl | rfl <;> rfl
  by_cases hv : lv = 0
  · have h0k := h0 hv ((1 : Int) + (k : Int))
    have q2k := fun w => q2 w ((1 : Int) + (k : Int))
    rw [h0k] at q2k
    (repeat (first | (simp (disch := first | omega | assumption | exact Option.isSome_some | (simp only [adO_isSome]; assumption)) only [↓vcp, vcs, vct, if_true, if_false, Nat.reduceBEq, ↓reduceIte, Nat.reduceEqDiff, Nat.reduceAdd, Nat.reduceMul, Nat.reduceSub, Int.reduceToNat, reduceCtorEq, Nat.reduceLT, Nat.reduceLeDiff, Int.reduceSub, Int.reduceAdd, Int.reduceNeg, Sat.look hs, Sat.lookA hs]) | (refine khK he hs ?_; clear he; intro he) | ((first | refine stK hs ?_ | refine stFK hs ?_ | refine stAK hs ?_ | refine msK hs ?_); clear hs; (try clear w); rintro w hs; try simp only [cls] at hs) | ((first | refine al_ok hs ?_ | refine bx_ok hs ?_ | refine bsvK hs ?_ | refine bs1_ok hs ?_ | refine bs0_ok hs ?_); clear hs; (try clear w); rintro _ w hs; try simp only [cls] at hs)))
    refine call_ok (by kernel_rfl) (q2k _) ?_; rintro _ w2 ⟨rfl, hb⟩; rw [callK_ret]; replace hs := Sat.add hs (Below.sat hb); clear hb; (try clear w); rename World => w; try simp only [cls] at hs
    (repeat (first | (simp (disch := first | omega | assumption | exact Option.isSome_some | (simp only [adO_isSome]; assumption)) only [↓vcp, vcs, vct, if_true, if_false, Nat.reduceBEq, ↓reduceIte, Nat.reduceEqDiff, Nat.reduceAdd, Nat.reduceMul, Nat.reduceSub, Int.reduceToNat, reduceCtorEq, Nat.reduceLT, Nat.reduceLeDiff, Int.reduceSub, Int.reduceAdd, Int.reduceNeg, Sat.look hs, Sat.lookA hs]) | (refine khK he hs ?_; clear he; intro he) | ((first | refine stK hs ?_ | refine stFK hs ?_ | refine stAK hs ?_ | refine msK hs ?_); clear hs; (try clear w); rintro w hs; try simp only [cls] at hs) | ((first | refine al_ok hs ?_ | refine bx_ok hs ?_ | refine bsvK hs ?_ | refine bs1_ok hs ?_ | refine bs0_ok hs ?_); clear hs; (try clear w); rintro _ w hs; try simp only [cls] at hs) | (refine call_ok (by kernel_rfl) (num_calls _ _) ?_; rintro _ _ ⟨rfl, rfl⟩; rw [callK_ret]) | (refine call_still (by kernel_rfl) (num_calls _ _) ?_)))
    exact ⟨k + 1, by rfl, by rfl, ⟨by omega, hs⟩, by dsimp only; omega⟩
  · obtain ⟨r1, r2, r3, t', r4⟩ := hk ((1 : Int) + (k : Int)) hv ⟨by omega, by omega⟩
    have q2k := fun w => q2 w ((1 : Int) + (k : Int))
    generalize TI ((1 : Int) + (k : Int)) = Tk at *
    obtain ⟨Ks, Ke⟩ := Tk
    dsimp only at r1 r2 r3 r4 q2k
    subst r2
    have q3b := fun w => q3 w Ks (by omega)
    rw [r1] at q3b
    subst r4
    generalize letter ((1 : Int) + (k : Int)) = y at *
    have hbt : bt ⟨(y :: t').toArray⟩ 0 = (y.toNat : Int) := by rw [bt_list _ 0 (by simp)]; rfl
    have hsz : (ByteArray.mk (y :: t').toArray).size = t'.length + 1 := by rw [ba_size]; rfl
    have htl2 : t'.length ≤ 152 := by simp only [List.length_cons] at r3; omega
    unfold Lk.fs at q3b
    dsimp only at q3b
    (repeat (first | (simp (disch := first | omega | assumption | exact Option.isSome_some | (simp only [adO_isSome]; assumption)) only [↓vcp, vcs, vct, if_true, if_false, Nat.reduceBEq, ↓reduceIte, Nat.reduceEqDiff, Nat.reduceAdd, Nat.reduceMul, Nat.reduceSub, Int.reduceToNat, reduceCtorEq, Nat.reduceLT, Nat.reduceLeDiff, Int.reduceSub, Int.reduceAdd, Int.reduceNeg, Sat.look hs, Sat.lookA hs]) | (refine khK he hs ?_; clear he; intro he) | ((first | refine stK hs ?_ | refine stFK hs ?_ | refine stAK hs ?_ | refine msK hs ?_); clear hs; (try clear w); rintro w hs; try simp only [cls] at hs) | ((first | refine al_ok hs ?_ | refine bx_ok hs ?_ | refine bsvK hs ?_ | refine bs1_ok hs ?_ | refine bs0_ok hs ?_); clear hs; (try clear w); rintro _ w hs; try simp only [cls] at hs)))
    refine call_ok (by kernel_rfl) (q2k _) ?_; rintro _ w2 ⟨rfl, hb⟩; rw [callK_ret]; replace hs := Sat.add hs (Below.sat hb); clear hb; (try clear w); rename World => w; try simp only [cls] at hs
    (repeat (first | (simp (disch := first | omega | assumption | exact Option.isSome_some | (simp only [adO_isSome]; assumption)) only [↓vcp, vcs, vct, if_true, if_false, Nat.reduceBEq, ↓reduceIte, Nat.reduceEqDiff, Nat.reduceAdd, Nat.reduceMul, Nat.reduceSub, Int.reduceToNat, reduceCtorEq, Nat.reduceLT, Nat.reduceLeDiff, Int.reduceSub, Int.reduceAdd, Int.reduceNeg, Sat.look hs, Sat.lookA hs]) | (refine khK he hs ?_; clear he; intro he) | ((first | refine stK hs ?_ | refine stFK hs ?_ | refine stAK hs ?_ | refine msK hs ?_); clear hs; (try clear w); rintro w hs; try simp only [cls] at hs) | ((first | refine al_ok hs ?_ | refine bx_ok hs ?_ | refine bsvK hs ?_ | refine bs1_ok hs ?_ | refine bs0_ok hs ?_); clear hs; (try clear w); rintro _ w hs; try simp only [cls] at hs) | (refine call_ok (by kernel_rfl) (num_calls _ _) ?_; rintro _ _ ⟨rfl, rfl⟩; rw [callK_ret]) | (refine call_still (by kernel_rfl) (num_calls _ _) ?_)))
    refine call_ok (by kernel_rfl) (q3b _) ?_; rintro _ w2 ⟨rfl, hb⟩; rw [callK_ret]; replace hs := Sat.add hs (Below.sat hb); clear hb; (try clear w); rename World => w; try simp only [cls] at hs
    (repeat (first | (simp (disch := first | omega | assumption | exact Option.isSome_some | (simp only [adO_isSome]; assumption)) only [↓vcp, vcs, vct, if_true, if_false, Nat.reduceBEq, ↓reduceIte, Nat.reduceEqDiff, Nat.reduceAdd, Nat.reduceMul, Nat.reduceSub, Int.reduceToNat, reduceCtorEq, Nat.reduceLT, Nat.reduceLeDiff, Int.reduceSub, Int.reduceAdd, Int.reduceNeg, Sat.look hs, Sat.lookA hs]) | (refine khK he hs ?_; clear he; intro he) | ((first | refine stK hs ?_ | refine stFK hs ?_ | refine stAK hs ?_ | refine msK hs ?_); clear hs; (try clear w); rintro w hs; try simp only [cls] at hs) | ((first | refine al_ok hs ?_ | refine bx_ok hs ?_ | refine bsvK hs ?_ | refine bs1_ok hs ?_ | refine bs0_ok hs ?_); clear hs; (try clear w); rintro _ w hs; try simp only [cls] at hs)))
    have hs0 := hs
    have ha1 : Ro (.at w) (some ⟨ta, 0, none⟩) [.int .i64 lv, .int .u64 lc, .int .u64 lh, .string ⟨ld.toArray⟩] := Rd.ro (hs.rdBk 0 rfl)
    have hc1 : Ro (.at w) (some ⟨tc, 0, none⟩) [.int .i64 lv, .int .u64 lc, .int .u64 lh, .string ⟨ld.toArray⟩] := Rd.ro (hs.rdBk 1 rfl)
    clear hs
    obtain ⟨wB, rfl⟩ : ∃ wB, wB = w := ⟨w, rfl⟩
    have hs := Sat.start wB
    refine draw_plan (SatE _ _) [(0, true), (1, false), (2, true), (3, true), (4, true), (5, false), (6, true), (7, true), (8, true), (9, true), (10, true), (11, true), (12, true), (13, true), (14, true), (15, true), (16, true), (17, true), (18, true), (19, true), (20, true), (21, true), (22, true), (23, true), (24, true), (25, true), (26, true), (27, true), (28, true), (29, true), (30, true)] (by kernel_rfl) (by kernel_rfl) (Sat.e (Sat.drew hs)) ?_; replace hs := Sat.drew hs; revert hs; generalize World.drew _ = w; intro hs; have he := Sat.e hs
    (repeat (first | (simp (disch := first | omega | assumption | exact Option.isSome_some | (simp only [adO_isSome]; assumption)) only [↓vcp, vcs, vct, if_true, if_false, Nat.reduceBEq, ↓reduceIte, Nat.reduceEqDiff, Nat.reduceAdd, Nat.reduceMul, Nat.reduceSub, Int.reduceToNat, reduceCtorEq, Nat.reduceLT, Nat.reduceLeDiff, Int.reduceSub, Int.reduceAdd, Int.reduceNeg, Sat.look hs, Sat.lookA hs, m_loadU (sz := 4) _ he _ ha1 rfl (by omega), m_loadU (sz := 4) _ he _ hc1 rfl (by omega), hbt, hsz, hb7, hL]) | (refine khK he hs ?_; clear he; intro he) | ((first | refine stK hs ?_ | refine stFK hs ?_ | refine stAK hs ?_ | refine msK hs ?_); clear hs; (try clear w); rintro w hs; try simp only [cls] at hs) | ((first | refine al_ok hs ?_ | refine bx_ok hs ?_ | refine bsvK hs ?_ | refine bs1_ok hs ?_ | refine bs0_ok hs ?_); clear hs; (try clear w); rintro _ w hs; try simp only [cls] at hs) | (refine call_ok (by kernel_rfl) (num_calls _ _) ?_; rintro _ _ ⟨rfl, rfl⟩; rw [callK_ret]) | (refine call_still (by kernel_rfl) (num_calls _ _) ?_)))
    (try clear he)
    exact ⟨k + 1, by rfl, by rfl, ⟨by omega, stayU hs0 hs⟩, by dsimp only; omega⟩
end Go.Proofs.YtokoohdpakhphaaDoor.Lnk
