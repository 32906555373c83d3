/- The law DigestKnown answers true. -/
import Derived.Test.YtkklmjioheimfaaDoorBegun
import Derived.Test.YtkklmjioheimfaaDoorKnown
namespace Go.Proofs.YtkklmjioheimfaaDoor.Dig
open Go VC Go.RowKit Sha Loan Varint Help
set_option linter.unusedSimpArgs false
set_option maxRecDepth 20000
set_option maxHeartbeats 4000000
theorem fill_one {f g : Nat → Option (Nat × Nat)} (cs : Array Value) (v : Value) (h : f 0 = g 0) : Instr.fill f cs [(0, v)] = Instr.fill g cs [(0, v)] := by
  simp only [Instr.fill, h]
theorem bsa1_ok {S : Cx} {H : List Ck} {w : World} {P : Program} {K : Value → World → Prop} {pan : List PanicEntry → World → Prop} {t el sz by' : Nat} {z : Value} (hs : Sat S H w) [h : TSl P t el sz by'] [hz : TZero P el z] {vs : List Value} (hK : ∀ b w', Sat S (H ++ [.sl (some ⟨b, 0, none⟩) 1 vs el sz]) w' → K (.slice (some ⟨b, 0, none⟩) 1 1) w')
    (hl : vs.length = sz) (h0 : 0 < sz) (hsm : sz ≤ 16777216) : runS .ord P (Instr.buildSlice t 1 [(0, .agg vs.toArray)].toArray) K pan w := by
  refine bs_ok hs (by omega) (by omega) ?_ (by omega) hK
  rw [fill_one (g := fun i => [((0 : Nat), sz)][i]?) _ _ (by simp)]
  have := fillL_eq [((0 : Nat), sz)] [(0, .agg vs.toArray)] (Array.map (fun x => z.cells[x % z.cells.size]!) (Array.range (1 * sz))).toList
  rw [Array.toArray_toList] at this
  rw [this, fillL_cons]
  simp only [List.getElem?_cons_zero]
  rw [fillS_agg 0 sz vs _ _ hl (by simp), fillL_nil]
  simp
def dg (n : Nat) : List Value := (sum (asN n)).map u8v
theorem dg_one (n : Nat) : (dg n).length = 32 := by unfold dg; rw [List.length_map, sum_len]
theorem dg_len : ∀ l : List Nat, (l.flatMap dg).length = l.length * 32
  | [] => rfl
  | n :: l => by rw [List.flatMap_cons, List.length_append, dg_one, dg_len l, List.length_cons]; omega
theorem dg_get : ∀ {l : List Nat} {j : Nat} (h : j < l.length), ((l.flatMap dg).drop (j * 32)).take 32 = dg l[j]
  | n :: l, 0, h => by
    rw [List.flatMap_cons, Nat.zero_mul, List.drop_zero, List.take_left' (dg_one n)]
    rfl
  | n :: l, j + 1, h => by
    have := dg_get (l := l) (j := j) (Nat.lt_of_succ_lt_succ h)
    rw [List.flatMap_cons, show (j + 1) * 32 = (dg n).length + j * 32 by rw [dg_one]; omega, List.drop_append, List.drop_of_length_le (by omega), List.nil_append, Nat.add_sub_cancel_left, this]
    rfl
theorem DigestKnown_calls (w0 : World) (hG : Ro (.at w0) (some ⟨0, 0, none⟩) (factors.map u32v)) : Calls Tryd.prog 7 #[] w0 fun e w' => e = .returned (.bool true) ∧ Below w0.heap.size w0 w' := by
  refine calls_vc Tryd.func7 rfl (by kernel_rfl) (by kernel_rfl) ?_; intro R hR
  have hs := Sat.start w0
  (repeat (first | (simp (disch := first | omega | assumption | exact Option.isSome_some | (simp only [adO_isSome]; assumption)) only [↓vcp, vcs, vct, if_true, if_false, Nat.reduceBEq, ↓reduceIte, Nat.reduceEqDiff, Nat.reduceAdd, Nat.reduceMul, Nat.reduceSub, Int.reduceToNat, reduceCtorEq, Nat.reduceLT, Nat.reduceLeDiff, Int.reduceSub, Int.reduceAdd, Int.reduceNeg, Sat.look hs, Sat.lookA hs]) | (refine khK he hs ?_; clear he; intro he) | ((first | refine stK hs ?_ | refine stFK hs ?_ | refine stAK hs ?_ | refine msK hs ?_); clear hs; (try clear w); rintro w hs; try simp only [cls] at hs) | ((first | refine al_ok hs ?_ | refine bx_ok hs ?_ | refine bsvK hs ?_ | refine bs1_ok hs ?_); clear hs; (try clear w); rintro _ w hs; try simp only [cls] at hs)))
  rename_i nb lb
  have hnl : noneD.length = 32 := rfl
  have hll : longD.length = 32 := rfl
  replace hs : Sat (.at w0) [.bk nb (noneD.map u8v) 28, .bk lb (longD.map u8v) 28] w := hs
  have sn := sum_none
  have sl := sum_long
  have sa := sum_abc
  have al : abcD.length = 32 := rfl
  generalize noneD = nd at *
  generalize longD = ld at *
  have tn : (nd.map u8v).take 32 = nd.map u8v := List.take_of_length_le (by rw [List.length_map, hnl]; omega)
  have tl : (ld.map u8v).take 32 = ld.map u8v := List.take_of_length_le (by rw [List.length_map, hll]; omega)
  refine draw_plan (SatE _ _) [(1, true), (0, false), (2, true), (3, true), (4, false), (5, false), (6, false), (7, false), (8, true), (9, true), (10, true), (14, true), (11, false), (12, false), (13, false), (15, true), (16, true)] (by kernel_rfl) (by kernel_rfl) (Sat.e (Sat.drew hs)) ?_; replace hs := Sat.drew hs; revert hs; generalize World.drew _ = w; intro hs; have he := Sat.e hs
  have kn : 0 + 32 ≤ (Ck.bk nb (nd.map u8v) 28).cells.length := by simp [Ck.cells, hnl]
  have kl : 0 + 32 ≤ (Ck.bk lb (ld.map u8v) 28).cells.length := by simp [Ck.cells, hll]
  have hx0 : Ro (.at w) none (([] : List UInt8).map u8v) := fun j v hj => by simp at hj
  (repeat (first | (simp (disch := first | omega | assumption | exact Option.isSome_some | (simp only [adO_isSome]; assumption)) only [↓vcp, vcs, vct, if_true, if_false, Nat.reduceBEq, ↓reduceIte, Nat.reduceEqDiff, Nat.reduceAdd, Nat.reduceMul, Nat.reduceSub, Int.reduceToNat, reduceCtorEq, Nat.reduceLT, Nat.reduceLeDiff, Int.reduceSub, Int.reduceAdd, Int.reduceNeg, Sat.look hs, Sat.lookA hs, m_loadEA _ he _ kn (by omega), m_loadEA _ he _ kl (by omega), tn, tl]) | (refine khK he hs ?_; clear he; intro he) | ((first | refine stK hs ?_ | refine stFK hs ?_ | refine stAK hs ?_ | refine msK hs ?_); clear hs; (try clear w); rintro w hs; try simp only [cls] at hs) | ((first | refine al_ok hs ?_ | refine bx_ok hs ?_ | refine bsvK hs ?_ | refine bs1_ok hs ?_); clear hs; (try clear w); rintro _ w hs; try simp only [cls] at hs)))
  refine call_ok (by kernel_rfl) (DSum_calls w none 0 [] (hG.up0 hs) hx0 (by decide) (by decide)) ?_; rintro _ w2 ⟨rfl, hb⟩; rw [callK_ret]; replace hs := Sat.add hs (Below.sat hb); clear hb; (try clear w); rename World => w; try simp only [cls] at hs
  rw [sn]
  (repeat (first | (simp (disch := first | omega | assumption | exact Option.isSome_some | (simp only [adO_isSome]; assumption)) only [↓vcp, vcs, vct, if_true, if_false, Nat.reduceBEq, ↓reduceIte, Nat.reduceEqDiff, Nat.reduceAdd, Nat.reduceMul, Nat.reduceSub, Int.reduceToNat, reduceCtorEq, Nat.reduceLT, Nat.reduceLeDiff, Int.reduceSub, Int.reduceAdd, Int.reduceNeg, Sat.look hs, Sat.lookA hs, m_loadEA _ he _ kn (by omega), m_loadEA _ he _ kl (by omega), tn, tl, m_neArr _ _ nd nd hnl hnl]) | (refine khK he hs ?_; clear he; intro he) | ((first | refine stK hs ?_ | refine stFK hs ?_ | refine stAK hs ?_ | refine msK hs ?_); clear hs; (try clear w); rintro w hs; try simp only [cls] at hs) | ((first | refine al_ok hs ?_ | refine bx_ok hs ?_ | refine bsvK hs ?_ | refine bs1_ok hs ?_); clear hs; (try clear w); rintro _ w hs; try simp only [cls] at hs)))
  rename_i tb _
  have hx1 : Ro (.at w) (some ⟨tb, 0, none⟩) ([97, 98, 99].map u8v) := Rd.ro (hs.rdBk 2 rfl)
  refine call_ok (by kernel_rfl) (DSum_calls w _ 3 [97, 98, 99] (hG.up0 hs) hx1 (by decide) (by decide)) ?_; rintro _ w2 ⟨rfl, hb⟩; rw [callK_ret]; replace hs := Sat.add hs (Below.sat hb); clear hb; (try clear w); rename World => w; try simp only [cls] at hs
  rw [sa]
  (repeat (first | (simp (disch := first | omega | assumption | exact Option.isSome_some | (simp only [adO_isSome]; assumption)) only [↓vcp, vcs, vct, if_true, if_false, Nat.reduceBEq, ↓reduceIte, Nat.reduceEqDiff, Nat.reduceAdd, Nat.reduceMul, Nat.reduceSub, Int.reduceToNat, reduceCtorEq, Nat.reduceLT, Nat.reduceLeDiff, Int.reduceSub, Int.reduceAdd, Int.reduceNeg, Sat.look hs, Sat.lookA hs, m_loadEA _ he _ kn (by omega), m_loadEA _ he _ kl (by omega), tn, tl]) | (refine khK he hs ?_; clear he; intro he) | ((first | refine stK hs ?_ | refine stFK hs ?_ | refine stAK hs ?_ | refine msK hs ?_); clear hs; (try clear w); rintro w hs; try simp only [cls] at hs) | ((first | refine al_ok hs ?_ | refine bx_ok hs ?_ | refine bsvK hs ?_ | refine bs1_ok hs ?_); clear hs; (try clear w); rintro _ w hs; try simp only [cls] at hs)))
  refine call_ok (by kernel_rfl) (abc_calls w) ?_; rintro _ w2 ⟨rfl, hb⟩; rw [callK_ret]; replace hs := Sat.add hs (Below.sat hb); clear hb; (try clear w); rename World => w; try simp only [cls] at hs
  generalize abcD = ab at *
  (repeat (first | (simp (disch := first | omega | assumption | exact Option.isSome_some | (simp only [adO_isSome]; assumption)) only [↓vcp, vcs, vct, if_true, if_false, Nat.reduceBEq, ↓reduceIte, Nat.reduceEqDiff, Nat.reduceAdd, Nat.reduceMul, Nat.reduceSub, Int.reduceToNat, reduceCtorEq, Nat.reduceLT, Nat.reduceLeDiff, Int.reduceSub, Int.reduceAdd, Int.reduceNeg, Sat.look hs, Sat.lookA hs, m_loadEA _ he _ kn (by omega), m_loadEA _ he _ kl (by omega), tn, tl, m_neArr _ _ ab ab al al]) | (refine khK he hs ?_; clear he; intro he) | ((first | refine stK hs ?_ | refine stFK hs ?_ | refine stAK hs ?_ | refine msK hs ?_); clear hs; (try clear w); rintro w hs; try simp only [cls] at hs) | ((first | refine al_ok hs ?_ | refine bx_ok hs ?_ | refine bsvK hs ?_ | refine bs1_ok hs ?_); clear hs; (try clear w); rintro _ w hs; try simp only [cls] at hs)))
  rename_i tb2 _
  have hx2 : Ro (.at w) (some ⟨tb2, 0, none⟩) (longT.map u8v) := Rd.ro (hs.rdBk 3 rfl)
  refine call_ok (by kernel_rfl) (DSum_calls w _ 56 longT (hG.up0 hs) hx2 (by decide) (by decide)) ?_; rintro _ w2 ⟨rfl, hb⟩; rw [callK_ret]; replace hs := Sat.add hs (Below.sat hb); clear hb; (try clear w); rename World => w; try simp only [cls] at hs
  rw [sl]
  (repeat (first | (simp (disch := first | omega | assumption | exact Option.isSome_some | (simp only [adO_isSome]; assumption)) only [↓vcp, vcs, vct, if_true, if_false, Nat.reduceBEq, ↓reduceIte, Nat.reduceEqDiff, Nat.reduceAdd, Nat.reduceMul, Nat.reduceSub, Int.reduceToNat, reduceCtorEq, Nat.reduceLT, Nat.reduceLeDiff, Int.reduceSub, Int.reduceAdd, Int.reduceNeg, Sat.look hs, Sat.lookA hs, m_loadEA _ he _ kn (by omega), m_loadEA _ he _ kl (by omega), tn, tl, m_neArr _ _ ab ab al al, m_neArr _ _ nd nd hnl hnl, m_neArr _ _ ld ld hll hll]) | (refine khK he hs ?_; clear he; intro he) | ((first | refine stK hs ?_ | refine stFK hs ?_ | refine stAK hs ?_ | refine msK hs ?_); clear hs; (try clear w); rintro w hs; try simp only [cls] at hs) | ((first | refine al_ok hs ?_ | refine bx_ok hs ?_ | refine bsvK hs ?_ | refine bs1_ok hs ?_); clear hs; (try clear w); rintro _ w hs; try simp only [cls] at hs)))
  replace hs := hs.take 2
  simp only [List.take_succ_cons, List.take_zero] at hs
  clear he hx0 hx1 hx2 kn kl tn tl sn sl sa al
  replace hs := Sat.nil hs 28 32; try simp only [cls] at hs
  refine loop_rule (σ := Nat × List Nat × Option Addr × Nat) [4, 3] (fun x => [.int .i64 x.1, .slice x.2.2.1 x.2.1.length x.2.2.2]) [] (fun x w' => 54 ≤ x.1 ∧ x.1 ≤ 131 ∧ (x.1 ≤ 67 ∨ 119 ≤ x.1) ∧ (∀ m ∈ x.2.1, m ∈ lens ∧ m < x.1) ∧ x.2.1.length ≤ x.1 ∧
    Sat (.at w0) [.bk nb (nd.map u8v) 28, .bk lb (ld.map u8v) 28, .sl x.2.2.1 x.2.2.2 (x.2.1.flatMap dg) 28 32] w') (fun x _ => 131 - x.1) (54, [], none, 0) (by kernel_rfl) rfl ⟨by omega, by dsimp only; omega, by dsimp only; omega, (fun m hm => by cases hm), by simp, hs⟩ ?_
  clear hs
  rintro e ⟨n, vis, sa, sc⟩ w ⟨h1, h2, h3, hv, hvl, hs⟩
  dsimp only at h1 h2 h3 hv hvl hs ⊢
  simp (disch := first | omega | assumption | exact Option.isSome_some | (simp only [adO_isSome]; assumption)) only [↓vcp, vcs, vct, if_true, if_false, Nat.reduceBEq, ↓reduceIte, Nat.reduceEqDiff, Nat.reduceAdd, Nat.reduceMul, Nat.reduceSub, Int.reduceToNat, reduceCtorEq, Nat.reduceLT, Nat.reduceLeDiff, Int.reduceSub, Int.reduceAdd, Int.reduceNeg, Sat.look hs, Sat.lookA hs]
  by_cases hlt : n < 131
  case neg =>
    (repeat (first | (simp (disch := first | omega | assumption | exact Option.isSome_some | (simp only [adO_isSome]; assumption)) only [↓vcp, vcs, vct, if_true, if_false, Nat.reduceBEq, ↓reduceIte, Nat.reduceEqDiff, Nat.reduceAdd, Nat.reduceMul, Nat.reduceSub, Int.reduceToNat, reduceCtorEq, Nat.reduceLT, Nat.reduceLeDiff, Int.reduceSub, Int.reduceAdd, Int.reduceNeg, Sat.look hs, Sat.lookA hs]) | (refine khK he hs ?_; clear he; intro he) | ((first | refine stK hs ?_ | refine stFK hs ?_ | refine stAK hs ?_ | refine msK hs ?_); clear hs; (try clear w); rintro w hs; try simp only [cls] at hs) | ((first | refine al_ok hs ?_ | refine bx_ok hs ?_ | refine bsvK hs ?_ | refine bs1_ok hs ?_); clear hs; (try clear w); rintro _ w hs; try simp only [cls] at hs)))
    refine call_ok (by kernel_rfl) (begun_calls w (hG.up0 hs)) ?_; rintro _ w2 ⟨rfl, hb⟩; rw [callK_ret]; replace hs := Sat.add hs (Below.sat hb); clear hb; (try clear w); rename World => w; try simp only [cls] at hs
    (repeat (first | (simp (disch := first | omega | assumption | exact Option.isSome_some | (simp only [adO_isSome]; assumption)) only [↓vcp, vcs, vct, if_true, if_false, Nat.reduceBEq, ↓reduceIte, Nat.reduceEqDiff, Nat.reduceAdd, Nat.reduceMul, Nat.reduceSub, Int.reduceToNat, reduceCtorEq, Nat.reduceLT, Nat.reduceLeDiff, Int.reduceSub, Int.reduceAdd, Int.reduceNeg, Sat.look hs, Sat.lookA hs]) | (refine khK he hs ?_; clear he; intro he) | ((first | refine stK hs ?_ | refine stFK hs ?_ | refine stAK hs ?_ | refine msK hs ?_); clear hs; (try clear w); rintro w hs; try simp only [cls] at hs) | ((first | refine al_ok hs ?_ | refine bx_ok hs ?_ | refine bsvK hs ?_ | refine bs1_ok hs ?_); clear hs; (try clear w); rintro _ w hs; try simp only [cls] at hs)))
    exact ret_tmp rfl (hR _ _ ⟨rfl, hs.belowAt⟩)
  case pos =>
    (repeat (first | (simp (disch := first | omega | assumption | exact Option.isSome_some | (simp only [adO_isSome]; assumption)) only [↓vcp, vcs, vct, if_true, if_false, Nat.reduceBEq, ↓reduceIte, Nat.reduceEqDiff, Nat.reduceAdd, Nat.reduceMul, Nat.reduceSub, Int.reduceToNat, reduceCtorEq, Nat.reduceLT, Nat.reduceLeDiff, Int.reduceSub, Int.reduceAdd, Int.reduceNeg, Sat.look hs, Sat.lookA hs]) | (refine khK he hs ?_; clear he; intro he) | ((first | refine stK hs ?_ | refine stFK hs ?_ | refine stAK hs ?_ | refine msK hs ?_); clear hs; (try clear w); rintro w hs; try simp only [cls] at hs) | ((first | refine al_ok hs ?_ | refine bx_ok hs ?_ | refine bsvK hs ?_ | refine bs1_ok hs ?_); clear hs; (try clear w); rintro _ w hs; try simp only [cls] at hs)))
    refine cond_join (σ := Nat) [4] (fun x => [.int .i64 x]) [3] (fun x w' => n ≤ x ∧ (54 ≤ x ∧ x < 67 ∨ 118 ≤ x ∧ x < 131) ∧ Sat (.at w0) [.bk nb (nd.map u8v) 28, .bk lb (ld.map u8v) 28, .sl sa sc (vis.flatMap dg) 28 32] w') ?_ ?_
    · by_cases h67 : (n : Int) = 67
      · (repeat (first | (simp (disch := first | omega | assumption | exact Option.isSome_some | (simp only [adO_isSome]; assumption)) only [↓vcp, vcs, vct, if_true, if_false, Nat.reduceBEq, ↓reduceIte, Nat.reduceEqDiff, Nat.reduceAdd, Nat.reduceMul, Nat.reduceSub, Int.reduceToNat, reduceCtorEq, Nat.reduceLT, Nat.reduceLeDiff, Int.reduceSub, Int.reduceAdd, Int.reduceNeg, Sat.look hs, Sat.lookA hs]) | (refine khK he hs ?_; clear he; intro he) | ((first | refine stK hs ?_ | refine stFK hs ?_ | refine stAK hs ?_ | refine msK hs ?_); clear hs; (try clear w); rintro w hs; try simp only [cls] at hs) | ((first | refine al_ok hs ?_ | refine bx_ok hs ?_ | refine bsvK hs ?_ | refine bs1_ok hs ?_); clear hs; (try clear w); rintro _ w hs; try simp only [cls] at hs)))
        exact ⟨118, by rfl, by rfl, by omega, by omega, hs⟩
      · (repeat (first | (simp (disch := first | omega | assumption | exact Option.isSome_some | (simp only [adO_isSome]; assumption)) only [↓vcp, vcs, vct, if_true, if_false, Nat.reduceBEq, ↓reduceIte, Nat.reduceEqDiff, Nat.reduceAdd, Nat.reduceMul, Nat.reduceSub, Int.reduceToNat, reduceCtorEq, Nat.reduceLT, Nat.reduceLeDiff, Int.reduceSub, Int.reduceAdd, Int.reduceNeg, Sat.look hs, Sat.lookA hs]) | (refine khK he hs ?_; clear he; intro he) | ((first | refine stK hs ?_ | refine stFK hs ?_ | refine stAK hs ?_ | refine msK hs ?_); clear hs; (try clear w); rintro w hs; try simp only [cls] at hs) | ((first | refine al_ok hs ?_ | refine bx_ok hs ?_ | refine bsvK hs ?_ | refine bs1_ok hs ?_); clear hs; (try clear w); rintro _ w hs; try simp only [cls] at hs)))
        exact ⟨n, by rfl, by rfl, by omega, by omega, hs⟩
    clear hs
    rintro e x w ⟨hnx, hx, hs⟩
    simp (disch := first | omega | assumption | exact Option.isSome_some | (simp only [adO_isSome]; assumption)) only [↓vcp, vcs, vct, if_true, if_false, Nat.reduceBEq, ↓reduceIte, Nat.reduceEqDiff, Nat.reduceAdd, Nat.reduceMul, Nat.reduceSub, Int.reduceToNat, reduceCtorEq, Nat.reduceLT, Nat.reduceLeDiff, Int.reduceSub, Int.reduceAdd, Int.reduceNeg, Sat.look hs, Sat.lookA hs]
    have hxl := lens_mem hx
    refine call_ok (by kernel_rfl) (New_calls w) ?_; rintro _ w2 ⟨hb', rfl, hb⟩; rw [callK_ret]; replace hs := Sat.add hs hb; clear hb; (try clear w); rename World => w; try simp only [cls] at hs
    (repeat (first | (simp (disch := first | omega | assumption | exact Option.isSome_some | (simp only [adO_isSome]; assumption)) only [↓vcp, vcs, vct, if_true, if_false, Nat.reduceBEq, ↓reduceIte, Nat.reduceEqDiff, Nat.reduceAdd, Nat.reduceMul, Nat.reduceSub, Int.reduceToNat, reduceCtorEq, Nat.reduceLT, Nat.reduceLeDiff, Int.reduceSub, Int.reduceAdd, Int.reduceNeg, Sat.look hs, Sat.lookA hs]) | (refine khK he hs ?_; clear he; intro he) | ((first | refine stK hs ?_ | refine stFK hs ?_ | refine stAK hs ?_ | refine msK hs ?_); clear hs; (try clear w); rintro w hs; try simp only [cls] at hs) | ((first | refine al_ok hs ?_ | refine bx_ok hs ?_ | refine bsvK hs ?_ | refine bs1_ok hs ?_); clear hs; (try clear w); rintro _ w hs; try simp only [cls] at hs)))
    replace hs := Sat.nil hs 5 1; try simp only [cls] at hs
    refine loop_rule (σ := Nat × List UInt8 × Option Addr × Nat) [7, 6] (fun y => [.int .i64 y.1, .slice y.2.2.1 y.1 y.2.2.2]) [3, 4, 5] (fun y w' => y.1 ≤ x ∧ y.1 ≤ y.2.2.2 ∧ HOk (asN y.1) y.2.1 ∧
      Sat (.at w0) [.bk nb (nd.map u8v) 28, .bk lb (ld.map u8v) 28, .sl sa sc (vis.flatMap dg) 28 32, .bk hb' (hcells (asN y.1) y.2.1) 100, .sl y.2.2.1 y.2.2.2 ((asN y.1).map u8v) 5 1] w') (fun y _ => x - y.1) (0, List.replicate 64 0, none, 0) (by kernel_rfl) rfl ⟨by omega, by dsimp only; omega, hok_nil (List.replicate 64 0) rfl, hs⟩ ?_
    clear hs
    rintro e ⟨k, part, aa, ac⟩ w ⟨hk, hac, hok, hs⟩
    dsimp only at hk hac hok hs ⊢
    simp (disch := first | omega | assumption | exact Option.isSome_some | (simp only [adO_isSome]; assumption)) only [↓vcp, vcs, vct, if_true, if_false, Nat.reduceBEq, ↓reduceIte, Nat.reduceEqDiff, Nat.reduceAdd, Nat.reduceMul, Nat.reduceSub, Int.reduceToNat, reduceCtorEq, Nat.reduceLT, Nat.reduceLeDiff, Int.reduceSub, Int.reduceAdd, Int.reduceNeg, Sat.look hs, Sat.lookA hs]
    have hal : (asN k).length = k := List.length_replicate ..
    by_cases hkx : k < x
    case pos =>
      (repeat (first | (simp (disch := first | omega | assumption | exact Option.isSome_some | (simp only [adO_isSome]; assumption)) only [↓vcp, vcs, vct, if_true, if_false, Nat.reduceBEq, ↓reduceIte, Nat.reduceEqDiff, Nat.reduceAdd, Nat.reduceMul, Nat.reduceSub, Int.reduceToNat, reduceCtorEq, Nat.reduceLT, Nat.reduceLeDiff, Int.reduceSub, Int.reduceAdd, Int.reduceNeg, Sat.look hs, Sat.lookA hs]) | (refine khK he hs ?_; clear he; intro he) | ((first | refine stK hs ?_ | refine stFK hs ?_ | refine stAK hs ?_ | refine msK hs ?_); clear hs; (try clear w); rintro w hs; try simp only [cls] at hs) | ((first | refine al_ok hs ?_ | refine bx_ok hs ?_ | refine bsvK hs ?_ | refine bs1_ok hs ?_); clear hs; (try clear w); rintro _ w hs; try simp only [cls] at hs)))
      rename_i l2
      have hr : Ro ⟨w, (Ck.bk hb' (hcells (asN k) part) 100).foot⟩ (some ⟨l2, 0, none⟩) ([97].map u8v) := hs.roOther (i := 3) rfl (by decide)
      refine call_ok (by kernel_rfl) (Write_calls _ w hb' (asN k) part _ 1 [97] (hs.one 3 rfl) hok (hG.up hs 3 rfl) hr (by decide) (by rw [hal]; simp; omega)) ?_; rintro _ w2 ⟨p2, H2, rfl, hok2, hb⟩; rw [callK_ret]; replace hs := Sat.upd hs 3 rfl hb; clear hb; (try clear w); rename World => w; try simp only [cls] at hs
      clear hr
      have has : asN k ++ [97] = asN (k + 1) := by unfold asN; rw [List.replicate_succ']
      rw [has] at hok2
      rw [has] at hs
      (repeat (first | (simp (disch := first | omega | assumption | exact Option.isSome_some | (simp only [adO_isSome]; assumption)) only [↓vcp, vcs, vct, if_true, if_false, Nat.reduceBEq, ↓reduceIte, Nat.reduceEqDiff, Nat.reduceAdd, Nat.reduceMul, Nat.reduceSub, Int.reduceToNat, reduceCtorEq, Nat.reduceLT, Nat.reduceLeDiff, Int.reduceSub, Int.reduceAdd, Int.reduceNeg, Sat.look hs, Sat.lookA hs]) | (refine khK he hs ?_; clear he; intro he) | ((first | refine stK hs ?_ | refine stFK hs ?_ | refine stAK hs ?_ | refine msK hs ?_); clear hs; (try clear w); rintro w hs; try simp only [cls] at hs) | ((first | refine al_ok hs ?_ | refine bx_ok hs ?_ | refine bsvK hs ?_ | refine bs1_ok hs ?_); clear hs; (try clear w); rintro _ w hs; try simp only [cls] at hs)))
      refine apK 1 hs (hs.rd) ?_; clear hs; (try clear w); rintro a2 c2 w hc2 hs; try simp only [cls] at hs
      (repeat (first | (simp (disch := first | omega | assumption | exact Option.isSome_some | (simp only [adO_isSome]; assumption)) only [↓vcp, vcs, vct, if_true, if_false, Nat.reduceBEq, ↓reduceIte, Nat.reduceEqDiff, Nat.reduceAdd, Nat.reduceMul, Nat.reduceSub, Int.reduceToNat, reduceCtorEq, Nat.reduceLT, Nat.reduceLeDiff, Int.reduceSub, Int.reduceAdd, Int.reduceNeg, Sat.look hs, Sat.lookA hs]) | (refine khK he hs ?_; clear he; intro he) | ((first | refine stK hs ?_ | refine stFK hs ?_ | refine stAK hs ?_ | refine msK hs ?_); clear hs; (try clear w); rintro w hs; try simp only [cls] at hs) | ((first | refine al_ok hs ?_ | refine bx_ok hs ?_ | refine bsvK hs ?_ | refine bs1_ok hs ?_); clear hs; (try clear w); rintro _ w hs; try simp only [cls] at hs)))
      have hm : (asN k).map u8v ++ [.int .u8 97] = (asN (k + 1)).map u8v := by rw [← has, List.map_append]; rfl
      rw [hm] at hs
      replace hs := hs.take 5
      simp only [List.take_succ_cons, List.take_zero] at hs
      exact ⟨(k + 1, p2, a2, c2), by rfl, by rfl, ⟨by dsimp only; omega, hc2, hok2, hs⟩, by dsimp only; omega⟩
    case neg =>
      obtain rfl : k = x := by omega
      (repeat (first | (simp (disch := first | omega | assumption | exact Option.isSome_some | (simp only [adO_isSome]; assumption)) only [↓vcp, vcs, vct, if_true, if_false, Nat.reduceBEq, ↓reduceIte, Nat.reduceEqDiff, Nat.reduceAdd, Nat.reduceMul, Nat.reduceSub, Int.reduceToNat, reduceCtorEq, Nat.reduceLT, Nat.reduceLeDiff, Int.reduceSub, Int.reduceAdd, Int.reduceNeg, Sat.look hs, Sat.lookA hs]) | (refine khK he hs ?_; clear he; intro he) | ((first | refine stK hs ?_ | refine stFK hs ?_ | refine stAK hs ?_ | refine msK hs ?_); clear hs; (try clear w); rintro w hs; try simp only [cls] at hs) | ((first | refine al_ok hs ?_ | refine bx_ok hs ?_ | refine bsvK hs ?_ | refine bs1_ok hs ?_); clear hs; (try clear w); rintro _ w hs; try simp only [cls] at hs)))
      have hd := DSum_calls w aa ac (asN k) (hG.up0 hs) hs.ro (by rw [hal]; omega) (by rw [hal]; omega)
      rw [hal] at hd
      have hsl := sum_len (asN k)
      have hdg : dg k = (sum (asN k)).map u8v := rfl
      have hne : ∀ m ∈ vis, sum (asN m) ≠ sum (asN k) := fun m hm => by
        obtain ⟨h1, h2⟩ := hv m hm
        exact sums_ne h1 hxl (by omega)
      refine call_ok (by kernel_rfl) (hd) ?_; rintro _ w2 ⟨rfl, hb⟩; rw [callK_ret]; replace hs := Sat.add hs (Below.sat hb); clear hb; (try clear w); rename World => w; try simp only [cls] at hs
      obtain ⟨sx, hsx⟩ : ∃ sx, sum (asN k) = sx := ⟨_, rfl⟩
      rw [hsx] at hdg hsl ⊢ 
      have hsl' : (sx.map u8v).length = 32 := by rw [List.length_map]; exact hsl
      have hst : (sx.map u8v).take 32 = sx.map u8v := List.take_of_length_le (by omega)
      (repeat (first | (simp (disch := first | omega | assumption | exact Option.isSome_some | (simp only [adO_isSome]; assumption)) only [↓vcp, vcs, vct, if_true, if_false, Nat.reduceBEq, ↓reduceIte, Nat.reduceEqDiff, Nat.reduceAdd, Nat.reduceMul, Nat.reduceSub, Int.reduceToNat, reduceCtorEq, Nat.reduceLT, Nat.reduceLeDiff, Int.reduceSub, Int.reduceAdd, Int.reduceNeg, Sat.look hs, Sat.lookA hs, hsl', hst]) | (refine khK he hs ?_; clear he; intro he) | ((first | refine stK hs ?_ | refine stFK hs ?_ | refine stAK hs ?_ | refine msK hs ?_); clear hs; (try clear w); rintro w hs; try simp only [cls] at hs; try simp only [hsl'] at hs) | ((first | refine al_ok hs ?_ | refine bx_ok hs ?_ | refine bsvK hs ?_ | refine bs1_ok hs ?_); clear hs; (try clear w); rintro _ w hs; try simp only [cls] at hs; try simp only [hsl'] at hs) | ((first | refine stK hs ?_ (by first | omega | (simp only [hsl', cells_bk, cells_sl, List.length_cons, List.length_nil, List.length_set, List.length_append, List.length_map, List.length_replicate, List.length_take, List.length_drop]; omega) | assumption | rfl) | refine stFK hs ?_ (by first | omega | (simp only [hsl', cells_bk, cells_sl, List.length_cons, List.length_nil, List.length_set, List.length_append, List.length_map, List.length_replicate, List.length_take, List.length_drop]; omega) | assumption | rfl) (by first | omega | (simp only [hsl', cells_bk, cells_sl, List.length_cons, List.length_nil, List.length_set, List.length_append, List.length_map, List.length_replicate, List.length_take, List.length_drop]; omega) | assumption | rfl) | refine stAK hs ?_ (by first | omega | (simp only [hsl', cells_bk, cells_sl, List.length_cons, List.length_nil, List.length_set, List.length_append, List.length_map, List.length_replicate, List.length_take, List.length_drop]; omega) | assumption | rfl) (by first | omega | (simp only [hsl', cells_bk, cells_sl, List.length_cons, List.length_nil, List.length_set, List.length_append, List.length_map, List.length_replicate, List.length_take, List.length_drop]; omega) | assumption | rfl) | refine msK hs ?_ (by first | omega | (simp only [hsl', cells_bk, cells_sl, List.length_cons, List.length_nil, List.length_set, List.length_append, List.length_map, List.length_replicate, List.length_take, List.length_drop]; omega) | assumption | rfl)); clear hs; (try clear w); rintro w hs; try simp only [cls] at hs; try simp only [hsl'] at hs)))
      rename_i db
      refine draw_plan (SatE _ _) [(1, true), (0, true), (2, false), (3, true)] (by kernel_rfl) (by kernel_rfl) (Sat.e (Sat.drew hs)) ?_; replace hs := Sat.drew hs; revert hs; generalize World.drew _ = w; intro hs; have he := Sat.e hs
      have tk : 0 + 32 ≤ (Ck.bk db (sx.map u8v) 28).cells.length := by rw [cells_bk, hsl']; omega
      (repeat (first | (simp (disch := first | omega | assumption | exact Option.isSome_some | (simp only [adO_isSome]; assumption)) only [↓vcp, vcs, vct, if_true, if_false, Nat.reduceBEq, ↓reduceIte, Nat.reduceEqDiff, Nat.reduceAdd, Nat.reduceMul, Nat.reduceSub, Int.reduceToNat, reduceCtorEq, Nat.reduceLT, Nat.reduceLeDiff, Int.reduceSub, Int.reduceAdd, Int.reduceNeg, Sat.look hs, Sat.lookA hs, m_loadEA _ he _ tk (by omega), hst]) | (refine khK he hs ?_; clear he; intro he) | ((first | refine stK hs ?_ | refine stFK hs ?_ | refine stAK hs ?_ | refine msK hs ?_); clear hs; (try clear w); rintro w hs; try simp only [cls] at hs) | ((first | refine al_ok hs ?_ | refine bx_ok hs ?_ | refine bsvK hs ?_ | refine bs1_ok hs ?_); clear hs; (try clear w); rintro _ w hs; try simp only [cls] at hs)))
      refine call_ok (by kernel_rfl) (HSum_calls _ w hb' (asN k) part (hs.one 3 rfl) hok (hG.up hs 3 rfl) (by rw [hal]; omega)) ?_; rintro _ w2 ⟨H2, rfl, hb⟩; rw [callK_ret]; replace hs := Sat.upd hs 3 rfl hb; clear hb; (try clear w); rename World => w; try simp only [cls] at hs
      rw [hsx]
      (repeat (first | (simp (disch := first | omega | assumption | exact Option.isSome_some | (simp only [adO_isSome]; assumption)) only [↓vcp, vcs, vct, if_true, if_false, Nat.reduceBEq, ↓reduceIte, Nat.reduceEqDiff, Nat.reduceAdd, Nat.reduceMul, Nat.reduceSub, Int.reduceToNat, reduceCtorEq, Nat.reduceLT, Nat.reduceLeDiff, Int.reduceSub, Int.reduceAdd, Int.reduceNeg, Sat.look hs, Sat.lookA hs, m_loadEA _ he _ tk (by omega), hst, m_neArr _ _ sx sx hsl hsl]) | (refine khK he hs ?_; clear he; intro he) | ((first | refine stK hs ?_ | refine stFK hs ?_ | refine stAK hs ?_ | refine msK hs ?_); clear hs; (try clear w); rintro w hs; try simp only [cls] at hs) | ((first | refine al_ok hs ?_ | refine bx_ok hs ?_ | refine bsvK hs ?_ | refine bs1_ok hs ?_); clear hs; (try clear w); rintro _ w hs; try simp only [cls] at hs)))
      replace hs := hs.take 6
      simp only [List.take_succ_cons, List.take_zero] at hs
      clear he tk hd
      refine loop_rule (σ := Nat) [9] (fun j => [.int .i64 j]) [3, 4, 8] (fun j w' => j ≤ vis.length ∧ Sat (.at w0) [.bk nb (nd.map u8v) 28, .bk lb (ld.map u8v) 28, .sl sa sc (vis.flatMap dg) 28 32, .bk hb' (hcells (asN k) part) 100, .sl aa ac ((asN k).map u8v) 5 1, .bk db (sx.map u8v) 28] w')
        (fun j _ => vis.length - j) 0 (by kernel_rfl) rfl ⟨by omega, hs⟩ ?_
      clear hs
      rintro e j w ⟨hj, hs⟩
      simp (disch := first | omega | assumption | exact Option.isSome_some | (simp only [adO_isSome]; assumption)) only [↓vcp, vcs, vct, if_true, if_false, Nat.reduceBEq, ↓reduceIte, Nat.reduceEqDiff, Nat.reduceAdd, Nat.reduceMul, Nat.reduceSub, Int.reduceToNat, reduceCtorEq, Nat.reduceLT, Nat.reduceLeDiff, Int.reduceSub, Int.reduceAdd, Int.reduceNeg, Sat.look hs, Sat.lookA hs]
      have hflen := dg_len vis
      by_cases hjl : j < vis.length
      case pos =>
        have hsj := dg_get hjl
        have hsa : sa.isSome = true := hs.isSome (xs := vis.flatMap dg) (by rw [hflen]; omega)
        have hjb : j * 32 + 32 ≤ vis.length * 32 := by omega
        have hsm := hne _ (List.getElem_mem hjl)
        have hml := sum_len (asN vis[j])
        rw [show dg vis[j] = (sum (asN vis[j])).map u8v from rfl] at hsj
        rw [hsx] at hsm
        generalize sum (asN vis[j]) = sm at *
        have hdec : decide (sm = sx) = false := decide_eq_false hsm
        (repeat (first | (simp (disch := first | omega | assumption | exact Option.isSome_some | (simp only [adO_isSome]; assumption)) only [↓vcp, vcs, vct, if_true, if_false, Nat.reduceBEq, ↓reduceIte, Nat.reduceEqDiff, Nat.reduceAdd, Nat.reduceMul, Nat.reduceSub, Int.reduceToNat, reduceCtorEq, Nat.reduceLT, Nat.reduceLeDiff, Int.reduceSub, Int.reduceAdd, Int.reduceNeg, Sat.look hs, Sat.lookA hs]) | (refine khK he hs ?_; clear he; intro he) | ((first | refine stK hs ?_ | refine stFK hs ?_ | refine stAK hs ?_ | refine msK hs ?_); clear hs; (try clear w); rintro w hs; try simp only [cls] at hs) | ((first | refine al_ok hs ?_ | refine bx_ok hs ?_ | refine bsvK hs ?_ | refine bs1_ok hs ?_); clear hs; (try clear w); rintro _ w hs; try simp only [cls] at hs)))
        refine draw_still 5 (by kernel_rfl) (by kernel_rfl) (by kernel_rfl) ?_
        replace hs := Sat.drew hs; revert hs; generalize World.drew _ = w; intro hs
        (repeat (first | (simp (disch := first | omega | assumption | exact Option.isSome_some | (simp only [adO_isSome]; assumption)) only [↓vcp, vcs, vct, if_true, if_false, Nat.reduceBEq, ↓reduceIte, Nat.reduceEqDiff, Nat.reduceAdd, Nat.reduceMul, Nat.reduceSub, Int.reduceToNat, reduceCtorEq, Nat.reduceLT, Nat.reduceLeDiff, Int.reduceSub, Int.reduceAdd, Int.reduceNeg, Sat.look hs, Sat.lookA hs, hst, hsl', hflen, hjb, hsj, m_eqArr _ _ sm sx hml hsl, hdec]) | (refine khK he hs ?_; clear he; intro he) | ((first | refine stK hs ?_ | refine stFK hs ?_ | refine stAK hs ?_ | refine msK hs ?_); clear hs; (try clear w); rintro w hs; try simp only [cls] at hs) | ((first | refine al_ok hs ?_ | refine bx_ok hs ?_ | refine bsvK hs ?_ | refine bs1_ok hs ?_); clear hs; (try clear w); rintro _ w hs; try simp only [cls] at hs)))
        exact ⟨j + 1, by rfl, by rfl, ⟨by omega, hs⟩, by dsimp only; omega⟩
      case neg =>
        obtain rfl : j = vis.length := by omega
        (repeat (first | (simp (disch := first | omega | assumption | exact Option.isSome_some | (simp only [adO_isSome]; assumption)) only [↓vcp, vcs, vct, if_true, if_false, Nat.reduceBEq, ↓reduceIte, Nat.reduceEqDiff, Nat.reduceAdd, Nat.reduceMul, Nat.reduceSub, Int.reduceToNat, reduceCtorEq, Nat.reduceLT, Nat.reduceLeDiff, Int.reduceSub, Int.reduceAdd, Int.reduceNeg, Sat.look hs, Sat.lookA hs, hst, hsl']) | (refine khK he hs ?_; clear he; intro he) | ((first | refine stK hs ?_ | refine stFK hs ?_ | refine stAK hs ?_ | refine msK hs ?_); clear hs; (try clear w); rintro w hs; try simp only [cls] at hs) | ((first | refine al_ok hs ?_ | refine bx_ok hs ?_ | refine bsvK hs ?_ | refine bs1_ok hs ?_); clear hs; (try clear w); rintro _ w hs; try simp only [cls] at hs)))
        refine bsa1_ok hs ?_ hsl' (by omega) (by omega)
        clear hs
        clear w
        rintro _ w hs
        try simp only [cls] at hs
        (repeat (first | (simp (disch := first | omega | assumption | exact Option.isSome_some | (simp only [adO_isSome]; assumption)) only [↓vcp, vcs, vct, if_true, if_false, Nat.reduceBEq, ↓reduceIte, Nat.reduceEqDiff, Nat.reduceAdd, Nat.reduceMul, Nat.reduceSub, Int.reduceToNat, reduceCtorEq, Nat.reduceLT, Nat.reduceLeDiff, Int.reduceSub, Int.reduceAdd, Int.reduceNeg, Sat.look hs, Sat.lookA hs]) | (refine khK he hs ?_; clear he; intro he) | ((first | refine stK hs ?_ | refine stFK hs ?_ | refine stAK hs ?_ | refine msK hs ?_); clear hs; (try clear w); rintro w hs; try simp only [cls] at hs) | ((first | refine al_ok hs ?_ | refine bx_ok hs ?_ | refine bsvK hs ?_ | refine bs1_ok hs ?_); clear hs; (try clear w); rintro _ w hs; try simp only [cls] at hs)))
        refine apK 1 hs (hs.rd) ?_; clear hs; (try clear w); rintro a2 c2 w hc2 hs; try simp only [cls] at hs
        rw [← hdg] at hs
        have hfm : vis.flatMap dg ++ dg k = (vis ++ [k]).flatMap dg := by simp
        rw [hfm] at hs
        replace hs := hs.take 3
        simp only [List.take_succ_cons, List.take_zero] at hs
        (repeat (first | (simp (disch := first | omega | assumption | exact Option.isSome_some | (simp only [adO_isSome]; assumption)) only [↓vcp, vcs, vct, if_true, if_false, Nat.reduceBEq, ↓reduceIte, Nat.reduceEqDiff, Nat.reduceAdd, Nat.reduceMul, Nat.reduceSub, Int.reduceToNat, reduceCtorEq, Nat.reduceLT, Nat.reduceLeDiff, Int.reduceSub, Int.reduceAdd, Int.reduceNeg, Sat.look hs, Sat.lookA hs]) | (refine khK he hs ?_; clear he; intro he) | ((first | refine stK hs ?_ | refine stFK hs ?_ | refine stAK hs ?_ | refine msK hs ?_); clear hs; (try clear w); rintro w hs; try simp only [cls] at hs) | ((first | refine al_ok hs ?_ | refine bx_ok hs ?_ | refine bsvK hs ?_ | refine bs1_ok hs ?_); clear hs; (try clear w); rintro _ w hs; try simp only [cls] at hs)))
        exact ⟨(k + 1, vis ++ [k], a2, c2), by (show _ = [Value.int .i64 _, Value.slice a2 (vis ++ [k]).length c2]; rw [List.length_append]; rfl), by rfl, ⟨by dsimp only; omega, by dsimp only; omega, by dsimp only; omega, by
          intro m hm
          rcases List.mem_append.1 hm with hm | hm
          · exact ⟨(hv m hm).1, by have := (hv m hm).2; dsimp only; omega⟩
          · simp at hm; subst hm; exact ⟨hxl, by dsimp only; omega⟩, by simp; omega, hs⟩, by dsimp only; omega⟩
end Go.Proofs.YtkklmjioheimfaaDoor.Dig
