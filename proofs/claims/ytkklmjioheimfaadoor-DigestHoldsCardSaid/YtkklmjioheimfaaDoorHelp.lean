/- Helpers of the laws: Eq, Intact. -/
import Derived.Test.YtkklmjioheimfaaDoorLend
namespace Go.Proofs.YtkklmjioheimfaaDoor.Help
open Go VC Varint Go.RowKit
set_option linter.unusedSimpArgs false
set_option maxRecDepth 20000
theorem u8_inj {x y : UInt8} (h : x.toNat = y.toNat) : x = y := UInt8.toNat_inj.1 h
theorem Eq_calls (w : World) (a b : Option Addr) (c d : Nat) (xs ys : List UInt8) (hx : RdB w w.heap.size a xs) (hy : RdB w w.heap.size b ys) (hxl : xs.length ≤ 140737488355328) :
    Calls Tryd.prog 18 #[.slice a xs.length c, .slice b ys.length d] w fun e w' => e = .returned (.bool (decide (xs = ys))) ∧ Below w.heap.size w w' := by
  refine calls_vc Tryd.func18 rfl (by kernel_rfl) (by kernel_rfl) ?_; intro R hR
  simp (disch := first | omega | assumption | exact Option.isSome_some | (simp only [adO_isSome]; assumption)) only [↓vcp, vcs, vcm, if_true, if_false, Nat.reduceBEq, ↓reduceIte, Nat.reduceEqDiff, Nat.reduceAdd, Nat.reduceMul, Nat.reduceSub, Int.reduceToNat, reduceCtorEq, Nat.reduceLT, Nat.reduceLeDiff, Int.reduceSub, Int.reduceAdd, Int.reduceNeg]
  by_cases hl : xs.length = ys.length
  case neg =>
    have hne : xs ≠ ys := fun e => hl (by rw [e])
    rw [decide_eq_false hne] at hR
    simp (disch := first | omega | assumption | exact Option.isSome_some | (simp only [adO_isSome]; assumption)) only [↓vcp, vcs, vcm, if_true, if_false, Nat.reduceBEq, ↓reduceIte, Nat.reduceEqDiff, Nat.reduceAdd, Nat.reduceMul, Nat.reduceSub, Int.reduceToNat, reduceCtorEq, Nat.reduceLT, Nat.reduceLeDiff, Int.reduceSub, Int.reduceAdd, Int.reduceNeg]
    exact ret_tmp rfl (hR _ _ ⟨rfl, Below.refl _ _⟩)
  case pos =>
    simp (disch := first | omega | assumption | exact Option.isSome_some | (simp only [adO_isSome]; assumption)) only [↓vcp, vcs, vcm, if_true, if_false, Nat.reduceBEq, ↓reduceIte, Nat.reduceEqDiff, Nat.reduceAdd, Nat.reduceMul, Nat.reduceSub, Int.reduceToNat, reduceCtorEq, Nat.reduceLT, Nat.reduceLeDiff, Int.reduceSub, Int.reduceAdd, Int.reduceNeg]
    refine loop_rule (σ := Nat) [5] (fun i => [.int .i64 i]) [0, 1] (fun i w' => i ≤ xs.length ∧ xs.take i = ys.take i ∧ Below w.heap.size w w') (fun i _ => xs.length - i) 0 (by kernel_rfl) rfl ⟨by omega, rfl, Below.refl _ _⟩ ?_
    rintro e i w1 ⟨hi, htk, hb⟩
    simp (disch := first | omega | assumption | exact Option.isSome_some | (simp only [adO_isSome]; assumption)) only [↓vcp, vcs, vcm, if_true, if_false, Nat.reduceBEq, ↓reduceIte, Nat.reduceEqDiff, Nat.reduceAdd, Nat.reduceMul, Nat.reduceSub, Int.reduceToNat, reduceCtorEq, Nat.reduceLT, Nat.reduceLeDiff, Int.reduceSub, Int.reduceAdd, Int.reduceNeg]
    by_cases hlt : i < xs.length
    case neg =>
      have heq : xs = ys := by
        have h1 : i = xs.length := by omega
        rw [h1, List.take_length, hl, List.take_length] at htk
        exact htk
      rw [decide_eq_true heq] at hR
      simp (disch := first | omega | assumption | exact Option.isSome_some | (simp only [adO_isSome]; assumption)) only [↓vcp, vcs, vcm, if_true, if_false, Nat.reduceBEq, ↓reduceIte, Nat.reduceEqDiff, Nat.reduceAdd, Nat.reduceMul, Nat.reduceSub, Int.reduceToNat, reduceCtorEq, Nat.reduceLT, Nat.reduceLeDiff, Int.reduceSub, Int.reduceAdd, Int.reduceNeg]
      exact ret_tmp rfl (hR _ _ ⟨rfl, hb⟩)
    case pos =>
      have hx1 := hx.below hb
      have hy1 := hy.below hb
      have h1 := RdB.cell hx1 hlt
      have h2 := RdB.cell hy1 (i := i) (by omega)
      have hs1 := RdB.isSome hx1 (by omega)
      have hs2 := RdB.isSome hy1 (by omega)
      simp (disch := first | omega | assumption | exact Option.isSome_some | (simp only [adO_isSome]; assumption)) only [↓vcp, vcs, vcm, if_true, if_false, Nat.reduceBEq, ↓reduceIte, Nat.reduceEqDiff, Nat.reduceAdd, Nat.reduceMul, Nat.reduceSub, Int.reduceToNat, reduceCtorEq, Nat.reduceLT, Nat.reduceLeDiff, Int.reduceSub, Int.reduceAdd, Int.reduceNeg, h1, h2]
      refine draw_quiet (by kernel_rfl) (by kernel_rfl) (by kernel_rfl) ?_
      simp (disch := first | omega | assumption | exact Option.isSome_some | (simp only [adO_isSome]; assumption)) only [↓vcp, vcs, vcm, if_true, if_false, Nat.reduceBEq, ↓reduceIte, Nat.reduceEqDiff, Nat.reduceAdd, Nat.reduceMul, Nat.reduceSub, Int.reduceToNat, reduceCtorEq, Nat.reduceLT, Nat.reduceLeDiff, Int.reduceSub, Int.reduceAdd, Int.reduceNeg, h1, h2]
      intro n
      by_cases hxy : xs[i] = ys[i]
      · have hn : xs[i].toNat = (ys[i]'(by omega)).toNat := by rw [hxy]
        simp (disch := first | omega | assumption | exact Option.isSome_some | (simp only [adO_isSome]; assumption)) only [↓vcp, vcs, vcm, if_true, if_false, Nat.reduceBEq, ↓reduceIte, Nat.reduceEqDiff, Nat.reduceAdd, Nat.reduceMul, Nat.reduceSub, Int.reduceToNat, reduceCtorEq, Nat.reduceLT, Nat.reduceLeDiff, Int.reduceSub, Int.reduceAdd, Int.reduceNeg]
        refine ⟨i + 1, by rfl, by rfl, ⟨by omega, ?_, below_drewN hb n⟩, by dsimp only; omega⟩
        rw [List.take_succ_eq_append_getElem hlt, List.take_succ_eq_append_getElem (by omega), htk, hxy]
      · have hn : xs[i].toNat ≠ (ys[i]'(by omega)).toNat := fun h => hxy (u8_inj h)
        have hne : xs ≠ ys := fun e => hxy (by simp [e])
        rw [decide_eq_false hne] at hR
        simp (disch := first | omega | assumption | exact Option.isSome_some | (simp only [adO_isSome]; assumption)) only [↓vcp, vcs, vcm, if_true, if_false, Nat.reduceBEq, ↓reduceIte, Nat.reduceEqDiff, Nat.reduceAdd, Nat.reduceMul, Nat.reduceSub, Int.reduceToNat, reduceCtorEq, Nat.reduceLT, Nat.reduceLeDiff, Int.reduceSub, Int.reduceAdd, Int.reduceNeg]
        exact ret_tmp rfl (hR _ _ ⟨rfl, below_drewN hb n⟩)
theorem marks_at (i : Nat) (h : i < 70) : (marks 70)[i]? = some (UInt8.ofNat (165 - i)) := by
  have : ∀ j : Fin 70, (marks 70)[j.val]? = some (UInt8.ofNat (165 - j.val)) := by decide +kernel
  exact this ⟨i, h⟩
theorem Intact_calls (w : World) (a b : Option Addr) (c d : Nat) (xs : List UInt8) (hx : RdB w w.heap.size a (xs ++ marks 70)) (hc : xs.length + 70 ≤ c) (hy : RdB w w.heap.size b xs) (hxl : xs.length ≤ 140737488351232) :
    Calls Tryd.prog 15 #[.slice a xs.length c, .slice b xs.length d] w fun e w' => e = .returned (.bool true) ∧ Below w.heap.size w w' := by
  refine calls_vc Tryd.func15 rfl (by kernel_rfl) (by kernel_rfl) ?_; intro R hR
  have hml : (marks 70).length = 70 := by decide +kernel
  have hx0 : RdB w w.heap.size a xs := by
    have := RdB.take hx xs.length
    rwa [List.take_left] at this
  simp (disch := first | omega | assumption | exact Option.isSome_some | (simp only [adO_isSome]; assumption)) only [↓vcp, vcs, vcm, if_true, if_false, Nat.reduceBEq, ↓reduceIte, Nat.reduceEqDiff, Nat.reduceAdd, Nat.reduceMul, Nat.reduceSub, Int.reduceToNat, reduceCtorEq, Nat.reduceLT, Nat.reduceLeDiff, Int.reduceSub, Int.reduceAdd, Int.reduceNeg, m_strOf]
  refine loop_rule (σ := Nat) [6] (fun i => [.int .i64 i]) [0, 5] (fun i w' => i ≤ 70 ∧ Below w.heap.size w w') (fun i _ => 70 - i) 0 (by kernel_rfl) rfl ⟨by omega, Below.refl _ _⟩ ?_
  rintro e i w1 ⟨hi, hb⟩
  simp (disch := first | omega | assumption | exact Option.isSome_some | (simp only [adO_isSome]; assumption)) only [↓vcp, vcs, vcm, if_true, if_false, Nat.reduceBEq, ↓reduceIte, Nat.reduceEqDiff, Nat.reduceAdd, Nat.reduceMul, Nat.reduceSub, Int.reduceToNat, reduceCtorEq, Nat.reduceLT, Nat.reduceLeDiff, Int.reduceSub, Int.reduceAdd, Int.reduceNeg]
  by_cases hlt : i < 70
  case neg =>
    simp (disch := first | omega | assumption | exact Option.isSome_some | (simp only [adO_isSome]; assumption)) only [↓vcp, vcs, vcm, if_true, if_false, Nat.reduceBEq, ↓reduceIte, Nat.reduceEqDiff, Nat.reduceAdd, Nat.reduceMul, Nat.reduceSub, Int.reduceToNat, reduceCtorEq, Nat.reduceLT, Nat.reduceLeDiff, Int.reduceSub, Int.reduceAdd, Int.reduceNeg]
    exact ret_tmp rfl (hR _ _ ⟨rfl, hb⟩)
  case pos =>
    have hlm : xs.length + i < (xs ++ marks 70).length := by rw [List.length_append, hml]; omega
    have hel : (xs ++ marks 70)[xs.length + i] = UInt8.ofNat (165 - i) := by
      have h1 := marks_at i hlt
      have h2 : (xs ++ marks 70)[xs.length + i]? = some (UInt8.ofNat (165 - i)) := by
        rw [List.getElem?_append_right (by omega), Nat.add_sub_cancel_left, h1]
      rw [List.getElem?_eq_getElem hlm] at h2
      exact Option.some.inj h2
    have hS0 : Below w1.heap.size w1 w1.drew := (Below.refl _ _).drew
    have hsz := hb.size
    have hcell : ∀ w', Below w1.heap.size w1 w' → cellO w' (adO a (xs.length + i)) = some (.int .u8 ((165 - i : Nat) : Int)) := fun w' hb' => by
      have := RdB.cell (hx.below (hb.trans (hb'.mono hsz))) hlm
      rw [this, hel, ofNat_toNat _ (by omega)]
    have hs : a.isSome = true := RdB.isSome hx (by omega)
    have hcast : ((xs.length : Int) + (i : Int)).toNat = xs.length + i := by omega
    simp (disch := first | omega | assumption | exact Option.isSome_some | (simp only [adO_isSome]; assumption)) only [↓vcp, vcs, vcm, if_true, if_false, Nat.reduceBEq, ↓reduceIte, Nat.reduceEqDiff, Nat.reduceAdd, Nat.reduceMul, Nat.reduceSub, Int.reduceToNat, reduceCtorEq, Nat.reduceLT, Nat.reduceLeDiff, Int.reduceSub, Int.reduceAdd, Int.reduceNeg]
    refine draw_plan (Below w1.heap.size w1) [(0, true), (1, true), (2, true), (3, true), (4, true), (5, true), (6, true), (7, true), (8, false), (9, true)] (by kernel_rfl) (by kernel_rfl) hS0 ?_
    simp (disch := first | omega | assumption | exact Option.isSome_some | (simp only [adO_isSome]; assumption)) only [↓vcp, vcs, vcm, if_true, if_false, Nat.reduceBEq, ↓reduceIte, Nat.reduceEqDiff, Nat.reduceAdd, Nat.reduceMul, Nat.reduceSub, Int.reduceToNat, reduceCtorEq, Nat.reduceLT, Nat.reduceLeDiff, Int.reduceSub, Int.reduceAdd, Int.reduceNeg, m_loadN 5 _ _ hcell, hcast]
    refine call_ok (by kernel_rfl) (markAt_calls _ i hlt) ?_; rintro e w' ⟨rfl, rfl⟩; rw [callK_ret]
    refine And.intro hS0 ?_
    simp (disch := first | omega | assumption | exact Option.isSome_some | (simp only [adO_isSome]; assumption)) only [↓vcp, vcs, vcm, if_true, if_false, Nat.reduceBEq, ↓reduceIte, Nat.reduceEqDiff, Nat.reduceAdd, Nat.reduceMul, Nat.reduceSub, Int.reduceToNat, reduceCtorEq, Nat.reduceLT, Nat.reduceLeDiff, Int.reduceSub, Int.reduceAdd, Int.reduceNeg]
    exact ⟨i + 1, by rfl, by rfl, ⟨by omega, hb.trans (hS0.mono hsz)⟩, by dsimp only; omega⟩
end Go.Proofs.YtkklmjioheimfaaDoor.Help
