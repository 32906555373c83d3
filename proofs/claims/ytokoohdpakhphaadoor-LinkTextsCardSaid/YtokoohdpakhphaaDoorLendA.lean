/- Several texts in one. -/
import Derived.Test.YtokoohdpakhphaaDoorVarintA
namespace Go.Proofs.YtokoohdpakhphaaDoor.Varint
open Go VC Go.RowKit
set_option linter.unusedSimpArgs false
set_option maxRecDepth 20000
theorem markAt_calls (w : World) (i : Nat) (h : i < 70) : Calls Tryd.prog 50 #[.int .i64 i] w fun e w' => e = .returned (.int .u8 ((165 - i : Nat) : Int)) ∧ w = w' := by
  refine calls_vc Tryd.func50 rfl (by kernel_rfl) (by kernel_rfl) ?_; intro R hR
  simp (disch := first | omega | assumption | exact Option.isSome_some | (simp only [adO_isSome]; assumption)) only [↓vcp, vcs, vcm, if_true, if_false, Nat.reduceBEq, ↓reduceIte, Nat.reduceEqDiff, Nat.reduceAdd, Nat.reduceMul, Nat.reduceSub, Int.reduceToNat, reduceCtorEq, Nat.reduceLT, Nat.reduceLeDiff, Int.reduceSub, Int.reduceAdd, Int.reduceNeg]
  refine ret_tmp rfl (hR _ _ ⟨?_, rfl⟩)
  rw [show ((165 - i : Nat) : Int) = 165 - (i : Int) by omega]
  rfl
def marks (k : Nat) : List UInt8 := (List.range k).map fun i => UInt8.ofNat (165 - i)
theorem marks_len (k : Nat) : (marks k).length = k := by simp [marks]
theorem marks_succ (k : Nat) : marks (k + 1) = marks k ++ [UInt8.ofNat (165 - k)] := by simp [marks, List.range_succ]
theorem new_cell (w : World) (v : Value) (el : Nat) : Rd (w.alloc (.cells #[v] el)) (w.heap.size + 1) (some ⟨w.heap.size, 0, none⟩) [v] := fun hn => ⟨_, rfl, by simp, fun i hi => cell_one_new _ _ _ i _ (List.getElem?_eq_getElem hi)⟩
theorem oneCell_u8 (xs : List UInt8) : ∀ u ∈ xs.map u8v, u.oneCell' = true := by
  intro u hu
  obtain ⟨b, _, rfl⟩ := List.mem_map.1 hu
  rfl
theorem Lend_calls (w : World) (a : Option Addr) (c : Nat) (xs : List UInt8) (hx : RdB w w.heap.size a xs) (hn : xs.length ≤ 140737488351232) :
    Calls Tryd.prog 28 #[.slice a xs.length c] w fun e w' => ∃ a' c', e = .returned (.slice a' xs.length c') ∧
      Own w' w.heap.size 5 1 a' (xs.length + 70) c' ((xs ++ marks 70).map u8v) ∧ Below w.heap.size w w' := by
  refine calls_vc Tryd.func28 rfl (by kernel_rfl) (by kernel_rfl) ?_; intro R hR
  simp (disch := first | omega | assumption | exact Option.isSome_some | (simp only [adO_isSome]; assumption)) only [↓vcp, vcs, vcm, if_true, if_false, Nat.reduceBEq, ↓reduceIte, Nat.reduceEqDiff, Nat.reduceAdd, Nat.reduceMul, Nat.reduceSub, Int.reduceToNat, reduceCtorEq, Nat.reduceLT, Nat.reduceLeDiff, Int.reduceSub, Int.reduceAdd, Int.reduceNeg]
  refine m_make 49 w.heap.size (xs.length + 70) (by omega) (by omega) (by unfold maxLen; omega) (Nat.le_refl _) fun w1 hown hg hz => ?_
  simp (disch := first | omega | assumption | exact Option.isSome_some | (simp only [adO_isSome]; assumption)) only [↓vcp, vcs, vcm, if_true, if_false, Nat.reduceBEq, ↓reduceIte, Nat.reduceEqDiff, Nat.reduceAdd, Nat.reduceMul, Nat.reduceSub, Int.reduceToNat, reduceCtorEq, Nat.reduceLT, Nat.reduceLeDiff, Int.reduceSub, Int.reduceAdd, Int.reduceNeg]
  have hb1 : Below w.heap.size w w1 := (Below.refl _ _).grown hg (Nat.le_refl _) (fun k hk => by cases hk)
  refine m_append 49 _ w.heap.size (m := xs.length) (by rfl) (by omega) hown (hx.below hb1) (by simp) (oneCell_u8 xs) (by unfold maxLen; omega) (by omega) hb1.size fun a2 c2 w2 hown2 hg2 _ => ?_
  have hb2 : Below w.heap.size w w2 := hb1.grown hg2 hb1.size (fun k hk => (World.ownsRow.lt hown k hk).1)
  simp (disch := first | omega | assumption | exact Option.isSome_some | (simp only [adO_isSome]; assumption)) only [↓vcp, vcs, vcm, if_true, if_false, Nat.reduceBEq, ↓reduceIte, Nat.reduceEqDiff, Nat.reduceAdd, Nat.reduceMul, Nat.reduceSub, Int.reduceToNat, reduceCtorEq, Nat.reduceLT, Nat.reduceLeDiff, Int.reduceSub, Int.reduceAdd, Int.reduceNeg]
  refine loop_rule (σ := Nat × Option Addr × Nat) [3, 4] (fun s => [.slice s.2.1 (xs.length + s.1) s.2.2, .int .i64 s.1]) [0]
    (fun s w' => s.1 ≤ 70 ∧ Own w' w.heap.size 5 1 s.2.1 (xs.length + s.1) s.2.2 ((xs ++ marks s.1).map u8v) ∧ Below w.heap.size w w') (fun s _ => 70 - s.1) (0, a2, c2) (by kernel_rfl) ?_ ⟨by omega, ?_, hb2⟩ ?_
  · rfl
  · simpa [marks] using hown2
  · rintro b ⟨k, a3, c3⟩ w3 ⟨hk, hown3, hb3⟩
    dsimp only at hk hown3
    have hs3 := hb3.size
    simp (disch := first | omega | assumption | exact Option.isSome_some | (simp only [adO_isSome]; assumption)) only [↓vcp, vcs, vcm, if_true, if_false, Nat.reduceBEq, ↓reduceIte, Nat.reduceEqDiff, Nat.reduceAdd, Nat.reduceMul, Nat.reduceSub, Int.reduceToNat, reduceCtorEq, Nat.reduceLT, Nat.reduceLeDiff, Int.reduceSub, Int.reduceAdd, Int.reduceNeg]
    by_cases hlt : k < 70
    · simp (disch := first | omega | assumption | exact Option.isSome_some | (simp only [adO_isSome]; assumption)) only [↓vcp, vcs, vcm, if_true, if_false, Nat.reduceBEq, ↓reduceIte, Nat.reduceEqDiff, Nat.reduceAdd, Nat.reduceMul, Nat.reduceSub, Int.reduceToNat, reduceCtorEq, Nat.reduceLT, Nat.reduceLeDiff, Int.reduceSub, Int.reduceAdd, Int.reduceNeg]
      refine call_ok (by kernel_rfl) (markAt_calls w3 k hlt) ?_; rintro e w' ⟨rfl, rfl⟩; rw [callK_ret]
      simp (disch := first | omega | assumption | exact Option.isSome_some | (simp only [adO_isSome]; assumption)) only [↓vcp, vcs, vcm, if_true, if_false, Nat.reduceBEq, ↓reduceIte, Nat.reduceEqDiff, Nat.reduceAdd, Nat.reduceMul, Nat.reduceSub, Int.reduceToNat, reduceCtorEq, Nat.reduceLT, Nat.reduceLeDiff, Int.reduceSub, Int.reduceAdd, Int.reduceNeg]
      refine m_append 49 _ w.heap.size (m := 1) (by rfl) (by omega) (hown3.alloc _) (new_cell w3 _ _) rfl (by simp [Value.oneCell']) (by unfold maxLen; omega) (by omega) (by simp; omega) fun a4 c4 w4 hown4 hg4 _ => ?_
      simp (disch := first | omega | assumption | exact Option.isSome_some | (simp only [adO_isSome]; assumption)) only [↓vcp, vcs, vcm, if_true, if_false, Nat.reduceBEq, ↓reduceIte, Nat.reduceEqDiff, Nat.reduceAdd, Nat.reduceMul, Nat.reduceSub, Int.reduceToNat, reduceCtorEq, Nat.reduceLT, Nat.reduceLeDiff, Int.reduceSub, Int.reduceAdd, Int.reduceNeg]
      have hu : u8v (UInt8.ofNat (165 - k)) = .int .u8 ((165 - k : Nat) : Int) := by unfold u8v; rw [ofNat_toNat _ (by omega)]
      refine ⟨(k + 1, a4, c4), ?_, ?_, ⟨by dsimp only; omega, ?_, (hb3.alloc hs3 _).grown hg4 (by simp; omega) (fun k hk => (World.ownsRow.lt hown3 k hk).1)⟩, by dsimp only; omega⟩
      · simp (disch := first | omega | assumption | exact Option.isSome_some | (simp only [adO_isSome]; assumption)) only [↓vcp, vcs, vcm, if_true, if_false, Nat.reduceBEq, ↓reduceIte, Nat.reduceEqDiff, Nat.reduceAdd, Nat.reduceMul, Nat.reduceSub, Int.reduceToNat, reduceCtorEq, Nat.reduceLT, Nat.reduceLeDiff, Int.reduceSub, Int.reduceAdd, Int.reduceNeg]
        simp [Nat.add_assoc]
      · rfl
      · dsimp only
        rw [marks_succ, ← List.append_assoc, List.map_append, List.map_cons, List.map_nil, hu]
        exact hown4
    · obtain rfl : k = 70 := by omega
      have hc3 : xs.length + 70 ≤ c3 := by
        rcases hown3.form with ⟨_, h, _, _⟩ | ⟨_, _, _, _, _, h, _⟩ <;> omega
      simp (disch := first | omega | assumption | exact Option.isSome_some | (simp only [adO_isSome]; assumption)) only [↓vcp, vcs, vcm, if_true, if_false, Nat.reduceBEq, ↓reduceIte, Nat.reduceEqDiff, Nat.reduceAdd, Nat.reduceMul, Nat.reduceSub, Int.reduceToNat, reduceCtorEq, Nat.reduceLT, Nat.reduceLeDiff, Int.reduceSub, Int.reduceAdd, Int.reduceNeg]
      exact ret_tmp rfl (hR _ _ ⟨a3, c3, rfl, hown3, hb3⟩)
end Go.Proofs.YtokoohdpakhphaaDoor.Varint
namespace Go.Proofs.YtokoohdpakhphaaDoor.Help
open Go VC Varint Go.RowKit
set_option linter.unusedSimpArgs false
set_option maxRecDepth 20000
theorem u8_inj {x y : UInt8} (h : x.toNat = y.toNat) : x = y := UInt8.toNat_inj.1 h
theorem Eq_calls (w : World) (a b : Option Addr) (c d : Nat) (xs ys : List UInt8) (hx : RdB w w.heap.size a xs) (hy : RdB w w.heap.size b ys) (hxl : xs.length ≤ 140737488355328) :
    Calls Tryd.prog 22 #[.slice a xs.length c, .slice b ys.length d] w fun e w' => e = .returned (.bool (decide (xs = ys))) ∧ Below w.heap.size w w' := by
  refine calls_vc Tryd.func22 rfl (by kernel_rfl) (by kernel_rfl) ?_; intro R hR
  simp (disch := first | omega | assumption | exact Option.isSome_some | (simp only [adO_isSome]; assumption)) only [↓vcp, vcs, vcm, if_true, if_false, Nat.reduceBEq, ↓reduceIte, Nat.reduceEqDiff, Nat.reduceAdd, Nat.reduceMul, Nat.reduceSub, Int.reduceToNat, reduceCtorEq, Nat.reduceLT, Nat.reduceLeDiff, Int.reduceSub, Int.reduceAdd, Int.reduceNeg]
  by_cases hl : xs.length = ys.length
  case neg =>
    have hne : xs ≠ ys := fun e => hl (by rw [e])
    rw [decide_eq_false hne] at hR
    simp (disch := first | omega | assumption | exact Option.isSome_some | (simp only [adO_isSome]; assumption)) only [↓vcp, vcs, vcm, if_true, if_false, Nat.reduceBEq, ↓reduceIte, Nat.reduceEqDiff, Nat.reduceAdd, Nat.reduceMul, Nat.reduceSub, Int.reduceToNat, reduceCtorEq, Nat.reduceLT, Nat.reduceLeDiff, Int.reduceSub, Int.reduceAdd, Int.reduceNeg]
    exact ret_tmp rfl (hR _ _ ⟨rfl, Below.refl _ _⟩)
  case pos =>
    simp (disch := first | omega | assumption | exact Option.isSome_some | (simp only [adO_isSome]; assumption)) only [↓vcp, vcs, vcm, if_true, if_false, Nat.reduceBEq, ↓reduceIte, Nat.reduceEqDiff, Nat.reduceAdd, Nat.reduceMul, Nat.reduceSub, Int.reduceToNat, reduceCtorEq, Nat.reduceLT, Nat.reduceLeDiff, Int.reduceSub, Int.reduceAdd, Int.reduceNeg]
    refine loop_rule (σ := Nat) [5] (fun i => [.int .i64 i]) [0, 1] (fun i w' => i ≤ xs.length ∧ xs.take i = ys.take i ∧ Below w.heap.size w w') (fun i _ => xs.length - i) 0 (by kernel_rfl) rfl ⟨by omega, rfl, Below.refl _ _⟩ ?_
    rintro e i w1 ⟨hi, htk, hb⟩
    simp (disch := first | omega | assumption | exact Option.isSome_some | (simp only [adO_isSome]; assumption)) only [↓vcp, vcs, vcm, if_true, if_false, Nat.reduceBEq, ↓reduceIte, Nat.reduceEqDiff, Nat.reduceAdd, Nat.reduceMul, Nat.reduceSub, Int.reduceToNat, reduceCtorEq, Nat.reduceLT, Nat.reduceLeDiff, Int.reduceSub, Int.reduceAdd, Int.reduceNeg]
    by_cases hlt : i < xs.length
    case neg =>
      have heq : xs = ys := by
        have h1 : i = xs.length := by omega
        rw [h1, List.take_length, hl, List.take_length] at htk
        exact htk
      rw [decide_eq_true heq] at hR
      simp (disch := first | omega | assumption | exact Option.isSome_some | (simp only [adO_isSome]; assumption)) only [↓vcp, vcs, vcm, if_true, if_false, Nat.reduceBEq, ↓reduceIte, Nat.reduceEqDiff, Nat.reduceAdd, Nat.reduceMul, Nat.reduceSub, Int.reduceToNat, reduceCtorEq, Nat.reduceLT, Nat.reduceLeDiff, Int.reduceSub, Int.reduceAdd, Int.reduceNeg]
      exact ret_tmp rfl (hR _ _ ⟨rfl, hb⟩)
    case pos =>
      have hx1 := hx.below hb
      have hy1 := hy.below hb
      have h1 := RdB.cell hx1 hlt
      have h2 := RdB.cell hy1 (i := i) (by omega)
      have hs1 := RdB.isSome hx1 (by omega)
      have hs2 := RdB.isSome hy1 (by omega)
      simp (disch := first | omega | assumption | exact Option.isSome_some | (simp only [adO_isSome]; assumption)) only [↓vcp, vcs, vcm, if_true, if_false, Nat.reduceBEq, ↓reduceIte, Nat.reduceEqDiff, Nat.reduceAdd, Nat.reduceMul, Nat.reduceSub, Int.reduceToNat, reduceCtorEq, Nat.reduceLT, Nat.reduceLeDiff, Int.reduceSub, Int.reduceAdd, Int.reduceNeg, h1, h2]
      refine draw_quiet (by kernel_rfl) (by kernel_rfl) (by kernel_rfl) ?_
      simp (disch := first | omega | assumption | exact Option.isSome_some | (simp only [adO_isSome]; assumption)) only [↓vcp, vcs, vcm, if_true, if_false, Nat.reduceBEq, ↓reduceIte, Nat.reduceEqDiff, Nat.reduceAdd, Nat.reduceMul, Nat.reduceSub, Int.reduceToNat, reduceCtorEq, Nat.reduceLT, Nat.reduceLeDiff, Int.reduceSub, Int.reduceAdd, Int.reduceNeg, h1, h2]
      intro n
      by_cases hxy : xs[i] = ys[i]
      · have hn : xs[i].toNat = (ys[i]'(by omega)).toNat := by rw [hxy]
        simp (disch := first | omega | assumption | exact Option.isSome_some | (simp only [adO_isSome]; assumption)) only [↓vcp, vcs, vcm, if_true, if_false, Nat.reduceBEq, ↓reduceIte, Nat.reduceEqDiff, Nat.reduceAdd, Nat.reduceMul, Nat.reduceSub, Int.reduceToNat, reduceCtorEq, Nat.reduceLT, Nat.reduceLeDiff, Int.reduceSub, Int.reduceAdd, Int.reduceNeg]
        refine ⟨i + 1, by rfl, by rfl, ⟨by omega, ?_, below_drewN hb n⟩, by dsimp only; omega⟩
        rw [List.take_succ_eq_append_getElem hlt, List.take_succ_eq_append_getElem (by omega), htk, hxy]
      · have hn : xs[i].toNat ≠ (ys[i]'(by omega)).toNat := fun h => hxy (u8_inj h)
        have hne : xs ≠ ys := fun e => hxy (by simp [e])
        rw [decide_eq_false hne] at hR
        simp (disch := first | omega | assumption | exact Option.isSome_some | (simp only [adO_isSome]; assumption)) only [↓vcp, vcs, vcm, if_true, if_false, Nat.reduceBEq, ↓reduceIte, Nat.reduceEqDiff, Nat.reduceAdd, Nat.reduceMul, Nat.reduceSub, Int.reduceToNat, reduceCtorEq, Nat.reduceLT, Nat.reduceLeDiff, Int.reduceSub, Int.reduceAdd, Int.reduceNeg]
        exact ret_tmp rfl (hR _ _ ⟨rfl, below_drewN hb n⟩)
theorem marks_at (i : Nat) (h : i < 70) : (marks 70)[i]? = some (UInt8.ofNat (165 - i)) := by
  have : ∀ j : Fin 70, (marks 70)[j.val]? = some (UInt8.ofNat (165 - j.val)) := by decide +kernel
  exact this ⟨i, h⟩
theorem Intact_calls (w : World) (a b : Option Addr) (c d : Nat) (xs : List UInt8) (hx : RdB w w.heap.size a (xs ++ marks 70)) (hc : xs.length + 70 ≤ c) (hy : RdB w w.heap.size b xs) (hxl : xs.length ≤ 140737488351232) :
    Calls Tryd.prog 31 #[.slice a xs.length c, .slice b xs.length d] w fun e w' => e = .returned (.bool true) ∧ Below w.heap.size w w' := by
  refine calls_vc Tryd.func31 rfl (by kernel_rfl) (by kernel_rfl) ?_; intro R hR
  have hml : (marks 70).length = 70 := by decide +kernel
  have hx0 : RdB w w.heap.size a xs := by
    have := RdB.take hx xs.length
    rwa [List.take_left] at this
  simp (disch := first | omega | assumption | exact Option.isSome_some | (simp only [adO_isSome]; assumption)) only [↓vcp, vcs, vcm, if_true, if_false, Nat.reduceBEq, ↓reduceIte, Nat.reduceEqDiff, Nat.reduceAdd, Nat.reduceMul, Nat.reduceSub, Int.reduceToNat, reduceCtorEq, Nat.reduceLT, Nat.reduceLeDiff, Int.reduceSub, Int.reduceAdd, Int.reduceNeg, m_strOf]
  refine loop_rule (σ := Nat) [6] (fun i => [.int .i64 i]) [0, 5] (fun i w' => i ≤ 70 ∧ Below w.heap.size w w') (fun i _ => 70 - i) 0 (by kernel_rfl) rfl ⟨by omega, Below.refl _ _⟩ ?_
  rintro e i w1 ⟨hi, hb⟩
  simp (disch := first | omega | assumption | exact Option.isSome_some | (simp only [adO_isSome]; assumption)) only [↓vcp, vcs, vcm, if_true, if_false, Nat.reduceBEq, ↓reduceIte, Nat.reduceEqDiff, Nat.reduceAdd, Nat.reduceMul, Nat.reduceSub, Int.reduceToNat, reduceCtorEq, Nat.reduceLT, Nat.reduceLeDiff, Int.reduceSub, Int.reduceAdd, Int.reduceNeg]
  by_cases hlt : i < 70
  case neg =>
    simp (disch := first | omega | assumption | exact Option.isSome_some | (simp only [adO_isSome]; assumption)) only [↓vcp, vcs, vcm, if_true, if_false, Nat.reduceBEq, ↓reduceIte, Nat.reduceEqDiff, Nat.reduceAdd, Nat.reduceMul, Nat.reduceSub, Int.reduceToNat, reduceCtorEq, Nat.reduceLT, Nat.reduceLeDiff, Int.reduceSub, Int.reduceAdd, Int.reduceNeg]
    exact ret_tmp rfl (hR _ _ ⟨rfl, hb⟩)
  case pos =>
    have hlm : xs.length + i < (xs ++ marks 70).length := by rw [List.length_append, hml]; omega
    have hel : (xs ++ marks 70)[xs.length + i] = UInt8.ofNat (165 - i) := by
      have h1 := marks_at i hlt
      have h2 : (xs ++ marks 70)[xs.length + i]? = some (UInt8.ofNat (165 - i)) := by
        rw [List.getElem?_append_right (by omega), Nat.add_sub_cancel_left, h1]
      rw [List.getElem?_eq_getElem hlm] at h2
      exact Option.some.inj h2
    have hS0 : Below w1.heap.size w1 w1.drew := (Below.refl _ _).drew
    have hsz := hb.size
    have hcell : ∀ w', Below w1.heap.size w1 w' → cellO w' (adO a (xs.length + i)) = some (.int .u8 ((165 - i : Nat) : Int)) := fun w' hb' => by
      have := RdB.cell (hx.below (hb.trans (hb'.mono hsz))) hlm
      rw [this, hel, ofNat_toNat _ (by omega)]
    have hs : a.isSome = true := RdB.isSome hx (by omega)
    have hcast : ((xs.length : Int) + (i : Int)).toNat = xs.length + i := by omega
    simp (disch := first | omega | assumption | exact Option.isSome_some | (simp only [adO_isSome]; assumption)) only [↓vcp, vcs, vcm, if_true, if_false, Nat.reduceBEq, ↓reduceIte, Nat.reduceEqDiff, Nat.reduceAdd, Nat.reduceMul, Nat.reduceSub, Int.reduceToNat, reduceCtorEq, Nat.reduceLT, Nat.reduceLeDiff, Int.reduceSub, Int.reduceAdd, Int.reduceNeg]
    refine draw_plan (Below w1.heap.size w1) [(0, true), (1, true), (2, true), (3, true), (4, true), (5, true), (6, true), (7, true), (8, false), (9, true)] (by kernel_rfl) (by kernel_rfl) hS0 ?_
    simp (disch := first | omega | assumption | exact Option.isSome_some | (simp only [adO_isSome]; assumption)) only [↓vcp, vcs, vcm, if_true, if_false, Nat.reduceBEq, ↓reduceIte, Nat.reduceEqDiff, Nat.reduceAdd, Nat.reduceMul, Nat.reduceSub, Int.reduceToNat, reduceCtorEq, Nat.reduceLT, Nat.reduceLeDiff, Int.reduceSub, Int.reduceAdd, Int.reduceNeg, m_loadN 5 _ _ hcell, hcast]
    refine call_ok (by kernel_rfl) (markAt_calls _ i hlt) ?_; rintro e w' ⟨rfl, rfl⟩; rw [callK_ret]
    refine And.intro hS0 ?_
    simp (disch := first | omega | assumption | exact Option.isSome_some | (simp only [adO_isSome]; assumption)) only [↓vcp, vcs, vcm, if_true, if_false, Nat.reduceBEq, ↓reduceIte, Nat.reduceEqDiff, Nat.reduceAdd, Nat.reduceMul, Nat.reduceSub, Int.reduceToNat, reduceCtorEq, Nat.reduceLT, Nat.reduceLeDiff, Int.reduceSub, Int.reduceAdd, Int.reduceNeg]
    exact ⟨i + 1, by rfl, by rfl, ⟨by omega, hb.trans (hS0.mono hsz)⟩, by dsimp only; omega⟩
end Go.Proofs.YtokoohdpakhphaaDoor.Help
