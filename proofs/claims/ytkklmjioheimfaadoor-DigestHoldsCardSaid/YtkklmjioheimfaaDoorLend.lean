/- The statements' own small functions for bytes: num, Len, Lend, markAt, Head, begins. -/
import Derived.Test.YtkklmjioheimfaaDoorVarintL
import Derived.Test.YtkklmjioheimfaaDoorVarintR
namespace Go.Proofs.YtkklmjioheimfaaDoor.Varint
open Go VC Go.RowKit
set_option linter.unusedSimpArgs false
set_option maxRecDepth 20000
theorem markAt_calls (w : World) (i : Nat) (h : i < 70) : Calls Tryd.prog 40 #[.int .i64 i] w fun e w' => e = .returned (.int .u8 ((165 - i : Nat) : Int)) ∧ w = w' := by
  refine calls_vc Tryd.func40 rfl (by kernel_rfl) (by kernel_rfl) ?_; intro R hR
  simp (disch := first | omega | assumption | exact Option.isSome_some | (simp only [adO_isSome]; assumption)) only [↓vcp, vcs, vcm, if_true, if_false, Nat.reduceBEq, ↓reduceIte, Nat.reduceEqDiff, Nat.reduceAdd, Nat.reduceMul, Nat.reduceSub, Int.reduceToNat, reduceCtorEq, Nat.reduceLT, Nat.reduceLeDiff, Int.reduceSub, Int.reduceAdd, Int.reduceNeg]
  refine ret_tmp rfl (hR _ _ ⟨?_, rfl⟩)
  rw [show ((165 - i : Nat) : Int) = 165 - (i : Int) by omega]
  rfl
def marks (k : Nat) : List UInt8 := (List.range k).map fun i => UInt8.ofNat (165 - i)
theorem marks_len (k : Nat) : (marks k).length = k := by simp [marks]
theorem marks_succ (k : Nat) : marks (k + 1) = marks k ++ [UInt8.ofNat (165 - k)] := by simp [marks, List.range_succ]
theorem new_cell (w : World) (v : Value) (el : Nat) : Rd (w.alloc (.cells #[v] el)) (w.heap.size + 1) (some ⟨w.heap.size, 0, none⟩) [v] := fun hn => ⟨_, rfl, by simp, fun i hi => cell_one_new _ _ _ i _ (List.getElem?_eq_getElem hi)⟩
theorem oneCell_u8 (xs : List UInt8) : ∀ u ∈ xs.map u8v, u.oneCell' = true := by
  intro u hu
  obtain ⟨b, _, rfl⟩ := List.mem_map.1 hu
  rfl
theorem Lend_calls (w : World) (a : Option Addr) (c : Nat) (xs : List UInt8) (hx : RdB w w.heap.size a xs) (hn : xs.length ≤ 140737488351232) :
    Calls Tryd.prog 12 #[.slice a xs.length c] w fun e w' => ∃ a' c', e = .returned (.slice a' xs.length c') ∧
      Own w' w.heap.size 5 1 a' (xs.length + 70) c' ((xs ++ marks 70).map u8v) ∧ Below w.heap.size w w' := by
  refine calls_vc Tryd.func12 rfl (by kernel_rfl) (by kernel_rfl) ?_; intro R hR
  simp (disch := first | omega | assumption | exact Option.isSome_some | (simp only [adO_isSome]; assumption)) only [↓vcp, vcs, vcm, if_true, if_false, Nat.reduceBEq, ↓reduceIte, Nat.reduceEqDiff, Nat.reduceAdd, Nat.reduceMul, Nat.reduceSub, Int.reduceToNat, reduceCtorEq, Nat.reduceLT, Nat.reduceLeDiff, Int.reduceSub, Int.reduceAdd, Int.reduceNeg]
  refine m_make 27 w.heap.size (xs.length + 70) (by omega) (by omega) (by unfold maxLen; omega) (Nat.le_refl _) fun w1 hown hg hz => ?_
  simp (disch := first | omega | assumption | exact Option.isSome_some | (simp only [adO_isSome]; assumption)) only [↓vcp, vcs, vcm, if_true, if_false, Nat.reduceBEq, ↓reduceIte, Nat.reduceEqDiff, Nat.reduceAdd, Nat.reduceMul, Nat.reduceSub, Int.reduceToNat, reduceCtorEq, Nat.reduceLT, Nat.reduceLeDiff, Int.reduceSub, Int.reduceAdd, Int.reduceNeg]
  have hb1 : Below w.heap.size w w1 := (Below.refl _ _).grown hg (Nat.le_refl _) (fun k hk => by cases hk)
  refine m_append 27 _ w.heap.size (m := xs.length) (by rfl) (by omega) hown (hx.below hb1) (by simp) (oneCell_u8 xs) (by unfold maxLen; omega) (by omega) hb1.size fun a2 c2 w2 hown2 hg2 _ => ?_
  have hb2 : Below w.heap.size w w2 := hb1.grown hg2 hb1.size (fun k hk => (World.ownsRow.lt hown k hk).1)
  simp (disch := first | omega | assumption | exact Option.isSome_some | (simp only [adO_isSome]; assumption)) only [↓vcp, vcs, vcm, if_true, if_false, Nat.reduceBEq, ↓reduceIte, Nat.reduceEqDiff, Nat.reduceAdd, Nat.reduceMul, Nat.reduceSub, Int.reduceToNat, reduceCtorEq, Nat.reduceLT, Nat.reduceLeDiff, Int.reduceSub, Int.reduceAdd, Int.reduceNeg]
  refine loop_rule (σ := Nat × Option Addr × Nat) [3, 4] (fun s => [.slice s.2.1 (xs.length + s.1) s.2.2, .int .i64 s.1]) [0]
    (fun s w' => s.1 ≤ 70 ∧ Own w' w.heap.size 5 1 s.2.1 (xs.length + s.1) s.2.2 ((xs ++ marks s.1).map u8v) ∧ Below w.heap.size w w') (fun s _ => 70 - s.1) (0, a2, c2) (by kernel_rfl) ?_ ⟨by omega, ?_, hb2⟩ ?_
  · rfl
  · simpa [marks] using hown2
  · rintro b ⟨k, a3, c3⟩ w3 ⟨hk, hown3, hb3⟩
    dsimp only at hk hown3
    have hs3 := hb3.size
    simp (disch := first | omega | assumption | exact Option.isSome_some | (simp only [adO_isSome]; assumption)) only [↓vcp, vcs, vcm, if_true, if_false, Nat.reduceBEq, ↓reduceIte, Nat.reduceEqDiff, Nat.reduceAdd, Nat.reduceMul, Nat.reduceSub, Int.reduceToNat, reduceCtorEq, Nat.reduceLT, Nat.reduceLeDiff, Int.reduceSub, Int.reduceAdd, Int.reduceNeg]
    by_cases hlt : k < 70
    · simp (disch := first | omega | assumption | exact Option.isSome_some | (simp only [adO_isSome]; assumption)) only [↓vcp, vcs, vcm, if_true, if_false, Nat.reduceBEq, ↓reduceIte, Nat.reduceEqDiff, Nat.reduceAdd, Nat.reduceMul, Nat.reduceSub, Int.reduceToNat, reduceCtorEq, Nat.reduceLT, Nat.reduceLeDiff, Int.reduceSub, Int.reduceAdd, Int.reduceNeg]
      refine call_ok (by kernel_rfl) (markAt_calls w3 k hlt) ?_; rintro e w' ⟨rfl, rfl⟩; rw [callK_ret]
      simp (disch := first | omega | assumption | exact Option.isSome_some | (simp only [adO_isSome]; assumption)) only [↓vcp, vcs, vcm, if_true, if_false, Nat.reduceBEq, ↓reduceIte, Nat.reduceEqDiff, Nat.reduceAdd, Nat.reduceMul, Nat.reduceSub, Int.reduceToNat, reduceCtorEq, Nat.reduceLT, Nat.reduceLeDiff, Int.reduceSub, Int.reduceAdd, Int.reduceNeg]
      refine m_append 27 _ w.heap.size (m := 1) (by rfl) (by omega) (hown3.alloc _) (new_cell w3 _ _) rfl (by simp [Value.oneCell']) (by unfold maxLen; omega) (by omega) (by simp; omega) fun a4 c4 w4 hown4 hg4 _ => ?_
      simp (disch := first | omega | assumption | exact Option.isSome_some | (simp only [adO_isSome]; assumption)) only [↓vcp, vcs, vcm, if_true, if_false, Nat.reduceBEq, ↓reduceIte, Nat.reduceEqDiff, Nat.reduceAdd, Nat.reduceMul, Nat.reduceSub, Int.reduceToNat, reduceCtorEq, Nat.reduceLT, Nat.reduceLeDiff, Int.reduceSub, Int.reduceAdd, Int.reduceNeg]
      have hu : u8v (UInt8.ofNat (165 - k)) = .int .u8 ((165 - k : Nat) : Int) := by unfold u8v; rw [ofNat_toNat _ (by omega)]
      refine ⟨(k + 1, a4, c4), ?_, ?_, ⟨by dsimp only; omega, ?_, (hb3.alloc hs3 _).grown hg4 (by simp; omega) (fun k hk => (World.ownsRow.lt hown3 k hk).1)⟩, by dsimp only; omega⟩
      · simp (disch := first | omega | assumption | exact Option.isSome_some | (simp only [adO_isSome]; assumption)) only [↓vcp, vcs, vcm, if_true, if_false, Nat.reduceBEq, ↓reduceIte, Nat.reduceEqDiff, Nat.reduceAdd, Nat.reduceMul, Nat.reduceSub, Int.reduceToNat, reduceCtorEq, Nat.reduceLT, Nat.reduceLeDiff, Int.reduceSub, Int.reduceAdd, Int.reduceNeg]
        simp [Nat.add_assoc]
      · rfl
      · dsimp only
        rw [marks_succ, ← List.append_assoc, List.map_append, List.map_cons, List.map_nil, hu]
        exact hown4
    · obtain rfl : k = 70 := by omega
      have hc3 : xs.length + 70 ≤ c3 := by
        rcases hown3.form with ⟨_, h, _, _⟩ | ⟨_, _, _, _, _, h, _⟩ <;> omega
      simp (disch := first | omega | assumption | exact Option.isSome_some | (simp only [adO_isSome]; assumption)) only [↓vcp, vcs, vcm, if_true, if_false, Nat.reduceBEq, ↓reduceIte, Nat.reduceEqDiff, Nat.reduceAdd, Nat.reduceMul, Nat.reduceSub, Int.reduceToNat, reduceCtorEq, Nat.reduceLT, Nat.reduceLeDiff, Int.reduceSub, Int.reduceAdd, Int.reduceNeg]
      exact ret_tmp rfl (hR _ _ ⟨a3, c3, rfl, hown3, hb3⟩)
end Go.Proofs.YtkklmjioheimfaaDoor.Varint
