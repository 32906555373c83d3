/- varint.Read comes to what 'vread' says of the bytes; it leaves the world alone. -/
import Derived.Test.YtkklmjioheimfaaDoorTy
import Derived.Test.YtkklmjioheimfaaDoorVarintM

namespace Go.Proofs.YtkklmjioheimfaaDoor.Varint
open Go VC
set_option linter.unusedSimpArgs false
set_option maxRecDepth 20000
theorem Read_calls (w : World) (B : Nat) (a : Option Addr) (c : Nat) (xs : List UInt8) (hx : RdB w B a xs) (hn : xs.length ≤ 140737488355328) :
    Calls Tryd.prog 58 #[.slice a xs.length c] w fun e w' => e = .returned (.tuple #[.int .u64 (vread xs).1, .int .i64 (vread xs).2.1, .int .i64 (vread xs).2.2]) ∧ w = w' := by
  refine calls_vc Tryd.func58 rfl (by kernel_rfl) (by kernel_rfl) ?_; intro R hR
  simp (disch := first | omega | assumption | exact Option.isSome_some | (simp only [adO_isSome]; assumption)) only [↓vcp, vcs, vcm, if_true, if_false, Nat.reduceBEq, ↓reduceIte, Nat.reduceEqDiff, Nat.reduceAdd, Nat.reduceMul, Nat.reduceSub, Int.reduceToNat, reduceCtorEq, Nat.reduceLT, Nat.reduceLeDiff, Int.reduceSub, Int.reduceAdd, Int.reduceNeg]
  refine scope_rule (σ := Nat × Nat) 0 [5, 6] (fun s => [.int .u64 s.1, .int .i64 s.2]) [0] (fun s w' => w' = w ∧ s.2 ≤ 9 ∧ s.2 ≤ xs.length ∧ s.1 < 2 ^ (7 * s.2) ∧ vread xs = vgo (xs.drop s.2) s.2 s.1) (fun s _ => 9 - s.2) 10 rfl rfl (by kernel_rfl) (by kernel_rfl) ?_ ?_
  · simp (disch := first | omega | assumption | exact Option.isSome_some | (simp only [adO_isSome]; assumption)) only [↓vcp, vcs, vcm, if_true, if_false, Nat.reduceBEq, ↓reduceIte, Nat.reduceEqDiff, Nat.reduceAdd, Nat.reduceMul, Nat.reduceSub, Int.reduceToNat, reduceCtorEq, Nat.reduceLT, Nat.reduceLeDiff, Int.reduceSub, Int.reduceAdd, Int.reduceNeg]
    exact ⟨(0, 0), rfl, rfl, ⟨rfl, by decide, by simp, by decide, rfl⟩, by dsimp only; omega⟩
  · rintro b ⟨acc, i⟩ w1 ⟨rfl, hi9, hin, hacc, hv⟩
    dsimp only at hi9 hin hacc hv
    simp (disch := first | omega | assumption | exact Option.isSome_some | (simp only [adO_isSome]; assumption)) only [↓vcp, vcs, vcm, if_true, if_false, Nat.reduceBEq, ↓reduceIte, Nat.reduceEqDiff, Nat.reduceAdd, Nat.reduceMul, Nat.reduceSub, Int.reduceToNat, reduceCtorEq, Nat.reduceLT, Nat.reduceLeDiff, Int.reduceSub, Int.reduceAdd, Int.reduceNeg]
    by_cases h9 : i = 9
    · subst h9
      simp (disch := first | omega | assumption | exact Option.isSome_some | (simp only [adO_isSome]; assumption)) only [↓vcp, vcs, vcm, if_true, if_false, Nat.reduceBEq, ↓reduceIte, Nat.reduceEqDiff, Nat.reduceAdd, Nat.reduceMul, Nat.reduceSub, Int.reduceToNat, reduceCtorEq, Nat.reduceLT, Nat.reduceLeDiff, Int.reduceSub, Int.reduceAdd, Int.reduceNeg]
      refine ret_tmp3 rfl (hR _ _ ⟨?_, rfl⟩)
      rw [hv, vgo_9]; rfl
    · simp (disch := first | omega | assumption | exact Option.isSome_some | (simp only [adO_isSome]; assumption)) only [↓vcp, vcs, vcm, if_true, if_false, Nat.reduceBEq, ↓reduceIte, Nat.reduceEqDiff, Nat.reduceAdd, Nat.reduceMul, Nat.reduceSub, Int.reduceToNat, reduceCtorEq, Nat.reduceLT, Nat.reduceLeDiff, Int.reduceSub, Int.reduceAdd, Int.reduceNeg]
      by_cases hl : i = xs.length
      · subst hl
        simp (disch := first | omega | assumption | exact Option.isSome_some | (simp only [adO_isSome]; assumption)) only [↓vcp, vcs, vcm, if_true, if_false, Nat.reduceBEq, ↓reduceIte, Nat.reduceEqDiff, Nat.reduceAdd, Nat.reduceMul, Nat.reduceSub, Int.reduceToNat, reduceCtorEq, Nat.reduceLT, Nat.reduceLeDiff, Int.reduceSub, Int.reduceAdd, Int.reduceNeg]
        refine ret_tmp3 rfl (hR _ _ ⟨?_, rfl⟩)
        rw [hv, List.drop_length, vgo_nil h9]; rfl
      · have hlt : i < xs.length := by omega
        have hc := hx.cell hlt
        have hs := hx.isSome (by omega : 0 < xs.length)
        rw [List.drop_eq_getElem_cons hlt] at hv
        have h8 := u8_lt xs[i]
        have hm : xs[i].toNat % 128 < 128 := Nat.mod_lt _ (by omega)
        have h7 : (7 * (i : Int)) = ((7 * i : Nat) : Int) := by omega
        by_cases hb : 128 ≤ xs[i].toNat
        · have ha := and128 xs[i]
          rw [if_pos hb] at ha
          simp (disch := first | omega | assumption | exact Option.isSome_some | (simp only [adO_isSome]; assumption)) only [↓vcp, vcs, vcm, if_true, if_false, Nat.reduceBEq, ↓reduceIte, Nat.reduceEqDiff, Nat.reduceAdd, Nat.reduceMul, Nat.reduceSub, Int.reduceToNat, reduceCtorEq, Nat.reduceLT, Nat.reduceLeDiff, Int.reduceSub, Int.reduceAdd, Int.reduceNeg, hc, andn128, ha, h7, or_step (by omega : i ≤ 8) hacc hm]
          refine ⟨(acc + xs[i].toNat % 128 * 2 ^ (7 * i), i + 1), ?_, rfl, ⟨rfl, by dsimp only; omega, by dsimp only; omega, acc_step hacc hm, ?_⟩, by dsimp only; omega⟩
          · simp (disch := first | omega | assumption | exact Option.isSome_some | (simp only [adO_isSome]; assumption)) only [↓vcp, vcs, vcm, if_true, if_false, Nat.reduceBEq, ↓reduceIte, Nat.reduceEqDiff, Nat.reduceAdd, Nat.reduceMul, Nat.reduceSub, Int.reduceToNat, reduceCtorEq, Nat.reduceLT, Nat.reduceLeDiff, Int.reduceSub, Int.reduceAdd, Int.reduceNeg]
            rfl
          · rw [hv, vgo_big h9 hb]
        · have ha := and128 xs[i]
          rw [if_neg hb] at ha
          rw [Nat.mod_eq_of_lt (by omega)] at hm
          have hmod : xs[i].toNat % 128 = xs[i].toNat := Nat.mod_eq_of_lt (by omega)
          by_cases hf : xs[i].toNat = 0 ∧ 0 < i
          · simp (disch := first | omega | assumption | exact Option.isSome_some | (simp only [adO_isSome]; assumption)) only [↓vcp, vcs, vcm, if_true, if_false, Nat.reduceBEq, ↓reduceIte, Nat.reduceEqDiff, Nat.reduceAdd, Nat.reduceMul, Nat.reduceSub, Int.reduceToNat, reduceCtorEq, Nat.reduceLT, Nat.reduceLeDiff, Int.reduceSub, Int.reduceAdd, Int.reduceNeg, hc, andn128, ha, h7, hmod, or_step (by omega : i ≤ 8) hacc hm]
            refine ret_tmp3 rfl (hR _ _ ⟨?_, rfl⟩)
            rw [hv, vgo_form h9 hf.1 hf.2]; rfl
          · by_cases h0 : xs[i].toNat = 0
            all_goals
              simp (disch := first | omega | assumption | exact Option.isSome_some | (simp only [adO_isSome]; assumption)) only [↓vcp, vcs, vcm, if_true, if_false, Nat.reduceBEq, ↓reduceIte, Nat.reduceEqDiff, Nat.reduceAdd, Nat.reduceMul, Nat.reduceSub, Int.reduceToNat, reduceCtorEq, Nat.reduceLT, Nat.reduceLeDiff, Int.reduceSub, Int.reduceAdd, Int.reduceNeg, hc, andn128, ha, h7, hmod, or_step (by omega : i ≤ 8) hacc hm]
              refine ret_tmp3 rfl (hR _ _ ⟨?_, rfl⟩)
              rw [hv, vgo_end h9 (by omega) hf]
              simp (disch := first | omega | assumption | exact Option.isSome_some | (simp only [adO_isSome]; assumption)) only [↓vcp, vcs, vcm, if_true, if_false, Nat.reduceBEq, ↓reduceIte, Nat.reduceEqDiff, Nat.reduceAdd, Nat.reduceMul, Nat.reduceSub, Int.reduceToNat, reduceCtorEq, Nat.reduceLT, Nat.reduceLeDiff, Int.reduceSub, Int.reduceAdd, Int.reduceNeg]
              rfl
end Go.Proofs.YtkklmjioheimfaaDoor.Varint
