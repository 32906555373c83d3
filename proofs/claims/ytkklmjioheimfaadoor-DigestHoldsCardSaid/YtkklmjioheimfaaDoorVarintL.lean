/- varint.Lay and Len come to what 'vlay' says of the number; what is told lies in new memory. -/
import Derived.Test.YtkklmjioheimfaaDoorTy
import Derived.Test.YtkklmjioheimfaaDoorVarintM

namespace Go.Proofs.YtkklmjioheimfaaDoor.Varint
open Go VC Go.RowKit
set_option linter.unusedSimpArgs false
theorem Lay_long (w : World) (n : Nat) (h : 2 ^ 63 ≤ n) (h' : n < 2 ^ 64) :
    Calls Tryd.prog 46 #[.int .u64 n] w fun e w' => e = .returned (.tuple #[.slice none 0 0, .int .i64 11]) ∧ w = w' := by
  refine calls_vc Tryd.func46 rfl (by kernel_rfl) (by kernel_rfl) ?_; intro R hR
  have hs : Shr .u64 (n : Int) 63 = ((1 : Nat) : Int) := by
    have := Shr_u .u64 n 63 (by decide)
    simp only [Int.cast_ofNat_Int] at this
    rw [this]
    congr 1
    omega
  simp (disch := first | omega | assumption | exact Option.isSome_some | (simp only [adO_isSome]; assumption)) only [↓vcp, vcs, vcm, if_true, if_false, Nat.reduceBEq, ↓reduceIte, Nat.reduceEqDiff, Nat.reduceAdd, Nat.reduceMul, Nat.reduceSub, Int.reduceToNat, reduceCtorEq, Nat.reduceLT, Nat.reduceLeDiff, Int.reduceSub, Int.reduceAdd, Int.reduceNeg]
  refine scope_straight (by kernel_rfl) ?_
  simp (disch := first | omega | assumption | exact Option.isSome_some | (simp only [adO_isSome]; assumption)) only [↓vcp, vcs, vcm, if_true, if_false, Nat.reduceBEq, ↓reduceIte, Nat.reduceEqDiff, Nat.reduceAdd, Nat.reduceMul, Nat.reduceSub, Int.reduceToNat, reduceCtorEq, Nat.reduceLT, Nat.reduceLeDiff, Int.reduceSub, Int.reduceAdd, Int.reduceNeg, hs]
  refine ret_tmp2 rfl (hR _ _ ⟨rfl, rfl⟩)
set_option maxRecDepth 20000 in
theorem Lay_calls (w : World) (n : Nat) (h : n < 2 ^ 63) :
    Calls Tryd.prog 46 #[.int .u64 n] w fun e w' => ∃ a c, e = .returned (.tuple #[.slice a (vlay n).length c, .int .i64 0]) ∧
      Own w' w.heap.size 5 1 a (vlay n).length c ((vlay n).map u8v) ∧ Below w.heap.size w w' := by
  refine calls_vc Tryd.func46 rfl (by kernel_rfl) (by kernel_rfl) ?_; intro R hR
  have hs : Shr .u64 (n : Int) 63 = ((0 : Nat) : Int) := by
    have := Shr_u .u64 n 63 (by decide)
    simp only [Int.cast_ofNat_Int] at this
    rw [this]
    congr 1
    omega
  simp (disch := first | omega | assumption | exact Option.isSome_some | (simp only [adO_isSome]; assumption)) only [↓vcp, vcs, vcm, if_true, if_false, Nat.reduceBEq, ↓reduceIte, Nat.reduceEqDiff, Nat.reduceAdd, Nat.reduceMul, Nat.reduceSub, Int.reduceToNat, reduceCtorEq, Nat.reduceLT, Nat.reduceLeDiff, Int.reduceSub, Int.reduceAdd, Int.reduceNeg]
  refine scope_rule (σ := Nat × Option Addr × Nat × List UInt8) 0 [0, 4] (fun s => [.int .u64 s.1, .slice s.2.1 s.2.2.2.length s.2.2.1]) []
    (fun s w' => s.1 < 2 ^ 63 ∧ s.2.2.2 ++ vlay s.1 = vlay n ∧ Own w' w.heap.size 5 1 s.2.1 s.2.2.2.length s.2.2.1 (s.2.2.2.map u8v) ∧ Below w.heap.size w w') (fun s _ => s.1) (n + 1) rfl rfl (by kernel_rfl) (by kernel_rfl) ?_ ?_
  · simp (disch := first | omega | assumption | exact Option.isSome_some | (simp only [adO_isSome]; assumption)) only [↓vcp, vcs, vcm, if_true, if_false, Nat.reduceBEq, ↓reduceIte, Nat.reduceEqDiff, Nat.reduceAdd, Nat.reduceMul, Nat.reduceSub, Int.reduceToNat, reduceCtorEq, Nat.reduceLT, Nat.reduceLeDiff, Int.reduceSub, Int.reduceAdd, Int.reduceNeg, hs]
    refine m_make 27 w.heap.size 9 rfl (by omega) (by unfold maxLen; omega) (Nat.le_refl _) fun w1 hown hg _ => ?_
    simp (disch := first | omega | assumption | exact Option.isSome_some | (simp only [adO_isSome]; assumption)) only [↓vcp, vcs, vcm, if_true, if_false, Nat.reduceBEq, ↓reduceIte, Nat.reduceEqDiff, Nat.reduceAdd, Nat.reduceMul, Nat.reduceSub, Int.reduceToNat, reduceCtorEq, Nat.reduceLT, Nat.reduceLeDiff, Int.reduceSub, Int.reduceAdd, Int.reduceNeg]
    exact ⟨(n, some ⟨w.heap.size, 0, none⟩, 9, []), rfl, rfl, ⟨h, rfl, hown, (Below.refl _ _).grown hg (Nat.le_refl _) (fun k hk => by cases hk)⟩, by dsimp only; omega⟩
  · rintro b ⟨m, a, c, acc⟩ w1 ⟨hm, hacc, hown, hb⟩
    dsimp only at hm hacc hown
    have hlen : acc.length + (vlay m).length ≤ 9 := by
      have h1 := vlay_len 8 n (by omega)
      rw [← hacc, List.length_append] at h1
      omega
    have hpos := vlay_pos m
    have hsz := hb.size
    have hnew : ∀ (v : Value) , (w1.alloc (.cells #[v] 5)).heap.size = w1.heap.size + 1 := fun v => by simp
    have hcell : ∀ v : Value, Rd (w1.alloc (.cells #[v] 5)) (w1.heap.size + 1) (some ⟨w1.heap.size, 0, none⟩) [v] := fun v hn => ⟨_, rfl, by simp, fun i hi => by
      exact cell_one_new _ _ _ i _ (List.getElem?_eq_getElem hi)⟩
    by_cases hbig : 128 ≤ m
    · simp (disch := first | omega | assumption | exact Option.isSome_some | (simp only [adO_isSome]; assumption)) only [↓vcp, vcs, vcm, if_true, if_false, Nat.reduceBEq, ↓reduceIte, Nat.reduceEqDiff, Nat.reduceAdd, Nat.reduceMul, Nat.reduceSub, Int.reduceToNat, reduceCtorEq, Nat.reduceLT, Nat.reduceLeDiff, Int.reduceSub, Int.reduceAdd, Int.reduceNeg, bor128]
      refine m_append 27 _ w.heap.size (m := 1) (by rfl) (by omega) (hown.alloc _) (hcell _) rfl (by simp [Value.oneCell']) (by unfold maxLen; omega) (by omega) (by rw [hnew]; omega) fun a' c' w2 hown2 hg2 _ => ?_
      simp (disch := first | omega | assumption | exact Option.isSome_some | (simp only [adO_isSome]; assumption)) only [↓vcp, vcs, vcm, if_true, if_false, Nat.reduceBEq, ↓reduceIte, Nat.reduceEqDiff, Nat.reduceAdd, Nat.reduceMul, Nat.reduceSub, Int.reduceToNat, reduceCtorEq, Nat.reduceLT, Nat.reduceLeDiff, Int.reduceSub, Int.reduceAdd, Int.reduceNeg]
      have hb2 : Below w.heap.size w w2 := (hb.alloc hsz _).grown hg2 (by rw [hnew]; omega) (fun k hk => (World.ownsRow.lt hown k hk).1)
      have hshr : Shr .u64 (m : Int) 7 = ((m / 128 : Nat) : Int) := Shr_u .u64 m 7 (by decide)
      have hvl := vlay_big hbig
      have hu : u8v (UInt8.ofNat (m % 128 + 128)) = .int .u8 ((m % 128 + 128 : Nat) : Int) := by unfold u8v; rw [ofNat_toNat _ (by omega)]
      refine ⟨(m / 128, a', c', acc ++ [UInt8.ofNat (m % 128 + 128)]), ?_, rfl, ⟨by dsimp only; omega, by dsimp only; rw [← hacc, hvl]; simp, ?_, hb2⟩, by dsimp only; omega⟩
      · simp (disch := first | omega | assumption | exact Option.isSome_some | (simp only [adO_isSome]; assumption)) only [↓vcp, vcs, vcm, if_true, if_false, Nat.reduceBEq, ↓reduceIte, Nat.reduceEqDiff, Nat.reduceAdd, Nat.reduceMul, Nat.reduceSub, Int.reduceToNat, reduceCtorEq, Nat.reduceLT, Nat.reduceLeDiff, Int.reduceSub, Int.reduceAdd, Int.reduceNeg, hshr]
        simp
      · dsimp only
        rw [List.map_append, List.map_cons, List.map_nil, hu, List.length_append]
        exact hown2
    · have hvl := vlay_small (n := m) (by omega)
      have hw8 : IntKind.u8.wrap (m : Int) = (m : Int) := by rw [wrap_u8_mod, Nat.mod_eq_of_lt (by omega)]
      simp (disch := first | omega | assumption | exact Option.isSome_some | (simp only [adO_isSome]; assumption)) only [↓vcp, vcs, vcm, if_true, if_false, Nat.reduceBEq, ↓reduceIte, Nat.reduceEqDiff, Nat.reduceAdd, Nat.reduceMul, Nat.reduceSub, Int.reduceToNat, reduceCtorEq, Nat.reduceLT, Nat.reduceLeDiff, Int.reduceSub, Int.reduceAdd, Int.reduceNeg, hw8]
      refine m_append 27 _ w.heap.size (m := 1) (by rfl) (by omega) (hown.alloc _) (hcell _) rfl (by simp [Value.oneCell']) (by unfold maxLen; omega) (by omega) (by rw [hnew]; omega) fun a' c' w2 hown2 hg2 _ => ?_
      simp (disch := first | omega | assumption | exact Option.isSome_some | (simp only [adO_isSome]; assumption)) only [↓vcp, vcs, vcm, if_true, if_false, Nat.reduceBEq, ↓reduceIte, Nat.reduceEqDiff, Nat.reduceAdd, Nat.reduceMul, Nat.reduceSub, Int.reduceToNat, reduceCtorEq, Nat.reduceLT, Nat.reduceLeDiff, Int.reduceSub, Int.reduceAdd, Int.reduceNeg]
      have hb2 : Below w.heap.size w w2 := (hb.alloc hsz _).grown hg2 (by rw [hnew]; omega) (fun k hk => (World.ownsRow.lt hown k hk).1)
      have hu : u8v (UInt8.ofNat m) = .int .u8 (m : Int) := by unfold u8v; rw [ofNat_toNat _ (by omega)]
      have hvn : vlay n = acc ++ [UInt8.ofNat m] := by rw [← hacc, hvl]
      refine ret_tmp2 rfl (hR _ _ ⟨a', c', ?_, ?_, hb2⟩)
      · simp (disch := first | omega | assumption | exact Option.isSome_some | (simp only [adO_isSome]; assumption)) only [↓vcp, vcs, vcm, if_true, if_false, Nat.reduceBEq, ↓reduceIte, Nat.reduceEqDiff, Nat.reduceAdd, Nat.reduceMul, Nat.reduceSub, Int.reduceToNat, reduceCtorEq, Nat.reduceLT, Nat.reduceLeDiff, Int.reduceSub, Int.reduceAdd, Int.reduceNeg, hvn]
        simp
      · rw [hvn, List.map_append, List.map_cons, List.map_nil, hu, List.length_append]
        exact hown2
end Go.Proofs.YtkklmjioheimfaaDoor.Varint
