/- The statements' own small functions for bytes: Copy, Other, Into, Over. -/
import Derived.Test.YtokoohdpakhphaaGreatDoorTy
import Derived.Test.YtokoohdpakhphaaGreatDoorNums
namespace Go.Proofs.YtokoohdpakhphaaGreatDoor.Loan
open Go VC Go.RowKit
set_option linter.unusedSimpArgs false
set_option maxRecDepth 20000
set_option maxHeartbeats 4000000
theorem u8get {xs : List UInt8} {i : Nat} (h : i < xs.length) : (xs.map u8v)[i]? = some (u8v xs[i]) := by rw [List.getElem?_map, List.getElem?_eq_getElem h]; rfl
theorem set_step {ys xs : List UInt8} {i : Nat} (h : xs.length = ys.length) (hi : i < ys.length) : (ys.take i ++ xs.drop i).set i ys[i] = ys.take (i + 1) ++ xs.drop (i + 1) := by
  rw [List.set_append_right _ _ (by simp; omega), List.length_take, Nat.min_eq_left (by omega), Nat.sub_self, List.drop_eq_getElem_cons (by omega), List.set_cons_zero, List.take_succ_eq_append_getElem hi, List.append_assoc]
  rfl
theorem Into_calls (S : Cx) (w0 : World) (a b : Option Addr) (c d : Nat) (xs ys : List UInt8) (hs : Sat S [.sl a c (xs.map u8v) 5 1] w0) (hy : Ro S b (ys.map u8v)) (hl : xs.length = ys.length) (hm : xs.length ≤ 140737488355328) :
    Calls Tryz.prog 14 #[.slice a xs.length c, .slice b ys.length d] w0 fun e w' => e = .returned (.tuple #[]) ∧ Sat S [.sl a c (ys.map u8v) 5 1] w' := by
  refine calls_vc Tryz.func14 rfl (by kernel_rfl) (by kernel_rfl) ?_; intro R hR
  simp (disch := first | omega | assumption | exact Option.isSome_some | (simp only [adO_isSome]; assumption)) only [↓vcp, vcs, vct, if_true, if_false, Nat.reduceBEq, ↓reduceIte, Nat.reduceEqDiff, Nat.reduceAdd, Nat.reduceMul, Nat.reduceSub, Int.reduceToNat, reduceCtorEq, Nat.reduceLT, Nat.reduceLeDiff, Int.reduceSub, Int.reduceAdd, Int.reduceNeg, Sat.look hs, Sat.lookA hs]
  refine loop_rule (σ := Nat) [4] (fun i => [.int .i64 i]) [0, 1] (fun i w' => i ≤ xs.length ∧ Sat S [.sl a c ((ys.take i ++ xs.drop i).map u8v) 5 1] w') (fun i _ => xs.length - i) 0 (by kernel_rfl) rfl ⟨by omega, by simpa using hs⟩ ?_
  clear hs
  rintro e i w ⟨hi, hs⟩
  have hll : (ys.take i ++ xs.drop i).length = xs.length := by simp; omega
  simp (disch := first | omega | assumption | exact Option.isSome_some | (simp only [adO_isSome]; assumption)) only [↓vcp, vcs, vct, if_true, if_false, Nat.reduceBEq, ↓reduceIte, Nat.reduceEqDiff, Nat.reduceAdd, Nat.reduceMul, Nat.reduceSub, Int.reduceToNat, reduceCtorEq, Nat.reduceLT, Nat.reduceLeDiff, Int.reduceSub, Int.reduceAdd, Int.reduceNeg, Sat.look hs, Sat.lookA hs]
  by_cases hlt : i < xs.length
  case pos =>
    have ha : a.isSome = true := hs.isSome (by simp; omega)
    have hb : b.isSome = true := hy.isSome (by simp; omega)
    have hc := hy i _ (u8get (show i < ys.length by omega))
    have hset : ((ys.take i ++ xs.drop i).map u8v).set i (u8v ys[i]) = (ys.take (i + 1) ++ xs.drop (i + 1)).map u8v := by
      rw [← List.map_set, set_step hl (by omega)]
    (repeat (first | (simp (disch := first | omega | assumption | exact Option.isSome_some | (simp only [adO_isSome]; assumption)) only [↓vcp, vcs, vct, if_true, if_false, Nat.reduceBEq, ↓reduceIte, Nat.reduceEqDiff, Nat.reduceAdd, Nat.reduceMul, Nat.reduceSub, Int.reduceToNat, reduceCtorEq, Nat.reduceLT, Nat.reduceLeDiff, Int.reduceSub, Int.reduceAdd, Int.reduceNeg, Sat.look hs, Sat.lookA hs, hs.old hc]) | (refine khK he hs ?_; clear he; intro he) | ((first | refine stK hs ?_ | refine stFK hs ?_ | refine stAK hs ?_ | refine msK hs ?_); clear hs; (try clear w); rintro w hs; try simp only [cls] at hs; try simp only [hset, hll] at hs) | ((first | refine al_ok hs ?_ | refine bx_ok hs ?_ | refine bsvK hs ?_ | refine bs1_ok hs ?_ | refine bs0_ok hs ?_); clear hs; (try clear w); rintro _ w hs; try simp only [cls] at hs; try simp only [hset, hll] at hs) | ((first | refine stK hs ?_ (by first | omega | (simp only [hset, hll, cells_bk, cells_sl, List.length_cons, List.length_nil, List.length_set, List.length_append, List.length_map, List.length_replicate, List.length_take, List.length_drop]; omega) | assumption | rfl) | refine stFK hs ?_ (by first | omega | (simp only [hset, hll, cells_bk, cells_sl, List.length_cons, List.length_nil, List.length_set, List.length_append, List.length_map, List.length_replicate, List.length_take, List.length_drop]; omega) | assumption | rfl) (by first | omega | (simp only [hset, hll, cells_bk, cells_sl, List.length_cons, List.length_nil, List.length_set, List.length_append, List.length_map, List.length_replicate, List.length_take, List.length_drop]; omega) | assumption | rfl) | refine stAK hs ?_ (by first | omega | (simp only [hset, hll, cells_bk, cells_sl, List.length_cons, List.length_nil, List.length_set, List.length_append, List.length_map, List.length_replicate, List.length_take, List.length_drop]; omega) | assumption | rfl) (by first | omega | (simp only [hset, hll, cells_bk, cells_sl, List.length_cons, List.length_nil, List.length_set, List.length_append, List.length_map, List.length_replicate, List.length_take, List.length_drop]; omega) | assumption | rfl) | refine msK hs ?_ (by first | omega | (simp only [hset, hll, cells_bk, cells_sl, List.length_cons, List.length_nil, List.length_set, List.length_append, List.length_map, List.length_replicate, List.length_take, List.length_drop]; omega) | assumption | rfl)); clear hs; (try clear w); rintro w hs; try simp only [cls] at hs; try simp only [hset, hll] at hs)))
    exact ⟨i + 1, by rfl, by rfl, ⟨by omega, hs⟩, by dsimp only; omega⟩
  case neg =>
    obtain rfl : i = xs.length := by omega
    simp (disch := first | omega | assumption | exact Option.isSome_some | (simp only [adO_isSome]; assumption)) only [↓vcp, vcs, vct, if_true, if_false, Nat.reduceBEq, ↓reduceIte, Nat.reduceEqDiff, Nat.reduceAdd, Nat.reduceMul, Nat.reduceSub, Int.reduceToNat, reduceCtorEq, Nat.reduceLT, Nat.reduceLeDiff, Int.reduceSub, Int.reduceAdd, Int.reduceNeg, Sat.look hs, Sat.lookA hs]
    refine ret_none rfl (hR _ _ ⟨rfl, ?_⟩)
    rw [List.take_of_length_le (by omega), List.drop_eq_nil_of_le (by omega), List.append_nil] at hs
    exact hs
/-- the bytes the other way round; of a palindrome the last one is changed -/
def other (xs : List UInt8) : List UInt8 := if 0 < xs.length ∧ xs.reverse = xs then xs.reverse.set (xs.length - 1) ((xs.reverse).getD (xs.length - 1) 0 ^^^ 1) else xs.reverse
theorem other_len (xs : List UInt8) : (other xs).length = xs.length := by unfold other; split <;> simp
theorem Other_calls (w0 : World) (a : Option Addr) (c : Nat) (xs : List UInt8) (hx : Ro (.at w0) a (xs.map u8v)) (hl : xs.length ≤ 140737488351232) :
    Calls Tryz.prog 12 #[.slice a xs.length c] w0 fun e w' => ∃ a' c', e = .returned (.slice a' xs.length c') ∧ xs.length ≤ c' ∧ Sat (.at w0) [.sl a' c' ((other xs).map u8v) 5 1] w' := by
  refine calls_vc Tryz.func12 rfl (by kernel_rfl) (by kernel_rfl) ?_; intro R hR
  have hs := Sat.start w0
  replace hs := Sat.nil hs 5 1; try simp only [cls] at hs
  simp (disch := first | omega | assumption | exact Option.isSome_some | (simp only [adO_isSome]; assumption)) only [↓vcp, vcs, vct, if_true, if_false, Nat.reduceBEq, ↓reduceIte, Nat.reduceEqDiff, Nat.reduceAdd, Nat.reduceMul, Nat.reduceSub, Int.reduceToNat, reduceCtorEq, Nat.reduceLT, Nat.reduceLeDiff, Int.reduceSub, Int.reduceAdd, Int.reduceNeg, Sat.look hs, Sat.lookA hs]
  refine loop_rule (σ := Nat × Option Addr × Nat) [3, 4] (fun x => [.slice x.2.1 x.1 x.2.2, .int .i64 ((xs.length : Int) - 1 - (x.1 : Int))]) [0] (fun x w' => x.1 ≤ xs.length ∧ x.1 ≤ x.2.2 ∧ Sat (.at w0) [.sl x.2.1 x.2.2 ((xs.reverse.take x.1).map u8v) 5 1] w') (fun x _ => xs.length - x.1) (0, none, 0) (by kernel_rfl) (by simp [upd]) ⟨by dsimp only; omega, by dsimp only; omega, by simpa using hs⟩ ?_
  clear hs
  rintro e ⟨i, a1, c1⟩ w ⟨hi, hc1, hs⟩
  dsimp only at hi hc1 hs ⊢
  simp (disch := first | omega | assumption | exact Option.isSome_some | (simp only [adO_isSome]; assumption)) only [↓vcp, vcs, vct, if_true, if_false, Nat.reduceBEq, ↓reduceIte, Nat.reduceEqDiff, Nat.reduceAdd, Nat.reduceMul, Nat.reduceSub, Int.reduceToNat, reduceCtorEq, Nat.reduceLT, Nat.reduceLeDiff, Int.reduceSub, Int.reduceAdd, Int.reduceNeg, Sat.look hs, Sat.lookA hs]
  by_cases hlt : i < xs.length
  case pos =>
    have ha : a.isSome = true := hx.isSome (by simp; omega)
    have hj : ((xs.length : Int) - 1 - (i : Int)).toNat = xs.length - 1 - i := by omega
    have hc := hx (xs.length - 1 - i) _ (u8get (by omega))
    have htk : xs.reverse.take (i + 1) = xs.reverse.take i ++ [xs[xs.length - 1 - i]] := by
      rw [List.take_succ_eq_append_getElem (by simpa using hlt), List.getElem_reverse]
    have hsub : (xs.length : Int) - 1 - (i : Int) - 1 = (xs.length : Int) - 1 - ((i + 1 : Nat) : Int) := by omega
    (repeat (first | (simp (disch := first | omega | assumption | exact Option.isSome_some | (simp only [adO_isSome]; assumption)) only [↓vcp, vcs, vct, if_true, if_false, Nat.reduceBEq, ↓reduceIte, Nat.reduceEqDiff, Nat.reduceAdd, Nat.reduceMul, Nat.reduceSub, Int.reduceToNat, reduceCtorEq, Nat.reduceLT, Nat.reduceLeDiff, Int.reduceSub, Int.reduceAdd, Int.reduceNeg, Sat.look hs, Sat.lookA hs, hj, hs.old hc]) | (refine khK he hs ?_; clear he; intro he) | ((first | refine stK hs ?_ | refine stFK hs ?_ | refine stAK hs ?_ | refine msK hs ?_); clear hs; (try clear w); rintro w hs; try simp only [cls] at hs) | ((first | refine al_ok hs ?_ | refine bx_ok hs ?_ | refine bsvK hs ?_ | refine bs1_ok hs ?_ | refine bs0_ok hs ?_); clear hs; (try clear w); rintro _ w hs; try simp only [cls] at hs)))
    refine apK 1 hs (hs.rd) ?_; clear hs; (try clear w); rintro a2 c2 w hc2 hs; try simp only [cls] at hs
    simp (disch := first | omega | assumption | exact Option.isSome_some | (simp only [adO_isSome]; assumption)) only [↓vcp, vcs, vct, if_true, if_false, Nat.reduceBEq, ↓reduceIte, Nat.reduceEqDiff, Nat.reduceAdd, Nat.reduceMul, Nat.reduceSub, Int.reduceToNat, reduceCtorEq, Nat.reduceLT, Nat.reduceLeDiff, Int.reduceSub, Int.reduceAdd, Int.reduceNeg, Sat.look hs, Sat.lookA hs, hsub]
    exact ⟨(i + 1, a2, c2), by rfl, by rfl, ⟨by dsimp only; omega, by dsimp only; omega, by dsimp only; rw [htk]; simpa using hs.take 1⟩, by dsimp only; omega⟩
  case neg =>
    obtain rfl : i = xs.length := by omega
    rw [List.take_of_length_le (by simp)] at hs
    have hrl : xs.reverse.length = xs.length := by simp
    have hneg : ¬ (0 ≤ (xs.length : Int) - 1 - (xs.length : Int)) := by omega
    by_cases h0 : 0 < xs.length
    case neg =>
      (repeat (first | (simp (disch := first | omega | assumption | exact Option.isSome_some | (simp only [adO_isSome]; assumption)) only [↓vcp, vcs, vct, if_true, if_false, Nat.reduceBEq, ↓reduceIte, Nat.reduceEqDiff, Nat.reduceAdd, Nat.reduceMul, Nat.reduceSub, Int.reduceToNat, reduceCtorEq, Nat.reduceLT, Nat.reduceLeDiff, Int.reduceSub, Int.reduceAdd, Int.reduceNeg, Sat.look hs, Sat.lookA hs]) | (refine khK he hs ?_; clear he; intro he) | ((first | refine stK hs ?_ | refine stFK hs ?_ | refine stAK hs ?_ | refine msK hs ?_); clear hs; (try clear w); rintro w hs; try simp only [cls] at hs) | ((first | refine al_ok hs ?_ | refine bx_ok hs ?_ | refine bsvK hs ?_ | refine bs1_ok hs ?_ | refine bs0_ok hs ?_); clear hs; (try clear w); rintro _ w hs; try simp only [cls] at hs)))
      have ho : other xs = xs.reverse := by unfold other; rw [if_neg (by omega)]
      exact ret_tmp rfl (hR _ _ ⟨a1, c1, rfl, hc1, by rw [ho]; exact hs⟩)
    case pos =>
      have hr1 : RdB w w.heap.size a1 xs.reverse := hs.rd
      have hr2 : RdB w w.heap.size a xs := hx.rd hs
      by_cases hp : xs.reverse = xs
      case neg =>
        (repeat (first | (simp (disch := first | omega | assumption | exact Option.isSome_some | (simp only [adO_isSome]; assumption)) only [↓vcp, vcs, vct, if_true, if_false, Nat.reduceBEq, ↓reduceIte, Nat.reduceEqDiff, Nat.reduceAdd, Nat.reduceMul, Nat.reduceSub, Int.reduceToNat, reduceCtorEq, Nat.reduceLT, Nat.reduceLeDiff, Int.reduceSub, Int.reduceAdd, Int.reduceNeg, Sat.look hs, Sat.lookA hs, m_strOfL _ _ hr1 hrl, m_strOfL _ _ hr2 rfl, ba_eq]) | (refine khK he hs ?_; clear he; intro he) | ((first | refine stK hs ?_ | refine stFK hs ?_ | refine stAK hs ?_ | refine msK hs ?_); clear hs; (try clear w); rintro w hs; try simp only [cls] at hs) | ((first | refine al_ok hs ?_ | refine bx_ok hs ?_ | refine bsvK hs ?_ | refine bs1_ok hs ?_ | refine bs0_ok hs ?_); clear hs; (try clear w); rintro _ w hs; try simp only [cls] at hs)))
        have ho : other xs = xs.reverse := by unfold other; rw [if_neg (by simp [hp])]
        exact ret_tmp rfl (hR _ _ ⟨a1, c1, rfl, hc1, by rw [ho]; exact hs⟩)
      case pos =>
        have ha1 : a1.isSome = true := hs.isSome (by simp; omega)
        have hj : ((xs.length : Int) - 1).toNat = xs.length - 1 := by omega
        obtain ⟨y, hy⟩ : ∃ y, xs.reverse[xs.length - 1]? = some y := ⟨_, List.getElem?_eq_getElem (by simp; omega)⟩
        have hyv : (xs.reverse.map u8v)[xs.length - 1]? = some (.int .u8 (y.toNat : Int)) := by rw [List.getElem?_map, hy]; rfl
        have hx1 : Bxor .u8 (y.toNat : Int) 1 = ((y ^^^ 1).toNat : Int) := by
          have := Bxor_u .u8 rfl y.toNat 1 (by rw [bits8]; exact y.toNat_lt) (by decide)
          simp only [Int.cast_ofNat_Int] at this
          rw [this]; simp
        have ho : (other xs).map u8v = (xs.reverse.map u8v).set (xs.length - 1) (u8v (y ^^^ 1)) := by
          unfold other
          rw [if_pos ⟨h0, hp⟩, List.getD_eq_getElem?_getD, hy, List.map_set]
          rfl
        (repeat (first | (simp (disch := first | omega | assumption | exact Option.isSome_some | (simp only [adO_isSome]; assumption)) only [↓vcp, vcs, vct, if_true, if_false, Nat.reduceBEq, ↓reduceIte, Nat.reduceEqDiff, Nat.reduceAdd, Nat.reduceMul, Nat.reduceSub, Int.reduceToNat, reduceCtorEq, Nat.reduceLT, Nat.reduceLeDiff, Int.reduceSub, Int.reduceAdd, Int.reduceNeg, Sat.look hs, Sat.lookA hs, m_strOfL _ _ hr1 hrl, m_strOfL _ _ hr2 rfl, ba_eq, hj, hyv, hx1]) | (refine khK he hs ?_; clear he; intro he) | ((first | refine stK hs ?_ | refine stFK hs ?_ | refine stAK hs ?_ | refine msK hs ?_); clear hs; (try clear w); rintro w hs; try simp only [cls] at hs) | ((first | refine al_ok hs ?_ | refine bx_ok hs ?_ | refine bsvK hs ?_ | refine bs1_ok hs ?_ | refine bs0_ok hs ?_); clear hs; (try clear w); rintro _ w hs; try simp only [cls] at hs)))
        exact ret_tmp rfl (hR _ _ ⟨a1, c1, rfl, hc1, by rw [ho]; exact hs⟩)
end Go.Proofs.YtokoohdpakhphaaGreatDoor.Loan
