/- Bytes out of digits of so many bits: the program's gather. -/
import Derived.Test.YtokoohdpakhphaaDoorLnkD
namespace Go.Proofs.YtokoohdpakhphaaDoor.Lnk
open Go VC Go.RowKit
set_option linter.unusedSimpArgs false
set_option linter.unusedVariables false
set_option maxRecDepth 20000
set_option maxHeartbeats 4000000
theorem gago_len (bits : Nat) (ds : List UInt8) : ∀ (s : List UInt8) (n h : Nat) (out : List UInt8) (r : List UInt8 × Nat × Nat), gago bits ds s n h out = some r → r.1.length ≤ out.length + s.length
  | [], n, h, out, r, hr => by
    unfold gago at hr
    obtain rfl := Option.some.inj hr
    simp
  | x :: xs, n, h, out, r, hr => by
    unfold gago at hr
    split at hr
    · cases hr
    · split at hr
      · have := gago_len bits ds xs _ _ _ r hr
        simp only [List.length_append, List.length_cons, List.length_nil] at this ⊢
        omega
      · have := gago_len bits ds xs _ _ _ r hr
        simp only [List.length_cons]
        omega
theorem gatherL_len (bits : Nat) (ds s : List UInt8) : (gatherL bits ds s).1.length ≤ s.length := by
  unfold gatherL
  split
  · simp
  · rename_i h
    have := gago_len bits ds s _ _ _ _ h
    simpa using this
theorem gather_calls (w0 : World) (s ds : List UInt8) (bits : Nat) (hb0 : 0 < bits) (hb8 : bits ≤ 8) (hds : ds.length = 2 ^ bits) (hl : s.length ≤ 1048576) :
    Calls Tryd.prog 41 #[.string ⟨s.toArray⟩, .int .i64 bits, .string ⟨ds.toArray⟩] w0 fun e w' => ∃ a' c', e = .returned (.tuple #[.slice a' (gatherL bits ds s).1.length c', .bool (gatherL bits ds s).2]) ∧ (gatherL bits ds s).1.length ≤ c' ∧ Sat (.at w0) [.sl a' c' ((gatherL bits ds s).1.map u8v) 5 1] w' := by
  refine calls_vc Tryd.func41 rfl (by kernel_rfl) (by kernel_rfl) ?_; intro R hR
  have hs := Sat.start w0
  have hvl := vals_len ds 256 (by omega)
  (repeat (first | (simp (disch := first | omega | assumption | exact Option.isSome_some | (simp only [adO_isSome]; assumption)) only [↓vcp, vcs, vct, if_true, if_false, Nat.reduceBEq, ↓reduceIte, Nat.reduceEqDiff, Nat.reduceAdd, Nat.reduceMul, Nat.reduceSub, Int.reduceToNat, reduceCtorEq, Nat.reduceLT, Nat.reduceLeDiff, Int.reduceSub, Int.reduceAdd, Int.reduceNeg, Sat.look hs, Sat.lookA hs]) | (refine khK he hs ?_; clear he; intro he) | ((first | refine stK hs ?_ | refine stFK hs ?_ | refine stAK hs ?_ | refine msK hs ?_); clear hs; (try clear w); rintro w hs; try simp only [cls] at hs) | ((first | refine al_ok hs ?_ | refine bx_ok hs ?_ | refine bsvK hs ?_ | refine bs1_ok hs ?_ | refine bs0_ok hs ?_); clear hs; (try clear w); rintro _ w hs; try simp only [cls] at hs)))
  refine call_ok (by kernel_rfl) (values_calls w0 ds) ?_; rintro _ w2 ⟨rfl, hb⟩; rw [callK_ret]; replace hs := Sat.add hs (Below.sat hb); clear hb; (try clear w); rename World => w; try simp only [cls] at hs
  (repeat (first | (simp (disch := first | omega | assumption | exact Option.isSome_some | (simp only [adO_isSome]; assumption)) only [↓vcp, vcs, vct, if_true, if_false, Nat.reduceBEq, ↓reduceIte, Nat.reduceEqDiff, Nat.reduceAdd, Nat.reduceMul, Nat.reduceSub, Int.reduceToNat, reduceCtorEq, Nat.reduceLT, Nat.reduceLeDiff, Int.reduceSub, Int.reduceAdd, Int.reduceNeg, Sat.look hs, Sat.lookA hs]) | (refine khK he hs ?_; clear he; intro he) | ((first | refine stK hs ?_ | refine stFK hs ?_ | refine stAK hs ?_ | refine msK hs ?_); clear hs; (try clear w); rintro w hs; try simp only [cls] at hs) | ((first | refine al_ok hs ?_ | refine bx_ok hs ?_ | refine bsvK hs ?_ | refine bs1_ok hs ?_ | refine bs0_ok hs ?_); clear hs; (try clear w); rintro _ w hs; try simp only [cls] at hs)))
  refine al_ok (h := tz99) hs ?_; clear hs; (try clear w); rintro vb w hs
  rw [zeros_eq ds] at hs
  simp only [List.nil_append] at hs
  have hl0 := vals_len ds 0 (by omega)
  (repeat (first | (simp (disch := first | omega | assumption | exact Option.isSome_some | (simp only [adO_isSome]; assumption)) only [↓vcp, vcs, vct, if_true, if_false, Nat.reduceBEq, ↓reduceIte, Nat.reduceEqDiff, Nat.reduceAdd, Nat.reduceMul, Nat.reduceSub, Int.reduceToNat, reduceCtorEq, Nat.reduceLT, Nat.reduceLeDiff, Int.reduceSub, Int.reduceAdd, Int.reduceNeg, Sat.look hs, Sat.lookA hs]) | (refine khK he hs ?_; clear he; intro he) | ((first | refine stK hs ?_ | refine stFK hs ?_ | refine stAK hs ?_ | refine msK hs ?_); clear hs; (try clear w); rintro w hs; try simp only [cls] at hs; try simp only [hl0 hvl] at hs) | ((first | refine al_ok hs ?_ | refine bx_ok hs ?_ | refine bsvK hs ?_ | refine bs1_ok hs ?_ | refine bs0_ok hs ?_); clear hs; (try clear w); rintro _ w hs; try simp only [cls] at hs; try simp only [hl0 hvl] at hs) | ((first | refine stK hs ?_ (by first | omega | (simp only [hl0 hvl, cells_bk, cells_sl, List.length_cons, List.length_nil, List.length_set, List.length_append, List.length_map, List.length_replicate, List.length_take, List.length_drop]; omega) | assumption | rfl) | refine stFK hs ?_ (by first | omega | (simp only [hl0 hvl, cells_bk, cells_sl, List.length_cons, List.length_nil, List.length_set, List.length_append, List.length_map, List.length_replicate, List.length_take, List.length_drop]; omega) | assumption | rfl) (by first | omega | (simp only [hl0 hvl, cells_bk, cells_sl, List.length_cons, List.length_nil, List.length_set, List.length_append, List.length_map, List.length_replicate, List.length_take, List.length_drop]; omega) | assumption | rfl) | refine stAK hs ?_ (by first | omega | (simp only [hl0 hvl, cells_bk, cells_sl, List.length_cons, List.length_nil, List.length_set, List.length_append, List.length_map, List.length_replicate, List.length_take, List.length_drop]; omega) | assumption | rfl) (by first | omega | (simp only [hl0 hvl, cells_bk, cells_sl, List.length_cons, List.length_nil, List.length_set, List.length_append, List.length_map, List.length_replicate, List.length_take, List.length_drop]; omega) | assumption | rfl) | refine msK hs ?_ (by first | omega | (simp only [hl0 hvl, cells_bk, cells_sl, List.length_cons, List.length_nil, List.length_set, List.length_append, List.length_map, List.length_replicate, List.length_take, List.length_drop]; omega) | assumption | rfl)); clear hs; (try clear w); rintro w hs; try simp only [cls] at hs; try simp only [hl0 hvl] at hs)))
  replace hs := Sat.nil hs 5 1; try simp only [cls] at hs
  have hss : (ByteArray.mk s.toArray).size = s.length := ba_size s
  generalize hG : gago bits ds s 0 0 [] = G
  unfold gatherL at hR
  rw [hG] at hR
  (repeat (first | (simp (disch := first | omega | assumption | exact Option.isSome_some | (simp only [adO_isSome]; assumption)) only [↓vcp, vcs, vct, if_true, if_false, Nat.reduceBEq, ↓reduceIte, Nat.reduceEqDiff, Nat.reduceAdd, Nat.reduceMul, Nat.reduceSub, Int.reduceToNat, reduceCtorEq, Nat.reduceLT, Nat.reduceLeDiff, Int.reduceSub, Int.reduceAdd, Int.reduceNeg, Sat.look hs, Sat.lookA hs, hss]) | (refine khK he hs ?_; clear he; intro he) | ((first | refine stK hs ?_ | refine stFK hs ?_ | refine stAK hs ?_ | refine msK hs ?_); clear hs; (try clear w); rintro w hs; try simp only [cls] at hs; try simp only [hl0 hvl] at hs) | ((first | refine al_ok hs ?_ | refine bx_ok hs ?_ | refine bsvK hs ?_ | refine bs1_ok hs ?_ | refine bs0_ok hs ?_); clear hs; (try clear w); rintro _ w hs; try simp only [cls] at hs; try simp only [hl0 hvl] at hs) | ((first | refine stK hs ?_ (by first | omega | (simp only [hl0 hvl, cells_bk, cells_sl, List.length_cons, List.length_nil, List.length_set, List.length_append, List.length_map, List.length_replicate, List.length_take, List.length_drop]; omega) | assumption | rfl) | refine stFK hs ?_ (by first | omega | (simp only [hl0 hvl, cells_bk, cells_sl, List.length_cons, List.length_nil, List.length_set, List.length_append, List.length_map, List.length_replicate, List.length_take, List.length_drop]; omega) | assumption | rfl) (by first | omega | (simp only [hl0 hvl, cells_bk, cells_sl, List.length_cons, List.length_nil, List.length_set, List.length_append, List.length_map, List.length_replicate, List.length_take, List.length_drop]; omega) | assumption | rfl) | refine stAK hs ?_ (by first | omega | (simp only [hl0 hvl, cells_bk, cells_sl, List.length_cons, List.length_nil, List.length_set, List.length_append, List.length_map, List.length_replicate, List.length_take, List.length_drop]; omega) | assumption | rfl) (by first | omega | (simp only [hl0 hvl, cells_bk, cells_sl, List.length_cons, List.length_nil, List.length_set, List.length_append, List.length_map, List.length_replicate, List.length_take, List.length_drop]; omega) | assumption | rfl) | refine msK hs ?_ (by first | omega | (simp only [hl0 hvl, cells_bk, cells_sl, List.length_cons, List.length_nil, List.length_set, List.length_append, List.length_map, List.length_replicate, List.length_take, List.length_drop]; omega) | assumption | rfl)); clear hs; (try clear w); rintro w hs; try simp only [cls] at hs; try simp only [hl0 hvl] at hs)))
  refine loop_join (σ := Nat × Nat × Option Addr × Nat × List UInt8) 0 [10, 11, 9] (fun x => [.int .i64 x.1, .int .i64 x.2.1, .slice x.2.2.1 x.2.2.2.2.length x.2.2.2.1]) [0, 1, 2] (fun x w' => G = some (x.2.2.2.2, x.1, x.2.1) ∧ x.2.1 < 8 ∧ x.1 < 2 ^ x.2.1 ∧ x.2.2.2.2.length ≤ x.2.2.2.1 ∧ VC.Sat (.at w0) [.bk vb (vals ds 256) 99, .sl x.2.2.1 x.2.2.2.1 (x.2.2.2.2.map u8v) 5 1] w') ?_ ?_
  · refine loop_rule (σ := Nat × Nat × Nat × Option Addr × Nat × List UInt8) [18, 10, 11, 9] (fun x => [.int .i64 x.1, .int .i64 x.2.1, .int .i64 x.2.2.1, .slice x.2.2.2.1 x.2.2.2.2.2.length x.2.2.2.2.1]) [0, 1, 2, 8, 17] (fun x w' => x.1 ≤ s.length ∧ x.2.2.1 < 8 ∧ x.2.1 < 2 ^ x.2.2.1 ∧ x.2.2.2.2.2.length ≤ x.2.2.2.2.1 ∧ x.2.2.2.2.2.length ≤ x.1 ∧ gago bits ds (s.drop x.1) x.2.1 x.2.2.1 x.2.2.2.2.2 = G ∧ VC.Sat (.at w0) [.bk vb (vals ds 256) 99, .sl x.2.2.2.1 x.2.2.2.2.1 (x.2.2.2.2.2.map u8v) 5 1] w') (fun x _ => s.length - x.1) (0, 0, 0, none, 0, []) (by kernel_rfl) rfl ⟨by omega, by dsimp only; omega, by dsimp only; simp, by dsimp only; simp, by dsimp only; simp, hG, hs⟩ ?_
    clear hs
    rintro e ⟨i, n, h, oa, oc, out⟩ w ⟨hi, hh, hn, hoc, hol, hgo, hs⟩
    dsimp only at hi hh hn hoc hol hgo hs ⊢
    simp (disch := first | omega | assumption | exact Option.isSome_some | (simp only [adO_isSome]; assumption)) only [↓vcp, vcs, vct, if_true, if_false, Nat.reduceBEq, ↓reduceIte, Nat.reduceEqDiff, Nat.reduceAdd, Nat.reduceMul, Nat.reduceSub, Int.reduceToNat, reduceCtorEq, Nat.reduceLT, Nat.reduceLeDiff, Int.reduceSub, Int.reduceAdd, Int.reduceNeg, Sat.look hs, Sat.lookA hs]
    by_cases hlt : i < s.length
    case neg =>
      obtain rfl : i = s.length := by omega
      rw [List.drop_length] at hgo
      unfold gago at hgo
      (repeat (first | (simp (disch := first | omega | assumption | exact Option.isSome_some | (simp only [adO_isSome]; assumption)) only [↓vcp, vcs, vct, if_true, if_false, Nat.reduceBEq, ↓reduceIte, Nat.reduceEqDiff, Nat.reduceAdd, Nat.reduceMul, Nat.reduceSub, Int.reduceToNat, reduceCtorEq, Nat.reduceLT, Nat.reduceLeDiff, Int.reduceSub, Int.reduceAdd, Int.reduceNeg, Sat.look hs, Sat.lookA hs]) | (refine khK he hs ?_; clear he; intro he) | ((first | refine stK hs ?_ | refine stFK hs ?_ | refine stAK hs ?_ | refine msK hs ?_); clear hs; (try clear w); rintro w hs; try simp only [cls] at hs) | ((first | refine al_ok hs ?_ | refine bx_ok hs ?_ | refine bsvK hs ?_ | refine bs1_ok hs ?_ | refine bs0_ok hs ?_); clear hs; (try clear w); rintro _ w hs; try simp only [cls] at hs)))
      exact ⟨(n, h, oa, oc, out), by rfl, by rfl, hgo.symm, hh, hn, hoc, hs⟩
    obtain ⟨x, hxi⟩ : ∃ x, s[i]? = some x := ⟨_, List.getElem?_eq_getElem hlt⟩
    have hdrop : s.drop i = x :: s.drop (i + 1) := by
      rw [List.drop_eq_getElem_cons hlt]
      rw [List.getElem?_eq_getElem hlt] at hxi
      rw [Option.some.inj hxi]
    have hbt : bt ⟨s.toArray⟩ i = (x.toNat : Int) := by
      rw [bt_list s i hlt]
      rw [List.getElem?_eq_getElem hlt] at hxi
      rw [Option.some.inj hxi]
    have hdz : i < (ByteArray.mk s.toArray).size := by rw [ba_size]; exact hlt
    have hx256 := x.toNat_lt
    have hvg := vals_get ds x
    have hil := indexByte_lt ds x
    rw [hdrop] at hgo
    unfold gago at hgo
    generalize Lib.indexByte ds x = dg at *
    (repeat (first | (simp (disch := first | omega | assumption | exact Option.isSome_some | (simp only [adO_isSome]; assumption)) only [↓vcp, vcs, vct, if_true, if_false, Nat.reduceBEq, ↓reduceIte, Nat.reduceEqDiff, Nat.reduceAdd, Nat.reduceMul, Nat.reduceSub, Int.reduceToNat, reduceCtorEq, Nat.reduceLT, Nat.reduceLeDiff, Int.reduceSub, Int.reduceAdd, Int.reduceNeg, Sat.look hs, Sat.lookA hs, hbt, hvg]) | (refine khK he hs ?_; clear he; intro he) | ((first | refine stK hs ?_ | refine stFK hs ?_ | refine stAK hs ?_ | refine msK hs ?_); clear hs; (try clear w); rintro w hs; try simp only [cls] at hs; try simp only [hvl] at hs) | ((first | refine al_ok hs ?_ | refine bx_ok hs ?_ | refine bsvK hs ?_ | refine bs1_ok hs ?_ | refine bs0_ok hs ?_); clear hs; (try clear w); rintro _ w hs; try simp only [cls] at hs; try simp only [hvl] at hs) | ((first | refine stK hs ?_ (by first | omega | (simp only [hvl, cells_bk, cells_sl, List.length_cons, List.length_nil, List.length_set, List.length_append, List.length_map, List.length_replicate, List.length_take, List.length_drop]; omega) | assumption | rfl) | refine stFK hs ?_ (by first | omega | (simp only [hvl, cells_bk, cells_sl, List.length_cons, List.length_nil, List.length_set, List.length_append, List.length_map, List.length_replicate, List.length_take, List.length_drop]; omega) | assumption | rfl) (by first | omega | (simp only [hvl, cells_bk, cells_sl, List.length_cons, List.length_nil, List.length_set, List.length_append, List.length_map, List.length_replicate, List.length_take, List.length_drop]; omega) | assumption | rfl) | refine stAK hs ?_ (by first | omega | (simp only [hvl, cells_bk, cells_sl, List.length_cons, List.length_nil, List.length_set, List.length_append, List.length_map, List.length_replicate, List.length_take, List.length_drop]; omega) | assumption | rfl) (by first | omega | (simp only [hvl, cells_bk, cells_sl, List.length_cons, List.length_nil, List.length_set, List.length_append, List.length_map, List.length_replicate, List.length_take, List.length_drop]; omega) | assumption | rfl) | refine msK hs ?_ (by first | omega | (simp only [hvl, cells_bk, cells_sl, List.length_cons, List.length_nil, List.length_set, List.length_append, List.length_map, List.length_replicate, List.length_take, List.length_drop]; omega) | assumption | rfl)); clear hs; (try clear w); rintro w hs; try simp only [cls] at hs; try simp only [hvl] at hs)))
    by_cases hneg : dg < 0
    · rw [if_pos hneg] at hgo
      rw [← hgo] at hR
      (repeat (first | (simp (disch := first | omega | assumption | exact Option.isSome_some | (simp only [adO_isSome]; assumption)) only [↓vcp, vcs, vct, if_true, if_false, Nat.reduceBEq, ↓reduceIte, Nat.reduceEqDiff, Nat.reduceAdd, Nat.reduceMul, Nat.reduceSub, Int.reduceToNat, reduceCtorEq, Nat.reduceLT, Nat.reduceLeDiff, Int.reduceSub, Int.reduceAdd, Int.reduceNeg, Sat.look hs, Sat.lookA hs]) | (refine khK he hs ?_; clear he; intro he) | ((first | refine stK hs ?_ | refine stFK hs ?_ | refine stAK hs ?_ | refine msK hs ?_); clear hs; (try clear w); rintro w hs; try simp only [cls] at hs) | ((first | refine al_ok hs ?_ | refine bx_ok hs ?_ | refine bsvK hs ?_ | refine bs1_ok hs ?_ | refine bs0_ok hs ?_); clear hs; (try clear w); rintro _ w hs; try simp only [cls] at hs)))
      replace hs := Sat.nil hs 5 1; try simp only [cls] at hs
      exact ret_tmp2 rfl (hR _ _ ⟨none, 0, rfl, by simp, hs.sub (.cons _ (.cons _ (List.Sublist.refl _)))⟩)
    rw [if_neg hneg] at hgo
    obtain ⟨d, rfl⟩ := Int.eq_ofNat_of_zero_le (show 0 ≤ dg by omega)
    rw [Int.toNat_natCast] at hgo
    have hdb : d < 2 ^ bits := by rw [← hds]; omega
    have hp8 : 2 ^ h ≤ 256 := by
      have := Nat.pow_le_pow_right (n := 2) (by decide) (show h ≤ 8 by omega)
      omega
    have ho := orb n d bits (by omega) (by omega) hdb
    have hN : n * 2 ^ bits + d < 2 ^ (h + bits) := by
      rw [Nat.pow_add]
      have := Nat.mul_le_mul_right (2 ^ bits) (show n + 1 ≤ 2 ^ h by omega)
      rw [Nat.add_mul, Nat.one_mul] at this
      omega
    have hp16 : 2 ^ (h + bits) ≤ 65536 := by
      have := Nat.pow_le_pow_right (n := 2) (by decide) (show h + bits ≤ 16 by omega)
      omega
    generalize n * 2 ^ bits + d = N at *
    by_cases h8 : 8 ≤ h + bits
    · rw [if_pos h8] at hgo
      have hsub : (h : Int) + (bits : Int) - 8 = ((h + bits - 8 : Nat) : Int) := by omega
      have hshr : Shr .i64 (N : Int) ((h + bits - 8 : Nat) : Int) = ((N / 2 ^ (h + bits - 8) : Nat) : Int) := Shr_u .i64 _ _ (by rw [bitsi64]; omega)
      have hone := one_shl (h + bits - 8) (by omega)
      have hwp := wrap_p (h + bits - 8) (by omega)
      have hmask := mask N (h + bits - 8) (by omega) (by omega)
      obtain ⟨hpb1, hpb2⟩ := pow_le8 (b := h + bits - 8) (by omega)
      have hw8 := wr8 (N / 2 ^ (h + bits - 8))
      (repeat (first | (simp (disch := first | omega | assumption | exact Option.isSome_some | (simp only [adO_isSome]; assumption)) only [↓vcp, vcs, vct, if_true, if_false, Nat.reduceBEq, ↓reduceIte, Nat.reduceEqDiff, Nat.reduceAdd, Nat.reduceMul, Nat.reduceSub, Int.reduceToNat, reduceCtorEq, Nat.reduceLT, Nat.reduceLeDiff, Int.reduceSub, Int.reduceAdd, Int.reduceNeg, Sat.look hs, Sat.lookA hs, ho, hsub, hshr, hone, hwp, hmask, hw8]) | (refine khK he hs ?_; clear he; intro he) | ((first | refine stK hs ?_ | refine stFK hs ?_ | refine stAK hs ?_ | refine msK hs ?_); clear hs; (try clear w); rintro w hs; try simp only [cls] at hs) | ((first | refine al_ok hs ?_ | refine bx_ok hs ?_ | refine bsvK hs ?_ | refine bs1_ok hs ?_ | refine bs0_ok hs ?_); clear hs; (try clear w); rintro _ w hs; try simp only [cls] at hs)))
      rename_i l1
      generalize UInt8.ofNat (N / 2 ^ (h + bits - 8)) = qb at *
      refine apK 1 hs (hs.rd (a := some ⟨l1, 0, none⟩)) ?_; clear hs; (try clear w); rintro a2 c2 w hc2 hs; try simp only [cls] at hs
      have e1 : out.map u8v ++ [Value.int .u8 (qb.toNat : Int)] = (out ++ [qb]).map u8v := by simp [u8v]
      rw [e1] at hs
      rw [show out.length + 1 = (out ++ [qb]).length by simp] at hc2 ⊢
      (repeat (first | (simp (disch := first | omega | assumption | exact Option.isSome_some | (simp only [adO_isSome]; assumption)) only [↓vcp, vcs, vct, if_true, if_false, Nat.reduceBEq, ↓reduceIte, Nat.reduceEqDiff, Nat.reduceAdd, Nat.reduceMul, Nat.reduceSub, Int.reduceToNat, reduceCtorEq, Nat.reduceLT, Nat.reduceLeDiff, Int.reduceSub, Int.reduceAdd, Int.reduceNeg, Sat.look hs, Sat.lookA hs, ho, hsub, hshr, hone, hwp, hmask, hw8]) | (refine khK he hs ?_; clear he; intro he) | ((first | refine stK hs ?_ | refine stFK hs ?_ | refine stAK hs ?_ | refine msK hs ?_); clear hs; (try clear w); rintro w hs; try simp only [cls] at hs) | ((first | refine al_ok hs ?_ | refine bx_ok hs ?_ | refine bsvK hs ?_ | refine bs1_ok hs ?_ | refine bs0_ok hs ?_); clear hs; (try clear w); rintro _ w hs; try simp only [cls] at hs)))
      exact ⟨(i + 1, N % 2 ^ (h + bits - 8), h + bits - 8, a2, c2, out ++ [qb]), by rfl, by rfl, ⟨by dsimp only; omega, by dsimp only; omega, Nat.mod_lt _ (by omega), hc2, by dsimp only; rw [List.length_append, List.length_singleton]; omega, hgo, hs.sub (.cons_cons _ (.cons_cons _ (List.nil_sublist _)))⟩, by dsimp only; omega⟩
    · rw [if_neg h8] at hgo
      (repeat (first | (simp (disch := first | omega | assumption | exact Option.isSome_some | (simp only [adO_isSome]; assumption)) only [↓vcp, vcs, vct, if_true, if_false, Nat.reduceBEq, ↓reduceIte, Nat.reduceEqDiff, Nat.reduceAdd, Nat.reduceMul, Nat.reduceSub, Int.reduceToNat, reduceCtorEq, Nat.reduceLT, Nat.reduceLeDiff, Int.reduceSub, Int.reduceAdd, Int.reduceNeg, Sat.look hs, Sat.lookA hs, ho]) | (refine khK he hs ?_; clear he; intro he) | ((first | refine stK hs ?_ | refine stFK hs ?_ | refine stAK hs ?_ | refine msK hs ?_); clear hs; (try clear w); rintro w hs; try simp only [cls] at hs) | ((first | refine al_ok hs ?_ | refine bx_ok hs ?_ | refine bsvK hs ?_ | refine bs1_ok hs ?_ | refine bs0_ok hs ?_); clear hs; (try clear w); rintro _ w hs; try simp only [cls] at hs)))
      exact ⟨(i + 1, N, h + bits, oa, oc, out), by rfl, by rfl, ⟨by dsimp only; omega, by dsimp only; omega, hN, hoc, by dsimp only; omega, hgo, hs⟩, by dsimp only; omega⟩
  · clear hs
    rintro e ⟨n, h, oa, oc, out⟩ w ⟨hG2, hh, hn, hoc, hs⟩
    dsimp only at hG2 hh hn hoc hs ⊢
    rw [hG2] at hR
    dsimp only at hR
    by_cases hn0 : n = 0
    · rw [show decide (n = 0 ∧ h < bits) = decide ((h : Int) < (bits : Int)) by simp [hn0]] at hR
      (repeat (first | (simp (disch := first | omega | assumption | exact Option.isSome_some | (simp only [adO_isSome]; assumption)) only [↓vcp, vcs, vct, if_true, if_false, Nat.reduceBEq, ↓reduceIte, Nat.reduceEqDiff, Nat.reduceAdd, Nat.reduceMul, Nat.reduceSub, Int.reduceToNat, reduceCtorEq, Nat.reduceLT, Nat.reduceLeDiff, Int.reduceSub, Int.reduceAdd, Int.reduceNeg, Sat.look hs, Sat.lookA hs]) | (refine khK he hs ?_; clear he; intro he) | ((first | refine stK hs ?_ | refine stFK hs ?_ | refine stAK hs ?_ | refine msK hs ?_); clear hs; (try clear w); rintro w hs; try simp only [cls] at hs) | ((first | refine al_ok hs ?_ | refine bx_ok hs ?_ | refine bsvK hs ?_ | refine bs1_ok hs ?_ | refine bs0_ok hs ?_); clear hs; (try clear w); rintro _ w hs; try simp only [cls] at hs)))
      exact ret_tmp2 rfl (hR _ _ ⟨oa, oc, rfl, hoc, hs.sub (.cons _ (List.Sublist.refl _))⟩)
    · rw [decide_eq_false (show ¬ (n = 0 ∧ h < bits) by omega)] at hR
      (repeat (first | (simp (disch := first | omega | assumption | exact Option.isSome_some | (simp only [adO_isSome]; assumption)) only [↓vcp, vcs, vct, if_true, if_false, Nat.reduceBEq, ↓reduceIte, Nat.reduceEqDiff, Nat.reduceAdd, Nat.reduceMul, Nat.reduceSub, Int.reduceToNat, reduceCtorEq, Nat.reduceLT, Nat.reduceLeDiff, Int.reduceSub, Int.reduceAdd, Int.reduceNeg, Sat.look hs, Sat.lookA hs]) | (refine khK he hs ?_; clear he; intro he) | ((first | refine stK hs ?_ | refine stFK hs ?_ | refine stAK hs ?_ | refine msK hs ?_); clear hs; (try clear w); rintro w hs; try simp only [cls] at hs) | ((first | refine al_ok hs ?_ | refine bx_ok hs ?_ | refine bsvK hs ?_ | refine bs1_ok hs ?_ | refine bs0_ok hs ?_); clear hs; (try clear w); rintro _ w hs; try simp only [cls] at hs)))
      exact ret_tmp2 rfl (hR _ _ ⟨oa, oc, rfl, hoc, hs.sub (.cons _ (List.Sublist.refl _))⟩)
end Go.Proofs.YtokoohdpakhphaaDoor.Lnk
