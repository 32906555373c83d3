/- The program's hash: a new one, its sum. -/
import Derived.Test.YtokoohdpakhphaaDoorWrite
namespace Go.Proofs.YtokoohdpakhphaaDoor.Sha
open Go VC Go.RowKit
set_option linter.unusedSimpArgs false
set_option maxRecDepth 20000
set_option maxHeartbeats 4000000
theorem New_calls (w0 : World) : Calls Tryd.prog 55 #[] w0 fun e w' => ∃ b, e = .returned (.pointer (some ⟨b, 0, none⟩)) ∧ Sat (.at w0) [.bk b (hcells [] (List.replicate 64 0)) 114] w' := by
  refine calls_vc Tryd.func55 rfl (by kernel_rfl) (by kernel_rfl) ?_; intro R hR
  have hs := Sat.start w0
  (repeat (first | (simp (disch := first | omega | assumption | exact Option.isSome_some | (simp only [adO_isSome]; assumption)) only [↓vcp, vcs, vct, if_true, if_false, Nat.reduceBEq, ↓reduceIte, Nat.reduceEqDiff, Nat.reduceAdd, Nat.reduceMul, Nat.reduceSub, Int.reduceToNat, reduceCtorEq, Nat.reduceLT, Nat.reduceLeDiff, Int.reduceSub, Int.reduceAdd, Int.reduceNeg, Sat.look hs, Sat.lookA hs]) | (refine khK he hs ?_; clear he; intro he) | ((first | refine stK hs ?_ | refine stFK hs ?_ | refine stAK hs ?_ | refine msK hs ?_); clear hs; (try clear w); rintro w hs; try simp only [cls] at hs) | ((first | refine al_ok hs ?_ | refine bx_ok hs ?_ | refine bsvK hs ?_ | refine bs1_ok hs ?_ | refine bs0_ok hs ?_); clear hs; (try clear w); rintro _ w hs; try simp only [cls] at hs)))
  rw [fillS_agg 0 8 _ _ _ rfl (by simp)]
  simp only [List.take_zero, List.nil_append, Nat.zero_add, List.drop_succ_cons, List.drop_zero, List.cons_append]
  (repeat (first | (simp (disch := first | omega | assumption | exact Option.isSome_some | (simp only [adO_isSome]; assumption)) only [↓vcp, vcs, vct, if_true, if_false, Nat.reduceBEq, ↓reduceIte, Nat.reduceEqDiff, Nat.reduceAdd, Nat.reduceMul, Nat.reduceSub, Int.reduceToNat, reduceCtorEq, Nat.reduceLT, Nat.reduceLeDiff, Int.reduceSub, Int.reduceAdd, Int.reduceNeg, Sat.look hs, Sat.lookA hs]) | (refine khK he hs ?_; clear he; intro he) | ((first | refine stK hs ?_ | refine stFK hs ?_ | refine stAK hs ?_ | refine msK hs ?_); clear hs; (try clear w); rintro w hs; try simp only [cls] at hs) | ((first | refine al_ok hs ?_ | refine bx_ok hs ?_ | refine bsvK hs ?_ | refine bs1_ok hs ?_ | refine bs0_ok hs ?_); clear hs; (try clear w); rintro _ w hs; try simp only [cls] at hs)))
  refine ret_tmp rfl (hR _ _ ⟨_, rfl, ?_⟩)
  have e : hcells [] (List.replicate 64 0) = first.list.map u32v ++ ((List.replicate 64 (0 : UInt8)).map u8v ++ [.int .i64 0, .int .u64 0]) := by
    unfold hcells hraw
    rw [fold_small (by simp)]
    rfl
  rw [e]
  exact hs
theorem HSum_calls (S : Cx) (w0 : World) (hb : Nat) (ys part : List UInt8)
    (hs0 : Sat S [.bk hb (hcells ys part) 114] w0) (hok : HOk ys part) (hG : Ro S (some ⟨1, 0, none⟩) (factors.map u32v)) (hl : ys.length ≤ 1125899906842624) :
    Calls Tryd.prog 57 #[.pointer (some ⟨hb, 0, none⟩)] w0 fun e w' => ∃ H, e = .returned (.agg ((sum ys).map u8v).toArray) ∧ Sat S (.bk hb (hcells ys part) 114 :: H) w' := by
  refine calls_vc Tryd.func57 rfl (by kernel_rfl) (by kernel_rfl) ?_; intro R hR
  obtain ⟨hp, hpt⟩ := id hok
  have hs := hs0
  have hr64 : ys.length % 64 < 64 := Nat.mod_lt _ (by omega)
  unfold hcells at hs
  generalize hst : fold first ys = s at *
  have h74 : (hraw s part (ys.length % 64) ys.length).length = 74 := hraw_len hp
  have htk : (hraw s part (ys.length % 64) ys.length).take 74 = hraw s part (ys.length % 64) ys.length := List.take_of_length_le (by omega)
  have h1c : (hraw s part (ys.length % 64) ys.length).all (·.oneCell') = true := hraw_one
  have hm : ((119 : Int) - ((ys.length % 64 : Nat) : Int)).tmod 64 = (((119 - ys.length % 64) % 64 : Nat) : Int) := by
    rw [show (119 : Int) - ((ys.length % 64 : Nat) : Int) = ((119 - ys.length % 64 : Nat) : Int) by omega]
    rfl
  have hk : (119 - ys.length % 64) % 64 < 64 := Nat.mod_lt _ (by omega)
  generalize hkk : (119 - ys.length % 64) % 64 = k at *
  (repeat (first | (simp (disch := first | omega | assumption | exact Option.isSome_some | (simp only [adO_isSome]; assumption)) only [↓vcp, vcs, vct, if_true, if_false, Nat.reduceBEq, ↓reduceIte, Nat.reduceEqDiff, Nat.reduceAdd, Nat.reduceMul, Nat.reduceSub, Int.reduceToNat, reduceCtorEq, Nat.reduceLT, Nat.reduceLeDiff, Int.reduceSub, Int.reduceAdd, Int.reduceNeg, Sat.look hs, Sat.lookA hs, h74, htk, hraw_73 hp, hraw_72 hp, hm]) | (refine khK he hs ?_; clear he; intro he) | ((first | refine stK hs ?_ | refine stFK hs ?_ | refine stAK hs ?_ | refine msK hs ?_); clear hs; (try clear w); rintro w hs; try simp only [cls] at hs; try simp only [h74] at hs) | ((first | refine al_ok hs ?_ | refine bx_ok hs ?_ | refine bsvK hs ?_ | refine bs1_ok hs ?_ | refine bs0_ok hs ?_); clear hs; (try clear w); rintro _ w hs; try simp only [cls] at hs; try simp only [h74] at hs) | ((first | refine stK hs ?_ (by first | omega | (simp only [h74, cells_bk, cells_sl, List.length_cons, List.length_nil, List.length_set, List.length_append, List.length_map, List.length_replicate, List.length_take, List.length_drop]; omega) | assumption | rfl) | refine stFK hs ?_ (by first | omega | (simp only [h74, cells_bk, cells_sl, List.length_cons, List.length_nil, List.length_set, List.length_append, List.length_map, List.length_replicate, List.length_take, List.length_drop]; omega) | assumption | rfl) (by first | omega | (simp only [h74, cells_bk, cells_sl, List.length_cons, List.length_nil, List.length_set, List.length_append, List.length_map, List.length_replicate, List.length_take, List.length_drop]; omega) | assumption | rfl) | refine stAK hs ?_ (by first | omega | (simp only [h74, cells_bk, cells_sl, List.length_cons, List.length_nil, List.length_set, List.length_append, List.length_map, List.length_replicate, List.length_take, List.length_drop]; omega) | assumption | rfl) (by first | omega | (simp only [h74, cells_bk, cells_sl, List.length_cons, List.length_nil, List.length_set, List.length_append, List.length_map, List.length_replicate, List.length_take, List.length_drop]; omega) | assumption | rfl) | refine msK hs ?_ (by first | omega | (simp only [h74, cells_bk, cells_sl, List.length_cons, List.length_nil, List.length_set, List.length_append, List.length_map, List.length_replicate, List.length_take, List.length_drop]; omega) | assumption | rfl)); clear hs; (try clear w); rintro w hs; try simp only [cls] at hs; try simp only [h74] at hs)))
  rename_i ob xb
  refine mk_ok hs (k + 1) 72 (by omega) (by rfl) (by omega) (by omega) (by unfold maxLen; omega) ?_
  clear hs; clear w; intro pb w hs
  try simp only [cls] at hs
  have hmk : (madeCells #[Value.int .u8 0] ((k + 1) * 1)).toList = List.replicate (k + 1) (.int .u8 0) := by rw [Nat.mul_one]; exact madeCells_one _ _
  change Sat S [_, _, _, .sl (some ⟨pb, 0, none⟩) 72 (madeCells #[Value.int .u8 0] ((k + 1) * 1)).toList 5 1] w at hs
  rw [hmk, List.replicate_succ] at hs
  (repeat (first | (simp (disch := first | omega | assumption | exact Option.isSome_some | (simp only [adO_isSome]; assumption)) only [↓vcp, vcs, vct, if_true, if_false, Nat.reduceBEq, ↓reduceIte, Nat.reduceEqDiff, Nat.reduceAdd, Nat.reduceMul, Nat.reduceSub, Int.reduceToNat, reduceCtorEq, Nat.reduceLT, Nat.reduceLeDiff, Int.reduceSub, Int.reduceAdd, Int.reduceNeg, Sat.look hs, Sat.lookA hs]) | (refine khK he hs ?_; clear he; intro he) | ((first | refine stK hs ?_ | refine stFK hs ?_ | refine stAK hs ?_ | refine msK hs ?_); clear hs; (try clear w); rintro w hs; try simp only [cls] at hs) | ((first | refine al_ok hs ?_ | refine bx_ok hs ?_ | refine bsvK hs ?_ | refine bs1_ok hs ?_ | refine bs0_ok hs ?_); clear hs; (try clear w); rintro _ w hs; try simp only [cls] at hs)))
  have h8 : (ys.length : Int) * 8 = ((8 * ys.length : Nat) : Int) := by omega
  have hlb : (be64 (8 * ys.length)).length = 8 := by simp [be64]
  refine loop_rule (σ := Nat × Option Addr × Nat) [5, 6] (fun x => [.slice x.2.1 (1 + k + x.1) x.2.2, .int .i64 (7 - (x.1 : Int))]) [2, 3, 4] (fun x w' => x.1 ≤ 8 ∧ 1 + k + x.1 ≤ x.2.2 ∧ Sat S [.bk hb (hraw s part (ys.length % 64) ys.length) 114, .bk ob (List.replicate 32 (.int .u8 0)) 61, .bk xb (hraw s part (ys.length % 64) ys.length) 114, .sl x.2.1 x.2.2 ((128 :: (List.replicate k 0 ++ (be64 (8 * ys.length)).take x.1)).map u8v) 5 1] w')
    (fun x _ => 8 - x.1) (0, some ⟨pb, 0, none⟩, 72) (by kernel_rfl) ?_ ⟨by omega, by dsimp only; omega, by simpa [u8v] using hs⟩ ?_
  · simp only [Nat.add_comm 1 k]; rfl
  clear hs
  rintro b ⟨m, a4, c4⟩ w ⟨hm8, hc4, hs⟩
  dsimp only at hm8 hc4 hs ⊢
  simp (disch := first | omega | assumption | exact Option.isSome_some | (simp only [adO_isSome]; assumption)) only [↓vcp, vcs, vct, if_true, if_false, Nat.reduceBEq, ↓reduceIte, Nat.reduceEqDiff, Nat.reduceAdd, Nat.reduceMul, Nat.reduceSub, Int.reduceToNat, reduceCtorEq, Nat.reduceLT, Nat.reduceLeDiff, Int.reduceSub, Int.reduceAdd, Int.reduceNeg, Sat.look hs, Sat.lookA hs]
  by_cases hlt : m < 8
  case pos =>
    have hsh : (8 * (7 - (m : Int))) = ((8 * (7 - m) : Nat) : Int) := by omega
    have hsh' : 7 - (m : Int) - 1 = 7 - ((m + 1 : Nat) : Int) := by omega
    have hbe : (be64 (8 * ys.length))[m]? = some (UInt8.ofNat (8 * ys.length / 2 ^ (8 * (7 - m)))) := by simp [be64, hlt]
    have htk8 : (be64 (8 * ys.length)).take (m + 1) = (be64 (8 * ys.length)).take m ++ [UInt8.ofNat (8 * ys.length / 2 ^ (8 * (7 - m)))] := by rw [List.take_add_one, hbe]; rfl
    have hbits : 8 * (7 - m) ≤ IntKind.bits .u64 := by rw [bits64]; omega
    (repeat (first | (simp (disch := first | omega | assumption | exact Option.isSome_some | (simp only [adO_isSome]; assumption)) only [↓vcp, vcs, vct, if_true, if_false, Nat.reduceBEq, ↓reduceIte, Nat.reduceEqDiff, Nat.reduceAdd, Nat.reduceMul, Nat.reduceSub, Int.reduceToNat, reduceCtorEq, Nat.reduceLT, Nat.reduceLeDiff, Int.reduceSub, Int.reduceAdd, Int.reduceNeg, Sat.look hs, Sat.lookA hs, h8, hsh, shr_nat, wr8, u8v_eq]) | (refine khK he hs ?_; clear he; intro he) | ((first | refine stK hs ?_ | refine stFK hs ?_ | refine stAK hs ?_ | refine msK hs ?_); clear hs; (try clear w); rintro w hs; try simp only [cls] at hs) | ((first | refine al_ok hs ?_ | refine bx_ok hs ?_ | refine bsvK hs ?_ | refine bs1_ok hs ?_ | refine bs0_ok hs ?_); clear hs; (try clear w); rintro _ w hs; try simp only [cls] at hs)))
    clear hbe
    generalize UInt8.ofNat (8 * ys.length / 2 ^ (8 * (7 - m))) = byt at *
    generalize be64 (8 * ys.length) = bs at *
    refine apK 1 hs (hs.rd) ?_; clear hs; (try clear w); rintro a5 c5 w hc5 hs; try simp only [cls] at hs
    (repeat (first | (simp (disch := first | omega | assumption | exact Option.isSome_some | (simp only [adO_isSome]; assumption)) only [↓vcp, vcs, vct, if_true, if_false, Nat.reduceBEq, ↓reduceIte, Nat.reduceEqDiff, Nat.reduceAdd, Nat.reduceMul, Nat.reduceSub, Int.reduceToNat, reduceCtorEq, Nat.reduceLT, Nat.reduceLeDiff, Int.reduceSub, Int.reduceAdd, Int.reduceNeg, Sat.look hs, Sat.lookA hs, hsh']) | (refine khK he hs ?_; clear he; intro he) | ((first | refine stK hs ?_ | refine stFK hs ?_ | refine stAK hs ?_ | refine msK hs ?_); clear hs; (try clear w); rintro w hs; try simp only [cls] at hs) | ((first | refine al_ok hs ?_ | refine bx_ok hs ?_ | refine bsvK hs ?_ | refine bs1_ok hs ?_ | refine bs0_ok hs ?_); clear hs; (try clear w); rintro _ w hs; try simp only [cls] at hs)))
    refine ⟨(m + 1, a5, c5), by rfl, by rfl, ⟨by dsimp only; omega, by dsimp only; omega, ?_⟩, by dsimp only; omega⟩
    dsimp only
    rw [htk8]
    simpa using hs.take 4
  case neg =>
    obtain rfl : m = 8 := by omega
    rw [List.take_of_length_le (by omega)] at hs
    have h64 : 8 * ys.length % 2 ^ 64 = 8 * ys.length := Nat.mod_eq_of_lt (by omega)
    have hpad : pad ys.length = 128 :: (List.replicate k 0 ++ be64 (8 * ys.length)) := by unfold pad; rw [hkk, h64]
    have hpl : (pad ys.length).length = 1 + k + 8 := by rw [hpad]; simp [be64]; omega
    rw [← hpad] at hs
    rw [← hst] at hs
    (repeat (first | (simp (disch := first | omega | assumption | exact Option.isSome_some | (simp only [adO_isSome]; assumption)) only [↓vcp, vcs, vct, if_true, if_false, Nat.reduceBEq, ↓reduceIte, Nat.reduceEqDiff, Nat.reduceAdd, Nat.reduceMul, Nat.reduceSub, Int.reduceToNat, reduceCtorEq, Nat.reduceLT, Nat.reduceLeDiff, Int.reduceSub, Int.reduceAdd, Int.reduceNeg, Sat.look hs, Sat.lookA hs]) | (refine khK he hs ?_; clear he; intro he) | ((first | refine stK hs ?_ | refine stFK hs ?_ | refine stAK hs ?_ | refine msK hs ?_); clear hs; (try clear w); rintro w hs; try simp only [cls] at hs) | ((first | refine al_ok hs ?_ | refine bx_ok hs ?_ | refine bsvK hs ?_ | refine bs1_ok hs ?_ | refine bs0_ok hs ?_); clear hs; (try clear w); rintro _ w hs; try simp only [cls] at hs)))
    rw [← hpl] at hc4 ⊢
    refine call_ok (by kernel_rfl) (Write_calls _ w xb ys part a4 c4 (pad ys.length) (hs.one 2 rfl) hok (hG.up hs 2 rfl) (hs.roOther (i := 2) rfl (by omega)) hc4 (by omega)) ?_; rintro _ w2 ⟨part2, H2, rfl, hok2, hb⟩; rw [callK_ret]; replace hs := Sat.upd hs 2 rfl hb; clear hb; (try clear w); rename World => w; try simp only [cls] at hs
    unfold hcells at hs
    have hsum : sum ys = out (fold first (ys ++ pad ys.length)) := rfl
    have hp2 := hok2.1
    generalize fold first (ys ++ pad ys.length) = s2 at *
    generalize hr2 : (ys ++ pad ys.length).length % 64 = r2 at *
    generalize (ys ++ pad ys.length).length = l2 at *
    have h742 : (hraw s2 part2 r2 l2).length = 74 := hraw_len hp2
    have htk2 : (hraw s2 part2 r2 l2).take 8 = s2.list.map u32v := by unfold hraw; rw [List.take_append_of_le_length (by rw [stlen]; omega)]; rfl
    (repeat (first | (simp (disch := first | omega | assumption | exact Option.isSome_some | (simp only [adO_isSome]; assumption)) only [↓vcp, vcs, vct, if_true, if_false, Nat.reduceBEq, ↓reduceIte, Nat.reduceEqDiff, Nat.reduceAdd, Nat.reduceMul, Nat.reduceSub, Int.reduceToNat, reduceCtorEq, Nat.reduceLT, Nat.reduceLeDiff, Int.reduceSub, Int.reduceAdd, Int.reduceNeg, Sat.look hs, Sat.lookA hs, h742, htk2]) | (refine khK he hs ?_; clear he; intro he) | ((first | refine stK hs ?_ | refine stFK hs ?_ | refine stAK hs ?_ | refine msK hs ?_); clear hs; (try clear w); rintro w hs; try simp only [cls] at hs) | ((first | refine al_ok hs ?_ | refine bx_ok hs ?_ | refine bsvK hs ?_ | refine bs1_ok hs ?_ | refine bs0_ok hs ?_); clear hs; (try clear w); rintro _ w hs; try simp only [cls] at hs)))
    rename_i rb
    replace hs : Sat S (.bk hb (hraw (fold first ys) part (ys.length % 64) ys.length) 114 :: .bk ob (List.replicate 32 (.int .u8 0)) 61 :: .bk xb (hraw s2 part2 r2 l2) 114 :: .bk rb (List.replicate 32 (.int .u8 0)) 61 :: .sl a4 c4 ((pad ys.length).map u8v) 5 1 :: H2) w := by
      refine hs.perm ?_
      refine List.Perm.cons _ (List.Perm.cons _ (List.Perm.cons _ ?_))
      exact (List.perm_append_comm (l₁ := .sl a4 c4 ((pad ys.length).map u8v) 5 1 :: H2) (l₂ := [_]))
    generalize (.sl a4 c4 ((pad ys.length).map u8v) 5 1 :: H2) = H3 at *
    refine loop_rule (σ := Nat) [40] (fun i => [.int .i64 i]) [2, 7, 39] (fun i w' => i ≤ 8 ∧ Sat S (.bk hb (hraw (fold first ys) part (ys.length % 64) ys.length) 114 :: .bk ob (List.replicate 32 (.int .u8 0)) 61 :: .bk xb (hraw s2 part2 r2 l2) 114 :: .bk rb (((out s2).map u8v).take (4 * i) ++ List.replicate (32 - 4 * i) (.int .u8 0)) 61 :: H3) w') (fun i _ => 8 - i) 0 (by kernel_rfl) rfl ⟨by omega, hs⟩ ?_
    clear hs
    rintro b i w ⟨hi, hs⟩
    have hol := out_len s2
    have hol' : ((out s2).map u8v).length = 32 := by rw [List.length_map]; exact hol
    simp (disch := first | omega | assumption | exact Option.isSome_some | (simp only [adO_isSome]; assumption)) only [↓vcp, vcs, vct, if_true, if_false, Nat.reduceBEq, ↓reduceIte, Nat.reduceEqDiff, Nat.reduceAdd, Nat.reduceMul, Nat.reduceSub, Int.reduceToNat, reduceCtorEq, Nat.reduceLT, Nat.reduceLeDiff, Int.reduceSub, Int.reduceAdd, Int.reduceNeg, Sat.look hs, Sat.lookA hs]
    by_cases hlt : i < 8
    case pos =>
      obtain ⟨x, hx, x0, x1, x2, x3⟩ := out4 s2 i hlt
      have hxi : (s2.list.map u32v)[i]? = some (.int .u32 x.toNat) := out_lt s2 hx
      have f0 := fill_set (z := .int .u8 0) hol' (j := 4 * i) (v := u8v (UInt8.ofNat (x.toNat / 2 ^ 24))) (by simp [x0])
      have f1 := fill_set (z := .int .u8 0) hol' (j := 4 * i + 1) (v := u8v (UInt8.ofNat (x.toNat / 2 ^ 16))) (by simp [x1])
      have f2 := fill_set (z := .int .u8 0) hol' (j := 4 * i + 2) (v := u8v (UInt8.ofNat (x.toNat / 2 ^ 8))) (by simp [x2])
      have f3 := fill_set (z := .int .u8 0) hol' (j := 4 * i + 3) (v := u8v (UInt8.ofNat x.toNat)) (by simp [x3])
      have e0 : (4 * (i : Int)).toNat = 4 * i := by omega
      have e1 : (4 * (i : Int) + 1).toNat = 4 * i + 1 := by omega
      have e2 : (4 * (i : Int) + 2).toNat = 4 * i + 2 := by omega
      have e3 : (4 * (i : Int) + 3).toNat = 4 * i + 3 := by omega
      have hb32 : ∀ n, n ≤ 24 → n ≤ IntKind.bits .u32 := fun n hn => by rw [bits32]; omega
      (repeat (first | (simp (disch := first | omega | assumption | exact Option.isSome_some | (simp only [adO_isSome]; assumption)) only [↓vcp, vcs, vct, if_true, if_false, Nat.reduceBEq, ↓reduceIte, Nat.reduceEqDiff, Nat.reduceAdd, Nat.reduceMul, Nat.reduceSub, Int.reduceToNat, reduceCtorEq, Nat.reduceLT, Nat.reduceLeDiff, Int.reduceSub, Int.reduceAdd, Int.reduceNeg, Sat.look hs, Sat.lookA hs, hxi, e0, e1, e2, e3, shr_lit .u32 _ 24 (hb32 24 (by omega)), shr_lit .u32 _ 16 (hb32 16 (by omega)), shr_lit .u32 _ 8 (hb32 8 (by omega)), wr8, u8v_eq]) | (refine khK he hs ?_; clear he; intro he) | ((first | refine stK hs ?_ | refine stFK hs ?_ | refine stAK hs ?_ | refine msK hs ?_); clear hs; (try clear w); rintro w hs; try simp only [cls] at hs; try simp only [f0, f1, f2, f3] at hs) | ((first | refine al_ok hs ?_ | refine bx_ok hs ?_ | refine bsvK hs ?_ | refine bs1_ok hs ?_ | refine bs0_ok hs ?_); clear hs; (try clear w); rintro _ w hs; try simp only [cls] at hs; try simp only [f0, f1, f2, f3] at hs) | ((first | refine stK hs ?_ (by first | omega | (simp only [f0, f1, f2, f3, cells_bk, cells_sl, List.length_cons, List.length_nil, List.length_set, List.length_append, List.length_map, List.length_replicate, List.length_take, List.length_drop]; omega) | assumption | rfl) | refine stFK hs ?_ (by first | omega | (simp only [f0, f1, f2, f3, cells_bk, cells_sl, List.length_cons, List.length_nil, List.length_set, List.length_append, List.length_map, List.length_replicate, List.length_take, List.length_drop]; omega) | assumption | rfl) (by first | omega | (simp only [f0, f1, f2, f3, cells_bk, cells_sl, List.length_cons, List.length_nil, List.length_set, List.length_append, List.length_map, List.length_replicate, List.length_take, List.length_drop]; omega) | assumption | rfl) | refine stAK hs ?_ (by first | omega | (simp only [f0, f1, f2, f3, cells_bk, cells_sl, List.length_cons, List.length_nil, List.length_set, List.length_append, List.length_map, List.length_replicate, List.length_take, List.length_drop]; omega) | assumption | rfl) (by first | omega | (simp only [f0, f1, f2, f3, cells_bk, cells_sl, List.length_cons, List.length_nil, List.length_set, List.length_append, List.length_map, List.length_replicate, List.length_take, List.length_drop]; omega) | assumption | rfl) | refine msK hs ?_ (by first | omega | (simp only [f0, f1, f2, f3, cells_bk, cells_sl, List.length_cons, List.length_nil, List.length_set, List.length_append, List.length_map, List.length_replicate, List.length_take, List.length_drop]; omega) | assumption | rfl)); clear hs; (try clear w); rintro w hs; try simp only [cls] at hs; try simp only [f0, f1, f2, f3] at hs)))
      exact ⟨i + 1, by rfl, by rfl, ⟨by omega, hs⟩, by dsimp only; omega⟩
    case neg =>
      obtain rfl : i = 8 := by omega
      rw [List.take_of_length_le (by omega), Nat.sub_self, List.replicate_zero, List.append_nil] at hs
      have htk32 : ((out s2).map u8v).take 32 = (out s2).map u8v := List.take_of_length_le (by omega)
      (repeat (first | (simp (disch := first | omega | assumption | exact Option.isSome_some | (simp only [adO_isSome]; assumption)) only [↓vcp, vcs, vct, if_true, if_false, Nat.reduceBEq, ↓reduceIte, Nat.reduceEqDiff, Nat.reduceAdd, Nat.reduceMul, Nat.reduceSub, Int.reduceToNat, reduceCtorEq, Nat.reduceLT, Nat.reduceLeDiff, Int.reduceSub, Int.reduceAdd, Int.reduceNeg, Sat.look hs, Sat.lookA hs, hol', htk32]) | (refine khK he hs ?_; clear he; intro he) | ((first | refine stK hs ?_ | refine stFK hs ?_ | refine stAK hs ?_ | refine msK hs ?_); clear hs; (try clear w); rintro w hs; try simp only [cls] at hs) | ((first | refine al_ok hs ?_ | refine bx_ok hs ?_ | refine bsvK hs ?_ | refine bs1_ok hs ?_ | refine bs0_ok hs ?_); clear hs; (try clear w); rintro _ w hs; try simp only [cls] at hs)))
      refine ret_cell (sz := 32) rfl (by rfl) (hs.cellsBk 1 rfl hol' (by omega)) (hR _ _ ⟨_, ?_, hs⟩)
      rw [hsum]
theorem DSum_calls (w0 : World) (a : Option Addr) (c : Nat) (xs : List UInt8) (hG : Ro (.at w0) (some ⟨1, 0, none⟩) (factors.map u32v)) (hx : Ro (.at w0) a (xs.map u8v)) (hc : xs.length ≤ c) (hl : xs.length ≤ 1125899906842624) :
    Calls Tryd.prog 34 #[.slice a xs.length c] w0 fun e w' => e = .returned (.agg ((sum xs).map u8v).toArray) ∧ Below w0.heap.size w0 w' := by
  refine calls_vc Tryd.func34 rfl (by kernel_rfl) (by kernel_rfl) ?_; intro R hR
  have hs := Sat.start w0
  (repeat (first | (simp (disch := first | omega | assumption | exact Option.isSome_some | (simp only [adO_isSome]; assumption)) only [↓vcp, vcs, vct, if_true, if_false, Nat.reduceBEq, ↓reduceIte, Nat.reduceEqDiff, Nat.reduceAdd, Nat.reduceMul, Nat.reduceSub, Int.reduceToNat, reduceCtorEq, Nat.reduceLT, Nat.reduceLeDiff, Int.reduceSub, Int.reduceAdd, Int.reduceNeg, Sat.look hs, Sat.lookA hs]) | (refine khK he hs ?_; clear he; intro he) | ((first | refine stK hs ?_ | refine stFK hs ?_ | refine stAK hs ?_ | refine msK hs ?_); clear hs; (try clear w); rintro w hs; try simp only [cls] at hs) | ((first | refine al_ok hs ?_ | refine bx_ok hs ?_ | refine bsvK hs ?_ | refine bs1_ok hs ?_ | refine bs0_ok hs ?_); clear hs; (try clear w); rintro _ w hs; try simp only [cls] at hs)))
  refine call_ok (by kernel_rfl) (New_calls w) ?_; rintro _ w2 ⟨xb, rfl, hb⟩; rw [callK_ret]; replace hs := Sat.add hs hb; clear hb; (try clear w); rename World => w; try simp only [cls] at hs
  (repeat (first | (simp (disch := first | omega | assumption | exact Option.isSome_some | (simp only [adO_isSome]; assumption)) only [↓vcp, vcs, vct, if_true, if_false, Nat.reduceBEq, ↓reduceIte, Nat.reduceEqDiff, Nat.reduceAdd, Nat.reduceMul, Nat.reduceSub, Int.reduceToNat, reduceCtorEq, Nat.reduceLT, Nat.reduceLeDiff, Int.reduceSub, Int.reduceAdd, Int.reduceNeg, Sat.look hs, Sat.lookA hs]) | (refine khK he hs ?_; clear he; intro he) | ((first | refine stK hs ?_ | refine stFK hs ?_ | refine stAK hs ?_ | refine msK hs ?_); clear hs; (try clear w); rintro w hs; try simp only [cls] at hs) | ((first | refine al_ok hs ?_ | refine bx_ok hs ?_ | refine bsvK hs ?_ | refine bs1_ok hs ?_ | refine bs0_ok hs ?_); clear hs; (try clear w); rintro _ w hs; try simp only [cls] at hs)))
  have hok := hok_nil (List.replicate 64 0) rfl
  have hl2 := sum_len xs
  rename_i ob
  refine call_ok (by kernel_rfl) (Write_calls _ w xb [] _ a c xs (hs.one 1 rfl) hok (hG.up hs 1 rfl) (hx.up hs 1 rfl) hc (by first | omega | (simp; omega))) ?_; rintro _ w2 ⟨part2, H2, rfl, hok2, hb⟩; rw [callK_ret]; replace hs := Sat.upd hs 1 rfl hb; clear hb; (try clear w); rename World => w; try simp only [cls] at hs
  (repeat (first | (simp (disch := first | omega | assumption | exact Option.isSome_some | (simp only [adO_isSome]; assumption)) only [↓vcp, vcs, vct, if_true, if_false, Nat.reduceBEq, ↓reduceIte, Nat.reduceEqDiff, Nat.reduceAdd, Nat.reduceMul, Nat.reduceSub, Int.reduceToNat, reduceCtorEq, Nat.reduceLT, Nat.reduceLeDiff, Int.reduceSub, Int.reduceAdd, Int.reduceNeg, Sat.look hs, Sat.lookA hs]) | (refine khK he hs ?_; clear he; intro he) | ((first | refine stK hs ?_ | refine stFK hs ?_ | refine stAK hs ?_ | refine msK hs ?_); clear hs; (try clear w); rintro w hs; try simp only [cls] at hs) | ((first | refine al_ok hs ?_ | refine bx_ok hs ?_ | refine bsvK hs ?_ | refine bs1_ok hs ?_ | refine bs0_ok hs ?_); clear hs; (try clear w); rintro _ w hs; try simp only [cls] at hs)))
  refine call_ok (by kernel_rfl) (HSum_calls _ w xb _ part2 (hs.one 1 rfl) hok2 (hG.up hs 1 rfl) (by first | omega | (simp; omega))) ?_; rintro _ w2 ⟨H3, rfl, hb⟩; rw [callK_ret]; replace hs := Sat.upd hs 1 rfl hb; clear hb; (try clear w); rename World => w; try simp only [cls] at hs
  have hl3 : ((sum ([] ++ xs)).map u8v).length = 32 := by rw [List.nil_append, List.length_map]; exact hl2
  (repeat (first | (simp (disch := first | omega | assumption | exact Option.isSome_some | (simp only [adO_isSome]; assumption)) only [↓vcp, vcs, vct, if_true, if_false, Nat.reduceBEq, ↓reduceIte, Nat.reduceEqDiff, Nat.reduceAdd, Nat.reduceMul, Nat.reduceSub, Int.reduceToNat, reduceCtorEq, Nat.reduceLT, Nat.reduceLeDiff, Int.reduceSub, Int.reduceAdd, Int.reduceNeg, Sat.look hs, Sat.lookA hs, hl3]) | (refine khK he hs ?_; clear he; intro he) | ((first | refine stK hs ?_ | refine stFK hs ?_ | refine stAK hs ?_ | refine msK hs ?_); clear hs; (try clear w); rintro w hs; try simp only [cls] at hs; try simp only [hl3] at hs) | ((first | refine al_ok hs ?_ | refine bx_ok hs ?_ | refine bsvK hs ?_ | refine bs1_ok hs ?_ | refine bs0_ok hs ?_); clear hs; (try clear w); rintro _ w hs; try simp only [cls] at hs; try simp only [hl3] at hs) | ((first | refine stK hs ?_ (by first | omega | (simp only [hl3, cells_bk, cells_sl, List.length_cons, List.length_nil, List.length_set, List.length_append, List.length_map, List.length_replicate, List.length_take, List.length_drop]; omega) | assumption | rfl) | refine stFK hs ?_ (by first | omega | (simp only [hl3, cells_bk, cells_sl, List.length_cons, List.length_nil, List.length_set, List.length_append, List.length_map, List.length_replicate, List.length_take, List.length_drop]; omega) | assumption | rfl) (by first | omega | (simp only [hl3, cells_bk, cells_sl, List.length_cons, List.length_nil, List.length_set, List.length_append, List.length_map, List.length_replicate, List.length_take, List.length_drop]; omega) | assumption | rfl) | refine stAK hs ?_ (by first | omega | (simp only [hl3, cells_bk, cells_sl, List.length_cons, List.length_nil, List.length_set, List.length_append, List.length_map, List.length_replicate, List.length_take, List.length_drop]; omega) | assumption | rfl) (by first | omega | (simp only [hl3, cells_bk, cells_sl, List.length_cons, List.length_nil, List.length_set, List.length_append, List.length_map, List.length_replicate, List.length_take, List.length_drop]; omega) | assumption | rfl) | refine msK hs ?_ (by first | omega | (simp only [hl3, cells_bk, cells_sl, List.length_cons, List.length_nil, List.length_set, List.length_append, List.length_map, List.length_replicate, List.length_take, List.length_drop]; omega) | assumption | rfl)); clear hs; (try clear w); rintro w hs; try simp only [cls] at hs; try simp only [hl3] at hs)))
  refine ret_cell (sz := 32) rfl (by rfl) (hs.cellsBk 0 rfl (by rw [List.length_map]; exact hl2) (by omega)) (hR _ _ ⟨rfl, hs.belowAt⟩)
end Go.Proofs.YtokoohdpakhphaaDoor.Sha
