/- Several texts in one. -/
import Derived.Test.YtokoohdpakhphaaDoorBuilder
import Derived.Test.YtokoohdpakhphaaDoorNums
import Derived.Lib.Bytealg
namespace Go.Proofs.YtokoohdpakhphaaDoor.Lnk
open Go VC Go.RowKit
set_option linter.unusedSimpArgs false
set_option linter.unusedVariables false
set_option maxRecDepth 20000
set_option maxHeartbeats 4000000
theorem indexByte_calls (w0 : World) (s : List UInt8) (c : UInt8) : Calls Tryd.prog 84 #[.string ⟨s.toArray⟩, .int .u8 c.toNat] w0 fun e w' => e = .returned (.int .i64 (Lib.indexByte s c)) ∧ w0 = w' := by
  have h1 : Calls Tryd.prog 99 #[.string ⟨s.toArray⟩, .int .u8 c.toNat] w0 fun e w' => e = .returned (.int .i64 (Lib.indexByte s c)) ∧ w0 = w' := by
    refine calls_vc Tryd.func99 rfl (by kernel_rfl) (by kernel_rfl) ?_; intro R hR
    have hs := Sat.start w0
    (repeat (first | (simp (disch := first | omega | assumption | exact Option.isSome_some | (simp only [adO_isSome]; assumption)) only [↓vcp, vcs, vct, if_true, if_false, Nat.reduceBEq, ↓reduceIte, Nat.reduceEqDiff, Nat.reduceAdd, Nat.reduceMul, Nat.reduceSub, Int.reduceToNat, reduceCtorEq, Nat.reduceLT, Nat.reduceLeDiff, Int.reduceSub, Int.reduceAdd, Int.reduceNeg, Sat.look hs, Sat.lookA hs]) | (refine khK he hs ?_; clear he; intro he) | ((first | refine stK hs ?_ | refine stFK hs ?_ | refine stAK hs ?_ | refine msK hs ?_); clear hs; (try clear w); rintro w hs; try simp only [cls] at hs) | ((first | refine al_ok hs ?_ | refine bx_ok hs ?_ | refine bsvK hs ?_ | refine bs1_ok hs ?_ | refine bs0_ok hs ?_); clear hs; (try clear w); rintro _ w hs; try simp only [cls] at hs)))
    refine ext_ok (e := Extern.BytealgIndexByte.indexByte) (v := .int .i64 (Lib.indexByte s c)) Tryd.func102 (by kernel_rfl) (by kernel_rfl) (by kernel_rfl) (by kernel_rfl) ?_ ?_
    · have h2 := Lib.run_indexByteString (P := Tryd.prog) ⟨s.toArray⟩ (c.toNat : Int) w0
      have h3 : ((c.toNat : Int)).toNat.toUInt8 = c := by simp
      rw [h3] at h2
      exact h2
    · (repeat (first | (simp (disch := first | omega | assumption | exact Option.isSome_some | (simp only [adO_isSome]; assumption)) only [↓vcp, vcs, vct, if_true, if_false, Nat.reduceBEq, ↓reduceIte, Nat.reduceEqDiff, Nat.reduceAdd, Nat.reduceMul, Nat.reduceSub, Int.reduceToNat, reduceCtorEq, Nat.reduceLT, Nat.reduceLeDiff, Int.reduceSub, Int.reduceAdd, Int.reduceNeg, Sat.look hs, Sat.lookA hs]) | (refine khK he hs ?_; clear he; intro he) | ((first | refine stK hs ?_ | refine stFK hs ?_ | refine stAK hs ?_ | refine msK hs ?_); clear hs; (try clear w); rintro w hs; try simp only [cls] at hs) | ((first | refine al_ok hs ?_ | refine bx_ok hs ?_ | refine bsvK hs ?_ | refine bs1_ok hs ?_ | refine bs0_ok hs ?_); clear hs; (try clear w); rintro _ w hs; try simp only [cls] at hs)))
      exact ret_tmp rfl (hR _ _ ⟨rfl, rfl⟩)
  refine calls_vc Tryd.func84 rfl (by kernel_rfl) (by kernel_rfl) ?_; intro R hR
  have hs := Sat.start w0
  (repeat (first | (simp (disch := first | omega | assumption | exact Option.isSome_some | (simp only [adO_isSome]; assumption)) only [↓vcp, vcs, vct, if_true, if_false, Nat.reduceBEq, ↓reduceIte, Nat.reduceEqDiff, Nat.reduceAdd, Nat.reduceMul, Nat.reduceSub, Int.reduceToNat, reduceCtorEq, Nat.reduceLT, Nat.reduceLeDiff, Int.reduceSub, Int.reduceAdd, Int.reduceNeg, Sat.look hs, Sat.lookA hs]) | (refine khK he hs ?_; clear he; intro he) | ((first | refine stK hs ?_ | refine stFK hs ?_ | refine stAK hs ?_ | refine msK hs ?_); clear hs; (try clear w); rintro w hs; try simp only [cls] at hs) | ((first | refine al_ok hs ?_ | refine bx_ok hs ?_ | refine bsvK hs ?_ | refine bs1_ok hs ?_ | refine bs0_ok hs ?_); clear hs; (try clear w); rintro _ w hs; try simp only [cls] at hs)))
  refine call_ok (by kernel_rfl) (h1) ?_; rintro _ _ ⟨rfl, rfl⟩; rw [callK_ret]
  (repeat (first | (simp (disch := first | omega | assumption | exact Option.isSome_some | (simp only [adO_isSome]; assumption)) only [↓vcp, vcs, vct, if_true, if_false, Nat.reduceBEq, ↓reduceIte, Nat.reduceEqDiff, Nat.reduceAdd, Nat.reduceMul, Nat.reduceSub, Int.reduceToNat, reduceCtorEq, Nat.reduceLT, Nat.reduceLeDiff, Int.reduceSub, Int.reduceAdd, Int.reduceNeg, Sat.look hs, Sat.lookA hs]) | (refine khK he hs ?_; clear he; intro he) | ((first | refine stK hs ?_ | refine stFK hs ?_ | refine stAK hs ?_ | refine msK hs ?_); clear hs; (try clear w); rintro w hs; try simp only [cls] at hs) | ((first | refine al_ok hs ?_ | refine bx_ok hs ?_ | refine bsvK hs ?_ | refine bs1_ok hs ?_ | refine bs0_ok hs ?_); clear hs; (try clear w); rintro _ w hs; try simp only [cls] at hs)))
  exact ret_tmp rfl (hR _ _ ⟨rfl, rfl⟩)
/-- what each byte stands for -/
def valAt (ds : List UInt8) (i : Nat) : Value := .int .i64 (Lib.indexByte ds (UInt8.ofNat i))
def vals (ds : List UInt8) (k : Nat) : List Value := (List.range k).map (valAt ds) ++ List.replicate (256 - k) (Value.int .i64 0)
theorem vals_len (ds : List UInt8) (k : Nat) (h : k ≤ 256) : (vals ds k).length = 256 := by unfold vals; simp; omega
theorem vals_set (ds : List UInt8) (k : Nat) (h : k < 256) : (vals ds k).set k (valAt ds k) = vals ds (k + 1) := by
  unfold vals
  have e : 256 - k = (256 - (k + 1)) + 1 := by omega
  rw [List.set_append_right _ _ (by simp), e, List.replicate_succ, List.range_succ, List.map_append, List.append_assoc]
  simp
theorem vals_get (ds : List UInt8) (x : UInt8) : (vals ds 256)[x.toNat]? = some (.int .i64 (Lib.indexByte ds x)) := by
  have h := x.toNat_lt
  unfold vals
  simp only [Nat.sub_self, List.replicate_zero, List.append_nil, List.getElem?_map, valAt]
  rw [List.getElem?_range (by omega)]
  simp [valAt]
def zeros256 : Array Value := (List.replicate 256 (Value.int .i64 0)).toArray
theorem tz99 : TZero Tryd.prog 99 (.agg zeros256) := ⟨by kernel_rfl⟩
theorem zeros_eq (ds : List UInt8) : (Value.agg zeros256).cells.toList = vals ds 0 := by
  show zeros256.toList = _
  unfold zeros256 vals
  simp
theorem values_calls (w0 : World) (ds : List UInt8) : Calls Tryd.prog 65 #[.string ⟨ds.toArray⟩] w0 fun e w' => e = .returned (.agg (vals ds 256).toArray) ∧ Below w0.heap.size w0 w' := by
  refine calls_vc Tryd.func65 rfl (by kernel_rfl) (by kernel_rfl) ?_; intro R hR
  have hs := Sat.start w0
  (repeat (first | (simp (disch := first | omega | assumption | exact Option.isSome_some | (simp only [adO_isSome]; assumption)) only [↓vcp, vcs, vct, if_true, if_false, Nat.reduceBEq, ↓reduceIte, Nat.reduceEqDiff, Nat.reduceAdd, Nat.reduceMul, Nat.reduceSub, Int.reduceToNat, reduceCtorEq, Nat.reduceLT, Nat.reduceLeDiff, Int.reduceSub, Int.reduceAdd, Int.reduceNeg, Sat.look hs, Sat.lookA hs]) | (refine khK he hs ?_; clear he; intro he) | ((first | refine stK hs ?_ | refine stFK hs ?_ | refine stAK hs ?_ | refine msK hs ?_); clear hs; (try clear w); rintro w hs; try simp only [cls] at hs) | ((first | refine al_ok hs ?_ | refine bx_ok hs ?_ | refine bsvK hs ?_ | refine bs1_ok hs ?_ | refine bs0_ok hs ?_); clear hs; (try clear w); rintro _ w hs; try simp only [cls] at hs)))
  refine al_ok (h := tz99) hs ?_; clear hs; rintro b1 w hs
  rw [zeros_eq ds] at hs
  simp only [List.nil_append] at hs
  (repeat (first | (simp (disch := first | omega | assumption | exact Option.isSome_some | (simp only [adO_isSome]; assumption)) only [↓vcp, vcs, vct, if_true, if_false, Nat.reduceBEq, ↓reduceIte, Nat.reduceEqDiff, Nat.reduceAdd, Nat.reduceMul, Nat.reduceSub, Int.reduceToNat, reduceCtorEq, Nat.reduceLT, Nat.reduceLeDiff, Int.reduceSub, Int.reduceAdd, Int.reduceNeg, Sat.look hs, Sat.lookA hs]) | (refine khK he hs ?_; clear he; intro he) | ((first | refine stK hs ?_ | refine stFK hs ?_ | refine stAK hs ?_ | refine msK hs ?_); clear hs; (try clear w); rintro w hs; try simp only [cls] at hs) | ((first | refine al_ok hs ?_ | refine bx_ok hs ?_ | refine bsvK hs ?_ | refine bs1_ok hs ?_ | refine bs0_ok hs ?_); clear hs; (try clear w); rintro _ w hs; try simp only [cls] at hs)))
  refine al_ok (h := tz99) hs ?_; clear hs; (try clear w); rintro b2 w hs
  rw [zeros_eq ds] at hs
  simp only [List.cons_append, List.nil_append] at hs
  have hl0 := vals_len ds 0 (by omega)
  (repeat (first | (simp (disch := first | omega | assumption | exact Option.isSome_some | (simp only [adO_isSome]; assumption)) only [↓vcp, vcs, vct, if_true, if_false, Nat.reduceBEq, ↓reduceIte, Nat.reduceEqDiff, Nat.reduceAdd, Nat.reduceMul, Nat.reduceSub, Int.reduceToNat, reduceCtorEq, Nat.reduceLT, Nat.reduceLeDiff, Int.reduceSub, Int.reduceAdd, Int.reduceNeg, Sat.look hs, Sat.lookA hs]) | (refine khK he hs ?_; clear he; intro he) | ((first | refine stK hs ?_ | refine stFK hs ?_ | refine stAK hs ?_ | refine msK hs ?_); clear hs; (try clear w); rintro w hs; try simp only [cls] at hs) | ((first | refine al_ok hs ?_ | refine bx_ok hs ?_ | refine bsvK hs ?_ | refine bs1_ok hs ?_ | refine bs0_ok hs ?_); clear hs; (try clear w); rintro _ w hs; try simp only [cls] at hs)))
  refine loop_join (σ := Unit) 0 [] (fun _ => []) [2, 3] (fun _ w' => VC.Sat (.at w0) [.bk b1 (vals ds 0) 99, .bk b2 (vals ds 256) 99] w') ?_ ?_
  · refine loop_rule (σ := Nat) [5] (fun s => [.int .i64 s]) [0, 2, 3] (fun s w' => s ≤ 256 ∧ VC.Sat (.at w0) [.bk b1 (vals ds 0) 99, .bk b2 (vals ds s) 99] w') (fun s _ => 256 - s) 0 (by kernel_rfl) rfl ⟨by omega, hs⟩ ?_
    clear hs
    rintro e i w ⟨hi, hs⟩
    simp (disch := first | omega | assumption | exact Option.isSome_some | (simp only [adO_isSome]; assumption)) only [↓vcp, vcs, vct, if_true, if_false, Nat.reduceBEq, ↓reduceIte, Nat.reduceEqDiff, Nat.reduceAdd, Nat.reduceMul, Nat.reduceSub, Int.reduceToNat, reduceCtorEq, Nat.reduceLT, Nat.reduceLeDiff, Int.reduceSub, Int.reduceAdd, Int.reduceNeg, Sat.look hs, Sat.lookA hs]
    by_cases h256 : i < 256
    case neg =>
      obtain rfl : i = 256 := by omega
      (repeat (first | (simp (disch := first | omega | assumption | exact Option.isSome_some | (simp only [adO_isSome]; assumption)) only [↓vcp, vcs, vct, if_true, if_false, Nat.reduceBEq, ↓reduceIte, Nat.reduceEqDiff, Nat.reduceAdd, Nat.reduceMul, Nat.reduceSub, Int.reduceToNat, reduceCtorEq, Nat.reduceLT, Nat.reduceLeDiff, Int.reduceSub, Int.reduceAdd, Int.reduceNeg, Sat.look hs, Sat.lookA hs]) | (refine khK he hs ?_; clear he; intro he) | ((first | refine stK hs ?_ | refine stFK hs ?_ | refine stAK hs ?_ | refine msK hs ?_); clear hs; (try clear w); rintro w hs; try simp only [cls] at hs) | ((first | refine al_ok hs ?_ | refine bx_ok hs ?_ | refine bsvK hs ?_ | refine bs1_ok hs ?_ | refine bs0_ok hs ?_); clear hs; (try clear w); rintro _ w hs; try simp only [cls] at hs)))
      exact ⟨(), by rfl, by rfl, hs⟩
    have hli := vals_len ds i (by omega)
    have hw : IntKind.u8.wrap (i : Int) = ((UInt8.ofNat i).toNat : Int) := by rw [wr8]
    (repeat (first | (simp (disch := first | omega | assumption | exact Option.isSome_some | (simp only [adO_isSome]; assumption)) only [↓vcp, vcs, vct, if_true, if_false, Nat.reduceBEq, ↓reduceIte, Nat.reduceEqDiff, Nat.reduceAdd, Nat.reduceMul, Nat.reduceSub, Int.reduceToNat, reduceCtorEq, Nat.reduceLT, Nat.reduceLeDiff, Int.reduceSub, Int.reduceAdd, Int.reduceNeg, Sat.look hs, Sat.lookA hs, hw]) | (refine khK he hs ?_; clear he; intro he) | ((first | refine stK hs ?_ | refine stFK hs ?_ | refine stAK hs ?_ | refine msK hs ?_); clear hs; (try clear w); rintro w hs; try simp only [cls] at hs; try simp only [hli] at hs) | ((first | refine al_ok hs ?_ | refine bx_ok hs ?_ | refine bsvK hs ?_ | refine bs1_ok hs ?_ | refine bs0_ok hs ?_); clear hs; (try clear w); rintro _ w hs; try simp only [cls] at hs; try simp only [hli] at hs) | ((first | refine stK hs ?_ (by first | omega | (simp only [hli, cells_bk, cells_sl, List.length_cons, List.length_nil, List.length_set, List.length_append, List.length_map, List.length_replicate, List.length_take, List.length_drop]; omega) | assumption | rfl) | refine stFK hs ?_ (by first | omega | (simp only [hli, cells_bk, cells_sl, List.length_cons, List.length_nil, List.length_set, List.length_append, List.length_map, List.length_replicate, List.length_take, List.length_drop]; omega) | assumption | rfl) (by first | omega | (simp only [hli, cells_bk, cells_sl, List.length_cons, List.length_nil, List.length_set, List.length_append, List.length_map, List.length_replicate, List.length_take, List.length_drop]; omega) | assumption | rfl) | refine stAK hs ?_ (by first | omega | (simp only [hli, cells_bk, cells_sl, List.length_cons, List.length_nil, List.length_set, List.length_append, List.length_map, List.length_replicate, List.length_take, List.length_drop]; omega) | assumption | rfl) (by first | omega | (simp only [hli, cells_bk, cells_sl, List.length_cons, List.length_nil, List.length_set, List.length_append, List.length_map, List.length_replicate, List.length_take, List.length_drop]; omega) | assumption | rfl) | refine msK hs ?_ (by first | omega | (simp only [hli, cells_bk, cells_sl, List.length_cons, List.length_nil, List.length_set, List.length_append, List.length_map, List.length_replicate, List.length_take, List.length_drop]; omega) | assumption | rfl)); clear hs; (try clear w); rintro w hs; try simp only [cls] at hs; try simp only [hli] at hs)))
    refine call_ok (by kernel_rfl) (indexByte_calls w ds (UInt8.ofNat i)) ?_; rintro _ _ ⟨rfl, rfl⟩; rw [callK_ret]
    (repeat (first | (simp (disch := first | omega | assumption | exact Option.isSome_some | (simp only [adO_isSome]; assumption)) only [↓vcp, vcs, vct, if_true, if_false, Nat.reduceBEq, ↓reduceIte, Nat.reduceEqDiff, Nat.reduceAdd, Nat.reduceMul, Nat.reduceSub, Int.reduceToNat, reduceCtorEq, Nat.reduceLT, Nat.reduceLeDiff, Int.reduceSub, Int.reduceAdd, Int.reduceNeg, Sat.look hs, Sat.lookA hs, hw]) | (refine khK he hs ?_; clear he; intro he) | ((first | refine stK hs ?_ | refine stFK hs ?_ | refine stAK hs ?_ | refine msK hs ?_); clear hs; (try clear w); rintro w hs; try simp only [cls] at hs; try simp only [hli] at hs) | ((first | refine al_ok hs ?_ | refine bx_ok hs ?_ | refine bsvK hs ?_ | refine bs1_ok hs ?_ | refine bs0_ok hs ?_); clear hs; (try clear w); rintro _ w hs; try simp only [cls] at hs; try simp only [hli] at hs) | ((first | refine stK hs ?_ (by first | omega | (simp only [hli, cells_bk, cells_sl, List.length_cons, List.length_nil, List.length_set, List.length_append, List.length_map, List.length_replicate, List.length_take, List.length_drop]; omega) | assumption | rfl) | refine stFK hs ?_ (by first | omega | (simp only [hli, cells_bk, cells_sl, List.length_cons, List.length_nil, List.length_set, List.length_append, List.length_map, List.length_replicate, List.length_take, List.length_drop]; omega) | assumption | rfl) (by first | omega | (simp only [hli, cells_bk, cells_sl, List.length_cons, List.length_nil, List.length_set, List.length_append, List.length_map, List.length_replicate, List.length_take, List.length_drop]; omega) | assumption | rfl) | refine stAK hs ?_ (by first | omega | (simp only [hli, cells_bk, cells_sl, List.length_cons, List.length_nil, List.length_set, List.length_append, List.length_map, List.length_replicate, List.length_take, List.length_drop]; omega) | assumption | rfl) (by first | omega | (simp only [hli, cells_bk, cells_sl, List.length_cons, List.length_nil, List.length_set, List.length_append, List.length_map, List.length_replicate, List.length_take, List.length_drop]; omega) | assumption | rfl) | refine msK hs ?_ (by first | omega | (simp only [hli, cells_bk, cells_sl, List.length_cons, List.length_nil, List.length_set, List.length_append, List.length_map, List.length_replicate, List.length_take, List.length_drop]; omega) | assumption | rfl)); clear hs; (try clear w); rintro w hs; try simp only [cls] at hs; try simp only [hli] at hs)))
    rw [show (Value.int .i64 (Lib.indexByte ds (UInt8.ofNat i))) = valAt ds i from rfl, vals_set ds i h256] at hs
    exact ⟨i + 1, by rfl, by rfl, ⟨by omega, hs⟩, by dsimp only; omega⟩
  · clear hs
    rintro e _ w hs
    have hl2 := vals_len ds 256 (by omega)
    (repeat (first | (simp (disch := first | omega | assumption | exact Option.isSome_some | (simp only [adO_isSome]; assumption)) only [↓vcp, vcs, vct, if_true, if_false, Nat.reduceBEq, ↓reduceIte, Nat.reduceEqDiff, Nat.reduceAdd, Nat.reduceMul, Nat.reduceSub, Int.reduceToNat, reduceCtorEq, Nat.reduceLT, Nat.reduceLeDiff, Int.reduceSub, Int.reduceAdd, Int.reduceNeg, Sat.look hs, Sat.lookA hs]) | (refine khK he hs ?_; clear he; intro he) | ((first | refine stK hs ?_ | refine stFK hs ?_ | refine stAK hs ?_ | refine msK hs ?_); clear hs; (try clear w); rintro w hs; try simp only [cls] at hs; try simp only [hl0 hl2] at hs) | ((first | refine al_ok hs ?_ | refine bx_ok hs ?_ | refine bsvK hs ?_ | refine bs1_ok hs ?_ | refine bs0_ok hs ?_); clear hs; (try clear w); rintro _ w hs; try simp only [cls] at hs; try simp only [hl0 hl2] at hs) | ((first | refine stK hs ?_ (by first | omega | (simp only [hl0 hl2, cells_bk, cells_sl, List.length_cons, List.length_nil, List.length_set, List.length_append, List.length_map, List.length_replicate, List.length_take, List.length_drop]; omega) | assumption | rfl) | refine stFK hs ?_ (by first | omega | (simp only [hl0 hl2, cells_bk, cells_sl, List.length_cons, List.length_nil, List.length_set, List.length_append, List.length_map, List.length_replicate, List.length_take, List.length_drop]; omega) | assumption | rfl) (by first | omega | (simp only [hl0 hl2, cells_bk, cells_sl, List.length_cons, List.length_nil, List.length_set, List.length_append, List.length_map, List.length_replicate, List.length_take, List.length_drop]; omega) | assumption | rfl) | refine stAK hs ?_ (by first | omega | (simp only [hl0 hl2, cells_bk, cells_sl, List.length_cons, List.length_nil, List.length_set, List.length_append, List.length_map, List.length_replicate, List.length_take, List.length_drop]; omega) | assumption | rfl) (by first | omega | (simp only [hl0 hl2, cells_bk, cells_sl, List.length_cons, List.length_nil, List.length_set, List.length_append, List.length_map, List.length_replicate, List.length_take, List.length_drop]; omega) | assumption | rfl) | refine msK hs ?_ (by first | omega | (simp only [hl0 hl2, cells_bk, cells_sl, List.length_cons, List.length_nil, List.length_set, List.length_append, List.length_map, List.length_replicate, List.length_take, List.length_drop]; omega) | assumption | rfl)); clear hs; (try clear w); rintro w hs; try simp only [cls] at hs; try simp only [hl0 hl2] at hs)))
    rw [List.take_of_length_le (by omega)] at hs
    exact ret_cell (sz := 256) rfl (by rfl) (hs.cellsBk 0 rfl hl2 (by omega)) (hR _ _ ⟨rfl, hs.belowAt⟩)
end Go.Proofs.YtokoohdpakhphaaDoor.Lnk
namespace Go.Proofs.YtokoohdpakhphaaDoor.Lnk
open Go VC
theorem wrap_i (n : Nat) (h : n < 9223372036854775808) : IntKind.i64.wrap (n : Int) = n := wr_i64 _ (by omega) (by omega)
theorem Band_i (x y : Nat) (hx : x < 9223372036854775808) (hy : y < 9223372036854775808) : Band .i64 x y = ((x &&& y : Nat) : Int) := by
  unfold Band
  have e : (IntKind.bits .i64) = 64 := rfl
  rw [e, bv_ofInt, bv_ofInt, BitVec.toNat_and, BitVec.toNat_ofNat, BitVec.toNat_ofNat, Nat.mod_eq_of_lt (by omega), Nat.mod_eq_of_lt (by omega)]
  exact wrap_i _ (Nat.lt_of_le_of_lt Nat.and_le_left hx)
theorem Bor_i (x y : Nat) (hx : x < 9223372036854775808) (hy : y < 9223372036854775808) : Bor .i64 x y = ((x ||| y : Nat) : Int) := by
  unfold Bor
  have e : (IntKind.bits .i64) = 64 := rfl
  rw [e, bv_ofInt, bv_ofInt, BitVec.toNat_or, BitVec.toNat_ofNat, BitVec.toNat_ofNat, Nat.mod_eq_of_lt (by omega), Nat.mod_eq_of_lt (by omega)]
  exact wrap_i _ (Nat.or_lt_two_pow (n := 63) hx hy)
theorem Shl_i (x y : Nat) (hy : y ≤ 64) (h : x * 2 ^ y < 9223372036854775808) : Shl .i64 x y = ((x * 2 ^ y : Nat) : Int) := by
  unfold Shl
  have e : (IntKind.bits .i64) = 64 := rfl
  rw [e, Int.toNat_natCast, Nat.min_eq_left hy]
  have : (x : Int) * 2 ^ y = ((x * 2 ^ y : Nat) : Int) := by norm_cast
  rw [this]
  exact wrap_i _ h
theorem pow_le8 {b : Nat} (hb : b ≤ 16) : 1 ≤ 2 ^ b ∧ 2 ^ b ≤ 65536 := ⟨Nat.one_le_two_pow, by
  have := Nat.pow_le_pow_right (n := 2) (by decide) hb
  omega⟩
theorem orb (n d b : Nat) (hb : b ≤ 16) (hn : n < 65536) (hd : d < 2 ^ b) : Bor .i64 (Shl .i64 (n : Int) (b : Int)) (d : Int) = ((n * 2 ^ b + d : Nat) : Int) := by
  obtain ⟨h1, h2⟩ := pow_le8 hb
  have h3 : n * 2 ^ b ≤ 65536 * 65536 := Nat.mul_le_mul (by omega) h2
  rw [Shl_i n b (by omega) (by omega), Bor_i _ _ (by omega) (by omega)]
  congr 1
  have := Nat.shiftLeft_add_eq_or_of_lt (b := d) (i := b) hd n
  rw [Nat.shiftLeft_eq] at this
  exact this.symm
theorem or8 (n d : Nat) (hn : n < 65536) (hd : d < 256) : Bor .i64 (Shl .i64 (n : Int) 8) (d : Int) = ((n * 256 + d : Nat) : Int) := orb n d 8 (by omega) hn hd
theorem one_shl (b : Nat) (hb : b ≤ 16) : Shl .i64 1 (b : Int) = ((2 ^ b : Nat) : Int) := by
  obtain ⟨h1, h2⟩ := pow_le8 hb
  have := Shl_i 1 b (by omega) (by omega)
  rw [Nat.one_mul] at this
  exact this
theorem mask (m b : Nat) (hm : m < 9223372036854775808) (hb : b ≤ 16) : Band .i64 (m : Int) (((2 ^ b : Nat) : Int) - 1) = ((m % 2 ^ b : Nat) : Int) := by
  obtain ⟨h1, h2⟩ := pow_le8 hb
  have e : ((2 ^ b : Nat) : Int) - 1 = ((2 ^ b - 1 : Nat) : Int) := by omega
  rw [e, Band_i _ _ hm (by omega), Nat.and_two_pow_sub_one_eq_mod]
theorem wrap_p (b : Nat) (hb : b ≤ 16) : IntKind.i64.wrap (((2 ^ b : Nat) : Int) - 1) = ((2 ^ b : Nat) : Int) - 1 := by
  obtain ⟨h1, h2⟩ := pow_le8 hb
  exact wr_i64 _ (by omega) (by omega)
/-- the digits that so many bits of a number give, from above -/
def digs (bits n h : Nat) : List Nat := if bits ≤ h ∧ 0 < bits then (n / 2 ^ (h - bits)) % 2 ^ bits :: digs bits n (h - bits) else []
termination_by h
decreasing_by omega
theorem digs_cons {bits n h : Nat} (hb : 0 < bits) (hh : bits ≤ h) : digs bits n h = (n / 2 ^ (h - bits)) % 2 ^ bits :: digs bits n (h - bits) := by
  rw [digs, if_pos ⟨hh, hb⟩]
theorem digs_nil {bits n h : Nat} (hh : h < bits) : digs bits n h = [] := by
  rw [digs, if_neg (by omega)]
def spgo (bits : Nat) : List UInt8 → Nat → Nat → List Nat
  | [], n, h => if 0 < h then [n * 2 ^ (bits - h)] else []
  | x :: xs, n, h => digs bits (n * 256 + x.toNat) (h + 8) ++ spgo bits xs ((n * 256 + x.toNat) % 2 ^ ((h + 8) % bits)) ((h + 8) % bits)
/-- bytes in digits of so many bits -/
def spreadL (bits : Nat) (ds b : List UInt8) : List UInt8 := (spgo bits b 0 0).map fun d => ds.getD d 0
theorem digs_len (bits n : Nat) : ∀ (f h : Nat), h ≤ f → (digs bits n h).length ≤ h
  | 0, h, hf => by
    rw [digs]
    split
    · omega
    · simp
  | f + 1, h, hf => by
    rw [digs]
    split
    · rename_i hh
      have := digs_len bits n f (h - bits) (by omega)
      simp only [List.length_cons]
      omega
    · simp
theorem spgo_len (bits : Nat) (hb0 : 0 < bits) (hb : bits ≤ 8) : ∀ (b : List UInt8) (n h : Nat), h ≤ 8 → (spgo bits b n h).length ≤ 16 * b.length + 1
  | [], n, h, hh => by
    unfold spgo
    split <;> simp
  | x :: xs, n, h, hh => by
    unfold spgo
    have h1 := digs_len bits (n * 256 + x.toNat) (h + 8) (h + 8) (Nat.le_refl _)
    have h3 : (h + 8) % bits < bits := Nat.mod_lt _ hb0
    have h2 := spgo_len bits hb0 hb xs ((n * 256 + x.toNat) % 2 ^ ((h + 8) % bits)) ((h + 8) % bits) (by omega)
    simp only [List.length_append, List.length_cons]
    omega
theorem spreadL_len (bits : Nat) (hb0 : 0 < bits) (hb : bits ≤ 8) (ds b : List UInt8) : (spreadL bits ds b).length ≤ 16 * b.length + 1 := by
  unfold spreadL
  rw [List.length_map]
  exact spgo_len bits hb0 hb b 0 0 (by omega)
/-- the same digits, counted down by a number of steps -/
def digsF (bits n : Nat) : Nat → Nat → List Nat
  | 0, _ => []
  | f + 1, h => if bits ≤ h then (n / 2 ^ (h - bits)) % 2 ^ bits :: digsF bits n f (h - bits) else []
theorem digsF_eq (bits n : Nat) (hb : 0 < bits) : ∀ (f h : Nat), h ≤ f → digs bits n h = digsF bits n f h
  | 0, h, hf => by rw [digs_nil (by omega)]; rfl
  | f + 1, h, hf => by
    unfold digsF
    by_cases hh : bits ≤ h
    · rw [if_pos hh, digs_cons hb hh, digsF_eq bits n hb f (h - bits) (by omega)]
    · rw [if_neg hh, digs_nil (by omega)]
def spgoF (bits : Nat) : List UInt8 → Nat → Nat → List Nat
  | [], n, h => if 0 < h then [n * 2 ^ (bits - h)] else []
  | x :: xs, n, h => digsF bits (n * 256 + x.toNat) (h + 8) (h + 8) ++ spgoF bits xs ((n * 256 + x.toNat) % 2 ^ ((h + 8) % bits)) ((h + 8) % bits)
theorem spgoF_eq (bits : Nat) (hb : 0 < bits) : ∀ (b : List UInt8) (n h : Nat), spgo bits b n h = spgoF bits b n h
  | [], n, h => rfl
  | x :: xs, n, h => by
    unfold spgo spgoF
    rw [digsF_eq bits _ hb (h + 8) (h + 8) (Nat.le_refl _), spgoF_eq bits hb xs]
theorem spreadL_F (bits : Nat) (hb : 0 < bits) (ds b : List UInt8) : spreadL bits ds b = (spgoF bits b 0 0).map fun d => ds.getD d 0 := by
  unfold spreadL
  rw [spgoF_eq bits hb]
def gago (bits : Nat) (ds : List UInt8) : List UInt8 → Nat → Nat → List UInt8 → Option (List UInt8 × Nat × Nat)
  | [], n, h, out => some (out, n, h)
  | x :: xs, n, h, out =>
    if Lib.indexByte ds x < 0 then none
    else if 8 ≤ h + bits then gago bits ds xs ((n * 2 ^ bits + (Lib.indexByte ds x).toNat) % 2 ^ (h + bits - 8)) (h + bits - 8) (out ++ [UInt8.ofNat ((n * 2 ^ bits + (Lib.indexByte ds x).toNat) / 2 ^ (h + bits - 8))])
    else gago bits ds xs (n * 2 ^ bits + (Lib.indexByte ds x).toNat) (h + bits) out
def gatherL (bits : Nat) (ds s : List UInt8) : List UInt8 × Bool :=
  match gago bits ds s 0 0 [] with
  | none => ([], false)
  | some (out, n, h) => (out, decide (n = 0 ∧ h < bits))
theorem indexByte_lt (ds : List UInt8) (x : UInt8) : -1 ≤ Lib.indexByte ds x ∧ Lib.indexByte ds x < ds.length := by
  induction ds with
  | nil => simp [Lib.indexByte]
  | cons b l ih =>
    unfold Lib.indexByte
    simp only [List.length_cons]
    split
    · omega
    · split
      · omega
      · rename_i h1 h2
        have : Lib.indexByte l x ≠ -1 := by simpa using h2
        omega
end Go.Proofs.YtokoohdpakhphaaDoor.Lnk
