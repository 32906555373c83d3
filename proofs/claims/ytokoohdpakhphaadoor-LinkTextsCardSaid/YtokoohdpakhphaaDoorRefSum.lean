/- The document's own SHA-256 of bytes. -/
import Derived.Test.YtokoohdpakhphaaDoorRefLong
import Derived.Test.YtokoohdpakhphaaDoorRounds
namespace Go.Proofs.YtokoohdpakhphaaDoor.Sha
open Go VC Go.RowKit
set_option linter.unusedSimpArgs false
set_option maxRecDepth 20000
set_option maxHeartbeats 4000000
theorem flatMap_get {β γ : Type} {f : β → List γ} {k : Nat} (hf : ∀ x, (f x).length = k) : ∀ (l : List β) (i j : Nat) (x : β), l[i]? = some x → j < k → (l.flatMap f)[i * k + j]? = (f x)[j]?
  | [], i, j, x, h, _ => by simp at h
  | y :: l, 0, j, x, h, hj => by
    simp at h; subst h
    rw [List.flatMap_cons, Nat.zero_mul, Nat.zero_add, List.getElem?_append_left (by rw [hf]; exact hj)]
  | y :: l, i + 1, j, x, h, hj => by
    have ih := flatMap_get hf l i j x (by simpa using h) hj
    rw [List.flatMap_cons, List.getElem?_append_right (by rw [hf, Nat.succ_mul]; omega), hf, show (i + 1) * k + j - k = i * k + j by rw [Nat.succ_mul]; omega]
    exact ih
theorem out_len (s : St) : (out s).length = 32 := by simp [out, St.list]
theorem sum_len (xs : List UInt8) : (sum xs).length = 32 := out_len _
theorem out_get (s : St) (j : Nat) (h : j < 32) : ∃ x : UInt32, s.list[j / 4]? = some x ∧ (out s)[j]? = some (UInt8.ofNat (x.toNat / 2 ^ (24 - 8 * (j % 4)))) := by
  have hl : s.list.length = 8 := rfl
  have hi : j / 4 < s.list.length := by omega
  refine ⟨s.list[j / 4], List.getElem?_eq_getElem hi, ?_⟩
  have := flatMap_get (f := fun w : UInt32 => [UInt8.ofNat (w.toNat / 2 ^ 24), UInt8.ofNat (w.toNat / 2 ^ 16), UInt8.ofNat (w.toNat / 2 ^ 8), UInt8.ofNat w.toNat]) (fun _ => rfl) s.list (j / 4) (j % 4) _ (List.getElem?_eq_getElem hi) (Nat.mod_lt _ (by omega))
  rw [show j / 4 * 4 + j % 4 = j by omega] at this
  unfold out
  rw [this]
  obtain h | h | h | h : j % 4 = 0 ∨ j % 4 = 1 ∨ j % 4 = 2 ∨ j % 4 = 3 := by omega
  all_goals rw [h]; simp
theorem fill_set {α : Type} {l : List α} {z v : α} {j n : Nat} (hn : l.length = n) (hj : l[j]? = some v) : (l.take j ++ List.replicate (n - j) z).set j v = l.take (j + 1) ++ List.replicate (n - (j + 1)) z := by
  obtain ⟨hlt, rfl⟩ := List.getElem?_eq_some_iff.1 hj
  have e : n - j = (n - (j + 1)) + 1 := by omega
  rw [e, List.replicate_succ, List.set_append_right _ _ (by simp; omega), List.take_succ_eq_append_getElem hlt]
  rw [List.length_take, Nat.min_eq_left (Nat.le_of_lt hlt), Nat.sub_self, List.set_cons_zero, List.append_assoc]
  rfl
theorem pad_mod (n : Nat) : (n + (pad n).length) % 64 = 0 := by
  have h : (pad n).length = 1 + (119 - n % 64) % 64 + 8 := by simp [pad, be64]; omega
  have h2 := (pad_step n ((119 - n % 64) % 64) (Nat.le_refl _)).2 rfl
  omega
theorem fold_step (s : St) (l : List UInt8) (i : Nat) (h : 64 * i + 64 ≤ l.length) : fold s (l.take (64 * (i + 1))) = block (fold s (l.take (64 * i))) ((l.drop (64 * i)).take 64) := by
  have h1 : l.take (64 * (i + 1)) = l.take (64 * i) ++ (l.drop (64 * i)).take 64 := by
    rw [show 64 * (i + 1) = 64 * i + 64 by omega, List.take_add]
  have h2 : ((l.drop (64 * i)).take 64).length = 64 := by simp only [List.length_take, List.length_drop]; omega
  generalize (l.drop (64 * i)).take 64 = ys at *
  have e1 : ys.take 64 = ys := List.take_of_length_le (by omega)
  have e2 : ys.drop 64 = [] := List.drop_eq_nil_of_le (by omega)
  rw [h1, fold_append i _ _ _ (by simp only [List.length_take]; omega), fold_big (by omega), e1, e2, fold_small (by simp)]
theorem stl_len (s : St) : (s.list.map u32v).length = 8 := rfl
theorem stl_take (s : St) : (s.list.map u32v).take 8 = s.list.map u32v := rfl
theorem out_lt (s : St) {j : Nat} {x : UInt32} (h : s.list[j]? = some x) : (s.list.map u32v)[j]? = some (.int .u32 x.toNat) := by simp [h, u32v]
theorem Sum_calls (w0 : World) (a : Option Addr) (c : Nat) (xs : List UInt8) (hx : Ro (.at w0) a (xs.map u8v)) (hl : xs.length ≤ 140737488351232) :
    Calls Tryd.prog 51 #[.slice a xs.length c] w0 fun e w' => e = .returned (.agg ((sum xs).map u8v).toArray) ∧ Below w0.heap.size w0 w' := by
  refine calls_vc Tryd.func51 rfl (by kernel_rfl) (by kernel_rfl) ?_; intro R hR
  have hs := Sat.start w0
  (repeat (first | (simp (disch := first | omega | assumption | exact Option.isSome_some | (simp only [adO_isSome]; assumption)) only [↓vcp, vcs, vct, if_true, if_false, Nat.reduceBEq, ↓reduceIte, Nat.reduceEqDiff, Nat.reduceAdd, Nat.reduceMul, Nat.reduceSub, Int.reduceToNat, reduceCtorEq, Nat.reduceLT, Nat.reduceLeDiff, Int.reduceSub, Int.reduceAdd, Int.reduceNeg, Sat.look hs, Sat.lookA hs]) | (refine khK he hs ?_; clear he; intro he) | ((first | refine stK hs ?_ | refine stFK hs ?_ | refine stAK hs ?_ | refine msK hs ?_); clear hs; (try clear w); rintro w hs; try simp only [cls] at hs) | ((first | refine al_ok hs ?_ | refine bx_ok hs ?_ | refine bsvK hs ?_ | refine bs1_ok hs ?_ | refine bs0_ok hs ?_); clear hs; (try clear w); rintro _ w hs; try simp only [cls] at hs)))
  refine call_ok (by kernel_rfl) (first_calls _) ?_; rintro _ w2 ⟨rfl, hb⟩; rw [callK_ret]; replace hs := Sat.add hs (Below.sat hb); clear hb; (try clear w); rename World => w; try simp only [cls] at hs
  (repeat (first | (simp (disch := first | omega | assumption | exact Option.isSome_some | (simp only [adO_isSome]; assumption)) only [↓vcp, vcs, vct, if_true, if_false, Nat.reduceBEq, ↓reduceIte, Nat.reduceEqDiff, Nat.reduceAdd, Nat.reduceMul, Nat.reduceSub, Int.reduceToNat, reduceCtorEq, Nat.reduceLT, Nat.reduceLeDiff, Int.reduceSub, Int.reduceAdd, Int.reduceNeg, Sat.look hs, Sat.lookA hs, u32v]) | (refine khK he hs ?_; clear he; intro he) | ((first | refine stK hs ?_ | refine stFK hs ?_ | refine stAK hs ?_ | refine msK hs ?_); clear hs; (try clear w); rintro w hs; try simp only [cls] at hs) | ((first | refine al_ok hs ?_ | refine bx_ok hs ?_ | refine bsvK hs ?_ | refine bs1_ok hs ?_ | refine bs0_ok hs ?_); clear hs; (try clear w); rintro _ w hs; try simp only [cls] at hs)))
  refine call_ok (by kernel_rfl) (lengthened_calls w a c xs (hx.up0 hs) hl) ?_; rintro _ w2 ⟨a1, c1, n, rfl, hn, hc1, hb⟩; rw [callK_ret]; replace hs := Sat.add hs hb; clear hb; (try clear w); rename World => w; try simp only [cls] at hs
  (repeat (first | (simp (disch := first | omega | assumption | exact Option.isSome_some | (simp only [adO_isSome]; assumption)) only [↓vcp, vcs, vct, if_true, if_false, Nat.reduceBEq, ↓reduceIte, Nat.reduceEqDiff, Nat.reduceAdd, Nat.reduceMul, Nat.reduceSub, Int.reduceToNat, reduceCtorEq, Nat.reduceLT, Nat.reduceLeDiff, Int.reduceSub, Int.reduceAdd, Int.reduceNeg, Sat.look hs, Sat.lookA hs]) | (refine khK he hs ?_; clear he; intro he) | ((first | refine stK hs ?_ | refine stFK hs ?_ | refine stAK hs ?_ | refine msK hs ?_); clear hs; (try clear w); rintro w hs; try simp only [cls] at hs) | ((first | refine al_ok hs ?_ | refine bx_ok hs ?_ | refine bsvK hs ?_ | refine bs1_ok hs ?_ | refine bs0_ok hs ?_); clear hs; (try clear w); rintro _ w hs; try simp only [cls] at hs)))
  have hN := pad_mod xs.length
  have hpl : (pad xs.length).length ≤ 72 := by simp [pad, be64]; omega
  rw [List.length_append] at hn
  generalize hL : xs ++ pad xs.length = L at *
  have hLl : L.length = n := by rw [← hL, List.length_append, hn]
  rename_i b2 b3
  refine loop_rule (σ := Nat) [5] (fun i => [.int .i64 ((64 * i : Nat) : Int)]) [2, 3, 4] (fun i w' => 64 * i ≤ n ∧ Sat (.at w0) [.bk b2 (List.replicate 32 (.int .u8 0)) 61, .bk b3 ((fold first (L.take (64 * i))).list.map u32v) 109, .sl a1 c1 (L.map u8v) 5 1] w')
    (fun i _ => n - 64 * i) 0 (by kernel_rfl) rfl ⟨by omega, by simpa [fold_small] using hs⟩ ?_
  clear hs
  rintro b i w ⟨hi, hs⟩
  simp (disch := first | omega | assumption | exact Option.isSome_some | (simp only [adO_isSome]; assumption)) only [↓vcp, vcs, vct, if_true, if_false, Nat.reduceBEq, ↓reduceIte, Nat.reduceEqDiff, Nat.reduceAdd, Nat.reduceMul, Nat.reduceSub, Int.reduceToNat, reduceCtorEq, Nat.reduceLT, Nat.reduceLeDiff, Int.reduceSub, Int.reduceAdd, Int.reduceNeg, Sat.look hs, Sat.lookA hs]
  by_cases hlt : 64 * i < n
  case pos =>
    (repeat (first | (simp (disch := first | omega | assumption | exact Option.isSome_some | (simp only [adO_isSome]; assumption)) only [↓vcp, vcs, vct, if_true, if_false, Nat.reduceBEq, ↓reduceIte, Nat.reduceEqDiff, Nat.reduceAdd, Nat.reduceMul, Nat.reduceSub, Int.reduceToNat, reduceCtorEq, Nat.reduceLT, Nat.reduceLeDiff, Int.reduceSub, Int.reduceAdd, Int.reduceNeg, Sat.look hs, Sat.lookA hs, stl_len, stl_take]) | (refine khK he hs ?_; clear he; intro he) | ((first | refine stK hs ?_ | refine stFK hs ?_ | refine stAK hs ?_ | refine msK hs ?_); clear hs; (try clear w); rintro w hs; try simp only [cls] at hs) | ((first | refine al_ok hs ?_ | refine bx_ok hs ?_ | refine bsvK hs ?_ | refine bs1_ok hs ?_ | refine bs0_ok hs ?_); clear hs; (try clear w); rintro _ w hs; try simp only [cls] at hs)))
    have hstep := fold_step first L i (by omega)
    subst hLl
    refine call_ok (by kernel_rfl) (rounds_calls w (fold first (L.take (64 * i))) a1 c1 (64 * i) L (hs.rd) (by omega) (by omega)) ?_; rintro _ w2 ⟨rfl, hb⟩; rw [callK_ret]; replace hs := Sat.add hs (Below.sat hb); clear hb; (try clear w); rename World => w; try simp only [cls] at hs
    rw [← hstep]
    generalize hs1 : fold first (L.take (64 * (i + 1))) = s1
    (repeat (first | (simp (disch := first | omega | assumption | exact Option.isSome_some | (simp only [adO_isSome]; assumption)) only [↓vcp, vcs, vct, if_true, if_false, Nat.reduceBEq, ↓reduceIte, Nat.reduceEqDiff, Nat.reduceAdd, Nat.reduceMul, Nat.reduceSub, Int.reduceToNat, reduceCtorEq, Nat.reduceLT, Nat.reduceLeDiff, Int.reduceSub, Int.reduceAdd, Int.reduceNeg, Sat.look hs, Sat.lookA hs, stl_len, u32v]) | (refine khK he hs ?_; clear he; intro he) | ((first | refine stK hs ?_ | refine stFK hs ?_ | refine stAK hs ?_ | refine msK hs ?_); clear hs; (try clear w); rintro w hs; try simp only [cls] at hs) | ((first | refine al_ok hs ?_ | refine bx_ok hs ?_ | refine bsvK hs ?_ | refine bs1_ok hs ?_ | refine bs0_ok hs ?_); clear hs; (try clear w); rintro _ w hs; try simp only [cls] at hs)))
    have hc : ((64 * i : Nat) : Int) + 64 = ((64 * (i + 1) : Nat) : Int) := by omega
    simp (disch := first | omega | assumption | exact Option.isSome_some | (simp only [adO_isSome]; assumption)) only [↓vcp, vcs, vct, if_true, if_false, Nat.reduceBEq, ↓reduceIte, Nat.reduceEqDiff, Nat.reduceAdd, Nat.reduceMul, Nat.reduceSub, Int.reduceToNat, reduceCtorEq, Nat.reduceLT, Nat.reduceLeDiff, Int.reduceSub, Int.reduceAdd, Int.reduceNeg, Sat.look hs, Sat.lookA hs, hc]
    exact ⟨i + 1, by rfl, by rfl, ⟨by omega, by rw [hs1]; exact hs⟩, by dsimp only; omega⟩
  case neg =>
    obtain rfl : n = 64 * i := by omega
    rw [List.take_of_length_le (by omega)] at hs
    (repeat (first | (simp (disch := first | omega | assumption | exact Option.isSome_some | (simp only [adO_isSome]; assumption)) only [↓vcp, vcs, vct, if_true, if_false, Nat.reduceBEq, ↓reduceIte, Nat.reduceEqDiff, Nat.reduceAdd, Nat.reduceMul, Nat.reduceSub, Int.reduceToNat, reduceCtorEq, Nat.reduceLT, Nat.reduceLeDiff, Int.reduceSub, Int.reduceAdd, Int.reduceNeg, Sat.look hs, Sat.lookA hs]) | (refine khK he hs ?_; clear he; intro he) | ((first | refine stK hs ?_ | refine stFK hs ?_ | refine stAK hs ?_ | refine msK hs ?_); clear hs; (try clear w); rintro w hs; try simp only [cls] at hs) | ((first | refine al_ok hs ?_ | refine bx_ok hs ?_ | refine bsvK hs ?_ | refine bs1_ok hs ?_ | refine bs0_ok hs ?_); clear hs; (try clear w); rintro _ w hs; try simp only [cls] at hs)))
    rename_i b6
    generalize hS : fold first L = s at *
    refine loop_rule (σ := Nat) [7] (fun j => [.int .i64 j]) [2, 3, 6] (fun j w' => j ≤ 32 ∧ Sat (.at w0) [.bk b2 (List.replicate 32 (.int .u8 0)) 61, .bk b3 (s.list.map u32v) 109, .sl a1 c1 (L.map u8v) 5 1, .bk b6 (((out s).map u8v).take j ++ List.replicate (32 - j) (.int .u8 0)) 61] w')
      (fun j _ => 32 - j) 0 (by kernel_rfl) rfl ⟨by omega, hs⟩ ?_
    clear hs
    rintro b j w ⟨hj, hs⟩
    have hol0 := out_len s
    have hol : ((out s).map u8v).length = 32 := by rw [List.length_map]; exact out_len s
    simp (disch := first | omega | assumption | exact Option.isSome_some | (simp only [adO_isSome]; assumption)) only [↓vcp, vcs, vct, if_true, if_false, Nat.reduceBEq, ↓reduceIte, Nat.reduceEqDiff, Nat.reduceAdd, Nat.reduceMul, Nat.reduceSub, Int.reduceToNat, reduceCtorEq, Nat.reduceLT, Nat.reduceLeDiff, Int.reduceSub, Int.reduceAdd, Int.reduceNeg, Sat.look hs, Sat.lookA hs]
    by_cases hlt : j < 32
    case pos =>
      obtain ⟨x, hx1, hx2⟩ := out_get s j hlt
      have hx3 := out_lt s hx1
      have hset := fill_set (z := .int .u8 0) hol (j := j) (v := u8v (UInt8.ofNat (x.toNat / 2 ^ (24 - 8 * (j % 4))))) (by simp [hx2])
      have hsh : (24 : Int) - 8 * ((j % 4 : Nat) : Int) = ((24 - 8 * (j % 4) : Nat) : Int) := by omega
      have hbits : 24 - 8 * (j % 4) ≤ IntKind.bits .u32 := by rw [bits32]; omega
      (repeat (first | (simp (disch := first | omega | assumption | exact Option.isSome_some | (simp only [adO_isSome]; assumption)) only [↓vcp, vcs, vct, if_true, if_false, Nat.reduceBEq, ↓reduceIte, Nat.reduceEqDiff, Nat.reduceAdd, Nat.reduceMul, Nat.reduceSub, Int.reduceToNat, reduceCtorEq, Nat.reduceLT, Nat.reduceLeDiff, Int.reduceSub, Int.reduceAdd, Int.reduceNeg, Sat.look hs, Sat.lookA hs, tdiv_lit, tmod_lit, hx3, hsh, shr_nat, wr8, u8v_eq, hset]) | (refine khK he hs ?_; clear he; intro he) | ((first | refine stK hs ?_ | refine stFK hs ?_ | refine stAK hs ?_ | refine msK hs ?_); clear hs; (try clear w); rintro w hs; try simp only [cls] at hs) | ((first | refine al_ok hs ?_ | refine bx_ok hs ?_ | refine bsvK hs ?_ | refine bs1_ok hs ?_ | refine bs0_ok hs ?_); clear hs; (try clear w); rintro _ w hs; try simp only [cls] at hs)))
      exact ⟨j + 1, by rfl, by rfl, ⟨by omega, by rw [hset] at hs; exact hs⟩, by dsimp only; omega⟩
    case neg =>
      obtain rfl : j = 32 := by omega
      rw [List.take_of_length_le (by omega), Nat.sub_self, List.replicate_zero, List.append_nil] at hs
      have htk : ((out s).map u8v).take 32 = (out s).map u8v := List.take_of_length_le (by omega)
      (repeat (first | (simp (disch := first | omega | assumption | exact Option.isSome_some | (simp only [adO_isSome]; assumption)) only [↓vcp, vcs, vct, if_true, if_false, Nat.reduceBEq, ↓reduceIte, Nat.reduceEqDiff, Nat.reduceAdd, Nat.reduceMul, Nat.reduceSub, Int.reduceToNat, reduceCtorEq, Nat.reduceLT, Nat.reduceLeDiff, Int.reduceSub, Int.reduceAdd, Int.reduceNeg, Sat.look hs, Sat.lookA hs, hol, htk]) | (refine khK he hs ?_; clear he; intro he) | ((first | refine stK hs ?_ | refine stFK hs ?_ | refine stAK hs ?_ | refine msK hs ?_); clear hs; (try clear w); rintro w hs; try simp only [cls] at hs) | ((first | refine al_ok hs ?_ | refine bx_ok hs ?_ | refine bsvK hs ?_ | refine bs1_ok hs ?_ | refine bs0_ok hs ?_); clear hs; (try clear w); rintro _ w hs; try simp only [cls] at hs)))
      refine ret_cell (sz := 32) rfl (by rfl) (hs.cellsBk 0 rfl hol (by omega)) (hR _ _ ⟨?_, hs.belowAt⟩)
      rw [← hS, ← hL]
      rfl
end Go.Proofs.YtokoohdpakhphaaDoor.Sha
