/- The document's own SHA-256: the bytes with what comes behind them. -/
import Derived.Test.YtokoohdpakhphaaDoorNums
import Derived.Test.YtokoohdpakhphaaDoorTy
import Derived.Test.YtokoohdpakhphaaDoorSha
namespace Go.Proofs.YtokoohdpakhphaaDoor.Sha
open Go VC Go.RowKit
set_option linter.unusedSimpArgs false
set_option maxRecDepth 20000
set_option maxHeartbeats 4000000
theorem pad_step (n j : Nat) (hj : j ≤ (119 - n % 64) % 64) : (n + 1 + j) % 64 = 56 ↔ j = (119 - n % 64) % 64 := by
  have h1 : (n + 1 + j) % 64 = (n % 64 + 1 + j) % 64 := by omega
  have h2 : n % 64 < 64 := Nat.mod_lt _ (by omega)
  rw [h1]
  generalize n % 64 = r at *
  by_cases h : r ≤ 55
  · have : (119 - r) % 64 = 55 - r := by omega
    rw [this] at hj ⊢
    omega
  · have : (119 - r) % 64 = 119 - r := by omega
    rw [this] at hj ⊢
    omega
theorem lengthened_calls (w0 : World) (a : Option Addr) (c : Nat) (xs : List UInt8) (hx : Ro (.at w0) a (xs.map u8v)) (hl : xs.length ≤ 140737488351232) :
    Calls Tryd.prog 73 #[.slice a xs.length c] w0 fun e w' => ∃ a' c' n, e = .returned (.slice a' n c') ∧ n = (xs ++ pad xs.length).length ∧ n ≤ c' ∧ Sat (.at w0) [.sl a' c' ((xs ++ pad xs.length).map u8v) 5 1] w' := by
  have hk : (119 - xs.length % 64) % 64 < 64 := Nat.mod_lt _ (by omega)
  refine calls_vc Tryd.func73 rfl (by kernel_rfl) (by kernel_rfl) ?_; intro R hR
  have hs := Sat.start w0
  replace hs := Sat.nil hs 5 1; try simp only [cls] at hs
  simp (disch := first | omega | assumption | exact Option.isSome_some | (simp only [adO_isSome]; assumption)) only [↓vcp, vcs, vct, if_true, if_false, Nat.reduceBEq, ↓reduceIte, Nat.reduceEqDiff, Nat.reduceAdd, Nat.reduceMul, Nat.reduceSub, Int.reduceToNat, reduceCtorEq, Nat.reduceLT, Nat.reduceLeDiff, Int.reduceSub, Int.reduceAdd, Int.reduceNeg, Sat.look hs, Sat.lookA hs]
  refine apK (xs.length) hs (hx.rd hs) ?_; clear hs; (try clear w); rintro a1 c1 w hc1 hs; try simp only [cls] at hs
  (repeat (first | (simp (disch := first | omega | assumption | exact Option.isSome_some | (simp only [adO_isSome]; assumption)) only [↓vcp, vcs, vct, if_true, if_false, Nat.reduceBEq, ↓reduceIte, Nat.reduceEqDiff, Nat.reduceAdd, Nat.reduceMul, Nat.reduceSub, Int.reduceToNat, reduceCtorEq, Nat.reduceLT, Nat.reduceLeDiff, Int.reduceSub, Int.reduceAdd, Int.reduceNeg, Sat.look hs, Sat.lookA hs]) | (refine khK he hs ?_; clear he; intro he) | ((first | refine stK hs ?_ | refine stFK hs ?_ | refine stAK hs ?_ | refine msK hs ?_); clear hs; (try clear w); rintro w hs; try simp only [cls] at hs) | ((first | refine al_ok hs ?_ | refine bx_ok hs ?_ | refine bsvK hs ?_ | refine bs1_ok hs ?_ | refine bs0_ok hs ?_); clear hs; (try clear w); rintro _ w hs; try simp only [cls] at hs)))
  refine apK 1 hs (hs.rd) ?_; clear hs; (try clear w); rintro a2 c2 w hc2 hs; try simp only [cls] at hs
  (repeat (first | (simp (disch := first | omega | assumption | exact Option.isSome_some | (simp only [adO_isSome]; assumption)) only [↓vcp, vcs, vct, if_true, if_false, Nat.reduceBEq, ↓reduceIte, Nat.reduceEqDiff, Nat.reduceAdd, Nat.reduceMul, Nat.reduceSub, Int.reduceToNat, reduceCtorEq, Nat.reduceLT, Nat.reduceLeDiff, Int.reduceSub, Int.reduceAdd, Int.reduceNeg, Sat.look hs, Sat.lookA hs]) | (refine khK he hs ?_; clear he; intro he) | ((first | refine stK hs ?_ | refine stFK hs ?_ | refine stAK hs ?_ | refine msK hs ?_); clear hs; (try clear w); rintro w hs; try simp only [cls] at hs) | ((first | refine al_ok hs ?_ | refine bx_ok hs ?_ | refine bsvK hs ?_ | refine bs1_ok hs ?_ | refine bs0_ok hs ?_); clear hs; (try clear w); rintro _ w hs; try simp only [cls] at hs)))
  refine loop_rule (σ := Nat × Option Addr × Nat) [3] (fun s => [.slice s.2.1 (xs.length + 1 + s.1) s.2.2]) [0] (fun s w' => s.1 ≤ (119 - xs.length % 64) % 64 ∧ xs.length + 1 + s.1 ≤ s.2.2 ∧ Sat (.at w0) [.sl s.2.1 s.2.2 ((xs ++ 128 :: List.replicate s.1 0).map u8v) 5 1] w')
    (fun s _ => (119 - xs.length % 64) % 64 - s.1) (0, a2, c2) (by kernel_rfl) rfl ⟨by omega, hc2, by simpa [u8v] using hs.take 1⟩ ?_
  clear hs
  rintro b ⟨j, a3, c3⟩ w ⟨hj, hc3, hs⟩
  dsimp only at hj hc3 hs ⊢
  have hps := pad_step xs.length j hj
  simp (disch := first | omega | assumption | exact Option.isSome_some | (simp only [adO_isSome]; assumption)) only [↓vcp, vcs, vct, if_true, if_false, Nat.reduceBEq, ↓reduceIte, Nat.reduceEqDiff, Nat.reduceAdd, Nat.reduceMul, Nat.reduceSub, Int.reduceToNat, reduceCtorEq, Nat.reduceLT, Nat.reduceLeDiff, Int.reduceSub, Int.reduceAdd, Int.reduceNeg, Sat.look hs, Sat.lookA hs, tmod_lit]
  by_cases hlt : (xs.length + 1 + j) % 64 = 56
  case neg =>
    (repeat (first | (simp (disch := first | omega | assumption | exact Option.isSome_some | (simp only [adO_isSome]; assumption)) only [↓vcp, vcs, vct, if_true, if_false, Nat.reduceBEq, ↓reduceIte, Nat.reduceEqDiff, Nat.reduceAdd, Nat.reduceMul, Nat.reduceSub, Int.reduceToNat, reduceCtorEq, Nat.reduceLT, Nat.reduceLeDiff, Int.reduceSub, Int.reduceAdd, Int.reduceNeg, Sat.look hs, Sat.lookA hs]) | (refine khK he hs ?_; clear he; intro he) | ((first | refine stK hs ?_ | refine stFK hs ?_ | refine stAK hs ?_ | refine msK hs ?_); clear hs; (try clear w); rintro w hs; try simp only [cls] at hs) | ((first | refine al_ok hs ?_ | refine bx_ok hs ?_ | refine bsvK hs ?_ | refine bs1_ok hs ?_ | refine bs0_ok hs ?_); clear hs; (try clear w); rintro _ w hs; try simp only [cls] at hs)))
    refine apK 1 hs (hs.rd) ?_; clear hs; (try clear w); rintro a4 c4 w hc4 hs; try simp only [cls] at hs
    simp (disch := first | omega | assumption | exact Option.isSome_some | (simp only [adO_isSome]; assumption)) only [↓vcp, vcs, vct, if_true, if_false, Nat.reduceBEq, ↓reduceIte, Nat.reduceEqDiff, Nat.reduceAdd, Nat.reduceMul, Nat.reduceSub, Int.reduceToNat, reduceCtorEq, Nat.reduceLT, Nat.reduceLeDiff, Int.reduceSub, Int.reduceAdd, Int.reduceNeg, Sat.look hs, Sat.lookA hs]
    exact ⟨(j + 1, a4, c4), by rfl, by rfl, ⟨by dsimp only; omega, by dsimp only; omega, by simpa [u8v, List.replicate_succ'] using hs.take 1⟩, by dsimp only; omega⟩
  case pos =>
    obtain rfl : j = (119 - xs.length % 64) % 64 := by omega
    simp (disch := first | omega | assumption | exact Option.isSome_some | (simp only [adO_isSome]; assumption)) only [↓vcp, vcs, vct, if_true, if_false, Nat.reduceBEq, ↓reduceIte, Nat.reduceEqDiff, Nat.reduceAdd, Nat.reduceMul, Nat.reduceSub, Int.reduceToNat, reduceCtorEq, Nat.reduceLT, Nat.reduceLeDiff, Int.reduceSub, Int.reduceAdd, Int.reduceNeg, Sat.look hs, Sat.lookA hs, tmod_lit]
    generalize hkk : (119 - xs.length % 64) % 64 = k at *
    have h8 : (8 * (xs.length : Int)) = ((8 * xs.length : Nat) : Int) := by omega
    refine loop_rule (σ := Nat × Option Addr × Nat) [3, 5] (fun s => [.slice s.2.1 (xs.length + 1 + k + s.1) s.2.2, .int .i64 (7 - (s.1 : Int))]) [4] (fun s w' => s.1 ≤ 8 ∧ xs.length + 1 + k + s.1 ≤ s.2.2 ∧ Sat (.at w0) [.sl s.2.1 s.2.2 ((xs ++ 128 :: (List.replicate k 0 ++ (be64 (8 * xs.length)).take s.1)).map u8v) 5 1] w')
      (fun s _ => 8 - s.1) (0, a3, c3) (by kernel_rfl) rfl ⟨by omega, hc3, by simpa [u8v] using hs⟩ ?_
    clear hs
    rintro b ⟨m, a4, c4⟩ w ⟨hm, hc4, hs⟩
    dsimp only at hm hc4 hs ⊢
    simp (disch := first | omega | assumption | exact Option.isSome_some | (simp only [adO_isSome]; assumption)) only [↓vcp, vcs, vct, if_true, if_false, Nat.reduceBEq, ↓reduceIte, Nat.reduceEqDiff, Nat.reduceAdd, Nat.reduceMul, Nat.reduceSub, Int.reduceToNat, reduceCtorEq, Nat.reduceLT, Nat.reduceLeDiff, Int.reduceSub, Int.reduceAdd, Int.reduceNeg, Sat.look hs, Sat.lookA hs]
    have hlb : (be64 (8 * xs.length)).length = 8 := by simp [be64]
    by_cases hlt : m < 8
    case pos =>
      have hsh : (8 * (7 - (m : Int))) = ((8 * (7 - m) : Nat) : Int) := by omega
      have hsh' : 7 - (m : Int) - 1 = 7 - ((m + 1 : Nat) : Int) := by omega
      have hbe : (be64 (8 * xs.length))[m]? = some (UInt8.ofNat (8 * xs.length / 2 ^ (8 * (7 - m)))) := by simp [be64, hlt]
      have htk : (be64 (8 * xs.length)).take (m + 1) = (be64 (8 * xs.length)).take m ++ [UInt8.ofNat (8 * xs.length / 2 ^ (8 * (7 - m)))] := by rw [List.take_add_one, hbe]; rfl
      have hbits : 8 * (7 - m) ≤ IntKind.bits .i64 := by rw [bitsi64]; omega
      (repeat (first | (simp (disch := first | omega | assumption | exact Option.isSome_some | (simp only [adO_isSome]; assumption)) only [↓vcp, vcs, vct, if_true, if_false, Nat.reduceBEq, ↓reduceIte, Nat.reduceEqDiff, Nat.reduceAdd, Nat.reduceMul, Nat.reduceSub, Int.reduceToNat, reduceCtorEq, Nat.reduceLT, Nat.reduceLeDiff, Int.reduceSub, Int.reduceAdd, Int.reduceNeg, Sat.look hs, Sat.lookA hs, h8, hsh, shr_nat, wr8, u8v_eq]) | (refine khK he hs ?_; clear he; intro he) | ((first | refine stK hs ?_ | refine stFK hs ?_ | refine stAK hs ?_ | refine msK hs ?_); clear hs; (try clear w); rintro w hs; try simp only [cls] at hs) | ((first | refine al_ok hs ?_ | refine bx_ok hs ?_ | refine bsvK hs ?_ | refine bs1_ok hs ?_ | refine bs0_ok hs ?_); clear hs; (try clear w); rintro _ w hs; try simp only [cls] at hs)))
      clear hbe
      generalize UInt8.ofNat (8 * xs.length / 2 ^ (8 * (7 - m))) = byt at *
      generalize be64 (8 * xs.length) = bs at *
      refine apK 1 hs (hs.rd) ?_; clear hs; (try clear w); rintro a5 c5 w hc5 hs; try simp only [cls] at hs
      (repeat (first | (simp (disch := first | omega | assumption | exact Option.isSome_some | (simp only [adO_isSome]; assumption)) only [↓vcp, vcs, vct, if_true, if_false, Nat.reduceBEq, ↓reduceIte, Nat.reduceEqDiff, Nat.reduceAdd, Nat.reduceMul, Nat.reduceSub, Int.reduceToNat, reduceCtorEq, Nat.reduceLT, Nat.reduceLeDiff, Int.reduceSub, Int.reduceAdd, Int.reduceNeg, Sat.look hs, Sat.lookA hs, hsh']) | (refine khK he hs ?_; clear he; intro he) | ((first | refine stK hs ?_ | refine stFK hs ?_ | refine stAK hs ?_ | refine msK hs ?_); clear hs; (try clear w); rintro w hs; try simp only [cls] at hs) | ((first | refine al_ok hs ?_ | refine bx_ok hs ?_ | refine bsvK hs ?_ | refine bs1_ok hs ?_ | refine bs0_ok hs ?_); clear hs; (try clear w); rintro _ w hs; try simp only [cls] at hs)))
      refine ⟨(m + 1, a5, c5), by rfl, by rfl, ⟨by dsimp only; omega, by dsimp only; omega, ?_⟩, by dsimp only; omega⟩
      dsimp only
      rw [htk]
      simpa using hs.take 1
    case neg =>
      obtain rfl : m = 8 := by omega
      simp (disch := first | omega | assumption | exact Option.isSome_some | (simp only [adO_isSome]; assumption)) only [↓vcp, vcs, vct, if_true, if_false, Nat.reduceBEq, ↓reduceIte, Nat.reduceEqDiff, Nat.reduceAdd, Nat.reduceMul, Nat.reduceSub, Int.reduceToNat, reduceCtorEq, Nat.reduceLT, Nat.reduceLeDiff, Int.reduceSub, Int.reduceAdd, Int.reduceNeg, Sat.look hs, Sat.lookA hs]
      refine ret_tmp rfl (hR _ _ ⟨a4, c4, _, rfl, ?_, hc4, ?_⟩)
      · simp [pad, be64, hkk]; omega
      · have h64 : 8 * xs.length % 2 ^ 64 = 8 * xs.length := Nat.mod_eq_of_lt (by omega)
        rw [List.take_of_length_le (by omega)] at hs
        unfold pad
        rw [hkk, h64]
        exact hs
end Go.Proofs.YtokoohdpakhphaaDoor.Sha
