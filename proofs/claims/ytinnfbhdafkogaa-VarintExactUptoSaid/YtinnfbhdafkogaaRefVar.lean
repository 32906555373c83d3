/- The document's varints: digits, Lay, Read; the program's Len. -/
import Derived.Test.YtinnfbhdafkogaaLays
import Derived.Test.YtinnfbhdafkogaaVarintT
import Derived.Test.YtinnfbhdafkogaaHelp
import Derived.Test.YtinnfbhdafkogaaBun
import Derived.Test.YtinnfbhdafkogaaNums
namespace Go.Proofs.Ytinnfbhdafkogaa.Varint
open Go VC Go.RowKit Help
set_option linter.unusedSimpArgs false
set_option linter.unusedVariables false
set_option maxRecDepth 20000
set_option maxHeartbeats 4000000
theorem vread_cases (xs : List UInt8) : ∃ j, High xs j ∧ (j = 9 ∨ j ≠ 9 ∧ j = xs.length ∨ j ≠ 9 ∧ ∃ h : j < xs.length, xs[j].toNat < 128) := by
  have go : ∀ n j, n + j = 9 → High xs j → ∃ j, High xs j ∧ (j = 9 ∨ j ≠ 9 ∧ j = xs.length ∨ j ≠ 9 ∧ ∃ h : j < xs.length, xs[j].toNat < 128) := by
    intro n
    induction n with
    | zero => intro j hj h; exact ⟨j, h, .inl (by omega)⟩
    | succ n ih =>
      intro j hj h
      by_cases hl : j = xs.length
      · exact ⟨j, h, .inr (.inl ⟨by omega, hl⟩)⟩
      · have hlt : j < xs.length := by have := h.le; omega
        by_cases hb : xs[j].toNat < 128
        · exact ⟨j, h, .inr (.inr ⟨by omega, hlt, hb⟩)⟩
        · refine ih (j + 1) (by omega) ⟨by omega, hlt, fun i hi hij => ?_⟩
          rcases Nat.lt_or_ge i j with h1 | h1
          · exact h.all i hi h1
          · obtain rfl : i = j := by omega
            omega
  exact go 9 0 rfl ⟨by omega, by omega, fun i hi h => by omega⟩
theorem u8_of (n : Nat) (h : n < 256) : Value.int .u8 (n : Int) = u8v (UInt8.ofNat n) := by
  unfold u8v
  rw [ofNat_toNat n h]
theorem digits_calls (n : Nat) : ∀ w0 : World, n < 2 ^ 64 → Calls Try.prog 32 #[.int .u64 n] w0 fun e w' => ∃ a c, e = .returned (.slice a (vlay n).length c) ∧ (vlay n).length ≤ c ∧ Sat (.at w0) [.sl a c ((vlay n).map u8v) 5 1] w' := by
  induction n using Nat.strongRecOn with
  | _ n ih =>
    intro w0 hn
    refine calls_vc Try.func32 rfl (by kernel_rfl) (by kernel_rfl) ?_; intro R hR
    have hs := Sat.start w0
    by_cases h : n < 128
    · rw [vlay_small h] at hR
      (repeat (first | (simp (disch := first | omega | assumption | exact Option.isSome_some | (simp only [adO_isSome]; assumption)) only [↓vcp, vcs, vct, if_true, if_false, Nat.reduceBEq, ↓reduceIte, Nat.reduceEqDiff, Nat.reduceAdd, Nat.reduceMul, Nat.reduceSub, Int.reduceToNat, reduceCtorEq, Nat.reduceLT, Nat.reduceLeDiff, Int.reduceSub, Int.reduceAdd, Int.reduceNeg, Sat.look hs, Sat.lookA hs, wr8]) | (refine khK he hs ?_; clear he; intro he) | ((first | refine stK hs ?_ | refine stFK hs ?_ | refine stAK hs ?_ | refine msK hs ?_); clear hs; (try clear w); rintro w hs; try simp only [cls] at hs) | ((first | refine al_ok hs ?_ | refine bx_ok hs ?_ | refine bsvK hs ?_ | refine bs1_ok hs ?_ | refine bs0_ok hs ?_); clear hs; (try clear w); rintro _ w hs; try simp only [cls] at hs)))
      rw [u8_of n (by omega)] at hs
      exact ret_tmp rfl (hR _ _ ⟨_, 1, rfl, by simp, hs⟩)
    · rw [vlay_big (by omega)] at hR
      have e1 : (n : Int).tmod 128 = ((n % 128 : Nat) : Int) := rfl
      have e2 : IntKind.u64.wrap (128 + ((n % 128 : Nat) : Int)) = ((n % 128 + 128 : Nat) : Int) := by
        rw [show (128 + ((n % 128 : Nat) : Int)) = ((n % 128 + 128 : Nat) : Int) by omega]
        exact wrap_u .u64 rfl _ (by rw [bits64]; omega)
      have e3 : (n : Int).tdiv 128 = ((n / 128 : Nat) : Int) := rfl
      have e4 : IntKind.u64.wrap ((n / 128 : Nat) : Int) = ((n / 128 : Nat) : Int) := wrap_u .u64 rfl _ (by rw [bits64]; omega)
      have e5 : (128 + ((n % 128 : Nat) : Int)) = ((n % 128 + 128 : Nat) : Int) := by omega
      (repeat (first | (simp (disch := first | omega | assumption | exact Option.isSome_some | (simp only [adO_isSome]; assumption)) only [↓vcp, vcs, vct, if_true, if_false, Nat.reduceBEq, ↓reduceIte, Nat.reduceEqDiff, Nat.reduceAdd, Nat.reduceMul, Nat.reduceSub, Int.reduceToNat, reduceCtorEq, Nat.reduceLT, Nat.reduceLeDiff, Int.reduceSub, Int.reduceAdd, Int.reduceNeg, Sat.look hs, Sat.lookA hs, tmod_lit, tdiv_lit, e1, e2, e3, e4, e5, wr8]) | (refine khK he hs ?_; clear he; intro he) | ((first | refine stK hs ?_ | refine stFK hs ?_ | refine stAK hs ?_ | refine msK hs ?_); clear hs; (try clear w); rintro w hs; try simp only [cls] at hs) | ((first | refine al_ok hs ?_ | refine bx_ok hs ?_ | refine bsvK hs ?_ | refine bs1_ok hs ?_ | refine bs0_ok hs ?_); clear hs; (try clear w); rintro _ w hs; try simp only [cls] at hs)))
      have hv := ih (n / 128) (by omega) w (by omega)
      refine call_ok (by kernel_rfl) hv ?_
      rintro _ w2 ⟨a, c, rfl, hc, hb⟩
      rw [callK_ret]
      replace hs := hs.add hb
      try simp only [cls] at hs
      clear hb hv w
      rename World => w
      (repeat (first | (simp (disch := first | omega | assumption | exact Option.isSome_some | (simp only [adO_isSome]; assumption)) only [↓vcp, vcs, vct, if_true, if_false, Nat.reduceBEq, ↓reduceIte, Nat.reduceEqDiff, Nat.reduceAdd, Nat.reduceMul, Nat.reduceSub, Int.reduceToNat, reduceCtorEq, Nat.reduceLT, Nat.reduceLeDiff, Int.reduceSub, Int.reduceAdd, Int.reduceNeg, Sat.look hs, Sat.lookA hs, e1, e2, e3, e4, e5, wr8]) | (refine khK he hs ?_; clear he; intro he) | ((first | refine stK hs ?_ | refine stFK hs ?_ | refine stAK hs ?_ | refine msK hs ?_); clear hs; (try clear w); rintro w hs; try simp only [cls] at hs) | ((first | refine al_ok hs ?_ | refine bx_ok hs ?_ | refine bsvK hs ?_ | refine bs1_ok hs ?_ | refine bs0_ok hs ?_); clear hs; (try clear w); rintro _ w hs; try simp only [cls] at hs)))
      have hl9 : (vlay (n / 128)).length ≤ 10 := vlay_len 9 _ (by omega)
      refine apK ((vlay (n / 128)).length) hs (hs.rd (a := a)) ?_; clear hs; (try clear w); rintro a1 c1 w hc1 hs; try simp only [cls] at hs
      (repeat (first | (simp (disch := first | omega | assumption | exact Option.isSome_some | (simp only [adO_isSome]; assumption)) only [↓vcp, vcs, vct, if_true, if_false, Nat.reduceBEq, ↓reduceIte, Nat.reduceEqDiff, Nat.reduceAdd, Nat.reduceMul, Nat.reduceSub, Int.reduceToNat, reduceCtorEq, Nat.reduceLT, Nat.reduceLeDiff, Int.reduceSub, Int.reduceAdd, Int.reduceNeg, Sat.look hs, Sat.lookA hs]) | (refine khK he hs ?_; clear he; intro he) | ((first | refine stK hs ?_ | refine stFK hs ?_ | refine stAK hs ?_ | refine msK hs ?_); clear hs; (try clear w); rintro w hs; try simp only [cls] at hs) | ((first | refine al_ok hs ?_ | refine bx_ok hs ?_ | refine bsvK hs ?_ | refine bs1_ok hs ?_ | refine bs0_ok hs ?_); clear hs; (try clear w); rintro _ w hs; try simp only [cls] at hs)))
      rw [u8_of (n % 128 + 128) (by omega)] at hs
      have hln : 1 + (vlay (n / 128)).length = (UInt8.ofNat (n % 128 + 128) :: vlay (n / 128)).length := by rw [List.length_cons]; omega
      refine ret_tmp rfl (hR _ _ ⟨a1, c1, ?_, by rw [List.length_cons]; omega, hs.take 1⟩)
      rw [← hln]
      rfl
def lay1 (n : Nat) : List UInt8 := if n < 2 ^ 63 then vlay n else []
def lerr (n : Nat) : Nat := if n < 2 ^ 63 then 0 else 11
theorem lay1_len {n : Nat} : (lay1 n).length ≤ 9 := by
  unfold lay1
  split
  · exact vlay_len9 (by assumption)
  · simp
theorem PLay_calls (w0 : World) (n : Nat) (h : n < 2 ^ 64) : Calls Try.prog 15 #[.int .u64 n] w0 fun e w' => ∃ a c, e = .returned (.tuple #[.slice a (lay1 n).length c, .int .i64 (lerr n)]) ∧ (lay1 n).length ≤ c ∧ Sat (.at w0) [.sl a c ((lay1 n).map u8v) 5 1] w' := by
  unfold lay1 lerr
  by_cases h63 : n < 2 ^ 63
  · simp only [if_pos h63]
    refine Calls.mono (Lay_calls w0 n h63) fun e w' ⟨a, c, h1, h2, h3⟩ => ⟨a, c, h1, ?_, Own.sat h2 h3⟩
    rcases h2.form with ⟨_, h, _⟩ | ⟨_, _, _, _, _, h, _⟩ <;> omega
  · simp only [if_neg h63]
    refine Calls.mono (Lay_long w0 n (by omega) h) fun e w' ⟨h1, h2⟩ => ⟨none, 0, h1, by simp, ?_⟩
    subst h2
    exact (Sat.start w0).nil 5 1
theorem RLay_calls (w0 : World) (n : Nat) (h : n < 2 ^ 64) : Calls Try.prog 16 #[.int .u64 n] w0 fun e w' => ∃ a c, e = .returned (.tuple #[.slice a (lay1 n).length c, .int .i64 (lerr n)]) ∧ (lay1 n).length ≤ c ∧ Sat (.at w0) [.sl a c ((lay1 n).map u8v) 5 1] w' := by
  refine calls_vc Try.func16 rfl (by kernel_rfl) (by kernel_rfl) ?_; intro R hR
  have hs := Sat.start w0
  unfold lay1 lerr at hR
  by_cases h63 : n < 2 ^ 63
  · simp only [if_pos h63] at hR
    (repeat (first | (simp (disch := first | omega | assumption | exact Option.isSome_some | (simp only [adO_isSome]; assumption)) only [↓vcp, vcs, vct, if_true, if_false, Nat.reduceBEq, ↓reduceIte, Nat.reduceEqDiff, Nat.reduceAdd, Nat.reduceMul, Nat.reduceSub, Int.reduceToNat, reduceCtorEq, Nat.reduceLT, Nat.reduceLeDiff, Int.reduceSub, Int.reduceAdd, Int.reduceNeg, Sat.look hs, Sat.lookA hs]) | (refine khK he hs ?_; clear he; intro he) | ((first | refine stK hs ?_ | refine stFK hs ?_ | refine stAK hs ?_ | refine msK hs ?_); clear hs; (try clear w); rintro w hs; try simp only [cls] at hs) | ((first | refine al_ok hs ?_ | refine bx_ok hs ?_ | refine bsvK hs ?_ | refine bs1_ok hs ?_ | refine bs0_ok hs ?_); clear hs; (try clear w); rintro _ w hs; try simp only [cls] at hs)))
    refine call_ok (by kernel_rfl) (digits_calls n w0 h) ?_
    rintro _ w2 ⟨a, c, rfl, hc, hb⟩
    rw [callK_ret]
    replace hs := hs.add hb
    try simp only [cls] at hs
    (repeat (first | (simp (disch := first | omega | assumption | exact Option.isSome_some | (simp only [adO_isSome]; assumption)) only [↓vcp, vcs, vct, if_true, if_false, Nat.reduceBEq, ↓reduceIte, Nat.reduceEqDiff, Nat.reduceAdd, Nat.reduceMul, Nat.reduceSub, Int.reduceToNat, reduceCtorEq, Nat.reduceLT, Nat.reduceLeDiff, Int.reduceSub, Int.reduceAdd, Int.reduceNeg, Sat.look hs, Sat.lookA hs]) | (refine khK he hs ?_; clear he; intro he) | ((first | refine stK hs ?_ | refine stFK hs ?_ | refine stAK hs ?_ | refine msK hs ?_); clear hs; (try clear w); rintro w hs; try simp only [cls] at hs) | ((first | refine al_ok hs ?_ | refine bx_ok hs ?_ | refine bsvK hs ?_ | refine bs1_ok hs ?_ | refine bs0_ok hs ?_); clear hs; (try clear w); rintro _ w hs; try simp only [cls] at hs)))
    exact ret_tmp2 rfl (hR _ _ ⟨a, c, rfl, hc, hs⟩)
  · simp only [if_neg h63] at hR
    replace hs := Sat.nil hs 5 1; try simp only [cls] at hs
    (repeat (first | (simp (disch := first | omega | assumption | exact Option.isSome_some | (simp only [adO_isSome]; assumption)) only [↓vcp, vcs, vct, if_true, if_false, Nat.reduceBEq, ↓reduceIte, Nat.reduceEqDiff, Nat.reduceAdd, Nat.reduceMul, Nat.reduceSub, Int.reduceToNat, reduceCtorEq, Nat.reduceLT, Nat.reduceLeDiff, Int.reduceSub, Int.reduceAdd, Int.reduceNeg, Sat.look hs, Sat.lookA hs]) | (refine khK he hs ?_; clear he; intro he) | ((first | refine stK hs ?_ | refine stFK hs ?_ | refine stAK hs ?_ | refine msK hs ?_); clear hs; (try clear w); rintro w hs; try simp only [cls] at hs) | ((first | refine al_ok hs ?_ | refine bx_ok hs ?_ | refine bsvK hs ?_ | refine bs1_ok hs ?_ | refine bs0_ok hs ?_); clear hs; (try clear w); rintro _ w hs; try simp only [cls] at hs)))
    exact ret_tmp2 rfl (hR _ _ ⟨none, 0, rfl, by simp, hs⟩)
theorem high_take {xs : List UInt8} {k : Nat} (h : High xs k) (hl : k < xs.length) : High (xs.take (k + 1)) k := ⟨h.le9, by rw [List.length_take]; omega, fun i hi hik => by
  rw [List.getElem_take]
  exact h.all i _ hik⟩
theorem RRead_calls (w0 : World) (a : Option Addr) (c : Nat) (xs : List UInt8) (hx : Ro (.at w0) a (xs.map u8v)) (hc : xs.length ≤ c) (hn : xs.length ≤ 140737488355328) :
    Calls Try.prog 36 #[.slice a xs.length c] w0 fun e w' => e = .returned (.tuple #[.int .u64 (vread xs).1, .int .i64 (vread xs).2.1, .int .i64 (vread xs).2.2]) ∧ Below w0.heap.size w0 w' := by
  refine calls_vc Try.func36 rfl (by kernel_rfl) (by kernel_rfl) ?_; intro R hR
  have hs := Sat.start w0
  (repeat (first | (simp (disch := first | omega | assumption | exact Option.isSome_some | (simp only [adO_isSome]; assumption)) only [↓vcp, vcs, vct, if_true, if_false, Nat.reduceBEq, ↓reduceIte, Nat.reduceEqDiff, Nat.reduceAdd, Nat.reduceMul, Nat.reduceSub, Int.reduceToNat, reduceCtorEq, Nat.reduceLT, Nat.reduceLeDiff, Int.reduceSub, Int.reduceAdd, Int.reduceNeg, Sat.look hs, Sat.lookA hs]) | (refine khK he hs ?_; clear he; intro he) | ((first | refine stK hs ?_ | refine stFK hs ?_ | refine stAK hs ?_ | refine msK hs ?_); clear hs; (try clear w); rintro w hs; try simp only [cls] at hs) | ((first | refine al_ok hs ?_ | refine bx_ok hs ?_ | refine bsvK hs ?_ | refine bs1_ok hs ?_ | refine bs0_ok hs ?_); clear hs; (try clear w); rintro _ w hs; try simp only [cls] at hs)))
  refine loop_join (σ := Nat) 0 [5] (fun k => [.int .i64 k]) [0] (fun k w' => High xs k ∧ (k = 9 ∨ k ≠ 9 ∧ k = xs.length ∨ k ≠ 9 ∧ ∃ h : k < xs.length, xs[k].toNat < 128) ∧ Sat (.at w0) [] w') ?_ ?_
  · refine loop_rule (σ := Nat) [5] (fun k => [.int .i64 k]) [0] (fun k w' => High xs k ∧ Sat (.at w0) [] w') (fun k _ => 9 - k) 0 (by kernel_rfl) rfl ⟨⟨by omega, by omega, fun i hi h => by omega⟩, hs⟩ ?_
    clear hs
    rintro e k w ⟨hh, hs⟩
    have h9 := hh.le9
    have hkl := hh.le
    simp (disch := first | omega | assumption | exact Option.isSome_some | (simp only [adO_isSome]; assumption)) only [↓vcp, vcs, vct, if_true, if_false, Nat.reduceBEq, ↓reduceIte, Nat.reduceEqDiff, Nat.reduceAdd, Nat.reduceMul, Nat.reduceSub, Int.reduceToNat, reduceCtorEq, Nat.reduceLT, Nat.reduceLeDiff, Int.reduceSub, Int.reduceAdd, Int.reduceNeg, Sat.look hs, Sat.lookA hs]
    by_cases hl : k < xs.length
    case neg =>
      (repeat (first | (simp (disch := first | omega | assumption | exact Option.isSome_some | (simp only [adO_isSome]; assumption)) only [↓vcp, vcs, vct, if_true, if_false, Nat.reduceBEq, ↓reduceIte, Nat.reduceEqDiff, Nat.reduceAdd, Nat.reduceMul, Nat.reduceSub, Int.reduceToNat, reduceCtorEq, Nat.reduceLT, Nat.reduceLeDiff, Int.reduceSub, Int.reduceAdd, Int.reduceNeg, Sat.look hs, Sat.lookA hs]) | (refine khK he hs ?_; clear he; intro he) | ((first | refine stK hs ?_ | refine stFK hs ?_ | refine stAK hs ?_ | refine msK hs ?_); clear hs; (try clear w); rintro w hs; try simp only [cls] at hs) | ((first | refine al_ok hs ?_ | refine bx_ok hs ?_ | refine bsvK hs ?_ | refine bs1_ok hs ?_ | refine bs0_ok hs ?_); clear hs; (try clear w); rintro _ w hs; try simp only [cls] at hs)))
      refine ⟨k, by rfl, by rfl, hh, ?_, hs⟩
      by_cases h : k = 9
      · exact .inl h
      · exact .inr (.inl ⟨h, by omega⟩)
    by_cases hk9 : k < 9
    case neg =>
      (repeat (first | (simp (disch := first | omega | assumption | exact Option.isSome_some | (simp only [adO_isSome]; assumption)) only [↓vcp, vcs, vct, if_true, if_false, Nat.reduceBEq, ↓reduceIte, Nat.reduceEqDiff, Nat.reduceAdd, Nat.reduceMul, Nat.reduceSub, Int.reduceToNat, reduceCtorEq, Nat.reduceLT, Nat.reduceLeDiff, Int.reduceSub, Int.reduceAdd, Int.reduceNeg, Sat.look hs, Sat.lookA hs]) | (refine khK he hs ?_; clear he; intro he) | ((first | refine stK hs ?_ | refine stFK hs ?_ | refine stAK hs ?_ | refine msK hs ?_); clear hs; (try clear w); rintro w hs; try simp only [cls] at hs) | ((first | refine al_ok hs ?_ | refine bx_ok hs ?_ | refine bsvK hs ?_ | refine bs1_ok hs ?_ | refine bs0_ok hs ?_); clear hs; (try clear w); rintro _ w hs; try simp only [cls] at hs)))
      exact ⟨k, by rfl, by rfl, hh, .inl (by omega), hs⟩
    have has : a.isSome = true := hx.isSome (by rw [List.length_map]; omega)
    have hb : oldO (.at w0) (adO a k) = some (.int .u8 (xs[k].toNat : Int)) := hx k _ (by rw [List.getElem?_map, List.getElem?_eq_getElem hl]; rfl)
    by_cases h128 : 128 ≤ xs[k].toNat
    case neg =>
      (repeat (first | (simp (disch := first | omega | assumption | exact Option.isSome_some | (simp only [adO_isSome]; assumption)) only [↓vcp, vcs, vct, if_true, if_false, Nat.reduceBEq, ↓reduceIte, Nat.reduceEqDiff, Nat.reduceAdd, Nat.reduceMul, Nat.reduceSub, Int.reduceToNat, reduceCtorEq, Nat.reduceLT, Nat.reduceLeDiff, Int.reduceSub, Int.reduceAdd, Int.reduceNeg, Sat.look hs, Sat.lookA hs, hs.old hb]) | (refine khK he hs ?_; clear he; intro he) | ((first | refine stK hs ?_ | refine stFK hs ?_ | refine stAK hs ?_ | refine msK hs ?_); clear hs; (try clear w); rintro w hs; try simp only [cls] at hs) | ((first | refine al_ok hs ?_ | refine bx_ok hs ?_ | refine bsvK hs ?_ | refine bs1_ok hs ?_ | refine bs0_ok hs ?_); clear hs; (try clear w); rintro _ w hs; try simp only [cls] at hs)))
      exact ⟨k, by rfl, by rfl, hh, .inr (.inr ⟨by omega, hl, by omega⟩), hs⟩
    case pos =>
      (repeat (first | (simp (disch := first | omega | assumption | exact Option.isSome_some | (simp only [adO_isSome]; assumption)) only [↓vcp, vcs, vct, if_true, if_false, Nat.reduceBEq, ↓reduceIte, Nat.reduceEqDiff, Nat.reduceAdd, Nat.reduceMul, Nat.reduceSub, Int.reduceToNat, reduceCtorEq, Nat.reduceLT, Nat.reduceLeDiff, Int.reduceSub, Int.reduceAdd, Int.reduceNeg, Sat.look hs, Sat.lookA hs, hs.old hb]) | (refine khK he hs ?_; clear he; intro he) | ((first | refine stK hs ?_ | refine stFK hs ?_ | refine stAK hs ?_ | refine msK hs ?_); clear hs; (try clear w); rintro w hs; try simp only [cls] at hs) | ((first | refine al_ok hs ?_ | refine bx_ok hs ?_ | refine bsvK hs ?_ | refine bs1_ok hs ?_ | refine bs0_ok hs ?_); clear hs; (try clear w); rintro _ w hs; try simp only [cls] at hs)))
      exact ⟨k + 1, by rfl, by rfl, ⟨⟨by omega, by omega, fun i hi hik => by
        rcases Nat.lt_or_ge i k with h1 | h1
        · exact hh.all i hi h1
        · obtain rfl : i = k := by omega
          exact h128⟩, hs⟩, by dsimp only; omega⟩
  clear hs
  rintro e k w ⟨hh, hcase, hs⟩
  have h9 := hh.le9
  have hkl := hh.le
  rcases hcase with h | ⟨hk9, h⟩ | ⟨hk9, hl, hlo⟩
  · subst h
    rw [hh.r9] at hR
    (repeat (first | (simp (disch := first | omega | assumption | exact Option.isSome_some | (simp only [adO_isSome]; assumption)) only [↓vcp, vcs, vct, if_true, if_false, Nat.reduceBEq, ↓reduceIte, Nat.reduceEqDiff, Nat.reduceAdd, Nat.reduceMul, Nat.reduceSub, Int.reduceToNat, reduceCtorEq, Nat.reduceLT, Nat.reduceLeDiff, Int.reduceSub, Int.reduceAdd, Int.reduceNeg, Sat.look hs, Sat.lookA hs]) | (refine khK he hs ?_; clear he; intro he) | ((first | refine stK hs ?_ | refine stFK hs ?_ | refine stAK hs ?_ | refine msK hs ?_); clear hs; (try clear w); rintro w hs; try simp only [cls] at hs) | ((first | refine al_ok hs ?_ | refine bx_ok hs ?_ | refine bsvK hs ?_ | refine bs1_ok hs ?_ | refine bs0_ok hs ?_); clear hs; (try clear w); rintro _ w hs; try simp only [cls] at hs)))
    exact ret_tmp3 rfl (hR _ _ ⟨rfl, hs.belowAt⟩)
  · rw [hh.short hk9 h] at hR
    (repeat (first | (simp (disch := first | omega | assumption | exact Option.isSome_some | (simp only [adO_isSome]; assumption)) only [↓vcp, vcs, vct, if_true, if_false, Nat.reduceBEq, ↓reduceIte, Nat.reduceEqDiff, Nat.reduceAdd, Nat.reduceMul, Nat.reduceSub, Int.reduceToNat, reduceCtorEq, Nat.reduceLT, Nat.reduceLeDiff, Int.reduceSub, Int.reduceAdd, Int.reduceNeg, Sat.look hs, Sat.lookA hs]) | (refine khK he hs ?_; clear he; intro he) | ((first | refine stK hs ?_ | refine stFK hs ?_ | refine stAK hs ?_ | refine msK hs ?_); clear hs; (try clear w); rintro w hs; try simp only [cls] at hs) | ((first | refine al_ok hs ?_ | refine bx_ok hs ?_ | refine bsvK hs ?_ | refine bs1_ok hs ?_ | refine bs0_ok hs ?_); clear hs; (try clear w); rintro _ w hs; try simp only [cls] at hs)))
    exact ret_tmp3 rfl (hR _ _ ⟨rfl, hs.belowAt⟩)
  · have has : a.isSome = true := hx.isSome (by rw [List.length_map]; omega)
    have hdl := dec_lt (xs.take (k + 1))
    have htl : (xs.take (k + 1)).length = k + 1 := by rw [List.length_take]; omega
    (repeat (first | (simp (disch := first | omega | assumption | exact Option.isSome_some | (simp only [adO_isSome]; assumption)) only [↓vcp, vcs, vct, if_true, if_false, Nat.reduceBEq, ↓reduceIte, Nat.reduceEqDiff, Nat.reduceAdd, Nat.reduceMul, Nat.reduceSub, Int.reduceToNat, reduceCtorEq, Nat.reduceLT, Nat.reduceLeDiff, Int.reduceSub, Int.reduceAdd, Int.reduceNeg, Sat.look hs, Sat.lookA hs]) | (refine khK he hs ?_; clear he; intro he) | ((first | refine stK hs ?_ | refine stFK hs ?_ | refine stAK hs ?_ | refine msK hs ?_); clear hs; (try clear w); rintro w hs; try simp only [cls] at hs) | ((first | refine al_ok hs ?_ | refine bx_ok hs ?_ | refine bsvK hs ?_ | refine bs1_ok hs ?_ | refine bs0_ok hs ?_); clear hs; (try clear w); rintro _ w hs; try simp only [cls] at hs)))
    refine loop_rule (σ := Nat) [7, 6] (fun i => [.int .i64 ((i : Int) - 1), .int .u64 (dec ((xs.take (k + 1)).drop i))]) [0, 5] (fun i w' => i ≤ k + 1 ∧ Sat (.at w0) [] w') (fun i _ => i) (k + 1) (by kernel_rfl) (by rw [List.drop_of_length_le (by omega), show (((k + 1 : Nat) : Int) - 1) = (k : Int) by omega]; rfl) ⟨by omega, hs⟩ ?_
    clear hs
    rintro e i w ⟨hi, hs⟩
    rcases i with _ | j
    · rw [show (((0 : Nat) : Int) - 1) = -1 from rfl, List.drop_zero]
      have hv63 : dec (xs.take (k + 1)) < 2 ^ 63 := by
        rw [htl] at hdl
        exact Nat.lt_of_lt_of_le hdl (Nat.pow_le_pow_right (by omega) (by omega))
      have hlv := vlay_len9 hv63
      have hk1 : ((k : Int) + 1) = ((k + 1 : Nat) : Int) := by omega
      have hcut : RdB w w.heap.size a (xs.take (k + 1)) := by
        have h := hx.take (k + 1)
        rw [← List.map_take] at h
        exact h.rd hs
      (repeat (first | (simp (disch := first | omega | assumption | exact Option.isSome_some | (simp only [adO_isSome]; assumption)) only [↓vcp, vcs, vct, if_true, if_false, Nat.reduceBEq, ↓reduceIte, Nat.reduceEqDiff, Nat.reduceAdd, Nat.reduceMul, Nat.reduceSub, Int.reduceToNat, reduceCtorEq, Nat.reduceLT, Nat.reduceLeDiff, Int.reduceSub, Int.reduceAdd, Int.reduceNeg, Sat.look hs, Sat.lookA hs, hk1]) | (refine khK he hs ?_; clear he; intro he) | ((first | refine stK hs ?_ | refine stFK hs ?_ | refine stAK hs ?_ | refine msK hs ?_); clear hs; (try clear w); rintro w hs; try simp only [cls] at hs) | ((first | refine al_ok hs ?_ | refine bx_ok hs ?_ | refine bsvK hs ?_ | refine bs1_ok hs ?_ | refine bs0_ok hs ?_); clear hs; (try clear w); rintro _ w hs; try simp only [cls] at hs)))
      refine draw_plan (SatE _ _) [(0, true), (2, true), (3, true), (4, true), (5, true), (1, false), (6, false), (7, true)] (by kernel_rfl) (by kernel_rfl) (Sat.e (Sat.drew hs)) ?_; replace hs := Sat.drew hs; revert hs; generalize World.drew _ = w; intro hs; have he := Sat.e hs
      (repeat (first | (simp (disch := first | omega | assumption | exact Option.isSome_some | (simp only [adO_isSome]; assumption)) only [↓vcp, vcs, vct, if_true, if_false, Nat.reduceBEq, ↓reduceIte, Nat.reduceEqDiff, Nat.reduceAdd, Nat.reduceMul, Nat.reduceSub, Int.reduceToNat, reduceCtorEq, Nat.reduceLT, Nat.reduceLeDiff, Int.reduceSub, Int.reduceAdd, Int.reduceNeg, Sat.look hs, Sat.lookA hs, hk1]) | (refine khK he hs ?_; clear he; intro he) | ((first | refine stK hs ?_ | refine stFK hs ?_ | refine stAK hs ?_ | refine msK hs ?_); clear hs; (try clear w); rintro w hs; try simp only [cls] at hs) | ((first | refine al_ok hs ?_ | refine bx_ok hs ?_ | refine bsvK hs ?_ | refine bs1_ok hs ?_ | refine bs0_ok hs ?_); clear hs; (try clear w); rintro _ w hs; try simp only [cls] at hs)))
      refine call_ok (by kernel_rfl) (digits_calls _ w (by omega)) ?_
      rintro _ w2 ⟨va, vc', rfl, hvc, hb2⟩
      rw [callK_ret]
      replace hs := hs.add hb2
      try simp only [cls] at hs
      clear hb2
      rename World => w
      (repeat (first | (simp (disch := first | omega | assumption | exact Option.isSome_some | (simp only [adO_isSome]; assumption)) only [↓vcp, vcs, vct, if_true, if_false, Nat.reduceBEq, ↓reduceIte, Nat.reduceEqDiff, Nat.reduceAdd, Nat.reduceMul, Nat.reduceSub, Int.reduceToNat, reduceCtorEq, Nat.reduceLT, Nat.reduceLeDiff, Int.reduceSub, Int.reduceAdd, Int.reduceNeg, Sat.look hs, Sat.lookA hs, hk1]) | (refine khK he hs ?_; clear he; intro he) | ((first | refine stK hs ?_ | refine stFK hs ?_ | refine stAK hs ?_ | refine msK hs ?_); clear hs; (try clear w); rintro w hs; try simp only [cls] at hs) | ((first | refine al_ok hs ?_ | refine bx_ok hs ?_ | refine bsvK hs ?_ | refine bs1_ok hs ?_ | refine bs0_ok hs ?_); clear hs; (try clear w); rintro _ w hs; try simp only [cls] at hs)))
      have heq := Eq_calls w va a vc' c (vlay (dec (xs.take (k + 1)))) (xs.take (k + 1)) (hs.rd (a := va)) (by
        have h := hx.take (k + 1)
        rw [← List.map_take] at h
        exact h.rd hs) (by omega)
      rw [htl] at heq
      refine call_ok (by kernel_rfl) (heq) ?_; rintro _ w2 ⟨rfl, hb⟩; rw [callK_ret]; replace hs := Sat.add hs (Below.sat hb); clear hb; (try clear w); rename World => w; try simp only [cls] at hs
      clear heq
      have hskip := vgo_skip xs k h9 hkl hh.all
      rw [List.drop_eq_getElem_cons hl] at hskip
      by_cases hform : 0 < k ∧ xs[k].toNat = 0
      · have hne : vlay (dec (xs.take (k + 1))) ≠ xs.take (k + 1) := fun e => by
          have h1 := vread_vlay hv63 []
          rw [List.append_nil, e] at h1
          have h2 := (high_take hh hl).form hk9 (by omega) hform.1 (by rw [List.getElem_take]; exact hform.2)
          rw [h1] at h2
          injection h2 with _ h2
          injection h2 with h3 h4
          cases h4
        rw [decide_eq_false hne]
        rw [hh.form hk9 hl hform.1 hform.2] at hR
        (repeat (first | (simp (disch := first | omega | assumption | exact Option.isSome_some | (simp only [adO_isSome]; assumption)) only [↓vcp, vcs, vct, if_true, if_false, Nat.reduceBEq, ↓reduceIte, Nat.reduceEqDiff, Nat.reduceAdd, Nat.reduceMul, Nat.reduceSub, Int.reduceToNat, reduceCtorEq, Nat.reduceLT, Nat.reduceLeDiff, Int.reduceSub, Int.reduceAdd, Int.reduceNeg, Sat.look hs, Sat.lookA hs, hk1]) | (refine khK he hs ?_; clear he; intro he) | ((first | refine stK hs ?_ | refine stFK hs ?_ | refine stAK hs ?_ | refine msK hs ?_); clear hs; (try clear w); rintro w hs; try simp only [cls] at hs) | ((first | refine al_ok hs ?_ | refine bx_ok hs ?_ | refine bsvK hs ?_ | refine bs1_ok hs ?_ | refine bs0_ok hs ?_); clear hs; (try clear w); rintro _ w hs; try simp only [cls] at hs)))
        exact ret_tmp3 rfl (hR _ _ ⟨rfl, hs.belowAt⟩)
      · obtain ⟨n, hn1, hn2, hn3⟩ := hh.good hk9 hl hlo hform
        rw [vgo_end hk9 hlo (by omega)] at hskip
        have hdk : dec (xs.take (k + 1)) = dec (xs.take k) + xs[k].toNat * 2 ^ (7 * k) := by
          rw [List.take_succ_eq_append_getElem hl, dec_snoc, Nat.mod_eq_of_lt hlo, List.length_take, Nat.min_eq_left hkl]
        have hnd : n = dec (xs.take (k + 1)) := by
          rw [hn1] at hskip
          injection hskip with h1 _
          rw [h1, hdk]
        subst hnd
        rw [decide_eq_true hn3]
        rw [hn1] at hR
        (repeat (first | (simp (disch := first | omega | assumption | exact Option.isSome_some | (simp only [adO_isSome]; assumption)) only [↓vcp, vcs, vct, if_true, if_false, Nat.reduceBEq, ↓reduceIte, Nat.reduceEqDiff, Nat.reduceAdd, Nat.reduceMul, Nat.reduceSub, Int.reduceToNat, reduceCtorEq, Nat.reduceLT, Nat.reduceLeDiff, Int.reduceSub, Int.reduceAdd, Int.reduceNeg, Sat.look hs, Sat.lookA hs, hk1]) | (refine khK he hs ?_; clear he; intro he) | ((first | refine stK hs ?_ | refine stFK hs ?_ | refine stAK hs ?_ | refine msK hs ?_); clear hs; (try clear w); rintro w hs; try simp only [cls] at hs) | ((first | refine al_ok hs ?_ | refine bx_ok hs ?_ | refine bsvK hs ?_ | refine bs1_ok hs ?_ | refine bs0_ok hs ?_); clear hs; (try clear w); rintro _ w hs; try simp only [cls] at hs)))
        exact ret_tmp3 rfl (hR _ _ ⟨rfl, hs.belowAt⟩)
    · rw [show (((j + 1 : Nat) : Int) - 1) = (j : Int) by omega]
      have hjl : j < xs.length := by omega
      have hb1 : oldO (.at w0) (adO a j) = some (.int .u8 (xs[j].toNat : Int)) := hx j _ (by rw [List.getElem?_map, List.getElem?_eq_getElem hjl]; rfl)
      have hdr : (xs.take (k + 1)).drop j = xs[j] :: (xs.take (k + 1)).drop (j + 1) := by
        rw [List.drop_eq_getElem_cons (by omega), List.getElem_take]
      have hdj : dec ((xs.take (k + 1)).drop j) = xs[j].toNat % 128 + 128 * dec ((xs.take (k + 1)).drop (j + 1)) := by rw [hdr, dec]
      have hd63 := dec_lt ((xs.take (k + 1)).drop j)
      have hd63' : dec ((xs.take (k + 1)).drop j) < 2 ^ 63 := by
        rw [List.length_drop, htl] at hd63
        exact Nat.lt_of_lt_of_le hd63 (Nat.pow_le_pow_right (by omega) (by omega))
      generalize hq : dec ((xs.take (k + 1)).drop j) = q at *
      generalize dec ((xs.take (k + 1)).drop (j + 1)) = q1 at *
      generalize xs[j] = b8 at *
      have e1 : ((b8.toNat : Int)).tmod 128 = ((b8.toNat % 128 : Nat) : Int) := rfl
      have e2 : IntKind.u64.wrap ((b8.toNat % 128 : Nat) : Int) = ((b8.toNat % 128 : Nat) : Int) := wrap_u .u64 rfl _ (by rw [bits64]; omega)
      have e3 : IntKind.u64.wrap ((q1 : Int) * 128) = ((q1 * 128 : Nat) : Int) := by
        rw [show ((q1 : Int) * 128) = ((q1 * 128 : Nat) : Int) by omega]
        exact wrap_u .u64 rfl _ (by rw [bits64]; omega)
      have e3' : ((q1 : Int) * 128) = ((q1 * 128 : Nat) : Int) := by omega
      have e4 : (((q1 * 128 : Nat) : Int) + ((b8.toNat % 128 : Nat) : Int)) = (q : Int) := by omega
      have e5 : IntKind.u64.wrap (q : Int) = (q : Int) := wrap_u .u64 rfl _ (by rw [bits64]; omega)
      (repeat (first | (simp (disch := first | omega | assumption | exact Option.isSome_some | (simp only [adO_isSome]; assumption)) only [↓vcp, vcs, vct, if_true, if_false, Nat.reduceBEq, ↓reduceIte, Nat.reduceEqDiff, Nat.reduceAdd, Nat.reduceMul, Nat.reduceSub, Int.reduceToNat, reduceCtorEq, Nat.reduceLT, Nat.reduceLeDiff, Int.reduceSub, Int.reduceAdd, Int.reduceNeg, Sat.look hs, Sat.lookA hs, hs.old hb1, tmod_lit, e1, e2, e3, e3', e4, e5]) | (refine khK he hs ?_; clear he; intro he) | ((first | refine stK hs ?_ | refine stFK hs ?_ | refine stAK hs ?_ | refine msK hs ?_); clear hs; (try clear w); rintro w hs; try simp only [cls] at hs) | ((first | refine al_ok hs ?_ | refine bx_ok hs ?_ | refine bsvK hs ?_ | refine bs1_ok hs ?_ | refine bs0_ok hs ?_); clear hs; (try clear w); rintro _ w hs; try simp only [cls] at hs)))
      exact ⟨j, by (show _ = [_, Value.int .u64 (dec _)]; rw [hq]; rfl), by rfl, ⟨by omega, hs⟩, by dsimp only; omega⟩
/-- both readings of the same bytes tell the same -/
theorem reads_calls (w0 : World) (a b : Option Addr) (c d : Nat) (xs : List UInt8) (ha : Ro (.at w0) a (xs.map u8v)) (hy : Ro (.at w0) b (xs.map u8v)) (hc : xs.length ≤ c) (hd : xs.length ≤ d) (hn : xs.length ≤ 140737488355328) :
    Calls Try.prog 22 #[.slice a xs.length c, .slice b xs.length d] w0 fun e w' => e = .returned (.bool true) ∧ Below w0.heap.size w0 w' := by
  refine calls_vc Try.func22 rfl (by kernel_rfl) (by kernel_rfl) ?_; intro R hR
  have hs := Sat.start w0
  (repeat (first | (simp (disch := first | omega | assumption | exact Option.isSome_some | (simp only [adO_isSome]; assumption)) only [↓vcp, vcs, vct, if_true, if_false, Nat.reduceBEq, ↓reduceIte, Nat.reduceEqDiff, Nat.reduceAdd, Nat.reduceMul, Nat.reduceSub, Int.reduceToNat, reduceCtorEq, Nat.reduceLT, Nat.reduceLeDiff, Int.reduceSub, Int.reduceAdd, Int.reduceNeg, Sat.look hs, Sat.lookA hs]) | (refine khK he hs ?_; clear he; intro he) | ((first | refine stK hs ?_ | refine stFK hs ?_ | refine stAK hs ?_ | refine msK hs ?_); clear hs; (try clear w); rintro w hs; try simp only [cls] at hs) | ((first | refine al_ok hs ?_ | refine bx_ok hs ?_ | refine bsvK hs ?_ | refine bs1_ok hs ?_ | refine bs0_ok hs ?_); clear hs; (try clear w); rintro _ w hs; try simp only [cls] at hs) | (refine call_ok (by kernel_rfl) (Read_calls w0 w0.heap.size a c xs (ha.rd (Sat.start w0)) hn) ?_; rintro _ _ ⟨rfl, rfl⟩; rw [callK_ret]) | (refine call_still (by kernel_rfl) (Read_calls w0 w0.heap.size a c xs (ha.rd (Sat.start w0)) hn) ?_)))
  refine call_ok (by kernel_rfl) (RRead_calls w0 b d xs hy hd hn) ?_; rintro _ w2 ⟨rfl, hb⟩; rw [callK_ret]; replace hs := Sat.add hs (Below.sat hb); clear hb; (try clear w); rename World => w; try simp only [cls] at hs
  (repeat (first | (simp (disch := first | omega | assumption | exact Option.isSome_some | (simp only [adO_isSome]; assumption)) only [↓vcp, vcs, vct, if_true, if_false, Nat.reduceBEq, ↓reduceIte, Nat.reduceEqDiff, Nat.reduceAdd, Nat.reduceMul, Nat.reduceSub, Int.reduceToNat, reduceCtorEq, Nat.reduceLT, Nat.reduceLeDiff, Int.reduceSub, Int.reduceAdd, Int.reduceNeg, Sat.look hs, Sat.lookA hs]) | (refine khK he hs ?_; clear he; intro he) | ((first | refine stK hs ?_ | refine stFK hs ?_ | refine stAK hs ?_ | refine msK hs ?_); clear hs; (try clear w); rintro w hs; try simp only [cls] at hs) | ((first | refine al_ok hs ?_ | refine bx_ok hs ?_ | refine bsvK hs ?_ | refine bs1_ok hs ?_ | refine bs0_ok hs ?_); clear hs; (try clear w); rintro _ w hs; try simp only [cls] at hs) | (refine call_ok (by kernel_rfl) (num_calls _ _) ?_; rintro _ _ ⟨rfl, rfl⟩; rw [callK_ret]) | (refine call_still (by kernel_rfl) (num_calls _ _) ?_)))
  exact ret_tmp rfl (hR _ _ ⟨rfl, hs.belowAt⟩)
end Go.Proofs.Ytinnfbhdafkogaa.Varint
