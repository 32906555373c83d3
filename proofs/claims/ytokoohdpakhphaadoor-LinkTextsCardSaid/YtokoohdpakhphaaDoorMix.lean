/- One block changes the program's hash. -/
import Derived.Test.YtokoohdpakhphaaDoorRounds
import Derived.Test.YtokoohdpakhphaaDoorNums
namespace Go.Proofs.YtokoohdpakhphaaDoor.Sha
open Go VC Go.RowKit
set_option linter.unusedSimpArgs false
set_option maxRecDepth 20000
set_option maxHeartbeats 4000000
theorem shl_lit (k : IntKind) (hk : k.signed = false) (a b : Nat) (h : b ≤ k.bits) : Shl k (a : Int) (no_index (@OfNat.ofNat Int b instOfNat)) = ((a * 2 ^ (@OfNat.ofNat Nat b (instOfNatNat b)) % 2 ^ k.bits : Nat) : Int) := Shl_u k hk a b h
theorem word_or (l : List UInt8) (p : Nat) (b0 b1 b2 b3 : UInt8) (h0 : l.getD p 0 = b0) (h1 : l.getD (p + 1) 0 = b1) (h2 : l.getD (p + 2) 0 = b2) (h3 : l.getD (p + 3) 0 = b3) :
    Bor .u32 (Bor .u32 (Bor .u32 (Shl .u32 (b0.toNat : Int) 24) (Shl .u32 (b1.toNat : Int) 16)) (Shl .u32 (b2.toNat : Int) 8)) (b3.toNat : Int) = ((word l p).toNat : Int) := by
  have l0 := b0.toNat_lt
  have l1 := b1.toNat_lt
  have l2 := b2.toNat_lt
  have l3 := b3.toNat_lt
  have o : ∀ x y n : Nat, y < 2 ^ n → x * 2 ^ n ||| y = x * 2 ^ n + y := fun x y n h => by
    rw [← Nat.shiftLeft_eq, Nat.shiftLeft_add_eq_or_of_lt h]
  rw [shl_lit .u32 rfl _ 24 (by decide), shl_lit .u32 rfl _ 16 (by decide), shl_lit .u32 rfl _ 8 (by decide)]
  simp only [bits32]
  rw [Nat.mod_eq_of_lt (show b0.toNat * 2 ^ 24 < 2 ^ 32 by omega), Nat.mod_eq_of_lt (show b1.toNat * 2 ^ 16 < 2 ^ 32 by omega), Nat.mod_eq_of_lt (show b2.toNat * 2 ^ 8 < 2 ^ 32 by omega)]
  rw [Bor_u .u32 rfl _ _ (by rw [bits32]; omega) (by rw [bits32]; omega), o _ _ 24 (by omega)]
  rw [Bor_u .u32 rfl _ _ (by rw [bits32]; omega) (by rw [bits32]; omega)]
  rw [show b0.toNat * 2 ^ 24 + b1.toNat * 2 ^ 16 = (b0.toNat * 2 ^ 8 + b1.toNat) * 2 ^ 16 by omega, o _ _ 16 (by omega)]
  rw [Bor_u .u32 rfl _ _ (by rw [bits32]; omega) (by rw [bits32]; omega)]
  rw [show (b0.toNat * 2 ^ 8 + b1.toNat) * 2 ^ 16 + b2.toNat * 2 ^ 8 = ((b0.toNat * 2 ^ 8 + b1.toNat) * 2 ^ 8 + b2.toNat) * 2 ^ 8 by omega, o _ _ 8 (by omega)]
  unfold word
  rw [h0, h1, h2, h3, UInt32.toNat_ofNat', Nat.mod_eq_of_lt (by omega)]
  congr 1
  omega
theorem mix_calls (S : Cx) (w0 : World) (hb : Nat) (s : St) (rest : List Value) (a : Option Addr) (c : Nat) (xs : List UInt8)
    (hs0 : Sat S [.bk hb (s.list.map u32v ++ rest) 114] w0) (hG : Ro (.at w0) (some ⟨1, 0, none⟩) (factors.map u32v)) (hx : Ro (.at w0) a (xs.map u8v)) (hl : xs.length = 64) :
    Calls Tryd.prog 77 #[.pointer (some ⟨hb, 0, none⟩), .slice a 64 c] w0 fun e w' => ∃ H, e = .returned (.tuple #[]) ∧ Sat S (.bk hb ((block s xs).list.map u32v ++ rest) 114 :: H) w' := by
  refine calls_vc Tryd.func77 rfl (by kernel_rfl) (by kernel_rfl) ?_; intro R hR
  have hs := Sat.start w0
  (repeat (first | (simp (disch := first | omega | assumption | exact Option.isSome_some | (simp only [adO_isSome]; assumption)) only [↓vcp, vcs, vct, if_true, if_false, Nat.reduceBEq, ↓reduceIte, Nat.reduceEqDiff, Nat.reduceAdd, Nat.reduceMul, Nat.reduceSub, Int.reduceToNat, reduceCtorEq, Nat.reduceLT, Nat.reduceLeDiff, Int.reduceSub, Int.reduceAdd, Int.reduceNeg, Sat.look hs, Sat.lookA hs]) | (refine khK he hs ?_; clear he; intro he) | ((first | refine stK hs ?_ | refine stFK hs ?_ | refine stAK hs ?_ | refine msK hs ?_); clear hs; (try clear w); rintro w hs; try simp only [cls] at hs) | ((first | refine al_ok hs ?_ | refine bx_ok hs ?_ | refine bsvK hs ?_ | refine bs1_ok hs ?_ | refine bs0_ok hs ?_); clear hs; (try clear w); rintro _ w hs; try simp only [cls] at hs)))
  rename_i wb
  generalize hm : words xs = m at *
  have ha : a.isSome = true := hx.isSome (by simp; omega)
  have hc8 : ∀ w H, Sat (.at w0) H w → cellsO w (some ⟨hb, 0, none⟩) 8 = some (s.list.map u32v) := fun w H hs => by
    have h1 : Ro (.at w0) (some ⟨hb, 0, none⟩) (s.list.map u32v ++ rest) := Rd.ro (hs0.rdBk 0 rfl)
    have h2 := h1.take 8
    exact Ro.cells (xs := s.list.map u32v) h2 hs (by simp [St.list])
  have hc64 : ∀ w H, Sat (.at w0) H w → cellsO w (some ⟨1, 0, none⟩) 64 = some (factors.map u32v) := fun w H hs => Ro.cells hG hs (by simp [factors])
  have hw0 : wsAt m 0 = List.replicate 64 (.int .u32 0) := rfl
  refine loop_rule (σ := Nat) [17] (fun i => [.int .i64 i]) [0, 1, 4] (fun i w' => i ≤ 16 ∧ Sat (.at w0) [.bk wb (wsAt m i) 128] w') (fun i _ => 16 - i) 0 (by kernel_rfl) rfl ⟨by omega, hs⟩ ?_
  clear hs
  rintro b i w ⟨hi, hs⟩
  simp (disch := first | omega | assumption | exact Option.isSome_some | (simp only [adO_isSome]; assumption)) only [↓vcp, vcs, vct, if_true, if_false, Nat.reduceBEq, ↓reduceIte, Nat.reduceEqDiff, Nat.reduceAdd, Nat.reduceMul, Nat.reduceSub, Int.reduceToNat, reduceCtorEq, Nat.reduceLT, Nat.reduceLeDiff, Int.reduceSub, Int.reduceAdd, Int.reduceNeg, Sat.look hs, Sat.lookA hs]
  by_cases hlt : i < 16
  case pos =>
    have hby : ∀ j, j < 4 → oldO (.at w0) (adO a (4 * i + j)) = some (.int .u8 (xs.getD (4 * i + j) 0).toNat) := fun j hj => hx _ _ (by
      rw [List.getElem?_map, List.getElem?_eq_getElem (by omega), List.getD_eq_getElem?_getD, List.getElem?_eq_getElem (by omega)]; rfl)
    have f0 := hby 0 (by omega)
    rw [Nat.add_zero] at f0
    have e0 : (4 * (i : Int)).toNat = 4 * i := by omega
    have e1 : (4 * (i : Int) + 1).toNat = 4 * i + 1 := by omega
    have e2 : (4 * (i : Int) + 2).toNat = 4 * i + 2 := by omega
    have e3 : (4 * (i : Int) + 3).toNat = 4 * i + 3 := by omega
    have hwl := wsAt_len m i
    have hwo := word_or xs (4 * i) _ _ _ _ rfl rfl rfl rfl
    have hset := wsAt_set m (i := i) (by omega)
    have hsc : sched m i = word xs (4 * i) := by rw [sched_small hlt, ← hm, words_get _ hlt]
    have b0 := (xs.getD (4 * i) 0).toNat_lt
    have b1 := (xs.getD (4 * i + 1) 0).toNat_lt
    have b2 := (xs.getD (4 * i + 2) 0).toNat_lt
    have b3 := (xs.getD (4 * i + 3) 0).toNat_lt
    (repeat (first | (simp (disch := first | omega | assumption | exact Option.isSome_some | (simp only [adO_isSome]; assumption)) only [↓vcp, vcs, vct, if_true, if_false, Nat.reduceBEq, ↓reduceIte, Nat.reduceEqDiff, Nat.reduceAdd, Nat.reduceMul, Nat.reduceSub, Int.reduceToNat, reduceCtorEq, Nat.reduceLT, Nat.reduceLeDiff, Int.reduceSub, Int.reduceAdd, Int.reduceNeg, Sat.look hs, Sat.lookA hs]) | (refine khK he hs ?_; clear he; intro he) | ((first | refine stK hs ?_ | refine stFK hs ?_ | refine stAK hs ?_ | refine msK hs ?_); clear hs; (try clear w); rintro w hs; try simp only [cls] at hs) | ((first | refine al_ok hs ?_ | refine bx_ok hs ?_ | refine bsvK hs ?_ | refine bs1_ok hs ?_ | refine bs0_ok hs ?_); clear hs; (try clear w); rintro _ w hs; try simp only [cls] at hs)))
    refine draw_still 35 (by kernel_rfl) (by kernel_rfl) (by kernel_rfl) ?_
    replace hs := Sat.drew hs; revert hs; generalize World.drew _ = w; intro hs
    (repeat (first | (simp (disch := first | omega | assumption | exact Option.isSome_some | (simp only [adO_isSome]; assumption)) only [↓vcp, vcs, vct, if_true, if_false, Nat.reduceBEq, ↓reduceIte, Nat.reduceEqDiff, Nat.reduceAdd, Nat.reduceMul, Nat.reduceSub, Int.reduceToNat, reduceCtorEq, Nat.reduceLT, Nat.reduceLeDiff, Int.reduceSub, Int.reduceAdd, Int.reduceNeg, Sat.look hs, Sat.lookA hs, e0, e1, e2, e3, hs.old f0, hs.old (hby 1 (by omega)), hs.old (hby 2 (by omega)), hs.old (hby 3 (by omega)), hwo]) | (refine khK he hs ?_; clear he; intro he) | ((first | refine stK hs ?_ | refine stFK hs ?_ | refine stAK hs ?_ | refine msK hs ?_); clear hs; (try clear w); rintro w hs; try simp only [cls] at hs) | ((first | refine al_ok hs ?_ | refine bx_ok hs ?_ | refine bsvK hs ?_ | refine bs1_ok hs ?_ | refine bs0_ok hs ?_); clear hs; (try clear w); rintro _ w hs; try simp only [cls] at hs)))
    rw [← hsc, hset] at hs
    exact ⟨i + 1, by rfl, by rfl, ⟨by omega, hs⟩, by dsimp only; omega⟩
  case neg =>
    obtain rfl : i = 16 := by omega
    (repeat (first | (simp (disch := first | omega | assumption | exact Option.isSome_some | (simp only [adO_isSome]; assumption)) only [↓vcp, vcs, vct, if_true, if_false, Nat.reduceBEq, ↓reduceIte, Nat.reduceEqDiff, Nat.reduceAdd, Nat.reduceMul, Nat.reduceSub, Int.reduceToNat, reduceCtorEq, Nat.reduceLT, Nat.reduceLeDiff, Int.reduceSub, Int.reduceAdd, Int.reduceNeg, Sat.look hs, Sat.lookA hs]) | (refine khK he hs ?_; clear he; intro he) | ((first | refine stK hs ?_ | refine stFK hs ?_ | refine stAK hs ?_ | refine msK hs ?_); clear hs; (try clear w); rintro w hs; try simp only [cls] at hs) | ((first | refine al_ok hs ?_ | refine bx_ok hs ?_ | refine bsvK hs ?_ | refine bs1_ok hs ?_ | refine bs0_ok hs ?_); clear hs; (try clear w); rintro _ w hs; try simp only [cls] at hs)))
    refine loop_rule (σ := Nat) [6] (fun i => [.int .i64 i]) [0, 4] (fun i w' => 16 ≤ i ∧ i ≤ 64 ∧ Sat (.at w0) [.bk wb (wsAt m i) 128] w') (fun i _ => 64 - i) 16 (by kernel_rfl) rfl ⟨by omega, by omega, hs⟩ ?_
    clear hs
    rintro b i w ⟨hi1, hi, hs⟩
    simp (disch := first | omega | assumption | exact Option.isSome_some | (simp only [adO_isSome]; assumption)) only [↓vcp, vcs, vct, if_true, if_false, Nat.reduceBEq, ↓reduceIte, Nat.reduceEqDiff, Nat.reduceAdd, Nat.reduceMul, Nat.reduceSub, Int.reduceToNat, reduceCtorEq, Nat.reduceLT, Nat.reduceLeDiff, Int.reduceSub, Int.reduceAdd, Int.reduceNeg, Sat.look hs, Sat.lookA hs]
    by_cases hlt : i < 64
    case pos =>
      have hcast : ∀ d : Nat, d ≤ 16 → ((i : Int) - (d : Int)).toNat = i - d := fun d hd => by omega
      have hw : ∀ d : Nat, 0 < d → d ≤ 16 → (wsAt m i)[i - d]? = some (.int .u32 (sched m (i - d)).toNat) := fun d h0 hd => wsAt_get m (by omega) (by omega)
      have c15 := hcast 15 (by omega)
      have c2 := hcast 2 (by omega)
      have c7 := hcast 7 (by omega)
      have c16 := hcast 16 (by omega)
      simp only [Int.cast_ofNat_Int] at c15 c2 c7 c16
      have w15 := hw 15 (by omega) (by omega)
      have w2 := hw 2 (by omega) (by omega)
      have w7 := hw 7 (by omega) (by omega)
      have w16 := hw 16 (by omega) (by omega)
      have hwl := wsAt_len m i
      have hset := wsAt_set m hlt
      have hsum : sched m (i - 16) + (rotr (sched m (i - 15)) 7 ^^^ rotr (sched m (i - 15)) 18 ^^^ sched m (i - 15) >>> 3) + sched m (i - 7) + (rotr (sched m (i - 2)) 17 ^^^ rotr (sched m (i - 2)) 19 ^^^ sched m (i - 2) >>> 10) = sched m i := by
        rw [sched_big (t := i) (by omega)]
        rfl
      (repeat (first | (simp (disch := first | omega | assumption | exact Option.isSome_some | (simp only [adO_isSome]; assumption)) only [↓vcp, vcs, vct, if_true, if_false, Nat.reduceBEq, ↓reduceIte, Nat.reduceEqDiff, Nat.reduceAdd, Nat.reduceMul, Nat.reduceSub, Int.reduceToNat, reduceCtorEq, Nat.reduceLT, Nat.reduceLeDiff, Int.reduceSub, Int.reduceAdd, Int.reduceNeg, Sat.look hs, Sat.lookA hs]) | (refine khK he hs ?_; clear he; intro he) | ((first | refine stK hs ?_ | refine stFK hs ?_ | refine stAK hs ?_ | refine msK hs ?_); clear hs; (try clear w); rintro w hs; try simp only [cls] at hs) | ((first | refine al_ok hs ?_ | refine bx_ok hs ?_ | refine bsvK hs ?_ | refine bs1_ok hs ?_ | refine bs0_ok hs ?_); clear hs; (try clear w); rintro _ w hs; try simp only [cls] at hs)))
      refine draw_still 9 (by kernel_rfl) (by kernel_rfl) (by kernel_rfl) ?_
      replace hs := Sat.drew hs; revert hs; generalize World.drew _ = w; intro hs
      (repeat (first | (simp (disch := first | omega | assumption | exact Option.isSome_some | (simp only [adO_isSome]; assumption)) only [↓vcp, vcs, vct, if_true, if_false, Nat.reduceBEq, ↓reduceIte, Nat.reduceEqDiff, Nat.reduceAdd, Nat.reduceMul, Nat.reduceSub, Int.reduceToNat, reduceCtorEq, Nat.reduceLT, Nat.reduceLeDiff, Int.reduceSub, Int.reduceAdd, Int.reduceNeg, Sat.look hs, Sat.lookA hs, c15, c2, w15, w2]) | (refine khK he hs ?_; clear he; intro he) | ((first | refine stK hs ?_ | refine stFK hs ?_ | refine stAK hs ?_ | refine msK hs ?_); clear hs; (try clear w); rintro w hs; try simp only [cls] at hs) | ((first | refine al_ok hs ?_ | refine bx_ok hs ?_ | refine bsvK hs ?_ | refine bs1_ok hs ?_ | refine bs0_ok hs ?_); clear hs; (try clear w); rintro _ w hs; try simp only [cls] at hs)))
      refine draw_still 29 (by kernel_rfl) (by kernel_rfl) (by kernel_rfl) ?_
      replace hs := Sat.drew hs; revert hs; generalize World.drew _ = w; intro hs
      (repeat (first | (simp (disch := first | omega | assumption | exact Option.isSome_some | (simp only [adO_isSome]; assumption)) only [↓vcp, vcs, vct, if_true, if_false, Nat.reduceBEq, ↓reduceIte, Nat.reduceEqDiff, Nat.reduceAdd, Nat.reduceMul, Nat.reduceSub, Int.reduceToNat, reduceCtorEq, Nat.reduceLT, Nat.reduceLeDiff, Int.reduceSub, Int.reduceAdd, Int.reduceNeg, Sat.look hs, Sat.lookA hs, c7, c16, w7, w16, shr10, shr3, w32_xor, w32_add, hsum]) | (refine khK he hs ?_; clear he; intro he) | ((first | refine stK hs ?_ | refine stFK hs ?_ | refine stAK hs ?_ | refine msK hs ?_); clear hs; (try clear w); rintro w hs; try simp only [cls] at hs) | ((first | refine al_ok hs ?_ | refine bx_ok hs ?_ | refine bsvK hs ?_ | refine bs1_ok hs ?_ | refine bs0_ok hs ?_); clear hs; (try clear w); rintro _ w hs; try simp only [cls] at hs) | (refine call_ok (by kernel_rfl) (turnI _ _ _ (by omega) (by omega)) ?_; rintro _ _ ⟨rfl, rfl⟩; rw [callK_ret]) | (refine call_still (by kernel_rfl) (turnI _ _ _ (by omega) (by omega)) ?_)))
      rw [hset] at hs
      exact ⟨i + 1, by rfl, by rfl, ⟨by omega, by omega, hs⟩, by dsimp only; omega⟩
    case neg =>
      obtain rfl : i = 64 := by omega
      (repeat (first | (simp (disch := first | omega | assumption | exact Option.isSome_some | (simp only [adO_isSome]; assumption)) only [↓vcp, vcs, vct, if_true, if_false, Nat.reduceBEq, ↓reduceIte, Nat.reduceEqDiff, Nat.reduceAdd, Nat.reduceMul, Nat.reduceSub, Int.reduceToNat, reduceCtorEq, Nat.reduceLT, Nat.reduceLeDiff, Int.reduceSub, Int.reduceAdd, Int.reduceNeg, Sat.look hs, Sat.lookA hs, hc8 _ _ hs, hc64 _ _ hs]) | (refine khK he hs ?_; clear he; intro he) | ((first | refine stK hs ?_ | refine stFK hs ?_ | refine stAK hs ?_ | refine msK hs ?_); clear hs; (try clear w); rintro w hs; try simp only [cls] at hs) | ((first | refine al_ok hs ?_ | refine bx_ok hs ?_ | refine bsvK hs ?_ | refine bs1_ok hs ?_ | refine bs0_ok hs ?_); clear hs; (try clear w); rintro _ w hs; try simp only [cls] at hs)))
      rename_i sb
      refine loop_rule (σ := Nat) [102] (fun i => [.int .i64 i]) [0, 4, 9, 101] (fun i w' => i ≤ 64 ∧ Sat (.at w0) [.bk wb (wsAt m 64) 128, .bk sb (comp m s i).vals 109] w') (fun i _ => 64 - i) 0 (by kernel_rfl) rfl ⟨by omega, hs⟩ ?_
      clear hs
      rintro b i w ⟨hi, hs⟩
      simp (disch := first | omega | assumption | exact Option.isSome_some | (simp only [adO_isSome]; assumption)) only [↓vcp, vcs, vct, if_true, if_false, Nat.reduceBEq, ↓reduceIte, Nat.reduceEqDiff, Nat.reduceAdd, Nat.reduceMul, Nat.reduceSub, Int.reduceToNat, reduceCtorEq, Nat.reduceLT, Nat.reduceLeDiff, Int.reduceSub, Int.reduceAdd, Int.reduceNeg, Sat.look hs, Sat.lookA hs]
      by_cases hlt : i < 64
      case pos =>
        have hf : (factors.map u32v).toArray[i]? = some (.int .u32 (factors.getD i 0).toNat) := by
          have h64 : factors.length = 64 := rfl
          rw [List.getElem?_toArray, List.getElem?_map, List.getElem?_eq_getElem (by omega), List.getD_eq_getElem?_getD, List.getElem?_eq_getElem (by omega)]
          rfl
        rw [List.getElem?_toArray] at hf
        have hwi := wsAt_get m (i := 64) (j := i) (by omega) hlt
        have hst : (step (comp m s i) (factors.getD i 0) (sched m i)).vals = (comp m s (i + 1)).vals := rfl
        generalize hcs : comp m s i = v at *
        obtain ⟨va, vb, vc', vd, ve, vf, vg, vh⟩ := v
        simp only [St.vals] at hs
        (repeat (first | (simp (disch := first | omega | assumption | exact Option.isSome_some | (simp only [adO_isSome]; assumption)) only [↓vcp, vcs, vct, if_true, if_false, Nat.reduceBEq, ↓reduceIte, Nat.reduceEqDiff, Nat.reduceAdd, Nat.reduceMul, Nat.reduceSub, Int.reduceToNat, reduceCtorEq, Nat.reduceLT, Nat.reduceLeDiff, Int.reduceSub, Int.reduceAdd, Int.reduceNeg, Sat.look hs, Sat.lookA hs, hf]) | (refine khK he hs ?_; clear he; intro he) | ((first | refine stK hs ?_ | refine stFK hs ?_ | refine stAK hs ?_ | refine msK hs ?_); clear hs; (try clear w); rintro w hs; try simp only [cls] at hs) | ((first | refine al_ok hs ?_ | refine bx_ok hs ?_ | refine bsvK hs ?_ | refine bs1_ok hs ?_ | refine bs0_ok hs ?_); clear hs; (try clear w); rintro _ w hs; try simp only [cls] at hs)))
        refine draw_still 5 (by kernel_rfl) (by kernel_rfl) (by kernel_rfl) ?_
        replace hs := Sat.drew hs; revert hs; generalize World.drew _ = w; intro hs
        (repeat (first | (simp (disch := first | omega | assumption | exact Option.isSome_some | (simp only [adO_isSome]; assumption)) only [↓vcp, vcs, vct, if_true, if_false, Nat.reduceBEq, ↓reduceIte, Nat.reduceEqDiff, Nat.reduceAdd, Nat.reduceMul, Nat.reduceSub, Int.reduceToNat, reduceCtorEq, Nat.reduceLT, Nat.reduceLeDiff, Int.reduceSub, Int.reduceAdd, Int.reduceNeg, Sat.look hs, Sat.lookA hs]) | (refine khK he hs ?_; clear he; intro he) | ((first | refine stK hs ?_ | refine stFK hs ?_ | refine stAK hs ?_ | refine msK hs ?_); clear hs; (try clear w); rintro w hs; try simp only [cls] at hs) | ((first | refine al_ok hs ?_ | refine bx_ok hs ?_ | refine bsvK hs ?_ | refine bs1_ok hs ?_ | refine bs0_ok hs ?_); clear hs; (try clear w); rintro _ w hs; try simp only [cls] at hs)))
        refine draw_still 28 (by kernel_rfl) (by kernel_rfl) (by kernel_rfl) ?_
        replace hs := Sat.drew hs; revert hs; generalize World.drew _ = w; intro hs
        (repeat (first | (simp (disch := first | omega | assumption | exact Option.isSome_some | (simp only [adO_isSome]; assumption)) only [↓vcp, vcs, vct, if_true, if_false, Nat.reduceBEq, ↓reduceIte, Nat.reduceEqDiff, Nat.reduceAdd, Nat.reduceMul, Nat.reduceSub, Int.reduceToNat, reduceCtorEq, Nat.reduceLT, Nat.reduceLeDiff, Int.reduceSub, Int.reduceAdd, Int.reduceNeg, Sat.look hs, Sat.lookA hs, hwi, w32_xor, w32_add, w32_and, w32_not]) | (refine khK he hs ?_; clear he; intro he) | ((first | refine stK hs ?_ | refine stFK hs ?_ | refine stAK hs ?_ | refine msK hs ?_); clear hs; (try clear w); rintro w hs; try simp only [cls] at hs) | ((first | refine al_ok hs ?_ | refine bx_ok hs ?_ | refine bsvK hs ?_ | refine bs1_ok hs ?_ | refine bs0_ok hs ?_); clear hs; (try clear w); rintro _ w hs; try simp only [cls] at hs) | (refine call_ok (by kernel_rfl) (turnI _ _ _ (by omega) (by omega)) ?_; rintro _ _ ⟨rfl, rfl⟩; rw [callK_ret]) | (refine call_still (by kernel_rfl) (turnI _ _ _ (by omega) (by omega)) ?_)))
        refine draw_still 24 (by kernel_rfl) (by kernel_rfl) (by kernel_rfl) ?_
        replace hs := Sat.drew hs; revert hs; generalize World.drew _ = w; intro hs
        (repeat (first | (simp (disch := first | omega | assumption | exact Option.isSome_some | (simp only [adO_isSome]; assumption)) only [↓vcp, vcs, vct, if_true, if_false, Nat.reduceBEq, ↓reduceIte, Nat.reduceEqDiff, Nat.reduceAdd, Nat.reduceMul, Nat.reduceSub, Int.reduceToNat, reduceCtorEq, Nat.reduceLT, Nat.reduceLeDiff, Int.reduceSub, Int.reduceAdd, Int.reduceNeg, Sat.look hs, Sat.lookA hs, w32_xor, w32_add, w32_and, w32_not]) | (refine khK he hs ?_; clear he; intro he) | ((first | refine stK hs ?_ | refine stFK hs ?_ | refine stAK hs ?_ | refine msK hs ?_); clear hs; (try clear w); rintro w hs; try simp only [cls] at hs) | ((first | refine al_ok hs ?_ | refine bx_ok hs ?_ | refine bsvK hs ?_ | refine bs1_ok hs ?_ | refine bs0_ok hs ?_); clear hs; (try clear w); rintro _ w hs; try simp only [cls] at hs) | (refine call_ok (by kernel_rfl) (turnI _ _ _ (by omega) (by omega)) ?_; rintro _ _ ⟨rfl, rfl⟩; rw [callK_ret]) | (refine call_still (by kernel_rfl) (turnI _ _ _ (by omega) (by omega)) ?_)))
        exact ⟨i + 1, by rfl, by rfl, ⟨by omega, by rw [← hst]; exact hs⟩, by dsimp only; omega⟩
      case neg =>
        obtain rfl : i = 64 := by omega
        (repeat (first | (simp (disch := first | omega | assumption | exact Option.isSome_some | (simp only [adO_isSome]; assumption)) only [↓vcp, vcs, vct, if_true, if_false, Nat.reduceBEq, ↓reduceIte, Nat.reduceEqDiff, Nat.reduceAdd, Nat.reduceMul, Nat.reduceSub, Int.reduceToNat, reduceCtorEq, Nat.reduceLT, Nat.reduceLeDiff, Int.reduceSub, Int.reduceAdd, Int.reduceNeg, Sat.look hs, Sat.lookA hs]) | (refine khK he hs ?_; clear he; intro he) | ((first | refine stK hs ?_ | refine stFK hs ?_ | refine stAK hs ?_ | refine msK hs ?_); clear hs; (try clear w); rintro w hs; try simp only [cls] at hs) | ((first | refine al_ok hs ?_ | refine bx_ok hs ?_ | refine bsvK hs ?_ | refine bs1_ok hs ?_ | refine bs0_ok hs ?_); clear hs; (try clear w); rintro _ w hs; try simp only [cls] at hs)))
        replace hs := hs0.add hs
        try simp only [cls] at hs
        refine loop_rule (σ := Nat) [181] (fun j => [.int .i64 j]) [0, 9] (fun j w' => j ≤ 8 ∧ Sat S [.bk hb (adv s (comp m s 64) j ++ rest) 114, .bk wb (wsAt m 64) 128, .bk sb (comp m s 64).vals 109] w') (fun j _ => 8 - j) 0 (by kernel_rfl) rfl ⟨by omega, hs⟩ ?_
        clear hs
        have hfin : adv s (comp m s 64) 8 = (block s xs).list.map u32v := by rw [← hm]; rfl
        generalize comp m s 64 = v at *
        obtain ⟨va, vb, vc', vd, ve, vf, vg, vh⟩ := v
        obtain ⟨sa, sb', sc, sd, se, sf, sg, sh⟩ := s
        rintro b j w ⟨hj, hs⟩
        simp only [St.vals] at hs
        obtain rfl | rfl | rfl | rfl | rfl | rfl | rfl | rfl | rfl : j = 0 ∨ j = 1 ∨ j = 2 ∨ j = 3 ∨ j = 4 ∨ j = 5 ∨ j = 6 ∨ j = 7 ∨ j = 8 := by omega
        rotate_right
        · rw [hfin] at hs
          simp (disch := first | omega | assumption | exact Option.isSome_some | (simp only [adO_isSome]; assumption)) only [↓vcp, vcs, vct, if_true, if_false, Nat.reduceBEq, ↓reduceIte, Nat.reduceEqDiff, Nat.reduceAdd, Nat.reduceMul, Nat.reduceSub, Int.reduceToNat, reduceCtorEq, Nat.reduceLT, Nat.reduceLeDiff, Int.reduceSub, Int.reduceAdd, Int.reduceNeg, Sat.look hs, Sat.lookA hs, Int.cast_ofNat_Int]
          exact ret_none rfl (hR _ _ ⟨_, rfl, hs⟩)
        all_goals
          simp only [adv, List.cons_append, List.nil_append] at hs
          (repeat (first | (simp (disch := first | omega | assumption | exact Option.isSome_some | (simp only [adO_isSome]; assumption)) only [↓vcp, vcs, vct, if_true, if_false, Nat.reduceBEq, ↓reduceIte, Nat.reduceEqDiff, Nat.reduceAdd, Nat.reduceMul, Nat.reduceSub, Int.reduceToNat, reduceCtorEq, Nat.reduceLT, Nat.reduceLeDiff, Int.reduceSub, Int.reduceAdd, Int.reduceNeg, Sat.look hs, Sat.lookA hs, Int.cast_ofNat_Int]) | (refine khK he hs ?_; clear he; intro he) | ((first | refine stK hs ?_ | refine stFK hs ?_ | refine stAK hs ?_ | refine msK hs ?_); clear hs; (try clear w); rintro w hs; try simp only [cls] at hs) | ((first | refine al_ok hs ?_ | refine bx_ok hs ?_ | refine bsvK hs ?_ | refine bs1_ok hs ?_ | refine bs0_ok hs ?_); clear hs; (try clear w); rintro _ w hs; try simp only [cls] at hs)))
          refine draw_still 13 (by kernel_rfl) (by kernel_rfl) (by kernel_rfl) ?_
          replace hs := Sat.drew hs; revert hs; generalize World.drew _ = w; intro hs
          (repeat (first | (simp (disch := first | omega | assumption | exact Option.isSome_some | (simp only [adO_isSome]; assumption)) only [↓vcp, vcs, vct, if_true, if_false, Nat.reduceBEq, ↓reduceIte, Nat.reduceEqDiff, Nat.reduceAdd, Nat.reduceMul, Nat.reduceSub, Int.reduceToNat, reduceCtorEq, Nat.reduceLT, Nat.reduceLeDiff, Int.reduceSub, Int.reduceAdd, Int.reduceNeg, Sat.look hs, Sat.lookA hs, Int.cast_ofNat_Int, w32_add]) | (refine khK he hs ?_; clear he; intro he) | ((first | refine stK hs ?_ | refine stFK hs ?_ | refine stAK hs ?_ | refine msK hs ?_); clear hs; (try clear w); rintro w hs; try simp only [cls] at hs) | ((first | refine al_ok hs ?_ | refine bx_ok hs ?_ | refine bsvK hs ?_ | refine bs1_ok hs ?_ | refine bs0_ok hs ?_); clear hs; (try clear w); rintro _ w hs; try simp only [cls] at hs)))
        · exact ⟨1, by rfl, by rfl, ⟨by omega, hs⟩, by dsimp only; omega⟩
        · exact ⟨2, by rfl, by rfl, ⟨by omega, hs⟩, by dsimp only; omega⟩
        · exact ⟨3, by rfl, by rfl, ⟨by omega, hs⟩, by dsimp only; omega⟩
        · exact ⟨4, by rfl, by rfl, ⟨by omega, hs⟩, by dsimp only; omega⟩
        · exact ⟨5, by rfl, by rfl, ⟨by omega, hs⟩, by dsimp only; omega⟩
        · exact ⟨6, by rfl, by rfl, ⟨by omega, hs⟩, by dsimp only; omega⟩
        · exact ⟨7, by rfl, by rfl, ⟨by omega, hs⟩, by dsimp only; omega⟩
        · exact ⟨8, by rfl, by rfl, ⟨by omega, hs⟩, by dsimp only; omega⟩
end Go.Proofs.YtokoohdpakhphaaDoor.Sha
