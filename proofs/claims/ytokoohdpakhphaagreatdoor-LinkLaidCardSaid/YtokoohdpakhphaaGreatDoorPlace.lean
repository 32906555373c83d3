/- Bytes laid at one place again and again. -/
import Derived.Test.YtokoohdpakhphaaGreatDoorLoan
namespace Go.Proofs.YtokoohdpakhphaaGreatDoor.Loan
open Go VC Go.RowKit
set_option linter.unusedSimpArgs false
set_option maxRecDepth 20000
set_option maxHeartbeats 4000000
/-- what a place is made of: itself, its two lists, the bytes that lie there -/
structure PlG where
  oa : Option Addr
  oc : Nat
  outs : List Value
  ia : Option Addr
  ic : Nat
  xa : Option Addr
  xc : Nat
  /-- nothing has been laid yet -/
  new : Bool
def PlG.ins (g : PlG) (n : Nat) : List Value := if g.new then [] else [.slice g.xa n g.xc]
def PlG.cks (g : PlG) (pb : Nat) (xs : List UInt8) : List Ck :=
  [.bk pb [.slice g.oa g.outs.length g.oc, .slice g.ia (g.ins xs.length).length g.ic] 55, .sl g.oa g.oc g.outs 56 1, .sl g.ia g.ic (g.ins xs.length) 56 1, .sl g.xa g.xc (xs.map u8v) 5 1]
theorem Rows_calls (S : Cx) (w0 : World) (pb : Nat) (g : PlG) (ys : List UInt8) (lb : Option Addr) (a : Option Addr) (c : Nat) (xs : List UInt8) (hs : Sat S (g.cks pb ys) w0) (hg : g.new = true → g.xa = none ∧ g.xc = 0) (hlb : Ro S lb [.slice a xs.length c]) (hx : Ro S a (xs.map u8v)) (hl : xs.length ≤ 140737488351232) :
    Calls Tryz.prog 30 #[.pointer (some ⟨pb, 0, none⟩), .slice lb 1 1] w0 fun e w' => ∃ (g' : PlG) (H : List Ck), e = .returned (.slice g'.oa 1 g'.oc) ∧ g'.new = false ∧ g'.outs = [.slice g'.xa xs.length g'.xc] ∧ xs.length ≤ g'.xc ∧ Sat S (g'.cks pb xs ++ H) w' := by
  refine calls_vc Tryz.func30 rfl (by kernel_rfl) (by kernel_rfl) ?_; intro R hR
  unfold PlG.cks at hs
  have hlbs : lb.isSome = true := hlb.isSome (by simp)
  have hlc := hlb 0 _ rfl
  (repeat (first | (simp (disch := first | omega | assumption | exact Option.isSome_some | (simp only [adO_isSome]; assumption)) only [↓vcp, vcs, vct, if_true, if_false, Nat.reduceBEq, ↓reduceIte, Nat.reduceEqDiff, Nat.reduceAdd, Nat.reduceMul, Nat.reduceSub, Int.reduceToNat, reduceCtorEq, Nat.reduceLT, Nat.reduceLeDiff, Int.reduceSub, Int.reduceAdd, Int.reduceNeg, Sat.look hs, Sat.lookA hs]) | (refine khK he hs ?_; clear he; intro he) | ((first | refine stK hs ?_ | refine stFK hs ?_ | refine stAK hs ?_ | refine msK hs ?_); clear hs; (try clear w); rintro w hs; try simp only [cls] at hs) | ((first | refine al_ok hs ?_ | refine bx_ok hs ?_ | refine bsvK hs ?_ | refine bs1_ok hs ?_ | refine bs0_ok hs ?_); clear hs; (try clear w); rintro _ w hs; try simp only [cls] at hs)))
  replace hs := hs.trunc 1 0 rfl
  replace hs := hs.trunc 3 0 rfl
  simp only [List.set_cons_succ, List.set_cons_zero, List.take_zero] at hs
  refine loop_rule (σ := Nat × PlG × List Ck) [5] (fun x => [.int .i64 x.1]) [0, 1] (fun x w' => (x.1 = 0 ∧ Sat S [.bk pb [.slice g.oa 0 g.oc, .slice g.ia (g.ins ys.length).length g.ic] 55, .sl g.oa g.oc [] 56 1, .sl g.ia g.ic (g.ins ys.length) 56 1, .sl g.xa g.xc [] 5 1] w') ∨
    (x.1 = 1 ∧ x.2.1.new = false ∧ x.2.1.outs = [.slice x.2.1.xa xs.length x.2.1.xc] ∧ xs.length ≤ x.2.1.xc ∧ Sat S (x.2.1.cks pb xs ++ x.2.2) w')) (fun x _ => 1 - x.1) (0, g, []) (by kernel_rfl) rfl (.inl ⟨rfl, hs⟩) ?_
  clear hs
  rintro e ⟨i, g', H⟩ w hi
  dsimp only at hi ⊢
  rcases hi with ⟨rfl, hs⟩ | ⟨rfl, h1, h2, h3, hs⟩
  · (repeat (first | (simp (disch := first | omega | assumption | exact Option.isSome_some | (simp only [adO_isSome]; assumption)) only [↓vcp, vcs, vct, if_true, if_false, Nat.reduceBEq, ↓reduceIte, Nat.reduceEqDiff, Nat.reduceAdd, Nat.reduceMul, Nat.reduceSub, Int.reduceToNat, reduceCtorEq, Nat.reduceLT, Nat.reduceLeDiff, Int.reduceSub, Int.reduceAdd, Int.reduceNeg, Sat.look hs, Sat.lookA hs, hs.old hlc]) | (refine khK he hs ?_; clear he; intro he) | ((first | refine stK hs ?_ | refine stFK hs ?_ | refine stAK hs ?_ | refine msK hs ?_); clear hs; (try clear w); rintro w hs; try simp only [cls] at hs) | ((first | refine al_ok hs ?_ | refine bx_ok hs ?_ | refine bsvK hs ?_ | refine bs1_ok hs ?_ | refine bs0_ok hs ?_); clear hs; (try clear w); rintro _ w hs; try simp only [cls] at hs)))
    refine cond_join (σ := Option Addr × Nat × Nat × List Ck) [] (fun _ => []) [0, 1, 5] (fun x w' => Sat S (.bk pb [.slice g.oa 0 g.oc, .slice x.1 1 x.2.1] 55 :: .sl g.oa g.oc [] 56 1 :: .sl x.1 x.2.1 [.slice g.xa x.2.2.1 g.xc] 56 1 :: .sl g.xa g.xc [] 5 1 :: x.2.2.2) w') ?_ ?_
    · by_cases hn : g.new = true
      · obtain ⟨hxa, hxc⟩ := hg hn
        simp only [PlG.ins, hn, if_true, List.length_nil] at hs ⊢
        (repeat (first | (simp (disch := first | omega | assumption | exact Option.isSome_some | (simp only [adO_isSome]; assumption)) only [↓vcp, vcs, vct, if_true, if_false, Nat.reduceBEq, ↓reduceIte, Nat.reduceEqDiff, Nat.reduceAdd, Nat.reduceMul, Nat.reduceSub, Int.reduceToNat, reduceCtorEq, Nat.reduceLT, Nat.reduceLeDiff, Int.reduceSub, Int.reduceAdd, Int.reduceNeg, Sat.look hs, Sat.lookA hs, hs.old hlc]) | (refine khK he hs ?_; clear he; intro he) | ((first | refine stK hs ?_ | refine stFK hs ?_ | refine stAK hs ?_ | refine msK hs ?_); clear hs; (try clear w); rintro w hs; try simp only [cls] at hs) | ((first | refine al_ok hs ?_ | refine bx_ok hs ?_ | refine bsvK hs ?_ | refine bs1_ok hs ?_ | refine bs0_ok hs ?_); clear hs; (try clear w); rintro _ w hs; try simp only [cls] at hs)))
        refine apK 1 hs (hs.rd) ?_; clear hs; (try clear w); rintro ia1 ic1 w hc1 hs; try simp only [cls] at hs
        (repeat (first | (simp (disch := first | omega | assumption | exact Option.isSome_some | (simp only [adO_isSome]; assumption)) only [↓vcp, vcs, vct, if_true, if_false, Nat.reduceBEq, ↓reduceIte, Nat.reduceEqDiff, Nat.reduceAdd, Nat.reduceMul, Nat.reduceSub, Int.reduceToNat, reduceCtorEq, Nat.reduceLT, Nat.reduceLeDiff, Int.reduceSub, Int.reduceAdd, Int.reduceNeg, Sat.look hs, Sat.lookA hs]) | (refine khK he hs ?_; clear he; intro he) | ((first | refine stK hs ?_ | refine stFK hs ?_ | refine stAK hs ?_ | refine msK hs ?_); clear hs; (try clear w); rintro w hs; try simp only [cls] at hs) | ((first | refine al_ok hs ?_ | refine bx_ok hs ?_ | refine bsvK hs ?_ | refine bs1_ok hs ?_ | refine bs0_ok hs ?_); clear hs; (try clear w); rintro _ w hs; try simp only [cls] at hs)))
        exact ⟨(ia1, ic1, 0, [_]), by rfl, by rfl, by rw [hxa, hxc] at hs ⊢; exact hs⟩
      · simp only [Bool.not_eq_true] at hn
        simp only [PlG.ins, hn, Bool.false_eq_true, if_false, List.length_cons, List.length_nil] at hs ⊢
        (repeat (first | (simp (disch := first | omega | assumption | exact Option.isSome_some | (simp only [adO_isSome]; assumption)) only [↓vcp, vcs, vct, if_true, if_false, Nat.reduceBEq, ↓reduceIte, Nat.reduceEqDiff, Nat.reduceAdd, Nat.reduceMul, Nat.reduceSub, Int.reduceToNat, reduceCtorEq, Nat.reduceLT, Nat.reduceLeDiff, Int.reduceSub, Int.reduceAdd, Int.reduceNeg, Sat.look hs, Sat.lookA hs]) | (refine khK he hs ?_; clear he; intro he) | ((first | refine stK hs ?_ | refine stFK hs ?_ | refine stAK hs ?_ | refine msK hs ?_); clear hs; (try clear w); rintro w hs; try simp only [cls] at hs) | ((first | refine al_ok hs ?_ | refine bx_ok hs ?_ | refine bsvK hs ?_ | refine bs1_ok hs ?_ | refine bs0_ok hs ?_); clear hs; (try clear w); rintro _ w hs; try simp only [cls] at hs)))
        exact ⟨(g.ia, g.ic, ys.length, []), by rfl, by rfl, hs⟩
    · clear hs
      rintro b ⟨ia, ic, n, H1⟩ w hs
      dsimp only at hs ⊢
      have hia : ia.isSome = true := hs.isSome (by simp)
      (repeat (first | (simp (disch := first | omega | assumption | exact Option.isSome_some | (simp only [adO_isSome]; assumption)) only [↓vcp, vcs, vct, if_true, if_false, Nat.reduceBEq, ↓reduceIte, Nat.reduceEqDiff, Nat.reduceAdd, Nat.reduceMul, Nat.reduceSub, Int.reduceToNat, reduceCtorEq, Nat.reduceLT, Nat.reduceLeDiff, Int.reduceSub, Int.reduceAdd, Int.reduceNeg, Sat.look hs, Sat.lookA hs]) | (refine khK he hs ?_; clear he; intro he) | ((first | refine stK hs ?_ | refine stFK hs ?_ | refine stAK hs ?_ | refine msK hs ?_); clear hs; (try clear w); rintro w hs; try simp only [cls] at hs) | ((first | refine al_ok hs ?_ | refine bx_ok hs ?_ | refine bsvK hs ?_ | refine bs1_ok hs ?_ | refine bs0_ok hs ?_); clear hs; (try clear w); rintro _ w hs; try simp only [cls] at hs)))
      refine draw_still 12 (by kernel_rfl) (by kernel_rfl) (by kernel_rfl) ?_
      replace hs := Sat.drew hs; revert hs; generalize World.drew _ = w; intro hs
      (repeat (first | (simp (disch := first | omega | assumption | exact Option.isSome_some | (simp only [adO_isSome]; assumption)) only [↓vcp, vcs, vct, if_true, if_false, Nat.reduceBEq, ↓reduceIte, Nat.reduceEqDiff, Nat.reduceAdd, Nat.reduceMul, Nat.reduceSub, Int.reduceToNat, reduceCtorEq, Nat.reduceLT, Nat.reduceLeDiff, Int.reduceSub, Int.reduceAdd, Int.reduceNeg, Sat.look hs, Sat.lookA hs, hs.old hlc]) | (refine khK he hs ?_; clear he; intro he) | ((first | refine stK hs ?_ | refine stFK hs ?_ | refine stAK hs ?_ | refine msK hs ?_); clear hs; (try clear w); rintro w hs; try simp only [cls] at hs) | ((first | refine al_ok hs ?_ | refine bx_ok hs ?_ | refine bsvK hs ?_ | refine bs1_ok hs ?_ | refine bs0_ok hs ?_); clear hs; (try clear w); rintro _ w hs; try simp only [cls] at hs)))
      refine apK (xs.length) hs (hx.rd hs) ?_; clear hs; (try clear w); rintro xa1 xc1 w hc1 hs; try simp only [cls] at hs
      rw [Nat.zero_add] at hc1
      (repeat (first | (simp (disch := first | omega | assumption | exact Option.isSome_some | (simp only [adO_isSome]; assumption)) only [↓vcp, vcs, vct, if_true, if_false, Nat.reduceBEq, ↓reduceIte, Nat.reduceEqDiff, Nat.reduceAdd, Nat.reduceMul, Nat.reduceSub, Int.reduceToNat, reduceCtorEq, Nat.reduceLT, Nat.reduceLeDiff, Int.reduceSub, Int.reduceAdd, Int.reduceNeg, Sat.look hs, Sat.lookA hs]) | (refine khK he hs ?_; clear he; intro he) | ((first | refine stK hs ?_ | refine stFK hs ?_ | refine stAK hs ?_ | refine msK hs ?_); clear hs; (try clear w); rintro w hs; try simp only [cls] at hs) | ((first | refine al_ok hs ?_ | refine bx_ok hs ?_ | refine bsvK hs ?_ | refine bs1_ok hs ?_ | refine bs0_ok hs ?_); clear hs; (try clear w); rintro _ w hs; try simp only [cls] at hs)))
      refine apK 1 hs (hs.rd) ?_; clear hs; (try clear w); rintro oa1 oc1 w hc2 hs; try simp only [cls] at hs
      (repeat (first | (simp (disch := first | omega | assumption | exact Option.isSome_some | (simp only [adO_isSome]; assumption)) only [↓vcp, vcs, vct, if_true, if_false, Nat.reduceBEq, ↓reduceIte, Nat.reduceEqDiff, Nat.reduceAdd, Nat.reduceMul, Nat.reduceSub, Int.reduceToNat, reduceCtorEq, Nat.reduceLT, Nat.reduceLeDiff, Int.reduceSub, Int.reduceAdd, Int.reduceNeg, Sat.look hs, Sat.lookA hs]) | (refine khK he hs ?_; clear he; intro he) | ((first | refine stK hs ?_ | refine stFK hs ?_ | refine stAK hs ?_ | refine msK hs ?_); clear hs; (try clear w); rintro w hs; try simp only [cls] at hs) | ((first | refine al_ok hs ?_ | refine bx_ok hs ?_ | refine bsvK hs ?_ | refine bs1_ok hs ?_ | refine bs0_ok hs ?_); clear hs; (try clear w); rintro _ w hs; try simp only [cls] at hs)))
      try simp only [Nat.zero_add] at hs
      exact ⟨(1, ⟨oa1, oc1, [.slice xa1 xs.length xc1], ia, ic, xa1, xc1, false⟩, _), by rfl, by rfl, .inr ⟨rfl, rfl, rfl, hc1, by simpa [PlG.cks, PlG.ins] using hs⟩, by dsimp only; omega⟩
  · have hs' := hs
    unfold PlG.cks at hs
    rw [h2] at hs
    simp only [List.cons_append, List.nil_append, List.length_cons, List.length_nil, Nat.zero_add] at hs
    (repeat (first | (simp (disch := first | omega | assumption | exact Option.isSome_some | (simp only [adO_isSome]; assumption)) only [↓vcp, vcs, vct, if_true, if_false, Nat.reduceBEq, ↓reduceIte, Nat.reduceEqDiff, Nat.reduceAdd, Nat.reduceMul, Nat.reduceSub, Int.reduceToNat, reduceCtorEq, Nat.reduceLT, Nat.reduceLeDiff, Int.reduceSub, Int.reduceAdd, Int.reduceNeg, Sat.look hs, Sat.lookA hs]) | (refine khK he hs ?_; clear he; intro he) | ((first | refine stK hs ?_ | refine stFK hs ?_ | refine stAK hs ?_ | refine msK hs ?_); clear hs; (try clear w); rintro w hs; try simp only [cls] at hs) | ((first | refine al_ok hs ?_ | refine bx_ok hs ?_ | refine bsvK hs ?_ | refine bs1_ok hs ?_ | refine bs0_ok hs ?_); clear hs; (try clear w); rintro _ w hs; try simp only [cls] at hs)))
    exact ret_tmp rfl (hR _ _ ⟨g', H, rfl, h1, h2, h3, hs'⟩)
theorem Bytes_calls (S : Cx) (w0 : World) (pb : Nat) (g : PlG) (ys : List UInt8) (a : Option Addr) (c : Nat) (xs : List UInt8) (hs : Sat S (g.cks pb ys) w0) (hg : g.new = true → g.xa = none ∧ g.xc = 0 ∧ g.outs = []) (hx : Ro S a (xs.map u8v)) (hl : xs.length ≤ 140737488351232) :
    Calls Tryz.prog 13 #[.pointer (some ⟨pb, 0, none⟩), .slice a xs.length c] w0 fun e w' => ∃ (g' : PlG) (H : List Ck), e = .returned (.slice g'.xa xs.length g'.xc) ∧ g'.new = false ∧ xs.length ≤ g'.xc ∧ Sat S (g'.cks pb xs ++ H) w' := by
  refine calls_vc Tryz.func13 rfl (by kernel_rfl) (by kernel_rfl) ?_; intro R hR
  unfold PlG.cks at hs
  (repeat (first | (simp (disch := first | omega | assumption | exact Option.isSome_some | (simp only [adO_isSome]; assumption)) only [↓vcp, vcs, vct, if_true, if_false, Nat.reduceBEq, ↓reduceIte, Nat.reduceEqDiff, Nat.reduceAdd, Nat.reduceMul, Nat.reduceSub, Int.reduceToNat, reduceCtorEq, Nat.reduceLT, Nat.reduceLeDiff, Int.reduceSub, Int.reduceAdd, Int.reduceNeg, Sat.look hs, Sat.lookA hs]) | (refine khK he hs ?_; clear he; intro he) | ((first | refine stK hs ?_ | refine stFK hs ?_ | refine stAK hs ?_ | refine msK hs ?_); clear hs; (try clear w); rintro w hs; try simp only [cls] at hs) | ((first | refine al_ok hs ?_ | refine bx_ok hs ?_ | refine bsvK hs ?_ | refine bs1_ok hs ?_ | refine bs0_ok hs ?_); clear hs; (try clear w); rintro _ w hs; try simp only [cls] at hs)))
  replace hs : Sat S (g.cks pb ys ++ [.sl (some ⟨_, 0, none⟩) 1 [.slice a xs.length c] 56 1]) w := hs
  refine call_ok (by kernel_rfl) (Rows_calls _ w pb g ys _ a c xs hs.front (fun h => ⟨(hg h).1, (hg h).2.1⟩) hs.roF (hx.upF hs) hl) ?_; rintro e w' ⟨g', H, rfl, h1, h2, h3, hb⟩; rw [callK_ret]
  replace hs := hs.frame (List.Perm.refl _) hb
  have hs' := hs
  unfold PlG.cks at hs
  rw [h2] at hs
  simp only [List.cons_append, List.nil_append, List.length_cons, List.length_nil, Nat.zero_add, List.append_assoc] at hs hs'
  have hoa : g'.oa.isSome = true := hs.isSome (by simp)
  (repeat (first | (simp (disch := first | omega | assumption | exact Option.isSome_some | (simp only [adO_isSome]; assumption)) only [↓vcp, vcs, vct, if_true, if_false, Nat.reduceBEq, ↓reduceIte, Nat.reduceEqDiff, Nat.reduceAdd, Nat.reduceMul, Nat.reduceSub, Int.reduceToNat, reduceCtorEq, Nat.reduceLT, Nat.reduceLeDiff, Int.reduceSub, Int.reduceAdd, Int.reduceNeg, Sat.look hs, Sat.lookA hs]) | (refine khK he hs ?_; clear he; intro he) | ((first | refine stK hs ?_ | refine stFK hs ?_ | refine stAK hs ?_ | refine msK hs ?_); clear hs; (try clear w); rintro w hs; try simp only [cls] at hs) | ((first | refine al_ok hs ?_ | refine bx_ok hs ?_ | refine bsvK hs ?_ | refine bs1_ok hs ?_ | refine bs0_ok hs ?_); clear hs; (try clear w); rintro _ w hs; try simp only [cls] at hs)))
  exact ret_tmp rfl (hR _ _ ⟨g', _, rfl, h1, h3, hs'⟩)
end Go.Proofs.YtokoohdpakhphaaGreatDoor.Loan
