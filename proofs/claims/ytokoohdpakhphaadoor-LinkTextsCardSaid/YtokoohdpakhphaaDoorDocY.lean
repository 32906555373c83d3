/- Several texts in one. -/
import Derived.Test.YtokoohdpakhphaaDoorDocX
namespace Go.Proofs.YtokoohdpakhphaaDoor.Lnk
open Go VC Go.RowKit
set_option linter.unusedSimpArgs false
set_option linter.unusedVariables false
set_option maxRecDepth 20000
set_option maxHeartbeats 4000000
theorem of58_calls (w0 : World) (a : Option Addr) (c : Nat) (b : List UInt8) (hx : Ro (.at w0) a (b.map u8v)) (hl : b.length ≤ 1024) (h0 : b.head? ≠ some 0) :
    Calls Tryd.prog 37 #[.slice a b.length c] w0 fun e w' => e = .returned (.string ⟨(enc58 b).toArray⟩) ∧ Below w0.heap.size w0 w' := by
  refine calls_vc Tryd.func37 rfl (by kernel_rfl) (by kernel_rfl) ?_; intro R hR
  have hs := Sat.start w0
  (repeat (first | (simp (disch := first | omega | assumption | exact Option.isSome_some | (simp only [adO_isSome]; assumption)) only [↓vcp, vcs, vct, if_true, if_false, Nat.reduceBEq, ↓reduceIte, Nat.reduceEqDiff, Nat.reduceAdd, Nat.reduceMul, Nat.reduceSub, Int.reduceToNat, reduceCtorEq, Nat.reduceLT, Nat.reduceLeDiff, Int.reduceSub, Int.reduceAdd, Int.reduceNeg, Sat.look hs, Sat.lookA hs]) | (refine khK he hs ?_; clear he; intro he) | ((first | refine stK hs ?_ | refine stFK hs ?_ | refine stAK hs ?_ | refine msK hs ?_); clear hs; (try clear w); rintro w hs; try simp only [cls] at hs) | ((first | refine al_ok hs ?_ | refine bx_ok hs ?_ | refine bsvK hs ?_ | refine bs1_ok hs ?_ | refine bs0_ok hs ?_); clear hs; (try clear w); rintro _ w hs; try simp only [cls] at hs)))
  replace hs := Sat.nil hs 3 1; try simp only [cls] at hs
  replace hs := Sat.nil hs 5 1; try simp only [cls] at hs
  (repeat (first | (simp (disch := first | omega | assumption | exact Option.isSome_some | (simp only [adO_isSome]; assumption)) only [↓vcp, vcs, vct, if_true, if_false, Nat.reduceBEq, ↓reduceIte, Nat.reduceEqDiff, Nat.reduceAdd, Nat.reduceMul, Nat.reduceSub, Int.reduceToNat, reduceCtorEq, Nat.reduceLT, Nat.reduceLeDiff, Int.reduceSub, Int.reduceAdd, Int.reduceNeg, Sat.look hs, Sat.lookA hs]) | (refine khK he hs ?_; clear he; intro he) | ((first | refine stK hs ?_ | refine stFK hs ?_ | refine stAK hs ?_ | refine msK hs ?_); clear hs; (try clear w); rintro w hs; try simp only [cls] at hs) | ((first | refine al_ok hs ?_ | refine bx_ok hs ?_ | refine bsvK hs ?_ | refine bs1_ok hs ?_ | refine bs0_ok hs ?_); clear hs; (try clear w); rintro _ w hs; try simp only [cls] at hs)))
  refine loop_join (σ := Option Addr × Nat) 0 [3] (fun s => [.slice s.1 b.length s.2]) [2, 4] (fun s w' => VC.Sat (.at w0) [.sl s.1 s.2 ((nats b).map i64d) 3 1, .sl none 0 [] 5 1] w') ?_ ?_
  · refine loop_rule (σ := Nat × Option Addr × Nat) [5, 3] (fun s => [.int .i64 s.1, .slice s.2.1 s.1 s.2.2]) [0, 2, 4] (fun s w' => s.1 ≤ b.length ∧ VC.Sat (.at w0) [.sl s.2.1 s.2.2 ((nats (b.take s.1)).map i64d) 3 1, .sl none 0 [] 5 1] w') (fun s _ => b.length - s.1) (0, none, 0) (by kernel_rfl) (by rfl) ⟨Nat.zero_le _, hs⟩ ?_
    clear hs
    rintro e ⟨i, pa, pc⟩ w ⟨hi, hs⟩
    dsimp only at hi hs ⊢
    simp (disch := first | omega | assumption | exact Option.isSome_some | (simp only [adO_isSome]; assumption)) only [↓vcp, vcs, vct, if_true, if_false, Nat.reduceBEq, ↓reduceIte, Nat.reduceEqDiff, Nat.reduceAdd, Nat.reduceMul, Nat.reduceSub, Int.reduceToNat, reduceCtorEq, Nat.reduceLT, Nat.reduceLeDiff, Int.reduceSub, Int.reduceAdd, Int.reduceNeg, Sat.look hs, Sat.lookA hs]
    by_cases hlt : i < b.length
    case neg =>
      obtain rfl : i = b.length := by omega
      rw [List.take_length] at hs
      (repeat (first | (simp (disch := first | omega | assumption | exact Option.isSome_some | (simp only [adO_isSome]; assumption)) only [↓vcp, vcs, vct, if_true, if_false, Nat.reduceBEq, ↓reduceIte, Nat.reduceEqDiff, Nat.reduceAdd, Nat.reduceMul, Nat.reduceSub, Int.reduceToNat, reduceCtorEq, Nat.reduceLT, Nat.reduceLeDiff, Int.reduceSub, Int.reduceAdd, Int.reduceNeg, Sat.look hs, Sat.lookA hs]) | (refine khK he hs ?_; clear he; intro he) | ((first | refine stK hs ?_ | refine stFK hs ?_ | refine stAK hs ?_ | refine msK hs ?_); clear hs; (try clear w); rintro w hs; try simp only [cls] at hs) | ((first | refine al_ok hs ?_ | refine bx_ok hs ?_ | refine bsvK hs ?_ | refine bs1_ok hs ?_ | refine bs0_ok hs ?_); clear hs; (try clear w); rintro _ w hs; try simp only [cls] at hs)))
      exact ⟨(pa, pc), by rfl, by rfl, hs⟩
    obtain ⟨x, hxi⟩ : ∃ x, b[i]? = some x := ⟨_, List.getElem?_eq_getElem hlt⟩
    have has : a.isSome = true := hx.isSome (by rw [List.length_map]; omega)
    have f0 : oldO (.at w0) (adO a i) = some (.int .u8 (x.toNat : Int)) := hx i _ (by rw [List.getElem?_map, hxi]; rfl)
    have hx256 := x.toNat_lt
    have htake : nats (b.take (i + 1)) = nats (b.take i) ++ [x.toNat] := by
      unfold nats
      rw [List.take_add_one, hxi, List.map_append]
      rfl
    have htl : (nats (b.take i)).length = i := by rw [nats_len, List.length_take_of_le hi]
    have hcond : x.toNat = 0 → i ≠ 0 := fun h hi0 => by
      subst hi0
      have e : x = 0 := UInt8.toNat_inj.1 h
      subst e
      cases b with
      | nil => simp at hlt
      | cons y ys =>
        have : y = 0 := by simpa using hxi
        exact h0 (by rw [this]; rfl)
    generalize nats (b.take i) = L at *
    have hgl : (L.map i64d).length = i := by rw [List.length_map, htl]
    by_cases hx0 : x.toNat = 0
    · have hi0 := hcond hx0
      (repeat (first | (simp (disch := first | omega | assumption | exact Option.isSome_some | (simp only [adO_isSome]; assumption)) only [↓vcp, vcs, vct, if_true, if_false, Nat.reduceBEq, ↓reduceIte, Nat.reduceEqDiff, Nat.reduceAdd, Nat.reduceMul, Nat.reduceSub, Int.reduceToNat, reduceCtorEq, Nat.reduceLT, Nat.reduceLeDiff, Int.reduceSub, Int.reduceAdd, Int.reduceNeg, Sat.look hs, Sat.lookA hs, hs.old f0]) | (refine khK he hs ?_; clear he; intro he) | ((first | refine stK hs ?_ | refine stFK hs ?_ | refine stAK hs ?_ | refine msK hs ?_); clear hs; (try clear w); rintro w hs; try simp only [cls] at hs) | ((first | refine al_ok hs ?_ | refine bx_ok hs ?_ | refine bsvK hs ?_ | refine bs1_ok hs ?_ | refine bs0_ok hs ?_); clear hs; (try clear w); rintro _ w hs; try simp only [cls] at hs)))
      rename Nat => l1
      refine apK 1 hs (hs.rd (a := some ⟨l1, 0, none⟩)) ?_; clear hs; (try clear w); rintro a2 c2 w hc2 hs; try simp only [cls] at hs
      have e1 : L.map i64d ++ [Value.int .i64 (x.toNat : Int)] = (nats (b.take (i + 1))).map i64d := by rw [htake]; simp [i64d]
      rw [e1] at hs
      (repeat (first | (simp (disch := first | omega | assumption | exact Option.isSome_some | (simp only [adO_isSome]; assumption)) only [↓vcp, vcs, vct, if_true, if_false, Nat.reduceBEq, ↓reduceIte, Nat.reduceEqDiff, Nat.reduceAdd, Nat.reduceMul, Nat.reduceSub, Int.reduceToNat, reduceCtorEq, Nat.reduceLT, Nat.reduceLeDiff, Int.reduceSub, Int.reduceAdd, Int.reduceNeg, Sat.look hs, Sat.lookA hs]) | (refine khK he hs ?_; clear he; intro he) | ((first | refine stK hs ?_ | refine stFK hs ?_ | refine stAK hs ?_ | refine msK hs ?_); clear hs; (try clear w); rintro w hs; try simp only [cls] at hs) | ((first | refine al_ok hs ?_ | refine bx_ok hs ?_ | refine bsvK hs ?_ | refine bs1_ok hs ?_ | refine bs0_ok hs ?_); clear hs; (try clear w); rintro _ w hs; try simp only [cls] at hs)))
      exact ⟨(i + 1, a2, c2), by rfl, by rfl, ⟨by dsimp only; omega, hs.sub (.cons_cons _ (.cons_cons _ (List.nil_sublist _)))⟩, by dsimp only; omega⟩
    · (repeat (first | (simp (disch := first | omega | assumption | exact Option.isSome_some | (simp only [adO_isSome]; assumption)) only [↓vcp, vcs, vct, if_true, if_false, Nat.reduceBEq, ↓reduceIte, Nat.reduceEqDiff, Nat.reduceAdd, Nat.reduceMul, Nat.reduceSub, Int.reduceToNat, reduceCtorEq, Nat.reduceLT, Nat.reduceLeDiff, Int.reduceSub, Int.reduceAdd, Int.reduceNeg, Sat.look hs, Sat.lookA hs, hs.old f0]) | (refine khK he hs ?_; clear he; intro he) | ((first | refine stK hs ?_ | refine stFK hs ?_ | refine stAK hs ?_ | refine msK hs ?_); clear hs; (try clear w); rintro w hs; try simp only [cls] at hs) | ((first | refine al_ok hs ?_ | refine bx_ok hs ?_ | refine bsvK hs ?_ | refine bs1_ok hs ?_ | refine bs0_ok hs ?_); clear hs; (try clear w); rintro _ w hs; try simp only [cls] at hs)))
      rename Nat => l1
      refine apK 1 hs (hs.rd (a := some ⟨l1, 0, none⟩)) ?_; clear hs; (try clear w); rintro a2 c2 w hc2 hs; try simp only [cls] at hs
      have e1 : L.map i64d ++ [Value.int .i64 (x.toNat : Int)] = (nats (b.take (i + 1))).map i64d := by rw [htake]; simp [i64d]
      rw [e1] at hs
      (repeat (first | (simp (disch := first | omega | assumption | exact Option.isSome_some | (simp only [adO_isSome]; assumption)) only [↓vcp, vcs, vct, if_true, if_false, Nat.reduceBEq, ↓reduceIte, Nat.reduceEqDiff, Nat.reduceAdd, Nat.reduceMul, Nat.reduceSub, Int.reduceToNat, reduceCtorEq, Nat.reduceLT, Nat.reduceLeDiff, Int.reduceSub, Int.reduceAdd, Int.reduceNeg, Sat.look hs, Sat.lookA hs]) | (refine khK he hs ?_; clear he; intro he) | ((first | refine stK hs ?_ | refine stFK hs ?_ | refine stAK hs ?_ | refine msK hs ?_); clear hs; (try clear w); rintro w hs; try simp only [cls] at hs) | ((first | refine al_ok hs ?_ | refine bx_ok hs ?_ | refine bsvK hs ?_ | refine bs1_ok hs ?_ | refine bs0_ok hs ?_); clear hs; (try clear w); rintro _ w hs; try simp only [cls] at hs)))
      exact ⟨(i + 1, a2, c2), by rfl, by rfl, ⟨by dsimp only; omega, hs.sub (.cons_cons _ (.cons_cons _ (List.nil_sublist _)))⟩, by dsimp only; omega⟩
  · clear hs
    rintro e ⟨pa, pc⟩ w hs
    dsimp only at hs ⊢
    have hD := len58 b
    have hdl := digs0_lt (b := 58) (by decide) (valh 256 (nats b) 0)
    have henc : ((digs0 58 (valh 256 (nats b) 0)).reverse.map fun d => d58.getD d 0) = enc58 b := rfl
    have q1 := fun w h => divided_calls w pa pc (nats b) 256 58 (by omega) (by omega) (by omega) (by omega) h (lead_nats h0) (nats_lt256 b) (by rw [nats_len]; omega) (by omega)
    rw [nats_len] at q1
    have hso := hs
    have hro := hs.ro (a := pa)
    clear hs
    obtain ⟨wB, rfl⟩ : ∃ wB, wB = w := ⟨w, rfl⟩
    have hs := Sat.start wB
    generalize digs0 58 (valh 256 (nats b) 0) = D at *
    (repeat (first | (simp (disch := first | omega | assumption | exact Option.isSome_some | (simp only [adO_isSome]; assumption)) only [↓vcp, vcs, vct, if_true, if_false, Nat.reduceBEq, ↓reduceIte, Nat.reduceEqDiff, Nat.reduceAdd, Nat.reduceMul, Nat.reduceSub, Int.reduceToNat, reduceCtorEq, Nat.reduceLT, Nat.reduceLeDiff, Int.reduceSub, Int.reduceAdd, Int.reduceNeg, Sat.look hs, Sat.lookA hs]) | (refine khK he hs ?_; clear he; intro he) | ((first | refine stK hs ?_ | refine stFK hs ?_ | refine stAK hs ?_ | refine msK hs ?_); clear hs; (try clear w); rintro w hs; try simp only [cls] at hs) | ((first | refine al_ok hs ?_ | refine bx_ok hs ?_ | refine bsvK hs ?_ | refine bs1_ok hs ?_ | refine bs0_ok hs ?_); clear hs; (try clear w); rintro _ w hs; try simp only [cls] at hs)))
    refine call_ok (by kernel_rfl) (q1 _ hro) ?_
    rintro _ w2 ⟨da, dc, rfl, hb⟩
    rw [callK_ret]
    have hso2 := (hso.add hb).sub (.cons _ (List.Sublist.refl _))
    clear hs hb q1 hro hso
    have hso : VC.Sat (.at w0) [.sl da dc (D.reverse.map i64d) 3 1, .sl none 0 [] 5 1] w2 := hso2.perm (List.Perm.swap ..)
    clear hso2
    (repeat (first | (simp (disch := first | omega | assumption | exact Option.isSome_some | (simp only [adO_isSome]; assumption)) only [↓vcp, vcs, vct, if_true, if_false, Nat.reduceBEq, ↓reduceIte, Nat.reduceEqDiff, Nat.reduceAdd, Nat.reduceMul, Nat.reduceSub, Int.reduceToNat, reduceCtorEq, Nat.reduceLT, Nat.reduceLeDiff, Int.reduceSub, Int.reduceAdd, Int.reduceNeg, Sat.look hs, Sat.lookA hs]) | (refine khK he hs ?_; clear he; intro he) | ((first | refine stK hs ?_ | refine stFK hs ?_ | refine stAK hs ?_ | refine msK hs ?_); clear hs; (try clear w); rintro w hs; try simp only [cls] at hs) | ((first | refine al_ok hs ?_ | refine bx_ok hs ?_ | refine bsvK hs ?_ | refine bs1_ok hs ?_ | refine bs0_ok hs ?_); clear hs; (try clear w); rintro _ w hs; try simp only [cls] at hs)))
    refine loop_rule (σ := Nat × Option Addr × Nat × List UInt8) [7, 4] (fun s => [.int .i64 s.1, .slice s.2.1 s.2.2.2.length s.2.2.1]) [6] (fun s w' => s.1 ≤ D.length ∧ s.2.2.2.length = s.1 ∧ s.2.2.2 ++ ((D.reverse.drop s.1).map fun d => d58.getD d 0) = enc58 b ∧ VC.Sat (.at w0) [.sl da dc (D.reverse.map i64d) 3 1, .sl s.2.1 s.2.2.1 (s.2.2.2.map u8v) 5 1] w') (fun s _ => D.length - s.1) (0, none, 0, []) (by kernel_rfl) (by rfl) ⟨Nat.zero_le _, rfl, by dsimp only; rw [List.drop_zero, List.nil_append]; exact henc, hso⟩ ?_
    clear hso
    rintro e ⟨j, oa, oc, out⟩ w ⟨hj, hol, heq, hs⟩
    dsimp only at hj hol heq hs ⊢
    have hrl : D.reverse.length = D.length := List.length_reverse
    simp (disch := first | omega | assumption | exact Option.isSome_some | (simp only [adO_isSome]; assumption)) only [↓vcp, vcs, vct, if_true, if_false, Nat.reduceBEq, ↓reduceIte, Nat.reduceEqDiff, Nat.reduceAdd, Nat.reduceMul, Nat.reduceSub, Int.reduceToNat, reduceCtorEq, Nat.reduceLT, Nat.reduceLeDiff, Int.reduceSub, Int.reduceAdd, Int.reduceNeg, Sat.look hs, Sat.lookA hs]
    by_cases hlt : j < D.length
    case neg =>
      obtain rfl : j = D.length := by omega
      rw [← hrl, List.drop_length, List.map_nil, List.append_nil] at heq
      subst heq
      (repeat (first | (simp (disch := first | omega | assumption | exact Option.isSome_some | (simp only [adO_isSome]; assumption)) only [↓vcp, vcs, vct, if_true, if_false, Nat.reduceBEq, ↓reduceIte, Nat.reduceEqDiff, Nat.reduceAdd, Nat.reduceMul, Nat.reduceSub, Int.reduceToNat, reduceCtorEq, Nat.reduceLT, Nat.reduceLeDiff, Int.reduceSub, Int.reduceAdd, Int.reduceNeg, Sat.look hs, Sat.lookA hs]) | (refine khK he hs ?_; clear he; intro he) | ((first | refine stK hs ?_ | refine stFK hs ?_ | refine stAK hs ?_ | refine msK hs ?_); clear hs; (try clear w); rintro w hs; try simp only [cls] at hs) | ((first | refine al_ok hs ?_ | refine bx_ok hs ?_ | refine bsvK hs ?_ | refine bs1_ok hs ?_ | refine bs0_ok hs ?_); clear hs; (try clear w); rintro _ w hs; try simp only [cls] at hs)))
      rw [m_strOfL (xs := enc58 b) 49 9 (hs.rd (a := oa)) rfl]
      (repeat (first | (simp (disch := first | omega | assumption | exact Option.isSome_some | (simp only [adO_isSome]; assumption)) only [↓vcp, vcs, vct, if_true, if_false, Nat.reduceBEq, ↓reduceIte, Nat.reduceEqDiff, Nat.reduceAdd, Nat.reduceMul, Nat.reduceSub, Int.reduceToNat, reduceCtorEq, Nat.reduceLT, Nat.reduceLeDiff, Int.reduceSub, Int.reduceAdd, Int.reduceNeg, Sat.look hs, Sat.lookA hs]) | (refine khK he hs ?_; clear he; intro he) | ((first | refine stK hs ?_ | refine stFK hs ?_ | refine stAK hs ?_ | refine msK hs ?_); clear hs; (try clear w); rintro w hs; try simp only [cls] at hs) | ((first | refine al_ok hs ?_ | refine bx_ok hs ?_ | refine bsvK hs ?_ | refine bs1_ok hs ?_ | refine bs0_ok hs ?_); clear hs; (try clear w); rintro _ w hs; try simp only [cls] at hs)))
      exact ret_tmp rfl (hR _ _ ⟨rfl, hs.belowAt⟩)
    obtain ⟨p, hp⟩ : ∃ p, D.reverse[j]? = some p := ⟨_, List.getElem?_eq_getElem (by omega)⟩
    have hp58 := hdl p (List.mem_reverse.1 (List.mem_of_getElem? hp))
    have hg := i64d_get hp
    have hgl : (D.reverse.map i64d).length = D.length := by rw [List.length_map, hrl]
    have has : da.isSome = true := hs.isSome (a := da) (xs := D.reverse.map i64d) (by rw [hgl]; omega)
    have hdrop : D.reverse.drop j = p :: D.reverse.drop (j + 1) := by
      rw [List.drop_eq_getElem_cons (by omega)]
      rw [List.getElem?_eq_getElem (by omega)] at hp
      rw [Option.some.inj hp]
    have hbt : bt ⟨d58.toArray⟩ p = ((d58.getD p 0).toNat : Int) := by
      have hdl : p < d58.length := hp58
      rw [bt_list d58 p hdl]
      simp only [List.getD, List.getElem?_eq_getElem hdl, Option.getD_some]
    have hs58 : (ByteArray.mk d58.toArray).size = 58 := rfl
    have heq2 : (out ++ [d58.getD p 0]) ++ ((D.reverse.drop (j + 1)).map fun d => d58.getD d 0) = enc58 b := by
      rw [← heq, hdrop]
      simp
    generalize d58.getD p 0 = ch at *
    have qd := fun w => Rdigits_calls w 3
    rw [show dgs 3 = d58 from rfl] at qd
    (repeat (first | (simp (disch := first | omega | assumption | exact Option.isSome_some | (simp only [adO_isSome]; assumption)) only [↓vcp, vcs, vct, if_true, if_false, Nat.reduceBEq, ↓reduceIte, Nat.reduceEqDiff, Nat.reduceAdd, Nat.reduceMul, Nat.reduceSub, Int.reduceToNat, reduceCtorEq, Nat.reduceLT, Nat.reduceLeDiff, Int.reduceSub, Int.reduceAdd, Int.reduceNeg, Sat.look hs, Sat.lookA hs]) | (refine khK he hs ?_; clear he; intro he) | ((first | refine stK hs ?_ | refine stFK hs ?_ | refine stAK hs ?_ | refine msK hs ?_); clear hs; (try clear w); rintro w hs; try simp only [cls] at hs) | ((first | refine al_ok hs ?_ | refine bx_ok hs ?_ | refine bsvK hs ?_ | refine bs1_ok hs ?_ | refine bs0_ok hs ?_); clear hs; (try clear w); rintro _ w hs; try simp only [cls] at hs)))
    refine draw_plan (SatE (.at w0) [.sl da dc (D.reverse.map i64d) 3 1]) [(0, true), (2, true), (3, true), (4, true), (5, true), (1, false), (6, true), (7, false), (8, false), (9, true)] (by kernel_rfl) (by kernel_rfl) (Sat.e2 [.sl oa oc (out.map u8v) 5 1] (Sat.drew hs) rfl) ?_
    replace hs := Sat.drew hs
    revert hs
    generalize World.drew _ = w
    intro hs
    have he : SatE (.at w0) [.sl da dc (D.reverse.map i64d) 3 1] w := Sat.e2 [.sl oa oc (out.map u8v) 5 1] hs rfl
    (repeat (first | (simp (disch := first | omega | assumption | exact Option.isSome_some | (simp only [adO_isSome]; assumption)) only [↓vcp, vcs, vct, if_true, if_false, Nat.reduceBEq, ↓reduceIte, Nat.reduceEqDiff, Nat.reduceAdd, Nat.reduceMul, Nat.reduceSub, Int.reduceToNat, reduceCtorEq, Nat.reduceLT, Nat.reduceLeDiff, Int.reduceSub, Int.reduceAdd, Int.reduceNeg, Sat.look hs, Sat.lookA hs, m_loadE _ he, hg, hbt, hs58]) | (refine khK he hs ?_; clear he; intro he) | ((first | refine stK hs ?_ | refine stFK hs ?_ | refine stAK hs ?_ | refine msK hs ?_); clear hs; (try clear w); rintro w hs; try simp only [cls] at hs; try simp only [hgl] at hs) | ((first | refine al_ok hs ?_ | refine bx_ok hs ?_ | refine bsvK hs ?_ | refine bs1_ok hs ?_ | refine bs0_ok hs ?_); clear hs; (try clear w); rintro _ w hs; try simp only [cls] at hs; try simp only [hgl] at hs) | ((first | refine stK hs ?_ (by first | omega | (simp only [hgl, cells_bk, cells_sl, List.length_cons, List.length_nil, List.length_set, List.length_append, List.length_map, List.length_replicate, List.length_take, List.length_drop]; omega) | assumption | rfl) | refine stFK hs ?_ (by first | omega | (simp only [hgl, cells_bk, cells_sl, List.length_cons, List.length_nil, List.length_set, List.length_append, List.length_map, List.length_replicate, List.length_take, List.length_drop]; omega) | assumption | rfl) (by first | omega | (simp only [hgl, cells_bk, cells_sl, List.length_cons, List.length_nil, List.length_set, List.length_append, List.length_map, List.length_replicate, List.length_take, List.length_drop]; omega) | assumption | rfl) | refine stAK hs ?_ (by first | omega | (simp only [hgl, cells_bk, cells_sl, List.length_cons, List.length_nil, List.length_set, List.length_append, List.length_map, List.length_replicate, List.length_take, List.length_drop]; omega) | assumption | rfl) (by first | omega | (simp only [hgl, cells_bk, cells_sl, List.length_cons, List.length_nil, List.length_set, List.length_append, List.length_map, List.length_replicate, List.length_take, List.length_drop]; omega) | assumption | rfl) | refine msK hs ?_ (by first | omega | (simp only [hgl, cells_bk, cells_sl, List.length_cons, List.length_nil, List.length_set, List.length_append, List.length_map, List.length_replicate, List.length_take, List.length_drop]; omega) | assumption | rfl)); clear hs; (try clear w); rintro w hs; try simp only [cls] at hs; try simp only [hgl] at hs) | (refine call_ok (by kernel_rfl) (qd _) ?_; rintro _ _ ⟨rfl, rfl⟩; rw [callK_ret]) | (refine call_still (by kernel_rfl) (qd _) ?_)))
    rename Nat => l1
    refine apK 1 hs (hs.rd (a := some ⟨l1, 0, none⟩)) ?_; clear hs; (try clear w); rintro a2 c2 w hc2 hs; try simp only [cls] at hs
    have e1 : out.map u8v ++ [Value.int .u8 (ch.toNat : Int)] = (out ++ [ch]).map u8v := by simp [u8v]
    rw [e1] at hs
    rw [show out.length + 1 = (out ++ [ch]).length by simp] at hc2 ⊢
    refine khK he hs ?_; clear he; intro he
    (repeat (first | (simp (disch := first | omega | assumption | exact Option.isSome_some | (simp only [adO_isSome]; assumption)) only [↓vcp, vcs, vct, if_true, if_false, Nat.reduceBEq, ↓reduceIte, Nat.reduceEqDiff, Nat.reduceAdd, Nat.reduceMul, Nat.reduceSub, Int.reduceToNat, reduceCtorEq, Nat.reduceLT, Nat.reduceLeDiff, Int.reduceSub, Int.reduceAdd, Int.reduceNeg, Sat.look hs, Sat.lookA hs]) | (refine khK he hs ?_; clear he; intro he) | ((first | refine stK hs ?_ | refine stFK hs ?_ | refine stAK hs ?_ | refine msK hs ?_); clear hs; (try clear w); rintro w hs; try simp only [cls] at hs) | ((first | refine al_ok hs ?_ | refine bx_ok hs ?_ | refine bsvK hs ?_ | refine bs1_ok hs ?_ | refine bs0_ok hs ?_); clear hs; (try clear w); rintro _ w hs; try simp only [cls] at hs)))
    (try clear he)
    (repeat (first | (simp (disch := first | omega | assumption | exact Option.isSome_some | (simp only [adO_isSome]; assumption)) only [↓vcp, vcs, vct, if_true, if_false, Nat.reduceBEq, ↓reduceIte, Nat.reduceEqDiff, Nat.reduceAdd, Nat.reduceMul, Nat.reduceSub, Int.reduceToNat, reduceCtorEq, Nat.reduceLT, Nat.reduceLeDiff, Int.reduceSub, Int.reduceAdd, Int.reduceNeg, Sat.look hs, Sat.lookA hs]) | (refine khK he hs ?_; clear he; intro he) | ((first | refine stK hs ?_ | refine stFK hs ?_ | refine stAK hs ?_ | refine msK hs ?_); clear hs; (try clear w); rintro w hs; try simp only [cls] at hs) | ((first | refine al_ok hs ?_ | refine bx_ok hs ?_ | refine bsvK hs ?_ | refine bs1_ok hs ?_ | refine bs0_ok hs ?_); clear hs; (try clear w); rintro _ w hs; try simp only [cls] at hs)))
    exact ⟨(j + 1, a2, c2, out ++ [ch]), by rfl, by rfl, ⟨by dsimp only; omega, by dsimp only; rw [List.length_append, List.length_singleton]; omega, heq2, hs.sub (.cons_cons _ (.cons_cons _ (List.nil_sublist _)))⟩, by dsimp only; omega⟩
end Go.Proofs.YtokoohdpakhphaaDoor.Lnk
namespace Go.Proofs.YtokoohdpakhphaaDoor.Lnk
open Go VC Go.RowKit
set_option linter.unusedSimpArgs false
set_option linter.unusedVariables false
set_option maxRecDepth 20000
set_option maxHeartbeats 4000000
theorem idx49 (x : UInt8) (h : 0 ≤ Lib.indexByte d58 x) : (Lib.indexByte d58 x).toNat = 0 ↔ x = 49 := by
  obtain ⟨g1, g2⟩ := indexByte_get d58 x h
  constructor
  · intro h0
    rw [h0] at g1
    exact g1.symm
  · rintro rfl
    rfl
theorem ones_at {s : List UInt8} {i : Nat} {x : UInt8} (h : s[i]? = some x) : ones (s.drop i) = if x = 49 then ones (s.drop (i + 1)) + 1 else 0 := by
  obtain ⟨hl, he⟩ := List.getElem?_eq_some_iff.1 h
  rw [List.drop_eq_getElem_cons hl, he]
  rfl
/-- what the document has read: ones alone, or digits behind them -/
def St58 (s : List UInt8) (on : Nat) (G : Option Nat) (i z : Nat) (L : List Nat) : Prop :=
  (L = [] ∧ z = i ∧ on = i + ones (s.drop i)) ∨ (L ≠ [] ∧ z = on ∧ lead L ∧ dgo (s.drop i) (valh 58 L 0) = G)
theorem st58_step {s : List UInt8} {on : Nat} {G : Option Nat} {i z : Nat} {L : List Nat} {x : UInt8} (hG : dgo (s.drop on) 0 = G) (h : St58 s on G i z L) (hx : s[i]? = some x) :
    (Lib.indexByte d58 x < 0 → G = none) ∧ (∀ d : Nat, Lib.indexByte d58 x = d → (d = 0 ∧ L = [] → St58 s on G (i + 1) (z + 1) []) ∧ (¬ (d = 0 ∧ L = []) → St58 s on G (i + 1) z (L ++ [d]))) := by
  have hdrop : s.drop i = x :: s.drop (i + 1) := by
    obtain ⟨hl, he⟩ := List.getElem?_eq_some_iff.1 hx
    rw [List.drop_eq_getElem_cons hl, he]
  have hone := ones_at hx
  rcases h with ⟨rfl, rfl, ho⟩ | ⟨hL, rfl, hlead, hg⟩
  · refine ⟨fun hneg => ?_, fun d hd => ⟨fun h0 => ?_, fun h0 => ?_⟩⟩
    · have h49 : x ≠ 49 := fun e => by subst e; exact absurd hneg (by decide)
      rw [hone, if_neg h49, Nat.add_zero] at ho
      subst ho
      rw [hdrop] at hG
      unfold dgo at hG
      rw [if_pos hneg] at hG
      exact hG.symm
    · have h49 : x = 49 := (idx49 x (by omega)).1 (by rw [hd, Int.toNat_natCast]; exact h0.1)
      rw [hone, if_pos h49] at ho
      exact .inl ⟨rfl, rfl, by omega⟩
    · have hd0 : d ≠ 0 := fun e => h0 ⟨e, rfl⟩
      have h49 : x ≠ 49 := fun e => hd0 (by have := (idx49 x (by omega)).2 e; rw [hd, Int.toNat_natCast] at this; exact this)
      rw [hone, if_neg h49, Nat.add_zero] at ho
      subst ho
      rw [hdrop] at hG
      unfold dgo at hG
      rw [hd, if_neg (by omega), Int.toNat_natCast] at hG
      refine .inr ⟨by simp, rfl, fun y hy => ?_, hG⟩
      have : d = y := by simpa using hy
      omega
  · refine ⟨fun hneg => ?_, fun d hd => ⟨fun h0 => absurd h0.2 hL, fun h0 => ?_⟩⟩
    · rw [hdrop] at hg
      unfold dgo at hg
      rw [if_pos hneg] at hg
      exact hg.symm
    · rw [hdrop] at hg
      unfold dgo at hg
      rw [hd, if_neg (by omega), Int.toNat_natCast] at hg
      refine .inr ⟨by simp, rfl, fun y hy => hlead y ?_, ?_⟩
      · cases L with
        | nil => exact absurd rfl hL
        | cons u us => simpa using hy
      · rw [valh_app]
        exact hg
theorem st58_end {s : List UInt8} {on z : Nat} {G : Option Nat} {L : List Nat} (hG : dgo (s.drop on) 0 = G) (h : St58 s on G s.length z L) : z = on ∧ lead L ∧ G = some (valh 58 L 0) := by
  rcases h with ⟨rfl, rfl, ho⟩ | ⟨hL, rfl, hlead, hg⟩
  · rw [List.drop_length] at ho
    have ho : on = s.length := ho
    subst ho
    rw [List.drop_length] at hG
    exact ⟨rfl, (fun d hd => by cases hd), hG.symm⟩
  · rw [List.drop_length] at hg
    exact ⟨rfl, hlead, hg.symm⟩
theorem in58_calls (w0 : World) (s : List UInt8) (hl : s.length ≤ 1024) :
    Calls Tryd.prog 42 #[.string ⟨s.toArray⟩] w0 fun e w' => ∃ a' c', e = .returned (.tuple #[.slice a' (dec58 s).1.length c', .bool (dec58 s).2]) ∧ (dec58 s).1.length ≤ c' ∧ VC.Sat (.at w0) [.sl a' c' ((dec58 s).1.map u8v) 5 1] w' := by
  refine calls_vc Tryd.func42 rfl (by kernel_rfl) (by kernel_rfl) ?_; intro R hR
  have hs := Sat.start w0
  have hdlen := dec58_len s
  have hss : (ByteArray.mk s.toArray).size = s.length := ba_size s
  unfold dec58 at hR hdlen
  have ho0 : ones s = 0 + ones (s.drop 0) := by rw [List.drop_zero, Nat.zero_add]
  have honl := ones_le s
  generalize ones s = on at *
  generalize hG : dgo (s.drop on) 0 = G at *
  (repeat (first | (simp (disch := first | omega | assumption | exact Option.isSome_some | (simp only [adO_isSome]; assumption)) only [↓vcp, vcs, vct, if_true, if_false, Nat.reduceBEq, ↓reduceIte, Nat.reduceEqDiff, Nat.reduceAdd, Nat.reduceMul, Nat.reduceSub, Int.reduceToNat, reduceCtorEq, Nat.reduceLT, Nat.reduceLeDiff, Int.reduceSub, Int.reduceAdd, Int.reduceNeg, Sat.look hs, Sat.lookA hs]) | (refine khK he hs ?_; clear he; intro he) | ((first | refine stK hs ?_ | refine stFK hs ?_ | refine stAK hs ?_ | refine msK hs ?_); clear hs; (try clear w); rintro w hs; try simp only [cls] at hs) | ((first | refine al_ok hs ?_ | refine bx_ok hs ?_ | refine bsvK hs ?_ | refine bs1_ok hs ?_ | refine bs0_ok hs ?_); clear hs; (try clear w); rintro _ w hs; try simp only [cls] at hs)))
  replace hs := Sat.nil hs 3 1; try simp only [cls] at hs
  replace hs := Sat.nil hs 5 1; try simp only [cls] at hs
  (repeat (first | (simp (disch := first | omega | assumption | exact Option.isSome_some | (simp only [adO_isSome]; assumption)) only [↓vcp, vcs, vct, if_true, if_false, Nat.reduceBEq, ↓reduceIte, Nat.reduceEqDiff, Nat.reduceAdd, Nat.reduceMul, Nat.reduceSub, Int.reduceToNat, reduceCtorEq, Nat.reduceLT, Nat.reduceLeDiff, Int.reduceSub, Int.reduceAdd, Int.reduceNeg, Sat.look hs, Sat.lookA hs, hss]) | (refine khK he hs ?_; clear he; intro he) | ((first | refine stK hs ?_ | refine stFK hs ?_ | refine stAK hs ?_ | refine msK hs ?_); clear hs; (try clear w); rintro w hs; try simp only [cls] at hs) | ((first | refine al_ok hs ?_ | refine bx_ok hs ?_ | refine bsvK hs ?_ | refine bs1_ok hs ?_ | refine bs0_ok hs ?_); clear hs; (try clear w); rintro _ w hs; try simp only [cls] at hs)))
  refine loop_rule (σ := Nat × Nat × List Nat × Option Addr × Nat × Option Addr × Nat) [6, 4, 5] (fun x => [.int .i64 x.1, .slice x.2.2.2.1 x.2.2.1.length x.2.2.2.2.1, .slice x.2.2.2.2.2.1 x.2.1 x.2.2.2.2.2.2]) [0] (fun x w' => x.1 ≤ s.length ∧ x.2.2.1.length ≤ x.1 ∧ x.2.1 ≤ x.1 ∧ (∀ p ∈ x.2.2.1, p < 58) ∧ St58 s on G x.1 x.2.1 x.2.2.1 ∧ x.2.1 ≤ x.2.2.2.2.2.2 ∧ VC.Sat (.at w0) [.sl x.2.2.2.1 x.2.2.2.2.1 (x.2.2.1.map i64d) 3 1, .sl x.2.2.2.2.2.1 x.2.2.2.2.2.2 ((List.replicate x.2.1 (0 : UInt8)).map u8v) 5 1] w') (fun x _ => s.length - x.1) (0, 0, [], none, 0, none, 0) (by kernel_rfl) (by rfl) ⟨Nat.zero_le _, Nat.le_refl _, Nat.le_refl _, (fun p hp => by cases hp), .inl ⟨rfl, rfl, ho0⟩, Nat.le_refl _, hs⟩ ?_
  clear hs ho0
  rintro e ⟨i, z, L, la, lc, oa, oc⟩ w ⟨hi, hLl, hz, hLa, hst, hoc, hs⟩
  dsimp only at hi hLl hz hLa hst hoc hs ⊢
  simp (disch := first | omega | assumption | exact Option.isSome_some | (simp only [adO_isSome]; assumption)) only [↓vcp, vcs, vct, if_true, if_false, Nat.reduceBEq, ↓reduceIte, Nat.reduceEqDiff, Nat.reduceAdd, Nat.reduceMul, Nat.reduceSub, Int.reduceToNat, reduceCtorEq, Nat.reduceLT, Nat.reduceLeDiff, Int.reduceSub, Int.reduceAdd, Int.reduceNeg, Sat.look hs, Sat.lookA hs]
  by_cases hlt : i < s.length
  case neg =>
    obtain rfl : i = s.length := by omega
    (repeat (first | (simp (disch := first | omega | assumption | exact Option.isSome_some | (simp only [adO_isSome]; assumption)) only [↓vcp, vcs, vct, if_true, if_false, Nat.reduceBEq, ↓reduceIte, Nat.reduceEqDiff, Nat.reduceAdd, Nat.reduceMul, Nat.reduceSub, Int.reduceToNat, reduceCtorEq, Nat.reduceLT, Nat.reduceLeDiff, Int.reduceSub, Int.reduceAdd, Int.reduceNeg, Sat.look hs, Sat.lookA hs, hss]) | (refine khK he hs ?_; clear he; intro he) | ((first | refine stK hs ?_ | refine stFK hs ?_ | refine stAK hs ?_ | refine msK hs ?_); clear hs; (try clear w); rintro w hs; try simp only [cls] at hs) | ((first | refine al_ok hs ?_ | refine bx_ok hs ?_ | refine bsvK hs ?_ | refine bs1_ok hs ?_ | refine bs0_ok hs ?_); clear hs; (try clear w); rintro _ w hs; try simp only [cls] at hs)))
    obtain ⟨hzo, hlead, hGs⟩ := st58_end hG hst
    subst hzo
    subst hGs
    dsimp only at hR hdlen
    have hVl := valh_lt (f := 58) (by decide) L 0 0 hLa (by decide)
    rw [Nat.zero_add] at hVl
    have hDl := digs0_len (b := 256) (by decide) L.length _ (Nat.lt_of_lt_of_le hVl (p58 _))
    have q1 := fun w h => divided_calls w la lc L 58 256 (by omega) (by omega) (by omega) (by omega) h hlead hLa (by omega) (by omega)
    have hdd := digs0_lt (b := 256) (by decide) (valh 58 L 0)
    clear hG hst
    generalize digs0 256 (valh 58 L 0) = D at *
    generalize hres : List.replicate z (0 : UInt8) ++ D.reverse.map UInt8.ofNat = res at *
    have hrl0 : (List.replicate z (0 : UInt8)).length = z := List.length_replicate
    generalize List.replicate z (0 : UInt8) = out0 at *
    subst hrl0
    refine call_ok (by kernel_rfl) (q1 _ (hs.ro (a := la))) ?_
    rintro _ w2 ⟨da, dc, rfl, hb⟩
    rw [callK_ret]
    have hso : VC.Sat (.at w0) [.sl oa oc (out0.map u8v) 5 1, .sl da dc (D.reverse.map i64d) 3 1] w2 := (hs.add hb).sub (.cons _ (List.Sublist.refl _))
    clear hs hb q1
    (repeat (first | (simp (disch := first | omega | assumption | exact Option.isSome_some | (simp only [adO_isSome]; assumption)) only [↓vcp, vcs, vct, if_true, if_false, Nat.reduceBEq, ↓reduceIte, Nat.reduceEqDiff, Nat.reduceAdd, Nat.reduceMul, Nat.reduceSub, Int.reduceToNat, reduceCtorEq, Nat.reduceLT, Nat.reduceLeDiff, Int.reduceSub, Int.reduceAdd, Int.reduceNeg, Sat.look hs, Sat.lookA hs]) | (refine khK he hs ?_; clear he; intro he) | ((first | refine stK hs ?_ | refine stFK hs ?_ | refine stAK hs ?_ | refine msK hs ?_); clear hs; (try clear w); rintro w hs; try simp only [cls] at hs) | ((first | refine al_ok hs ?_ | refine bx_ok hs ?_ | refine bsvK hs ?_ | refine bs1_ok hs ?_ | refine bs0_ok hs ?_); clear hs; (try clear w); rintro _ w hs; try simp only [cls] at hs)))
    have hrl : D.reverse.length = D.length := List.length_reverse
    refine loop_rule (σ := Nat × Option Addr × Nat × List UInt8) [9, 5] (fun x => [.int .i64 x.1, .slice x.2.1 x.2.2.2.length x.2.2.1]) [8] (fun x w' => x.1 ≤ D.length ∧ x.2.2.2.length ≤ x.2.2.1 ∧ x.2.2.2 ++ (D.reverse.drop x.1).map UInt8.ofNat = res ∧ VC.Sat (.at w0) [.sl x.2.1 x.2.2.1 (x.2.2.2.map u8v) 5 1, .sl da dc (D.reverse.map i64d) 3 1] w') (fun x _ => D.length - x.1) (0, oa, oc, out0) (by kernel_rfl) (by rfl) ⟨Nat.zero_le _, hoc, by dsimp only; rw [List.drop_zero]; exact hres, hso⟩ ?_
    clear hso hres hoc
    rintro e ⟨j, oa, oc, out⟩ w ⟨hj, hoc, heq, hs⟩
    dsimp only at hj hoc heq hs ⊢
    simp (disch := first | omega | assumption | exact Option.isSome_some | (simp only [adO_isSome]; assumption)) only [↓vcp, vcs, vct, if_true, if_false, Nat.reduceBEq, ↓reduceIte, Nat.reduceEqDiff, Nat.reduceAdd, Nat.reduceMul, Nat.reduceSub, Int.reduceToNat, reduceCtorEq, Nat.reduceLT, Nat.reduceLeDiff, Int.reduceSub, Int.reduceAdd, Int.reduceNeg, Sat.look hs, Sat.lookA hs]
    by_cases hlt2 : j < D.length
    case neg =>
      obtain rfl : j = D.length := by omega
      rw [← hrl, List.drop_length, List.map_nil, List.append_nil] at heq
      subst heq
      (repeat (first | (simp (disch := first | omega | assumption | exact Option.isSome_some | (simp only [adO_isSome]; assumption)) only [↓vcp, vcs, vct, if_true, if_false, Nat.reduceBEq, ↓reduceIte, Nat.reduceEqDiff, Nat.reduceAdd, Nat.reduceMul, Nat.reduceSub, Int.reduceToNat, reduceCtorEq, Nat.reduceLT, Nat.reduceLeDiff, Int.reduceSub, Int.reduceAdd, Int.reduceNeg, Sat.look hs, Sat.lookA hs]) | (refine khK he hs ?_; clear he; intro he) | ((first | refine stK hs ?_ | refine stFK hs ?_ | refine stAK hs ?_ | refine msK hs ?_); clear hs; (try clear w); rintro w hs; try simp only [cls] at hs) | ((first | refine al_ok hs ?_ | refine bx_ok hs ?_ | refine bsvK hs ?_ | refine bs1_ok hs ?_ | refine bs0_ok hs ?_); clear hs; (try clear w); rintro _ w hs; try simp only [cls] at hs)))
      exact ret_tmp2 rfl (hR _ _ ⟨oa, oc, rfl, hoc, hs.sub (.cons_cons _ (List.nil_sublist _))⟩)
    obtain ⟨p, hp⟩ : ∃ p, D.reverse[j]? = some p := ⟨_, List.getElem?_eq_getElem (by omega)⟩
    have hg := i64d_get hp
    have hgl : (D.reverse.map i64d).length = D.length := by rw [List.length_map, hrl]
    have has : da.isSome = true := hs.isSome (a := da) (xs := D.reverse.map i64d) (by rw [hgl]; omega)
    have hdrop : D.reverse.drop j = p :: D.reverse.drop (j + 1) := by
      rw [List.drop_eq_getElem_cons (by omega)]
      rw [List.getElem?_eq_getElem (by omega)] at hp
      rw [Option.some.inj hp]
    have hrs := congrArg List.length heq
    rw [List.length_append, List.length_map, List.length_drop, hrl] at hrs
    have heq2 : (out ++ [UInt8.ofNat p]) ++ (D.reverse.drop (j + 1)).map UInt8.ofNat = res := by
      rw [← heq, hdrop]
      simp
    have hw8 := wr8 p
    generalize UInt8.ofNat p = ch at *
    (repeat (first | (simp (disch := first | omega | assumption | exact Option.isSome_some | (simp only [adO_isSome]; assumption)) only [↓vcp, vcs, vct, if_true, if_false, Nat.reduceBEq, ↓reduceIte, Nat.reduceEqDiff, Nat.reduceAdd, Nat.reduceMul, Nat.reduceSub, Int.reduceToNat, reduceCtorEq, Nat.reduceLT, Nat.reduceLeDiff, Int.reduceSub, Int.reduceAdd, Int.reduceNeg, Sat.look hs, Sat.lookA hs, hg, hw8]) | (refine khK he hs ?_; clear he; intro he) | ((first | refine stK hs ?_ | refine stFK hs ?_ | refine stAK hs ?_ | refine msK hs ?_); clear hs; (try clear w); rintro w hs; try simp only [cls] at hs; try simp only [hgl] at hs) | ((first | refine al_ok hs ?_ | refine bx_ok hs ?_ | refine bsvK hs ?_ | refine bs1_ok hs ?_ | refine bs0_ok hs ?_); clear hs; (try clear w); rintro _ w hs; try simp only [cls] at hs; try simp only [hgl] at hs) | ((first | refine stK hs ?_ (by first | omega | (simp only [hgl, cells_bk, cells_sl, List.length_cons, List.length_nil, List.length_set, List.length_append, List.length_map, List.length_replicate, List.length_take, List.length_drop]; omega) | assumption | rfl) | refine stFK hs ?_ (by first | omega | (simp only [hgl, cells_bk, cells_sl, List.length_cons, List.length_nil, List.length_set, List.length_append, List.length_map, List.length_replicate, List.length_take, List.length_drop]; omega) | assumption | rfl) (by first | omega | (simp only [hgl, cells_bk, cells_sl, List.length_cons, List.length_nil, List.length_set, List.length_append, List.length_map, List.length_replicate, List.length_take, List.length_drop]; omega) | assumption | rfl) | refine stAK hs ?_ (by first | omega | (simp only [hgl, cells_bk, cells_sl, List.length_cons, List.length_nil, List.length_set, List.length_append, List.length_map, List.length_replicate, List.length_take, List.length_drop]; omega) | assumption | rfl) (by first | omega | (simp only [hgl, cells_bk, cells_sl, List.length_cons, List.length_nil, List.length_set, List.length_append, List.length_map, List.length_replicate, List.length_take, List.length_drop]; omega) | assumption | rfl) | refine msK hs ?_ (by first | omega | (simp only [hgl, cells_bk, cells_sl, List.length_cons, List.length_nil, List.length_set, List.length_append, List.length_map, List.length_replicate, List.length_take, List.length_drop]; omega) | assumption | rfl)); clear hs; (try clear w); rintro w hs; try simp only [cls] at hs; try simp only [hgl] at hs)))
    rename Nat => l1
    refine apK 1 hs (hs.rd (a := some ⟨l1, 0, none⟩)) ?_; clear hs; (try clear w); rintro a2 c2 w hc2 hs; try simp only [cls] at hs
    have e1 : out.map u8v ++ [Value.int .u8 (ch.toNat : Int)] = (out ++ [ch]).map u8v := by simp [u8v]
    rw [e1] at hs
    rw [show out.length + 1 = (out ++ [ch]).length by simp] at hc2 ⊢
    (repeat (first | (simp (disch := first | omega | assumption | exact Option.isSome_some | (simp only [adO_isSome]; assumption)) only [↓vcp, vcs, vct, if_true, if_false, Nat.reduceBEq, ↓reduceIte, Nat.reduceEqDiff, Nat.reduceAdd, Nat.reduceMul, Nat.reduceSub, Int.reduceToNat, reduceCtorEq, Nat.reduceLT, Nat.reduceLeDiff, Int.reduceSub, Int.reduceAdd, Int.reduceNeg, Sat.look hs, Sat.lookA hs, hw8]) | (refine khK he hs ?_; clear he; intro he) | ((first | refine stK hs ?_ | refine stFK hs ?_ | refine stAK hs ?_ | refine msK hs ?_); clear hs; (try clear w); rintro w hs; try simp only [cls] at hs) | ((first | refine al_ok hs ?_ | refine bx_ok hs ?_ | refine bsvK hs ?_ | refine bs1_ok hs ?_ | refine bs0_ok hs ?_); clear hs; (try clear w); rintro _ w hs; try simp only [cls] at hs)))
    exact ⟨(j + 1, a2, c2, out ++ [ch]), by rfl, by rfl, ⟨by dsimp only; omega, hc2, heq2, hs.sub (.cons_cons _ (.cons_cons _ (List.nil_sublist _)))⟩, by dsimp only; omega⟩
  obtain ⟨x, hxi⟩ : ∃ x, s[i]? = some x := ⟨_, List.getElem?_eq_getElem hlt⟩
  have hbt : bt ⟨s.toArray⟩ i = (x.toNat : Int) := by
    rw [bt_list s i hlt]
    rw [List.getElem?_eq_getElem hlt] at hxi
    rw [Option.some.inj hxi]
  have hdz : i < (ByteArray.mk s.toArray).size := by rw [ba_size]; exact hlt
  have hx256 := x.toNat_lt
  obtain ⟨hn1, hn2⟩ := st58_step hG hst hxi
  have hil := indexByte_lt d58 x
  have qv := fun w => Rvalue_calls w 3 x
  rw [show dgs 3 = d58 from rfl] at qv
  rw [show d58.length = 58 from rfl] at hil
  generalize Lib.indexByte d58 x = dg at *
  (repeat (first | (simp (disch := first | omega | assumption | exact Option.isSome_some | (simp only [adO_isSome]; assumption)) only [↓vcp, vcs, vct, if_true, if_false, Nat.reduceBEq, ↓reduceIte, Nat.reduceEqDiff, Nat.reduceAdd, Nat.reduceMul, Nat.reduceSub, Int.reduceToNat, reduceCtorEq, Nat.reduceLT, Nat.reduceLeDiff, Int.reduceSub, Int.reduceAdd, Int.reduceNeg, Sat.look hs, Sat.lookA hs, hbt, hss]) | (refine khK he hs ?_; clear he; intro he) | ((first | refine stK hs ?_ | refine stFK hs ?_ | refine stAK hs ?_ | refine msK hs ?_); clear hs; (try clear w); rintro w hs; try simp only [cls] at hs) | ((first | refine al_ok hs ?_ | refine bx_ok hs ?_ | refine bsvK hs ?_ | refine bs1_ok hs ?_ | refine bs0_ok hs ?_); clear hs; (try clear w); rintro _ w hs; try simp only [cls] at hs)))
  refine call_ok (by kernel_rfl) (qv _) ?_; rintro _ w2 ⟨rfl, hb⟩; rw [callK_ret]; replace hs := Sat.add hs (Below.sat hb); clear hb; (try clear w); rename World => w; try simp only [cls] at hs
  (repeat (first | (simp (disch := first | omega | assumption | exact Option.isSome_some | (simp only [adO_isSome]; assumption)) only [↓vcp, vcs, vct, if_true, if_false, Nat.reduceBEq, ↓reduceIte, Nat.reduceEqDiff, Nat.reduceAdd, Nat.reduceMul, Nat.reduceSub, Int.reduceToNat, reduceCtorEq, Nat.reduceLT, Nat.reduceLeDiff, Int.reduceSub, Int.reduceAdd, Int.reduceNeg, Sat.look hs, Sat.lookA hs]) | (refine khK he hs ?_; clear he; intro he) | ((first | refine stK hs ?_ | refine stFK hs ?_ | refine stAK hs ?_ | refine msK hs ?_); clear hs; (try clear w); rintro w hs; try simp only [cls] at hs) | ((first | refine al_ok hs ?_ | refine bx_ok hs ?_ | refine bsvK hs ?_ | refine bs1_ok hs ?_ | refine bs0_ok hs ?_); clear hs; (try clear w); rintro _ w hs; try simp only [cls] at hs)))
  by_cases hneg : dg < 0
  · have hG0 := hn1 hneg
    subst hG0
    dsimp only at hR
    (repeat (first | (simp (disch := first | omega | assumption | exact Option.isSome_some | (simp only [adO_isSome]; assumption)) only [↓vcp, vcs, vct, if_true, if_false, Nat.reduceBEq, ↓reduceIte, Nat.reduceEqDiff, Nat.reduceAdd, Nat.reduceMul, Nat.reduceSub, Int.reduceToNat, reduceCtorEq, Nat.reduceLT, Nat.reduceLeDiff, Int.reduceSub, Int.reduceAdd, Int.reduceNeg, Sat.look hs, Sat.lookA hs]) | (refine khK he hs ?_; clear he; intro he) | ((first | refine stK hs ?_ | refine stFK hs ?_ | refine stAK hs ?_ | refine msK hs ?_); clear hs; (try clear w); rintro w hs; try simp only [cls] at hs) | ((first | refine al_ok hs ?_ | refine bx_ok hs ?_ | refine bsvK hs ?_ | refine bs1_ok hs ?_ | refine bs0_ok hs ?_); clear hs; (try clear w); rintro _ w hs; try simp only [cls] at hs)))
    replace hs := Sat.nil hs 5 1; try simp only [cls] at hs
    exact ret_tmp2 rfl (hR _ _ ⟨none, 0, rfl, by simp, hs.sub (.cons _ (.cons _ (List.Sublist.refl _)))⟩)
  obtain ⟨d, rfl⟩ := Int.eq_ofNat_of_zero_le (show 0 ≤ dg by omega)
  obtain ⟨hn3, hn4⟩ := hn2 d rfl
  have hzl : ((List.replicate z (0 : UInt8)).map u8v).length = z := by rw [List.length_map, List.length_replicate]
  have hLl2 : (L.map i64d).length = L.length := List.length_map ..
  by_cases hd0 : d = 0
  · by_cases hL0 : L = []
    · have hst2 := hn3 ⟨hd0, hL0⟩
      subst hd0 hL0
      have htk : (List.replicate (z + 1) (0 : UInt8)).map u8v = (List.replicate z (0 : UInt8)).map u8v ++ [Value.int .u8 0] := by
        rw [List.replicate_succ', List.map_append]
        rfl
      generalize (List.replicate z (0 : UInt8)).map u8v = Z at *
      (repeat (first | (simp (disch := first | omega | assumption | exact Option.isSome_some | (simp only [adO_isSome]; assumption)) only [↓vcp, vcs, vct, if_true, if_false, Nat.reduceBEq, ↓reduceIte, Nat.reduceEqDiff, Nat.reduceAdd, Nat.reduceMul, Nat.reduceSub, Int.reduceToNat, reduceCtorEq, Nat.reduceLT, Nat.reduceLeDiff, Int.reduceSub, Int.reduceAdd, Int.reduceNeg, Sat.look hs, Sat.lookA hs]) | (refine khK he hs ?_; clear he; intro he) | ((first | refine stK hs ?_ | refine stFK hs ?_ | refine stAK hs ?_ | refine msK hs ?_); clear hs; (try clear w); rintro w hs; try simp only [cls] at hs) | ((first | refine al_ok hs ?_ | refine bx_ok hs ?_ | refine bsvK hs ?_ | refine bs1_ok hs ?_ | refine bs0_ok hs ?_); clear hs; (try clear w); rintro _ w hs; try simp only [cls] at hs)))
      rename Nat => l1
      refine apK 1 hs (hs.rd (a := some ⟨l1, 0, none⟩)) ?_; clear hs; (try clear w); rintro a2 c2 w hc2 hs; try simp only [cls] at hs
      rw [← htk] at hs
      (repeat (first | (simp (disch := first | omega | assumption | exact Option.isSome_some | (simp only [adO_isSome]; assumption)) only [↓vcp, vcs, vct, if_true, if_false, Nat.reduceBEq, ↓reduceIte, Nat.reduceEqDiff, Nat.reduceAdd, Nat.reduceMul, Nat.reduceSub, Int.reduceToNat, reduceCtorEq, Nat.reduceLT, Nat.reduceLeDiff, Int.reduceSub, Int.reduceAdd, Int.reduceNeg, Sat.look hs, Sat.lookA hs]) | (refine khK he hs ?_; clear he; intro he) | ((first | refine stK hs ?_ | refine stFK hs ?_ | refine stAK hs ?_ | refine msK hs ?_); clear hs; (try clear w); rintro w hs; try simp only [cls] at hs) | ((first | refine al_ok hs ?_ | refine bx_ok hs ?_ | refine bsvK hs ?_ | refine bs1_ok hs ?_ | refine bs0_ok hs ?_); clear hs; (try clear w); rintro _ w hs; try simp only [cls] at hs)))
      exact ⟨(i + 1, z + 1, [], la, lc, a2, c2), by rfl, by rfl, ⟨by dsimp only; omega, by dsimp only; omega, by dsimp only; omega, hLa, hst2, hc2, hs.sub (.cons_cons _ (.cons_cons _ (List.nil_sublist _)))⟩, by dsimp only; omega⟩
    · have hst2 := hn4 (fun h => hL0 h.2)
      have hLp : 0 < L.length := List.length_pos_iff.2 hL0
      (repeat (first | (simp (disch := first | omega | assumption | exact Option.isSome_some | (simp only [adO_isSome]; assumption)) only [↓vcp, vcs, vct, if_true, if_false, Nat.reduceBEq, ↓reduceIte, Nat.reduceEqDiff, Nat.reduceAdd, Nat.reduceMul, Nat.reduceSub, Int.reduceToNat, reduceCtorEq, Nat.reduceLT, Nat.reduceLeDiff, Int.reduceSub, Int.reduceAdd, Int.reduceNeg, Sat.look hs, Sat.lookA hs]) | (refine khK he hs ?_; clear he; intro he) | ((first | refine stK hs ?_ | refine stFK hs ?_ | refine stAK hs ?_ | refine msK hs ?_); clear hs; (try clear w); rintro w hs; try simp only [cls] at hs) | ((first | refine al_ok hs ?_ | refine bx_ok hs ?_ | refine bsvK hs ?_ | refine bs1_ok hs ?_ | refine bs0_ok hs ?_); clear hs; (try clear w); rintro _ w hs; try simp only [cls] at hs)))
      rename Nat => l1
      refine apK 1 hs (hs.rd (a := some ⟨l1, 0, none⟩)) ?_; clear hs; (try clear w); rintro a2 c2 w hc2 hs; try simp only [cls] at hs
      have e1 : L.map i64d ++ [Value.int .i64 (d : Int)] = (L ++ [d]).map i64d := by simp [i64d]
      rw [e1] at hs
      rw [show L.length + 1 = (L ++ [d]).length by simp] at hc2 ⊢
      (repeat (first | (simp (disch := first | omega | assumption | exact Option.isSome_some | (simp only [adO_isSome]; assumption)) only [↓vcp, vcs, vct, if_true, if_false, Nat.reduceBEq, ↓reduceIte, Nat.reduceEqDiff, Nat.reduceAdd, Nat.reduceMul, Nat.reduceSub, Int.reduceToNat, reduceCtorEq, Nat.reduceLT, Nat.reduceLeDiff, Int.reduceSub, Int.reduceAdd, Int.reduceNeg, Sat.look hs, Sat.lookA hs]) | (refine khK he hs ?_; clear he; intro he) | ((first | refine stK hs ?_ | refine stFK hs ?_ | refine stAK hs ?_ | refine msK hs ?_); clear hs; (try clear w); rintro w hs; try simp only [cls] at hs) | ((first | refine al_ok hs ?_ | refine bx_ok hs ?_ | refine bsvK hs ?_ | refine bs1_ok hs ?_ | refine bs0_ok hs ?_); clear hs; (try clear w); rintro _ w hs; try simp only [cls] at hs)))
      exact ⟨(i + 1, z, L ++ [d], a2, c2, oa, oc), by rfl, by rfl, ⟨by dsimp only; omega, by dsimp only; rw [List.length_append, List.length_singleton]; omega, by dsimp only; omega, (fun p hp => by
        rcases List.mem_append.1 hp with h | h
        · exact hLa p h
        · rw [List.mem_singleton.1 h]; omega), hst2, hoc, hs.sub (.cons_cons _ (.cons_cons _ (List.nil_sublist _)))⟩, by dsimp only; omega⟩
  · have hst2 := hn4 (fun h => hd0 h.1)
    (repeat (first | (simp (disch := first | omega | assumption | exact Option.isSome_some | (simp only [adO_isSome]; assumption)) only [↓vcp, vcs, vct, if_true, if_false, Nat.reduceBEq, ↓reduceIte, Nat.reduceEqDiff, Nat.reduceAdd, Nat.reduceMul, Nat.reduceSub, Int.reduceToNat, reduceCtorEq, Nat.reduceLT, Nat.reduceLeDiff, Int.reduceSub, Int.reduceAdd, Int.reduceNeg, Sat.look hs, Sat.lookA hs]) | (refine khK he hs ?_; clear he; intro he) | ((first | refine stK hs ?_ | refine stFK hs ?_ | refine stAK hs ?_ | refine msK hs ?_); clear hs; (try clear w); rintro w hs; try simp only [cls] at hs) | ((first | refine al_ok hs ?_ | refine bx_ok hs ?_ | refine bsvK hs ?_ | refine bs1_ok hs ?_ | refine bs0_ok hs ?_); clear hs; (try clear w); rintro _ w hs; try simp only [cls] at hs)))
    rename Nat => l1
    refine apK 1 hs (hs.rd (a := some ⟨l1, 0, none⟩)) ?_; clear hs; (try clear w); rintro a2 c2 w hc2 hs; try simp only [cls] at hs
    have e1 : L.map i64d ++ [Value.int .i64 (d : Int)] = (L ++ [d]).map i64d := by simp [i64d]
    rw [e1] at hs
    rw [show L.length + 1 = (L ++ [d]).length by simp] at hc2 ⊢
    (repeat (first | (simp (disch := first | omega | assumption | exact Option.isSome_some | (simp only [adO_isSome]; assumption)) only [↓vcp, vcs, vct, if_true, if_false, Nat.reduceBEq, ↓reduceIte, Nat.reduceEqDiff, Nat.reduceAdd, Nat.reduceMul, Nat.reduceSub, Int.reduceToNat, reduceCtorEq, Nat.reduceLT, Nat.reduceLeDiff, Int.reduceSub, Int.reduceAdd, Int.reduceNeg, Sat.look hs, Sat.lookA hs]) | (refine khK he hs ?_; clear he; intro he) | ((first | refine stK hs ?_ | refine stFK hs ?_ | refine stAK hs ?_ | refine msK hs ?_); clear hs; (try clear w); rintro w hs; try simp only [cls] at hs) | ((first | refine al_ok hs ?_ | refine bx_ok hs ?_ | refine bsvK hs ?_ | refine bs1_ok hs ?_ | refine bs0_ok hs ?_); clear hs; (try clear w); rintro _ w hs; try simp only [cls] at hs)))
    exact ⟨(i + 1, z, L ++ [d], a2, c2, oa, oc), by rfl, by rfl, ⟨by dsimp only; omega, by dsimp only; rw [List.length_append, List.length_singleton]; omega, by dsimp only; omega, (fun p hp => by
      rcases List.mem_append.1 hp with h | h
      · exact hLa p h
      · rw [List.mem_singleton.1 h]; omega), hst2, hoc, hs.sub (.cons_cons _ (.cons_cons _ (List.nil_sublist _)))⟩, by dsimp only; omega⟩
end Go.Proofs.YtokoohdpakhphaaDoor.Lnk
