/- Several texts in one. -/
import Derived.Test.YtokoohdpakhphaaDoorDocX
namespace Go.Proofs.YtokoohdpakhphaaDoor.Lnk
open Go VC Go.RowKit
set_option linter.unusedSimpArgs false
set_option linter.unusedVariables false
set_option maxRecDepth 20000
set_option maxHeartbeats 4000000
theorem bof_get : ∀ (w n j : Nat), j < w → (bof w n)[j]? = some (n / 2 ^ (w - 1 - j) % 2)
  | w + 1, n, 0, _ => rfl
  | w + 1, n, j + 1, h => by
    show (bof w n)[j]? = _
    rw [bof_get w n j (by omega)]
    congr 4
    omega
theorem flat_snoc8 (b : List UInt8) (i : Nat) (x : UInt8) (h : b[i]? = some x) : flat 8 (nats (b.take (i + 1))) = flat 8 (nats (b.take i)) ++ bof 8 x.toNat := by
  rw [List.take_add_one, h]
  unfold nats
  rw [List.map_append, flat_app]
  simp [flat]
/-- the bits that make a digit -/
theorem flat_drop (w : Nat) : ∀ (D : List Nat) (t d : Nat), D[t]? = some d → (flat w D).drop (w * t) = bof w d ++ (flat w D).drop (w * (t + 1))
  | [], t, d, h => by simp at h
  | x :: D, 0, d, h => by
    have e : x = d := by simpa using h
    subst e
    rw [flat_cons, Nat.mul_zero, List.drop_zero, Nat.zero_add, Nat.mul_one, List.drop_left' (bof_len w x)]
  | x :: D, t + 1, d, h => by
    have ih := flat_drop w D t d (by simpa using h)
    have e1 : ∀ k, (flat w (x :: D)).drop (w * (k + 1)) = (flat w D).drop (w * k) := fun k => by
      rw [flat_cons, Nat.mul_add, Nat.mul_one, Nat.add_comm, ← List.drop_drop, List.drop_left' (bof_len w x)]
    rw [e1, e1, ih]
theorem bnum_snoc : ∀ (l : List Nat) (a b : Nat), bnum (l ++ [b]) a = 2 * bnum l a + b
  | [], a, b => rfl
  | x :: l, a, b => bnum_snoc l (2 * a + x) b
theorem bnum_lt : ∀ (l : List Nat) (k : Nat), (∀ b ∈ l, b < 2) → l.length ≤ k → bnum l 0 < 2 ^ k := fun l k h hk =>
  Nat.lt_of_lt_of_le (bnum_split l 0 h).2 (Nat.pow_le_pow_right (by omega) hk)
theorem bof_bits : ∀ (w n : Nat), ∀ b ∈ bof w n, b < 2
  | 0, _, b, h => by cases h
  | w + 1, n, b, h => by
    rcases List.mem_cons.1 h with rfl | h
    · exact Nat.mod_lt _ (by omega)
    · exact bof_bits w n b h
theorem ofBits_calls (w0 : World) (a : Option Addr) (c : Nat) (b : List UInt8) (base width : Nat) (hw0 : 0 < width) (hw8 : width ≤ 8) (hds : (dgs base).length = 2 ^ width) (hx : Ro (.at w0) a (b.map u8v)) (hl : b.length ≤ 1024) :
    Calls Tryd.prog 38 #[.slice a b.length c, .int .i64 base, .int .i64 width] w0 fun e w' => e = .returned (.string ⟨(spreadL width (dgs base) b).toArray⟩) ∧ Below w0.heap.size w0 w' := by
  refine calls_vc Tryd.func38 rfl (by kernel_rfl) (by kernel_rfl) ?_; intro R hR
  have hs := Sat.start w0
  obtain ⟨hdl, k0, hk0, hflat⟩ := spgo_flat width hw0 b 0 0 hw0 (by decide)
  have hflat : flat width (spgo width b 0 0) = flat 8 (nats b) ++ List.replicate k0 0 := by simpa [bof] using hflat
  have hspr : spreadL width (dgs base) b = (spgo width b 0 0).map fun d => (dgs base).getD d 0 := rfl
  rw [hspr] at hR
  clear hspr
  have hflen := congrArg List.length hflat
  rw [flat_len, List.length_append, List.length_replicate, flat_len, nats_len] at hflen
  generalize spgo width b 0 0 = D at *
  (repeat (first | (simp (disch := first | omega | assumption | exact Option.isSome_some | (simp only [adO_isSome]; assumption)) only [↓vcp, vcs, vct, if_true, if_false, Nat.reduceBEq, ↓reduceIte, Nat.reduceEqDiff, Nat.reduceAdd, Nat.reduceMul, Nat.reduceSub, Int.reduceToNat, reduceCtorEq, Nat.reduceLT, Nat.reduceLeDiff, Int.reduceSub, Int.reduceAdd, Int.reduceNeg, Sat.look hs, Sat.lookA hs]) | (refine khK he hs ?_; clear he; intro he) | ((first | refine stK hs ?_ | refine stFK hs ?_ | refine stAK hs ?_ | refine msK hs ?_); clear hs; (try clear w); rintro w hs; try simp only [cls] at hs) | ((first | refine al_ok hs ?_ | refine bx_ok hs ?_ | refine bsvK hs ?_ | refine bs1_ok hs ?_ | refine bs0_ok hs ?_); clear hs; (try clear w); rintro _ w hs; try simp only [cls] at hs)))
  replace hs := Sat.nil hs 3 1; try simp only [cls] at hs
  (repeat (first | (simp (disch := first | omega | assumption | exact Option.isSome_some | (simp only [adO_isSome]; assumption)) only [↓vcp, vcs, vct, if_true, if_false, Nat.reduceBEq, ↓reduceIte, Nat.reduceEqDiff, Nat.reduceAdd, Nat.reduceMul, Nat.reduceSub, Int.reduceToNat, reduceCtorEq, Nat.reduceLT, Nat.reduceLeDiff, Int.reduceSub, Int.reduceAdd, Int.reduceNeg, Sat.look hs, Sat.lookA hs]) | (refine khK he hs ?_; clear he; intro he) | ((first | refine stK hs ?_ | refine stFK hs ?_ | refine stAK hs ?_ | refine msK hs ?_); clear hs; (try clear w); rintro w hs; try simp only [cls] at hs) | ((first | refine al_ok hs ?_ | refine bx_ok hs ?_ | refine bsvK hs ?_ | refine bs1_ok hs ?_ | refine bs0_ok hs ?_); clear hs; (try clear w); rintro _ w hs; try simp only [cls] at hs)))
  refine loop_join (σ := Option Addr × Nat) 0 [7] (fun s => [.slice s.1 (8 * b.length) s.2]) [1, 2] (fun s w' => VC.Sat (.at w0) [.sl s.1 s.2 ((flat 8 (nats b)).map i64d) 3 1] w') ?_ ?_
  · refine loop_rule (σ := Nat × Option Addr × Nat) [8, 7] (fun s => [.int .i64 s.1, .slice s.2.1 (8 * s.1) s.2.2]) [0, 1, 2] (fun s w' => s.1 ≤ b.length ∧ VC.Sat (.at w0) [.sl s.2.1 s.2.2 ((flat 8 (nats (b.take s.1))).map i64d) 3 1] w') (fun s _ => b.length - s.1) (0, none, 0) (by kernel_rfl) (by rfl) ⟨Nat.zero_le _, hs⟩ ?_
    clear hs
    rintro e ⟨i, pa, pc⟩ w ⟨hi, hs⟩
    dsimp only at hi hs ⊢
    simp (disch := first | omega | assumption | exact Option.isSome_some | (simp only [adO_isSome]; assumption)) only [↓vcp, vcs, vct, if_true, if_false, Nat.reduceBEq, ↓reduceIte, Nat.reduceEqDiff, Nat.reduceAdd, Nat.reduceMul, Nat.reduceSub, Int.reduceToNat, reduceCtorEq, Nat.reduceLT, Nat.reduceLeDiff, Int.reduceSub, Int.reduceAdd, Int.reduceNeg, Sat.look hs, Sat.lookA hs]
    by_cases hlt : i < b.length
    case neg =>
      obtain rfl : i = b.length := by omega
      rw [List.take_length] at hs
      (repeat (first | (simp (disch := first | omega | assumption | exact Option.isSome_some | (simp only [adO_isSome]; assumption)) only [↓vcp, vcs, vct, if_true, if_false, Nat.reduceBEq, ↓reduceIte, Nat.reduceEqDiff, Nat.reduceAdd, Nat.reduceMul, Nat.reduceSub, Int.reduceToNat, reduceCtorEq, Nat.reduceLT, Nat.reduceLeDiff, Int.reduceSub, Int.reduceAdd, Int.reduceNeg, Sat.look hs, Sat.lookA hs]) | (refine khK he hs ?_; clear he; intro he) | ((first | refine stK hs ?_ | refine stFK hs ?_ | refine stAK hs ?_ | refine msK hs ?_); clear hs; (try clear w); rintro w hs; try simp only [cls] at hs) | ((first | refine al_ok hs ?_ | refine bx_ok hs ?_ | refine bsvK hs ?_ | refine bs1_ok hs ?_ | refine bs0_ok hs ?_); clear hs; (try clear w); rintro _ w hs; try simp only [cls] at hs)))
      exact ⟨(pa, pc), by rfl, by rfl, hs⟩
    obtain ⟨x, hxi⟩ : ∃ x, b[i]? = some x := ⟨_, List.getElem?_eq_getElem hlt⟩
    have has : a.isSome = true := hx.isSome (by rw [List.length_map]; omega)
    have f0 : oldO (.at w0) (adO a i) = some (.int .u8 (x.toNat : Int)) := hx i _ (by rw [List.getElem?_map, hxi]; rfl)
    have hx256 := x.toNat_lt
    have hsn := flat_snoc8 b i x hxi
    have hFl : (flat 8 (nats (b.take i))).length = 8 * i := by rw [flat_len, nats_len, List.length_take_of_le hi]
    generalize flat 8 (nats (b.take i)) = Fi at *
    (repeat (first | (simp (disch := first | omega | assumption | exact Option.isSome_some | (simp only [adO_isSome]; assumption)) only [↓vcp, vcs, vct, if_true, if_false, Nat.reduceBEq, ↓reduceIte, Nat.reduceEqDiff, Nat.reduceAdd, Nat.reduceMul, Nat.reduceSub, Int.reduceToNat, reduceCtorEq, Nat.reduceLT, Nat.reduceLeDiff, Int.reduceSub, Int.reduceAdd, Int.reduceNeg, Sat.look hs, Sat.lookA hs]) | (refine khK he hs ?_; clear he; intro he) | ((first | refine stK hs ?_ | refine stFK hs ?_ | refine stAK hs ?_ | refine msK hs ?_); clear hs; (try clear w); rintro w hs; try simp only [cls] at hs) | ((first | refine al_ok hs ?_ | refine bx_ok hs ?_ | refine bsvK hs ?_ | refine bs1_ok hs ?_ | refine bs0_ok hs ?_); clear hs; (try clear w); rintro _ w hs; try simp only [cls] at hs)))
    refine loop_rule (σ := Nat × Option Addr × Nat) [9, 7] (fun s => [.int .i64 (7 - (s.1 : Int)), .slice s.2.1 (8 * i + s.1) s.2.2]) [0, 1, 2, 8] (fun s w' => s.1 ≤ 8 ∧ VC.Sat (.at w0) [.sl s.2.1 s.2.2 ((Fi ++ (bof 8 x.toNat).take s.1).map i64d) 3 1] w') (fun s _ => 8 - s.1) (0, pa, pc) (by kernel_rfl) (by rfl) ⟨by omega, by dsimp only; rw [List.take_zero, List.append_nil]; exact hs⟩ ?_
    clear hs
    rintro e ⟨j, pa, pc⟩ w ⟨hj, hs⟩
    dsimp only at hj hs ⊢
    simp (disch := first | omega | assumption | exact Option.isSome_some | (simp only [adO_isSome]; assumption)) only [↓vcp, vcs, vct, if_true, if_false, Nat.reduceBEq, ↓reduceIte, Nat.reduceEqDiff, Nat.reduceAdd, Nat.reduceMul, Nat.reduceSub, Int.reduceToNat, reduceCtorEq, Nat.reduceLT, Nat.reduceLeDiff, Int.reduceSub, Int.reduceAdd, Int.reduceNeg, Sat.look hs, Sat.lookA hs]
    by_cases hj8 : j < 8
    case neg =>
      obtain rfl : j = 8 := by omega
      rw [List.take_of_length_le (by rw [bof_len]; omega), ← hsn] at hs
      (repeat (first | (simp (disch := first | omega | assumption | exact Option.isSome_some | (simp only [adO_isSome]; assumption)) only [↓vcp, vcs, vct, if_true, if_false, Nat.reduceBEq, ↓reduceIte, Nat.reduceEqDiff, Nat.reduceAdd, Nat.reduceMul, Nat.reduceSub, Int.reduceToNat, reduceCtorEq, Nat.reduceLT, Nat.reduceLeDiff, Int.reduceSub, Int.reduceAdd, Int.reduceNeg, Sat.look hs, Sat.lookA hs]) | (refine khK he hs ?_; clear he; intro he) | ((first | refine stK hs ?_ | refine stFK hs ?_ | refine stAK hs ?_ | refine msK hs ?_); clear hs; (try clear w); rintro w hs; try simp only [cls] at hs) | ((first | refine al_ok hs ?_ | refine bx_ok hs ?_ | refine bsvK hs ?_ | refine bs1_ok hs ?_ | refine bs0_ok hs ?_); clear hs; (try clear w); rintro _ w hs; try simp only [cls] at hs)))
      exact ⟨(i + 1, pa, pc), by dsimp only; rw [Nat.mul_add]; rfl, by rfl, ⟨by dsimp only; omega, hs⟩, by dsimp only; omega⟩
    have hg := bof_get 8 x.toNat j hj8
    have hsh : Shr .i64 (x.toNat : Int) ((7 : Int) - (j : Int)) = ((x.toNat / 2 ^ (7 - j) : Nat) : Int) := by
      rw [show (7 : Int) - (j : Int) = ((7 - j : Nat) : Int) by omega]
      exact Shr_u .i64 _ _ (by rw [bitsi64]; omega)
    have hnn : (0 : Int) ≤ 7 - (j : Int) := by omega
    have hcj : IntKind.u64.wrap ((7 : Int) - (j : Int)) = (7 : Int) - (j : Int) := by
      rw [show (7 : Int) - (j : Int) = ((7 - j : Nat) : Int) by omega]
      exact wrap_u .u64 rfl _ (by rw [bits64]; omega)
    (repeat (first | (simp (disch := first | omega | assumption | exact Option.isSome_some | (simp only [adO_isSome]; assumption)) only [↓vcp, vcs, vct, if_true, if_false, Nat.reduceBEq, ↓reduceIte, Nat.reduceEqDiff, Nat.reduceAdd, Nat.reduceMul, Nat.reduceSub, Int.reduceToNat, reduceCtorEq, Nat.reduceLT, Nat.reduceLeDiff, Int.reduceSub, Int.reduceAdd, Int.reduceNeg, Sat.look hs, Sat.lookA hs, hs.old f0, hsh, hcj, tmod_lit]) | (refine khK he hs ?_; clear he; intro he) | ((first | refine stK hs ?_ | refine stFK hs ?_ | refine stAK hs ?_ | refine msK hs ?_); clear hs; (try clear w); rintro w hs; try simp only [cls] at hs) | ((first | refine al_ok hs ?_ | refine bx_ok hs ?_ | refine bsvK hs ?_ | refine bs1_ok hs ?_ | refine bs0_ok hs ?_); clear hs; (try clear w); rintro _ w hs; try simp only [cls] at hs)))
    rename Nat => l1
    have hcl : (Fi ++ (bof 8 x.toNat).take j).length = 8 * i + j := by rw [List.length_append, hFl, List.length_take, bof_len]; omega
    have htk : (Fi ++ (bof 8 x.toNat).take (j + 1)).map i64d = (Fi ++ (bof 8 x.toNat).take j).map i64d ++ [Value.int .i64 ((x.toNat / 2 ^ (7 - j) % 2 : Nat) : Int)] := by
      rw [List.take_add_one, hg]
      simp [i64d]
    generalize Fi ++ (bof 8 x.toNat).take j = Fj at *
    have hcl2 : (Fj.map i64d).length = 8 * i + j := by rw [List.length_map]; exact hcl
    refine apK 1 hs (hs.rd (a := some ⟨l1, 0, none⟩)) ?_; clear hs; (try clear w); rintro a2 c2 w hc2 hs; try simp only [cls] at hs
    rw [← htk] at hs
    have hnx : (7 : Int) - (j : Int) - 1 = 7 - ((j + 1 : Nat) : Int) := by omega
    (repeat (first | (simp (disch := first | omega | assumption | exact Option.isSome_some | (simp only [adO_isSome]; assumption)) only [↓vcp, vcs, vct, if_true, if_false, Nat.reduceBEq, ↓reduceIte, Nat.reduceEqDiff, Nat.reduceAdd, Nat.reduceMul, Nat.reduceSub, Int.reduceToNat, reduceCtorEq, Nat.reduceLT, Nat.reduceLeDiff, Int.reduceSub, Int.reduceAdd, Int.reduceNeg, Sat.look hs, Sat.lookA hs, hnx]) | (refine khK he hs ?_; clear he; intro he) | ((first | refine stK hs ?_ | refine stFK hs ?_ | refine stAK hs ?_ | refine msK hs ?_); clear hs; (try clear w); rintro w hs; try simp only [cls] at hs) | ((first | refine al_ok hs ?_ | refine bx_ok hs ?_ | refine bsvK hs ?_ | refine bs1_ok hs ?_ | refine bs0_ok hs ?_); clear hs; (try clear w); rintro _ w hs; try simp only [cls] at hs)))
    exact ⟨(j + 1, a2, c2), by rfl, by rfl, ⟨by dsimp only; omega, hs.sub (.cons_cons _ (List.nil_sublist _))⟩, by dsimp only; omega⟩
  · clear hs
    rintro e ⟨pa, pc⟩ w hs
    dsimp only at hs ⊢
    have hFl : (flat 8 (nats b)).length = 8 * b.length := by rw [flat_len, nats_len]
    generalize flat 8 (nats b) = F at *
    (repeat (first | (simp (disch := first | omega | assumption | exact Option.isSome_some | (simp only [adO_isSome]; assumption)) only [↓vcp, vcs, vct, if_true, if_false, Nat.reduceBEq, ↓reduceIte, Nat.reduceEqDiff, Nat.reduceAdd, Nat.reduceMul, Nat.reduceSub, Int.reduceToNat, reduceCtorEq, Nat.reduceLT, Nat.reduceLeDiff, Int.reduceSub, Int.reduceAdd, Int.reduceNeg, Sat.look hs, Sat.lookA hs]) | (refine khK he hs ?_; clear he; intro he) | ((first | refine stK hs ?_ | refine stFK hs ?_ | refine stAK hs ?_ | refine msK hs ?_); clear hs; (try clear w); rintro w hs; try simp only [cls] at hs) | ((first | refine al_ok hs ?_ | refine bx_ok hs ?_ | refine bsvK hs ?_ | refine bs1_ok hs ?_ | refine bs0_ok hs ?_); clear hs; (try clear w); rintro _ w hs; try simp only [cls] at hs)))
    refine loop_join (σ := Option Addr × Nat) 4 [7] (fun s => [.slice s.1 (width * D.length) s.2]) [1, 2] (fun s w' => VC.Sat (.at w0) [.sl s.1 s.2 ((flat width D).map i64d) 3 1] w') ?_ ?_
    · refine loop_rule (σ := Nat × Option Addr × Nat) [7] (fun s => [.slice s.2.1 (8 * b.length + s.1) s.2.2]) [1, 2] (fun s w' => s.1 ≤ k0 ∧ VC.Sat (.at w0) [.sl s.2.1 s.2.2 ((F ++ List.replicate s.1 0).map i64d) 3 1] w') (fun s _ => k0 - s.1) (0, pa, pc) (by kernel_rfl) (by rfl) ⟨by omega, by dsimp only; rw [List.replicate_zero, List.append_nil]; exact hs⟩ ?_
      clear hs
      rintro e ⟨j, pa, pc⟩ w ⟨hj, hs⟩
      dsimp only at hj hs ⊢
      have htm : ((8 * b.length + j : Nat) : Int).tmod (width : Int) = (((8 * b.length + j) % width : Nat) : Int) := rfl
      have hmd : (8 * b.length + j) % width = 0 ↔ j = k0 := by
        constructor
        · intro h
          have h1 : width ∣ 8 * b.length + j := Nat.dvd_of_mod_eq_zero h
          have h2 : width ∣ 8 * b.length + k0 := ⟨D.length, hflen.symm⟩
          have h3 := Nat.dvd_sub h2 h1
          rw [show 8 * b.length + k0 - (8 * b.length + j) = k0 - j by omega] at h3
          rcases Nat.eq_zero_or_pos (k0 - j) with h4 | h4
          · omega
          · have := Nat.le_of_dvd h4 h3
            omega
        · rintro rfl
          rw [← hflen]
          exact Nat.mul_mod_right _ _
      simp (disch := first | omega | assumption | exact Option.isSome_some | (simp only [adO_isSome]; assumption)) only [↓vcp, vcs, vct, if_true, if_false, Nat.reduceBEq, ↓reduceIte, Nat.reduceEqDiff, Nat.reduceAdd, Nat.reduceMul, Nat.reduceSub, Int.reduceToNat, reduceCtorEq, Nat.reduceLT, Nat.reduceLeDiff, Int.reduceSub, Int.reduceAdd, Int.reduceNeg, Sat.look hs, Sat.lookA hs]
      by_cases hjk : j = k0
      · subst hjk
        have hm0 := hmd.2 rfl
        rw [hm0] at htm
        rw [← hflat] at hs
        (repeat (first | (simp (disch := first | omega | assumption | exact Option.isSome_some | (simp only [adO_isSome]; assumption)) only [↓vcp, vcs, vct, if_true, if_false, Nat.reduceBEq, ↓reduceIte, Nat.reduceEqDiff, Nat.reduceAdd, Nat.reduceMul, Nat.reduceSub, Int.reduceToNat, reduceCtorEq, Nat.reduceLT, Nat.reduceLeDiff, Int.reduceSub, Int.reduceAdd, Int.reduceNeg, Sat.look hs, Sat.lookA hs, htm]) | (refine khK he hs ?_; clear he; intro he) | ((first | refine stK hs ?_ | refine stFK hs ?_ | refine stAK hs ?_ | refine msK hs ?_); clear hs; (try clear w); rintro w hs; try simp only [cls] at hs) | ((first | refine al_ok hs ?_ | refine bx_ok hs ?_ | refine bsvK hs ?_ | refine bs1_ok hs ?_ | refine bs0_ok hs ?_); clear hs; (try clear w); rintro _ w hs; try simp only [cls] at hs)))
        exact ⟨(pa, pc), by dsimp only; rw [hflen]; rfl, by rfl, hs⟩
      · have hm1 : (8 * b.length + j) % width ≠ 0 := fun h => hjk (hmd.1 h)
        have hm2 : ((((8 * b.length + j) % width : Nat) : Int) = 0) = False := eq_false (by omega)
        have hw2 : ((width : Int) = 0) = False := eq_false (by omega)
        have htk : (F ++ List.replicate (j + 1) 0).map i64d = (F ++ List.replicate j 0).map i64d ++ [Value.int .i64 0] := by
          rw [List.replicate_succ', ← List.append_assoc, List.map_append]
          rfl
        have hcl : (F ++ List.replicate j 0).length = 8 * b.length + j := by rw [List.length_append, hFl, List.length_replicate]
        generalize F ++ List.replicate j 0 = Fj at *
        have hcl2 : (Fj.map i64d).length = 8 * b.length + j := by rw [List.length_map]; exact hcl
        (repeat (first | (simp (disch := first | omega | assumption | exact Option.isSome_some | (simp only [adO_isSome]; assumption)) only [↓vcp, vcs, vct, if_true, if_false, Nat.reduceBEq, ↓reduceIte, Nat.reduceEqDiff, Nat.reduceAdd, Nat.reduceMul, Nat.reduceSub, Int.reduceToNat, reduceCtorEq, Nat.reduceLT, Nat.reduceLeDiff, Int.reduceSub, Int.reduceAdd, Int.reduceNeg, Sat.look hs, Sat.lookA hs, htm, hm2]) | (refine khK he hs ?_; clear he; intro he) | ((first | refine stK hs ?_ | refine stFK hs ?_ | refine stAK hs ?_ | refine msK hs ?_); clear hs; (try clear w); rintro w hs; try simp only [cls] at hs) | ((first | refine al_ok hs ?_ | refine bx_ok hs ?_ | refine bsvK hs ?_ | refine bs1_ok hs ?_ | refine bs0_ok hs ?_); clear hs; (try clear w); rintro _ w hs; try simp only [cls] at hs)))
        rename Nat => l1
        refine apK 1 hs (hs.rd (a := some ⟨l1, 0, none⟩)) ?_; clear hs; (try clear w); rintro a2 c2 w hc2 hs; try simp only [cls] at hs
        rw [← htk] at hs
        (repeat (first | (simp (disch := first | omega | assumption | exact Option.isSome_some | (simp only [adO_isSome]; assumption)) only [↓vcp, vcs, vct, if_true, if_false, Nat.reduceBEq, ↓reduceIte, Nat.reduceEqDiff, Nat.reduceAdd, Nat.reduceMul, Nat.reduceSub, Int.reduceToNat, reduceCtorEq, Nat.reduceLT, Nat.reduceLeDiff, Int.reduceSub, Int.reduceAdd, Int.reduceNeg, Sat.look hs, Sat.lookA hs]) | (refine khK he hs ?_; clear he; intro he) | ((first | refine stK hs ?_ | refine stFK hs ?_ | refine stAK hs ?_ | refine msK hs ?_); clear hs; (try clear w); rintro w hs; try simp only [cls] at hs) | ((first | refine al_ok hs ?_ | refine bx_ok hs ?_ | refine bsvK hs ?_ | refine bs1_ok hs ?_ | refine bs0_ok hs ?_); clear hs; (try clear w); rintro _ w hs; try simp only [cls] at hs)))
        exact ⟨(j + 1, a2, c2), by rfl, by rfl, ⟨by dsimp only; omega, hs.sub (.cons_cons _ (List.nil_sublist _))⟩, by dsimp only; omega⟩
    · clear hs
      rintro e ⟨pa, pc⟩ w hs
      dsimp only at hs ⊢
      have hBl : (flat width D).length = width * D.length := flat_len width D
      have hfd := flat_drop width D
      have hdsl := dgs_len base
      have hDl : width * D.length ≤ 8200 := by omega
      have hDl2 : D.length ≤ 8200 := Nat.le_trans (Nat.le_mul_of_pos_left _ hw0) hDl
      have qd := fun w => Rdigits_calls w base
      generalize dgs base = ds at *
      generalize flat width D = FB at *
      replace hs := Sat.nil hs 5 1; try simp only [cls] at hs
      (repeat (first | (simp (disch := first | omega | assumption | exact Option.isSome_some | (simp only [adO_isSome]; assumption)) only [↓vcp, vcs, vct, if_true, if_false, Nat.reduceBEq, ↓reduceIte, Nat.reduceEqDiff, Nat.reduceAdd, Nat.reduceMul, Nat.reduceSub, Int.reduceToNat, reduceCtorEq, Nat.reduceLT, Nat.reduceLeDiff, Int.reduceSub, Int.reduceAdd, Int.reduceNeg, Sat.look hs, Sat.lookA hs]) | (refine khK he hs ?_; clear he; intro he) | ((first | refine stK hs ?_ | refine stFK hs ?_ | refine stAK hs ?_ | refine msK hs ?_); clear hs; (try clear w); rintro w hs; try simp only [cls] at hs) | ((first | refine al_ok hs ?_ | refine bx_ok hs ?_ | refine bsvK hs ?_ | refine bs1_ok hs ?_ | refine bs0_ok hs ?_); clear hs; (try clear w); rintro _ w hs; try simp only [cls] at hs)))
      refine loop_rule (σ := Nat × Option Addr × Nat × List UInt8) [11, 10] (fun s => [.int .i64 ((width * s.1 : Nat) : Int), .slice s.2.1 s.2.2.2.length s.2.2.1]) [1, 2, 7] (fun s w' => s.1 ≤ D.length ∧ s.2.2.2.length = s.1 ∧ s.2.2.2 ++ ((D.drop s.1).map fun d => ds.getD d 0) = (D.map fun d => ds.getD d 0) ∧ VC.Sat (.at w0) [.sl pa pc (FB.map i64d) 3 1, .sl s.2.1 s.2.2.1 (s.2.2.2.map u8v) 5 1] w') (fun s _ => D.length - s.1) (0, none, 0, []) (by kernel_rfl) (by rfl) ⟨Nat.zero_le _, rfl, by dsimp only; rw [List.drop_zero, List.nil_append], hs⟩ ?_
      clear hs
      rintro e ⟨t, oa, oc, out⟩ w ⟨ht, hol, heq, hs⟩
      dsimp only at ht hol heq hs ⊢
      have hmt : width * t ≤ width * D.length := Nat.mul_le_mul_left _ ht
      simp (disch := first | omega | assumption | exact Option.isSome_some | (simp only [adO_isSome]; assumption)) only [↓vcp, vcs, vct, if_true, if_false, Nat.reduceBEq, ↓reduceIte, Nat.reduceEqDiff, Nat.reduceAdd, Nat.reduceMul, Nat.reduceSub, Int.reduceToNat, reduceCtorEq, Nat.reduceLT, Nat.reduceLeDiff, Int.reduceSub, Int.reduceAdd, Int.reduceNeg, Sat.look hs, Sat.lookA hs]
      by_cases hlt : t < D.length
      case neg =>
        obtain rfl : t = D.length := by omega
        rw [List.drop_length, List.map_nil, List.append_nil] at heq
        subst heq
        (repeat (first | (simp (disch := first | omega | assumption | exact Option.isSome_some | (simp only [adO_isSome]; assumption)) only [↓vcp, vcs, vct, if_true, if_false, Nat.reduceBEq, ↓reduceIte, Nat.reduceEqDiff, Nat.reduceAdd, Nat.reduceMul, Nat.reduceSub, Int.reduceToNat, reduceCtorEq, Nat.reduceLT, Nat.reduceLeDiff, Int.reduceSub, Int.reduceAdd, Int.reduceNeg, Sat.look hs, Sat.lookA hs]) | (refine khK he hs ?_; clear he; intro he) | ((first | refine stK hs ?_ | refine stFK hs ?_ | refine stAK hs ?_ | refine msK hs ?_); clear hs; (try clear w); rintro w hs; try simp only [cls] at hs) | ((first | refine al_ok hs ?_ | refine bx_ok hs ?_ | refine bsvK hs ?_ | refine bs1_ok hs ?_ | refine bs0_ok hs ?_); clear hs; (try clear w); rintro _ w hs; try simp only [cls] at hs)))
        rw [m_strOfL (xs := D.map fun d => ds.getD d 0) 49 9 (hs.rd (a := oa)) rfl]
        (repeat (first | (simp (disch := first | omega | assumption | exact Option.isSome_some | (simp only [adO_isSome]; assumption)) only [↓vcp, vcs, vct, if_true, if_false, Nat.reduceBEq, ↓reduceIte, Nat.reduceEqDiff, Nat.reduceAdd, Nat.reduceMul, Nat.reduceSub, Int.reduceToNat, reduceCtorEq, Nat.reduceLT, Nat.reduceLeDiff, Int.reduceSub, Int.reduceAdd, Int.reduceNeg, Sat.look hs, Sat.lookA hs]) | (refine khK he hs ?_; clear he; intro he) | ((first | refine stK hs ?_ | refine stFK hs ?_ | refine stAK hs ?_ | refine msK hs ?_); clear hs; (try clear w); rintro w hs; try simp only [cls] at hs) | ((first | refine al_ok hs ?_ | refine bx_ok hs ?_ | refine bsvK hs ?_ | refine bs1_ok hs ?_ | refine bs0_ok hs ?_); clear hs; (try clear w); rintro _ w hs; try simp only [cls] at hs)))
        exact ret_tmp rfl (hR _ _ ⟨rfl, hs.belowAt⟩)
      obtain ⟨d, hd⟩ : ∃ d, D[t]? = some d := ⟨_, List.getElem?_eq_getElem hlt⟩
      have hdw := hdl d (List.mem_of_getElem? hd)
      have hfdt := hfd t d hd
      have hmlt : width * (t + 1) ≤ width * D.length := Nat.mul_le_mul_left _ hlt
      rw [Nat.mul_add, Nat.mul_one] at hmlt
      have hlt2 : width * t < width * D.length := by omega
      (repeat (first | (simp (disch := first | omega | assumption | exact Option.isSome_some | (simp only [adO_isSome]; assumption)) only [↓vcp, vcs, vct, if_true, if_false, Nat.reduceBEq, ↓reduceIte, Nat.reduceEqDiff, Nat.reduceAdd, Nat.reduceMul, Nat.reduceSub, Int.reduceToNat, reduceCtorEq, Nat.reduceLT, Nat.reduceLeDiff, Int.reduceSub, Int.reduceAdd, Int.reduceNeg, Sat.look hs, Sat.lookA hs]) | (refine khK he hs ?_; clear he; intro he) | ((first | refine stK hs ?_ | refine stFK hs ?_ | refine stAK hs ?_ | refine msK hs ?_); clear hs; (try clear w); rintro w hs; try simp only [cls] at hs) | ((first | refine al_ok hs ?_ | refine bx_ok hs ?_ | refine bsvK hs ?_ | refine bs1_ok hs ?_ | refine bs0_ok hs ?_); clear hs; (try clear w); rintro _ w hs; try simp only [cls] at hs)))
      have hnext : width * (t + 1) = width * t + width := by rw [Nat.mul_add, Nat.mul_one]
      have hget : ∀ k, k < width → (FB.map i64d)[width * t + k]? = some (.int .i64 ((d / 2 ^ (width - 1 - k) % 2 : Nat) : Int)) := fun k hk => by
        have h1 : (FB.drop (width * t))[k]? = some (d / 2 ^ (width - 1 - k) % 2) := by
          rw [hfdt, List.getElem?_append_left (by rw [bof_len]; exact hk)]
          exact bof_get width d k hk
        rw [List.getElem?_drop] at h1
        exact i64d_get h1
      have hBl2 : (FB.map i64d).length = width * D.length := by rw [List.length_map]; exact hBl
      have hps : pa.isSome = true := hs.isSome (a := pa) (xs := FB.map i64d) (by rw [hBl2]; omega)
      generalize width * t = M at *
      generalize width * D.length = WD at *
      refine loop_join (σ := Unit) 8 [12] (fun _ => [.int .i64 d]) [1, 2, 7, 10, 11] (fun _ w' => VC.Sat (.at w0) [.sl pa pc (FB.map i64d) 3 1, .sl oa oc (out.map u8v) 5 1] w') ?_ ?_
      · refine loop_rule (σ := Nat) [12, 13] (fun s => [.int .i64 ((bnum ((bof width d).take s) 0 : Nat) : Int), .int .i64 s]) [1, 2, 7, 10, 11] (fun s w' => s ≤ width ∧ VC.Sat (.at w0) [.sl pa pc (FB.map i64d) 3 1, .sl oa oc (out.map u8v) 5 1] w') (fun s _ => width - s) 0 (by kernel_rfl) (by rfl) ⟨Nat.zero_le _, hs⟩ ?_
        clear hs
        rintro e k w ⟨hk, hs⟩
        have hnl : bnum ((bof width d).take k) 0 < 2 ^ 8 := bnum_lt _ 8 (fun b hb => bof_bits width d b (List.mem_of_mem_take hb)) (by rw [List.length_take, bof_len]; omega)
        simp (disch := first | omega | assumption | exact Option.isSome_some | (simp only [adO_isSome]; assumption)) only [↓vcp, vcs, vct, if_true, if_false, Nat.reduceBEq, ↓reduceIte, Nat.reduceEqDiff, Nat.reduceAdd, Nat.reduceMul, Nat.reduceSub, Int.reduceToNat, reduceCtorEq, Nat.reduceLT, Nat.reduceLeDiff, Int.reduceSub, Int.reduceAdd, Int.reduceNeg, Sat.look hs, Sat.lookA hs]
        by_cases hkw : k < width
        case neg =>
          obtain rfl : k = width := by omega
          rw [List.take_of_length_le (by rw [bof_len]; exact Nat.le_refl _), bnum_bof, Nat.zero_mul, Nat.zero_add, Nat.mod_eq_of_lt hdw]
          (repeat (first | (simp (disch := first | omega | assumption | exact Option.isSome_some | (simp only [adO_isSome]; assumption)) only [↓vcp, vcs, vct, if_true, if_false, Nat.reduceBEq, ↓reduceIte, Nat.reduceEqDiff, Nat.reduceAdd, Nat.reduceMul, Nat.reduceSub, Int.reduceToNat, reduceCtorEq, Nat.reduceLT, Nat.reduceLeDiff, Int.reduceSub, Int.reduceAdd, Int.reduceNeg, Sat.look hs, Sat.lookA hs]) | (refine khK he hs ?_; clear he; intro he) | ((first | refine stK hs ?_ | refine stFK hs ?_ | refine stAK hs ?_ | refine msK hs ?_); clear hs; (try clear w); rintro w hs; try simp only [cls] at hs) | ((first | refine al_ok hs ?_ | refine bx_ok hs ?_ | refine bsvK hs ?_ | refine bs1_ok hs ?_ | refine bs0_ok hs ?_); clear hs; (try clear w); rintro _ w hs; try simp only [cls] at hs)))
          exact ⟨(), by rfl, by rfl, hs⟩
        have hsn : bnum ((bof width d).take (k + 1)) 0 = 2 * bnum ((bof width d).take k) 0 + d / 2 ^ (width - 1 - k) % 2 := by
          rw [List.take_add_one, bof_get width d k hkw]
          exact bnum_snoc _ _ _
        have hgk := hget k hkw
        have hbit : d / 2 ^ (width - 1 - k) % 2 < 2 := Nat.mod_lt _ (by omega)
        generalize d / 2 ^ (width - 1 - k) % 2 = bit at *
        generalize bnum ((bof width d).take k) 0 = n at *
        have hmul : (2 : Int) * (n : Int) = ((2 * n : Nat) : Int) := by omega
        have hadd : ((2 * n : Nat) : Int) + (bit : Int) = ((2 * n + bit : Nat) : Int) := by omega
        have hidx : (M : Int) + (k : Int) = ((M + k : Nat) : Int) := by omega
        have hn512 : 2 * n + bit < 1024 := by omega
        rw [← hsn] at hadd hn512
        generalize hN : bnum ((bof width d).take (k + 1)) 0 = N at *
        (repeat (first | (simp (disch := first | omega | assumption | exact Option.isSome_some | (simp only [adO_isSome]; assumption)) only [↓vcp, vcs, vct, if_true, if_false, Nat.reduceBEq, ↓reduceIte, Nat.reduceEqDiff, Nat.reduceAdd, Nat.reduceMul, Nat.reduceSub, Int.reduceToNat, reduceCtorEq, Nat.reduceLT, Nat.reduceLeDiff, Int.reduceSub, Int.reduceAdd, Int.reduceNeg, Sat.look hs, Sat.lookA hs, hmul, hadd, hidx, hgk]) | (refine khK he hs ?_; clear he; intro he) | ((first | refine stK hs ?_ | refine stFK hs ?_ | refine stAK hs ?_ | refine msK hs ?_); clear hs; (try clear w); rintro w hs; try simp only [cls] at hs; try simp only [hBl2] at hs) | ((first | refine al_ok hs ?_ | refine bx_ok hs ?_ | refine bsvK hs ?_ | refine bs1_ok hs ?_ | refine bs0_ok hs ?_); clear hs; (try clear w); rintro _ w hs; try simp only [cls] at hs; try simp only [hBl2] at hs) | ((first | refine stK hs ?_ (by first | omega | (simp only [hBl2, cells_bk, cells_sl, List.length_cons, List.length_nil, List.length_set, List.length_append, List.length_map, List.length_replicate, List.length_take, List.length_drop]; omega) | assumption | rfl) | refine stFK hs ?_ (by first | omega | (simp only [hBl2, cells_bk, cells_sl, List.length_cons, List.length_nil, List.length_set, List.length_append, List.length_map, List.length_replicate, List.length_take, List.length_drop]; omega) | assumption | rfl) (by first | omega | (simp only [hBl2, cells_bk, cells_sl, List.length_cons, List.length_nil, List.length_set, List.length_append, List.length_map, List.length_replicate, List.length_take, List.length_drop]; omega) | assumption | rfl) | refine stAK hs ?_ (by first | omega | (simp only [hBl2, cells_bk, cells_sl, List.length_cons, List.length_nil, List.length_set, List.length_append, List.length_map, List.length_replicate, List.length_take, List.length_drop]; omega) | assumption | rfl) (by first | omega | (simp only [hBl2, cells_bk, cells_sl, List.length_cons, List.length_nil, List.length_set, List.length_append, List.length_map, List.length_replicate, List.length_take, List.length_drop]; omega) | assumption | rfl) | refine msK hs ?_ (by first | omega | (simp only [hBl2, cells_bk, cells_sl, List.length_cons, List.length_nil, List.length_set, List.length_append, List.length_map, List.length_replicate, List.length_take, List.length_drop]; omega) | assumption | rfl)); clear hs; (try clear w); rintro w hs; try simp only [cls] at hs; try simp only [hBl2] at hs)))
        exact ⟨k + 1, by dsimp only; rw [hN]; rfl, by rfl, ⟨by omega, hs⟩, by dsimp only; omega⟩
      · clear hs
        rintro e _ w hs
        have hdd : d < ds.length := by rw [hds]; exact hdw
        have hbt : bt ⟨ds.toArray⟩ d = ((ds.getD d 0).toNat : Int) := by
          rw [bt_list ds d hdd]
          simp only [List.getD, List.getElem?_eq_getElem hdd, Option.getD_some]
        have hdz : d < (ByteArray.mk ds.toArray).size := by rw [ba_size]; exact hdd
        have heq2 : (out ++ [ds.getD d 0]) ++ ((D.drop (t + 1)).map fun d => ds.getD d 0) = (D.map fun d => ds.getD d 0) := by
          rw [← heq, List.drop_eq_getElem_cons hlt]
          rw [List.getElem?_eq_getElem hlt] at hd
          rw [Option.some.inj hd]
          simp
        generalize hch : ds.getD d 0 = ch at *
        have hMw : (M : Int) + (width : Int) = ((width * (t + 1) : Nat) : Int) := by omega
        (repeat (first | (simp (disch := first | omega | assumption | exact Option.isSome_some | (simp only [adO_isSome]; assumption)) only [↓vcp, vcs, vct, if_true, if_false, Nat.reduceBEq, ↓reduceIte, Nat.reduceEqDiff, Nat.reduceAdd, Nat.reduceMul, Nat.reduceSub, Int.reduceToNat, reduceCtorEq, Nat.reduceLT, Nat.reduceLeDiff, Int.reduceSub, Int.reduceAdd, Int.reduceNeg, Sat.look hs, Sat.lookA hs, hbt]) | (refine khK he hs ?_; clear he; intro he) | ((first | refine stK hs ?_ | refine stFK hs ?_ | refine stAK hs ?_ | refine msK hs ?_); clear hs; (try clear w); rintro w hs; try simp only [cls] at hs) | ((first | refine al_ok hs ?_ | refine bx_ok hs ?_ | refine bsvK hs ?_ | refine bs1_ok hs ?_ | refine bs0_ok hs ?_); clear hs; (try clear w); rintro _ w hs; try simp only [cls] at hs) | (refine call_ok (by kernel_rfl) (qd _) ?_; rintro _ _ ⟨rfl, rfl⟩; rw [callK_ret]) | (refine call_still (by kernel_rfl) (qd _) ?_)))
        rename Nat => l1
        refine apK 1 hs (hs.rd (a := some ⟨l1, 0, none⟩)) ?_; clear hs; (try clear w); rintro a2 c2 w hc2 hs; try simp only [cls] at hs
        have e1 : out.map u8v ++ [Value.int .u8 (ch.toNat : Int)] = (out ++ [ch]).map u8v := by simp [u8v]
        rw [e1] at hs
        rw [show out.length + 1 = (out ++ [ch]).length by simp] at hc2 ⊢
        (repeat (first | (simp (disch := first | omega | assumption | exact Option.isSome_some | (simp only [adO_isSome]; assumption)) only [↓vcp, vcs, vct, if_true, if_false, Nat.reduceBEq, ↓reduceIte, Nat.reduceEqDiff, Nat.reduceAdd, Nat.reduceMul, Nat.reduceSub, Int.reduceToNat, reduceCtorEq, Nat.reduceLT, Nat.reduceLeDiff, Int.reduceSub, Int.reduceAdd, Int.reduceNeg, Sat.look hs, Sat.lookA hs, hMw]) | (refine khK he hs ?_; clear he; intro he) | ((first | refine stK hs ?_ | refine stFK hs ?_ | refine stAK hs ?_ | refine msK hs ?_); clear hs; (try clear w); rintro w hs; try simp only [cls] at hs) | ((first | refine al_ok hs ?_ | refine bx_ok hs ?_ | refine bsvK hs ?_ | refine bs1_ok hs ?_ | refine bs0_ok hs ?_); clear hs; (try clear w); rintro _ w hs; try simp only [cls] at hs) | (refine call_ok (by kernel_rfl) (qd _) ?_; rintro _ _ ⟨rfl, rfl⟩; rw [callK_ret]) | (refine call_still (by kernel_rfl) (qd _) ?_)))
        exact ⟨(t + 1, a2, c2, out ++ [ch]), by rfl, by rfl, ⟨by dsimp only; omega, by dsimp only; rw [List.length_append, List.length_singleton]; omega, heq2, hs.sub (.cons_cons _ (.cons_cons _ (List.nil_sublist _)))⟩, by dsimp only; omega⟩
end Go.Proofs.YtokoohdpakhphaaDoor.Lnk
namespace Go.Proofs.YtokoohdpakhphaaDoor.Lnk
open Go VC Go.RowKit
set_option linter.unusedSimpArgs false
set_option linter.unusedVariables false
set_option maxRecDepth 20000
set_option maxHeartbeats 4000000
/-- the digits of a text, none where one is no digit -/
def valsL (ds : List UInt8) : List UInt8 → Option (List Nat)
  | [] => some []
  | x :: xs => if Lib.indexByte ds x < 0 then none else (valsL ds xs).map ((Lib.indexByte ds x).toNat :: ·)
theorem gago_vals (bits : Nat) (ds : List UInt8) : ∀ (s : List UInt8) (n h : Nat) (out : List UInt8), (gago bits ds s n h out = none ↔ valsL ds s = none)
  | [], n, h, out => by simp [gago, valsL]
  | x :: xs, n, h, out => by
    unfold gago valsL
    split
    · simp
    · split
      · rw [gago_vals bits ds xs]; simp
      · rw [gago_vals bits ds xs]; simp
theorem valsL_map (ds : List UInt8) (ha : apart ds) : ∀ (s : List UInt8) (vs : List Nat), s = vs.map (fun d => ds.getD d 0) → (∀ v ∈ vs, v < ds.length) → valsL ds s = some vs
  | _, [], rfl, _ => rfl
  | _, v :: vs, rfl, h => by
    have e := ha v (h v (List.mem_cons_self ..))
    have ih := valsL_map ds ha (vs.map fun d => ds.getD d 0) vs rfl fun x hx => h x (List.mem_cons_of_mem _ hx)
    rw [List.map_cons]
    unfold valsL
    rw [e, if_neg (by omega), ih, Int.toNat_natCast]
    rfl
/-- what is read by bits is what gather reads -/
theorem gather_vals (bits : Nat) (hb : 0 < bits) (hb8 : bits ≤ 8) (ds : List UInt8) (hds : ds.length = 2 ^ bits) (ha : apart ds) (s : List UInt8) :
    (valsL ds s = none ∧ gatherL bits ds s = ([], false)) ∨ ∃ (vs : List Nat) (os : List UInt8) (h n : Nat), valsL ds s = some vs ∧ vs.length = s.length ∧ (∀ v ∈ vs, v < 2 ^ bits) ∧ h < 8 ∧ flat 8 (nats os) ++ bof h n = flat bits vs ∧ gatherL bits ds s = (os, decide (spreadL bits ds os = s)) := by
  cases hg : gago bits ds s 0 0 [] with
  | none =>
    refine .inl ⟨(gago_vals bits ds s 0 0 []).1 hg, ?_⟩
    unfold gatherL
    rw [hg]
  | some r =>
    obtain ⟨vs, os, e1, e2, e3, e4, e5, e6⟩ := gago_flat bits hb hb8 ds hds s 0 0 [] r (by decide) (by omega) hg
    refine .inr ⟨vs, os, r.2.2, r.2.1, valsL_map ds ha s vs e1 (by rw [hds]; exact e2), by rw [e1, List.length_map], e2, e6, by simpa [bof] using e4, ?_⟩
    rw [List.nil_append] at e3
    have hG : gatherL bits ds s = (os, decide (r.2.1 = 0 ∧ r.2.2 < bits)) := by
      unfold gatherL
      rw [hg]
      obtain ⟨r1, r2, r3⟩ := r
      dsimp only at e3 ⊢
      rw [e3]
    by_cases hs : spreadL bits ds os = s
    · have h1 := gather_spread bits hb hb8 ds hds ha os
      rw [hs] at h1
      rw [h1, decide_eq_true hs]
    · rw [hG, decide_eq_false hs]
      congr 1
      refine decide_eq_false fun h => hs (spread_gather bits hb hb8 ds hds s os ?_)
      rw [hG, decide_eq_true h]
theorem valsL_step (ds : List UInt8) {s : List UInt8} {i : Nat} {x : UInt8} (h : s[i]? = some x) : valsL ds (s.drop i) = if Lib.indexByte ds x < 0 then none else (valsL ds (s.drop (i + 1))).map ((Lib.indexByte ds x).toNat :: ·) := by
  obtain ⟨hl, he⟩ := List.getElem?_eq_some_iff.1 h
  rw [List.drop_eq_getElem_cons hl, he]
  rfl
theorem inBits_calls (w0 : World) (s : List UInt8) (base width : Nat) (hw0 : 0 < width) (hw8 : width ≤ 8) (hds : (dgs base).length = 2 ^ width) (ha : apart (dgs base)) (hl : s.length ≤ 256) :
    Calls Tryd.prog 43 #[.string ⟨s.toArray⟩, .int .i64 base, .int .i64 width] w0 fun e w' => ∃ a' c', e = .returned (.tuple #[.slice a' (gatherL width (dgs base) s).1.length c', .bool (gatherL width (dgs base) s).2]) ∧ (gatherL width (dgs base) s).1.length ≤ c' ∧ VC.Sat (.at w0) [.sl a' c' ((gatherL width (dgs base) s).1.map u8v) 5 1] w' := by
  refine calls_vc Tryd.func43 rfl (by kernel_rfl) (by kernel_rfl) ?_; intro R hR
  have hs := Sat.start w0
  have hss : (ByteArray.mk s.toArray).size = s.length := ba_size s
  have hgv := gather_vals width hw0 hw8 (dgs base) hds ha s
  have hst := fun (i : Nat) (x : UInt8) (h : s[i]? = some x) => valsL_step (dgs base) h
  have hidx := fun (x : UInt8) => indexByte_lt (dgs base) x
  have qv := fun w x => Rvalue_calls w base x
  have qo := fun w a c b h1 h2 => ofBits_calls w a c b base width hw0 hw8 hds h1 h2
  rw [hds] at hidx
  generalize dgs base = ds at *
  generalize gatherL width ds s = R2 at *
  generalize hV : valsL ds s = V at *
  have hw256 : 2 ^ width ≤ 256 := Nat.pow_le_pow_right (n := 2) (by decide) hw8
  (repeat (first | (simp (disch := first | omega | assumption | exact Option.isSome_some | (simp only [adO_isSome]; assumption)) only [↓vcp, vcs, vct, if_true, if_false, Nat.reduceBEq, ↓reduceIte, Nat.reduceEqDiff, Nat.reduceAdd, Nat.reduceMul, Nat.reduceSub, Int.reduceToNat, reduceCtorEq, Nat.reduceLT, Nat.reduceLeDiff, Int.reduceSub, Int.reduceAdd, Int.reduceNeg, Sat.look hs, Sat.lookA hs]) | (refine khK he hs ?_; clear he; intro he) | ((first | refine stK hs ?_ | refine stFK hs ?_ | refine stAK hs ?_ | refine msK hs ?_); clear hs; (try clear w); rintro w hs; try simp only [cls] at hs) | ((first | refine al_ok hs ?_ | refine bx_ok hs ?_ | refine bsvK hs ?_ | refine bs1_ok hs ?_ | refine bs0_ok hs ?_); clear hs; (try clear w); rintro _ w hs; try simp only [cls] at hs)))
  replace hs := Sat.nil hs 3 1; try simp only [cls] at hs
  (repeat (first | (simp (disch := first | omega | assumption | exact Option.isSome_some | (simp only [adO_isSome]; assumption)) only [↓vcp, vcs, vct, if_true, if_false, Nat.reduceBEq, ↓reduceIte, Nat.reduceEqDiff, Nat.reduceAdd, Nat.reduceMul, Nat.reduceSub, Int.reduceToNat, reduceCtorEq, Nat.reduceLT, Nat.reduceLeDiff, Int.reduceSub, Int.reduceAdd, Int.reduceNeg, Sat.look hs, Sat.lookA hs, hss]) | (refine khK he hs ?_; clear he; intro he) | ((first | refine stK hs ?_ | refine stFK hs ?_ | refine stAK hs ?_ | refine msK hs ?_); clear hs; (try clear w); rintro w hs; try simp only [cls] at hs) | ((first | refine al_ok hs ?_ | refine bx_ok hs ?_ | refine bsvK hs ?_ | refine bs1_ok hs ?_ | refine bs0_ok hs ?_); clear hs; (try clear w); rintro _ w hs; try simp only [cls] at hs)))
  -- the digits' bits, or a fault
  refine loop_join (σ := Option Addr × Nat × List Nat) 0 [8] (fun x => [.slice x.1 (width * x.2.2.length) x.2.1]) [0, 1, 2] (fun x w' => V = some x.2.2 ∧ VC.Sat (.at w0) [.sl x.1 x.2.1 ((flat width x.2.2).map i64d) 3 1] w') ?_ ?_
  · refine loop_rule (σ := Nat × Option Addr × Nat × List Nat) [9, 8] (fun x => [.int .i64 x.1, .slice x.2.1 (width * x.2.2.2.length) x.2.2.1]) [0, 1, 2] (fun x w' => x.1 ≤ s.length ∧ x.2.2.2.length = x.1 ∧ V = (valsL ds (s.drop x.1)).map (x.2.2.2 ++ ·) ∧ VC.Sat (.at w0) [.sl x.2.1 x.2.2.1 ((flat width x.2.2.2).map i64d) 3 1] w') (fun x _ => s.length - x.1) (0, none, 0, []) (by kernel_rfl) (by rfl) ⟨Nat.zero_le _, rfl, by dsimp only; rw [List.drop_zero, hV]; cases V <;> rfl, hs⟩ ?_
    clear hs
    rintro e ⟨i, pa, pc, vs⟩ w ⟨hi, hvl, hVi, hs⟩
    dsimp only at hi hvl hVi hs ⊢
    simp (disch := first | omega | assumption | exact Option.isSome_some | (simp only [adO_isSome]; assumption)) only [↓vcp, vcs, vct, if_true, if_false, Nat.reduceBEq, ↓reduceIte, Nat.reduceEqDiff, Nat.reduceAdd, Nat.reduceMul, Nat.reduceSub, Int.reduceToNat, reduceCtorEq, Nat.reduceLT, Nat.reduceLeDiff, Int.reduceSub, Int.reduceAdd, Int.reduceNeg, Sat.look hs, Sat.lookA hs]
    by_cases hlt : i < s.length
    case neg =>
      obtain rfl : i = s.length := by omega
      rw [List.drop_length] at hVi
      have hVi : V = some vs := by rw [hVi]; show some (vs ++ []) = _; rw [List.append_nil]
      (repeat (first | (simp (disch := first | omega | assumption | exact Option.isSome_some | (simp only [adO_isSome]; assumption)) only [↓vcp, vcs, vct, if_true, if_false, Nat.reduceBEq, ↓reduceIte, Nat.reduceEqDiff, Nat.reduceAdd, Nat.reduceMul, Nat.reduceSub, Int.reduceToNat, reduceCtorEq, Nat.reduceLT, Nat.reduceLeDiff, Int.reduceSub, Int.reduceAdd, Int.reduceNeg, Sat.look hs, Sat.lookA hs, hss]) | (refine khK he hs ?_; clear he; intro he) | ((first | refine stK hs ?_ | refine stFK hs ?_ | refine stAK hs ?_ | refine msK hs ?_); clear hs; (try clear w); rintro w hs; try simp only [cls] at hs) | ((first | refine al_ok hs ?_ | refine bx_ok hs ?_ | refine bsvK hs ?_ | refine bs1_ok hs ?_ | refine bs0_ok hs ?_); clear hs; (try clear w); rintro _ w hs; try simp only [cls] at hs)))
      exact ⟨(pa, pc, vs), by rfl, by rfl, hVi, hs⟩
    obtain ⟨x, hxi⟩ : ∃ x, s[i]? = some x := ⟨_, List.getElem?_eq_getElem hlt⟩
    have hbt : bt ⟨s.toArray⟩ i = (x.toNat : Int) := by
      rw [bt_list s i hlt]
      rw [List.getElem?_eq_getElem hlt] at hxi
      rw [Option.some.inj hxi]
    have hdz : i < (ByteArray.mk s.toArray).size := by rw [ba_size]; exact hlt
    have hx256 := x.toNat_lt
    rw [hst i x hxi] at hVi
    have hil := hidx x
    have qvx := fun w => qv w x
    generalize Lib.indexByte ds x = dg at *
    (repeat (first | (simp (disch := first | omega | assumption | exact Option.isSome_some | (simp only [adO_isSome]; assumption)) only [↓vcp, vcs, vct, if_true, if_false, Nat.reduceBEq, ↓reduceIte, Nat.reduceEqDiff, Nat.reduceAdd, Nat.reduceMul, Nat.reduceSub, Int.reduceToNat, reduceCtorEq, Nat.reduceLT, Nat.reduceLeDiff, Int.reduceSub, Int.reduceAdd, Int.reduceNeg, Sat.look hs, Sat.lookA hs, hbt, hss]) | (refine khK he hs ?_; clear he; intro he) | ((first | refine stK hs ?_ | refine stFK hs ?_ | refine stAK hs ?_ | refine msK hs ?_); clear hs; (try clear w); rintro w hs; try simp only [cls] at hs) | ((first | refine al_ok hs ?_ | refine bx_ok hs ?_ | refine bsvK hs ?_ | refine bs1_ok hs ?_ | refine bs0_ok hs ?_); clear hs; (try clear w); rintro _ w hs; try simp only [cls] at hs)))
    refine call_ok (by kernel_rfl) (qvx _) ?_; rintro _ w2 ⟨rfl, hb⟩; rw [callK_ret]; replace hs := Sat.add hs (Below.sat hb); clear hb; (try clear w); rename World => w; try simp only [cls] at hs
    (repeat (first | (simp (disch := first | omega | assumption | exact Option.isSome_some | (simp only [adO_isSome]; assumption)) only [↓vcp, vcs, vct, if_true, if_false, Nat.reduceBEq, ↓reduceIte, Nat.reduceEqDiff, Nat.reduceAdd, Nat.reduceMul, Nat.reduceSub, Int.reduceToNat, reduceCtorEq, Nat.reduceLT, Nat.reduceLeDiff, Int.reduceSub, Int.reduceAdd, Int.reduceNeg, Sat.look hs, Sat.lookA hs]) | (refine khK he hs ?_; clear he; intro he) | ((first | refine stK hs ?_ | refine stFK hs ?_ | refine stAK hs ?_ | refine msK hs ?_); clear hs; (try clear w); rintro w hs; try simp only [cls] at hs) | ((first | refine al_ok hs ?_ | refine bx_ok hs ?_ | refine bsvK hs ?_ | refine bs1_ok hs ?_ | refine bs0_ok hs ?_); clear hs; (try clear w); rintro _ w hs; try simp only [cls] at hs)))
    by_cases hneg : dg < 0
    · rw [if_pos hneg] at hVi
      have hVn : V = none := hVi
      have hR2 : R2 = ([], false) := by
        rcases hgv with h | ⟨vs, os, h, n, h1, _⟩
        · exact h.2
        · rw [hVn] at h1; cases h1
      subst hR2
      dsimp only at hR
      (repeat (first | (simp (disch := first | omega | assumption | exact Option.isSome_some | (simp only [adO_isSome]; assumption)) only [↓vcp, vcs, vct, if_true, if_false, Nat.reduceBEq, ↓reduceIte, Nat.reduceEqDiff, Nat.reduceAdd, Nat.reduceMul, Nat.reduceSub, Int.reduceToNat, reduceCtorEq, Nat.reduceLT, Nat.reduceLeDiff, Int.reduceSub, Int.reduceAdd, Int.reduceNeg, Sat.look hs, Sat.lookA hs]) | (refine khK he hs ?_; clear he; intro he) | ((first | refine stK hs ?_ | refine stFK hs ?_ | refine stAK hs ?_ | refine msK hs ?_); clear hs; (try clear w); rintro w hs; try simp only [cls] at hs) | ((first | refine al_ok hs ?_ | refine bx_ok hs ?_ | refine bsvK hs ?_ | refine bs1_ok hs ?_ | refine bs0_ok hs ?_); clear hs; (try clear w); rintro _ w hs; try simp only [cls] at hs)))
      replace hs := Sat.nil hs 5 1; try simp only [cls] at hs
      exact ret_tmp2 rfl (hR _ _ ⟨none, 0, rfl, by simp, hs.sub (.cons _ (List.Sublist.refl _))⟩)
    rw [if_neg hneg] at hVi
    obtain ⟨d, rfl⟩ := Int.eq_ofNat_of_zero_le (show 0 ≤ dg by omega)
    rw [Int.toNat_natCast] at hVi
    have hd : d < 2 ^ width := by omega
    have hVn : V = (valsL ds (s.drop (i + 1))).map ((vs ++ [d]) ++ ·) := by
      rw [hVi]
      cases valsL ds (s.drop (i + 1)) with
      | none => rfl
      | some l => simp
    have hfs : flat width (vs ++ [d]) = flat width vs ++ bof width d := by
      rw [flat_app]
      simp [flat]
    have hFl : (flat width vs).length = width * i := by rw [flat_len, hvl]
    have hwi : width * i ≤ 8 * 256 := Nat.mul_le_mul hw8 (by omega)
    have hwi1 : width * (vs ++ [d]).length = width * i + width := by rw [List.length_append, List.length_singleton, hvl, Nat.mul_add, Nat.mul_one]
    rw [hvl]
    clear hVi
    generalize flat width vs = Fi at *
    generalize hM : width * i = M at *
    (repeat (first | (simp (disch := first | omega | assumption | exact Option.isSome_some | (simp only [adO_isSome]; assumption)) only [↓vcp, vcs, vct, if_true, if_false, Nat.reduceBEq, ↓reduceIte, Nat.reduceEqDiff, Nat.reduceAdd, Nat.reduceMul, Nat.reduceSub, Int.reduceToNat, reduceCtorEq, Nat.reduceLT, Nat.reduceLeDiff, Int.reduceSub, Int.reduceAdd, Int.reduceNeg, Sat.look hs, Sat.lookA hs]) | (refine khK he hs ?_; clear he; intro he) | ((first | refine stK hs ?_ | refine stFK hs ?_ | refine stAK hs ?_ | refine msK hs ?_); clear hs; (try clear w); rintro w hs; try simp only [cls] at hs) | ((first | refine al_ok hs ?_ | refine bx_ok hs ?_ | refine bsvK hs ?_ | refine bs1_ok hs ?_ | refine bs0_ok hs ?_); clear hs; (try clear w); rintro _ w hs; try simp only [cls] at hs)))
    refine loop_rule (σ := Nat × Option Addr × Nat) [11, 8] (fun x => [.int .i64 ((width : Int) - 1 - (x.1 : Int)), .slice x.2.1 (M + x.1) x.2.2]) [0, 1, 2, 9, 10] (fun x w' => x.1 ≤ width ∧ VC.Sat (.at w0) [.sl x.2.1 x.2.2 ((Fi ++ (bof width d).take x.1).map i64d) 3 1] w') (fun x _ => width - x.1) (0, pa, pc) (by kernel_rfl) (by dsimp only; rw [show (width : Int) - 1 - ((0 : Nat) : Int) = (width : Int) - 1 by omega]; rfl) ⟨by omega, by dsimp only; rw [List.take_zero, List.append_nil]; exact hs⟩ ?_
    clear hs
    rintro e ⟨j, pa, pc⟩ w ⟨hj, hs⟩
    dsimp only at hj hs ⊢
    simp (disch := first | omega | assumption | exact Option.isSome_some | (simp only [adO_isSome]; assumption)) only [↓vcp, vcs, vct, if_true, if_false, Nat.reduceBEq, ↓reduceIte, Nat.reduceEqDiff, Nat.reduceAdd, Nat.reduceMul, Nat.reduceSub, Int.reduceToNat, reduceCtorEq, Nat.reduceLT, Nat.reduceLeDiff, Int.reduceSub, Int.reduceAdd, Int.reduceNeg, Sat.look hs, Sat.lookA hs]
    by_cases hjw : j < width
    case neg =>
      obtain rfl : j = width := by omega
      rw [List.take_of_length_le (by rw [bof_len]; exact Nat.le_refl _), ← hfs] at hs
      (repeat (first | (simp (disch := first | omega | assumption | exact Option.isSome_some | (simp only [adO_isSome]; assumption)) only [↓vcp, vcs, vct, if_true, if_false, Nat.reduceBEq, ↓reduceIte, Nat.reduceEqDiff, Nat.reduceAdd, Nat.reduceMul, Nat.reduceSub, Int.reduceToNat, reduceCtorEq, Nat.reduceLT, Nat.reduceLeDiff, Int.reduceSub, Int.reduceAdd, Int.reduceNeg, Sat.look hs, Sat.lookA hs]) | (refine khK he hs ?_; clear he; intro he) | ((first | refine stK hs ?_ | refine stFK hs ?_ | refine stAK hs ?_ | refine msK hs ?_); clear hs; (try clear w); rintro w hs; try simp only [cls] at hs) | ((first | refine al_ok hs ?_ | refine bx_ok hs ?_ | refine bsvK hs ?_ | refine bs1_ok hs ?_ | refine bs0_ok hs ?_); clear hs; (try clear w); rintro _ w hs; try simp only [cls] at hs)))
      exact ⟨(i + 1, pa, pc, vs ++ [d]), by dsimp only; rw [hwi1]; rfl, by rfl, ⟨by dsimp only; omega, by dsimp only; rw [List.length_append, List.length_singleton]; omega, hVn, hs⟩, by dsimp only; omega⟩
    have hg := bof_get width d j hjw
    have hnn : (0 : Int) ≤ (width : Int) - 1 - (j : Int) := by omega
    have hjn : (width : Int) - 1 - (j : Int) = ((width - 1 - j : Nat) : Int) := by omega
    have hcj : IntKind.u64.wrap ((width : Int) - 1 - (j : Int)) = ((width - 1 - j : Nat) : Int) := by
      rw [hjn]
      exact wrap_u .u64 rfl _ (by rw [bits64]; omega)
    have hsh : Shr .i64 (d : Int) ((width - 1 - j : Nat) : Int) = ((d / 2 ^ (width - 1 - j) : Nat) : Int) := Shr_u .i64 _ _ (by rw [bitsi64]; omega)
    have hdd : d / 2 ^ (width - 1 - j) ≤ d := Nat.div_le_self _ _
    (repeat (first | (simp (disch := first | omega | assumption | exact Option.isSome_some | (simp only [adO_isSome]; assumption)) only [↓vcp, vcs, vct, if_true, if_false, Nat.reduceBEq, ↓reduceIte, Nat.reduceEqDiff, Nat.reduceAdd, Nat.reduceMul, Nat.reduceSub, Int.reduceToNat, reduceCtorEq, Nat.reduceLT, Nat.reduceLeDiff, Int.reduceSub, Int.reduceAdd, Int.reduceNeg, Sat.look hs, Sat.lookA hs, hsh, hcj, tmod_lit]) | (refine khK he hs ?_; clear he; intro he) | ((first | refine stK hs ?_ | refine stFK hs ?_ | refine stAK hs ?_ | refine msK hs ?_); clear hs; (try clear w); rintro w hs; try simp only [cls] at hs) | ((first | refine al_ok hs ?_ | refine bx_ok hs ?_ | refine bsvK hs ?_ | refine bs1_ok hs ?_ | refine bs0_ok hs ?_); clear hs; (try clear w); rintro _ w hs; try simp only [cls] at hs)))
    rename Nat => l1
    have hcl : (Fi ++ (bof width d).take j).length = M + j := by rw [List.length_append, hFl, List.length_take, bof_len]; omega
    have htk : (Fi ++ (bof width d).take (j + 1)).map i64d = (Fi ++ (bof width d).take j).map i64d ++ [Value.int .i64 ((d / 2 ^ (width - 1 - j) % 2 : Nat) : Int)] := by
      rw [List.take_add_one, hg]
      simp [i64d]
    generalize Fi ++ (bof width d).take j = Fj at *
    have hcl2 : (Fj.map i64d).length = M + j := by rw [List.length_map]; exact hcl
    refine apK 1 hs (hs.rd (a := some ⟨l1, 0, none⟩)) ?_; clear hs; (try clear w); rintro a2 c2 w hc2 hs; try simp only [cls] at hs
    rw [← htk] at hs
    have hnx : (width : Int) - 1 - (j : Int) - 1 = (width : Int) - 1 - ((j + 1 : Nat) : Int) := by omega
    (repeat (first | (simp (disch := first | omega | assumption | exact Option.isSome_some | (simp only [adO_isSome]; assumption)) only [↓vcp, vcs, vct, if_true, if_false, Nat.reduceBEq, ↓reduceIte, Nat.reduceEqDiff, Nat.reduceAdd, Nat.reduceMul, Nat.reduceSub, Int.reduceToNat, reduceCtorEq, Nat.reduceLT, Nat.reduceLeDiff, Int.reduceSub, Int.reduceAdd, Int.reduceNeg, Sat.look hs, Sat.lookA hs, hnx]) | (refine khK he hs ?_; clear he; intro he) | ((first | refine stK hs ?_ | refine stFK hs ?_ | refine stAK hs ?_ | refine msK hs ?_); clear hs; (try clear w); rintro w hs; try simp only [cls] at hs) | ((first | refine al_ok hs ?_ | refine bx_ok hs ?_ | refine bsvK hs ?_ | refine bs1_ok hs ?_ | refine bs0_ok hs ?_); clear hs; (try clear w); rintro _ w hs; try simp only [cls] at hs)))
    exact ⟨(j + 1, a2, c2), by rfl, by rfl, ⟨by dsimp only; omega, hs.sub (.cons_cons _ (List.nil_sublist _))⟩, by dsimp only; omega⟩
  · clear hs
    rintro e ⟨pa, pc, vs⟩ w ⟨hVs, hs⟩
    dsimp only at hVs hs ⊢
    obtain ⟨os, h, n, hvl, hv2, h8, hfl, hR2⟩ : ∃ os h n, vs.length = s.length ∧ (∀ v ∈ vs, v < 2 ^ width) ∧ h < 8 ∧ flat 8 (nats os) ++ bof h n = flat width vs ∧ R2 = (os, decide (spreadL width ds os = s)) := by
      rcases hgv with hx | ⟨vs', os, h, n, h1, h2, h3, h4, h5, h6⟩
      · rw [hVs] at hx; cases hx.1
      · rw [hVs] at h1
        injection h1 with h1
        subst h1
        exact ⟨os, h, n, h2, h3, h4, h5, h6⟩
    clear hgv
    subst hR2
    dsimp only at hR
    have hlen := congrArg List.length hfl
    rw [List.length_append, bof_len, flat_len, flat_len, nats_len] at hlen
    have hwi : width * vs.length ≤ 8 * 256 := Nat.mul_le_mul hw8 (by omega)
    have hfd := flat_drop 8 (nats os)
    have hget : ∀ t (x : UInt8) k, os[t]? = some x → k < 8 → ((flat width vs).map i64d)[8 * t + k]? = some (.int .i64 ((x.toNat / 2 ^ (8 - 1 - k) % 2 : Nat) : Int)) := fun t x k hx hk => by
      have htl : t < os.length := (List.getElem?_eq_some_iff.1 hx).1
      have h1 := hfd t x.toNat (by unfold nats; rw [List.getElem?_map, hx]; rfl)
      have h2 : ((flat width vs).drop (8 * t))[k]? = some (x.toNat / 2 ^ (8 - 1 - k) % 2) := by
        rw [← hfl, List.drop_append_of_le_length (by rw [flat_len, nats_len]; omega), h1, List.append_assoc, List.getElem?_append_left (by rw [bof_len]; exact hk)]
        exact bof_get 8 x.toNat k hk
      rw [List.getElem?_drop] at h2
      exact i64d_get h2
    have hBl : (flat width vs).length = width * vs.length := flat_len width vs
    have hBl2 : ((flat width vs).map i64d).length = width * vs.length := by rw [List.length_map]; exact hBl
    generalize flat width vs = FB at *
    generalize width * vs.length = WD at *
    replace hs := Sat.nil hs 5 1; try simp only [cls] at hs
    (repeat (first | (simp (disch := first | omega | assumption | exact Option.isSome_some | (simp only [adO_isSome]; assumption)) only [↓vcp, vcs, vct, if_true, if_false, Nat.reduceBEq, ↓reduceIte, Nat.reduceEqDiff, Nat.reduceAdd, Nat.reduceMul, Nat.reduceSub, Int.reduceToNat, reduceCtorEq, Nat.reduceLT, Nat.reduceLeDiff, Int.reduceSub, Int.reduceAdd, Int.reduceNeg, Sat.look hs, Sat.lookA hs]) | (refine khK he hs ?_; clear he; intro he) | ((first | refine stK hs ?_ | refine stFK hs ?_ | refine stAK hs ?_ | refine msK hs ?_); clear hs; (try clear w); rintro w hs; try simp only [cls] at hs) | ((first | refine al_ok hs ?_ | refine bx_ok hs ?_ | refine bsvK hs ?_ | refine bs1_ok hs ?_ | refine bs0_ok hs ?_); clear hs; (try clear w); rintro _ w hs; try simp only [cls] at hs)))
    refine loop_rule (σ := Nat × Option Addr × Nat × List UInt8) [13, 12] (fun x => [.int .i64 ((8 * x.1 : Nat) : Int), .slice x.2.1 x.2.2.2.length x.2.2.1]) [0, 1, 2, 8] (fun x w' => x.1 ≤ os.length ∧ x.2.2.2.length = x.1 ∧ x.2.2.2.length ≤ x.2.2.1 ∧ x.2.2.2 = os.take x.1 ∧ VC.Sat (.at w0) [.sl pa pc (FB.map i64d) 3 1, .sl x.2.1 x.2.2.1 (x.2.2.2.map u8v) 5 1] w') (fun x _ => os.length - x.1) (0, none, 0, []) (by kernel_rfl) (by rfl) ⟨Nat.zero_le _, rfl, Nat.le_refl _, rfl, hs⟩ ?_
    clear hs
    rintro e ⟨t, oa, oc, out⟩ w ⟨ht, hol, hoc, heq, hs⟩
    dsimp only at ht hol hoc heq hs ⊢
    simp (disch := first | omega | assumption | exact Option.isSome_some | (simp only [adO_isSome]; assumption)) only [↓vcp, vcs, vct, if_true, if_false, Nat.reduceBEq, ↓reduceIte, Nat.reduceEqDiff, Nat.reduceAdd, Nat.reduceMul, Nat.reduceSub, Int.reduceToNat, reduceCtorEq, Nat.reduceLT, Nat.reduceLeDiff, Int.reduceSub, Int.reduceAdd, Int.reduceNeg, Sat.look hs, Sat.lookA hs]
    by_cases hlt : t < os.length
    case neg =>
      obtain rfl : t = os.length := by omega
      rw [List.take_length] at heq
      subst heq
      have hba := ba_eq (spreadL width ds out) s
      have q1 := fun w h1 => qo w oa oc out h1 (by omega)
      generalize spreadL width ds out = U at *
      (repeat (first | (simp (disch := first | omega | assumption | exact Option.isSome_some | (simp only [adO_isSome]; assumption)) only [↓vcp, vcs, vct, if_true, if_false, Nat.reduceBEq, ↓reduceIte, Nat.reduceEqDiff, Nat.reduceAdd, Nat.reduceMul, Nat.reduceSub, Int.reduceToNat, reduceCtorEq, Nat.reduceLT, Nat.reduceLeDiff, Int.reduceSub, Int.reduceAdd, Int.reduceNeg, Sat.look hs, Sat.lookA hs]) | (refine khK he hs ?_; clear he; intro he) | ((first | refine stK hs ?_ | refine stFK hs ?_ | refine stAK hs ?_ | refine msK hs ?_); clear hs; (try clear w); rintro w hs; try simp only [cls] at hs) | ((first | refine al_ok hs ?_ | refine bx_ok hs ?_ | refine bsvK hs ?_ | refine bs1_ok hs ?_ | refine bs0_ok hs ?_); clear hs; (try clear w); rintro _ w hs; try simp only [cls] at hs)))
      refine call_ok (by kernel_rfl) (q1 _ (hs.ro (a := oa))) ?_; rintro _ w2 ⟨rfl, hb⟩; rw [callK_ret]; replace hs := Sat.add hs (Below.sat hb); clear hb; (try clear w); rename World => w; try simp only [cls] at hs
      (repeat (first | (simp (disch := first | omega | assumption | exact Option.isSome_some | (simp only [adO_isSome]; assumption)) only [↓vcp, vcs, vct, if_true, if_false, Nat.reduceBEq, ↓reduceIte, Nat.reduceEqDiff, Nat.reduceAdd, Nat.reduceMul, Nat.reduceSub, Int.reduceToNat, reduceCtorEq, Nat.reduceLT, Nat.reduceLeDiff, Int.reduceSub, Int.reduceAdd, Int.reduceNeg, Sat.look hs, Sat.lookA hs, hba]) | (refine khK he hs ?_; clear he; intro he) | ((first | refine stK hs ?_ | refine stFK hs ?_ | refine stAK hs ?_ | refine msK hs ?_); clear hs; (try clear w); rintro w hs; try simp only [cls] at hs) | ((first | refine al_ok hs ?_ | refine bx_ok hs ?_ | refine bsvK hs ?_ | refine bs1_ok hs ?_ | refine bs0_ok hs ?_); clear hs; (try clear w); rintro _ w hs; try simp only [cls] at hs)))
      exact ret_tmp2 rfl (hR _ _ ⟨oa, oc, rfl, hoc, hs.sub (.cons _ (List.Sublist.refl _))⟩)
    obtain ⟨x, hx⟩ : ∃ x, os[t]? = some x := ⟨_, List.getElem?_eq_getElem hlt⟩
    have hps : pa.isSome = true := hs.isSome (a := pa) (xs := FB.map i64d) (by rw [hBl2]; omega)
    (repeat (first | (simp (disch := first | omega | assumption | exact Option.isSome_some | (simp only [adO_isSome]; assumption)) only [↓vcp, vcs, vct, if_true, if_false, Nat.reduceBEq, ↓reduceIte, Nat.reduceEqDiff, Nat.reduceAdd, Nat.reduceMul, Nat.reduceSub, Int.reduceToNat, reduceCtorEq, Nat.reduceLT, Nat.reduceLeDiff, Int.reduceSub, Int.reduceAdd, Int.reduceNeg, Sat.look hs, Sat.lookA hs]) | (refine khK he hs ?_; clear he; intro he) | ((first | refine stK hs ?_ | refine stFK hs ?_ | refine stAK hs ?_ | refine msK hs ?_); clear hs; (try clear w); rintro w hs; try simp only [cls] at hs) | ((first | refine al_ok hs ?_ | refine bx_ok hs ?_ | refine bsvK hs ?_ | refine bs1_ok hs ?_ | refine bs0_ok hs ?_); clear hs; (try clear w); rintro _ w hs; try simp only [cls] at hs)))
    have hgetx := fun k hk => hget t x k hx hk
    have hmt : 8 * t + 8 ≤ WD := by omega
    have hnext : ((8 * t : Nat) : Int) + 8 = ((8 * (t + 1) : Nat) : Int) := by omega
    have hxd : x.toNat < 2 ^ 8 := x.toNat_lt
    generalize hM : 8 * t = M at *
    refine loop_join (σ := Unit) 6 [14] (fun _ => [.int .i64 x.toNat]) [0, 1, 2, 8, 12, 13] (fun _ w' => VC.Sat (.at w0) [.sl pa pc (FB.map i64d) 3 1, .sl oa oc (out.map u8v) 5 1] w') ?_ ?_
    · refine loop_rule (σ := Nat) [14, 15] (fun s => [.int .i64 ((bnum ((bof 8 x.toNat).take s) 0 : Nat) : Int), .int .i64 s]) [0, 1, 2, 8, 12, 13] (fun s w' => s ≤ 8 ∧ VC.Sat (.at w0) [.sl pa pc (FB.map i64d) 3 1, .sl oa oc (out.map u8v) 5 1] w') (fun s _ => 8 - s) 0 (by kernel_rfl) (by rfl) ⟨Nat.zero_le _, hs⟩ ?_
      clear hs
      rintro e k w ⟨hk, hs⟩
      have hnl : bnum ((bof 8 x.toNat).take k) 0 < 2 ^ 8 := bnum_lt _ 8 (fun b hb => bof_bits 8 x.toNat b (List.mem_of_mem_take hb)) (by rw [List.length_take, bof_len]; omega)
      simp (disch := first | omega | assumption | exact Option.isSome_some | (simp only [adO_isSome]; assumption)) only [↓vcp, vcs, vct, if_true, if_false, Nat.reduceBEq, ↓reduceIte, Nat.reduceEqDiff, Nat.reduceAdd, Nat.reduceMul, Nat.reduceSub, Int.reduceToNat, reduceCtorEq, Nat.reduceLT, Nat.reduceLeDiff, Int.reduceSub, Int.reduceAdd, Int.reduceNeg, Sat.look hs, Sat.lookA hs]
      by_cases hkw : k < 8
      case neg =>
        obtain rfl : k = 8 := by omega
        rw [List.take_of_length_le (by rw [bof_len]; exact Nat.le_refl _), bnum_bof, Nat.zero_mul, Nat.zero_add, Nat.mod_eq_of_lt hxd]
        (repeat (first | (simp (disch := first | omega | assumption | exact Option.isSome_some | (simp only [adO_isSome]; assumption)) only [↓vcp, vcs, vct, if_true, if_false, Nat.reduceBEq, ↓reduceIte, Nat.reduceEqDiff, Nat.reduceAdd, Nat.reduceMul, Nat.reduceSub, Int.reduceToNat, reduceCtorEq, Nat.reduceLT, Nat.reduceLeDiff, Int.reduceSub, Int.reduceAdd, Int.reduceNeg, Sat.look hs, Sat.lookA hs]) | (refine khK he hs ?_; clear he; intro he) | ((first | refine stK hs ?_ | refine stFK hs ?_ | refine stAK hs ?_ | refine msK hs ?_); clear hs; (try clear w); rintro w hs; try simp only [cls] at hs) | ((first | refine al_ok hs ?_ | refine bx_ok hs ?_ | refine bsvK hs ?_ | refine bs1_ok hs ?_ | refine bs0_ok hs ?_); clear hs; (try clear w); rintro _ w hs; try simp only [cls] at hs)))
        exact ⟨(), by rfl, by rfl, hs⟩
      have hsn : bnum ((bof 8 x.toNat).take (k + 1)) 0 = 2 * bnum ((bof 8 x.toNat).take k) 0 + x.toNat / 2 ^ (8 - 1 - k) % 2 := by
        rw [List.take_add_one, bof_get 8 x.toNat k hkw]
        exact bnum_snoc _ _ _
      have hgk := hgetx k hkw
      have hbit : x.toNat / 2 ^ (8 - 1 - k) % 2 < 2 := Nat.mod_lt _ (by omega)
      generalize x.toNat / 2 ^ (8 - 1 - k) % 2 = bit at *
      generalize bnum ((bof 8 x.toNat).take k) 0 = n0 at *
      have hmul : (2 : Int) * (n0 : Int) = ((2 * n0 : Nat) : Int) := by omega
      have hadd : ((2 * n0 : Nat) : Int) + (bit : Int) = ((2 * n0 + bit : Nat) : Int) := by omega
      have hidx2 : (M : Int) + (k : Int) = ((M + k : Nat) : Int) := by omega
      have hn512 : 2 * n0 + bit < 1024 := by omega
      rw [← hsn] at hadd hn512
      generalize hN : bnum ((bof 8 x.toNat).take (k + 1)) 0 = N at *
      (repeat (first | (simp (disch := first | omega | assumption | exact Option.isSome_some | (simp only [adO_isSome]; assumption)) only [↓vcp, vcs, vct, if_true, if_false, Nat.reduceBEq, ↓reduceIte, Nat.reduceEqDiff, Nat.reduceAdd, Nat.reduceMul, Nat.reduceSub, Int.reduceToNat, reduceCtorEq, Nat.reduceLT, Nat.reduceLeDiff, Int.reduceSub, Int.reduceAdd, Int.reduceNeg, Sat.look hs, Sat.lookA hs, hmul, hadd, hidx2, hgk]) | (refine khK he hs ?_; clear he; intro he) | ((first | refine stK hs ?_ | refine stFK hs ?_ | refine stAK hs ?_ | refine msK hs ?_); clear hs; (try clear w); rintro w hs; try simp only [cls] at hs; try simp only [hBl2] at hs) | ((first | refine al_ok hs ?_ | refine bx_ok hs ?_ | refine bsvK hs ?_ | refine bs1_ok hs ?_ | refine bs0_ok hs ?_); clear hs; (try clear w); rintro _ w hs; try simp only [cls] at hs; try simp only [hBl2] at hs) | ((first | refine stK hs ?_ (by first | omega | (simp only [hBl2, cells_bk, cells_sl, List.length_cons, List.length_nil, List.length_set, List.length_append, List.length_map, List.length_replicate, List.length_take, List.length_drop]; omega) | assumption | rfl) | refine stFK hs ?_ (by first | omega | (simp only [hBl2, cells_bk, cells_sl, List.length_cons, List.length_nil, List.length_set, List.length_append, List.length_map, List.length_replicate, List.length_take, List.length_drop]; omega) | assumption | rfl) (by first | omega | (simp only [hBl2, cells_bk, cells_sl, List.length_cons, List.length_nil, List.length_set, List.length_append, List.length_map, List.length_replicate, List.length_take, List.length_drop]; omega) | assumption | rfl) | refine stAK hs ?_ (by first | omega | (simp only [hBl2, cells_bk, cells_sl, List.length_cons, List.length_nil, List.length_set, List.length_append, List.length_map, List.length_replicate, List.length_take, List.length_drop]; omega) | assumption | rfl) (by first | omega | (simp only [hBl2, cells_bk, cells_sl, List.length_cons, List.length_nil, List.length_set, List.length_append, List.length_map, List.length_replicate, List.length_take, List.length_drop]; omega) | assumption | rfl) | refine msK hs ?_ (by first | omega | (simp only [hBl2, cells_bk, cells_sl, List.length_cons, List.length_nil, List.length_set, List.length_append, List.length_map, List.length_replicate, List.length_take, List.length_drop]; omega) | assumption | rfl)); clear hs; (try clear w); rintro w hs; try simp only [cls] at hs; try simp only [hBl2] at hs)))
      exact ⟨k + 1, by dsimp only; rw [hN]; rfl, by rfl, ⟨by omega, hs⟩, by dsimp only; omega⟩
    · clear hs
      rintro e _ w hs
      have heq2 : out ++ [x] = os.take (t + 1) := by rw [List.take_add_one, hx, heq]; rfl
      have hw8 : IntKind.u8.wrap (x.toNat : Int) = (x.toNat : Int) := wrap_u .u8 rfl _ (by rw [bits8]; exact hxd)
      (repeat (first | (simp (disch := first | omega | assumption | exact Option.isSome_some | (simp only [adO_isSome]; assumption)) only [↓vcp, vcs, vct, if_true, if_false, Nat.reduceBEq, ↓reduceIte, Nat.reduceEqDiff, Nat.reduceAdd, Nat.reduceMul, Nat.reduceSub, Int.reduceToNat, reduceCtorEq, Nat.reduceLT, Nat.reduceLeDiff, Int.reduceSub, Int.reduceAdd, Int.reduceNeg, Sat.look hs, Sat.lookA hs, hw8]) | (refine khK he hs ?_; clear he; intro he) | ((first | refine stK hs ?_ | refine stFK hs ?_ | refine stAK hs ?_ | refine msK hs ?_); clear hs; (try clear w); rintro w hs; try simp only [cls] at hs) | ((first | refine al_ok hs ?_ | refine bx_ok hs ?_ | refine bsvK hs ?_ | refine bs1_ok hs ?_ | refine bs0_ok hs ?_); clear hs; (try clear w); rintro _ w hs; try simp only [cls] at hs)))
      rename Nat => l1
      refine apK 1 hs (hs.rd (a := some ⟨l1, 0, none⟩)) ?_; clear hs; (try clear w); rintro a2 c2 w hc2 hs; try simp only [cls] at hs
      have e1 : out.map u8v ++ [Value.int .u8 (x.toNat : Int)] = (out ++ [x]).map u8v := by simp [u8v]
      rw [e1] at hs
      rw [show out.length + 1 = (out ++ [x]).length by simp] at hc2 ⊢
      (repeat (first | (simp (disch := first | omega | assumption | exact Option.isSome_some | (simp only [adO_isSome]; assumption)) only [↓vcp, vcs, vct, if_true, if_false, Nat.reduceBEq, ↓reduceIte, Nat.reduceEqDiff, Nat.reduceAdd, Nat.reduceMul, Nat.reduceSub, Int.reduceToNat, reduceCtorEq, Nat.reduceLT, Nat.reduceLeDiff, Int.reduceSub, Int.reduceAdd, Int.reduceNeg, Sat.look hs, Sat.lookA hs, hnext]) | (refine khK he hs ?_; clear he; intro he) | ((first | refine stK hs ?_ | refine stFK hs ?_ | refine stAK hs ?_ | refine msK hs ?_); clear hs; (try clear w); rintro w hs; try simp only [cls] at hs) | ((first | refine al_ok hs ?_ | refine bx_ok hs ?_ | refine bsvK hs ?_ | refine bs1_ok hs ?_ | refine bs0_ok hs ?_); clear hs; (try clear w); rintro _ w hs; try simp only [cls] at hs)))
      exact ⟨(t + 1, a2, c2, out ++ [x]), by rfl, by rfl, ⟨by dsimp only; omega, by dsimp only; rw [List.length_append, List.length_singleton]; omega, hc2, heq2, hs.sub (.cons_cons _ (.cons_cons _ (List.nil_sublist _)))⟩, by dsimp only; omega⟩
end Go.Proofs.YtokoohdpakhphaaDoor.Lnk
