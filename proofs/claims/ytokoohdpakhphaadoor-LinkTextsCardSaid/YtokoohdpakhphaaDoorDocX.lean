/- Several texts in one. -/
import Derived.Test.YtokoohdpakhphaaDoorLnkD
import Derived.Test.YtokoohdpakhphaaDoorB58A
namespace Go.Proofs.YtokoohdpakhphaaDoor.Lnk
open Go VC Go.RowKit
set_option linter.unusedSimpArgs false
set_option linter.unusedVariables false
set_option maxRecDepth 20000
set_option maxHeartbeats 4000000
abbrev d32b : List UInt8 := [97, 98, 99, 100, 101, 102, 103, 104, 105, 106, 107, 108, 109, 110, 111, 112, 113, 114, 115, 116, 117, 118, 119, 120, 121, 122, 50, 51, 52, 53, 54, 55]
/-- the digits of a base -/
def dgs (base : Nat) : List UInt8 := if base = 1 then d16 else if base = 2 then d32b else d58
theorem dgs_len (base : Nat) : (dgs base).length ≤ 58 := by
  unfold dgs
  split
  · decide
  · split <;> decide
theorem Rdigits_calls (w : World) (base : Nat) : Calls Tryd.prog 62 #[.int .i64 base] w fun e w' => e = .returned (.string ⟨(dgs base).toArray⟩) ∧ w = w' := by
  refine calls_vc Tryd.func62 rfl (by kernel_rfl) (by kernel_rfl) ?_; intro R hR
  have hs := Sat.start w
  unfold dgs at hR
  by_cases h1 : base = 1
  · rw [if_pos h1] at hR
    (repeat (first | (simp (disch := first | omega | assumption | exact Option.isSome_some | (simp only [adO_isSome]; assumption)) only [↓vcp, vcs, vct, if_true, if_false, Nat.reduceBEq, ↓reduceIte, Nat.reduceEqDiff, Nat.reduceAdd, Nat.reduceMul, Nat.reduceSub, Int.reduceToNat, reduceCtorEq, Nat.reduceLT, Nat.reduceLeDiff, Int.reduceSub, Int.reduceAdd, Int.reduceNeg, Sat.look hs, Sat.lookA hs]) | (refine khK he hs ?_; clear he; intro he) | ((first | refine stK hs ?_ | refine stFK hs ?_ | refine stAK hs ?_ | refine msK hs ?_); clear hs; (try clear w); rintro w hs; try simp only [cls] at hs) | ((first | refine al_ok hs ?_ | refine bx_ok hs ?_ | refine bsvK hs ?_ | refine bs1_ok hs ?_ | refine bs0_ok hs ?_); clear hs; (try clear w); rintro _ w hs; try simp only [cls] at hs)))
    exact ret_tmp rfl (hR _ _ ⟨rfl, rfl⟩)
  rw [if_neg h1] at hR
  by_cases h2 : base = 2
  · rw [if_pos h2] at hR
    (repeat (first | (simp (disch := first | omega | assumption | exact Option.isSome_some | (simp only [adO_isSome]; assumption)) only [↓vcp, vcs, vct, if_true, if_false, Nat.reduceBEq, ↓reduceIte, Nat.reduceEqDiff, Nat.reduceAdd, Nat.reduceMul, Nat.reduceSub, Int.reduceToNat, reduceCtorEq, Nat.reduceLT, Nat.reduceLeDiff, Int.reduceSub, Int.reduceAdd, Int.reduceNeg, Sat.look hs, Sat.lookA hs]) | (refine khK he hs ?_; clear he; intro he) | ((first | refine stK hs ?_ | refine stFK hs ?_ | refine stAK hs ?_ | refine msK hs ?_); clear hs; (try clear w); rintro w hs; try simp only [cls] at hs) | ((first | refine al_ok hs ?_ | refine bx_ok hs ?_ | refine bsvK hs ?_ | refine bs1_ok hs ?_ | refine bs0_ok hs ?_); clear hs; (try clear w); rintro _ w hs; try simp only [cls] at hs)))
    exact ret_tmp rfl (hR _ _ ⟨rfl, rfl⟩)
  rw [if_neg h2] at hR
  (repeat (first | (simp (disch := first | omega | assumption | exact Option.isSome_some | (simp only [adO_isSome]; assumption)) only [↓vcp, vcs, vct, if_true, if_false, Nat.reduceBEq, ↓reduceIte, Nat.reduceEqDiff, Nat.reduceAdd, Nat.reduceMul, Nat.reduceSub, Int.reduceToNat, reduceCtorEq, Nat.reduceLT, Nat.reduceLeDiff, Int.reduceSub, Int.reduceAdd, Int.reduceNeg, Sat.look hs, Sat.lookA hs]) | (refine khK he hs ?_; clear he; intro he) | ((first | refine stK hs ?_ | refine stFK hs ?_ | refine stAK hs ?_ | refine msK hs ?_); clear hs; (try clear w); rintro w hs; try simp only [cls] at hs) | ((first | refine al_ok hs ?_ | refine bx_ok hs ?_ | refine bsvK hs ?_ | refine bs1_ok hs ?_ | refine bs0_ok hs ?_); clear hs; (try clear w); rintro _ w hs; try simp only [cls] at hs)))
  exact ret_tmp rfl (hR _ _ ⟨rfl, rfl⟩)
theorem Rvalue_calls (w0 : World) (base : Nat) (c : UInt8) : Calls Tryd.prog 66 #[.int .i64 base, .int .u8 c.toNat] w0 fun e w' => e = .returned (.int .i64 (Lib.indexByte (dgs base) c)) ∧ Below w0.heap.size w0 w' := by
  refine calls_vc Tryd.func66 rfl (by kernel_rfl) (by kernel_rfl) ?_; intro R hR
  have hs := Sat.start w0
  have hl := dgs_len base
  (repeat (first | (simp (disch := first | omega | assumption | exact Option.isSome_some | (simp only [adO_isSome]; assumption)) only [↓vcp, vcs, vct, if_true, if_false, Nat.reduceBEq, ↓reduceIte, Nat.reduceEqDiff, Nat.reduceAdd, Nat.reduceMul, Nat.reduceSub, Int.reduceToNat, reduceCtorEq, Nat.reduceLT, Nat.reduceLeDiff, Int.reduceSub, Int.reduceAdd, Int.reduceNeg, Sat.look hs, Sat.lookA hs]) | (refine khK he hs ?_; clear he; intro he) | ((first | refine stK hs ?_ | refine stFK hs ?_ | refine stAK hs ?_ | refine msK hs ?_); clear hs; (try clear w); rintro w hs; try simp only [cls] at hs) | ((first | refine al_ok hs ?_ | refine bx_ok hs ?_ | refine bsvK hs ?_ | refine bs1_ok hs ?_ | refine bs0_ok hs ?_); clear hs; (try clear w); rintro _ w hs; try simp only [cls] at hs)))
  refine call_ok (by kernel_rfl) (Rdigits_calls w0 base) ?_; rintro _ _ ⟨rfl, rfl⟩; rw [callK_ret]
  generalize dgs base = ds at *
  have hss : (ByteArray.mk ds.toArray).size = ds.length := ba_size ds
  generalize hV : Lib.indexByte ds c = V at *
  have hge := (indexByte_lt ds c).1
  rw [hV] at hge
  (repeat (first | (simp (disch := first | omega | assumption | exact Option.isSome_some | (simp only [adO_isSome]; assumption)) only [↓vcp, vcs, vct, if_true, if_false, Nat.reduceBEq, ↓reduceIte, Nat.reduceEqDiff, Nat.reduceAdd, Nat.reduceMul, Nat.reduceSub, Int.reduceToNat, reduceCtorEq, Nat.reduceLT, Nat.reduceLeDiff, Int.reduceSub, Int.reduceAdd, Int.reduceNeg, Sat.look hs, Sat.lookA hs, hss]) | (refine khK he hs ?_; clear he; intro he) | ((first | refine stK hs ?_ | refine stFK hs ?_ | refine stAK hs ?_ | refine msK hs ?_); clear hs; (try clear w); rintro w hs; try simp only [cls] at hs) | ((first | refine al_ok hs ?_ | refine bx_ok hs ?_ | refine bsvK hs ?_ | refine bs1_ok hs ?_ | refine bs0_ok hs ?_); clear hs; (try clear w); rintro _ w hs; try simp only [cls] at hs)))
  refine loop_rule (σ := Nat) [6] (fun x => [.int .i64 x]) [1, 5] (fun x w' => x ≤ ds.length ∧ V = (if Lib.indexByte (ds.drop x) c < 0 then -1 else Lib.indexByte (ds.drop x) c + (x : Int)) ∧ VC.Sat (.at w0) [] w') (fun x _ => ds.length - x) 0 (by kernel_rfl) rfl ⟨Nat.zero_le _, by rw [List.drop_zero, hV]; split <;> omega, hs⟩ ?_
  clear hs
  rintro e i w ⟨hi, hv, hs⟩
  simp (disch := first | omega | assumption | exact Option.isSome_some | (simp only [adO_isSome]; assumption)) only [↓vcp, vcs, vct, if_true, if_false, Nat.reduceBEq, ↓reduceIte, Nat.reduceEqDiff, Nat.reduceAdd, Nat.reduceMul, Nat.reduceSub, Int.reduceToNat, reduceCtorEq, Nat.reduceLT, Nat.reduceLeDiff, Int.reduceSub, Int.reduceAdd, Int.reduceNeg, Sat.look hs, Sat.lookA hs]
  by_cases hlt : i < ds.length
  case neg =>
    obtain rfl : i = ds.length := by omega
    rw [List.drop_length] at hv
    have hv : V = -1 := hv
    subst hv
    (repeat (first | (simp (disch := first | omega | assumption | exact Option.isSome_some | (simp only [adO_isSome]; assumption)) only [↓vcp, vcs, vct, if_true, if_false, Nat.reduceBEq, ↓reduceIte, Nat.reduceEqDiff, Nat.reduceAdd, Nat.reduceMul, Nat.reduceSub, Int.reduceToNat, reduceCtorEq, Nat.reduceLT, Nat.reduceLeDiff, Int.reduceSub, Int.reduceAdd, Int.reduceNeg, Sat.look hs, Sat.lookA hs, hss]) | (refine khK he hs ?_; clear he; intro he) | ((first | refine stK hs ?_ | refine stFK hs ?_ | refine stAK hs ?_ | refine msK hs ?_); clear hs; (try clear w); rintro w hs; try simp only [cls] at hs) | ((first | refine al_ok hs ?_ | refine bx_ok hs ?_ | refine bsvK hs ?_ | refine bs1_ok hs ?_ | refine bs0_ok hs ?_); clear hs; (try clear w); rintro _ w hs; try simp only [cls] at hs)))
    exact ret_tmp rfl (hR _ _ ⟨rfl, hs.belowAt⟩)
  obtain ⟨y, hy⟩ : ∃ y, ds[i]? = some y := ⟨_, List.getElem?_eq_getElem hlt⟩
  have hbt : bt ⟨ds.toArray⟩ i = (y.toNat : Int) := by
    rw [bt_list ds i hlt]
    rw [List.getElem?_eq_getElem hlt] at hy
    rw [Option.some.inj hy]
  have hdz : i < (ByteArray.mk ds.toArray).size := by rw [ba_size]; exact hlt
  have hdrop : ds.drop i = y :: ds.drop (i + 1) := by
    rw [List.drop_eq_getElem_cons hlt]
    rw [List.getElem?_eq_getElem hlt] at hy
    rw [Option.some.inj hy]
  rw [hdrop] at hv
  unfold Lib.indexByte at hv
  have hr := indexByte_lt (ds.drop (i + 1)) c
  generalize hr0 : Lib.indexByte (ds.drop (i + 1)) c = r at *
  by_cases hyc : y = c
  · subst hyc
    have hv : V = (i : Int) := by simpa using hv
    subst hv
    (repeat (first | (simp (disch := first | omega | assumption | exact Option.isSome_some | (simp only [adO_isSome]; assumption)) only [↓vcp, vcs, vct, if_true, if_false, Nat.reduceBEq, ↓reduceIte, Nat.reduceEqDiff, Nat.reduceAdd, Nat.reduceMul, Nat.reduceSub, Int.reduceToNat, reduceCtorEq, Nat.reduceLT, Nat.reduceLeDiff, Int.reduceSub, Int.reduceAdd, Int.reduceNeg, Sat.look hs, Sat.lookA hs, hbt, hss]) | (refine khK he hs ?_; clear he; intro he) | ((first | refine stK hs ?_ | refine stFK hs ?_ | refine stAK hs ?_ | refine msK hs ?_); clear hs; (try clear w); rintro w hs; try simp only [cls] at hs) | ((first | refine al_ok hs ?_ | refine bx_ok hs ?_ | refine bsvK hs ?_ | refine bs1_ok hs ?_ | refine bs0_ok hs ?_); clear hs; (try clear w); rintro _ w hs; try simp only [cls] at hs)))
    exact ret_tmp rfl (hR _ _ ⟨rfl, hs.belowAt⟩)
  · have hne : ((y.toNat : Int) = (c.toNat : Int)) = False := by
      refine eq_false fun h => hyc (UInt8.toNat_inj.1 (by omega))
    have hb : (y == c) = false := by simpa using hyc
    rw [hb] at hv
    have hv2 : V = (if r < 0 then -1 else r + ((i + 1 : Nat) : Int)) := by
      rw [hv]
      by_cases h1 : r = -1
      · subst h1
        simp
      · have h2 : (r == -1) = false := by simpa using h1
        simp only [h2, Bool.false_eq_true, if_false]
        rw [if_neg (by omega), if_neg (by omega)]
        omega
    (repeat (first | (simp (disch := first | omega | assumption | exact Option.isSome_some | (simp only [adO_isSome]; assumption)) only [↓vcp, vcs, vct, if_true, if_false, Nat.reduceBEq, ↓reduceIte, Nat.reduceEqDiff, Nat.reduceAdd, Nat.reduceMul, Nat.reduceSub, Int.reduceToNat, reduceCtorEq, Nat.reduceLT, Nat.reduceLeDiff, Int.reduceSub, Int.reduceAdd, Int.reduceNeg, Sat.look hs, Sat.lookA hs, hbt, hss, hne]) | (refine khK he hs ?_; clear he; intro he) | ((first | refine stK hs ?_ | refine stFK hs ?_ | refine stAK hs ?_ | refine msK hs ?_); clear hs; (try clear w); rintro w hs; try simp only [cls] at hs) | ((first | refine al_ok hs ?_ | refine bx_ok hs ?_ | refine bsvK hs ?_ | refine bs1_ok hs ?_ | refine bs0_ok hs ?_); clear hs; (try clear w); rintro _ w hs; try simp only [cls] at hs)))
    exact ⟨i + 1, by rfl, by rfl, ⟨by omega, by rw [hr0]; exact hv2, hs⟩, by dsimp only; omega⟩
end Go.Proofs.YtokoohdpakhphaaDoor.Lnk
namespace Go.Proofs.YtokoohdpakhphaaDoor.Lnk
open Go VC Go.RowKit
set_option linter.unusedSimpArgs false
set_option linter.unusedVariables false
set_option maxRecDepth 20000
set_option maxHeartbeats 4000000
def i64d (n : Nat) : Value := .int .i64 n
theorem i64d_get {ps : List Nat} {k p : Nat} (h : ps[k]? = some p) : (ps.map i64d)[k]? = some (.int .i64 (p : Int)) := by rw [List.getElem?_map, h]; rfl
theorem oneD (ps : List Nat) : (ps.map i64d).all (·.oneCell') = true := by simp [i64d, Value.oneCell']
theorem stayD {S : Cx} {H F : List Ck} {w0 w : World} (h1 : VC.Sat S H w0) (hs : VC.Sat (.at w0) F w) : VC.Sat S H w := by
  have := h1.add (Below.sat hs.belowAt)
  rwa [List.append_nil] at this
theorem div_ltf {f t r d : Nat} (ht : 0 < t) (hr : r < t) (hd : d < f) : (f * r + d) / t < f := by
  rw [Nat.div_lt_iff_lt_mul ht]
  have := Nat.mul_le_mul_left f (show r + 1 ≤ t by omega)
  rw [Nat.mul_add, Nat.mul_one] at this
  omega
theorem divided_calls (w0 : World) (a : Option Addr) (c : Nat) (l : List Nat) (f t : Nat) (hf : 1 < f) (hf2 : f ≤ 256) (ht : 1 < t) (ht2 : t ≤ 256) (hx : Ro (.at w0) a (l.map i64d)) (hlead : lead l) (hall : ∀ p ∈ l, p < f) (hll : l.length ≤ 1048576) (hdl : (digs0 t (valh f l 0)).length ≤ 1048576) :
    Calls Tryd.prog 61 #[.slice a l.length c, .int .i64 f, .int .i64 t] w0 fun e w' => ∃ a' c', e = .returned (.slice a' (digs0 t (valh f l 0)).length c') ∧ VC.Sat (.at w0) [.sl a' c' ((digs0 t (valh f l 0)).reverse.map i64d) 3 1] w' := by
  refine calls_vc Tryd.func61 rfl (by kernel_rfl) (by kernel_rfl) ?_; intro R hR
  have hs := Sat.start w0
  generalize hD : digs0 t (valh f l 0) = D at *
  (repeat (first | (simp (disch := first | omega | assumption | exact Option.isSome_some | (simp only [adO_isSome]; assumption)) only [↓vcp, vcs, vct, if_true, if_false, Nat.reduceBEq, ↓reduceIte, Nat.reduceEqDiff, Nat.reduceAdd, Nat.reduceMul, Nat.reduceSub, Int.reduceToNat, reduceCtorEq, Nat.reduceLT, Nat.reduceLeDiff, Int.reduceSub, Int.reduceAdd, Int.reduceNeg, Sat.look hs, Sat.lookA hs]) | (refine khK he hs ?_; clear he; intro he) | ((first | refine stK hs ?_ | refine stFK hs ?_ | refine stAK hs ?_ | refine msK hs ?_); clear hs; (try clear w); rintro w hs; try simp only [cls] at hs) | ((first | refine al_ok hs ?_ | refine bx_ok hs ?_ | refine bsvK hs ?_ | refine bs1_ok hs ?_ | refine bs0_ok hs ?_); clear hs; (try clear w); rintro _ w hs; try simp only [cls] at hs)))
  replace hs := Sat.nil hs 3 1; try simp only [cls] at hs
  refine loop_rule (σ := Option Addr × Nat × List Nat × Option Addr × Nat × List Nat) [0, 7] (fun s => [.slice s.1 s.2.2.1.length s.2.1, .slice s.2.2.2.1 s.2.2.2.2.2.length s.2.2.2.2.1]) [1, 2] (fun s w' => Ro (.at w') s.1 (s.2.2.1.map i64d) ∧ lead s.2.2.1 ∧ (∀ p ∈ s.2.2.1, p < f) ∧ s.2.2.1.length ≤ 1048576 ∧ (digs0 t (valh f s.2.2.1 0)).reverse ++ s.2.2.2.2.2 = D.reverse ∧ VC.Sat (.at w0) [.sl s.2.2.2.1 s.2.2.2.2.1 (s.2.2.2.2.2.map i64d) 3 1] w') (fun s _ => valh f s.2.2.1 0) (a, c, l, none, 0, []) (by kernel_rfl) (by rfl) ⟨hx, hlead, hall, hll, by dsimp only; rw [hD, List.append_nil], hs⟩ ?_
  clear hs hx hlead hall hll
  rintro e ⟨la, lc, L, oa, oc, out⟩ wB ⟨hL, hlead, hall, hll, heq, hs1⟩
  dsimp only at hL hlead hall hll heq hs1 ⊢
  have hout : Ro (.at wB) oa (out.map i64d) := hs1.ro (a := oa)
  have hs := Sat.start wB
  have holen := congrArg List.length heq
  rw [List.length_append, List.length_reverse, List.length_reverse] at holen
  simp (disch := first | omega | assumption | exact Option.isSome_some | (simp only [adO_isSome]; assumption)) only [↓vcp, vcs, vct, if_true, if_false, Nat.reduceBEq, ↓reduceIte, Nat.reduceEqDiff, Nat.reduceAdd, Nat.reduceMul, Nat.reduceSub, Int.reduceToNat, reduceCtorEq, Nat.reduceLT, Nat.reduceLeDiff, Int.reduceSub, Int.reduceAdd, Int.reduceNeg, Sat.look hs, Sat.lookA hs]
  replace hs := Sat.nil hs 3 1; try simp only [cls] at hs
  (repeat (first | (simp (disch := first | omega | assumption | exact Option.isSome_some | (simp only [adO_isSome]; assumption)) only [↓vcp, vcs, vct, if_true, if_false, Nat.reduceBEq, ↓reduceIte, Nat.reduceEqDiff, Nat.reduceAdd, Nat.reduceMul, Nat.reduceSub, Int.reduceToNat, reduceCtorEq, Nat.reduceLT, Nat.reduceLeDiff, Int.reduceSub, Int.reduceAdd, Int.reduceNeg, Sat.look hs, Sat.lookA hs]) | (refine khK he hs ?_; clear he; intro he) | ((first | refine stK hs ?_ | refine stFK hs ?_ | refine stAK hs ?_ | refine msK hs ?_); clear hs; (try clear w); rintro w hs; try simp only [cls] at hs) | ((first | refine al_ok hs ?_ | refine bx_ok hs ?_ | refine bsvK hs ?_ | refine bs1_ok hs ?_ | refine bs0_ok hs ?_); clear hs; (try clear w); rintro _ w hs; try simp only [cls] at hs)))
  generalize hP : pass f t L 0 [] = P at *
  refine loop_join (σ := Option Addr × Nat) 2 [8, 9, 10] (fun s => [.slice s.1 P.1.length s.2, .int .i64 P.2, .bool (decide (P.1 ≠ []))]) [0, 1, 2, 7] (fun s w' => P.1.length ≤ L.length ∧ (∀ p ∈ P.1, p < f) ∧ VC.Sat (.at wB) [.sl s.1 s.2 (P.1.map i64d) 3 1] w') ?_ ?_
  · refine loop_rule (σ := Nat × Nat × List Nat × Option Addr × Nat) [11, 8, 9, 10] (fun s => [.int .i64 s.1, .slice s.2.2.2.1 s.2.2.1.length s.2.2.2.2, .int .i64 s.2.1, .bool (decide (s.2.2.1 ≠ []))]) [0, 1, 2, 7] (fun s w' => s.1 ≤ L.length ∧ s.2.1 < t ∧ pass f t (L.drop s.1) s.2.1 s.2.2.1 = P ∧ s.2.2.1.length ≤ s.1 ∧ (∀ p ∈ s.2.2.1, p < f) ∧ VC.Sat (.at wB) [.sl s.2.2.2.1 s.2.2.2.2 (s.2.2.1.map i64d) 3 1] w') (fun s _ => L.length - s.1) (0, 0, [], none, 0) (by kernel_rfl) (by rfl) ⟨Nat.zero_le _, by dsimp only; omega, hP, by dsimp only; simp, (fun p hp => by cases hp), hs⟩ ?_
    clear hs
    rintro e ⟨i, r, nx, na, nc⟩ w ⟨hi, hr, hp, hnl, hnf, hs⟩
    dsimp only at hi hr hp hnl hnf hs ⊢
    simp (disch := first | omega | assumption | exact Option.isSome_some | (simp only [adO_isSome]; assumption)) only [↓vcp, vcs, vct, if_true, if_false, Nat.reduceBEq, ↓reduceIte, Nat.reduceEqDiff, Nat.reduceAdd, Nat.reduceMul, Nat.reduceSub, Int.reduceToNat, reduceCtorEq, Nat.reduceLT, Nat.reduceLeDiff, Int.reduceSub, Int.reduceAdd, Int.reduceNeg, Sat.look hs, Sat.lookA hs]
    by_cases hlt : i < L.length
    case neg =>
      obtain rfl : i = L.length := by omega
      rw [List.drop_length] at hp
      have hp : (nx, r) = P := hp
      subst hp
      (repeat (first | (simp (disch := first | omega | assumption | exact Option.isSome_some | (simp only [adO_isSome]; assumption)) only [↓vcp, vcs, vct, if_true, if_false, Nat.reduceBEq, ↓reduceIte, Nat.reduceEqDiff, Nat.reduceAdd, Nat.reduceMul, Nat.reduceSub, Int.reduceToNat, reduceCtorEq, Nat.reduceLT, Nat.reduceLeDiff, Int.reduceSub, Int.reduceAdd, Int.reduceNeg, Sat.look hs, Sat.lookA hs]) | (refine khK he hs ?_; clear he; intro he) | ((first | refine stK hs ?_ | refine stFK hs ?_ | refine stAK hs ?_ | refine msK hs ?_); clear hs; (try clear w); rintro w hs; try simp only [cls] at hs) | ((first | refine al_ok hs ?_ | refine bx_ok hs ?_ | refine bsvK hs ?_ | refine bs1_ok hs ?_ | refine bs0_ok hs ?_); clear hs; (try clear w); rintro _ w hs; try simp only [cls] at hs)))
      exact ⟨(na, nc), by rfl, by rfl, hnl, hnf, hs⟩
    obtain ⟨d, hd⟩ : ∃ d, L[i]? = some d := ⟨_, List.getElem?_eq_getElem hlt⟩
    have hdf := hall d (List.mem_of_getElem? hd)
    have hdrop : L.drop i = d :: L.drop (i + 1) := by
      rw [List.drop_eq_getElem_cons hlt]
      rw [List.getElem?_eq_getElem hlt] at hd
      rw [Option.some.inj hd]
    rw [hdrop] at hp
    unfold pass at hp
    have hq := div_ltf (f := f) (t := t) (r := r) (d := d) (by omega) hr hdf
    have hfr : f * r ≤ 256 * 256 := Nat.mul_le_mul hf2 (by omega)
    have hrm : (f * r + d) % t < t := Nat.mod_lt _ (by omega)
    have hmul : (f : Int) * (r : Int) = ((f * r : Nat) : Int) := by norm_cast
    generalize f * r = fr at *
    have hadd : (fr : Int) + (d : Int) = ((fr + d : Nat) : Int) := by omega
    have hfd : fr + d ≤ 65792 := by omega
    generalize fr + d = N at *
    have has : la.isSome = true := hL.isSome (by rw [List.length_map]; omega)
    have f0 : oldO (.at wB) (adO la i) = some (.int .i64 (d : Int)) := hL i _ (i64d_get hd)
    have htd : (N : Int).tdiv (t : Int) = ((N / t : Nat) : Int) := rfl
    have htm : (N : Int).tmod (t : Int) = ((N % t : Nat) : Int) := rfl
    generalize N / t = Q at *
    generalize N % t = Rm at *
    by_cases hnx : nx = []
    · subst hnx
      by_cases hq0 : 0 < Q
      · rw [if_pos (.inr hq0)] at hp
        have hqd : decide ((0 : Int) < (Q : Int)) = true := decide_eq_true (by omega)
        (repeat (first | (simp (disch := first | omega | assumption | exact Option.isSome_some | (simp only [adO_isSome]; assumption)) only [↓vcp, vcs, vct, if_true, if_false, Nat.reduceBEq, ↓reduceIte, Nat.reduceEqDiff, Nat.reduceAdd, Nat.reduceMul, Nat.reduceSub, Int.reduceToNat, reduceCtorEq, Nat.reduceLT, Nat.reduceLeDiff, Int.reduceSub, Int.reduceAdd, Int.reduceNeg, Sat.look hs, Sat.lookA hs, hmul, hadd, htd, htm, hs.old f0, hqd]) | (refine khK he hs ?_; clear he; intro he) | ((first | refine stK hs ?_ | refine stFK hs ?_ | refine stAK hs ?_ | refine msK hs ?_); clear hs; (try clear w); rintro w hs; try simp only [cls] at hs) | ((first | refine al_ok hs ?_ | refine bx_ok hs ?_ | refine bsvK hs ?_ | refine bs1_ok hs ?_ | refine bs0_ok hs ?_); clear hs; (try clear w); rintro _ w hs; try simp only [cls] at hs)))
        rename Nat => l1
        refine apK 1 hs (hs.rd (a := some ⟨l1, 0, none⟩)) ?_; clear hs; (try clear w); rintro a2 c2 w hc2 hs; try simp only [cls] at hs
        have e1 : ([] : List Nat).map i64d ++ [Value.int .i64 (Q : Int)] = ([] ++ [Q]).map i64d := by simp [i64d]
        rw [e1] at hs
        (repeat (first | (simp (disch := first | omega | assumption | exact Option.isSome_some | (simp only [adO_isSome]; assumption)) only [↓vcp, vcs, vct, if_true, if_false, Nat.reduceBEq, ↓reduceIte, Nat.reduceEqDiff, Nat.reduceAdd, Nat.reduceMul, Nat.reduceSub, Int.reduceToNat, reduceCtorEq, Nat.reduceLT, Nat.reduceLeDiff, Int.reduceSub, Int.reduceAdd, Int.reduceNeg, Sat.look hs, Sat.lookA hs, hmul, hadd, htd, htm]) | (refine khK he hs ?_; clear he; intro he) | ((first | refine stK hs ?_ | refine stFK hs ?_ | refine stAK hs ?_ | refine msK hs ?_); clear hs; (try clear w); rintro w hs; try simp only [cls] at hs) | ((first | refine al_ok hs ?_ | refine bx_ok hs ?_ | refine bsvK hs ?_ | refine bs1_ok hs ?_ | refine bs0_ok hs ?_); clear hs; (try clear w); rintro _ w hs; try simp only [cls] at hs)))
        have hdn2 : decide (([] ++ [Q] : List Nat) ≠ []) = true := by simp
        exact ⟨(i + 1, Rm, [] ++ [Q], a2, c2), by dsimp only; rw [hdn2]; rfl, by rfl, ⟨by dsimp only; omega, hrm, hp, by dsimp only; simp, (fun p hpm => by rw [List.mem_singleton.1 hpm]; exact hq), hs.sub (.cons_cons _ (List.nil_sublist _))⟩, by dsimp only; omega⟩
      · rw [if_neg (fun h => h.elim (fun h => h rfl) hq0)] at hp
        have hqd : decide ((0 : Int) < (Q : Int)) = false := decide_eq_false (by omega)
        (repeat (first | (simp (disch := first | omega | assumption | exact Option.isSome_some | (simp only [adO_isSome]; assumption)) only [↓vcp, vcs, vct, if_true, if_false, Nat.reduceBEq, ↓reduceIte, Nat.reduceEqDiff, Nat.reduceAdd, Nat.reduceMul, Nat.reduceSub, Int.reduceToNat, reduceCtorEq, Nat.reduceLT, Nat.reduceLeDiff, Int.reduceSub, Int.reduceAdd, Int.reduceNeg, Sat.look hs, Sat.lookA hs, hmul, hadd, htd, htm, hs.old f0, hqd]) | (refine khK he hs ?_; clear he; intro he) | ((first | refine stK hs ?_ | refine stFK hs ?_ | refine stAK hs ?_ | refine msK hs ?_); clear hs; (try clear w); rintro w hs; try simp only [cls] at hs) | ((first | refine al_ok hs ?_ | refine bx_ok hs ?_ | refine bsvK hs ?_ | refine bs1_ok hs ?_ | refine bs0_ok hs ?_); clear hs; (try clear w); rintro _ w hs; try simp only [cls] at hs)))
        have hdn2 : decide (([] : List Nat) ≠ []) = false := by simp
        exact ⟨(i + 1, Rm, [], na, nc), by dsimp only; rw [hdn2]; rfl, by rfl, ⟨by dsimp only; omega, hrm, hp, by dsimp only; simp, (fun p hpm => by cases hpm), hs⟩, by dsimp only; omega⟩
    · rw [if_pos (.inl hnx)] at hp
      have hdn : decide (nx ≠ []) = true := decide_eq_true hnx
      (repeat (first | (simp (disch := first | omega | assumption | exact Option.isSome_some | (simp only [adO_isSome]; assumption)) only [↓vcp, vcs, vct, if_true, if_false, Nat.reduceBEq, ↓reduceIte, Nat.reduceEqDiff, Nat.reduceAdd, Nat.reduceMul, Nat.reduceSub, Int.reduceToNat, reduceCtorEq, Nat.reduceLT, Nat.reduceLeDiff, Int.reduceSub, Int.reduceAdd, Int.reduceNeg, Sat.look hs, Sat.lookA hs, hmul, hadd, htd, htm, hs.old f0, hnx, hdn]) | (refine khK he hs ?_; clear he; intro he) | ((first | refine stK hs ?_ | refine stFK hs ?_ | refine stAK hs ?_ | refine msK hs ?_); clear hs; (try clear w); rintro w hs; try simp only [cls] at hs) | ((first | refine al_ok hs ?_ | refine bx_ok hs ?_ | refine bsvK hs ?_ | refine bs1_ok hs ?_ | refine bs0_ok hs ?_); clear hs; (try clear w); rintro _ w hs; try simp only [cls] at hs)))
      rename Nat => l1
      refine apK 1 hs (hs.rd (a := some ⟨l1, 0, none⟩)) ?_; clear hs; (try clear w); rintro a2 c2 w hc2 hs; try simp only [cls] at hs
      have e1 : nx.map i64d ++ [Value.int .i64 (Q : Int)] = (nx ++ [Q]).map i64d := by simp [i64d]
      rw [e1] at hs
      rw [show nx.length + 1 = (nx ++ [Q]).length by simp] at hc2 ⊢
      have hdn2 : decide (nx ++ [Q] ≠ []) = true := by simp
      (repeat (first | (simp (disch := first | omega | assumption | exact Option.isSome_some | (simp only [adO_isSome]; assumption)) only [↓vcp, vcs, vct, if_true, if_false, Nat.reduceBEq, ↓reduceIte, Nat.reduceEqDiff, Nat.reduceAdd, Nat.reduceMul, Nat.reduceSub, Int.reduceToNat, reduceCtorEq, Nat.reduceLT, Nat.reduceLeDiff, Int.reduceSub, Int.reduceAdd, Int.reduceNeg, Sat.look hs, Sat.lookA hs, hmul, hadd, htd, htm]) | (refine khK he hs ?_; clear he; intro he) | ((first | refine stK hs ?_ | refine stFK hs ?_ | refine stAK hs ?_ | refine msK hs ?_); clear hs; (try clear w); rintro w hs; try simp only [cls] at hs) | ((first | refine al_ok hs ?_ | refine bx_ok hs ?_ | refine bsvK hs ?_ | refine bs1_ok hs ?_ | refine bs0_ok hs ?_); clear hs; (try clear w); rintro _ w hs; try simp only [cls] at hs)))
      exact ⟨(i + 1, Rm, nx ++ [Q], a2, c2), by dsimp only; rw [hdn2]; rfl, by rfl, ⟨by dsimp only; omega, hrm, hp, by dsimp only; rw [List.length_append, List.length_singleton]; omega, (fun p hpm => by
        rcases List.mem_append.1 hpm with h | h
        · exact hnf p h
        · rw [List.mem_singleton.1 h]; exact hq), hs.sub (.cons_cons _ (List.nil_sublist _))⟩, by dsimp only; omega⟩
  · clear hs
    rintro e ⟨na, nc⟩ w ⟨hnl, hnf, hs⟩
    dsimp only at hnl hnf hs ⊢
    by_cases hL0 : L = []
    · subst hL0
      have heq : out = D.reverse := by
        rw [← heq, show valh f [] 0 = 0 from rfl, digs0_zero]
        rfl
      subst heq
      (repeat (first | (simp (disch := first | omega | assumption | exact Option.isSome_some | (simp only [adO_isSome]; assumption)) only [↓vcp, vcs, vct, if_true, if_false, Nat.reduceBEq, ↓reduceIte, Nat.reduceEqDiff, Nat.reduceAdd, Nat.reduceMul, Nat.reduceSub, Int.reduceToNat, reduceCtorEq, Nat.reduceLT, Nat.reduceLeDiff, Int.reduceSub, Int.reduceAdd, Int.reduceNeg, Sat.look hs, Sat.lookA hs]) | (refine khK he hs ?_; clear he; intro he) | ((first | refine stK hs ?_ | refine stFK hs ?_ | refine stAK hs ?_ | refine msK hs ?_); clear hs; (try clear w); rintro w hs; try simp only [cls] at hs) | ((first | refine al_ok hs ?_ | refine bx_ok hs ?_ | refine bsvK hs ?_ | refine bs1_ok hs ?_ | refine bs0_ok hs ?_); clear hs; (try clear w); rintro _ w hs; try simp only [cls] at hs)))
      rw [List.length_reverse]
      exact ret_tmp rfl (hR _ _ ⟨oa, oc, rfl, stayD hs1 hs⟩)
    have hL1 : 0 < L.length := List.length_pos_iff.2 hL0
    obtain ⟨hrd, hpl⟩ := round_digs (f := f) (t := t) (by omega) ht hlead hL0
    rw [hP] at hrd hpl
    have hpv := pass_val f t (by omega) L 0 [] (by omega)
    rw [hP] at hpv
    have hV : valh f L (t * valh f [] 0 + 0) = valh f L 0 := by congr 1
    rw [hV] at hpv
    have hVp := lead_pos f (by omega) hlead hL0
    have hsome : P.1 ≠ [] ∨ 0 < P.2 := by
      rcases Nat.eq_zero_or_pos P.2 with h | h
      · left
        intro h1
        rw [h1, h, show valh f [] 0 = 0 from rfl, Nat.mul_zero] at hpv
        omega
      · exact .inr h
    have hmeas : valh f P.1 0 < valh f L 0 := by
      have h1 : 2 * valh f P.1 0 ≤ t * valh f P.1 0 := Nat.mul_le_mul_right _ ht
      rcases Nat.eq_zero_or_pos (valh f P.1 0) with h | h
      · omega
      · omega
    rw [hrd, List.reverse_cons, List.append_assoc] at heq
    have hlt2 : P.2 < t := hpv.2
    rw [hrd, List.length_cons] at holen
    obtain ⟨nx, r⟩ := P
    dsimp only at *
    clear hP hpv hrd hV hVp
    by_cases hnx : nx = []
    · subst hnx
      have hr0 : 0 < r := by
        rcases hsome with h | h
        · exact absurd rfl h
        · exact h
      have hrd0 : decide ((0 : Int) < (r : Int)) = true := decide_eq_true (by omega)
      (repeat (first | (simp (disch := first | omega | assumption | exact Option.isSome_some | (simp only [adO_isSome]; assumption)) only [↓vcp, vcs, vct, if_true, if_false, Nat.reduceBEq, ↓reduceIte, Nat.reduceEqDiff, Nat.reduceAdd, Nat.reduceMul, Nat.reduceSub, Int.reduceToNat, reduceCtorEq, Nat.reduceLT, Nat.reduceLeDiff, Int.reduceSub, Int.reduceAdd, Int.reduceNeg, Sat.look hs, Sat.lookA hs, hrd0]) | (refine khK he hs ?_; clear he; intro he) | ((first | refine stK hs ?_ | refine stFK hs ?_ | refine stAK hs ?_ | refine msK hs ?_); clear hs; (try clear w); rintro w hs; try simp only [cls] at hs) | ((first | refine al_ok hs ?_ | refine bx_ok hs ?_ | refine bsvK hs ?_ | refine bs1_ok hs ?_ | refine bs0_ok hs ?_); clear hs; (try clear w); rintro _ w hs; try simp only [cls] at hs)))
      have hone := oneD out
      refine apK (out.length) hs (hout.rd hs) ?_; clear hs; (try clear w); rintro a2 c2 w hc2 hs; try simp only [cls] at hs
      have e1 : Value.int .i64 (r : Int) :: out.map i64d = (r :: out).map i64d := rfl
      rw [e1] at hs
      rw [show 1 + out.length = (r :: out).length by rw [List.length_cons, Nat.add_comm]] at hc2 ⊢
      (repeat (first | (simp (disch := first | omega | assumption | exact Option.isSome_some | (simp only [adO_isSome]; assumption)) only [↓vcp, vcs, vct, if_true, if_false, Nat.reduceBEq, ↓reduceIte, Nat.reduceEqDiff, Nat.reduceAdd, Nat.reduceMul, Nat.reduceSub, Int.reduceToNat, reduceCtorEq, Nat.reduceLT, Nat.reduceLeDiff, Int.reduceSub, Int.reduceAdd, Int.reduceNeg, Sat.look hs, Sat.lookA hs]) | (refine khK he hs ?_; clear he; intro he) | ((first | refine stK hs ?_ | refine stFK hs ?_ | refine stAK hs ?_ | refine msK hs ?_); clear hs; (try clear w); rintro w hs; try simp only [cls] at hs) | ((first | refine al_ok hs ?_ | refine bx_ok hs ?_ | refine bsvK hs ?_ | refine bs1_ok hs ?_ | refine bs0_ok hs ?_); clear hs; (try clear w); rintro _ w hs; try simp only [cls] at hs)))
      exact ⟨(na, nc, [], a2, c2, r :: out), by rfl, by rfl, ⟨hs.ro (a := na), hpl, hnf, by dsimp only; omega, heq, (hs1.add hs).sub (.cons _ (.cons _ (List.Sublist.refl _)))⟩, hmeas⟩
    · have hdn : decide (nx ≠ []) = true := decide_eq_true hnx
      (repeat (first | (simp (disch := first | omega | assumption | exact Option.isSome_some | (simp only [adO_isSome]; assumption)) only [↓vcp, vcs, vct, if_true, if_false, Nat.reduceBEq, ↓reduceIte, Nat.reduceEqDiff, Nat.reduceAdd, Nat.reduceMul, Nat.reduceSub, Int.reduceToNat, reduceCtorEq, Nat.reduceLT, Nat.reduceLeDiff, Int.reduceSub, Int.reduceAdd, Int.reduceNeg, Sat.look hs, Sat.lookA hs, hnx, hdn]) | (refine khK he hs ?_; clear he; intro he) | ((first | refine stK hs ?_ | refine stFK hs ?_ | refine stAK hs ?_ | refine msK hs ?_); clear hs; (try clear w); rintro w hs; try simp only [cls] at hs) | ((first | refine al_ok hs ?_ | refine bx_ok hs ?_ | refine bsvK hs ?_ | refine bs1_ok hs ?_ | refine bs0_ok hs ?_); clear hs; (try clear w); rintro _ w hs; try simp only [cls] at hs)))
      have hone := oneD out
      refine apK (out.length) hs (hout.rd hs) ?_; clear hs; (try clear w); rintro a2 c2 w hc2 hs; try simp only [cls] at hs
      have e1 : Value.int .i64 (r : Int) :: out.map i64d = (r :: out).map i64d := rfl
      rw [e1] at hs
      rw [show 1 + out.length = (r :: out).length by rw [List.length_cons, Nat.add_comm]] at hc2 ⊢
      (repeat (first | (simp (disch := first | omega | assumption | exact Option.isSome_some | (simp only [adO_isSome]; assumption)) only [↓vcp, vcs, vct, if_true, if_false, Nat.reduceBEq, ↓reduceIte, Nat.reduceEqDiff, Nat.reduceAdd, Nat.reduceMul, Nat.reduceSub, Int.reduceToNat, reduceCtorEq, Nat.reduceLT, Nat.reduceLeDiff, Int.reduceSub, Int.reduceAdd, Int.reduceNeg, Sat.look hs, Sat.lookA hs]) | (refine khK he hs ?_; clear he; intro he) | ((first | refine stK hs ?_ | refine stFK hs ?_ | refine stAK hs ?_ | refine msK hs ?_); clear hs; (try clear w); rintro w hs; try simp only [cls] at hs) | ((first | refine al_ok hs ?_ | refine bx_ok hs ?_ | refine bsvK hs ?_ | refine bs1_ok hs ?_ | refine bs0_ok hs ?_); clear hs; (try clear w); rintro _ w hs; try simp only [cls] at hs)))
      exact ⟨(na, nc, nx, a2, c2, r :: out), by rfl, by rfl, ⟨hs.ro (a := na), hpl, hnf, by dsimp only; omega, heq, (hs1.add hs).sub (.cons _ (.cons _ (List.Sublist.refl _)))⟩, hmeas⟩
end Go.Proofs.YtokoohdpakhphaaDoor.Lnk
