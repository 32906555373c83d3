/- What strings.Builder's WriteByte and String do. -/
import Derived.Test.YtokoohdpakhphaaDoorStr
import Derived.Test.YtokoohdpakhphaaDoorTy
import Derived.Test.YtokoohdpakhphaaDoorNums
import Derived.Test.YtokoohdpakhphaaDoorBitsU
namespace Go.Proofs.YtokoohdpakhphaaDoor.Lnk
open Go VC Go.RowKit
set_option linter.unusedSimpArgs false
set_option linter.unusedVariables false
set_option maxRecDepth 20000
set_option maxHeartbeats 4000000
theorem shape_bk {S : Cx} {H : List Ck} {w : World} {b t : Nat} {cs : List Value} (hs : VC.Sat S H w) (i : Nat) (hi : H[i]? = some (.bk b cs t)) : w.shape? b = some (t, cs.length) := by
  have : BkH w b cs t := hs.holds _ (List.mem_of_getElem? hi)
  obtain ⟨fr, h1, _⟩ := this
  unfold World.shape?
  rw [h1]
  simp
theorem copyCheck_calls (S : Cx) (w0 : World) (b : Nat) (p : Option Addr) (x : Value) (h1 : VC.Sat S [.bk b [.pointer p, x] 94] w0) (hp : p = none ∨ p = some ⟨b, 0, none⟩) :
    Calls Tryd.prog 83 #[.pointer (some ⟨b, 0, none⟩)] w0 fun e w' => e = .returned (.tuple #[]) ∧ VC.Sat S [.bk b [.pointer (some ⟨b, 0, none⟩), x] 94] w' := by
  refine calls_vc Tryd.func83 rfl (by kernel_rfl) (by kernel_rfl) ?_; intro R hR
  have hs := h1
  clear h1
  rcases hp with rfl | rfl
  · (repeat (first | (simp (disch := first | omega | assumption | exact Option.isSome_some | (simp only [adO_isSome]; assumption)) only [↓vcp, vcs, vct, if_true, if_false, Nat.reduceBEq, ↓reduceIte, Nat.reduceEqDiff, Nat.reduceAdd, Nat.reduceMul, Nat.reduceSub, Int.reduceToNat, reduceCtorEq, Nat.reduceLT, Nat.reduceLeDiff, Int.reduceSub, Int.reduceAdd, Int.reduceNeg, Sat.look hs, Sat.lookA hs]) | (refine khK he hs ?_; clear he; intro he) | ((first | refine stK hs ?_ | refine stFK hs ?_ | refine stAK hs ?_ | refine msK hs ?_); clear hs; (try clear w); rintro w hs; try simp only [cls] at hs) | ((first | refine al_ok hs ?_ | refine bx_ok hs ?_ | refine bsvK hs ?_ | refine bs1_ok hs ?_ | refine bs0_ok hs ?_); clear hs; (try clear w); rintro _ w hs; try simp only [cls] at hs)))
    have hsh := shape_bk hs 0 rfl
    have hi : ∃ j : TypeInfo, Tryd.prog.info? 94 = some j ∧ j.size = 2 := by
      have : (Tryd.prog.info? 94).map (·.size) = some 2 := by kernel_rfl
      obtain ⟨j, h1, h2⟩ := Option.map_eq_some_iff.1 this
      exact ⟨j, h1, h2⟩
    obtain ⟨j, hj, hjs⟩ := hi
    have u1 : Tryd.prog.underlying 92 = some (.pointer 94) := by kernel_rfl
    have u2 : Tryd.prog.underlying 136 = some .unsafePointer := by kernel_rfl
    have hlies : liesAt Tryd.prog Tryd.prog.depth 94 (2 / Tryd.prog.cellsOf 94) 0 94 1 = true := by kernel_rfl
    rw [runS_ok (Lib.run_to_unsafe (e := 94) (cells := 2) _ ⟨b, 0, none⟩ u1 u2 hj (by omega) hsh (Nat.zero_lt_succ 1))]
    (repeat (first | (simp (disch := first | omega | assumption | exact Option.isSome_some | (simp only [adO_isSome]; assumption)) only [↓vcp, vcs, vct, if_true, if_false, Nat.reduceBEq, ↓reduceIte, Nat.reduceEqDiff, Nat.reduceAdd, Nat.reduceMul, Nat.reduceSub, Int.reduceToNat, reduceCtorEq, Nat.reduceLT, Nat.reduceLeDiff, Int.reduceSub, Int.reduceAdd, Int.reduceNeg, Sat.look hs, Sat.lookA hs]) | (refine khK he hs ?_; clear he; intro he) | ((first | refine stK hs ?_ | refine stFK hs ?_ | refine stAK hs ?_ | refine msK hs ?_); clear hs; (try clear w); rintro w hs; try simp only [cls] at hs) | ((first | refine al_ok hs ?_ | refine bx_ok hs ?_ | refine bsvK hs ?_ | refine bs1_ok hs ?_ | refine bs0_ok hs ?_); clear hs; (try clear w); rintro _ w hs; try simp only [cls] at hs)))
    refine ext_ok (e := Extern.AbiNoEscape.same) (v := .pointer (some ⟨b, 0, none⟩)) Tryd.func98 (by kernel_rfl) (by kernel_rfl) (by kernel_rfl) (by kernel_rfl) rfl ?_
    (repeat (first | (simp (disch := first | omega | assumption | exact Option.isSome_some | (simp only [adO_isSome]; assumption)) only [↓vcp, vcs, vct, if_true, if_false, Nat.reduceBEq, ↓reduceIte, Nat.reduceEqDiff, Nat.reduceAdd, Nat.reduceMul, Nat.reduceSub, Int.reduceToNat, reduceCtorEq, Nat.reduceLT, Nat.reduceLeDiff, Int.reduceSub, Int.reduceAdd, Int.reduceNeg, Sat.look hs, Sat.lookA hs]) | (refine khK he hs ?_; clear he; intro he) | ((first | refine stK hs ?_ | refine stFK hs ?_ | refine stAK hs ?_ | refine msK hs ?_); clear hs; (try clear w); rintro w hs; try simp only [cls] at hs) | ((first | refine al_ok hs ?_ | refine bx_ok hs ?_ | refine bsvK hs ?_ | refine bs1_ok hs ?_ | refine bs0_ok hs ?_); clear hs; (try clear w); rintro _ w hs; try simp only [cls] at hs)))
    rw [runS_ok (Lib.run_from_unsafe (e := 94) (cells := 2) _ ⟨b, 0, none⟩ u2 u1 hj hsh hlies)]
    (repeat (first | (simp (disch := first | omega | assumption | exact Option.isSome_some | (simp only [adO_isSome]; assumption)) only [↓vcp, vcs, vct, if_true, if_false, Nat.reduceBEq, ↓reduceIte, Nat.reduceEqDiff, Nat.reduceAdd, Nat.reduceMul, Nat.reduceSub, Int.reduceToNat, reduceCtorEq, Nat.reduceLT, Nat.reduceLeDiff, Int.reduceSub, Int.reduceAdd, Int.reduceNeg, Sat.look hs, Sat.lookA hs]) | (refine khK he hs ?_; clear he; intro he) | ((first | refine stK hs ?_ | refine stFK hs ?_ | refine stAK hs ?_ | refine msK hs ?_); clear hs; (try clear w); rintro w hs; try simp only [cls] at hs) | ((first | refine al_ok hs ?_ | refine bx_ok hs ?_ | refine bsvK hs ?_ | refine bs1_ok hs ?_ | refine bs0_ok hs ?_); clear hs; (try clear w); rintro _ w hs; try simp only [cls] at hs)))
    exact ret_none rfl (hR _ _ ⟨rfl, hs⟩)
  · (repeat (first | (simp (disch := first | omega | assumption | exact Option.isSome_some | (simp only [adO_isSome]; assumption)) only [↓vcp, vcs, vct, if_true, if_false, Nat.reduceBEq, ↓reduceIte, Nat.reduceEqDiff, Nat.reduceAdd, Nat.reduceMul, Nat.reduceSub, Int.reduceToNat, reduceCtorEq, Nat.reduceLT, Nat.reduceLeDiff, Int.reduceSub, Int.reduceAdd, Int.reduceNeg, Sat.look hs, Sat.lookA hs]) | (refine khK he hs ?_; clear he; intro he) | ((first | refine stK hs ?_ | refine stFK hs ?_ | refine stAK hs ?_ | refine msK hs ?_); clear hs; (try clear w); rintro w hs; try simp only [cls] at hs) | ((first | refine al_ok hs ?_ | refine bx_ok hs ?_ | refine bsvK hs ?_ | refine bs1_ok hs ?_ | refine bs0_ok hs ?_); clear hs; (try clear w); rintro _ w hs; try simp only [cls] at hs)))
    have hi : ∃ j : TypeInfo, Tryd.prog.info? 94 = some j ∧ j.size = 2 := by
      have : (Tryd.prog.info? 94).map (·.size) = some 2 := by kernel_rfl
      obtain ⟨j, h1, h2⟩ := Option.map_eq_some_iff.1 this
      exact ⟨j, h1, h2⟩
    obtain ⟨j, hj, hjs⟩ := hi
    have u1 : Tryd.prog.underlying 92 = some (.pointer 94) := by kernel_rfl
    have u2 : Tryd.prog.underlying 136 = some .unsafePointer := by kernel_rfl
    have hlies : liesAt Tryd.prog Tryd.prog.depth 94 (2 / Tryd.prog.cellsOf 94) 0 94 1 = true := by kernel_rfl
    unfold binE
    have hne := Lib.run_neq_ptr_same w0 ⟨b, 0, none⟩ u1 hj
    rw [runS_ok (v := .bool false) (w' := w0) (by simp [eqGuard, run_underlying u1, hne])]
    (repeat (first | (simp (disch := first | omega | assumption | exact Option.isSome_some | (simp only [adO_isSome]; assumption)) only [↓vcp, vcs, vct, if_true, if_false, Nat.reduceBEq, ↓reduceIte, Nat.reduceEqDiff, Nat.reduceAdd, Nat.reduceMul, Nat.reduceSub, Int.reduceToNat, reduceCtorEq, Nat.reduceLT, Nat.reduceLeDiff, Int.reduceSub, Int.reduceAdd, Int.reduceNeg, Sat.look hs, Sat.lookA hs]) | (refine khK he hs ?_; clear he; intro he) | ((first | refine stK hs ?_ | refine stFK hs ?_ | refine stAK hs ?_ | refine msK hs ?_); clear hs; (try clear w); rintro w hs; try simp only [cls] at hs) | ((first | refine al_ok hs ?_ | refine bx_ok hs ?_ | refine bsvK hs ?_ | refine bs1_ok hs ?_ | refine bs0_ok hs ?_); clear hs; (try clear w); rintro _ w hs; try simp only [cls] at hs)))
    exact ret_none rfl (hR _ _ ⟨rfl, hs⟩)
/-- what a builder holds: its own address or none, its row -/
def bld (b : Nat) (p a : Option Addr) (c : Nat) (bs : List UInt8) : List Ck := [.bk b [.pointer p, .slice a bs.length c] 94, .sl a c (bs.map u8v) 5 1]
theorem WriteByte_calls (S : Cx) (w0 : World) (b : Nat) (p a : Option Addr) (c : Nat) (bs : List UInt8) (x : UInt8) (h1 : VC.Sat S (bld b p a c bs) w0) (hp : p = none ∨ p = some ⟨b, 0, none⟩) (hl : bs.length ≤ 140737488351232) :
    Calls Tryd.prog 63 #[.pointer (some ⟨b, 0, none⟩), .int .u8 x.toNat] w0 fun e w' => ∃ a' c', e = .returned .nilIface ∧ VC.Sat S (bld b (some ⟨b, 0, none⟩) a' c' (bs ++ [x])) w' := by
  refine calls_vc Tryd.func63 rfl (by kernel_rfl) (by kernel_rfl) ?_; intro R hR
  have hs := h1
  unfold bld at hs
  clear h1
  (repeat (first | (simp (disch := first | omega | assumption | exact Option.isSome_some | (simp only [adO_isSome]; assumption)) only [↓vcp, vcs, vct, if_true, if_false, Nat.reduceBEq, ↓reduceIte, Nat.reduceEqDiff, Nat.reduceAdd, Nat.reduceMul, Nat.reduceSub, Int.reduceToNat, reduceCtorEq, Nat.reduceLT, Nat.reduceLeDiff, Int.reduceSub, Int.reduceAdd, Int.reduceNeg, Sat.look hs, Sat.lookA hs]) | (refine khK he hs ?_; clear he; intro he) | ((first | refine stK hs ?_ | refine stFK hs ?_ | refine stAK hs ?_ | refine msK hs ?_); clear hs; (try clear w); rintro w hs; try simp only [cls] at hs) | ((first | refine al_ok hs ?_ | refine bx_ok hs ?_ | refine bsvK hs ?_ | refine bs1_ok hs ?_ | refine bs0_ok hs ?_); clear hs; (try clear w); rintro _ w hs; try simp only [cls] at hs)))
  refine call_ok (by kernel_rfl) (copyCheck_calls _ w0 b p _ (hs.one 0 rfl) hp) ?_; rintro _ w2 ⟨rfl, hb⟩; rw [callK_ret]; replace hs := Sat.upd hs 0 rfl hb; clear hb; (try clear w); rename World => w; try simp only [cls] at hs
  (repeat (first | (simp (disch := first | omega | assumption | exact Option.isSome_some | (simp only [adO_isSome]; assumption)) only [↓vcp, vcs, vct, if_true, if_false, Nat.reduceBEq, ↓reduceIte, Nat.reduceEqDiff, Nat.reduceAdd, Nat.reduceMul, Nat.reduceSub, Int.reduceToNat, reduceCtorEq, Nat.reduceLT, Nat.reduceLeDiff, Int.reduceSub, Int.reduceAdd, Int.reduceNeg, Sat.look hs, Sat.lookA hs]) | (refine khK he hs ?_; clear he; intro he) | ((first | refine stK hs ?_ | refine stFK hs ?_ | refine stAK hs ?_ | refine msK hs ?_); clear hs; (try clear w); rintro w hs; try simp only [cls] at hs) | ((first | refine al_ok hs ?_ | refine bx_ok hs ?_ | refine bsvK hs ?_ | refine bs1_ok hs ?_ | refine bs0_ok hs ?_); clear hs; (try clear w); rintro _ w hs; try simp only [cls] at hs)))
  rename_i l1
  refine apK 1 hs (hs.rd (a := some ⟨l1, 0, none⟩)) ?_; clear hs; (try clear w); rintro a3 c3 w hc3 hs; try simp only [cls] at hs
  (repeat (first | (simp (disch := first | omega | assumption | exact Option.isSome_some | (simp only [adO_isSome]; assumption)) only [↓vcp, vcs, vct, if_true, if_false, Nat.reduceBEq, ↓reduceIte, Nat.reduceEqDiff, Nat.reduceAdd, Nat.reduceMul, Nat.reduceSub, Int.reduceToNat, reduceCtorEq, Nat.reduceLT, Nat.reduceLeDiff, Int.reduceSub, Int.reduceAdd, Int.reduceNeg, Sat.look hs, Sat.lookA hs]) | (refine khK he hs ?_; clear he; intro he) | ((first | refine stK hs ?_ | refine stFK hs ?_ | refine stAK hs ?_ | refine msK hs ?_); clear hs; (try clear w); rintro w hs; try simp only [cls] at hs) | ((first | refine al_ok hs ?_ | refine bx_ok hs ?_ | refine bsvK hs ?_ | refine bs1_ok hs ?_ | refine bs0_ok hs ?_); clear hs; (try clear w); rintro _ w hs; try simp only [cls] at hs)))
  refine ret_tmp rfl (hR _ _ ⟨a3, c3, rfl, ?_⟩)
  unfold bld
  rw [List.length_append, List.map_append]
  exact hs.sub (.cons_cons _ (.cons_cons _ (List.nil_sublist _)))
theorem String_calls (S : Cx) (w0 : World) (b : Nat) (p a : Option Addr) (c : Nat) (bs : List UInt8) (h1 : VC.Sat S (bld b p a c bs) w0) (hn : bs = [] → a = none ∧ c = 0) (hl : bs.length ≤ 140737488351232) :
    Calls Tryd.prog 64 #[.pointer (some ⟨b, 0, none⟩)] w0 fun e w' => e = .returned (.string ⟨bs.toArray⟩) ∧ VC.Sat S [] w' := by
  refine calls_vc Tryd.func64 rfl (by kernel_rfl) (by kernel_rfl) ?_; intro R hR
  have hs := h1
  unfold bld at hs
  clear h1
  (repeat (first | (simp (disch := first | omega | assumption | exact Option.isSome_some | (simp only [adO_isSome]; assumption)) only [↓vcp, vcs, vct, if_true, if_false, Nat.reduceBEq, ↓reduceIte, Nat.reduceEqDiff, Nat.reduceAdd, Nat.reduceMul, Nat.reduceSub, Int.reduceToNat, reduceCtorEq, Nat.reduceLT, Nat.reduceLeDiff, Int.reduceSub, Int.reduceAdd, Int.reduceNeg, Sat.look hs, Sat.lookA hs]) | (refine khK he hs ?_; clear he; intro he) | ((first | refine stK hs ?_ | refine stFK hs ?_ | refine stAK hs ?_ | refine msK hs ?_); clear hs; (try clear w); rintro w hs; try simp only [cls] at hs) | ((first | refine al_ok hs ?_ | refine bx_ok hs ?_ | refine bsvK hs ?_ | refine bs1_ok hs ?_ | refine bs0_ok hs ?_); clear hs; (try clear w); rintro _ w hs; try simp only [cls] at hs)))
  have hsl : SlH w0 a c (bs.map u8v) 5 1 := hs.holds _ (.tail _ (.head _))
  have hcl : bs.length ≤ c ∧ (c = 0 → a = none) ∧ ((a = none ∧ bs = [] ∧ c = 0) ∨ ∃ g, a = some ⟨g, 0, none⟩) := by
    rcases hsl with ⟨h1, h2, h3⟩ | ⟨g, cs, h1, h2, h3, h4, h5, h6⟩
    · have : bs = [] := by simpa using h3
      subst this
      exact ⟨Nat.zero_le _, fun _ => h1, .inl ⟨h1, rfl, h2⟩⟩
    · rw [List.length_map] at h5
      refine ⟨by omega, fun h0 => ?_, .inr ⟨g, h1⟩⟩
      have : bs.length = 0 := by omega
      exact (hn (List.eq_nil_of_length_eq_zero this)).1
  clear hsl
  obtain ⟨hcl, hc0, ha⟩ := hcl
  have hsF := hs
  clear hs
  have f1 : oldO _ (some ⟨b, 1, none⟩) = some (.slice a bs.length c) := (hsF.roOtherBk (i := 1) 0 rfl rfl (by decide)) 1 (.slice a bs.length c) rfl
  have hs := hsF.one 1 rfl
  rcases ha with ⟨rfl, rfl, rfl⟩ | ⟨g, rfl⟩
  · clear hc0 hn hs f1
    replace hsF : VC.Sat S [.bk b [.pointer p, .slice none 0 0] 94, .sl none 0 [] 5 1] w0 := hsF
    have f1 : oldO _ (some ⟨b, 1, none⟩) = some (.slice none 0 0) := (hsF.roOtherBk (i := 1) 0 rfl rfl (by decide)) 1 (.slice none 0 0) rfl
    have hs := hsF.one 1 rfl
    refine draw_plan (SatE _ []) [(0, true), (1, true), (2, true), (5, true), (6, true), (7, true), (3, true), (8, true), (9, true), (4, false), (10, false), (11, true)] (by kernel_rfl) (by kernel_rfl) (Sat.e0 (Sat.drew hs)) ?_; replace hs := Sat.drew hs; revert hs; generalize World.drew _ = w; intro hs; have he := Sat.e0 hs
    (repeat (first | (simp (disch := first | omega | assumption | exact Option.isSome_some | (simp only [adO_isSome]; assumption)) only [↓vcp, vcs, vct, if_true, if_false, Nat.reduceBEq, ↓reduceIte, Nat.reduceEqDiff, Nat.reduceAdd, Nat.reduceMul, Nat.reduceSub, Int.reduceToNat, reduceCtorEq, Nat.reduceLT, Nat.reduceLeDiff, Int.reduceSub, Int.reduceAdd, Int.reduceNeg, Sat.look hs, Sat.lookA hs, m_loadEO _ he _ f1, bi_uSlice, bi_uStr, m_uSlice0Y he, m_uSlice0]) | (refine khK he hs ?_; clear he; intro he) | ((first | refine stK hs ?_ | refine stFK hs ?_ | refine stAK hs ?_ | refine msK hs ?_); clear hs; (try clear w); rintro w hs; try simp only [cls] at hs) | ((first | refine al_ok hs ?_ | refine bx_ok hs ?_ | refine bsvK hs ?_ | refine bs1_ok hs ?_ | refine bs0_ok hs ?_); clear hs; (try clear w); rintro _ w hs; try simp only [cls] at hs)))
    have h3 := (hsF.sub (H' := [Ck.sl none 0 [] 5 1]) (.cons _ (List.Sublist.refl _))).frame (pre := [Ck.sl none 0 [] 5 1]) (F := []) (List.Perm.refl _) (by rw [foot1]; exact hs)
    exact ret_tmp rfl (hR _ _ ⟨rfl, h3.sub (List.nil_sublist _)⟩)
  · have hcn : c ≠ 0 := fun h => by cases hc0 h
    have hbn : bs ≠ [] := fun h => by cases (hn h).1
    refine draw_plan (SatE _ []) [(0, true), (1, true), (2, true), (5, true), (6, true), (7, true), (3, true), (8, true), (9, true), (4, false), (10, false), (11, true)] (by kernel_rfl) (by kernel_rfl) (Sat.e0 (Sat.drew hs)) ?_; replace hs := Sat.drew hs; revert hs; generalize World.drew _ = w; intro hs; have he := Sat.e0 hs
    (repeat (first | (simp (disch := first | omega | assumption | exact Option.isSome_some | (simp only [adO_isSome]; assumption)) only [↓vcp, vcs, vct, if_true, if_false, Nat.reduceBEq, ↓reduceIte, Nat.reduceEqDiff, Nat.reduceAdd, Nat.reduceMul, Nat.reduceSub, Int.reduceToNat, reduceCtorEq, Nat.reduceLT, Nat.reduceLeDiff, Int.reduceSub, Int.reduceAdd, Int.reduceNeg, Sat.look hs, Sat.lookA hs, m_loadEO _ he _ f1, bi_uSlice, bi_uStr, m_uSliceY he _ _ _ _ _ hcn, m_uSlice _ _ _ _ _ hcn]) | (refine khK he hs ?_; clear he; intro he) | ((first | refine stK hs ?_ | refine stFK hs ?_ | refine stAK hs ?_ | refine msK hs ?_); clear hs; (try clear w); rintro w hs; try simp only [cls] at hs) | ((first | refine al_ok hs ?_ | refine bx_ok hs ?_ | refine bsvK hs ?_ | refine bs1_ok hs ?_ | refine bs0_ok hs ?_); clear hs; (try clear w); rintro _ w hs; try simp only [cls] at hs)))
    have hcell : ∀ (j : Nat) (x : UInt8), bs[j]? = some x → w.cell? ((⟨g, 0, none⟩ : Addr).add j) = some (.int .u8 x.toNat) := fun j x hj => by
      have h1 : RdB w w.heap.size (some ⟨g, 0, none⟩) bs := hs.rd (a := some ⟨g, 0, none⟩)
      have h2 := RdB.cell h1 (i := j) (by have := List.getElem?_eq_some_iff.1 hj; exact this.1)
      have h3 := (List.getElem?_eq_some_iff.1 hj).2
      rw [h3] at h2
      exact h2
    have hshp : ∃ n, w.shape? g = some (5, n) ∧ bs.length ≤ n := by
      have hsl : SlH w (some ⟨g, 0, none⟩) c (bs.map u8v) 5 1 := hs.holds _ (.head _)
      rcases hsl with ⟨h1, _⟩ | ⟨g', cs, h1, h2, h3, h4, h5, h6⟩
      · cases h1
      · injection h1 with h1
        injection h1 with h1
        subst h1
        refine ⟨cs.size, by unfold World.shape?; rw [h2], ?_⟩
        rw [List.length_map] at h5
        omega
    obtain ⟨n, hshp, hnl⟩ := hshp
    rw [runS_ok (Lib.run_unsafeString_row _ 122 3 9 5 (by kernel_rfl) (by kernel_rfl) g n hshp bs hbn hnl (by omega) hcell)]
    have hs2 := freeze_sat (n := bs.length) hs
    refine khK he hs2 ?_
    clear he hs hcell hshp
    intro he
    have hs := hs2
    clear hs2
    generalize w.freeze ⟨g, 0, none⟩ bs.length = w2 at *
    (repeat (first | (simp (disch := first | omega | assumption | exact Option.isSome_some | (simp only [adO_isSome]; assumption)) only [↓vcp, vcs, vct, if_true, if_false, Nat.reduceBEq, ↓reduceIte, Nat.reduceEqDiff, Nat.reduceAdd, Nat.reduceMul, Nat.reduceSub, Int.reduceToNat, reduceCtorEq, Nat.reduceLT, Nat.reduceLeDiff, Int.reduceSub, Int.reduceAdd, Int.reduceNeg, Sat.look hs, Sat.lookA hs]) | (refine khK he hs ?_; clear he; intro he) | ((first | refine stK hs ?_ | refine stFK hs ?_ | refine stAK hs ?_ | refine msK hs ?_); clear hs; (try clear w); rintro w hs; try simp only [cls] at hs) | ((first | refine al_ok hs ?_ | refine bx_ok hs ?_ | refine bsvK hs ?_ | refine bs1_ok hs ?_ | refine bs0_ok hs ?_); clear hs; (try clear w); rintro _ w hs; try simp only [cls] at hs)))
    refine ret_tmp rfl (hR _ _ ⟨rfl, ?_⟩)
    have h3 := (hsF.sub (H' := [Ck.sl (some ⟨g, 0, none⟩) c (bs.map u8v) 5 1]) (.cons _ (List.Sublist.refl _))).frame (pre := [Ck.sl (some ⟨g, 0, none⟩) c (bs.map u8v) 5 1]) (F := []) (List.Perm.refl _) (by rw [foot1]; exact hs)
    exact h3
end Go.Proofs.YtokoohdpakhphaaDoor.Lnk
