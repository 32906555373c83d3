/- The answers that are kept till the end. -/
import Derived.Test.YtinnfbhdafkogaaLook
import Derived.Test.YtinnfbhdafkogaaTree
namespace Go.Proofs.Ytinnfbhdafkogaa.VC
open Go Go.RowKit
set_option linter.unusedVariables false
section
variable {S : Cx} {H : List Ck} {w : World} {P : Program} {K : Value → World → Prop} {pan : List PanicEntry → World → Prop} {t el by' : Nat}
theorem Sat.e0 (hs : Sat S H w) : SatE S [] w := ⟨H, hs⟩
theorem Ro.rdB {a : Option Addr} {xs : List Value} (h : Ro S a xs) (hs : Sat S H w) : Rd w S.base.heap.size a xs := fun hn => by
  have h0 : 0 < xs.length := List.length_pos_iff.2 hn
  have := h 0 xs[0] (List.getElem?_eq_getElem h0)
  rw [adO_0] at this
  obtain ⟨ad, rfl, hb, _, _⟩ := oldO_some this
  exact ⟨ad, rfl, hb, fun i hi => Ro.cell h hs (List.getElem?_eq_getElem hi)⟩
theorem m_strOfE (s t : Nat) [h1 : TSl P s el 1 by'] [h2 : TInt P el .u8] [h3 : TStr P t] {c n : Nat} {a : Option Addr} {xs : List UInt8} (he : SatE S H w) (hx : Ro S a (xs.map u8v)) (hn : xs.length = n) :
    runS (.ahead (SatE S H)) P (convert s t (.slice a n c)) K pan w = K (.string ⟨xs.toArray⟩) w := m_strOfN s t (B := S.base.heap.size) hn (fun w' hw => by obtain ⟨F, hw⟩ := hw; exact hx.rdB hw) he
/-- the bytes of a text: a new block -/
theorem sb_ok (hs : Sat S H w) {s : Nat} [h1 : TStr P s] [h2 : TSl P t el 1 by'] [h3 : TInt P el .u8] (xs : List UInt8)
    (hK : ∀ b cap pad w', xs.length ≤ cap → Sat S (H ++ [.bk b (xs.map u8v ++ pad) el]) w' → K (.slice (some ⟨b, 0, none⟩) xs.length cap) w') : runS .ord P (convert s t (.string ⟨xs.toArray⟩)) K pan w := by
  have hrun := run_bytes_of_string (P := P) w s t el ⟨xs.toArray⟩ h1.u h2.u h3.u
  rw [runS_ok hrun]
  have hsz : (⟨xs.toArray⟩ : ByteArray).size = xs.length := rfl
  rw [hsz]
  have hrow : (bytesRow ⟨xs.toArray⟩ (grownCap w xs.length 0 el)) = (xs.map u8v ++ List.replicate (grownCap w xs.length 0 el - xs.length) (Value.int .u8 0)).toArray := by
    apply Array.toList_inj.1
    simp [bytesRow, hsz]
    exact fun a _ => rfl
  rw [hrow]
  refine hK _ _ (List.replicate (grownCap w xs.length 0 el - xs.length) (Value.int .u8 0)) _ (by simpa using grownCap_ge w xs.length 0 el) (hs.drew.add (local0 rfl rfl rfl (by simp) (fun k hk => Below.heap_alloc w.drew _ k hk) ⟨(_, _), heap_alloc_new w.drew _, .inr (by rw [List.size_toArray]; exact Nat.le_refl _)⟩ (fun k hk => ?_)))
  have : k = w.heap.size := hk
  subst this
  simp
end
end Go.Proofs.Ytinnfbhdafkogaa.VC
namespace Go.Proofs.Ytinnfbhdafkogaa.Book
open Go VC Go.RowKit
set_option linter.unusedSimpArgs false
set_option linter.unusedVariables false
set_option maxRecDepth 20000
set_option maxHeartbeats 4000000
/-- an answer that is kept: the row, what it held, the copy -/
structure LE where
  a : Option Addr
  c : Nat
  xs : List UInt8
  b : Nat
  d : Nat
  pad : List Value
def LE.gv (e : LE) : Value := .slice e.a e.xs.length e.c
def LE.wv (e : LE) : Value := .slice (some ⟨e.b, 0, none⟩) e.xs.length e.d
def LE.gck (e : LE) : Ck := .sl e.a e.c (e.xs.map u8v) 5 1
def LE.wck (e : LE) : Ck := .bk e.b (e.xs.map u8v ++ e.pad) 5
structure Lt where
  l : Nat
  ga : Option Addr
  gc : Nat
  wa : Option Addr
  wc : Nat
  es : List LE
def Lt.cks (x : Lt) : List Ck := [.bk x.l [.slice x.ga x.es.length x.gc, .slice x.wa x.es.length x.wc] 58, .sl x.ga x.gc (x.es.map LE.gv) 59 1, .sl x.wa x.wc (x.es.map LE.wv) 59 1]
theorem Add_calls (S : Cx) (w0 : World) (x : Lt) (a : Option Addr) (c : Nat) (xs : List UInt8) (wa : Option Addr) (wc : Nat) (hs : Sat S x.cks w0) (hw : Ro S wa (xs.map u8v)) (hl : xs.length ≤ 140737488355328) (hes : x.es.length ≤ 1099511627776) :
    Calls Try.prog 19 #[.pointer (some ⟨x.l, 0, none⟩), .slice a xs.length c, .slice wa xs.length wc] w0 fun e w' => ∃ (y : Lt) (b d : Nat) (pad : List Value), e = .returned (.tuple #[]) ∧ y.l = x.l ∧ y.es = x.es ++ [⟨a, c, xs, b, d, pad⟩] ∧ xs.length ≤ d ∧ Sat S (y.cks ++ [LE.wck ⟨a, c, xs, b, d, pad⟩]) w' := by
  refine calls_vc Try.func19 rfl (by kernel_rfl) (by kernel_rfl) ?_; intro R hR
  obtain ⟨l, ga, gc, wa0, wc0, es⟩ := x
  unfold Lt.cks at hs
  dsimp only at hs hes hR ⊢
  (repeat (first | (simp (disch := first | omega | assumption | exact Option.isSome_some | (simp only [adO_isSome]; assumption)) only [↓vcp, vcs, vct, if_true, if_false, Nat.reduceBEq, ↓reduceIte, Nat.reduceEqDiff, Nat.reduceAdd, Nat.reduceMul, Nat.reduceSub, Int.reduceToNat, reduceCtorEq, Nat.reduceLT, Nat.reduceLeDiff, Int.reduceSub, Int.reduceAdd, Int.reduceNeg, Sat.look hs, Sat.lookA hs]) | (refine khK he hs ?_; clear he; intro he) | ((first | refine stK hs ?_ | refine stFK hs ?_ | refine stAK hs ?_ | refine msK hs ?_); clear hs; (try clear w); rintro w hs; try simp only [cls] at hs) | ((first | refine al_ok hs ?_ | refine bx_ok hs ?_ | refine bsvK hs ?_ | refine bs1_ok hs ?_ | refine bs0_ok hs ?_); clear hs; (try clear w); rintro _ w hs; try simp only [cls] at hs)))
  refine apK 1 hs (hs.rd) ?_; clear hs; (try clear w); rintro ga2 gc2 w hc2 hs; try simp only [cls] at hs
  (repeat (first | (simp (disch := first | omega | assumption | exact Option.isSome_some | (simp only [adO_isSome]; assumption)) only [↓vcp, vcs, vct, if_true, if_false, Nat.reduceBEq, ↓reduceIte, Nat.reduceEqDiff, Nat.reduceAdd, Nat.reduceMul, Nat.reduceSub, Int.reduceToNat, reduceCtorEq, Nat.reduceLT, Nat.reduceLeDiff, Int.reduceSub, Int.reduceAdd, Int.reduceNeg, Sat.look hs, Sat.lookA hs]) | (refine khK he hs ?_; clear he; intro he) | ((first | refine stK hs ?_ | refine stFK hs ?_ | refine stAK hs ?_ | refine msK hs ?_); clear hs; (try clear w); rintro w hs; try simp only [cls] at hs) | ((first | refine al_ok hs ?_ | refine bx_ok hs ?_ | refine bsvK hs ?_ | refine bs1_ok hs ?_ | refine bs0_ok hs ?_); clear hs; (try clear w); rintro _ w hs; try simp only [cls] at hs)))
  replace hs := hs.take 3
  simp only [List.take_succ_cons, List.take_zero] at hs
  refine draw_tree (SatE _ []) (.ahead 0 (.ahead 1 (.ahead 2 (.ahead 3 (.ahead 5 (.ahead 6 (.alt 4 (.alt 7 (.alt 8 (.alt 9 (.ahead 10 (.ahead 11 (.alt 12 .fin .none))) .none) .none) .none) (.alt 7 (.alt 4 (.alt 8 (.alt 9 (.ahead 10 (.ahead 11 (.alt 12 .fin .none))) .none) .none) (.alt 8 (.alt 4 (.alt 9 (.ahead 10 (.ahead 11 (.alt 12 .fin .none))) .none) .none) .none)) .none)))))))) (by kernel_rfl) (by kernel_rfl) (Sat.e0 (Sat.drew hs)) ?_; replace hs := Sat.drew hs; revert hs; generalize World.drew _ = w; intro hs; have he := Sat.e0 hs
  (repeat (first | (simp (disch := first | omega | assumption | exact Option.isSome_some | (simp only [adO_isSome]; assumption)) only [↓vcp, vcs, vct, if_true, if_false, Nat.reduceBEq, ↓reduceIte, Nat.reduceEqDiff, Nat.reduceAdd, Nat.reduceMul, Nat.reduceSub, Int.reduceToNat, reduceCtorEq, Nat.reduceLT, Nat.reduceLeDiff, Int.reduceSub, Int.reduceAdd, Int.reduceNeg, Sat.look hs, Sat.lookA hs, pt_fin, pt_ahead, pt_only, ts_take, ts_only, m_strOfE _ _ he hw rfl]) | (refine khK he hs ?_; clear he; intro he) | ((first | refine stK hs ?_ | refine stFK hs ?_ | refine stAK hs ?_ | refine msK hs ?_); clear hs; (try clear w); rintro w hs; try simp only [cls] at hs) | ((first | refine al_ok hs ?_ | refine bx_ok hs ?_ | refine bsvK hs ?_ | refine bs1_ok hs ?_ | refine bs0_ok hs ?_); clear hs; (try clear w); rintro _ w hs; try simp only [cls] at hs)))
  refine alt_ok ?_ (alt_ok ?_ trivial)
  · (repeat (first | (simp (disch := first | omega | assumption | exact Option.isSome_some | (simp only [adO_isSome]; assumption)) only [↓vcp, vcs, vct, if_true, if_false, Nat.reduceBEq, ↓reduceIte, Nat.reduceEqDiff, Nat.reduceAdd, Nat.reduceMul, Nat.reduceSub, Int.reduceToNat, reduceCtorEq, Nat.reduceLT, Nat.reduceLeDiff, Int.reduceSub, Int.reduceAdd, Int.reduceNeg, Sat.look hs, Sat.lookA hs, pt_fin, pt_ahead, pt_only, ts_take, ts_only]) | (refine khK he hs ?_; clear he; intro he) | ((first | refine stK hs ?_ | refine stFK hs ?_ | refine stAK hs ?_ | refine msK hs ?_); clear hs; (try clear w); rintro w hs; try simp only [cls] at hs) | ((first | refine al_ok hs ?_ | refine bx_ok hs ?_ | refine bsvK hs ?_ | refine bs1_ok hs ?_ | refine bs0_ok hs ?_); clear hs; (try clear w); rintro _ w hs; try simp only [cls] at hs)))
    refine sb_ok hs xs ?_; clear hs; (try clear w); rintro b d pad w hd hs; try simp only [cls] at hs
    (repeat (first | (simp (disch := first | omega | assumption | exact Option.isSome_some | (simp only [adO_isSome]; assumption)) only [↓vcp, vcs, vct, if_true, if_false, Nat.reduceBEq, ↓reduceIte, Nat.reduceEqDiff, Nat.reduceAdd, Nat.reduceMul, Nat.reduceSub, Int.reduceToNat, reduceCtorEq, Nat.reduceLT, Nat.reduceLeDiff, Int.reduceSub, Int.reduceAdd, Int.reduceNeg, Sat.look hs, Sat.lookA hs, pt_fin, pt_ahead, pt_only, ts_take, ts_only]) | (refine khK he hs ?_; clear he; intro he) | ((first | refine stK hs ?_ | refine stFK hs ?_ | refine stAK hs ?_ | refine msK hs ?_); clear hs; (try clear w); rintro w hs; try simp only [cls] at hs) | ((first | refine al_ok hs ?_ | refine bx_ok hs ?_ | refine bsvK hs ?_ | refine bs1_ok hs ?_ | refine bs0_ok hs ?_); clear hs; (try clear w); rintro _ w hs; try simp only [cls] at hs)))
    refine apK 1 hs (hs.rd) ?_; clear hs; (try clear w); rintro wa2 wc2 w hc3 hs; try simp only [cls] at hs
    (repeat (first | (simp (disch := first | omega | assumption | exact Option.isSome_some | (simp only [adO_isSome]; assumption)) only [↓vcp, vcs, vct, if_true, if_false, Nat.reduceBEq, ↓reduceIte, Nat.reduceEqDiff, Nat.reduceAdd, Nat.reduceMul, Nat.reduceSub, Int.reduceToNat, reduceCtorEq, Nat.reduceLT, Nat.reduceLeDiff, Int.reduceSub, Int.reduceAdd, Int.reduceNeg, Sat.look hs, Sat.lookA hs, pt_fin, pt_ahead, pt_only, ts_take, ts_only]) | (refine khK he hs ?_; clear he; intro he) | ((first | refine stK hs ?_ | refine stFK hs ?_ | refine stAK hs ?_ | refine msK hs ?_); clear hs; (try clear w); rintro w hs; try simp only [cls] at hs) | ((first | refine al_ok hs ?_ | refine bx_ok hs ?_ | refine bsvK hs ?_ | refine bs1_ok hs ?_ | refine bs0_ok hs ?_); clear hs; (try clear w); rintro _ w hs; try simp only [cls] at hs)))
    replace hs := hs.take 4
    simp only [List.take_succ_cons, List.take_zero] at hs
    exact ret_none rfl (hR _ _ ⟨⟨l, ga2, gc2, wa2, wc2, es ++ [⟨a, c, xs, b, d, pad⟩]⟩, b, d, pad, rfl, rfl, rfl, hd, by
      unfold Lt.cks
      dsimp only
      rw [List.length_append, List.map_append, List.map_append]
      exact hs⟩)
  · (repeat (first | (simp (disch := first | omega | assumption | exact Option.isSome_some | (simp only [adO_isSome]; assumption)) only [↓vcp, vcs, vct, if_true, if_false, Nat.reduceBEq, ↓reduceIte, Nat.reduceEqDiff, Nat.reduceAdd, Nat.reduceMul, Nat.reduceSub, Int.reduceToNat, reduceCtorEq, Nat.reduceLT, Nat.reduceLeDiff, Int.reduceSub, Int.reduceAdd, Int.reduceNeg, Sat.look hs, Sat.lookA hs, pt_fin, pt_ahead, pt_only, ts_take, ts_only]) | (refine khK he hs ?_; clear he; intro he) | ((first | refine stK hs ?_ | refine stFK hs ?_ | refine stAK hs ?_ | refine msK hs ?_); clear hs; (try clear w); rintro w hs; try simp only [cls] at hs) | ((first | refine al_ok hs ?_ | refine bx_ok hs ?_ | refine bsvK hs ?_ | refine bs1_ok hs ?_ | refine bs0_ok hs ?_); clear hs; (try clear w); rintro _ w hs; try simp only [cls] at hs)))
    refine sb_ok hs xs ?_; clear hs; (try clear w); rintro b d pad w hd hs; try simp only [cls] at hs
    (repeat (first | (simp (disch := first | omega | assumption | exact Option.isSome_some | (simp only [adO_isSome]; assumption)) only [↓vcp, vcs, vct, if_true, if_false, Nat.reduceBEq, ↓reduceIte, Nat.reduceEqDiff, Nat.reduceAdd, Nat.reduceMul, Nat.reduceSub, Int.reduceToNat, reduceCtorEq, Nat.reduceLT, Nat.reduceLeDiff, Int.reduceSub, Int.reduceAdd, Int.reduceNeg, Sat.look hs, Sat.lookA hs, pt_fin, pt_ahead, pt_only, ts_take, ts_only]) | (refine khK he hs ?_; clear he; intro he) | ((first | refine stK hs ?_ | refine stFK hs ?_ | refine stAK hs ?_ | refine msK hs ?_); clear hs; (try clear w); rintro w hs; try simp only [cls] at hs) | ((first | refine al_ok hs ?_ | refine bx_ok hs ?_ | refine bsvK hs ?_ | refine bs1_ok hs ?_ | refine bs0_ok hs ?_); clear hs; (try clear w); rintro _ w hs; try simp only [cls] at hs)))
    refine alt_ok ?_ (alt_ok ?_ trivial)
    · (repeat (first | (simp (disch := first | omega | assumption | exact Option.isSome_some | (simp only [adO_isSome]; assumption)) only [↓vcp, vcs, vct, if_true, if_false, Nat.reduceBEq, ↓reduceIte, Nat.reduceEqDiff, Nat.reduceAdd, Nat.reduceMul, Nat.reduceSub, Int.reduceToNat, reduceCtorEq, Nat.reduceLT, Nat.reduceLeDiff, Int.reduceSub, Int.reduceAdd, Int.reduceNeg, Sat.look hs, Sat.lookA hs, pt_fin, pt_ahead, pt_only, ts_take, ts_only]) | (refine khK he hs ?_; clear he; intro he) | ((first | refine stK hs ?_ | refine stFK hs ?_ | refine stAK hs ?_ | refine msK hs ?_); clear hs; (try clear w); rintro w hs; try simp only [cls] at hs) | ((first | refine al_ok hs ?_ | refine bx_ok hs ?_ | refine bsvK hs ?_ | refine bs1_ok hs ?_ | refine bs0_ok hs ?_); clear hs; (try clear w); rintro _ w hs; try simp only [cls] at hs)))
      refine apK 1 hs (hs.rd) ?_; clear hs; (try clear w); rintro wa2 wc2 w hc3 hs; try simp only [cls] at hs
      (repeat (first | (simp (disch := first | omega | assumption | exact Option.isSome_some | (simp only [adO_isSome]; assumption)) only [↓vcp, vcs, vct, if_true, if_false, Nat.reduceBEq, ↓reduceIte, Nat.reduceEqDiff, Nat.reduceAdd, Nat.reduceMul, Nat.reduceSub, Int.reduceToNat, reduceCtorEq, Nat.reduceLT, Nat.reduceLeDiff, Int.reduceSub, Int.reduceAdd, Int.reduceNeg, Sat.look hs, Sat.lookA hs, pt_fin, pt_ahead, pt_only, ts_take, ts_only]) | (refine khK he hs ?_; clear he; intro he) | ((first | refine stK hs ?_ | refine stFK hs ?_ | refine stAK hs ?_ | refine msK hs ?_); clear hs; (try clear w); rintro w hs; try simp only [cls] at hs) | ((first | refine al_ok hs ?_ | refine bx_ok hs ?_ | refine bsvK hs ?_ | refine bs1_ok hs ?_ | refine bs0_ok hs ?_); clear hs; (try clear w); rintro _ w hs; try simp only [cls] at hs)))
      replace hs := hs.take 4
      simp only [List.take_succ_cons, List.take_zero] at hs
      exact ret_none rfl (hR _ _ ⟨⟨l, ga2, gc2, wa2, wc2, es ++ [⟨a, c, xs, b, d, pad⟩]⟩, b, d, pad, rfl, rfl, rfl, hd, by
        unfold Lt.cks
        dsimp only
        rw [List.length_append, List.map_append, List.map_append]
        exact hs⟩)
    · (repeat (first | (simp (disch := first | omega | assumption | exact Option.isSome_some | (simp only [adO_isSome]; assumption)) only [↓vcp, vcs, vct, if_true, if_false, Nat.reduceBEq, ↓reduceIte, Nat.reduceEqDiff, Nat.reduceAdd, Nat.reduceMul, Nat.reduceSub, Int.reduceToNat, reduceCtorEq, Nat.reduceLT, Nat.reduceLeDiff, Int.reduceSub, Int.reduceAdd, Int.reduceNeg, Sat.look hs, Sat.lookA hs, pt_fin, pt_ahead, pt_only, ts_take, ts_only]) | (refine khK he hs ?_; clear he; intro he) | ((first | refine stK hs ?_ | refine stFK hs ?_ | refine stAK hs ?_ | refine msK hs ?_); clear hs; (try clear w); rintro w hs; try simp only [cls] at hs) | ((first | refine al_ok hs ?_ | refine bx_ok hs ?_ | refine bsvK hs ?_ | refine bs1_ok hs ?_ | refine bs0_ok hs ?_); clear hs; (try clear w); rintro _ w hs; try simp only [cls] at hs)))
      refine apK 1 hs (hs.rd) ?_; clear hs; (try clear w); rintro wa2 wc2 w hc3 hs; try simp only [cls] at hs
      (repeat (first | (simp (disch := first | omega | assumption | exact Option.isSome_some | (simp only [adO_isSome]; assumption)) only [↓vcp, vcs, vct, if_true, if_false, Nat.reduceBEq, ↓reduceIte, Nat.reduceEqDiff, Nat.reduceAdd, Nat.reduceMul, Nat.reduceSub, Int.reduceToNat, reduceCtorEq, Nat.reduceLT, Nat.reduceLeDiff, Int.reduceSub, Int.reduceAdd, Int.reduceNeg, Sat.look hs, Sat.lookA hs, pt_fin, pt_ahead, pt_only, ts_take, ts_only]) | (refine khK he hs ?_; clear he; intro he) | ((first | refine stK hs ?_ | refine stFK hs ?_ | refine stAK hs ?_ | refine msK hs ?_); clear hs; (try clear w); rintro w hs; try simp only [cls] at hs) | ((first | refine al_ok hs ?_ | refine bx_ok hs ?_ | refine bsvK hs ?_ | refine bs1_ok hs ?_ | refine bs0_ok hs ?_); clear hs; (try clear w); rintro _ w hs; try simp only [cls] at hs)))
      replace hs := hs.take 4
      simp only [List.take_succ_cons, List.take_zero] at hs
      exact ret_none rfl (hR _ _ ⟨⟨l, ga2, gc2, wa2, wc2, es ++ [⟨a, c, xs, b, d, pad⟩]⟩, b, d, pad, rfl, rfl, rfl, hd, by
        unfold Lt.cks
        dsimp only
        rw [List.length_append, List.map_append, List.map_append]
        exact hs⟩)
end Go.Proofs.Ytinnfbhdafkogaa.Book
