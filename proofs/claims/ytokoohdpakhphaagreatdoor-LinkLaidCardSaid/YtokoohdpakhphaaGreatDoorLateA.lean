/- Several texts in one. -/
import Derived.Test.YtokoohdpakhphaaGreatDoorBooks
import Derived.Test.YtokoohdpakhphaaGreatDoorTree
import Derived.Test.YtokoohdpakhphaaGreatDoorStr
namespace Go.Proofs.YtokoohdpakhphaaGreatDoor.VC
open Go Go.RowKit
set_option linter.unusedVariables false
section
variable {S : Cx} {H : List Ck} {w : World} {P : Program} {K : Value → World → Prop} {pan : List PanicEntry → World → Prop} {t el by' : Nat}
theorem Ro.rdB {a : Option Addr} {xs : List Value} (h : Ro S a xs) (hs : Sat S H w) : Rd w S.base.heap.size a xs := fun hn => by
  have h0 : 0 < xs.length := List.length_pos_iff.2 hn
  have := h 0 xs[0] (List.getElem?_eq_getElem h0)
  rw [adO_0] at this
  obtain ⟨ad, rfl, hb, _, _⟩ := oldO_some this
  exact ⟨ad, rfl, hb, fun i hi => Ro.cell h hs (List.getElem?_eq_getElem hi)⟩
theorem m_strOfE (s t : Nat) [h1 : TSl P s el 1 by'] [h2 : TInt P el .u8] [h3 : TStr P t] {c n : Nat} {a : Option Addr} {xs : List UInt8} (he : SatE S H w) (hx : Ro S a (xs.map u8v)) (hn : xs.length = n) :
    runS (.ahead (SatE S H)) P (convert s t (.slice a n c)) K pan w = K (.string ⟨xs.toArray⟩) w := m_strOfN s t (B := S.base.heap.size) hn (fun w' hw => by obtain ⟨F, hw⟩ := hw; exact hx.rdB hw) he
/-- the bytes of a text: a new block -/
theorem sb_ok (hs : Sat S H w) {s : Nat} [h1 : TStr P s] [h2 : TSl P t el 1 by'] [h3 : TInt P el .u8] (xs : List UInt8)
    (hK : ∀ b cap pad w', xs.length ≤ cap → Sat S (H ++ [.bk b (xs.map u8v ++ pad) el]) w' → K (.slice (some ⟨b, 0, none⟩) xs.length cap) w') : runS .ord P (convert s t (.string ⟨xs.toArray⟩)) K pan w := by
  have hrun := run_bytes_of_string (P := P) w s t el ⟨xs.toArray⟩ h1.u h2.u h3.u
  rw [runS_ok hrun]
  have hsz : (⟨xs.toArray⟩ : ByteArray).size = xs.length := rfl
  rw [hsz]
  have hrow : (bytesRow ⟨xs.toArray⟩ (grownCap w xs.length 0 el)) = (xs.map u8v ++ List.replicate (grownCap w xs.length 0 el - xs.length) (Value.int .u8 0)).toArray := by
    apply Array.toList_inj.1
    simp [bytesRow, hsz]
    exact fun a _ => rfl
  rw [hrow]
  refine hK _ _ (List.replicate (grownCap w xs.length 0 el - xs.length) (Value.int .u8 0)) _ (by simpa using grownCap_ge w xs.length 0 el) (hs.drew.add (local0 rfl rfl rfl (by simp) (fun k hk => Below.heap_alloc w.drew _ k hk) ⟨(_, _), heap_alloc_new w.drew _, .inr (by rw [List.size_toArray]; exact Nat.le_refl _)⟩ (fun k hk => ?_)))
  have : k = w.heap.size := hk
  subst this
  simp
end
end Go.Proofs.YtokoohdpakhphaaGreatDoor.VC
namespace Go.Proofs.YtokoohdpakhphaaGreatDoor.Book
open Go VC Go.RowKit
set_option linter.unusedSimpArgs false
set_option linter.unusedVariables false
set_option maxRecDepth 20000
set_option maxHeartbeats 4000000
/-- an answer that is kept: the row, what it held, the copy -/
structure LE where
  a : Option Addr
  c : Nat
  xs : List UInt8
  b : Nat
  d : Nat
  pad : List Value
def LE.gv (e : LE) : Value := .slice e.a e.xs.length e.c
def LE.wv (e : LE) : Value := .slice (some ⟨e.b, 0, none⟩) e.xs.length e.d
def LE.gck (e : LE) : Ck := .sl e.a e.c (e.xs.map u8v) 5 1
def LE.wck (e : LE) : Ck := .bk e.b (e.xs.map u8v ++ e.pad) 5
structure Lt where
  l : Nat
  ga : Option Addr
  gc : Nat
  wa : Option Addr
  wc : Nat
  es : List LE
def Lt.cks (x : Lt) : List Ck := [.bk x.l [.slice x.ga x.es.length x.gc, .slice x.wa x.es.length x.wc] 52, .sl x.ga x.gc (x.es.map LE.gv) 56 1, .sl x.wa x.wc (x.es.map LE.wv) 56 1]
theorem Add_calls (S : Cx) (w0 : World) (x : Lt) (a : Option Addr) (c : Nat) (xs : List UInt8) (wa : Option Addr) (wc : Nat) (hs : Sat S x.cks w0) (hw : Ro S wa (xs.map u8v)) (hl : xs.length ≤ 140737488355328) (hes : x.es.length ≤ 1099511627776) :
    Calls Tryz.prog 11 #[.pointer (some ⟨x.l, 0, none⟩), .slice a xs.length c, .slice wa xs.length wc] w0 fun e w' => ∃ (y : Lt) (b d : Nat) (pad : List Value), e = .returned (.tuple #[]) ∧ y.l = x.l ∧ y.es = x.es ++ [⟨a, c, xs, b, d, pad⟩] ∧ xs.length ≤ d ∧ Sat S (y.cks ++ [LE.wck ⟨a, c, xs, b, d, pad⟩]) w' := by
  refine calls_vc Tryz.func11 rfl (by kernel_rfl) (by kernel_rfl) ?_; intro R hR
  obtain ⟨l, ga, gc, wa0, wc0, es⟩ := x
  unfold Lt.cks at hs
  dsimp only at hs hes hR ⊢
  (repeat (first | (simp (disch := first | omega | assumption | exact Option.isSome_some | (simp only [adO_isSome]; assumption)) only [↓vcp, vcs, vct, if_true, if_false, Nat.reduceBEq, ↓reduceIte, Nat.reduceEqDiff, Nat.reduceAdd, Nat.reduceMul, Nat.reduceSub, Int.reduceToNat, reduceCtorEq, Nat.reduceLT, Nat.reduceLeDiff, Int.reduceSub, Int.reduceAdd, Int.reduceNeg, Sat.look hs, Sat.lookA hs]) | (refine khK he hs ?_; clear he; intro he) | ((first | refine stK hs ?_ | refine stFK hs ?_ | refine stAK hs ?_ | refine msK hs ?_); clear hs; (try clear w); rintro w hs; try simp only [cls] at hs) | ((first | refine al_ok hs ?_ | refine bx_ok hs ?_ | refine bsvK hs ?_ | refine bs1_ok hs ?_ | refine bs0_ok hs ?_); clear hs; (try clear w); rintro _ w hs; try simp only [cls] at hs)))
  refine apK 1 hs (hs.rd) ?_; clear hs; (try clear w); rintro ga2 gc2 w hc2 hs; try simp only [cls] at hs
  (repeat (first | (simp (disch := first | omega | assumption | exact Option.isSome_some | (simp only [adO_isSome]; assumption)) only [↓vcp, vcs, vct, if_true, if_false, Nat.reduceBEq, ↓reduceIte, Nat.reduceEqDiff, Nat.reduceAdd, Nat.reduceMul, Nat.reduceSub, Int.reduceToNat, reduceCtorEq, Nat.reduceLT, Nat.reduceLeDiff, Int.reduceSub, Int.reduceAdd, Int.reduceNeg, Sat.look hs, Sat.lookA hs]) | (refine khK he hs ?_; clear he; intro he) | ((first | refine stK hs ?_ | refine stFK hs ?_ | refine stAK hs ?_ | refine msK hs ?_); clear hs; (try clear w); rintro w hs; try simp only [cls] at hs) | ((first | refine al_ok hs ?_ | refine bx_ok hs ?_ | refine bsvK hs ?_ | refine bs1_ok hs ?_ | refine bs0_ok hs ?_); clear hs; (try clear w); rintro _ w hs; try simp only [cls] at hs)))
  replace hs := hs.take 3
  simp only [List.take_succ_cons, List.take_zero] at hs
  refine draw_tree (SatE _ []) (.ahead 0 (.ahead 1 (.ahead 2 (.ahead 3 (.ahead 5 (.ahead 6 (.alt 4 (.alt 7 (.alt 8 (.alt 9 (.ahead 10 (.ahead 11 (.alt 12 .fin .none))) .none) .none) .none) (.alt 7 (.alt 4 (.alt 8 (.alt 9 (.ahead 10 (.ahead 11 (.alt 12 .fin .none))) .none) .none) (.alt 8 (.alt 4 (.alt 9 (.ahead 10 (.ahead 11 (.alt 12 .fin .none))) .none) .none) .none)) .none)))))))) (by kernel_rfl) (by kernel_rfl) (Sat.e0 (Sat.drew hs)) ?_; replace hs := Sat.drew hs; revert hs; generalize World.drew _ = w; intro hs; have he := Sat.e0 hs
  (repeat (first | (simp (disch := first | omega | assumption | exact Option.isSome_some | (simp only [adO_isSome]; assumption)) only [↓vcp, vcs, vct, if_true, if_false, Nat.reduceBEq, ↓reduceIte, Nat.reduceEqDiff, Nat.reduceAdd, Nat.reduceMul, Nat.reduceSub, Int.reduceToNat, reduceCtorEq, Nat.reduceLT, Nat.reduceLeDiff, Int.reduceSub, Int.reduceAdd, Int.reduceNeg, Sat.look hs, Sat.lookA hs, pt_fin, pt_ahead, pt_only, ts_take, ts_only, m_strOfE _ _ he hw rfl]) | (refine khK he hs ?_; clear he; intro he) | ((first | refine stK hs ?_ | refine stFK hs ?_ | refine stAK hs ?_ | refine msK hs ?_); clear hs; (try clear w); rintro w hs; try simp only [cls] at hs) | ((first | refine al_ok hs ?_ | refine bx_ok hs ?_ | refine bsvK hs ?_ | refine bs1_ok hs ?_ | refine bs0_ok hs ?_); clear hs; (try clear w); rintro _ w hs; try simp only [cls] at hs)))
  refine alt_ok ?_ (alt_ok ?_ trivial)
  · (repeat (first | (simp (disch := first | omega | assumption | exact Option.isSome_some | (simp only [adO_isSome]; assumption)) only [↓vcp, vcs, vct, if_true, if_false, Nat.reduceBEq, ↓reduceIte, Nat.reduceEqDiff, Nat.reduceAdd, Nat.reduceMul, Nat.reduceSub, Int.reduceToNat, reduceCtorEq, Nat.reduceLT, Nat.reduceLeDiff, Int.reduceSub, Int.reduceAdd, Int.reduceNeg, Sat.look hs, Sat.lookA hs, pt_fin, pt_ahead, pt_only, ts_take, ts_only]) | (refine khK he hs ?_; clear he; intro he) | ((first | refine stK hs ?_ | refine stFK hs ?_ | refine stAK hs ?_ | refine msK hs ?_); clear hs; (try clear w); rintro w hs; try simp only [cls] at hs) | ((first | refine al_ok hs ?_ | refine bx_ok hs ?_ | refine bsvK hs ?_ | refine bs1_ok hs ?_ | refine bs0_ok hs ?_); clear hs; (try clear w); rintro _ w hs; try simp only [cls] at hs)))
    refine sb_ok hs xs ?_; clear hs; (try clear w); rintro b d pad w hd hs; try simp only [cls] at hs
    (repeat (first | (simp (disch := first | omega | assumption | exact Option.isSome_some | (simp only [adO_isSome]; assumption)) only [↓vcp, vcs, vct, if_true, if_false, Nat.reduceBEq, ↓reduceIte, Nat.reduceEqDiff, Nat.reduceAdd, Nat.reduceMul, Nat.reduceSub, Int.reduceToNat, reduceCtorEq, Nat.reduceLT, Nat.reduceLeDiff, Int.reduceSub, Int.reduceAdd, Int.reduceNeg, Sat.look hs, Sat.lookA hs, pt_fin, pt_ahead, pt_only, ts_take, ts_only]) | (refine khK he hs ?_; clear he; intro he) | ((first | refine stK hs ?_ | refine stFK hs ?_ | refine stAK hs ?_ | refine msK hs ?_); clear hs; (try clear w); rintro w hs; try simp only [cls] at hs) | ((first | refine al_ok hs ?_ | refine bx_ok hs ?_ | refine bsvK hs ?_ | refine bs1_ok hs ?_ | refine bs0_ok hs ?_); clear hs; (try clear w); rintro _ w hs; try simp only [cls] at hs)))
    refine apK 1 hs (hs.rd) ?_; clear hs; (try clear w); rintro wa2 wc2 w hc3 hs; try simp only [cls] at hs
    (repeat (first | (simp (disch := first | omega | assumption | exact Option.isSome_some | (simp only [adO_isSome]; assumption)) only [↓vcp, vcs, vct, if_true, if_false, Nat.reduceBEq, ↓reduceIte, Nat.reduceEqDiff, Nat.reduceAdd, Nat.reduceMul, Nat.reduceSub, Int.reduceToNat, reduceCtorEq, Nat.reduceLT, Nat.reduceLeDiff, Int.reduceSub, Int.reduceAdd, Int.reduceNeg, Sat.look hs, Sat.lookA hs, pt_fin, pt_ahead, pt_only, ts_take, ts_only]) | (refine khK he hs ?_; clear he; intro he) | ((first | refine stK hs ?_ | refine stFK hs ?_ | refine stAK hs ?_ | refine msK hs ?_); clear hs; (try clear w); rintro w hs; try simp only [cls] at hs) | ((first | refine al_ok hs ?_ | refine bx_ok hs ?_ | refine bsvK hs ?_ | refine bs1_ok hs ?_ | refine bs0_ok hs ?_); clear hs; (try clear w); rintro _ w hs; try simp only [cls] at hs)))
    replace hs := hs.take 4
    simp only [List.take_succ_cons, List.take_zero] at hs
    exact ret_none rfl (hR _ _ ⟨⟨l, ga2, gc2, wa2, wc2, es ++ [⟨a, c, xs, b, d, pad⟩]⟩, b, d, pad, rfl, rfl, rfl, hd, by
      unfold Lt.cks
      dsimp only
      rw [List.length_append, List.map_append, List.map_append]
      exact hs⟩)
  · (repeat (first | (simp (disch := first | omega | assumption | exact Option.isSome_some | (simp only [adO_isSome]; assumption)) only [↓vcp, vcs, vct, if_true, if_false, Nat.reduceBEq, ↓reduceIte, Nat.reduceEqDiff, Nat.reduceAdd, Nat.reduceMul, Nat.reduceSub, Int.reduceToNat, reduceCtorEq, Nat.reduceLT, Nat.reduceLeDiff, Int.reduceSub, Int.reduceAdd, Int.reduceNeg, Sat.look hs, Sat.lookA hs, pt_fin, pt_ahead, pt_only, ts_take, ts_only]) | (refine khK he hs ?_; clear he; intro he) | ((first | refine stK hs ?_ | refine stFK hs ?_ | refine stAK hs ?_ | refine msK hs ?_); clear hs; (try clear w); rintro w hs; try simp only [cls] at hs) | ((first | refine al_ok hs ?_ | refine bx_ok hs ?_ | refine bsvK hs ?_ | refine bs1_ok hs ?_ | refine bs0_ok hs ?_); clear hs; (try clear w); rintro _ w hs; try simp only [cls] at hs)))
    refine sb_ok hs xs ?_; clear hs; (try clear w); rintro b d pad w hd hs; try simp only [cls] at hs
    (repeat (first | (simp (disch := first | omega | assumption | exact Option.isSome_some | (simp only [adO_isSome]; assumption)) only [↓vcp, vcs, vct, if_true, if_false, Nat.reduceBEq, ↓reduceIte, Nat.reduceEqDiff, Nat.reduceAdd, Nat.reduceMul, Nat.reduceSub, Int.reduceToNat, reduceCtorEq, Nat.reduceLT, Nat.reduceLeDiff, Int.reduceSub, Int.reduceAdd, Int.reduceNeg, Sat.look hs, Sat.lookA hs, pt_fin, pt_ahead, pt_only, ts_take, ts_only]) | (refine khK he hs ?_; clear he; intro he) | ((first | refine stK hs ?_ | refine stFK hs ?_ | refine stAK hs ?_ | refine msK hs ?_); clear hs; (try clear w); rintro w hs; try simp only [cls] at hs) | ((first | refine al_ok hs ?_ | refine bx_ok hs ?_ | refine bsvK hs ?_ | refine bs1_ok hs ?_ | refine bs0_ok hs ?_); clear hs; (try clear w); rintro _ w hs; try simp only [cls] at hs)))
    refine alt_ok ?_ (alt_ok ?_ trivial)
    · (repeat (first | (simp (disch := first | omega | assumption | exact Option.isSome_some | (simp only [adO_isSome]; assumption)) only [↓vcp, vcs, vct, if_true, if_false, Nat.reduceBEq, ↓reduceIte, Nat.reduceEqDiff, Nat.reduceAdd, Nat.reduceMul, Nat.reduceSub, Int.reduceToNat, reduceCtorEq, Nat.reduceLT, Nat.reduceLeDiff, Int.reduceSub, Int.reduceAdd, Int.reduceNeg, Sat.look hs, Sat.lookA hs, pt_fin, pt_ahead, pt_only, ts_take, ts_only]) | (refine khK he hs ?_; clear he; intro he) | ((first | refine stK hs ?_ | refine stFK hs ?_ | refine stAK hs ?_ | refine msK hs ?_); clear hs; (try clear w); rintro w hs; try simp only [cls] at hs) | ((first | refine al_ok hs ?_ | refine bx_ok hs ?_ | refine bsvK hs ?_ | refine bs1_ok hs ?_ | refine bs0_ok hs ?_); clear hs; (try clear w); rintro _ w hs; try simp only [cls] at hs)))
      refine apK 1 hs (hs.rd) ?_; clear hs; (try clear w); rintro wa2 wc2 w hc3 hs; try simp only [cls] at hs
      (repeat (first | (simp (disch := first | omega | assumption | exact Option.isSome_some | (simp only [adO_isSome]; assumption)) only [↓vcp, vcs, vct, if_true, if_false, Nat.reduceBEq, ↓reduceIte, Nat.reduceEqDiff, Nat.reduceAdd, Nat.reduceMul, Nat.reduceSub, Int.reduceToNat, reduceCtorEq, Nat.reduceLT, Nat.reduceLeDiff, Int.reduceSub, Int.reduceAdd, Int.reduceNeg, Sat.look hs, Sat.lookA hs, pt_fin, pt_ahead, pt_only, ts_take, ts_only]) | (refine khK he hs ?_; clear he; intro he) | ((first | refine stK hs ?_ | refine stFK hs ?_ | refine stAK hs ?_ | refine msK hs ?_); clear hs; (try clear w); rintro w hs; try simp only [cls] at hs) | ((first | refine al_ok hs ?_ | refine bx_ok hs ?_ | refine bsvK hs ?_ | refine bs1_ok hs ?_ | refine bs0_ok hs ?_); clear hs; (try clear w); rintro _ w hs; try simp only [cls] at hs)))
      replace hs := hs.take 4
      simp only [List.take_succ_cons, List.take_zero] at hs
      exact ret_none rfl (hR _ _ ⟨⟨l, ga2, gc2, wa2, wc2, es ++ [⟨a, c, xs, b, d, pad⟩]⟩, b, d, pad, rfl, rfl, rfl, hd, by
        unfold Lt.cks
        dsimp only
        rw [List.length_append, List.map_append, List.map_append]
        exact hs⟩)
    · (repeat (first | (simp (disch := first | omega | assumption | exact Option.isSome_some | (simp only [adO_isSome]; assumption)) only [↓vcp, vcs, vct, if_true, if_false, Nat.reduceBEq, ↓reduceIte, Nat.reduceEqDiff, Nat.reduceAdd, Nat.reduceMul, Nat.reduceSub, Int.reduceToNat, reduceCtorEq, Nat.reduceLT, Nat.reduceLeDiff, Int.reduceSub, Int.reduceAdd, Int.reduceNeg, Sat.look hs, Sat.lookA hs, pt_fin, pt_ahead, pt_only, ts_take, ts_only]) | (refine khK he hs ?_; clear he; intro he) | ((first | refine stK hs ?_ | refine stFK hs ?_ | refine stAK hs ?_ | refine msK hs ?_); clear hs; (try clear w); rintro w hs; try simp only [cls] at hs) | ((first | refine al_ok hs ?_ | refine bx_ok hs ?_ | refine bsvK hs ?_ | refine bs1_ok hs ?_ | refine bs0_ok hs ?_); clear hs; (try clear w); rintro _ w hs; try simp only [cls] at hs)))
      refine apK 1 hs (hs.rd) ?_; clear hs; (try clear w); rintro wa2 wc2 w hc3 hs; try simp only [cls] at hs
      (repeat (first | (simp (disch := first | omega | assumption | exact Option.isSome_some | (simp only [adO_isSome]; assumption)) only [↓vcp, vcs, vct, if_true, if_false, Nat.reduceBEq, ↓reduceIte, Nat.reduceEqDiff, Nat.reduceAdd, Nat.reduceMul, Nat.reduceSub, Int.reduceToNat, reduceCtorEq, Nat.reduceLT, Nat.reduceLeDiff, Int.reduceSub, Int.reduceAdd, Int.reduceNeg, Sat.look hs, Sat.lookA hs, pt_fin, pt_ahead, pt_only, ts_take, ts_only]) | (refine khK he hs ?_; clear he; intro he) | ((first | refine stK hs ?_ | refine stFK hs ?_ | refine stAK hs ?_ | refine msK hs ?_); clear hs; (try clear w); rintro w hs; try simp only [cls] at hs) | ((first | refine al_ok hs ?_ | refine bx_ok hs ?_ | refine bsvK hs ?_ | refine bs1_ok hs ?_ | refine bs0_ok hs ?_); clear hs; (try clear w); rintro _ w hs; try simp only [cls] at hs)))
      replace hs := hs.take 4
      simp only [List.take_succ_cons, List.take_zero] at hs
      exact ret_none rfl (hR _ _ ⟨⟨l, ga2, gc2, wa2, wc2, es ++ [⟨a, c, xs, b, d, pad⟩]⟩, b, d, pad, rfl, rfl, rfl, hd, by
        unfold Lt.cks
        dsimp only
        rw [List.length_append, List.map_append, List.map_append]
        exact hs⟩)
end Go.Proofs.YtokoohdpakhphaaGreatDoor.Book
namespace Go.Proofs.YtokoohdpakhphaaGreatDoor.Book
open Go VC Go.RowKit
set_option linter.unusedSimpArgs false
set_option linter.unusedVariables false
set_option maxRecDepth 20000
set_option maxHeartbeats 4000000
theorem same_calls (w0 : World) (x : Lt) (hB : Ro (.at w0) (some ⟨x.l, 0, none⟩) [.slice x.ga x.es.length x.gc, .slice x.wa x.es.length x.wc]) (hg : Ro (.at w0) x.ga (x.es.map LE.gv)) (hw : Ro (.at w0) x.wa (x.es.map LE.wv))
    (he : ∀ e ∈ x.es, Ro (.at w0) e.a (e.xs.map u8v) ∧ Ro (.at w0) (some ⟨e.b, 0, none⟩) (e.xs.map u8v)) (hn : x.es.length ≤ 1125899906842624) :
    Calls Tryz.prog 37 #[.pointer (some ⟨x.l, 0, none⟩)] w0 fun e w' => e = .returned (.bool true) ∧ Below w0.heap.size w0 w' := by
  refine calls_vc Tryz.func37 rfl (by kernel_rfl) (by kernel_rfl) ?_; intro R hR
  have hs := Sat.start w0
  have f0 : oldO (.at w0) (some ⟨x.l, 0, none⟩) = some (.slice x.ga x.es.length x.gc) := hB 0 _ rfl
  have f1 : oldO (.at w0) (some ⟨x.l, 1, none⟩) = some (.slice x.wa x.es.length x.wc) := hB 1 _ rfl
  (repeat (first | (simp (disch := first | omega | assumption | exact Option.isSome_some | (simp only [adO_isSome]; assumption)) only [↓vcp, vcs, vct, if_true, if_false, Nat.reduceBEq, ↓reduceIte, Nat.reduceEqDiff, Nat.reduceAdd, Nat.reduceMul, Nat.reduceSub, Int.reduceToNat, reduceCtorEq, Nat.reduceLT, Nat.reduceLeDiff, Int.reduceSub, Int.reduceAdd, Int.reduceNeg, Sat.look hs, Sat.lookA hs]) | (refine khK he hs ?_; clear he; intro he) | ((first | refine stK hs ?_ | refine stFK hs ?_ | refine stAK hs ?_ | refine msK hs ?_); clear hs; (try clear w); rintro w hs; try simp only [cls] at hs) | ((first | refine al_ok hs ?_ | refine bx_ok hs ?_ | refine bsvK hs ?_ | refine bs1_ok hs ?_ | refine bs0_ok hs ?_); clear hs; (try clear w); rintro _ w hs; try simp only [cls] at hs)))
  refine loop_rule (σ := Nat) [3] (fun i => [.int .i64 i]) [0] (fun i w' => i ≤ x.es.length ∧ Sat (.at w0) [] w') (fun i _ => x.es.length - i) 0 (by kernel_rfl) rfl ⟨by omega, hs⟩ ?_
  clear hs
  rintro e i w ⟨hi, hs⟩
  simp (disch := first | omega | assumption | exact Option.isSome_some | (simp only [adO_isSome]; assumption)) only [↓vcp, vcs, vct, if_true, if_false, Nat.reduceBEq, ↓reduceIte, Nat.reduceEqDiff, Nat.reduceAdd, Nat.reduceMul, Nat.reduceSub, Int.reduceToNat, reduceCtorEq, Nat.reduceLT, Nat.reduceLeDiff, Int.reduceSub, Int.reduceAdd, Int.reduceNeg, Sat.look hs, Sat.lookA hs, hs.old f0]
  by_cases hlt : i < x.es.length
  case neg =>
    (repeat (first | (simp (disch := first | omega | assumption | exact Option.isSome_some | (simp only [adO_isSome]; assumption)) only [↓vcp, vcs, vct, if_true, if_false, Nat.reduceBEq, ↓reduceIte, Nat.reduceEqDiff, Nat.reduceAdd, Nat.reduceMul, Nat.reduceSub, Int.reduceToNat, reduceCtorEq, Nat.reduceLT, Nat.reduceLeDiff, Int.reduceSub, Int.reduceAdd, Int.reduceNeg, Sat.look hs, Sat.lookA hs, hs.old f0]) | (refine khK he hs ?_; clear he; intro he) | ((first | refine stK hs ?_ | refine stFK hs ?_ | refine stAK hs ?_ | refine msK hs ?_); clear hs; (try clear w); rintro w hs; try simp only [cls] at hs) | ((first | refine al_ok hs ?_ | refine bx_ok hs ?_ | refine bsvK hs ?_ | refine bs1_ok hs ?_ | refine bs0_ok hs ?_); clear hs; (try clear w); rintro _ w hs; try simp only [cls] at hs)))
    exact ret_tmp rfl (hR _ _ ⟨rfl, hs.belowAt⟩)
  case pos =>
    obtain ⟨r, hr⟩ : ∃ r, x.es[i]? = some r := ⟨_, List.getElem?_eq_getElem hlt⟩
    obtain ⟨ea, ec, xs, eb, ed, pad⟩ := r
    obtain ⟨h1, h2⟩ := he _ (List.mem_of_getElem? hr)
    dsimp only at h1 h2
    have g0 : oldO (.at w0) (adO x.ga i) = some (.slice ea xs.length ec) := hg i _ (by rw [List.getElem?_map, hr]; rfl)
    have g1 : oldO (.at w0) (adO x.wa i) = some (.slice (some ⟨eb, 0, none⟩) xs.length ed) := hw i _ (by rw [List.getElem?_map, hr]; rfl)
    have hgs : x.ga.isSome = true := hg.isSome (by rw [List.length_map]; omega)
    have hws : x.wa.isSome = true := hw.isSome (by rw [List.length_map]; omega)
    (repeat (first | (simp (disch := first | omega | assumption | exact Option.isSome_some | (simp only [adO_isSome]; assumption)) only [↓vcp, vcs, vct, if_true, if_false, Nat.reduceBEq, ↓reduceIte, Nat.reduceEqDiff, Nat.reduceAdd, Nat.reduceMul, Nat.reduceSub, Int.reduceToNat, reduceCtorEq, Nat.reduceLT, Nat.reduceLeDiff, Int.reduceSub, Int.reduceAdd, Int.reduceNeg, Sat.look hs, Sat.lookA hs, hs.old f0, hs.old g0]) | (refine khK he hs ?_; clear he; intro he) | ((first | refine stK hs ?_ | refine stFK hs ?_ | refine stAK hs ?_ | refine msK hs ?_); clear hs; (try clear w); rintro w hs; try simp only [cls] at hs) | ((first | refine al_ok hs ?_ | refine bx_ok hs ?_ | refine bsvK hs ?_ | refine bs1_ok hs ?_ | refine bs0_ok hs ?_); clear hs; (try clear w); rintro _ w hs; try simp only [cls] at hs)))
    refine draw_still 16 (by kernel_rfl) (by kernel_rfl) (by kernel_rfl) ?_
    replace hs := Sat.drew hs; revert hs; generalize World.drew _ = w; intro hs
    (repeat (first | (simp (disch := first | omega | assumption | exact Option.isSome_some | (simp only [adO_isSome]; assumption)) only [↓vcp, vcs, vct, if_true, if_false, Nat.reduceBEq, ↓reduceIte, Nat.reduceEqDiff, Nat.reduceAdd, Nat.reduceMul, Nat.reduceSub, Int.reduceToNat, reduceCtorEq, Nat.reduceLT, Nat.reduceLeDiff, Int.reduceSub, Int.reduceAdd, Int.reduceNeg, Sat.look hs, Sat.lookA hs, hs.old f0, hs.old f1, hs.old g0, hs.old g1, m_strOfL _ _ (h1.rd hs) rfl, m_strOfL _ _ (h2.rd hs) rfl]) | (refine khK he hs ?_; clear he; intro he) | ((first | refine stK hs ?_ | refine stFK hs ?_ | refine stAK hs ?_ | refine msK hs ?_); clear hs; (try clear w); rintro w hs; try simp only [cls] at hs) | ((first | refine al_ok hs ?_ | refine bx_ok hs ?_ | refine bsvK hs ?_ | refine bs1_ok hs ?_ | refine bs0_ok hs ?_); clear hs; (try clear w); rintro _ w hs; try simp only [cls] at hs)))
    exact ⟨i + 1, by rfl, by rfl, ⟨by omega, hs⟩, by dsimp only; omega⟩
theorem memBk {S : Cx} {H : List Ck} {w : World} {b t : Nat} {xs pad : List Value} (hs : Sat S H w) (h : Ck.bk b (xs ++ pad) t ∈ H) : Ro (.at w) (some ⟨b, 0, none⟩) xs := by
  obtain ⟨i, hi⟩ := List.getElem?_of_mem h
  have h1 : Ro (.at w) (some ⟨b, 0, none⟩) (xs ++ pad) := Rd.ro (hs.rdBk i hi)
  have h2 := h1.take xs.length
  rwa [List.take_left] at h2
theorem Settle_calls (S : Cx) (w0 : World) (x : Bk) (old todo fams : List Kp) (y : Lt) (n : Nat) (hx : BkOk x old todo fams) (hu : x.u ≤ 16777216) (ht : x.t + y.es.length ≤ 1125899906842624) (hln : x.ks.length + 96 * todo.length + 97 * y.es.length ≤ 1099511627776) (hn : n ≤ y.es.length)
    (hcap : ∀ e ∈ y.es, e.xs.length ≤ 140737488351232) (hs : Sat S (x.cks ++ (y.cks ++ (y.es.map LE.gck ++ ((todo ++ fams).map Kp.ck ++ y.es.map LE.wck)))) w0) :
    Calls Tryz.prog 21 #[.pointer (some ⟨y.l, 0, none⟩), .pointer (some ⟨x.b, 0, none⟩), .int .i64 n] w0 fun e w' => ∃ (z : Bk) (old' todo' fams' : List Kp), e = .returned (.bool true) ∧ z.b = x.b ∧ BkOk z old' todo' fams' ∧ Sat S (z.cks ++ (todo' ++ fams').map Kp.ck) w' := by
  refine calls_vc Tryz.func21 rfl (by kernel_rfl) (by kernel_rfl) ?_; intro R hR
  have hB : Ro (.at w0) (some ⟨y.l, 0, none⟩) [.slice y.ga y.es.length y.gc, .slice y.wa y.es.length y.wc] := memBk (pad := []) hs (List.mem_append_right _ (List.mem_append_left _ (show _ ∈ y.cks from .head _)))
  have hg : Ro (.at w0) y.ga (y.es.map LE.gv) := memCk (cp := y.gc) (el := 56) (sz := 1) hs (List.mem_append_right _ (List.mem_append_left _ (show _ ∈ y.cks from .tail _ (.head _))))
  have hw : Ro (.at w0) y.wa (y.es.map LE.wv) := memCk (cp := y.wc) (el := 56) (sz := 1) hs (List.mem_append_right _ (List.mem_append_left _ (show _ ∈ y.cks from .tail _ (.tail _ (.head _)))))
  have he : ∀ e ∈ y.es, Ro (.at w0) e.a (e.xs.map u8v) ∧ Ro (.at w0) (some ⟨e.b, 0, none⟩) (e.xs.map u8v) := fun e he => by
    have m1 : LE.gck e ∈ y.es.map LE.gck := List.mem_map_of_mem he
    have m2 : LE.wck e ∈ y.es.map LE.wck := List.mem_map_of_mem he
    exact ⟨memCk hs (List.mem_append_right _ (List.mem_append_right _ (List.mem_append_left _ m1))), memBk hs (List.mem_append_right _ (List.mem_append_right _ (List.mem_append_right _ (List.mem_append_right _ m2))))⟩
  have hsm : Sat S (x.cks ++ (y.cks ++ (y.es.map LE.gck ++ (todo ++ fams).map Kp.ck))) w0 := hs.sub (List.Sublist.append_left (List.Sublist.append_left (List.Sublist.append_left (List.sublist_append_left _ _) _) _) _)
  replace hs := hsm
  clear hsm
  have hsame := same_calls w0 y hB hg hw he (by omega)
  clear hB hg hw he
  obtain ⟨l, ga, gc, wa, wc, es⟩ := y
  dsimp only at hs ht hln hn hcap hsame ⊢
  unfold Bk.cks Bk.cells Lt.cks at hs
  simp only [List.cons_append, List.nil_append] at hs
  (repeat (first | (simp (disch := first | omega | assumption | exact Option.isSome_some | (simp only [adO_isSome]; assumption)) only [↓vcp, vcs, vct, if_true, if_false, Nat.reduceBEq, ↓reduceIte, Nat.reduceEqDiff, Nat.reduceAdd, Nat.reduceMul, Nat.reduceSub, Int.reduceToNat, reduceCtorEq, Nat.reduceLT, Nat.reduceLeDiff, Int.reduceSub, Int.reduceAdd, Int.reduceNeg, Sat.look hs, Sat.lookA hs]) | (refine khK he hs ?_; clear he; intro he) | ((first | refine stK hs ?_ | refine stFK hs ?_ | refine stAK hs ?_ | refine msK hs ?_); clear hs; (try clear w); rintro w hs; try simp only [cls] at hs) | ((first | refine al_ok hs ?_ | refine bx_ok hs ?_ | refine bsvK hs ?_ | refine bs1_ok hs ?_ | refine bs0_ok hs ?_); clear hs; (try clear w); rintro _ w hs; try simp only [cls] at hs)))
  refine call_ok (by kernel_rfl) (hsame) ?_; rintro _ w2 ⟨rfl, hb⟩; rw [callK_ret]; replace hs := Sat.add hs (Below.sat hb); clear hb; (try clear w); rename World => w; try simp only [cls] at hs
  (repeat (first | (simp (disch := first | omega | assumption | exact Option.isSome_some | (simp only [adO_isSome]; assumption)) only [↓vcp, vcs, vct, if_true, if_false, Nat.reduceBEq, ↓reduceIte, Nat.reduceEqDiff, Nat.reduceAdd, Nat.reduceMul, Nat.reduceSub, Int.reduceToNat, reduceCtorEq, Nat.reduceLT, Nat.reduceLeDiff, Int.reduceSub, Int.reduceAdd, Int.reduceNeg, Sat.look hs, Sat.lookA hs]) | (refine khK he hs ?_; clear he; intro he) | ((first | refine stK hs ?_ | refine stFK hs ?_ | refine stAK hs ?_ | refine msK hs ?_); clear hs; (try clear w); rintro w hs; try simp only [cls] at hs) | ((first | refine al_ok hs ?_ | refine bx_ok hs ?_ | refine bsvK hs ?_ | refine bs1_ok hs ?_ | refine bs0_ok hs ?_); clear hs; (try clear w); rintro _ w hs; try simp only [cls] at hs)))
  replace hs : Sat S (x.cks ++ ([.bk l [.slice ga es.length gc, .slice wa es.length wc] 52, .sl ga gc (es.map LE.gv) 56 1, .sl wa wc (es.map LE.wv) 56 1] ++ (es.map LE.gck ++ (todo ++ fams).map Kp.ck))) w := hs
  refine loop_rule (σ := Nat × Bk × List Kp) [7] (fun s => [.int .i64 s.1]) [0, 1] (fun s w' => s.1 ≤ es.length ∧ s.2.1.b = x.b ∧ s.2.1.ks = old ++ s.2.2 ∧ s.2.1.at' = old.length ∧ (∀ k ∈ s.2.2, k.n ≤ 140737488351232 ∧ k.m ≤ 72057594037927936) ∧ s.2.1.t = x.t + s.1 ∧ s.2.1.u ≤ 16777216 ∧ s.2.1.ks.length + 96 * s.2.2.length + 97 * (es.length - s.1) ≤ 1099511627776 ∧
      Sat S (s.2.1.cks ++ ([.bk l [.slice ga es.length gc, .slice wa es.length wc] 52, .sl ga gc (es.map LE.gv) 56 1, .sl wa wc (es.map LE.wv) 56 1] ++ ((es.drop s.1).map LE.gck ++ (s.2.2 ++ fams).map Kp.ck))) w')
    (fun s _ => es.length - s.1) (0, x, todo) (by kernel_rfl) rfl ⟨by omega, rfl, hx.ks, hx.at', hx.cap, rfl, hu, by dsimp only; omega, hs⟩ ?_
  clear hs
  rintro e ⟨i, z, td⟩ w ⟨hi, hzb, hzk, hza, hzc, hzt, hzu, hzl, hs⟩
  dsimp only at hi hzb hzk hza hzc hzt hzu hzl hs ⊢
  rw [← hzb]
  unfold Bk.cks Bk.cells at hs
  simp only [List.cons_append, List.nil_append] at hs
  simp (disch := first | omega | assumption | exact Option.isSome_some | (simp only [adO_isSome]; assumption)) only [↓vcp, vcs, vct, if_true, if_false, Nat.reduceBEq, ↓reduceIte, Nat.reduceEqDiff, Nat.reduceAdd, Nat.reduceMul, Nat.reduceSub, Int.reduceToNat, reduceCtorEq, Nat.reduceLT, Nat.reduceLeDiff, Int.reduceSub, Int.reduceAdd, Int.reduceNeg, Sat.look hs, Sat.lookA hs]
  by_cases hlt : i < es.length
  case neg =>
    have hdr : es.drop i = [] := List.drop_of_length_le (by omega)
    rw [hdr] at hs
    (repeat (first | (simp (disch := first | omega | assumption | exact Option.isSome_some | (simp only [adO_isSome]; assumption)) only [↓vcp, vcs, vct, if_true, if_false, Nat.reduceBEq, ↓reduceIte, Nat.reduceEqDiff, Nat.reduceAdd, Nat.reduceMul, Nat.reduceSub, Int.reduceToNat, reduceCtorEq, Nat.reduceLT, Nat.reduceLeDiff, Int.reduceSub, Int.reduceAdd, Int.reduceNeg, Sat.look hs, Sat.lookA hs]) | (refine khK he hs ?_; clear he; intro he) | ((first | refine stK hs ?_ | refine stFK hs ?_ | refine stAK hs ?_ | refine msK hs ?_); clear hs; (try clear w); rintro w hs; try simp only [cls] at hs) | ((first | refine al_ok hs ?_ | refine bx_ok hs ?_ | refine bsvK hs ?_ | refine bs1_ok hs ?_ | refine bs0_ok hs ?_); clear hs; (try clear w); rintro _ w hs; try simp only [cls] at hs)))
    have hzok : BkOk z old td fams := ⟨hzk, hza, hx.cov, hzc, hx.bnd, by omega⟩
    replace hs : Sat S (z.cks ++ ([.bk l [.slice none 0 0, .slice none 0 0] 52, .sl ga gc (es.map LE.gv) 56 1, .sl wa wc (es.map LE.wv) 56 1] ++ (td ++ fams).map Kp.ck)) w := by simpa [Bk.cks, Bk.cells] using hs
    replace hs := hs.sub (List.Sublist.append_left (List.sublist_append_right _ _) _)
    refine call_ok (by kernel_rfl) (Look_calls S w z old td fams hzok hs) ?_
    rintro _ w2 ⟨y2, old', todo', fams', rfl, h1, h2, h3, h4, hb⟩
    rw [callK_ret]
    clear hs
    have hs := hb
    (repeat (first | (simp (disch := first | omega | assumption | exact Option.isSome_some | (simp only [adO_isSome]; assumption)) only [↓vcp, vcs, vct, if_true, if_false, Nat.reduceBEq, ↓reduceIte, Nat.reduceEqDiff, Nat.reduceAdd, Nat.reduceMul, Nat.reduceSub, Int.reduceToNat, reduceCtorEq, Nat.reduceLT, Nat.reduceLeDiff, Int.reduceSub, Int.reduceAdd, Int.reduceNeg, Sat.look hs, Sat.lookA hs]) | (refine khK he hs ?_; clear he; intro he) | ((first | refine stK hs ?_ | refine stFK hs ?_ | refine stAK hs ?_ | refine msK hs ?_); clear hs; (try clear w); rintro w hs; try simp only [cls] at hs) | ((first | refine al_ok hs ?_ | refine bx_ok hs ?_ | refine bsvK hs ?_ | refine bs1_ok hs ?_ | refine bs0_ok hs ?_); clear hs; (try clear w); rintro _ w hs; try simp only [cls] at hs)))
    exact ret_tmp rfl (hR _ _ ⟨y2, old', todo', fams', rfl, h1.trans hzb, h4, hs⟩)
  case pos =>
    obtain ⟨e1, he1⟩ : ∃ e1, es[i]? = some e1 := ⟨_, List.getElem?_eq_getElem hlt⟩
    have hdr : es.drop i = e1 :: es.drop (i + 1) := by
      rw [List.drop_eq_getElem_cons hlt]
      congr 1
      exact Option.some.inj ((List.getElem?_eq_getElem hlt).symm.trans he1)
    have g0 : (es.map LE.gv)[i]? = some (.slice e1.a e1.xs.length e1.c) := by rw [List.getElem?_map, he1]; rfl
    have hl0 : (es.map LE.gv).length = es.length := List.length_map ..
    have hgs : ga.isSome = true := hs.isSome (a := ga) (xs := es.map LE.gv) (by rw [hl0]; omega)
    (repeat (first | (simp (disch := first | omega | assumption | exact Option.isSome_some | (simp only [adO_isSome]; assumption)) only [↓vcp, vcs, vct, if_true, if_false, Nat.reduceBEq, ↓reduceIte, Nat.reduceEqDiff, Nat.reduceAdd, Nat.reduceMul, Nat.reduceSub, Int.reduceToNat, reduceCtorEq, Nat.reduceLT, Nat.reduceLeDiff, Int.reduceSub, Int.reduceAdd, Int.reduceNeg, Sat.look hs, Sat.lookA hs, g0]) | (refine khK he hs ?_; clear he; intro he) | ((first | refine stK hs ?_ | refine stFK hs ?_ | refine stAK hs ?_ | refine msK hs ?_); clear hs; (try clear w); rintro w hs; try simp only [cls] at hs) | ((first | refine al_ok hs ?_ | refine bx_ok hs ?_ | refine bsvK hs ?_ | refine bs1_ok hs ?_ | refine bs0_ok hs ?_); clear hs; (try clear w); rintro _ w hs; try simp only [cls] at hs)))
    rw [hdr] at hs
    have hcx := hcap e1 (List.mem_of_getElem? he1)
    generalize hLq : ([.bk l [.slice ga es.length gc, .slice wa es.length wc] 52, .sl ga gc (es.map LE.gv) 56 1, .sl wa wc (es.map LE.wv) 56 1] : List Ck) = LQ
    have hs2 : Sat S (z.cks ++ (LQ ++ (LE.gck e1 :: ((es.drop (i + 1)).map LE.gck ++ (td ++ fams).map Kp.ck)))) w := by rw [← hLq]; exact hs
    have hp : (z.cks ++ (LQ ++ (LE.gck e1 :: ((es.drop (i + 1)).map LE.gck ++ (td ++ fams).map Kp.ck)))).Perm ((z.cks ++ [LE.gck e1]) ++ (LQ ++ ((es.drop (i + 1)).map LE.gck ++ (td ++ fams).map Kp.ck))) := by
      rw [List.append_assoc]
      exact List.Perm.append_left _ List.perm_middle
    have hfr : Sat ⟨w, footL (z.cks ++ [LE.gck e1])⟩ (z.cks ++ [LE.gck e1]) w := (hs2.perm hp).front
    refine call_ok (by kernel_rfl) (Bytes_calls _ w z e1.a e1.c e1.xs hfr (by omega) (by omega) (by omega) (by omega)) ?_
    rintro _ w2 ⟨z2, rfl, h1, h2, h3, h4, h5, hb⟩
    rw [callK_ret]
    have hs3 := hs2.frame hp hb
    clear hs hs2 hfr hb hp w
    rename World => w
    have hs : Sat S ((z2.cks ++ [.sl e1.a e1.c ((mk (z.t + 1) e1.xs.length).map u8v) 5 1]) ++ (LQ ++ ((es.drop (i + 1)).map LE.gck ++ (td ++ fams).map Kp.ck))) w := hs3
    clear hs3
    (repeat (first | (simp (disch := first | omega | assumption | exact Option.isSome_some | (simp only [adO_isSome]; assumption)) only [↓vcp, vcs, vct, if_true, if_false, Nat.reduceBEq, ↓reduceIte, Nat.reduceEqDiff, Nat.reduceAdd, Nat.reduceMul, Nat.reduceSub, Int.reduceToNat, reduceCtorEq, Nat.reduceLT, Nat.reduceLeDiff, Int.reduceSub, Int.reduceAdd, Int.reduceNeg, Sat.look hs, Sat.lookA hs]) | (refine khK he hs ?_; clear he; intro he) | ((first | refine stK hs ?_ | refine stFK hs ?_ | refine stAK hs ?_ | refine msK hs ?_); clear hs; (try clear w); rintro w hs; try simp only [cls] at hs) | ((first | refine al_ok hs ?_ | refine bx_ok hs ?_ | refine bsvK hs ?_ | refine bs1_ok hs ?_ | refine bs0_ok hs ?_); clear hs; (try clear w); rintro _ w hs; try simp only [cls] at hs)))
    rcases h5 with ⟨h5, h6⟩ | ⟨h5, h6, h7⟩
    · refine ⟨(i + 1, z2, td), by rfl, by rfl, ⟨by dsimp only; omega, h1, by dsimp only; rw [h5, hzk], by dsimp only; rw [h2, hza], hzc, by dsimp only; omega, by dsimp only; omega, by dsimp only; rw [h5]; omega, ?_⟩, by dsimp only; omega⟩
      subst hLq
      exact hs.sub (List.Sublist.append_right (List.sublist_append_left _ _) _)
    · refine ⟨(i + 1, z2, td ++ [⟨e1.a, e1.c, e1.xs.length, z.t + 1⟩]), by rfl, by rfl, ⟨by dsimp only; omega, h1, by dsimp only; rw [h5, hzk, List.append_assoc], by dsimp only; rw [h2, hza], ?_, by dsimp only; omega, by dsimp only; omega, by dsimp only; rw [h5]; simp only [List.length_append, List.length_singleton]; omega, ?_⟩, by dsimp only; omega⟩
      · intro k hk
        rcases List.mem_append.1 hk with hk | hk
        · exact hzc k hk
        · obtain rfl := List.mem_singleton.1 hk
          exact ⟨hcx, by dsimp only; omega⟩
      · have hs4 : Sat S (z2.cks ++ (LQ ++ ((es.drop (i + 1)).map LE.gck ++ (td ++ [(⟨e1.a, e1.c, e1.xs.length, z.t + 1⟩ : Kp)] ++ fams).map Kp.ck))) w := by
         refine hs.perm ?_
         rw [List.append_assoc]
         refine List.Perm.append_left _ ?_
         have hk1 : (td ++ [(⟨e1.a, e1.c, e1.xs.length, z.t + 1⟩ : Kp)] ++ fams).map Kp.ck = td.map Kp.ck ++ Kp.ck ⟨e1.a, e1.c, e1.xs.length, z.t + 1⟩ :: fams.map Kp.ck := by simp
         rw [hk1, List.map_append]
         have hpm := (List.perm_middle (a := Kp.ck ⟨e1.a, e1.c, e1.xs.length, z.t + 1⟩) (l₁ := LQ ++ ((es.drop (i + 1)).map LE.gck ++ td.map Kp.ck)) (l₂ := fams.map Kp.ck)).symm
         simp only [List.append_assoc] at hpm
         exact hpm
        subst hLq
        exact hs4
end Go.Proofs.YtokoohdpakhphaaGreatDoor.Book
