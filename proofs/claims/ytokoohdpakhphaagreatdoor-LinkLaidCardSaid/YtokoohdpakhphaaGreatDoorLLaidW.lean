/- The law LinkLaid answers true of any links and bytes, and leaves what was there as it was. -/
import Derived.Test.YtokoohdpakhphaaGreatDoorLnkE
import Derived.Test.YtokoohdpakhphaaGreatDoorLnkH
import Derived.Test.YtokoohdpakhphaaGreatDoorLnkRU
import Derived.Test.YtokoohdpakhphaaGreatDoorPlace
import Derived.Test.YtokoohdpakhphaaGreatDoorLateA
namespace Go.Proofs.YtokoohdpakhphaaGreatDoor.Lnk
open Go VC Go.RowKit Dig Sha Loan Varint Help Book
set_option linter.unusedSimpArgs false
set_option linter.unusedVariables false
set_option maxRecDepth 20000
set_option maxHeartbeats 4000000
theorem cells4 {S : Cx} {H : List Ck} {w : World} {p : Option Addr} {x y z u : Value} (h : Ro S p [x, y, z, u]) (hs : Sat S H w) : cellsO w p 4 = some [x, y, z, u] := h.cells hs (by simp)
def both (e : LE) : List Ck := [LE.gck e, LE.wck e]
theorem perm_both : ∀ es : List LE, (es.flatMap both).Perm (es.map LE.gck ++ es.map LE.wck)
  | [] => .nil
  | e :: es => by
    rw [List.flatMap_cons, List.map_cons, List.map_cons, List.cons_append]
    refine List.Perm.cons _ ?_
    refine (List.Perm.cons _ (perm_both es)).trans ?_
    exact List.perm_middle.symm
/-- an answer is kept: its row stands among the others -/
theorem Add_in (S : Cx) (w0 : World) (x : Lt) (R F : List Ck) (a : Option Addr) (c : Nat) (xs : List UInt8) (wa : Option Addr) (wc : Nat) (hs : Sat S (x.cks ++ ((R ++ x.es.flatMap both) ++ (.sl a c (xs.map u8v) 5 1 :: F))) w0) (hw : Ro ⟨w0, footL x.cks⟩ wa (xs.map u8v)) (hl : xs.length ≤ 140737488355328) (hes : x.es.length ≤ 1099511627776) :
    Calls Tryz.prog 11 #[.pointer (some ⟨x.l, 0, none⟩), .slice a xs.length c, .slice wa xs.length wc] w0 fun e w' => ∃ (y : Lt) (b d : Nat) (pad : List Value), e = .returned (.tuple #[]) ∧ y.l = x.l ∧ y.es = x.es ++ [⟨a, c, xs, b, d, pad⟩] ∧ Sat S (y.cks ++ ((R ++ y.es.flatMap both) ++ F)) w' := by
  refine Calls.mono (Add_calls _ w0 x a c xs wa wc hs.front hw hl hes) fun e w' ⟨y, b, d, pad, h1, h2, h3, _, hb⟩ => ⟨y, b, d, pad, h1, h2, h3, ?_⟩
  have h := hs.frame (List.Perm.refl _) hb
  refine h.perm ?_
  rw [h3, List.flatMap_append, List.append_assoc]
  refine List.Perm.append_left _ ?_
  have e1 : ([(⟨a, c, xs, b, d, pad⟩ : LE)].flatMap both) = [.sl a c (xs.map u8v) 5 1, LE.wck ⟨a, c, xs, b, d, pad⟩] := rfl
  rw [e1]
  have p1 := (List.perm_middle (a := LE.wck ⟨a, c, xs, b, d, pad⟩) (l₁ := (R ++ x.es.flatMap both) ++ [.sl a c (xs.map u8v) 5 1]) (l₂ := F)).symm
  simp only [List.append_assoc, List.cons_append, List.nil_append] at p1 ⊢
  exact p1
def noBk (b : Nat) : Bk := ⟨b, none, 0, none, 0, [], 0, 0, 0, 0⟩
/-- what stands beside the answers -/
def beside (b tb pb : Nat) (args : List Value) (g : PlG) (ys : List UInt8) : List Ck := (noBk b).cks ++ (.bk tb args 28 :: g.cks pb ys)
theorem perm11 {α : Type} (tb bb lb pb x1 x2 x3 x4 x5 x6 x7 : α) : [tb, bb, lb, pb, x1, x2, x3, x4, x5, x6, x7].Perm [lb, x1, x2, bb, x3, x4, tb, pb, x5, x6, x7] := by
  refine (List.perm_middle (l₁ := [tb, bb])).trans (.cons _ ?_)
  refine (List.perm_middle (l₁ := [tb, bb, pb])).trans (.cons _ ?_)
  refine (List.perm_middle (l₁ := [tb, bb, pb])).trans (.cons _ ?_)
  refine (List.perm_middle (l₁ := [tb])).trans (.cons _ ?_)
  refine (List.perm_middle (l₁ := [tb, pb])).trans (.cons _ ?_)
  exact (List.perm_middle (l₁ := [tb, pb])).trans (.cons _ (.refl _))
theorem permAB {α : Type} (x n g X : List α) : (x ++ ((n ++ g) ++ X)).Perm (g ++ (x ++ (n ++ X))) := by
  have h := List.perm_append_comm_assoc (x ++ n) g X
  simpa only [List.append_assoc] using h
def esOk (es : List LE) : Prop := ∀ e ∈ es, e.xs.length ≤ 140737488351232
theorem LinkLaid_calls (w0 : World) (v1 v3 v4 : Value) (la ba : Option Addr) (lc bc : Nat) (L : List Lk) (B : List BRow) (hL : Rd w0 w0.heap.size la (L.flatMap Lk.fs)) (hLd : ∀ l ∈ L, l.d.length ≤ 140737488351232) (hLn : L.length ≤ 140737488351232) (hB : RdBB w0 w0.heap.size ba B) (hBn : B.length ≤ 140737488351232) (hG : Ro (.at w0) (some ⟨0, 0, none⟩) (factors.map u32v)) :
    Calls Tryz.prog 3 #[.agg [.slice la L.length lc, v1, .slice ba B.length bc, v3, v4].toArray] w0 fun e w' => e = .returned (.bool true) ∧ Below w0.heap.size w0 w' := by
  refine calls_vc Tryz.func3 rfl (by kernel_rfl) (by kernel_rfl) ?_; intro R hR
  have hs := Sat.start w0
  have hLr : Ro (.at w0) la (L.flatMap Lk.fs) := Rd.ro hL
  have hBr : Ro (.at w0) ba (B.map BRow.v) := Rd.ro hB.1
  (repeat (first | (simp (disch := first | omega | assumption | exact Option.isSome_some | (simp only [adO_isSome]; assumption)) only [↓vcp, vcs, vct, if_true, if_false, Nat.reduceBEq, ↓reduceIte, Nat.reduceEqDiff, Nat.reduceAdd, Nat.reduceMul, Nat.reduceSub, Int.reduceToNat, reduceCtorEq, Nat.reduceLT, Nat.reduceLeDiff, Int.reduceSub, Int.reduceAdd, Int.reduceNeg, Sat.look hs, Sat.lookA hs]) | (refine khK he hs ?_; clear he; intro he) | ((first | refine stK hs ?_ | refine stFK hs ?_ | refine stAK hs ?_ | refine msK hs ?_); clear hs; (try clear w); rintro w hs; try simp only [cls] at hs) | ((first | refine al_ok hs ?_ | refine bx_ok hs ?_ | refine bsvK hs ?_ | refine bs1_ok hs ?_ | refine bs0_ok hs ?_); clear hs; (try clear w); rintro _ w hs; try simp only [cls] at hs)))
  refine call_ok (by kernel_rfl) (begun_calls w (hG.up0 hs)) ?_; rintro _ w2 ⟨rfl, hb⟩; rw [callK_ret]; replace hs := Sat.add hs (Below.sat hb); clear hb; (try clear w); rename World => w; try simp only [cls] at hs
  (repeat (first | (simp (disch := first | omega | assumption | exact Option.isSome_some | (simp only [adO_isSome]; assumption)) only [↓vcp, vcs, vct, if_true, if_false, Nat.reduceBEq, ↓reduceIte, Nat.reduceEqDiff, Nat.reduceAdd, Nat.reduceMul, Nat.reduceSub, Int.reduceToNat, reduceCtorEq, Nat.reduceLT, Nat.reduceLeDiff, Int.reduceSub, Int.reduceAdd, Int.reduceNeg, Sat.look hs, Sat.lookA hs]) | (refine khK he hs ?_; clear he; intro he) | ((first | refine stK hs ?_ | refine stFK hs ?_ | refine stAK hs ?_ | refine msK hs ?_); clear hs; (try clear w); rintro w hs; try simp only [cls] at hs) | ((first | refine al_ok hs ?_ | refine bx_ok hs ?_ | refine bsvK hs ?_ | refine bs1_ok hs ?_ | refine bs0_ok hs ?_); clear hs; (try clear w); rintro _ w hs; try simp only [cls] at hs)))
  rename_i tb bb lb pb
  replace hs := Sat.nil hs 56 1; try simp only [cls] at hs
  replace hs := Sat.nil hs 56 1; try simp only [cls] at hs
  replace hs := Sat.nil hs 56 1; try simp only [cls] at hs
  replace hs := Sat.nil hs 3 1; try simp only [cls] at hs
  replace hs := Sat.nil hs 56 1; try simp only [cls] at hs
  replace hs := Sat.nil hs 56 1; try simp only [cls] at hs
  replace hs := Sat.nil hs 5 1; try simp only [cls] at hs
  obtain ⟨args, hargs⟩ : ∃ args : List Value, args = [.slice la L.length lc, v1, .slice ba B.length bc, v3, v4] := ⟨_, rfl⟩
  rw [← hargs] at hs
  have hs0 : Sat (.at w0) ((⟨lb, none, 0, none, 0, []⟩ : Lt).cks ++ (beside bb tb pb args ⟨none, 0, [], none, 0, none, 0, true⟩ [] ++ ([] : List LE).flatMap both)) w := hs.perm (perm11 ..)
  clear hs
  have hs := hs0
  clear hs0
  refine loop_join (σ := Lt) 0 [] (fun _ => []) [1, 3, 4, 5] (fun x w' => x.l = lb ∧ x.es.length ≤ 2000 ∧ esOk x.es ∧ Sat (.at w0) (x.cks ++ (beside bb tb pb args ⟨none, 0, [], none, 0, none, 0, true⟩ [] ++ x.es.flatMap both)) w') ?_ ?_
  · refine loop_rule (σ := Nat × Lt) [6] (fun s => [.int .i64 s.1]) [1, 3, 4, 5] (fun s w' => s.1 ≤ L.length ∧ s.1 ≤ 1000 ∧ s.2.l = lb ∧ s.2.es.length ≤ 2 * s.1 ∧ esOk s.2.es ∧ Sat (.at w0) (s.2.cks ++ (beside bb tb pb args ⟨none, 0, [], none, 0, none, 0, true⟩ [] ++ s.2.es.flatMap both)) w') (fun s _ => L.length - s.1) (0, ⟨lb, none, 0, none, 0, []⟩) (by kernel_rfl) rfl ⟨by omega, by omega, rfl, by simp, (fun e he => by cases he), hs⟩ ?_
    clear hs
    rintro e ⟨i, x⟩ wb ⟨hi, hi2, hxl, hxe, hxo, hs1⟩
    dsimp only at hi hi2 hxl hxe hxo hs1 ⊢
    have htb : Ro (.at wb) (some ⟨tb, 0, none⟩) args := memBk (pad := []) hs1 (List.mem_append_right _ (List.mem_append_left _ (List.mem_append_right _ (by rw [List.append_nil]; exact .head _))))
    rw [hargs] at htb
    have f0 : oldO (.at wb) (some ⟨tb, 0, none⟩) = some (.slice la L.length lc) := htb 0 _ rfl
    have hs := Sat.start wb
    simp (disch := first | omega | assumption | exact Option.isSome_some | (simp only [adO_isSome]; assumption)) only [↓vcp, vcs, vct, if_true, if_false, Nat.reduceBEq, ↓reduceIte, Nat.reduceEqDiff, Nat.reduceAdd, Nat.reduceMul, Nat.reduceSub, Int.reduceToNat, reduceCtorEq, Nat.reduceLT, Nat.reduceLeDiff, Int.reduceSub, Int.reduceAdd, Int.reduceNeg, Sat.look hs, Sat.lookA hs, hs.old f0]
    by_cases hlt : i < L.length
    case neg =>
      (repeat (first | (simp (disch := first | omega | assumption | exact Option.isSome_some | (simp only [adO_isSome]; assumption)) only [↓vcp, vcs, vct, if_true, if_false, Nat.reduceBEq, ↓reduceIte, Nat.reduceEqDiff, Nat.reduceAdd, Nat.reduceMul, Nat.reduceSub, Int.reduceToNat, reduceCtorEq, Nat.reduceLT, Nat.reduceLeDiff, Int.reduceSub, Int.reduceAdd, Int.reduceNeg, Sat.look hs, Sat.lookA hs, hs.old f0]) | (refine khK he hs ?_; clear he; intro he) | ((first | refine stK hs ?_ | refine stFK hs ?_ | refine stAK hs ?_ | refine msK hs ?_); clear hs; (try clear w); rintro w hs; try simp only [cls] at hs) | ((first | refine al_ok hs ?_ | refine bx_ok hs ?_ | refine bsvK hs ?_ | refine bs1_ok hs ?_ | refine bs0_ok hs ?_); clear hs; (try clear w); rintro _ w hs; try simp only [cls] at hs)))
      exact ⟨x, by rfl, by rfl, hxl, by omega, hxo, hs1⟩
    by_cases h1000 : i < 1000
    case neg =>
      (repeat (first | (simp (disch := first | omega | assumption | exact Option.isSome_some | (simp only [adO_isSome]; assumption)) only [↓vcp, vcs, vct, if_true, if_false, Nat.reduceBEq, ↓reduceIte, Nat.reduceEqDiff, Nat.reduceAdd, Nat.reduceMul, Nat.reduceSub, Int.reduceToNat, reduceCtorEq, Nat.reduceLT, Nat.reduceLeDiff, Int.reduceSub, Int.reduceAdd, Int.reduceNeg, Sat.look hs, Sat.lookA hs, hs.old f0]) | (refine khK he hs ?_; clear he; intro he) | ((first | refine stK hs ?_ | refine stFK hs ?_ | refine stAK hs ?_ | refine msK hs ?_); clear hs; (try clear w); rintro w hs; try simp only [cls] at hs) | ((first | refine al_ok hs ?_ | refine bx_ok hs ?_ | refine bsvK hs ?_ | refine bs1_ok hs ?_ | refine bs0_ok hs ?_); clear hs; (try clear w); rintro _ w hs; try simp only [cls] at hs)))
      exact ⟨x, by rfl, by rfl, hxl, by omega, hxo, hs1⟩
    obtain ⟨l, hl⟩ : ∃ l, L[i]? = some l := ⟨_, List.getElem?_eq_getElem hlt⟩
    have hld := hLd l (List.mem_of_getElem? hl)
    have hl1 := linkU (hLr.up0 hs1) hl
    have has : la.isSome = true := hLr.isSome (by
      have : l ∈ L := List.mem_of_getElem? hl
      exact List.length_pos_iff.2 fun h => by
        have h3 : Value.int .i64 l.v ∈ L.flatMap Lk.fs := List.mem_flatMap.2 ⟨l, this, .head _⟩
        rw [h] at h3
        cases h3)
    have q1 := fun w => RBytes_calls w l hld
    have q2 := fun w => Check_calls w l
    have q3 := fun w => RCheck_calls w l (by omega)
    have q4 := fun w => Bytes_calls w l (by omega)
    have hbl := lbytes_len l
    generalize hbad : lcheck l = bad at *
    generalize hB' : lbytes l = Bs at *
    obtain ⟨lv, lcd, lh, ld⟩ := l
    unfold Lk.fs at hl1 q1 q2 q3 q4
    dsimp only at hl1 q1 q2 q3 q4
    (repeat (first | (simp (disch := first | omega | assumption | exact Option.isSome_some | (simp only [adO_isSome]; assumption)) only [↓vcp, vcs, vct, if_true, if_false, Nat.reduceBEq, ↓reduceIte, Nat.reduceEqDiff, Nat.reduceAdd, Nat.reduceMul, Nat.reduceSub, Int.reduceToNat, reduceCtorEq, Nat.reduceLT, Nat.reduceLeDiff, Int.reduceSub, Int.reduceAdd, Int.reduceNeg, Sat.look hs, Sat.lookA hs, hs.old f0, cells4 hl1 hs]) | (refine khK he hs ?_; clear he; intro he) | ((first | refine stK hs ?_ | refine stFK hs ?_ | refine stAK hs ?_ | refine msK hs ?_); clear hs; (try clear w); rintro w hs; try simp only [cls] at hs) | ((first | refine al_ok hs ?_ | refine bx_ok hs ?_ | refine bsvK hs ?_ | refine bs1_ok hs ?_ | refine bs0_ok hs ?_); clear hs; (try clear w); rintro _ w hs; try simp only [cls] at hs)))
    refine call_ok (by kernel_rfl) (q1 wb) ?_; rintro _ w2 ⟨wa, wc, rfl, hwc, hb⟩; rw [callK_ret]; replace hs := Sat.add hs hb; clear hb; (try clear w); rename World => w; try simp only [cls] at hs
    (repeat (first | (simp (disch := first | omega | assumption | exact Option.isSome_some | (simp only [adO_isSome]; assumption)) only [↓vcp, vcs, vct, if_true, if_false, Nat.reduceBEq, ↓reduceIte, Nat.reduceEqDiff, Nat.reduceAdd, Nat.reduceMul, Nat.reduceSub, Int.reduceToNat, reduceCtorEq, Nat.reduceLT, Nat.reduceLeDiff, Int.reduceSub, Int.reduceAdd, Int.reduceNeg, Sat.look hs, Sat.lookA hs, hs.old f0, cells4 hl1 hs]) | (refine khK he hs ?_; clear he; intro he) | ((first | refine stK hs ?_ | refine stFK hs ?_ | refine stAK hs ?_ | refine msK hs ?_); clear hs; (try clear w); rintro w hs; try simp only [cls] at hs) | ((first | refine al_ok hs ?_ | refine bx_ok hs ?_ | refine bsvK hs ?_ | refine bs1_ok hs ?_ | refine bs0_ok hs ?_); clear hs; (try clear w); rintro _ w hs; try simp only [cls] at hs)))
    have hsW := hs1.add hs
    have hl2 := hl1.up0 hs
    have f02 : oldO (.at w) (some ⟨tb, 0, none⟩) = some (.slice la L.length lc) := htb.up0 hs 0 _ rfl
    clear hs
    obtain ⟨wc2, rfl⟩ : ∃ wc2, wc2 = w := ⟨w, rfl⟩
    have hs := Sat.start wc2
    refine draw_plan (SatE _ _) [(0, true), (2, true), (7, true), (9, true), (1, true), (3, true), (4, true), (8, true), (10, true), (11, true), (5, false), (6, false), (12, false), (13, true)] (by kernel_rfl) (by kernel_rfl) (Sat.e (Sat.drew hs)) ?_; replace hs := Sat.drew hs; revert hs; generalize World.drew _ = w; intro hs; have he := Sat.e hs
    (repeat (first | (simp (disch := first | omega | assumption | exact Option.isSome_some | (simp only [adO_isSome]; assumption)) only [↓vcp, vcs, vct, if_true, if_false, Nat.reduceBEq, ↓reduceIte, Nat.reduceEqDiff, Nat.reduceAdd, Nat.reduceMul, Nat.reduceSub, Int.reduceToNat, reduceCtorEq, Nat.reduceLT, Nat.reduceLeDiff, Int.reduceSub, Int.reduceAdd, Int.reduceNeg, Sat.look hs, Sat.lookA hs, m_loadEO _ he _ f02, m_loadU (sz := 4) _ he _ hl2 rfl (by omega)]) | (refine khK he hs ?_; clear he; intro he) | ((first | refine stK hs ?_ | refine stFK hs ?_ | refine stAK hs ?_ | refine msK hs ?_); clear hs; (try clear w); rintro w hs; try simp only [cls] at hs) | ((first | refine al_ok hs ?_ | refine bx_ok hs ?_ | refine bsvK hs ?_ | refine bs1_ok hs ?_ | refine bs0_ok hs ?_); clear hs; (try clear w); rintro _ w hs; try simp only [cls] at hs) | (refine call_ok (by kernel_rfl) (num_calls _ _) ?_; rintro _ _ ⟨rfl, rfl⟩; rw [callK_ret]) | (refine call_still (by kernel_rfl) (num_calls _ _) ?_)))
    refine call_ok (by kernel_rfl) (q2 _) ?_; rintro _ w2 ⟨rfl, hb⟩; rw [callK_ret]; replace hs := Sat.add hs (Below.sat hb); clear hb; (try clear w); rename World => w; try simp only [cls] at hs
    refine khK he hs ?_; clear he; intro he
    (repeat (first | (simp (disch := first | omega | assumption | exact Option.isSome_some | (simp only [adO_isSome]; assumption)) only [↓vcp, vcs, vct, if_true, if_false, Nat.reduceBEq, ↓reduceIte, Nat.reduceEqDiff, Nat.reduceAdd, Nat.reduceMul, Nat.reduceSub, Int.reduceToNat, reduceCtorEq, Nat.reduceLT, Nat.reduceLeDiff, Int.reduceSub, Int.reduceAdd, Int.reduceNeg, Sat.look hs, Sat.lookA hs, m_loadEO _ he _ f02, m_loadU (sz := 4) _ he _ hl2 rfl (by omega)]) | (refine khK he hs ?_; clear he; intro he) | ((first | refine stK hs ?_ | refine stFK hs ?_ | refine stAK hs ?_ | refine msK hs ?_); clear hs; (try clear w); rintro w hs; try simp only [cls] at hs) | ((first | refine al_ok hs ?_ | refine bx_ok hs ?_ | refine bsvK hs ?_ | refine bs1_ok hs ?_ | refine bs0_ok hs ?_); clear hs; (try clear w); rintro _ w hs; try simp only [cls] at hs) | (refine call_ok (by kernel_rfl) (num_calls _ _) ?_; rintro _ _ ⟨rfl, rfl⟩; rw [callK_ret]) | (refine call_still (by kernel_rfl) (num_calls _ _) ?_)))
    refine call_ok (by kernel_rfl) (q3 _) ?_; rintro _ w2 ⟨rfl, hb⟩; rw [callK_ret]; replace hs := Sat.add hs (Below.sat hb); clear hb; (try clear w); rename World => w; try simp only [cls] at hs
    refine khK he hs ?_; clear he; intro he
    (repeat (first | (simp (disch := first | omega | assumption | exact Option.isSome_some | (simp only [adO_isSome]; assumption)) only [↓vcp, vcs, vct, if_true, if_false, Nat.reduceBEq, ↓reduceIte, Nat.reduceEqDiff, Nat.reduceAdd, Nat.reduceMul, Nat.reduceSub, Int.reduceToNat, reduceCtorEq, Nat.reduceLT, Nat.reduceLeDiff, Int.reduceSub, Int.reduceAdd, Int.reduceNeg, Sat.look hs, Sat.lookA hs, m_loadEO _ he _ f02, m_loadU (sz := 4) _ he _ hl2 rfl (by omega)]) | (refine khK he hs ?_; clear he; intro he) | ((first | refine stK hs ?_ | refine stFK hs ?_ | refine stAK hs ?_ | refine msK hs ?_); clear hs; (try clear w); rintro w hs; try simp only [cls] at hs) | ((first | refine al_ok hs ?_ | refine bx_ok hs ?_ | refine bsvK hs ?_ | refine bs1_ok hs ?_ | refine bs0_ok hs ?_); clear hs; (try clear w); rintro _ w hs; try simp only [cls] at hs) | (refine call_ok (by kernel_rfl) (num_calls _ _) ?_; rintro _ _ ⟨rfl, rfl⟩; rw [callK_ret]) | (refine call_still (by kernel_rfl) (num_calls _ _) ?_)))
    (try clear he)
    have hsX := stayU hsW hs
    clear hs hsW hs1 htb f0 hl1 hl2 f02
    have hs : Sat (.at w0) (x.cks ++ ((beside bb tb pb args ⟨none, 0, [], none, 0, none, 0, true⟩ [] ++ x.es.flatMap both) ++ [.sl wa wc (Bs.map u8v) 5 1])) w := by rw [← List.append_assoc]; exact hsX
    clear hsX
    (repeat (first | (simp (disch := first | omega | assumption | exact Option.isSome_some | (simp only [adO_isSome]; assumption)) only [↓vcp, vcs, vct, if_true, if_false, Nat.reduceBEq, ↓reduceIte, Nat.reduceEqDiff, Nat.reduceAdd, Nat.reduceMul, Nat.reduceSub, Int.reduceToNat, reduceCtorEq, Nat.reduceLT, Nat.reduceLeDiff, Int.reduceSub, Int.reduceAdd, Int.reduceNeg, Sat.look hs, Sat.lookA hs]) | (refine khK he hs ?_; clear he; intro he) | ((first | refine stK hs ?_ | refine stFK hs ?_ | refine stAK hs ?_ | refine msK hs ?_); clear hs; (try clear w); rintro w hs; try simp only [cls] at hs) | ((first | refine al_ok hs ?_ | refine bx_ok hs ?_ | refine bsvK hs ?_ | refine bs1_ok hs ?_ | refine bs0_ok hs ?_); clear hs; (try clear w); rintro _ w hs; try simp only [cls] at hs)))
    refine loop_rule (σ := Nat × Lt) [9] (fun s => [.int .i64 s.1]) [1, 3, 4, 5, 6, 7, 8] (fun s w' => s.1 ≤ 2 ∧ s.2.l = lb ∧ s.2.es.length ≤ 2 * i + s.1 ∧ esOk s.2.es ∧ Sat (.at w0) (s.2.cks ++ ((beside bb tb pb args ⟨none, 0, [], none, 0, none, 0, true⟩ [] ++ s.2.es.flatMap both) ++ [.sl wa wc (Bs.map u8v) 5 1])) w') (fun s _ => 2 - s.1) (0, x) (by kernel_rfl) rfl ⟨by omega, hxl, by dsimp only; omega, hxo, hs⟩ ?_
    clear hs hxl hxe hxo x
    rintro e ⟨k, x⟩ wb ⟨hk, hxl, hxe, hxo, hs1⟩
    dsimp only at hk hxl hxe hxo hs1 ⊢
    have htb : Ro (.at wb) (some ⟨tb, 0, none⟩) args := memBk (pad := []) hs1 (List.mem_append_right _ (List.mem_append_left _ (List.mem_append_left _ (List.mem_append_right _ (by rw [List.append_nil]; exact .head _)))))
    rw [hargs] at htb
    have f0 : oldO (.at wb) (some ⟨tb, 0, none⟩) = some (.slice la L.length lc) := htb 0 _ rfl
    have hwr : Ro (.at wb) wa (Bs.map u8v) := memCk (cp := wc) (el := 5) (sz := 1) hs1 (List.mem_append_right _ (List.mem_append_right _ (.head _)))
    have hl1 : Ro (.at wb) (adO la (i * 4)) [.int .i64 lv, .int .u64 lcd, .int .u64 lh, .string ⟨ld.toArray⟩] := linkU (hLr.up0 hs1) hl
    have hs := Sat.start wb
    simp (disch := first | omega | assumption | exact Option.isSome_some | (simp only [adO_isSome]; assumption)) only [↓vcp, vcs, vct, if_true, if_false, Nat.reduceBEq, ↓reduceIte, Nat.reduceEqDiff, Nat.reduceAdd, Nat.reduceMul, Nat.reduceSub, Int.reduceToNat, reduceCtorEq, Nat.reduceLT, Nat.reduceLeDiff, Int.reduceSub, Int.reduceAdd, Int.reduceNeg, Sat.look hs, Sat.lookA hs]
    by_cases hk2 : k < 2
    case neg =>
      (repeat (first | (simp (disch := first | omega | assumption | exact Option.isSome_some | (simp only [adO_isSome]; assumption)) only [↓vcp, vcs, vct, if_true, if_false, Nat.reduceBEq, ↓reduceIte, Nat.reduceEqDiff, Nat.reduceAdd, Nat.reduceMul, Nat.reduceSub, Int.reduceToNat, reduceCtorEq, Nat.reduceLT, Nat.reduceLeDiff, Int.reduceSub, Int.reduceAdd, Int.reduceNeg, Sat.look hs, Sat.lookA hs]) | (refine khK he hs ?_; clear he; intro he) | ((first | refine stK hs ?_ | refine stFK hs ?_ | refine stAK hs ?_ | refine msK hs ?_); clear hs; (try clear w); rintro w hs; try simp only [cls] at hs) | ((first | refine al_ok hs ?_ | refine bx_ok hs ?_ | refine bsvK hs ?_ | refine bs1_ok hs ?_ | refine bs0_ok hs ?_); clear hs; (try clear w); rintro _ w hs; try simp only [cls] at hs)))
      refine ⟨(i + 1, x), by rfl, by rfl, ⟨by dsimp only; omega, by dsimp only; omega, hxl, by dsimp only; omega, hxo, ?_⟩, by dsimp only; omega⟩
      exact hs1.sub (List.Sublist.append_left (List.sublist_append_left _ _) _)
    (repeat (first | (simp (disch := first | omega | assumption | exact Option.isSome_some | (simp only [adO_isSome]; assumption)) only [↓vcp, vcs, vct, if_true, if_false, Nat.reduceBEq, ↓reduceIte, Nat.reduceEqDiff, Nat.reduceAdd, Nat.reduceMul, Nat.reduceSub, Int.reduceToNat, reduceCtorEq, Nat.reduceLT, Nat.reduceLeDiff, Int.reduceSub, Int.reduceAdd, Int.reduceNeg, Sat.look hs, Sat.lookA hs, hs.old f0, cells4 hl1 hs]) | (refine khK he hs ?_; clear he; intro he) | ((first | refine stK hs ?_ | refine stFK hs ?_ | refine stAK hs ?_ | refine msK hs ?_); clear hs; (try clear w); rintro w hs; try simp only [cls] at hs) | ((first | refine al_ok hs ?_ | refine bx_ok hs ?_ | refine bsvK hs ?_ | refine bs1_ok hs ?_ | refine bs0_ok hs ?_); clear hs; (try clear w); rintro _ w hs; try simp only [cls] at hs) | (refine call_ok (by kernel_rfl) (num_calls _ _) ?_; rintro _ _ ⟨rfl, rfl⟩; rw [callK_ret]) | (refine call_still (by kernel_rfl) (num_calls _ _) ?_)))
    refine call_ok (by kernel_rfl) (q4 wb) ?_; rintro _ w2 ⟨ya, yc, rfl, hyc, hb⟩; rw [callK_ret]; replace hs := Sat.add hs hb; clear hb; (try clear w); rename World => w; try simp only [cls] at hs
    (repeat (first | (simp (disch := first | omega | assumption | exact Option.isSome_some | (simp only [adO_isSome]; assumption)) only [↓vcp, vcs, vct, if_true, if_false, Nat.reduceBEq, ↓reduceIte, Nat.reduceEqDiff, Nat.reduceAdd, Nat.reduceMul, Nat.reduceSub, Int.reduceToNat, reduceCtorEq, Nat.reduceLT, Nat.reduceLeDiff, Int.reduceSub, Int.reduceAdd, Int.reduceNeg, Sat.look hs, Sat.lookA hs, hs.old f0, cells4 hl1 hs]) | (refine khK he hs ?_; clear he; intro he) | ((first | refine stK hs ?_ | refine stFK hs ?_ | refine stAK hs ?_ | refine msK hs ?_); clear hs; (try clear w); rintro w hs; try simp only [cls] at hs) | ((first | refine al_ok hs ?_ | refine bx_ok hs ?_ | refine bsvK hs ?_ | refine bs1_ok hs ?_ | refine bs0_ok hs ?_); clear hs; (try clear w); rintro _ w hs; try simp only [cls] at hs) | (refine call_ok (by kernel_rfl) (num_calls _ _) ?_; rintro _ _ ⟨rfl, rfl⟩; rw [callK_ret]) | (refine call_still (by kernel_rfl) (num_calls _ _) ?_)))
    refine call_ok (by kernel_rfl) (Eq_calls w ya wa yc wc Bs Bs (hs.rd (a := ya)) (hwr.rd hs) (by omega)) ?_; rintro _ w2 ⟨rfl, hb⟩; rw [callK_ret]; replace hs := Sat.add hs (Below.sat hb); clear hb; (try clear w); rename World => w; try simp only [cls] at hs
    (repeat (first | (simp (disch := first | omega | assumption | exact Option.isSome_some | (simp only [adO_isSome]; assumption)) only [↓vcp, vcs, vct, if_true, if_false, Nat.reduceBEq, ↓reduceIte, Nat.reduceEqDiff, Nat.reduceAdd, Nat.reduceMul, Nat.reduceSub, Int.reduceToNat, reduceCtorEq, Nat.reduceLT, Nat.reduceLeDiff, Int.reduceSub, Int.reduceAdd, Int.reduceNeg, Sat.look hs, Sat.lookA hs, hs.old f0, cells4 hl1 hs]) | (refine khK he hs ?_; clear he; intro he) | ((first | refine stK hs ?_ | refine stFK hs ?_ | refine stAK hs ?_ | refine msK hs ?_); clear hs; (try clear w); rintro w hs; try simp only [cls] at hs) | ((first | refine al_ok hs ?_ | refine bx_ok hs ?_ | refine bsvK hs ?_ | refine bs1_ok hs ?_ | refine bs0_ok hs ?_); clear hs; (try clear w); rintro _ w hs; try simp only [cls] at hs) | (refine call_ok (by kernel_rfl) (num_calls _ _) ?_; rintro _ _ ⟨rfl, rfl⟩; rw [callK_ret]) | (refine call_still (by kernel_rfl) (num_calls _ _) ?_)))
    have hsA := hs1.add hs
    clear hs
    have hs : Sat (.at w0) (x.cks ++ ((beside bb tb pb args ⟨none, 0, [], none, 0, none, 0, true⟩ [] ++ x.es.flatMap both) ++ (.sl ya yc (Bs.map u8v) 5 1 :: [.sl wa wc (Bs.map u8v) 5 1]))) w := by
      refine hsA.perm ?_
      simp only [List.append_assoc]
      refine List.Perm.append_left _ (List.Perm.append_left _ (List.Perm.append_left _ ?_))
      exact List.Perm.swap ..
    clear hsA hs1 htb f0 hl1 hwr
    rw [← hxl]
    refine call_ok (by kernel_rfl) (Add_in _ w x _ _ ya yc Bs wa wc hs (Sat.roF hs) (by omega) (by omega)) ?_
    rintro _ w2 ⟨x2, b2, d2, pad2, rfl, hl2, he2, hb⟩
    rw [callK_ret]
    clear hs
    have hs := hb
    clear hb w
    rename World => w
    (repeat (first | (simp (disch := first | omega | assumption | exact Option.isSome_some | (simp only [adO_isSome]; assumption)) only [↓vcp, vcs, vct, if_true, if_false, Nat.reduceBEq, ↓reduceIte, Nat.reduceEqDiff, Nat.reduceAdd, Nat.reduceMul, Nat.reduceSub, Int.reduceToNat, reduceCtorEq, Nat.reduceLT, Nat.reduceLeDiff, Int.reduceSub, Int.reduceAdd, Int.reduceNeg, Sat.look hs, Sat.lookA hs]) | (refine khK he hs ?_; clear he; intro he) | ((first | refine stK hs ?_ | refine stFK hs ?_ | refine stAK hs ?_ | refine msK hs ?_); clear hs; (try clear w); rintro w hs; try simp only [cls] at hs) | ((first | refine al_ok hs ?_ | refine bx_ok hs ?_ | refine bsvK hs ?_ | refine bs1_ok hs ?_ | refine bs0_ok hs ?_); clear hs; (try clear w); rintro _ w hs; try simp only [cls] at hs)))
    refine ⟨(k + 1, x2), by rfl, by rfl, ⟨by dsimp only; omega, by dsimp only; rw [hl2], by dsimp only; rw [he2, List.length_append, List.length_singleton]; omega, ?_, hs⟩, by dsimp only; omega⟩
    intro e he
    dsimp only at he
    rw [he2] at he
    rcases List.mem_append.1 he with he | he
    · exact hxo e he
    · obtain rfl := List.mem_singleton.1 he
      dsimp only; omega
  · clear hs
    rintro e x w ⟨hxl, hxe, hxo, hs⟩
    (repeat (first | (simp (disch := first | omega | assumption | exact Option.isSome_some | (simp only [adO_isSome]; assumption)) only [↓vcp, vcs, vct, if_true, if_false, Nat.reduceBEq, ↓reduceIte, Nat.reduceEqDiff, Nat.reduceAdd, Nat.reduceMul, Nat.reduceSub, Int.reduceToNat, reduceCtorEq, Nat.reduceLT, Nat.reduceLeDiff, Int.reduceSub, Int.reduceAdd, Int.reduceNeg, Sat.look hs, Sat.lookA hs]) | (refine khK he hs ?_; clear he; intro he) | ((first | refine stK hs ?_ | refine stFK hs ?_ | refine stAK hs ?_ | refine msK hs ?_); clear hs; (try clear w); rintro w hs; try simp only [cls] at hs) | ((first | refine al_ok hs ?_ | refine bx_ok hs ?_ | refine bsvK hs ?_ | refine bs1_ok hs ?_ | refine bs0_ok hs ?_); clear hs; (try clear w); rintro _ w hs; try simp only [cls] at hs)))
    refine loop_join (σ := PlG × List UInt8) 4 [] (fun _ => []) [3, 4] (fun s w' => Sat (.at w0) (x.cks ++ (beside bb tb pb args s.1 s.2 ++ x.es.flatMap both)) w') ?_ ?_
    · refine loop_rule (σ := Nat × PlG × List UInt8) [12] (fun s => [.int .i64 s.1]) [1, 3, 4, 5] (fun s w' => s.1 ≤ B.length ∧ (s.2.1.new = true → s.2.1.xa = none ∧ s.2.1.xc = 0 ∧ s.2.1.outs = []) ∧ Sat (.at w0) (x.cks ++ (beside bb tb pb args s.2.1 s.2.2 ++ x.es.flatMap both)) w') (fun s _ => B.length - s.1) (0, ⟨none, 0, [], none, 0, none, 0, true⟩, []) (by kernel_rfl) rfl ⟨by omega, fun _ => ⟨rfl, rfl, rfl⟩, hs⟩ ?_
      clear hs
      rintro e ⟨i, g, ys⟩ wb ⟨hi, hg, hs1⟩
      dsimp only at hi hg hs1 ⊢
      have htb : Ro (.at wb) (some ⟨tb, 0, none⟩) args := memBk (pad := []) hs1 (List.mem_append_right _ (List.mem_append_left _ (List.mem_append_right _ (by rw [List.append_nil]; exact .head _))))
      rw [hargs] at htb
      have f2 : oldO (.at wb) (some ⟨tb, 2, none⟩) = some (.slice ba B.length bc) := htb 2 _ rfl
      have hs := Sat.start wb
      simp (disch := first | omega | assumption | exact Option.isSome_some | (simp only [adO_isSome]; assumption)) only [↓vcp, vcs, vct, if_true, if_false, Nat.reduceBEq, ↓reduceIte, Nat.reduceEqDiff, Nat.reduceAdd, Nat.reduceMul, Nat.reduceSub, Int.reduceToNat, reduceCtorEq, Nat.reduceLT, Nat.reduceLeDiff, Int.reduceSub, Int.reduceAdd, Int.reduceNeg, Sat.look hs, Sat.lookA hs, hs.old f2]
      by_cases hlt : i < B.length
      case neg =>
        (repeat (first | (simp (disch := first | omega | assumption | exact Option.isSome_some | (simp only [adO_isSome]; assumption)) only [↓vcp, vcs, vct, if_true, if_false, Nat.reduceBEq, ↓reduceIte, Nat.reduceEqDiff, Nat.reduceAdd, Nat.reduceMul, Nat.reduceSub, Int.reduceToNat, reduceCtorEq, Nat.reduceLT, Nat.reduceLeDiff, Int.reduceSub, Int.reduceAdd, Int.reduceNeg, Sat.look hs, Sat.lookA hs, hs.old f2]) | (refine khK he hs ?_; clear he; intro he) | ((first | refine stK hs ?_ | refine stFK hs ?_ | refine stAK hs ?_ | refine msK hs ?_); clear hs; (try clear w); rintro w hs; try simp only [cls] at hs) | ((first | refine al_ok hs ?_ | refine bx_ok hs ?_ | refine bsvK hs ?_ | refine bs1_ok hs ?_ | refine bs0_ok hs ?_); clear hs; (try clear w); rintro _ w hs; try simp only [cls] at hs)))
        exact ⟨(g, ys), by rfl, by rfl, hs1⟩
      by_cases h1000 : i < 1000
      case neg =>
        (repeat (first | (simp (disch := first | omega | assumption | exact Option.isSome_some | (simp only [adO_isSome]; assumption)) only [↓vcp, vcs, vct, if_true, if_false, Nat.reduceBEq, ↓reduceIte, Nat.reduceEqDiff, Nat.reduceAdd, Nat.reduceMul, Nat.reduceSub, Int.reduceToNat, reduceCtorEq, Nat.reduceLT, Nat.reduceLeDiff, Int.reduceSub, Int.reduceAdd, Int.reduceNeg, Sat.look hs, Sat.lookA hs, hs.old f2]) | (refine khK he hs ?_; clear he; intro he) | ((first | refine stK hs ?_ | refine stFK hs ?_ | refine stAK hs ?_ | refine msK hs ?_); clear hs; (try clear w); rintro w hs; try simp only [cls] at hs) | ((first | refine al_ok hs ?_ | refine bx_ok hs ?_ | refine bsvK hs ?_ | refine bs1_ok hs ?_ | refine bs0_ok hs ?_); clear hs; (try clear w); rintro _ w hs; try simp only [cls] at hs)))
        exact ⟨(g, ys), by rfl, by rfl, hs1⟩
      have hbs : ba.isSome = true := hB.isSome (by omega)
      obtain ⟨r, hr⟩ : ∃ r, B[i]? = some r := ⟨_, List.getElem?_eq_getElem hlt⟩
      obtain ⟨ra, rc, xs⟩ := r
      obtain ⟨hx1, hx2, hx3⟩ := hB.2 _ (List.mem_of_getElem? hr)
      have hrow : oldO (.at wb) (adO ba i) = some (.slice ra xs.length rc) := rowU (hBr.up0 hs1) hr
      dsimp only at hx1 hx2 hx3
      have hxr : Ro (.at wb) ra (xs.map u8v) := (Rd.ro hx1).up0 hs1
      (repeat (first | (simp (disch := first | omega | assumption | exact Option.isSome_some | (simp only [adO_isSome]; assumption)) only [↓vcp, vcs, vct, if_true, if_false, Nat.reduceBEq, ↓reduceIte, Nat.reduceEqDiff, Nat.reduceAdd, Nat.reduceMul, Nat.reduceSub, Int.reduceToNat, reduceCtorEq, Nat.reduceLT, Nat.reduceLeDiff, Int.reduceSub, Int.reduceAdd, Int.reduceNeg, Sat.look hs, Sat.lookA hs, hs.old f2, hs.old hrow]) | (refine khK he hs ?_; clear he; intro he) | ((first | refine stK hs ?_ | refine stFK hs ?_ | refine stAK hs ?_ | refine msK hs ?_); clear hs; (try clear w); rintro w hs; try simp only [cls] at hs) | ((first | refine al_ok hs ?_ | refine bx_ok hs ?_ | refine bsvK hs ?_ | refine bs1_ok hs ?_ | refine bs0_ok hs ?_); clear hs; (try clear w); rintro _ w hs; try simp only [cls] at hs)))
      refine call_ok (by kernel_rfl) (Other_calls wb ra rc xs hxr hx3) ?_; rintro _ w2 ⟨oa, oc, rfl, hoc, hb⟩; rw [callK_ret]; replace hs := Sat.add hs hb; clear hb; (try clear w); rename World => w; try simp only [cls] at hs
      (repeat (first | (simp (disch := first | omega | assumption | exact Option.isSome_some | (simp only [adO_isSome]; assumption)) only [↓vcp, vcs, vct, if_true, if_false, Nat.reduceBEq, ↓reduceIte, Nat.reduceEqDiff, Nat.reduceAdd, Nat.reduceMul, Nat.reduceSub, Int.reduceToNat, reduceCtorEq, Nat.reduceLT, Nat.reduceLeDiff, Int.reduceSub, Int.reduceAdd, Int.reduceNeg, Sat.look hs, Sat.lookA hs, hs.old f2, hs.old hrow]) | (refine khK he hs ?_; clear he; intro he) | ((first | refine stK hs ?_ | refine stFK hs ?_ | refine stAK hs ?_ | refine msK hs ?_); clear hs; (try clear w); rintro w hs; try simp only [cls] at hs) | ((first | refine al_ok hs ?_ | refine bx_ok hs ?_ | refine bsvK hs ?_ | refine bs1_ok hs ?_ | refine bs0_ok hs ?_); clear hs; (try clear w); rintro _ w hs; try simp only [cls] at hs)))
      have hsA := hs1.add hs
      clear hs
      have hs : Sat (.at w0) (g.cks pb ys ++ (x.cks ++ ((((noBk bb).cks ++ [.bk tb args 28]) ++ x.es.flatMap both) ++ [.sl oa oc ((other xs).map u8v) 5 1]))) w := by
        refine hsA.perm ?_
        have := permAB x.cks ((noBk bb).cks ++ [.bk tb args 28]) (g.cks pb ys) (x.es.flatMap both ++ [.sl oa oc ((other xs).map u8v) 5 1])
        unfold beside
        simp only [List.append_assoc, List.cons_append, List.nil_append] at this ⊢
        exact this
      clear hsA
      refine call_ok (by kernel_rfl) (Go.Proofs.YtokoohdpakhphaaGreatDoor.Loan.Bytes_calls _ w pb g ys ra rc xs hs.front hg ((Rd.ro hx1).upF hs) hx3) ?_
      rintro _ w2 ⟨g', H', rfl, hg1, hg2, hb⟩
      rw [callK_ret]
      replace hs := hs.frame (List.Perm.refl _) hb
      replace hs := hs.sub (List.Sublist.append_right (List.sublist_append_left _ H') _)
      clear hb hg hs1 htb f2 hrow hxr w
      rename World => w
      have hol := other_len xs
      (repeat (first | (simp (disch := first | omega | assumption | exact Option.isSome_some | (simp only [adO_isSome]; assumption)) only [↓vcp, vcs, vct, if_true, if_false, Nat.reduceBEq, ↓reduceIte, Nat.reduceEqDiff, Nat.reduceAdd, Nat.reduceMul, Nat.reduceSub, Int.reduceToNat, reduceCtorEq, Nat.reduceLT, Nat.reduceLeDiff, Int.reduceSub, Int.reduceAdd, Int.reduceNeg, Sat.look hs, Sat.lookA hs]) | (refine khK he hs ?_; clear he; intro he) | ((first | refine stK hs ?_ | refine stFK hs ?_ | refine stAK hs ?_ | refine msK hs ?_); clear hs; (try clear w); rintro w hs; try simp only [cls] at hs) | ((first | refine al_ok hs ?_ | refine bx_ok hs ?_ | refine bsvK hs ?_ | refine bs1_ok hs ?_ | refine bs0_ok hs ?_); clear hs; (try clear w); rintro _ w hs; try simp only [cls] at hs)))
      refine loop_rule (σ := Nat) [15] (fun s => [.int .i64 s]) [1, 3, 4, 5, 12, 13, 14] (fun s w' => s ≤ 4 ∧ Sat (.at w0) (g'.cks pb (if s ≤ 2 then xs else other xs) ++ (x.cks ++ ((((noBk bb).cks ++ [Ck.bk tb args 28]) ++ x.es.flatMap both) ++ [Ck.sl oa oc ((other xs).map u8v) 5 1]))) w') (fun s _ => 4 - s) 0 (by kernel_rfl) rfl ⟨by omega, hs⟩ ?_
      clear hs
      rintro e k wb ⟨hk, hs1⟩
      have htb : Ro (.at wb) (some ⟨tb, 0, none⟩) args := memBk (pad := []) hs1 (List.mem_append_right _ (List.mem_append_right _ (List.mem_append_left _ (List.mem_append_left _ (List.mem_append_right _ (by rw [List.append_nil]; exact .head _))))))
      rw [hargs] at htb
      have f2 : oldO (.at wb) (some ⟨tb, 2, none⟩) = some (.slice ba B.length bc) := htb 2 _ rfl
      have hrow : oldO (.at wb) (adO ba i) = some (.slice ra xs.length rc) := rowU (hBr.up0 hs1) hr
      have hxr : Ro (.at wb) ra (xs.map u8v) := (Rd.ro hx1).up0 hs1
      have hs := Sat.start wb
      simp (disch := first | omega | assumption | exact Option.isSome_some | (simp only [adO_isSome]; assumption)) only [↓vcp, vcs, vct, if_true, if_false, Nat.reduceBEq, ↓reduceIte, Nat.reduceEqDiff, Nat.reduceAdd, Nat.reduceMul, Nat.reduceSub, Int.reduceToNat, reduceCtorEq, Nat.reduceLT, Nat.reduceLeDiff, Int.reduceSub, Int.reduceAdd, Int.reduceNeg, Sat.look hs, Sat.lookA hs]
      by_cases hk4 : k < 4
      case neg =>
        have hcur : (if k ≤ 2 then xs else other xs) = other xs := if_neg (by omega)
        rw [hcur] at hs1
        (repeat (first | (simp (disch := first | omega | assumption | exact Option.isSome_some | (simp only [adO_isSome]; assumption)) only [↓vcp, vcs, vct, if_true, if_false, Nat.reduceBEq, ↓reduceIte, Nat.reduceEqDiff, Nat.reduceAdd, Nat.reduceMul, Nat.reduceSub, Int.reduceToNat, reduceCtorEq, Nat.reduceLT, Nat.reduceLeDiff, Int.reduceSub, Int.reduceAdd, Int.reduceNeg, Sat.look hs, Sat.lookA hs, hs.old f2, hs.old hrow]) | (refine khK he hs ?_; clear he; intro he) | ((first | refine stK hs ?_ | refine stFK hs ?_ | refine stAK hs ?_ | refine msK hs ?_); clear hs; (try clear w); rintro w hs; try simp only [cls] at hs) | ((first | refine al_ok hs ?_ | refine bx_ok hs ?_ | refine bsvK hs ?_ | refine bs1_ok hs ?_ | refine bs0_ok hs ?_); clear hs; (try clear w); rintro _ w hs; try simp only [cls] at hs)))
        refine call_ok (by kernel_rfl) (Lend_calls wb ra rc xs (hxr.rd hs) hx3) ?_; rintro e w2 ⟨la, lc, rfl, hown, hb⟩; rw [callK_ret]
        have hlc70 : xs.length + 70 ≤ lc := by rcases hown.form with ⟨_, h, _⟩ | ⟨_, _, _, _, _, h, _⟩ <;> omega
        replace hs := hs.add (Own.sat hown hb)
        try simp only [cls] at hs
        clear hown hb
        rename World => w
        (repeat (first | (simp (disch := first | omega | assumption | exact Option.isSome_some | (simp only [adO_isSome]; assumption)) only [↓vcp, vcs, vct, if_true, if_false, Nat.reduceBEq, ↓reduceIte, Nat.reduceEqDiff, Nat.reduceAdd, Nat.reduceMul, Nat.reduceSub, Int.reduceToNat, reduceCtorEq, Nat.reduceLT, Nat.reduceLeDiff, Int.reduceSub, Int.reduceAdd, Int.reduceNeg, Sat.look hs, Sat.lookA hs, hs.old f2, hs.old hrow]) | (refine khK he hs ?_; clear he; intro he) | ((first | refine stK hs ?_ | refine stFK hs ?_ | refine stAK hs ?_ | refine msK hs ?_); clear hs; (try clear w); rintro w hs; try simp only [cls] at hs) | ((first | refine al_ok hs ?_ | refine bx_ok hs ?_ | refine bsvK hs ?_ | refine bs1_ok hs ?_ | refine bs0_ok hs ?_); clear hs; (try clear w); rintro _ w hs; try simp only [cls] at hs)))
        have hlr : Ro (.at w) la (xs.map u8v) := by
          have h1 : Ro (.at w) la ((xs ++ marks 70).map u8v) := hs.ro
          have h2 := h1.take xs.length
          rwa [← List.map_take, List.take_left] at h2
        refine call_ok (by kernel_rfl) (First_calls w la lc xs hlr (by omega) (by omega)) ?_; rintro _ w2 ⟨rfl, hb⟩; rw [callK_ret]; replace hs := Sat.add hs (Below.sat hb); clear hb; (try clear w); rename World => w; try simp only [cls] at hs
        clear hlr
        (repeat (first | (simp (disch := first | omega | assumption | exact Option.isSome_some | (simp only [adO_isSome]; assumption)) only [↓vcp, vcs, vct, if_true, if_false, Nat.reduceBEq, ↓reduceIte, Nat.reduceEqDiff, Nat.reduceAdd, Nat.reduceMul, Nat.reduceSub, Int.reduceToNat, reduceCtorEq, Nat.reduceLT, Nat.reduceLeDiff, Int.reduceSub, Int.reduceAdd, Int.reduceNeg, Sat.look hs, Sat.lookA hs, hs.old f2, hs.old hrow]) | (refine khK he hs ?_; clear he; intro he) | ((first | refine stK hs ?_ | refine stFK hs ?_ | refine stAK hs ?_ | refine msK hs ?_); clear hs; (try clear w); rintro w hs; try simp only [cls] at hs) | ((first | refine al_ok hs ?_ | refine bx_ok hs ?_ | refine bsvK hs ?_ | refine bs1_ok hs ?_ | refine bs0_ok hs ?_); clear hs; (try clear w); rintro _ w hs; try simp only [cls] at hs)))
        have hlr : Ro (.at w) la (xs.map u8v) := by
          have h1 : Ro (.at w) la ((xs ++ marks 70).map u8v) := hs.ro
          have h2 := h1.take xs.length
          rwa [← List.map_take, List.take_left] at h2
        refine call_ok (by kernel_rfl) (Parse_calls w la lc xs hlr (by omega) (by omega)) ?_; rintro _ w2 ⟨rfl, hb⟩; rw [callK_ret]; replace hs := Sat.add hs (Below.sat hb); clear hb; (try clear w); rename World => w; try simp only [cls] at hs
        clear hlr
        (repeat (first | (simp (disch := first | omega | assumption | exact Option.isSome_some | (simp only [adO_isSome]; assumption)) only [↓vcp, vcs, vct, if_true, if_false, Nat.reduceBEq, ↓reduceIte, Nat.reduceEqDiff, Nat.reduceAdd, Nat.reduceMul, Nat.reduceSub, Int.reduceToNat, reduceCtorEq, Nat.reduceLT, Nat.reduceLeDiff, Int.reduceSub, Int.reduceAdd, Int.reduceNeg, Sat.look hs, Sat.lookA hs, hs.old f2, hs.old hrow]) | (refine khK he hs ?_; clear he; intro he) | ((first | refine stK hs ?_ | refine stFK hs ?_ | refine stAK hs ?_ | refine msK hs ?_); clear hs; (try clear w); rintro w hs; try simp only [cls] at hs) | ((first | refine al_ok hs ?_ | refine bx_ok hs ?_ | refine bsvK hs ?_ | refine bs1_ok hs ?_ | refine bs0_ok hs ?_); clear hs; (try clear w); rintro _ w hs; try simp only [cls] at hs)))
        refine call_ok (by kernel_rfl) (Intact_calls w la ra lc rc xs (hs.rd (a := la)) hlc70 (hxr.rd hs) hx3) ?_; rintro _ w2 ⟨rfl, hb⟩; rw [callK_ret]; replace hs := Sat.add hs (Below.sat hb); clear hb; (try clear w); rename World => w; try simp only [cls] at hs
        (repeat (first | (simp (disch := first | omega | assumption | exact Option.isSome_some | (simp only [adO_isSome]; assumption)) only [↓vcp, vcs, vct, if_true, if_false, Nat.reduceBEq, ↓reduceIte, Nat.reduceEqDiff, Nat.reduceAdd, Nat.reduceMul, Nat.reduceSub, Int.reduceToNat, reduceCtorEq, Nat.reduceLT, Nat.reduceLeDiff, Int.reduceSub, Int.reduceAdd, Int.reduceNeg, Sat.look hs, Sat.lookA hs, hs.old f2, hs.old hrow]) | (refine khK he hs ?_; clear he; intro he) | ((first | refine stK hs ?_ | refine stFK hs ?_ | refine stAK hs ?_ | refine msK hs ?_); clear hs; (try clear w); rintro w hs; try simp only [cls] at hs) | ((first | refine al_ok hs ?_ | refine bx_ok hs ?_ | refine bsvK hs ?_ | refine bs1_ok hs ?_ | refine bs0_ok hs ?_); clear hs; (try clear w); rintro _ w hs; try simp only [cls] at hs)))
        have hsB := stayU hs1 hs
        refine ⟨(i + 1, g', other xs), by rfl, by rfl, ⟨by dsimp only; omega, (fun h => by rw [hg1] at h; cases h), ?_⟩, by dsimp only; omega⟩
        replace hsB := hsB.sub (List.Sublist.append_left (List.Sublist.append_left (List.sublist_append_left _ _) _) _)
        refine hsB.perm ?_
        have := (permAB x.cks ((noBk bb).cks ++ [Ck.bk tb args 28]) (g'.cks pb (other xs)) (x.es.flatMap both)).symm
        unfold beside
        simp only [List.append_assoc, List.cons_append, List.nil_append] at this ⊢
        exact this
      (repeat (first | (simp (disch := first | omega | assumption | exact Option.isSome_some | (simp only [adO_isSome]; assumption)) only [↓vcp, vcs, vct, if_true, if_false, Nat.reduceBEq, ↓reduceIte, Nat.reduceEqDiff, Nat.reduceAdd, Nat.reduceMul, Nat.reduceSub, Int.reduceToNat, reduceCtorEq, Nat.reduceLT, Nat.reduceLeDiff, Int.reduceSub, Int.reduceAdd, Int.reduceNeg, Sat.look hs, Sat.lookA hs, hs.old f2, hs.old hrow]) | (refine khK he hs ?_; clear he; intro he) | ((first | refine stK hs ?_ | refine stFK hs ?_ | refine stAK hs ?_ | refine msK hs ?_); clear hs; (try clear w); rintro w hs; try simp only [cls] at hs) | ((first | refine al_ok hs ?_ | refine bx_ok hs ?_ | refine bsvK hs ?_ | refine bs1_ok hs ?_ | refine bs0_ok hs ?_); clear hs; (try clear w); rintro _ w hs; try simp only [cls] at hs)))
      refine cond_join (σ := Unit) [] (fun _ => []) [1, 3, 4, 5, 12, 13, 14, 15, 16] (fun _ w' => Sat (.at w0) (g'.cks pb (if k < 2 then xs else other xs) ++ (x.cks ++ ((((noBk bb).cks ++ [Ck.bk tb args 28]) ++ x.es.flatMap both) ++ [Ck.sl oa oc ((other xs).map u8v) 5 1]))) w') ?_ ?_
      · by_cases hk2 : (k : Int) = 2
        · have hcur : (if k ≤ 2 then xs else other xs) = xs := if_pos (by omega)
          have hcur2 : (if k < 2 then xs else other xs) = other xs := if_neg (by omega)
          rw [hcur] at hs1
          rw [hcur2]
          clear hs
          have hs := hs1
          have hro2 : Ro ⟨wb, (Ck.sl g'.xa g'.xc (xs.map u8v) 5 1).foot⟩ oa ((other xs).map u8v) := hs.roOther (i := 3) rfl (by show 3 ≠ 4 + _; omega)
          have hin := Into_calls _ wb g'.xa oa g'.xc oc xs (other xs) (hs.one 3 rfl) hro2 hol.symm (by omega)
          rw [hol] at hin
          (repeat (first | (simp (disch := first | omega | assumption | exact Option.isSome_some | (simp only [adO_isSome]; assumption)) only [↓vcp, vcs, vct, if_true, if_false, Nat.reduceBEq, ↓reduceIte, Nat.reduceEqDiff, Nat.reduceAdd, Nat.reduceMul, Nat.reduceSub, Int.reduceToNat, reduceCtorEq, Nat.reduceLT, Nat.reduceLeDiff, Int.reduceSub, Int.reduceAdd, Int.reduceNeg, Sat.look hs, Sat.lookA hs]) | (refine khK he hs ?_; clear he; intro he) | ((first | refine stK hs ?_ | refine stFK hs ?_ | refine stAK hs ?_ | refine msK hs ?_); clear hs; (try clear w); rintro w hs; try simp only [cls] at hs) | ((first | refine al_ok hs ?_ | refine bx_ok hs ?_ | refine bsvK hs ?_ | refine bs1_ok hs ?_ | refine bs0_ok hs ?_); clear hs; (try clear w); rintro _ w hs; try simp only [cls] at hs)))
          refine call_ok (by kernel_rfl) hin ?_
          rintro _ w2 ⟨rfl, hb⟩
          rw [callK_ret]
          replace hs := hs.upd1 3 rfl hb
          have hset : ∀ R : List Ck, (g'.cks pb xs ++ R).set 3 (.sl g'.xa g'.xc ((other xs).map u8v) 5 1) = g'.cks pb (other xs) ++ R := fun R => by
            unfold PlG.cks PlG.ins
            rw [hol, hg1]
            rfl
          rw [hset] at hs
          (repeat (first | (simp (disch := first | omega | assumption | exact Option.isSome_some | (simp only [adO_isSome]; assumption)) only [↓vcp, vcs, vct, if_true, if_false, Nat.reduceBEq, ↓reduceIte, Nat.reduceEqDiff, Nat.reduceAdd, Nat.reduceMul, Nat.reduceSub, Int.reduceToNat, reduceCtorEq, Nat.reduceLT, Nat.reduceLeDiff, Int.reduceSub, Int.reduceAdd, Int.reduceNeg, Sat.look hs, Sat.lookA hs]) | (refine khK he hs ?_; clear he; intro he) | ((first | refine stK hs ?_ | refine stFK hs ?_ | refine stAK hs ?_ | refine msK hs ?_); clear hs; (try clear w); rintro w hs; try simp only [cls] at hs) | ((first | refine al_ok hs ?_ | refine bx_ok hs ?_ | refine bsvK hs ?_ | refine bs1_ok hs ?_ | refine bs0_ok hs ?_); clear hs; (try clear w); rintro _ w hs; try simp only [cls] at hs)))
          exact ⟨(), by rfl, by rfl, hs⟩
        · have hcur : (if k ≤ 2 then xs else other xs) = (if k < 2 then xs else other xs) := by
            by_cases h : k < 2
            · rw [if_pos h, if_pos (by omega)]
            · rw [if_neg h, if_neg (by omega)]
          rw [hcur] at hs1
          (repeat (first | (simp (disch := first | omega | assumption | exact Option.isSome_some | (simp only [adO_isSome]; assumption)) only [↓vcp, vcs, vct, if_true, if_false, Nat.reduceBEq, ↓reduceIte, Nat.reduceEqDiff, Nat.reduceAdd, Nat.reduceMul, Nat.reduceSub, Int.reduceToNat, reduceCtorEq, Nat.reduceLT, Nat.reduceLeDiff, Int.reduceSub, Int.reduceAdd, Int.reduceNeg, Sat.look hs, Sat.lookA hs]) | (refine khK he hs ?_; clear he; intro he) | ((first | refine stK hs ?_ | refine stFK hs ?_ | refine stAK hs ?_ | refine msK hs ?_); clear hs; (try clear w); rintro w hs; try simp only [cls] at hs) | ((first | refine al_ok hs ?_ | refine bx_ok hs ?_ | refine bsvK hs ?_ | refine bs1_ok hs ?_ | refine bs0_ok hs ?_); clear hs; (try clear w); rintro _ w hs; try simp only [cls] at hs)))
          exact ⟨(), by rfl, by rfl, hs1⟩
      clear hs hs1 htb f2 hrow hxr
      rintro e _ w hs
      (repeat (first | (simp (disch := first | omega | assumption | exact Option.isSome_some | (simp only [adO_isSome]; assumption)) only [↓vcp, vcs, vct, if_true, if_false, Nat.reduceBEq, ↓reduceIte, Nat.reduceEqDiff, Nat.reduceAdd, Nat.reduceMul, Nat.reduceSub, Int.reduceToNat, reduceCtorEq, Nat.reduceLT, Nat.reduceLeDiff, Int.reduceSub, Int.reduceAdd, Int.reduceNeg, Sat.look hs, Sat.lookA hs]) | (refine khK he hs ?_; clear he; intro he) | ((first | refine stK hs ?_ | refine stFK hs ?_ | refine stAK hs ?_ | refine msK hs ?_); clear hs; (try clear w); rintro w hs; try simp only [cls] at hs) | ((first | refine al_ok hs ?_ | refine bx_ok hs ?_ | refine bsvK hs ?_ | refine bs1_ok hs ?_ | refine bs0_ok hs ?_); clear hs; (try clear w); rintro _ w hs; try simp only [cls] at hs)))
      have hzl : (if k < 2 then xs else other xs).length = xs.length := by
        by_cases h : k < 2
        · rw [if_pos h]
        · rw [if_neg h]; exact hol
      refine cond_join (σ := Option Addr × Nat) [16] (fun s => [.slice s.1 xs.length s.2]) [1, 3, 4, 5, 12, 13, 14, 15] (fun s w' => Ro (.at w') s.1 ((if k < 2 then xs else other xs).map u8v) ∧ xs.length ≤ s.2 ∧ Sat (.at w0) (g'.cks pb (if k < 2 then xs else other xs) ++ (x.cks ++ ((((noBk bb).cks ++ [Ck.bk tb args 28]) ++ x.es.flatMap both) ++ [Ck.sl oa oc ((other xs).map u8v) 5 1]))) w') ?_ ?_
      · by_cases hk2 : k < 2
        · have hz : (if k < 2 then xs else other xs) = xs := if_pos hk2
          rw [hz] at hs ⊢
          (repeat (first | (simp (disch := first | omega | assumption | exact Option.isSome_some | (simp only [adO_isSome]; assumption)) only [↓vcp, vcs, vct, if_true, if_false, Nat.reduceBEq, ↓reduceIte, Nat.reduceEqDiff, Nat.reduceAdd, Nat.reduceMul, Nat.reduceSub, Int.reduceToNat, reduceCtorEq, Nat.reduceLT, Nat.reduceLeDiff, Int.reduceSub, Int.reduceAdd, Int.reduceNeg, Sat.look hs, Sat.lookA hs]) | (refine khK he hs ?_; clear he; intro he) | ((first | refine stK hs ?_ | refine stFK hs ?_ | refine stAK hs ?_ | refine msK hs ?_); clear hs; (try clear w); rintro w hs; try simp only [cls] at hs) | ((first | refine al_ok hs ?_ | refine bx_ok hs ?_ | refine bsvK hs ?_ | refine bs1_ok hs ?_ | refine bs0_ok hs ?_); clear hs; (try clear w); rintro _ w hs; try simp only [cls] at hs)))
          exact ⟨(ra, rc), by rfl, by rfl, (Rd.ro hx1).up0 hs, hx2, hs⟩
        · have hz : (if k < 2 then xs else other xs) = other xs := if_neg hk2
          rw [hz] at hs ⊢
          have hor : Ro (.at w) oa ((other xs).map u8v) := memCk (cp := oc) (el := 5) (sz := 1) hs (List.mem_append_right _ (List.mem_append_right _ (List.mem_append_right _ (.head _))))
          (repeat (first | (simp (disch := first | omega | assumption | exact Option.isSome_some | (simp only [adO_isSome]; assumption)) only [↓vcp, vcs, vct, if_true, if_false, Nat.reduceBEq, ↓reduceIte, Nat.reduceEqDiff, Nat.reduceAdd, Nat.reduceMul, Nat.reduceSub, Int.reduceToNat, reduceCtorEq, Nat.reduceLT, Nat.reduceLeDiff, Int.reduceSub, Int.reduceAdd, Int.reduceNeg, Sat.look hs, Sat.lookA hs]) | (refine khK he hs ?_; clear he; intro he) | ((first | refine stK hs ?_ | refine stFK hs ?_ | refine stAK hs ?_ | refine msK hs ?_); clear hs; (try clear w); rintro w hs; try simp only [cls] at hs) | ((first | refine al_ok hs ?_ | refine bx_ok hs ?_ | refine bsvK hs ?_ | refine bs1_ok hs ?_ | refine bs0_ok hs ?_); clear hs; (try clear w); rintro _ w hs; try simp only [cls] at hs)))
          exact ⟨(oa, oc), by rfl, by rfl, hor, by dsimp only; omega, hs⟩
      clear hs
      clear w
      rintro e ⟨na, nc⟩ wb ⟨hnr, hnc, hs1⟩
      dsimp only at hnr hnc hs1 ⊢
      have hnext : (if k + 1 ≤ 2 then xs else other xs) = (if k < 2 then xs else other xs) := by
        by_cases h : k < 2
        · rw [if_pos h, if_pos (by omega)]
        · rw [if_neg h, if_neg (by omega)]
      generalize (if k < 2 then xs else other xs) = zs at *
      have hs := Sat.start wb
      have hzr : Ro (.at wb) g'.xa (zs.map u8v) := memCk (cp := g'.xc) (el := 5) (sz := 1) hs1 (List.mem_append_left _ (show _ ∈ g'.cks pb zs from .tail _ (.tail _ (.tail _ (.head _)))))
      have q1 := fun w h => First_calls w g'.xa g'.xc zs h (by omega) (by omega)
      have q2 := fun w h => RFirst_calls w na nc zs h (by omega) (by omega)
      have q3 := fun w h => Parse_calls w g'.xa g'.xc zs h (by omega) (by omega)
      have q4 := fun w h => RParse_calls w na nc zs h (by omega) (by omega)
      rw [hzl] at q1 q2 q3 q4
      generalize lfirst zs = F at *
      generalize lparse zs = P at *
      obtain ⟨⟨lv, lcd, lh, ld⟩, fn, fe⟩ := F
      obtain ⟨⟨pv, pcd, ph, pd⟩, pe⟩ := P
      unfold Lk.fs at q1 q2 q3 q4
      dsimp only at q1 q2 q3 q4
      (repeat (first | (simp (disch := first | omega | assumption | exact Option.isSome_some | (simp only [adO_isSome]; assumption)) only [↓vcp, vcs, vct, if_true, if_false, Nat.reduceBEq, ↓reduceIte, Nat.reduceEqDiff, Nat.reduceAdd, Nat.reduceMul, Nat.reduceSub, Int.reduceToNat, reduceCtorEq, Nat.reduceLT, Nat.reduceLeDiff, Int.reduceSub, Int.reduceAdd, Int.reduceNeg, Sat.look hs, Sat.lookA hs]) | (refine khK he hs ?_; clear he; intro he) | ((first | refine stK hs ?_ | refine stFK hs ?_ | refine stAK hs ?_ | refine msK hs ?_); clear hs; (try clear w); rintro w hs; try simp only [cls] at hs) | ((first | refine al_ok hs ?_ | refine bx_ok hs ?_ | refine bsvK hs ?_ | refine bs1_ok hs ?_ | refine bs0_ok hs ?_); clear hs; (try clear w); rintro _ w hs; try simp only [cls] at hs)))
      refine call_ok (by kernel_rfl) (q1 _ (hzr.up0 hs)) ?_; rintro _ w2 ⟨rfl, hb⟩; rw [callK_ret]; replace hs := Sat.add hs (Below.sat hb); clear hb; (try clear w); rename World => w; try simp only [cls] at hs
      (repeat (first | (simp (disch := first | omega | assumption | exact Option.isSome_some | (simp only [adO_isSome]; assumption)) only [↓vcp, vcs, vct, if_true, if_false, Nat.reduceBEq, ↓reduceIte, Nat.reduceEqDiff, Nat.reduceAdd, Nat.reduceMul, Nat.reduceSub, Int.reduceToNat, reduceCtorEq, Nat.reduceLT, Nat.reduceLeDiff, Int.reduceSub, Int.reduceAdd, Int.reduceNeg, Sat.look hs, Sat.lookA hs]) | (refine khK he hs ?_; clear he; intro he) | ((first | refine stK hs ?_ | refine stFK hs ?_ | refine stAK hs ?_ | refine msK hs ?_); clear hs; (try clear w); rintro w hs; try simp only [cls] at hs) | ((first | refine al_ok hs ?_ | refine bx_ok hs ?_ | refine bsvK hs ?_ | refine bs1_ok hs ?_ | refine bs0_ok hs ?_); clear hs; (try clear w); rintro _ w hs; try simp only [cls] at hs)))
      refine call_ok (by kernel_rfl) (q2 _ (hnr.up0 hs)) ?_; rintro _ w2 ⟨rfl, hb⟩; rw [callK_ret]; replace hs := Sat.add hs (Below.sat hb); clear hb; (try clear w); rename World => w; try simp only [cls] at hs
      (repeat (first | (simp (disch := first | omega | assumption | exact Option.isSome_some | (simp only [adO_isSome]; assumption)) only [↓vcp, vcs, vct, if_true, if_false, Nat.reduceBEq, ↓reduceIte, Nat.reduceEqDiff, Nat.reduceAdd, Nat.reduceMul, Nat.reduceSub, Int.reduceToNat, reduceCtorEq, Nat.reduceLT, Nat.reduceLeDiff, Int.reduceSub, Int.reduceAdd, Int.reduceNeg, Sat.look hs, Sat.lookA hs]) | (refine khK he hs ?_; clear he; intro he) | ((first | refine stK hs ?_ | refine stFK hs ?_ | refine stAK hs ?_ | refine msK hs ?_); clear hs; (try clear w); rintro w hs; try simp only [cls] at hs) | ((first | refine al_ok hs ?_ | refine bx_ok hs ?_ | refine bsvK hs ?_ | refine bs1_ok hs ?_ | refine bs0_ok hs ?_); clear hs; (try clear w); rintro _ w hs; try simp only [cls] at hs)))
      refine call_ok (by kernel_rfl) (q3 _ (hzr.up0 hs)) ?_; rintro _ w2 ⟨rfl, hb⟩; rw [callK_ret]; replace hs := Sat.add hs (Below.sat hb); clear hb; (try clear w); rename World => w; try simp only [cls] at hs
      (repeat (first | (simp (disch := first | omega | assumption | exact Option.isSome_some | (simp only [adO_isSome]; assumption)) only [↓vcp, vcs, vct, if_true, if_false, Nat.reduceBEq, ↓reduceIte, Nat.reduceEqDiff, Nat.reduceAdd, Nat.reduceMul, Nat.reduceSub, Int.reduceToNat, reduceCtorEq, Nat.reduceLT, Nat.reduceLeDiff, Int.reduceSub, Int.reduceAdd, Int.reduceNeg, Sat.look hs, Sat.lookA hs]) | (refine khK he hs ?_; clear he; intro he) | ((first | refine stK hs ?_ | refine stFK hs ?_ | refine stAK hs ?_ | refine msK hs ?_); clear hs; (try clear w); rintro w hs; try simp only [cls] at hs) | ((first | refine al_ok hs ?_ | refine bx_ok hs ?_ | refine bsvK hs ?_ | refine bs1_ok hs ?_ | refine bs0_ok hs ?_); clear hs; (try clear w); rintro _ w hs; try simp only [cls] at hs)))
      refine call_ok (by kernel_rfl) (q4 _ (hnr.up0 hs)) ?_; rintro _ w2 ⟨rfl, hb⟩; rw [callK_ret]; replace hs := Sat.add hs (Below.sat hb); clear hb; (try clear w); rename World => w; try simp only [cls] at hs
      (repeat (first | (simp (disch := first | omega | assumption | exact Option.isSome_some | (simp only [adO_isSome]; assumption)) only [↓vcp, vcs, vct, if_true, if_false, Nat.reduceBEq, ↓reduceIte, Nat.reduceEqDiff, Nat.reduceAdd, Nat.reduceMul, Nat.reduceSub, Int.reduceToNat, reduceCtorEq, Nat.reduceLT, Nat.reduceLeDiff, Int.reduceSub, Int.reduceAdd, Int.reduceNeg, Sat.look hs, Sat.lookA hs]) | (refine khK he hs ?_; clear he; intro he) | ((first | refine stK hs ?_ | refine stFK hs ?_ | refine stAK hs ?_ | refine msK hs ?_); clear hs; (try clear w); rintro w hs; try simp only [cls] at hs) | ((first | refine al_ok hs ?_ | refine bx_ok hs ?_ | refine bsvK hs ?_ | refine bs1_ok hs ?_ | refine bs0_ok hs ?_); clear hs; (try clear w); rintro _ w hs; try simp only [cls] at hs) | (refine call_ok (by kernel_rfl) (num_calls _ _) ?_; rintro _ _ ⟨rfl, rfl⟩; rw [callK_ret]) | (refine call_still (by kernel_rfl) (num_calls _ _) ?_)))
      have heq := Eq_calls w g'.xa na g'.xc nc zs zs (hzr.rd hs) (hnr.rd hs) (by omega)
      rw [hzl, decide_eq_true rfl] at heq
      refine call_ok (by kernel_rfl) (heq) ?_; rintro _ w2 ⟨rfl, hb⟩; rw [callK_ret]; replace hs := Sat.add hs (Below.sat hb); clear hb; (try clear w); rename World => w; try simp only [cls] at hs
      clear heq
      (repeat (first | (simp (disch := first | omega | assumption | exact Option.isSome_some | (simp only [adO_isSome]; assumption)) only [↓vcp, vcs, vct, if_true, if_false, Nat.reduceBEq, ↓reduceIte, Nat.reduceEqDiff, Nat.reduceAdd, Nat.reduceMul, Nat.reduceSub, Int.reduceToNat, reduceCtorEq, Nat.reduceLT, Nat.reduceLeDiff, Int.reduceSub, Int.reduceAdd, Int.reduceNeg, Sat.look hs, Sat.lookA hs]) | (refine khK he hs ?_; clear he; intro he) | ((first | refine stK hs ?_ | refine stFK hs ?_ | refine stAK hs ?_ | refine msK hs ?_); clear hs; (try clear w); rintro w hs; try simp only [cls] at hs) | ((first | refine al_ok hs ?_ | refine bx_ok hs ?_ | refine bsvK hs ?_ | refine bs1_ok hs ?_ | refine bs0_ok hs ?_); clear hs; (try clear w); rintro _ w hs; try simp only [cls] at hs) | (refine call_ok (by kernel_rfl) (num_calls _ _) ?_; rintro _ _ ⟨rfl, rfl⟩; rw [callK_ret]) | (refine call_still (by kernel_rfl) (num_calls _ _) ?_)))
      refine ⟨k + 1, by rfl, by rfl, ⟨by omega, ?_⟩, by dsimp only; omega⟩
      rw [hnext]
      exact stayU hs1 hs
    · clear hs
      rintro e ⟨g, ys⟩ w hs
      dsimp only at hs ⊢
      have hs2 : Sat (.at w0) ((noBk bb).cks ++ (x.cks ++ (x.es.map LE.gck ++ (([] ++ [] : List Kp).map Kp.ck ++ x.es.map LE.wck)))) w := by
        have h0 := hs.sub (List.Sublist.append_left (List.Sublist.append_right (List.sublist_append_left (noBk bb).cks _) _) _)
        refine h0.perm ?_
        have h1 := List.perm_append_comm_assoc x.cks (noBk bb).cks (x.es.flatMap both)
        exact h1.trans (List.Perm.append_left _ (List.Perm.append_left _ (perm_both x.es)))
      clear hs
      have hs := hs2
      clear hs2
      have hbo : BkOk (noBk bb) [] [] [] := ⟨rfl, rfl, (fun k hk => by cases hk), (fun k hk => by cases hk), (fun k hk => by cases hk), by simp [noBk]⟩
      (repeat (first | (simp (disch := first | omega | assumption | exact Option.isSome_some | (simp only [adO_isSome]; assumption)) only [↓vcp, vcs, vct, if_true, if_false, Nat.reduceBEq, ↓reduceIte, Nat.reduceEqDiff, Nat.reduceAdd, Nat.reduceMul, Nat.reduceSub, Int.reduceToNat, reduceCtorEq, Nat.reduceLT, Nat.reduceLeDiff, Int.reduceSub, Int.reduceAdd, Int.reduceNeg, Sat.look hs, Sat.lookA hs]) | (refine khK he hs ?_; clear he; intro he) | ((first | refine stK hs ?_ | refine stFK hs ?_ | refine stAK hs ?_ | refine msK hs ?_); clear hs; (try clear w); rintro w hs; try simp only [cls] at hs) | ((first | refine al_ok hs ?_ | refine bx_ok hs ?_ | refine bsvK hs ?_ | refine bs1_ok hs ?_ | refine bs0_ok hs ?_); clear hs; (try clear w); rintro _ w hs; try simp only [cls] at hs)))
      have hst := Settle_calls _ w (noBk bb) [] [] [] x 0 hbo (by simp [noBk]) (by simp [noBk]; omega) (by simp [noBk]; omega) (by omega) hxo hs
      rw [hxl] at hst
      refine call_ok (by kernel_rfl) hst ?_
      rintro _ w2 ⟨z, old', todo', fams', rfl, hzb, hz, hb⟩
      rw [callK_ret]
      clear hs hst
      have hs := hb
      clear hb w
      rename World => w
      (repeat (first | (simp (disch := first | omega | assumption | exact Option.isSome_some | (simp only [adO_isSome]; assumption)) only [↓vcp, vcs, vct, if_true, if_false, Nat.reduceBEq, ↓reduceIte, Nat.reduceEqDiff, Nat.reduceAdd, Nat.reduceMul, Nat.reduceSub, Int.reduceToNat, reduceCtorEq, Nat.reduceLT, Nat.reduceLeDiff, Int.reduceSub, Int.reduceAdd, Int.reduceNeg, Sat.look hs, Sat.lookA hs]) | (refine khK he hs ?_; clear he; intro he) | ((first | refine stK hs ?_ | refine stFK hs ?_ | refine stAK hs ?_ | refine msK hs ?_); clear hs; (try clear w); rintro w hs; try simp only [cls] at hs) | ((first | refine al_ok hs ?_ | refine bx_ok hs ?_ | refine bsvK hs ?_ | refine bs1_ok hs ?_ | refine bs0_ok hs ?_); clear hs; (try clear w); rintro _ w hs; try simp only [cls] at hs)))
      have hlk := Look_calls _ w z old' todo' fams' hz hs
      rw [hzb] at hlk
      refine call_ok (by kernel_rfl) hlk ?_
      rintro _ w2 ⟨z2, old2, todo2, fams2, rfl, _, _, _, _, hb⟩
      rw [callK_ret]
      clear hs hlk
      have hs := hb
      clear hb w
      rename World => w
      (repeat (first | (simp (disch := first | omega | assumption | exact Option.isSome_some | (simp only [adO_isSome]; assumption)) only [↓vcp, vcs, vct, if_true, if_false, Nat.reduceBEq, ↓reduceIte, Nat.reduceEqDiff, Nat.reduceAdd, Nat.reduceMul, Nat.reduceSub, Int.reduceToNat, reduceCtorEq, Nat.reduceLT, Nat.reduceLeDiff, Int.reduceSub, Int.reduceAdd, Int.reduceNeg, Sat.look hs, Sat.lookA hs]) | (refine khK he hs ?_; clear he; intro he) | ((first | refine stK hs ?_ | refine stFK hs ?_ | refine stAK hs ?_ | refine msK hs ?_); clear hs; (try clear w); rintro w hs; try simp only [cls] at hs) | ((first | refine al_ok hs ?_ | refine bx_ok hs ?_ | refine bsvK hs ?_ | refine bs1_ok hs ?_ | refine bs0_ok hs ?_); clear hs; (try clear w); rintro _ w hs; try simp only [cls] at hs)))
      refine call_ok (by kernel_rfl) (begun_calls w (hG.up0 hs)) ?_; rintro _ w2 ⟨rfl, hb⟩; rw [callK_ret]; replace hs := Sat.add hs (Below.sat hb); clear hb; (try clear w); rename World => w; try simp only [cls] at hs
      (repeat (first | (simp (disch := first | omega | assumption | exact Option.isSome_some | (simp only [adO_isSome]; assumption)) only [↓vcp, vcs, vct, if_true, if_false, Nat.reduceBEq, ↓reduceIte, Nat.reduceEqDiff, Nat.reduceAdd, Nat.reduceMul, Nat.reduceSub, Int.reduceToNat, reduceCtorEq, Nat.reduceLT, Nat.reduceLeDiff, Int.reduceSub, Int.reduceAdd, Int.reduceNeg, Sat.look hs, Sat.lookA hs]) | (refine khK he hs ?_; clear he; intro he) | ((first | refine stK hs ?_ | refine stFK hs ?_ | refine stAK hs ?_ | refine msK hs ?_); clear hs; (try clear w); rintro w hs; try simp only [cls] at hs) | ((first | refine al_ok hs ?_ | refine bx_ok hs ?_ | refine bsvK hs ?_ | refine bs1_ok hs ?_ | refine bs0_ok hs ?_); clear hs; (try clear w); rintro _ w hs; try simp only [cls] at hs)))
      exact ret_tmp rfl (hR _ _ ⟨rfl, hs.belowAt⟩)
end Go.Proofs.YtokoohdpakhphaaGreatDoor.Lnk
