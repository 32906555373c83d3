/- The law DigestLaid answers true of any hashes, digests and bytes, and leaves what was there as it was. -/
import Derived.Test.YtkklmjioheimfaaDoorBegun
import Derived.Test.YtkklmjioheimfaaDoorPlace
import Derived.Test.YtkklmjioheimfaaDoorRowsB
import Derived.Test.YtkklmjioheimfaaDoorRefDig
import Derived.Test.YtkklmjioheimfaaDoorSettle
namespace Go.Proofs.YtkklmjioheimfaaDoor.Dig
open Go VC Go.RowKit Sha Loan Varint Help Book
set_option linter.unusedSimpArgs false
set_option linter.unusedVariables false
set_option maxRecDepth 20000
set_option maxHeartbeats 4000000
theorem m_loadEOA {S : Cx} {H : List Ck} {w : World} {P : Program} {K : Value → World → Prop} {pan : List PanicEntry → World → Prop} {sz : Nat} (t : TypeId) (he : SatE S H w) [h : TAg P t sz] (p : Option Addr) {xs : List Value} (hx : Ro S p xs) (hn : xs.length = sz) (h0 : 0 < sz) :
    runS (.ahead (SatE S H)) P (Instr.loadAt t (.pointer p)) K pan w = K (.agg xs.toArray) w := m_loadYA t p xs he fun w' hw => by
  obtain ⟨F, hw⟩ := hw
  subst hn
  exact hx.cells hw h0
theorem cells3 {S : Cx} {H : List Ck} {w : World} {p : Option Addr} {x y z : Value} (h : Ro S p [x, y, z]) (hs : Sat S H w) : cellsO w p 3 = some [x, y, z] := h.cells hs (by simp)
def hashAt (l : List Nat) (i : Nat) : Nat := if l.length = 0 then 18 else (l[i % l.length]?).getD 0
theorem hash_calls (w0 : World) (ha da ba : Option Addr) (hc dn dc bn bc : Nat) (l : List Nat) (i : Nat) (hh : Ro (.at w0) ha (l.map fun n : Nat => Value.int .u64 n)) :
    Calls Tryd.prog 25 #[.agg [.slice ha l.length hc, .slice da dn dc, .slice ba bn bc].toArray, .int .i64 i] w0 fun e w' => e = .returned (.int .u64 (hashAt l i)) ∧ Below w0.heap.size w0 w' := by
  refine calls_vc Tryd.func25 rfl (by kernel_rfl) (by kernel_rfl) ?_; intro R hR
  have hs := Sat.start w0
  unfold hashAt at hR
  by_cases h0 : l.length = 0
  · rw [if_pos h0] at hR
    rw [h0]
    (repeat (first | (simp (disch := first | omega | assumption | exact Option.isSome_some | (simp only [adO_isSome]; assumption)) only [↓vcp, vcs, vct, if_true, if_false, Nat.reduceBEq, ↓reduceIte, Nat.reduceEqDiff, Nat.reduceAdd, Nat.reduceMul, Nat.reduceSub, Int.reduceToNat, reduceCtorEq, Nat.reduceLT, Nat.reduceLeDiff, Int.reduceSub, Int.reduceAdd, Int.reduceNeg, Sat.look hs, Sat.lookA hs]) | (refine khK he hs ?_; clear he; intro he) | ((first | refine stK hs ?_ | refine stFK hs ?_ | refine stAK hs ?_ | refine msK hs ?_); clear hs; (try clear w); rintro w hs; try simp only [cls] at hs) | ((first | refine al_ok hs ?_ | refine bx_ok hs ?_ | refine bsvK hs ?_ | refine bs1_ok hs ?_ | refine bs0_ok hs ?_); clear hs; (try clear w); rintro _ w hs; try simp only [cls] at hs)))
    exact ret_tmp rfl (hR _ _ ⟨rfl, hs.belowAt⟩)
  · rw [if_neg h0] at hR
    have him : i % l.length < l.length := Nat.mod_lt _ (by omega)
    obtain ⟨n, hn⟩ : ∃ n, l[i % l.length]? = some n := ⟨_, List.getElem?_eq_getElem him⟩
    rw [hn] at hR
    have has : ha.isSome = true := hh.isSome (by rw [List.length_map]; omega)
    have hr : oldO (.at w0) (adO ha (i % l.length)) = some (.int .u64 n) := hh _ _ (by rw [List.getElem?_map, hn]; rfl)
    (repeat (first | (simp (disch := first | omega | assumption | exact Option.isSome_some | (simp only [adO_isSome]; assumption)) only [↓vcp, vcs, vct, if_true, if_false, Nat.reduceBEq, ↓reduceIte, Nat.reduceEqDiff, Nat.reduceAdd, Nat.reduceMul, Nat.reduceSub, Int.reduceToNat, reduceCtorEq, Nat.reduceLT, Nat.reduceLeDiff, Int.reduceSub, Int.reduceAdd, Int.reduceNeg, Sat.look hs, Sat.lookA hs]) | (refine khK he hs ?_; clear he; intro he) | ((first | refine stK hs ?_ | refine stFK hs ?_ | refine stAK hs ?_ | refine msK hs ?_); clear hs; (try clear w); rintro w hs; try simp only [cls] at hs) | ((first | refine al_ok hs ?_ | refine bx_ok hs ?_ | refine bsvK hs ?_ | refine bs1_ok hs ?_ | refine bs0_ok hs ?_); clear hs; (try clear w); rintro _ w hs; try simp only [cls] at hs)))
    refine draw_still 9 (by kernel_rfl) (by kernel_rfl) (by kernel_rfl) ?_
    replace hs := Sat.drew hs; revert hs; generalize World.drew _ = w; intro hs
    (repeat (first | (simp (disch := first | omega | assumption | exact Option.isSome_some | (simp only [adO_isSome]; assumption)) only [↓vcp, vcs, vct, if_true, if_false, Nat.reduceBEq, ↓reduceIte, Nat.reduceEqDiff, Nat.reduceAdd, Nat.reduceMul, Nat.reduceSub, Int.reduceToNat, reduceCtorEq, Nat.reduceLT, Nat.reduceLeDiff, Int.reduceSub, Int.reduceAdd, Int.reduceNeg, Sat.look hs, Sat.lookA hs, tmod_nat, hs.old hr]) | (refine khK he hs ?_; clear he; intro he) | ((first | refine stK hs ?_ | refine stFK hs ?_ | refine stAK hs ?_ | refine msK hs ?_); clear hs; (try clear w); rintro w hs; try simp only [cls] at hs) | ((first | refine al_ok hs ?_ | refine bx_ok hs ?_ | refine bsvK hs ?_ | refine bs1_ok hs ?_ | refine bs0_ok hs ?_); clear hs; (try clear w); rintro _ w hs; try simp only [cls] at hs)))
    exact ret_tmp rfl (hR _ _ ⟨rfl, hs.belowAt⟩)
def both (e : LE) : List Ck := [LE.gck e, LE.wck e]
theorem perm_both : ∀ es : List LE, (es.flatMap both).Perm (es.map LE.gck ++ es.map LE.wck)
  | [] => .nil
  | e :: es => by
    rw [List.flatMap_cons, List.map_cons, List.map_cons, List.cons_append]
    refine List.Perm.cons _ ?_
    refine (List.Perm.cons _ (perm_both es)).trans ?_
    exact List.perm_middle.symm
/-- an answer is kept: its row stands among the others -/
theorem Add_in (S : Cx) (w0 : World) (x : Lt) (R F : List Ck) (a : Option Addr) (c : Nat) (xs : List UInt8) (wa : Option Addr) (wc : Nat) (hs : Sat S (x.cks ++ ((R ++ x.es.flatMap both) ++ (.sl a c (xs.map u8v) 5 1 :: F))) w0) (hw : Ro ⟨w0, footL x.cks⟩ wa (xs.map u8v)) (hl : xs.length ≤ 140737488355328) (hes : x.es.length ≤ 1099511627776) :
    Calls Tryd.prog 32 #[.pointer (some ⟨x.l, 0, none⟩), .slice a xs.length c, .slice wa xs.length wc] w0 fun e w' => ∃ (y : Lt) (b d : Nat) (pad : List Value), e = .returned (.tuple #[]) ∧ y.l = x.l ∧ y.es = x.es ++ [⟨a, c, xs, b, d, pad⟩] ∧ Sat S (y.cks ++ ((R ++ y.es.flatMap both) ++ F)) w' := by
  refine Calls.mono (Add_calls _ w0 x a c xs wa wc hs.front hw hl hes) fun e w' ⟨y, b, d, pad, h1, h2, h3, _, hb⟩ => ⟨y, b, d, pad, h1, h2, h3, ?_⟩
  have h := hs.frame (List.Perm.refl _) hb
  refine h.perm ?_
  rw [h3, List.flatMap_append, List.append_assoc]
  refine List.Perm.append_left _ ?_
  have e1 : ([(⟨a, c, xs, b, d, pad⟩ : LE)].flatMap both) = [.sl a c (xs.map u8v) 5 1, LE.wck ⟨a, c, xs, b, d, pad⟩] := rfl
  rw [e1]
  have p1 := (List.perm_middle (a := LE.wck ⟨a, c, xs, b, d, pad⟩) (l₁ := (R ++ x.es.flatMap both) ++ [.sl a c (xs.map u8v) 5 1]) (l₂ := F)).symm
  simp only [List.append_assoc, List.cons_append, List.nil_append] at p1 ⊢
  exact p1
def noBk (b : Nat) : Bk := ⟨b, none, 0, none, 0, [], 0, 0, 0, 0⟩
/-- what stands beside the answers -/
def beside (b tb pb : Nat) (args : List Value) (g : PlG) (ys : List UInt8) : List Ck := (noBk b).cks ++ (.bk tb args 47 :: g.cks pb ys)
theorem row_of {S : Cx} {a : Option Addr} {rows : List BRow} (h : Ro S a (rows.map BRow.v)) {i : Nat} {r : BRow} (hr : rows[i]? = some r) : oldO S (adO a i) = some (.slice r.a r.xs.length r.c) := h i _ (by rw [List.getElem?_map, hr]; rfl)
theorem perm11 {α : Type} (tb bb lb pb x1 x2 x3 x4 x5 x6 x7 : α) : [tb, bb, lb, pb, x1, x2, x3, x4, x5, x6, x7].Perm [lb, x1, x2, bb, x3, x4, tb, pb, x5, x6, x7] := by
  refine (List.perm_middle (l₁ := [tb, bb])).trans (.cons _ ?_)
  refine (List.perm_middle (l₁ := [tb, bb, pb])).trans (.cons _ ?_)
  refine (List.perm_middle (l₁ := [tb, bb, pb])).trans (.cons _ ?_)
  refine (List.perm_middle (l₁ := [tb])).trans (.cons _ ?_)
  refine (List.perm_middle (l₁ := [tb, pb])).trans (.cons _ ?_)
  exact (List.perm_middle (l₁ := [tb, pb])).trans (.cons _ (.refl _))
theorem dlay_len {hash : Nat} {xs : List UInt8} : (dlay hash xs).length ≤ 66 := by
  unfold dlay
  split
  · rename_i h
    have := (fits_small h).2
    simp only [List.length_cons]
    omega
  · simp
theorem permAB {α : Type} (x n g X : List α) : (x ++ ((n ++ g) ++ X)).Perm (g ++ (x ++ (n ++ X))) := by
  have h := List.perm_append_comm_assoc (x ++ n) g X
  simpa only [List.append_assoc] using h
theorem dread_len (xs : List UInt8) : (dread xs).2.1.length ≤ xs.length := by
  unfold dread
  split
  · simp
  · split
    · simp
    · split
      · simp
      · split
        · simp
        · simp only [List.length_take, List.length_drop]; omega
def esOk (es : List LE) : Prop := ∀ e ∈ es, e.xs.length ≤ 140737488351232
theorem DigestLaid_calls (w0 : World) (ha da ba : Option Addr) (hc dc bc : Nat) (l : List Nat) (D B : List BRow) (hh : Ro (.at w0) ha (l.map fun n : Nat => Value.int .u64 n)) (hD : RdBB w0 w0.heap.size da D) (hB : RdBB w0 w0.heap.size ba B) (hDn : D.length ≤ 140737488351232) (hBn : B.length ≤ 140737488351232) (hG : Ro (.at w0) (some ⟨0, 0, none⟩) (factors.map u32v)) :
    Calls Tryd.prog 8 #[.agg [.slice ha l.length hc, .slice da D.length dc, .slice ba B.length bc].toArray] w0 fun e w' => e = .returned (.bool true) ∧ Below w0.heap.size w0 w' := by
  refine calls_vc Tryd.func8 rfl (by kernel_rfl) (by kernel_rfl) ?_; intro R hR
  have hs := Sat.start w0
  have hDr : Ro (.at w0) da (D.map BRow.v) := Rd.ro hD.1
  have hBr : Ro (.at w0) ba (B.map BRow.v) := Rd.ro hB.1
  (repeat (first | (simp (disch := first | omega | assumption | exact Option.isSome_some | (simp only [adO_isSome]; assumption)) only [↓vcp, vcs, vct, if_true, if_false, Nat.reduceBEq, ↓reduceIte, Nat.reduceEqDiff, Nat.reduceAdd, Nat.reduceMul, Nat.reduceSub, Int.reduceToNat, reduceCtorEq, Nat.reduceLT, Nat.reduceLeDiff, Int.reduceSub, Int.reduceAdd, Int.reduceNeg, Sat.look hs, Sat.lookA hs]) | (refine khK he hs ?_; clear he; intro he) | ((first | refine stK hs ?_ | refine stFK hs ?_ | refine stAK hs ?_ | refine msK hs ?_); clear hs; (try clear w); rintro w hs; try simp only [cls] at hs) | ((first | refine al_ok hs ?_ | refine bx_ok hs ?_ | refine bsvK hs ?_ | refine bs1_ok hs ?_ | refine bs0_ok hs ?_); clear hs; (try clear w); rintro _ w hs; try simp only [cls] at hs)))
  refine call_ok (by kernel_rfl) (begun_calls w (hG.up0 hs)) ?_; rintro _ w2 ⟨rfl, hb⟩; rw [callK_ret]; replace hs := Sat.add hs (Below.sat hb); clear hb; (try clear w); rename World => w; try simp only [cls] at hs
  (repeat (first | (simp (disch := first | omega | assumption | exact Option.isSome_some | (simp only [adO_isSome]; assumption)) only [↓vcp, vcs, vct, if_true, if_false, Nat.reduceBEq, ↓reduceIte, Nat.reduceEqDiff, Nat.reduceAdd, Nat.reduceMul, Nat.reduceSub, Int.reduceToNat, reduceCtorEq, Nat.reduceLT, Nat.reduceLeDiff, Int.reduceSub, Int.reduceAdd, Int.reduceNeg, Sat.look hs, Sat.lookA hs]) | (refine khK he hs ?_; clear he; intro he) | ((first | refine stK hs ?_ | refine stFK hs ?_ | refine stAK hs ?_ | refine msK hs ?_); clear hs; (try clear w); rintro w hs; try simp only [cls] at hs) | ((first | refine al_ok hs ?_ | refine bx_ok hs ?_ | refine bsvK hs ?_ | refine bs1_ok hs ?_ | refine bs0_ok hs ?_); clear hs; (try clear w); rintro _ w hs; try simp only [cls] at hs)))
  rename_i tb bb lb pb
  replace hs := Sat.nil hs 27 1; try simp only [cls] at hs
  replace hs := Sat.nil hs 27 1; try simp only [cls] at hs
  replace hs := Sat.nil hs 27 1; try simp only [cls] at hs
  replace hs := Sat.nil hs 3 1; try simp only [cls] at hs
  replace hs := Sat.nil hs 27 1; try simp only [cls] at hs
  replace hs := Sat.nil hs 27 1; try simp only [cls] at hs
  replace hs := Sat.nil hs 5 1; try simp only [cls] at hs
  obtain ⟨args, hargs⟩ : ∃ args : List Value, args = [.slice ha l.length hc, .slice da D.length dc, .slice ba B.length bc] := ⟨_, rfl⟩
  rw [← hargs] at hs
  have hs0 : Sat (.at w0) ((⟨lb, none, 0, none, 0, []⟩ : Lt).cks ++ (beside bb tb pb args ⟨none, 0, [], none, 0, none, 0, true⟩ [] ++ ([] : List LE).flatMap both)) w := hs.perm (perm11 ..)
  clear hs
  have hs := hs0
  clear hs0
  refine loop_join (σ := Lt) 0 [] (fun _ => []) [1, 3, 4, 5] (fun x w' => x.l = lb ∧ x.es.length ≤ 8000 ∧ esOk x.es ∧ Sat (.at w0) (x.cks ++ (beside bb tb pb args ⟨none, 0, [], none, 0, none, 0, true⟩ [] ++ x.es.flatMap both)) w') ?_ ?_
  · refine loop_rule (σ := Nat × Lt) [6] (fun s => [.int .i64 s.1]) [1, 3, 4, 5] (fun s w' => s.1 ≤ D.length ∧ s.1 ≤ 2000 ∧ s.2.l = lb ∧ s.2.es.length ≤ 4 * s.1 ∧ esOk s.2.es ∧ Sat (.at w0) (s.2.cks ++ (beside bb tb pb args ⟨none, 0, [], none, 0, none, 0, true⟩ [] ++ s.2.es.flatMap both)) w') (fun s _ => D.length - s.1) (0, ⟨lb, none, 0, none, 0, []⟩) (by kernel_rfl) rfl ⟨by omega, by omega, rfl, by simp, (fun e he => by cases he), hs⟩ ?_
    clear hs
    rintro e ⟨i, x⟩ wb ⟨hi, hi2, hxl, hxe, hxo, hs1⟩
    dsimp only at hi hi2 hxl hxe hxo hs1 ⊢
    have htb : Ro (.at wb) (some ⟨tb, 0, none⟩) args := memBk (pad := []) hs1 (List.mem_append_right _ (List.mem_append_left _ (List.mem_append_right _ (by rw [List.append_nil]; exact .head _))))
    rw [hargs] at htb
    have f1 : oldO (.at wb) (some ⟨tb, 1, none⟩) = some (.slice da D.length dc) := htb 1 _ rfl
    have hs := Sat.start wb
    simp (disch := first | omega | assumption | exact Option.isSome_some | (simp only [adO_isSome]; assumption)) only [↓vcp, vcs, vct, if_true, if_false, Nat.reduceBEq, ↓reduceIte, Nat.reduceEqDiff, Nat.reduceAdd, Nat.reduceMul, Nat.reduceSub, Int.reduceToNat, reduceCtorEq, Nat.reduceLT, Nat.reduceLeDiff, Int.reduceSub, Int.reduceAdd, Int.reduceNeg, Sat.look hs, Sat.lookA hs, hs.old f1]
    by_cases hlt : i < D.length
    case neg =>
      (repeat (first | (simp (disch := first | omega | assumption | exact Option.isSome_some | (simp only [adO_isSome]; assumption)) only [↓vcp, vcs, vct, if_true, if_false, Nat.reduceBEq, ↓reduceIte, Nat.reduceEqDiff, Nat.reduceAdd, Nat.reduceMul, Nat.reduceSub, Int.reduceToNat, reduceCtorEq, Nat.reduceLT, Nat.reduceLeDiff, Int.reduceSub, Int.reduceAdd, Int.reduceNeg, Sat.look hs, Sat.lookA hs, hs.old f1]) | (refine khK he hs ?_; clear he; intro he) | ((first | refine stK hs ?_ | refine stFK hs ?_ | refine stAK hs ?_ | refine msK hs ?_); clear hs; (try clear w); rintro w hs; try simp only [cls] at hs) | ((first | refine al_ok hs ?_ | refine bx_ok hs ?_ | refine bsvK hs ?_ | refine bs1_ok hs ?_ | refine bs0_ok hs ?_); clear hs; (try clear w); rintro _ w hs; try simp only [cls] at hs)))
      exact ⟨x, by rfl, by rfl, hxl, by omega, hxo, hs1⟩
    by_cases h2000 : i < 2000
    case neg =>
      (repeat (first | (simp (disch := first | omega | assumption | exact Option.isSome_some | (simp only [adO_isSome]; assumption)) only [↓vcp, vcs, vct, if_true, if_false, Nat.reduceBEq, ↓reduceIte, Nat.reduceEqDiff, Nat.reduceAdd, Nat.reduceMul, Nat.reduceSub, Int.reduceToNat, reduceCtorEq, Nat.reduceLT, Nat.reduceLeDiff, Int.reduceSub, Int.reduceAdd, Int.reduceNeg, Sat.look hs, Sat.lookA hs, hs.old f1]) | (refine khK he hs ?_; clear he; intro he) | ((first | refine stK hs ?_ | refine stFK hs ?_ | refine stAK hs ?_ | refine msK hs ?_); clear hs; (try clear w); rintro w hs; try simp only [cls] at hs) | ((first | refine al_ok hs ?_ | refine bx_ok hs ?_ | refine bsvK hs ?_ | refine bs1_ok hs ?_ | refine bs0_ok hs ?_); clear hs; (try clear w); rintro _ w hs; try simp only [cls] at hs)))
      exact ⟨x, by rfl, by rfl, hxl, by omega, hxo, hs1⟩
    have hds : da.isSome = true := hD.isSome (by omega)
    obtain ⟨r, hr⟩ : ∃ r, D[i]? = some r := ⟨_, List.getElem?_eq_getElem hlt⟩
    obtain ⟨ra, rc, xs⟩ := r
    obtain ⟨hx1, hx2, hx3⟩ := hD.2 _ (List.mem_of_getElem? hr)
    have hrow : oldO (.at wb) (adO da i) = some (.slice ra xs.length rc) := row_of (hDr.up0 hs1) hr
    dsimp only at hx1 hx2 hx3
    have hxr : Ro (.at wb) ra (xs.map u8v) := (Rd.ro hx1).up0 hs1
    have hhr : Ro (.at wb) ha (l.map fun n : Nat => Value.int .u64 n) := hh.up0 hs1
    (repeat (first | (simp (disch := first | omega | assumption | exact Option.isSome_some | (simp only [adO_isSome]; assumption)) only [↓vcp, vcs, vct, if_true, if_false, Nat.reduceBEq, ↓reduceIte, Nat.reduceEqDiff, Nat.reduceAdd, Nat.reduceMul, Nat.reduceSub, Int.reduceToNat, reduceCtorEq, Nat.reduceLT, Nat.reduceLeDiff, Int.reduceSub, Int.reduceAdd, Int.reduceNeg, Sat.look hs, Sat.lookA hs, hs.old f1]) | (refine khK he hs ?_; clear he; intro he) | ((first | refine stK hs ?_ | refine stFK hs ?_ | refine stAK hs ?_ | refine msK hs ?_); clear hs; (try clear w); rintro w hs; try simp only [cls] at hs) | ((first | refine al_ok hs ?_ | refine bx_ok hs ?_ | refine bsvK hs ?_ | refine bs1_ok hs ?_ | refine bs0_ok hs ?_); clear hs; (try clear w); rintro _ w hs; try simp only [cls] at hs)))
    refine draw_plan (SatE _ _) [(1, true), (3, true), (5, true), (0, true), (4, true), (6, true), (7, true), (2, false), (8, false), (9, true), (10, true), (11, true), (12, true), (13, true)] (by kernel_rfl) (by kernel_rfl) (Sat.e (Sat.drew hs)) ?_; replace hs := Sat.drew hs; revert hs; generalize World.drew _ = w; intro hs; have he := Sat.e hs
    (repeat (first | (simp (disch := first | omega | assumption | exact Option.isSome_some | (simp only [adO_isSome]; assumption)) only [↓vcp, vcs, vct, if_true, if_false, Nat.reduceBEq, ↓reduceIte, Nat.reduceEqDiff, Nat.reduceAdd, Nat.reduceMul, Nat.reduceSub, Int.reduceToNat, reduceCtorEq, Nat.reduceLT, Nat.reduceLeDiff, Int.reduceSub, Int.reduceAdd, Int.reduceNeg, Sat.look hs, Sat.lookA hs, m_loadEOA (sz := 3) _ he _ htb rfl (by omega), m_loadEO _ he _ f1, m_loadEO _ he _ hrow]) | (refine khK he hs ?_; clear he; intro he) | ((first | refine stK hs ?_ | refine stFK hs ?_ | refine stAK hs ?_ | refine msK hs ?_); clear hs; (try clear w); rintro w hs; try simp only [cls] at hs) | ((first | refine al_ok hs ?_ | refine bx_ok hs ?_ | refine bsvK hs ?_ | refine bs1_ok hs ?_ | refine bs0_ok hs ?_); clear hs; (try clear w); rintro _ w hs; try simp only [cls] at hs)))
    refine call_ok (by kernel_rfl) (hash_calls w ha da ba hc D.length dc B.length bc l i (hhr.up0 hs)) ?_; rintro _ w2 ⟨rfl, hb⟩; rw [callK_ret]; replace hs := Sat.add hs (Below.sat hb); clear hb; (try clear w); rename World => w; try simp only [cls] at hs
    (repeat (first | (simp (disch := first | omega | assumption | exact Option.isSome_some | (simp only [adO_isSome]; assumption)) only [↓vcp, vcs, vct, if_true, if_false, Nat.reduceBEq, ↓reduceIte, Nat.reduceEqDiff, Nat.reduceAdd, Nat.reduceMul, Nat.reduceSub, Int.reduceToNat, reduceCtorEq, Nat.reduceLT, Nat.reduceLeDiff, Int.reduceSub, Int.reduceAdd, Int.reduceNeg, Sat.look hs, Sat.lookA hs, m_loadEOA (sz := 3) _ he _ htb rfl (by omega), m_loadEO _ he _ f1, m_loadEO _ he _ hrow]) | (refine khK he hs ?_; clear he; intro he) | ((first | refine stK hs ?_ | refine stFK hs ?_ | refine stAK hs ?_ | refine msK hs ?_); clear hs; (try clear w); rintro w hs; try simp only [cls] at hs) | ((first | refine al_ok hs ?_ | refine bx_ok hs ?_ | refine bsvK hs ?_ | refine bs1_ok hs ?_ | refine bs0_ok hs ?_); clear hs; (try clear w); rintro _ w hs; try simp only [cls] at hs)))
    refine call_ok (by kernel_rfl) (RefLay_calls w (hashAt l i) ra rc xs (hxr.up0 hs) (by omega)) ?_; rintro _ w2 ⟨wa, wc, rfl, hwc, hb⟩; rw [callK_ret]; replace hs := Sat.add hs hb; clear hb; (try clear w); rename World => w; try simp only [cls] at hs
    (repeat (first | (simp (disch := first | omega | assumption | exact Option.isSome_some | (simp only [adO_isSome]; assumption)) only [↓vcp, vcs, vct, if_true, if_false, Nat.reduceBEq, ↓reduceIte, Nat.reduceEqDiff, Nat.reduceAdd, Nat.reduceMul, Nat.reduceSub, Int.reduceToNat, reduceCtorEq, Nat.reduceLT, Nat.reduceLeDiff, Int.reduceSub, Int.reduceAdd, Int.reduceNeg, Sat.look hs, Sat.lookA hs]) | (refine khK he hs ?_; clear he; intro he) | ((first | refine stK hs ?_ | refine stFK hs ?_ | refine stAK hs ?_ | refine msK hs ?_); clear hs; (try clear w); rintro w hs; try simp only [cls] at hs) | ((first | refine al_ok hs ?_ | refine bx_ok hs ?_ | refine bsvK hs ?_ | refine bs1_ok hs ?_ | refine bs0_ok hs ?_); clear hs; (try clear w); rintro _ w hs; try simp only [cls] at hs)))
    clear he
    have hsW := hs1.add hs
    clear hs hs1 htb f1 hrow hxr hhr hDn
    have hs : Sat (.at w0) (x.cks ++ ((beside bb tb pb args ⟨none, 0, [], none, 0, none, 0, true⟩ [] ++ x.es.flatMap both) ++ [.sl wa wc ((dlay (hashAt l i) xs).map u8v) 5 1])) w := by rw [← List.append_assoc]; exact hsW
    clear hsW
    refine loop_rule (σ := Nat × Lt) [9] (fun s => [.int .i64 s.1]) [1, 3, 4, 5, 6, 7, 8] (fun s w' => s.1 ≤ 2 ∧ s.2.l = lb ∧ s.2.es.length ≤ 4 * i + 2 * s.1 ∧ esOk s.2.es ∧ Sat (.at w0) (s.2.cks ++ ((beside bb tb pb args ⟨none, 0, [], none, 0, none, 0, true⟩ [] ++ s.2.es.flatMap both) ++ [.sl wa wc ((dlay (hashAt l i) xs).map u8v) 5 1])) w') (fun s _ => 2 - s.1) (0, x) (by kernel_rfl) rfl ⟨by omega, hxl, by dsimp only; omega, hxo, hs⟩ ?_
    clear hs hxl hxe hxo x
    rintro e ⟨k, x⟩ wb ⟨hk, hxl, hxe, hxo, hs1⟩
    dsimp only at hk hxl hxe hxo hs1 ⊢
    have htb : Ro (.at wb) (some ⟨tb, 0, none⟩) args := memBk (pad := []) hs1 (List.mem_append_right _ (List.mem_append_left _ (List.mem_append_left _ (List.mem_append_right _ (by rw [List.append_nil]; exact .head _)))))
    rw [hargs] at htb
    have f1 : oldO (.at wb) (some ⟨tb, 1, none⟩) = some (.slice da D.length dc) := htb 1 _ rfl
    have hwr : Ro (.at wb) wa ((dlay (hashAt l i) xs).map u8v) := memCk (cp := wc) (el := 5) (sz := 1) hs1 (List.mem_append_right _ (List.mem_append_right _ (.head _)))
    have hrow : oldO (.at wb) (adO da i) = some (.slice ra xs.length rc) := row_of (hDr.up0 hs1) hr
    have hxr : Ro (.at wb) ra (xs.map u8v) := (Rd.ro hx1).up0 hs1
    have hhr : Ro (.at wb) ha (l.map fun n : Nat => Value.int .u64 n) := hh.up0 hs1
    have hs := Sat.start wb
    simp (disch := first | omega | assumption | exact Option.isSome_some | (simp only [adO_isSome]; assumption)) only [↓vcp, vcs, vct, if_true, if_false, Nat.reduceBEq, ↓reduceIte, Nat.reduceEqDiff, Nat.reduceAdd, Nat.reduceMul, Nat.reduceSub, Int.reduceToNat, reduceCtorEq, Nat.reduceLT, Nat.reduceLeDiff, Int.reduceSub, Int.reduceAdd, Int.reduceNeg, Sat.look hs, Sat.lookA hs]
    by_cases hk2 : k < 2
    case neg =>
      (repeat (first | (simp (disch := first | omega | assumption | exact Option.isSome_some | (simp only [adO_isSome]; assumption)) only [↓vcp, vcs, vct, if_true, if_false, Nat.reduceBEq, ↓reduceIte, Nat.reduceEqDiff, Nat.reduceAdd, Nat.reduceMul, Nat.reduceSub, Int.reduceToNat, reduceCtorEq, Nat.reduceLT, Nat.reduceLeDiff, Int.reduceSub, Int.reduceAdd, Int.reduceNeg, Sat.look hs, Sat.lookA hs]) | (refine khK he hs ?_; clear he; intro he) | ((first | refine stK hs ?_ | refine stFK hs ?_ | refine stAK hs ?_ | refine msK hs ?_); clear hs; (try clear w); rintro w hs; try simp only [cls] at hs) | ((first | refine al_ok hs ?_ | refine bx_ok hs ?_ | refine bsvK hs ?_ | refine bs1_ok hs ?_ | refine bs0_ok hs ?_); clear hs; (try clear w); rintro _ w hs; try simp only [cls] at hs)))
      refine ⟨(i + 1, x), by rfl, by rfl, ⟨by dsimp only; omega, by dsimp only; omega, hxl, by dsimp only; omega, hxo, ?_⟩, by dsimp only; omega⟩
      exact hs1.sub (List.Sublist.append_left (List.sublist_append_left _ _) _)
    have hdl66 := @dlay_len (hashAt l i) xs
    generalize hdl : dlay (hashAt l i) xs = dl at *
    generalize hbad : fitsE (hashAt l i) xs.length = bad at *
    (repeat (first | (simp (disch := first | omega | assumption | exact Option.isSome_some | (simp only [adO_isSome]; assumption)) only [↓vcp, vcs, vct, if_true, if_false, Nat.reduceBEq, ↓reduceIte, Nat.reduceEqDiff, Nat.reduceAdd, Nat.reduceMul, Nat.reduceSub, Int.reduceToNat, reduceCtorEq, Nat.reduceLT, Nat.reduceLeDiff, Int.reduceSub, Int.reduceAdd, Int.reduceNeg, Sat.look hs, Sat.lookA hs, cells3 htb hs, hs.old f1, hs.old hrow]) | (refine khK he hs ?_; clear he; intro he) | ((first | refine stK hs ?_ | refine stFK hs ?_ | refine stAK hs ?_ | refine msK hs ?_); clear hs; (try clear w); rintro w hs; try simp only [cls] at hs) | ((first | refine al_ok hs ?_ | refine bx_ok hs ?_ | refine bsvK hs ?_ | refine bs1_ok hs ?_ | refine bs0_ok hs ?_); clear hs; (try clear w); rintro _ w hs; try simp only [cls] at hs) | (refine call_ok (by kernel_rfl) (num_calls _ _) ?_; rintro _ _ ⟨rfl, rfl⟩; rw [callK_ret]) | (refine call_still (by kernel_rfl) (num_calls _ _) ?_)))
    refine call_ok (by kernel_rfl) (Lend_calls wb ra rc xs (hxr.rd hs) hx3) ?_; rintro e w2 ⟨la, lc, rfl, hown, hb⟩; rw [callK_ret]
    have hlc70 : xs.length + 70 ≤ lc := by rcases hown.form with ⟨_, h, _⟩ | ⟨_, _, _, _, _, h, _⟩ <;> omega
    replace hs := hs.add (Own.sat hown hb)
    try simp only [cls] at hs
    clear hown hb
    rename World => w
    (repeat (first | (simp (disch := first | omega | assumption | exact Option.isSome_some | (simp only [adO_isSome]; assumption)) only [↓vcp, vcs, vct, if_true, if_false, Nat.reduceBEq, ↓reduceIte, Nat.reduceEqDiff, Nat.reduceAdd, Nat.reduceMul, Nat.reduceSub, Int.reduceToNat, reduceCtorEq, Nat.reduceLT, Nat.reduceLeDiff, Int.reduceSub, Int.reduceAdd, Int.reduceNeg, Sat.look hs, Sat.lookA hs, cells3 htb hs, hs.old f1, hs.old hrow]) | (refine khK he hs ?_; clear he; intro he) | ((first | refine stK hs ?_ | refine stFK hs ?_ | refine stAK hs ?_ | refine msK hs ?_); clear hs; (try clear w); rintro w hs; try simp only [cls] at hs) | ((first | refine al_ok hs ?_ | refine bx_ok hs ?_ | refine bsvK hs ?_ | refine bs1_ok hs ?_ | refine bs0_ok hs ?_); clear hs; (try clear w); rintro _ w hs; try simp only [cls] at hs) | (refine call_ok (by kernel_rfl) (num_calls _ _) ?_; rintro _ _ ⟨rfl, rfl⟩; rw [callK_ret]) | (refine call_still (by kernel_rfl) (num_calls _ _) ?_)))
    refine call_ok (by kernel_rfl) (hash_calls w ha da ba hc D.length dc B.length bc l i (hhr.up0 hs)) ?_; rintro _ w2 ⟨rfl, hb⟩; rw [callK_ret]; replace hs := Sat.add hs (Below.sat hb); clear hb; (try clear w); rename World => w; try simp only [cls] at hs
    (repeat (first | (simp (disch := first | omega | assumption | exact Option.isSome_some | (simp only [adO_isSome]; assumption)) only [↓vcp, vcs, vct, if_true, if_false, Nat.reduceBEq, ↓reduceIte, Nat.reduceEqDiff, Nat.reduceAdd, Nat.reduceMul, Nat.reduceSub, Int.reduceToNat, reduceCtorEq, Nat.reduceLT, Nat.reduceLeDiff, Int.reduceSub, Int.reduceAdd, Int.reduceNeg, Sat.look hs, Sat.lookA hs, cells3 htb hs, hs.old f1, hs.old hrow]) | (refine khK he hs ?_; clear he; intro he) | ((first | refine stK hs ?_ | refine stFK hs ?_ | refine stAK hs ?_ | refine msK hs ?_); clear hs; (try clear w); rintro w hs; try simp only [cls] at hs) | ((first | refine al_ok hs ?_ | refine bx_ok hs ?_ | refine bsvK hs ?_ | refine bs1_ok hs ?_ | refine bs0_ok hs ?_); clear hs; (try clear w); rintro _ w hs; try simp only [cls] at hs) | (refine call_ok (by kernel_rfl) (num_calls _ _) ?_; rintro _ _ ⟨rfl, rfl⟩; rw [callK_ret]) | (refine call_still (by kernel_rfl) (num_calls _ _) ?_)))
    have hlr : Ro (.at w) la (xs.map u8v) := by
      have h1 : Ro (.at w) la ((xs ++ marks 70).map u8v) := hs.ro
      have h2 := h1.take xs.length
      rwa [← List.map_take, List.take_left] at h2
    have hdc := DLay_calls w (hashAt l i) la lc xs hlr (by omega)
    rw [hdl, hbad] at hdc
    refine call_ok (by kernel_rfl) (hdc) ?_; rintro _ w2 ⟨ya, yc, rfl, hyc, hb⟩; rw [callK_ret]; replace hs := Sat.add hs hb; clear hb; (try clear w); rename World => w; try simp only [cls] at hs
    clear hdc hlr
    (repeat (first | (simp (disch := first | omega | assumption | exact Option.isSome_some | (simp only [adO_isSome]; assumption)) only [↓vcp, vcs, vct, if_true, if_false, Nat.reduceBEq, ↓reduceIte, Nat.reduceEqDiff, Nat.reduceAdd, Nat.reduceMul, Nat.reduceSub, Int.reduceToNat, reduceCtorEq, Nat.reduceLT, Nat.reduceLeDiff, Int.reduceSub, Int.reduceAdd, Int.reduceNeg, Sat.look hs, Sat.lookA hs, cells3 htb hs, hs.old f1, hs.old hrow]) | (refine khK he hs ?_; clear he; intro he) | ((first | refine stK hs ?_ | refine stFK hs ?_ | refine stAK hs ?_ | refine msK hs ?_); clear hs; (try clear w); rintro w hs; try simp only [cls] at hs) | ((first | refine al_ok hs ?_ | refine bx_ok hs ?_ | refine bsvK hs ?_ | refine bs1_ok hs ?_ | refine bs0_ok hs ?_); clear hs; (try clear w); rintro _ w hs; try simp only [cls] at hs) | (refine call_ok (by kernel_rfl) (num_calls _ _) ?_; rintro _ _ ⟨rfl, rfl⟩; rw [callK_ret]) | (refine call_still (by kernel_rfl) (num_calls _ _) ?_)))
    refine call_ok (by kernel_rfl) (Eq_calls w ya wa yc wc dl dl (hs.rd (a := ya)) (hwr.rd hs) (by omega)) ?_; rintro _ w2 ⟨rfl, hb⟩; rw [callK_ret]; replace hs := Sat.add hs (Below.sat hb); clear hb; (try clear w); rename World => w; try simp only [cls] at hs
    (repeat (first | (simp (disch := first | omega | assumption | exact Option.isSome_some | (simp only [adO_isSome]; assumption)) only [↓vcp, vcs, vct, if_true, if_false, Nat.reduceBEq, ↓reduceIte, Nat.reduceEqDiff, Nat.reduceAdd, Nat.reduceMul, Nat.reduceSub, Int.reduceToNat, reduceCtorEq, Nat.reduceLT, Nat.reduceLeDiff, Int.reduceSub, Int.reduceAdd, Int.reduceNeg, Sat.look hs, Sat.lookA hs, cells3 htb hs, hs.old f1, hs.old hrow]) | (refine khK he hs ?_; clear he; intro he) | ((first | refine stK hs ?_ | refine stFK hs ?_ | refine stAK hs ?_ | refine msK hs ?_); clear hs; (try clear w); rintro w hs; try simp only [cls] at hs) | ((first | refine al_ok hs ?_ | refine bx_ok hs ?_ | refine bsvK hs ?_ | refine bs1_ok hs ?_ | refine bs0_ok hs ?_); clear hs; (try clear w); rintro _ w hs; try simp only [cls] at hs) | (refine call_ok (by kernel_rfl) (num_calls _ _) ?_; rintro _ _ ⟨rfl, rfl⟩; rw [callK_ret]) | (refine call_still (by kernel_rfl) (num_calls _ _) ?_)))
    refine call_ok (by kernel_rfl) (Intact_calls w la ra lc rc xs (hs.rd (a := la)) hlc70 (hxr.rd hs) hx3) ?_; rintro _ w2 ⟨rfl, hb⟩; rw [callK_ret]; replace hs := Sat.add hs (Below.sat hb); clear hb; (try clear w); rename World => w; try simp only [cls] at hs
    (repeat (first | (simp (disch := first | omega | assumption | exact Option.isSome_some | (simp only [adO_isSome]; assumption)) only [↓vcp, vcs, vct, if_true, if_false, Nat.reduceBEq, ↓reduceIte, Nat.reduceEqDiff, Nat.reduceAdd, Nat.reduceMul, Nat.reduceSub, Int.reduceToNat, reduceCtorEq, Nat.reduceLT, Nat.reduceLeDiff, Int.reduceSub, Int.reduceAdd, Int.reduceNeg, Sat.look hs, Sat.lookA hs, cells3 htb hs, hs.old f1, hs.old hrow]) | (refine khK he hs ?_; clear he; intro he) | ((first | refine stK hs ?_ | refine stFK hs ?_ | refine stAK hs ?_ | refine msK hs ?_); clear hs; (try clear w); rintro w hs; try simp only [cls] at hs) | ((first | refine al_ok hs ?_ | refine bx_ok hs ?_ | refine bsvK hs ?_ | refine bs1_ok hs ?_ | refine bs0_ok hs ?_); clear hs; (try clear w); rintro _ w hs; try simp only [cls] at hs) | (refine call_ok (by kernel_rfl) (num_calls _ _) ?_; rintro _ _ ⟨rfl, rfl⟩; rw [callK_ret]) | (refine call_still (by kernel_rfl) (num_calls _ _) ?_)))
    replace hs := hs.trunc 0 xs.length rfl
    rw [← List.map_take, List.take_left] at hs
    simp only [List.set_cons_succ, List.set_cons_zero] at hs
    refine call_ok (by kernel_rfl) (Over_calls _ w la lc xs (hs.one 0 rfl) (by omega)) ?_; rintro _ w2 ⟨rfl, hb⟩; rw [callK_ret]; replace hs := Sat.upd hs 0 rfl hb; clear hb; (try clear w); rename World => w; try simp only [cls] at hs
    have hyl2 : (List.replicate xs.length (238 : UInt8)).length = xs.length := List.length_replicate ..
    generalize List.replicate xs.length (238 : UInt8) = ys at *
    (repeat (first | (simp (disch := first | omega | assumption | exact Option.isSome_some | (simp only [adO_isSome]; assumption)) only [↓vcp, vcs, vct, if_true, if_false, Nat.reduceBEq, ↓reduceIte, Nat.reduceEqDiff, Nat.reduceAdd, Nat.reduceMul, Nat.reduceSub, Int.reduceToNat, reduceCtorEq, Nat.reduceLT, Nat.reduceLeDiff, Int.reduceSub, Int.reduceAdd, Int.reduceNeg, Sat.look hs, Sat.lookA hs, cells3 htb hs, hs.old f1, hs.old hrow]) | (refine khK he hs ?_; clear he; intro he) | ((first | refine stK hs ?_ | refine stFK hs ?_ | refine stAK hs ?_ | refine msK hs ?_); clear hs; (try clear w); rintro w hs; try simp only [cls] at hs) | ((first | refine al_ok hs ?_ | refine bx_ok hs ?_ | refine bsvK hs ?_ | refine bs1_ok hs ?_ | refine bs0_ok hs ?_); clear hs; (try clear w); rintro _ w hs; try simp only [cls] at hs) | (refine call_ok (by kernel_rfl) (num_calls _ _) ?_; rintro _ _ ⟨rfl, rfl⟩; rw [callK_ret]) | (refine call_still (by kernel_rfl) (num_calls _ _) ?_)))
    refine call_ok (by kernel_rfl) (hash_calls w ha da ba hc D.length dc B.length bc l i (hhr.up0 hs)) ?_; rintro _ w2 ⟨rfl, hb⟩; rw [callK_ret]; replace hs := Sat.add hs (Below.sat hb); clear hb; (try clear w); rename World => w; try simp only [cls] at hs
    (repeat (first | (simp (disch := first | omega | assumption | exact Option.isSome_some | (simp only [adO_isSome]; assumption)) only [↓vcp, vcs, vct, if_true, if_false, Nat.reduceBEq, ↓reduceIte, Nat.reduceEqDiff, Nat.reduceAdd, Nat.reduceMul, Nat.reduceSub, Int.reduceToNat, reduceCtorEq, Nat.reduceLT, Nat.reduceLeDiff, Int.reduceSub, Int.reduceAdd, Int.reduceNeg, Sat.look hs, Sat.lookA hs, cells3 htb hs, hs.old f1, hs.old hrow]) | (refine khK he hs ?_; clear he; intro he) | ((first | refine stK hs ?_ | refine stFK hs ?_ | refine stAK hs ?_ | refine msK hs ?_); clear hs; (try clear w); rintro w hs; try simp only [cls] at hs) | ((first | refine al_ok hs ?_ | refine bx_ok hs ?_ | refine bsvK hs ?_ | refine bs1_ok hs ?_ | refine bs0_ok hs ?_); clear hs; (try clear w); rintro _ w hs; try simp only [cls] at hs) | (refine call_ok (by kernel_rfl) (num_calls _ _) ?_; rintro _ _ ⟨rfl, rfl⟩; rw [callK_ret]) | (refine call_still (by kernel_rfl) (num_calls _ _) ?_)))
    have hrl := RefLay_calls w (hashAt l i) la lc ys (hs.ro (a := la)) (by omega)
    rw [hyl2] at hrl
    refine call_ok (by kernel_rfl) (hrl) ?_; rintro _ w2 ⟨ua, uc, rfl, huc, hb⟩; rw [callK_ret]; replace hs := Sat.add hs hb; clear hb; (try clear w); rename World => w; try simp only [cls] at hs
    clear hrl
    (repeat (first | (simp (disch := first | omega | assumption | exact Option.isSome_some | (simp only [adO_isSome]; assumption)) only [↓vcp, vcs, vct, if_true, if_false, Nat.reduceBEq, ↓reduceIte, Nat.reduceEqDiff, Nat.reduceAdd, Nat.reduceMul, Nat.reduceSub, Int.reduceToNat, reduceCtorEq, Nat.reduceLT, Nat.reduceLeDiff, Int.reduceSub, Int.reduceAdd, Int.reduceNeg, Sat.look hs, Sat.lookA hs, cells3 htb hs, hs.old f1, hs.old hrow]) | (refine khK he hs ?_; clear he; intro he) | ((first | refine stK hs ?_ | refine stFK hs ?_ | refine stAK hs ?_ | refine msK hs ?_); clear hs; (try clear w); rintro w hs; try simp only [cls] at hs) | ((first | refine al_ok hs ?_ | refine bx_ok hs ?_ | refine bsvK hs ?_ | refine bs1_ok hs ?_ | refine bs0_ok hs ?_); clear hs; (try clear w); rintro _ w hs; try simp only [cls] at hs) | (refine call_ok (by kernel_rfl) (num_calls _ _) ?_; rintro _ _ ⟨rfl, rfl⟩; rw [callK_ret]) | (refine call_still (by kernel_rfl) (num_calls _ _) ?_)))
    refine call_ok (by kernel_rfl) (hash_calls w ha da ba hc D.length dc B.length bc l i (hhr.up0 hs)) ?_; rintro _ w2 ⟨rfl, hb⟩; rw [callK_ret]; replace hs := Sat.add hs (Below.sat hb); clear hb; (try clear w); rename World => w; try simp only [cls] at hs
    (repeat (first | (simp (disch := first | omega | assumption | exact Option.isSome_some | (simp only [adO_isSome]; assumption)) only [↓vcp, vcs, vct, if_true, if_false, Nat.reduceBEq, ↓reduceIte, Nat.reduceEqDiff, Nat.reduceAdd, Nat.reduceMul, Nat.reduceSub, Int.reduceToNat, reduceCtorEq, Nat.reduceLT, Nat.reduceLeDiff, Int.reduceSub, Int.reduceAdd, Int.reduceNeg, Sat.look hs, Sat.lookA hs, cells3 htb hs, hs.old f1, hs.old hrow]) | (refine khK he hs ?_; clear he; intro he) | ((first | refine stK hs ?_ | refine stFK hs ?_ | refine stAK hs ?_ | refine msK hs ?_); clear hs; (try clear w); rintro w hs; try simp only [cls] at hs) | ((first | refine al_ok hs ?_ | refine bx_ok hs ?_ | refine bsvK hs ?_ | refine bs1_ok hs ?_ | refine bs0_ok hs ?_); clear hs; (try clear w); rintro _ w hs; try simp only [cls] at hs) | (refine call_ok (by kernel_rfl) (num_calls _ _) ?_; rintro _ _ ⟨rfl, rfl⟩; rw [callK_ret]) | (refine call_still (by kernel_rfl) (num_calls _ _) ?_)))
    have hrl := DLay_calls w (hashAt l i) la lc ys (hs.ro (a := la)) (by omega)
    rw [hyl2] at hrl
    refine call_ok (by kernel_rfl) (hrl) ?_; rintro _ w2 ⟨va, vc', rfl, hvc, hb⟩; rw [callK_ret]; replace hs := Sat.add hs hb; clear hb; (try clear w); rename World => w; try simp only [cls] at hs
    clear hrl
    have hul66 := @dlay_len (hashAt l i) ys
    generalize dlay (hashAt l i) ys = ul at *
    generalize fitsE (hashAt l i) xs.length = bad2 at *
    (repeat (first | (simp (disch := first | omega | assumption | exact Option.isSome_some | (simp only [adO_isSome]; assumption)) only [↓vcp, vcs, vct, if_true, if_false, Nat.reduceBEq, ↓reduceIte, Nat.reduceEqDiff, Nat.reduceAdd, Nat.reduceMul, Nat.reduceSub, Int.reduceToNat, reduceCtorEq, Nat.reduceLT, Nat.reduceLeDiff, Int.reduceSub, Int.reduceAdd, Int.reduceNeg, Sat.look hs, Sat.lookA hs, cells3 htb hs, hs.old f1, hs.old hrow]) | (refine khK he hs ?_; clear he; intro he) | ((first | refine stK hs ?_ | refine stFK hs ?_ | refine stAK hs ?_ | refine msK hs ?_); clear hs; (try clear w); rintro w hs; try simp only [cls] at hs) | ((first | refine al_ok hs ?_ | refine bx_ok hs ?_ | refine bsvK hs ?_ | refine bs1_ok hs ?_ | refine bs0_ok hs ?_); clear hs; (try clear w); rintro _ w hs; try simp only [cls] at hs) | (refine call_ok (by kernel_rfl) (num_calls _ _) ?_; rintro _ _ ⟨rfl, rfl⟩; rw [callK_ret]) | (refine call_still (by kernel_rfl) (num_calls _ _) ?_)))
    refine call_ok (by kernel_rfl) (Eq_calls w va ua vc' uc ul ul (hs.rd (a := va)) (hs.rd (a := ua)) (by omega)) ?_; rintro _ w2 ⟨rfl, hb⟩; rw [callK_ret]; replace hs := Sat.add hs (Below.sat hb); clear hb; (try clear w); rename World => w; try simp only [cls] at hs
    (repeat (first | (simp (disch := first | omega | assumption | exact Option.isSome_some | (simp only [adO_isSome]; assumption)) only [↓vcp, vcs, vct, if_true, if_false, Nat.reduceBEq, ↓reduceIte, Nat.reduceEqDiff, Nat.reduceAdd, Nat.reduceMul, Nat.reduceSub, Int.reduceToNat, reduceCtorEq, Nat.reduceLT, Nat.reduceLeDiff, Int.reduceSub, Int.reduceAdd, Int.reduceNeg, Sat.look hs, Sat.lookA hs, cells3 htb hs, hs.old f1, hs.old hrow]) | (refine khK he hs ?_; clear he; intro he) | ((first | refine stK hs ?_ | refine stFK hs ?_ | refine stAK hs ?_ | refine msK hs ?_); clear hs; (try clear w); rintro w hs; try simp only [cls] at hs) | ((first | refine al_ok hs ?_ | refine bx_ok hs ?_ | refine bsvK hs ?_ | refine bs1_ok hs ?_ | refine bs0_ok hs ?_); clear hs; (try clear w); rintro _ w hs; try simp only [cls] at hs) | (refine call_ok (by kernel_rfl) (num_calls _ _) ?_; rintro _ _ ⟨rfl, rfl⟩; rw [callK_ret]) | (refine call_still (by kernel_rfl) (num_calls _ _) ?_)))
    replace hs := hs.sub (List.sublist_cons_self _ _)
    have hsA := hs1.add hs
    clear hs
    have hs : Sat (.at w0) (x.cks ++ ((beside bb tb pb args ⟨none, 0, [], none, 0, none, 0, true⟩ [] ++ x.es.flatMap both) ++ (.sl ya yc (dl.map u8v) 5 1 :: [.sl wa wc (dl.map u8v) 5 1, .sl ua uc (ul.map u8v) 5 1, .sl va vc' (ul.map u8v) 5 1]))) w := by
      refine hsA.perm ?_
      simp only [List.append_assoc]
      refine List.Perm.append_left _ (List.Perm.append_left _ (List.Perm.append_left _ ?_))
      exact List.Perm.swap ..
    clear hsA hs1 htb f1 hrow hxr hhr hwr
    rw [← hxl]
    refine call_ok (by kernel_rfl) (Add_in _ w x _ _ ya yc dl wa wc hs (Sat.roF hs) (by omega) (by omega)) ?_
    rintro _ w2 ⟨x2, b2, d2, pad2, rfl, hl2, he2, hb⟩
    rw [callK_ret]
    clear hs
    have hs := hb
    clear hb w
    rename World => w
    (repeat (first | (simp (disch := first | omega | assumption | exact Option.isSome_some | (simp only [adO_isSome]; assumption)) only [↓vcp, vcs, vct, if_true, if_false, Nat.reduceBEq, ↓reduceIte, Nat.reduceEqDiff, Nat.reduceAdd, Nat.reduceMul, Nat.reduceSub, Int.reduceToNat, reduceCtorEq, Nat.reduceLT, Nat.reduceLeDiff, Int.reduceSub, Int.reduceAdd, Int.reduceNeg, Sat.look hs, Sat.lookA hs]) | (refine khK he hs ?_; clear he; intro he) | ((first | refine stK hs ?_ | refine stFK hs ?_ | refine stAK hs ?_ | refine msK hs ?_); clear hs; (try clear w); rintro w hs; try simp only [cls] at hs) | ((first | refine al_ok hs ?_ | refine bx_ok hs ?_ | refine bsvK hs ?_ | refine bs1_ok hs ?_ | refine bs0_ok hs ?_); clear hs; (try clear w); rintro _ w hs; try simp only [cls] at hs)))
    rw [← hl2]
    have hs3 : Sat (.at w0) (x2.cks ++ ((beside bb tb pb args ⟨none, 0, [], none, 0, none, 0, true⟩ [] ++ x2.es.flatMap both) ++ (.sl va vc' (ul.map u8v) 5 1 :: [.sl wa wc (dl.map u8v) 5 1, .sl ua uc (ul.map u8v) 5 1]))) w := by
      refine hs.perm (List.Perm.append_left _ (List.Perm.append_left _ ?_))
      exact (List.perm_append_comm (l₁ := [Ck.sl wa wc (dl.map u8v) 5 1, .sl ua uc (ul.map u8v) 5 1]) (l₂ := [Ck.sl va vc' (ul.map u8v) 5 1]))
    refine call_ok (by kernel_rfl) (Add_in _ w x2 _ _ va vc' ul ua uc hs3 (Sat.roF hs3) (by omega) (by rw [he2, List.length_append]; simp only [List.length_singleton]; omega)) ?_
    rintro _ w2 ⟨x3, b3, d3, pad3, rfl, hl3, he3, hb⟩
    rw [callK_ret]
    clear hs hs3
    have hs := hb
    clear hb w
    rename World => w
    (repeat (first | (simp (disch := first | omega | assumption | exact Option.isSome_some | (simp only [adO_isSome]; assumption)) only [↓vcp, vcs, vct, if_true, if_false, Nat.reduceBEq, ↓reduceIte, Nat.reduceEqDiff, Nat.reduceAdd, Nat.reduceMul, Nat.reduceSub, Int.reduceToNat, reduceCtorEq, Nat.reduceLT, Nat.reduceLeDiff, Int.reduceSub, Int.reduceAdd, Int.reduceNeg, Sat.look hs, Sat.lookA hs]) | (refine khK he hs ?_; clear he; intro he) | ((first | refine stK hs ?_ | refine stFK hs ?_ | refine stAK hs ?_ | refine msK hs ?_); clear hs; (try clear w); rintro w hs; try simp only [cls] at hs) | ((first | refine al_ok hs ?_ | refine bx_ok hs ?_ | refine bsvK hs ?_ | refine bs1_ok hs ?_ | refine bs0_ok hs ?_); clear hs; (try clear w); rintro _ w hs; try simp only [cls] at hs)))
    refine ⟨(k + 1, x3), by rfl, by rfl, ⟨by dsimp only; omega, by dsimp only; rw [hl3, hl2], by dsimp only; rw [he3, he2]; simp only [List.length_append, List.length_singleton]; omega, ?_, ?_⟩, by dsimp only; omega⟩
    · intro e he
      dsimp only at he
      rw [he3, he2] at he
      rcases List.mem_append.1 he with he | he
      · rcases List.mem_append.1 he with he | he
        · exact hxo e he
        · obtain rfl := List.mem_singleton.1 he
          dsimp only; omega
      · obtain rfl := List.mem_singleton.1 he
        dsimp only; omega
    · exact hs.sub (List.Sublist.append_left (List.Sublist.append_left (List.sublist_append_left [Ck.sl wa wc (dl.map u8v) 5 1] [Ck.sl ua uc (ul.map u8v) 5 1]) _) _)
  · clear hs
    rintro e x w ⟨hxl, hxe, hxo, hs⟩
    (repeat (first | (simp (disch := first | omega | assumption | exact Option.isSome_some | (simp only [adO_isSome]; assumption)) only [↓vcp, vcs, vct, if_true, if_false, Nat.reduceBEq, ↓reduceIte, Nat.reduceEqDiff, Nat.reduceAdd, Nat.reduceMul, Nat.reduceSub, Int.reduceToNat, reduceCtorEq, Nat.reduceLT, Nat.reduceLeDiff, Int.reduceSub, Int.reduceAdd, Int.reduceNeg, Sat.look hs, Sat.lookA hs]) | (refine khK he hs ?_; clear he; intro he) | ((first | refine stK hs ?_ | refine stFK hs ?_ | refine stAK hs ?_ | refine msK hs ?_); clear hs; (try clear w); rintro w hs; try simp only [cls] at hs) | ((first | refine al_ok hs ?_ | refine bx_ok hs ?_ | refine bsvK hs ?_ | refine bs1_ok hs ?_ | refine bs0_ok hs ?_); clear hs; (try clear w); rintro _ w hs; try simp only [cls] at hs)))
    refine loop_join (σ := Lt × PlG × List UInt8) 4 [] (fun _ => []) [3, 4] (fun s w' => s.1.l = lb ∧ s.1.es.length ≤ 16000 ∧ esOk s.1.es ∧ Sat (.at w0) (s.1.cks ++ (beside bb tb pb args s.2.1 s.2.2 ++ s.1.es.flatMap both)) w') ?_ ?_
    · refine loop_rule (σ := Nat × Lt × PlG × List UInt8) [17] (fun s => [.int .i64 s.1]) [1, 3, 4, 5] (fun s w' => s.1 ≤ B.length ∧ s.1 ≤ 2000 ∧ s.2.1.l = lb ∧ s.2.1.es.length ≤ 8000 + 4 * s.1 ∧ esOk s.2.1.es ∧ (s.2.2.1.new = true → s.2.2.1.xa = none ∧ s.2.2.1.xc = 0 ∧ s.2.2.1.outs = []) ∧ Sat (.at w0) (s.2.1.cks ++ (beside bb tb pb args s.2.2.1 s.2.2.2 ++ s.2.1.es.flatMap both)) w') (fun s _ => B.length - s.1) (0, x, ⟨none, 0, [], none, 0, none, 0, true⟩, []) (by kernel_rfl) rfl ⟨by omega, by omega, hxl, by dsimp only; omega, hxo, fun _ => ⟨rfl, rfl, rfl⟩, hs⟩ ?_
      clear hs hxl hxe hxo x
      rintro e ⟨i, x, g, ys⟩ wb ⟨hi, hi2, hxl, hxe, hxo, hg, hs1⟩
      dsimp only at hi hi2 hxl hxe hxo hg hs1 ⊢
      have htb : Ro (.at wb) (some ⟨tb, 0, none⟩) args := memBk (pad := []) hs1 (List.mem_append_right _ (List.mem_append_left _ (List.mem_append_right _ (by rw [List.append_nil]; exact .head _))))
      rw [hargs] at htb
      have f2 : oldO (.at wb) (some ⟨tb, 2, none⟩) = some (.slice ba B.length bc) := htb 2 _ rfl
      have hs := Sat.start wb
      simp (disch := first | omega | assumption | exact Option.isSome_some | (simp only [adO_isSome]; assumption)) only [↓vcp, vcs, vct, if_true, if_false, Nat.reduceBEq, ↓reduceIte, Nat.reduceEqDiff, Nat.reduceAdd, Nat.reduceMul, Nat.reduceSub, Int.reduceToNat, reduceCtorEq, Nat.reduceLT, Nat.reduceLeDiff, Int.reduceSub, Int.reduceAdd, Int.reduceNeg, Sat.look hs, Sat.lookA hs, hs.old f2]
      by_cases hlt : i < B.length
      case neg =>
        (repeat (first | (simp (disch := first | omega | assumption | exact Option.isSome_some | (simp only [adO_isSome]; assumption)) only [↓vcp, vcs, vct, if_true, if_false, Nat.reduceBEq, ↓reduceIte, Nat.reduceEqDiff, Nat.reduceAdd, Nat.reduceMul, Nat.reduceSub, Int.reduceToNat, reduceCtorEq, Nat.reduceLT, Nat.reduceLeDiff, Int.reduceSub, Int.reduceAdd, Int.reduceNeg, Sat.look hs, Sat.lookA hs, hs.old f2]) | (refine khK he hs ?_; clear he; intro he) | ((first | refine stK hs ?_ | refine stFK hs ?_ | refine stAK hs ?_ | refine msK hs ?_); clear hs; (try clear w); rintro w hs; try simp only [cls] at hs) | ((first | refine al_ok hs ?_ | refine bx_ok hs ?_ | refine bsvK hs ?_ | refine bs1_ok hs ?_ | refine bs0_ok hs ?_); clear hs; (try clear w); rintro _ w hs; try simp only [cls] at hs)))
        exact ⟨(x, g, ys), by rfl, by rfl, hxl, by dsimp only; omega, hxo, hs1⟩
      by_cases h2000 : i < 2000
      case neg =>
        (repeat (first | (simp (disch := first | omega | assumption | exact Option.isSome_some | (simp only [adO_isSome]; assumption)) only [↓vcp, vcs, vct, if_true, if_false, Nat.reduceBEq, ↓reduceIte, Nat.reduceEqDiff, Nat.reduceAdd, Nat.reduceMul, Nat.reduceSub, Int.reduceToNat, reduceCtorEq, Nat.reduceLT, Nat.reduceLeDiff, Int.reduceSub, Int.reduceAdd, Int.reduceNeg, Sat.look hs, Sat.lookA hs, hs.old f2]) | (refine khK he hs ?_; clear he; intro he) | ((first | refine stK hs ?_ | refine stFK hs ?_ | refine stAK hs ?_ | refine msK hs ?_); clear hs; (try clear w); rintro w hs; try simp only [cls] at hs) | ((first | refine al_ok hs ?_ | refine bx_ok hs ?_ | refine bsvK hs ?_ | refine bs1_ok hs ?_ | refine bs0_ok hs ?_); clear hs; (try clear w); rintro _ w hs; try simp only [cls] at hs)))
        exact ⟨(x, g, ys), by rfl, by rfl, hxl, by dsimp only; omega, hxo, hs1⟩
      have hbs : ba.isSome = true := hB.isSome (by omega)
      obtain ⟨r, hr⟩ : ∃ r, B[i]? = some r := ⟨_, List.getElem?_eq_getElem hlt⟩
      obtain ⟨ra, rc, xs⟩ := r
      obtain ⟨hx1, hx2, hx3⟩ := hB.2 _ (List.mem_of_getElem? hr)
      have hrow : oldO (.at wb) (adO ba i) = some (.slice ra xs.length rc) := row_of (hBr.up0 hs1) hr
      dsimp only at hx1 hx2 hx3
      have hxr : Ro (.at wb) ra (xs.map u8v) := (Rd.ro hx1).up0 hs1
      (repeat (first | (simp (disch := first | omega | assumption | exact Option.isSome_some | (simp only [adO_isSome]; assumption)) only [↓vcp, vcs, vct, if_true, if_false, Nat.reduceBEq, ↓reduceIte, Nat.reduceEqDiff, Nat.reduceAdd, Nat.reduceMul, Nat.reduceSub, Int.reduceToNat, reduceCtorEq, Nat.reduceLT, Nat.reduceLeDiff, Int.reduceSub, Int.reduceAdd, Int.reduceNeg, Sat.look hs, Sat.lookA hs, hs.old f2, hs.old hrow]) | (refine khK he hs ?_; clear he; intro he) | ((first | refine stK hs ?_ | refine stFK hs ?_ | refine stAK hs ?_ | refine msK hs ?_); clear hs; (try clear w); rintro w hs; try simp only [cls] at hs) | ((first | refine al_ok hs ?_ | refine bx_ok hs ?_ | refine bsvK hs ?_ | refine bs1_ok hs ?_ | refine bs0_ok hs ?_); clear hs; (try clear w); rintro _ w hs; try simp only [cls] at hs)))
      refine call_ok (by kernel_rfl) (Other_calls wb ra rc xs hxr hx3) ?_; rintro _ w2 ⟨oa, oc, rfl, hoc, hb⟩; rw [callK_ret]; replace hs := Sat.add hs hb; clear hb; (try clear w); rename World => w; try simp only [cls] at hs
      (repeat (first | (simp (disch := first | omega | assumption | exact Option.isSome_some | (simp only [adO_isSome]; assumption)) only [↓vcp, vcs, vct, if_true, if_false, Nat.reduceBEq, ↓reduceIte, Nat.reduceEqDiff, Nat.reduceAdd, Nat.reduceMul, Nat.reduceSub, Int.reduceToNat, reduceCtorEq, Nat.reduceLT, Nat.reduceLeDiff, Int.reduceSub, Int.reduceAdd, Int.reduceNeg, Sat.look hs, Sat.lookA hs, hs.old f2, hs.old hrow]) | (refine khK he hs ?_; clear he; intro he) | ((first | refine stK hs ?_ | refine stFK hs ?_ | refine stAK hs ?_ | refine msK hs ?_); clear hs; (try clear w); rintro w hs; try simp only [cls] at hs) | ((first | refine al_ok hs ?_ | refine bx_ok hs ?_ | refine bsvK hs ?_ | refine bs1_ok hs ?_ | refine bs0_ok hs ?_); clear hs; (try clear w); rintro _ w hs; try simp only [cls] at hs)))
      have hsA := hs1.add hs
      clear hs
      have hs : Sat (.at w0) (g.cks pb ys ++ (x.cks ++ ((((noBk bb).cks ++ [.bk tb args 47]) ++ x.es.flatMap both) ++ [.sl oa oc ((other xs).map u8v) 5 1]))) w := by
        refine hsA.perm ?_
        have := permAB x.cks ((noBk bb).cks ++ [.bk tb args 47]) (g.cks pb ys) (x.es.flatMap both ++ [.sl oa oc ((other xs).map u8v) 5 1])
        unfold beside
        simp only [List.append_assoc, List.cons_append, List.nil_append] at this ⊢
        exact this
      clear hsA
      refine call_ok (by kernel_rfl) (Bytes_calls _ w pb g ys ra rc xs hs.front hg ((Rd.ro hx1).upF hs) hx3) ?_
      rintro _ w2 ⟨g', H', rfl, hg1, hg2, hb⟩
      rw [callK_ret]
      replace hs := hs.frame (List.Perm.refl _) hb
      replace hs := hs.sub (List.Sublist.append_right (List.sublist_append_left _ H') _)
      clear hb hg hs1 htb f2 hrow hxr w
      rename World => w
      have hol := other_len xs
      (repeat (first | (simp (disch := first | omega | assumption | exact Option.isSome_some | (simp only [adO_isSome]; assumption)) only [↓vcp, vcs, vct, if_true, if_false, Nat.reduceBEq, ↓reduceIte, Nat.reduceEqDiff, Nat.reduceAdd, Nat.reduceMul, Nat.reduceSub, Int.reduceToNat, reduceCtorEq, Nat.reduceLT, Nat.reduceLeDiff, Int.reduceSub, Int.reduceAdd, Int.reduceNeg, Sat.look hs, Sat.lookA hs]) | (refine khK he hs ?_; clear he; intro he) | ((first | refine stK hs ?_ | refine stFK hs ?_ | refine stAK hs ?_ | refine msK hs ?_); clear hs; (try clear w); rintro w hs; try simp only [cls] at hs) | ((first | refine al_ok hs ?_ | refine bx_ok hs ?_ | refine bsvK hs ?_ | refine bs1_ok hs ?_ | refine bs0_ok hs ?_); clear hs; (try clear w); rintro _ w hs; try simp only [cls] at hs)))
      refine loop_rule (σ := Nat × Lt) [20] (fun s => [.int .i64 s.1]) [1, 3, 4, 5, 17, 18, 19] (fun s w' => s.1 ≤ 4 ∧ s.2.l = lb ∧ s.2.es.length ≤ 8000 + 4 * i + s.1 ∧ esOk s.2.es ∧ Sat (.at w0) (g'.cks pb (if s.1 ≤ 2 then xs else other xs) ++ (s.2.cks ++ ((((noBk bb).cks ++ [Ck.bk tb args 47]) ++ s.2.es.flatMap both) ++ [Ck.sl oa oc ((other xs).map u8v) 5 1]))) w') (fun s _ => 4 - s.1) (0, x) (by kernel_rfl) rfl ⟨by omega, hxl, by dsimp only; omega, hxo, hs⟩ ?_
      clear hs hxl hxe hxo x
      rintro e ⟨k, x⟩ wb ⟨hk, hxl, hxe, hxo, hs1⟩
      dsimp only at hk hxl hxe hxo hs1 ⊢
      have htb : Ro (.at wb) (some ⟨tb, 0, none⟩) args := memBk (pad := []) hs1 (List.mem_append_right _ (List.mem_append_right _ (List.mem_append_left _ (List.mem_append_left _ (List.mem_append_right _ (by rw [List.append_nil]; exact .head _))))))
      rw [hargs] at htb
      have f2 : oldO (.at wb) (some ⟨tb, 2, none⟩) = some (.slice ba B.length bc) := htb 2 _ rfl
      have hrow : oldO (.at wb) (adO ba i) = some (.slice ra xs.length rc) := row_of (hBr.up0 hs1) hr
      have hxr : Ro (.at wb) ra (xs.map u8v) := (Rd.ro hx1).up0 hs1
      have hs := Sat.start wb
      simp (disch := first | omega | assumption | exact Option.isSome_some | (simp only [adO_isSome]; assumption)) only [↓vcp, vcs, vct, if_true, if_false, Nat.reduceBEq, ↓reduceIte, Nat.reduceEqDiff, Nat.reduceAdd, Nat.reduceMul, Nat.reduceSub, Int.reduceToNat, reduceCtorEq, Nat.reduceLT, Nat.reduceLeDiff, Int.reduceSub, Int.reduceAdd, Int.reduceNeg, Sat.look hs, Sat.lookA hs]
      by_cases hk4 : k < 4
      case neg =>
        have hcur : (if k ≤ 2 then xs else other xs) = other xs := if_neg (by omega)
        rw [hcur] at hs1
        (repeat (first | (simp (disch := first | omega | assumption | exact Option.isSome_some | (simp only [adO_isSome]; assumption)) only [↓vcp, vcs, vct, if_true, if_false, Nat.reduceBEq, ↓reduceIte, Nat.reduceEqDiff, Nat.reduceAdd, Nat.reduceMul, Nat.reduceSub, Int.reduceToNat, reduceCtorEq, Nat.reduceLT, Nat.reduceLeDiff, Int.reduceSub, Int.reduceAdd, Int.reduceNeg, Sat.look hs, Sat.lookA hs, hs.old f2, hs.old hrow]) | (refine khK he hs ?_; clear he; intro he) | ((first | refine stK hs ?_ | refine stFK hs ?_ | refine stAK hs ?_ | refine msK hs ?_); clear hs; (try clear w); rintro w hs; try simp only [cls] at hs) | ((first | refine al_ok hs ?_ | refine bx_ok hs ?_ | refine bsvK hs ?_ | refine bs1_ok hs ?_ | refine bs0_ok hs ?_); clear hs; (try clear w); rintro _ w hs; try simp only [cls] at hs)))
        refine call_ok (by kernel_rfl) (Lend_calls wb ra rc xs (hxr.rd hs) hx3) ?_; rintro e w2 ⟨la, lc, rfl, hown, hb⟩; rw [callK_ret]
        have hlc70 : xs.length + 70 ≤ lc := by rcases hown.form with ⟨_, h, _⟩ | ⟨_, _, _, _, _, h, _⟩ <;> omega
        replace hs := hs.add (Own.sat hown hb)
        try simp only [cls] at hs
        clear hown hb
        rename World => w
        (repeat (first | (simp (disch := first | omega | assumption | exact Option.isSome_some | (simp only [adO_isSome]; assumption)) only [↓vcp, vcs, vct, if_true, if_false, Nat.reduceBEq, ↓reduceIte, Nat.reduceEqDiff, Nat.reduceAdd, Nat.reduceMul, Nat.reduceSub, Int.reduceToNat, reduceCtorEq, Nat.reduceLT, Nat.reduceLeDiff, Int.reduceSub, Int.reduceAdd, Int.reduceNeg, Sat.look hs, Sat.lookA hs, hs.old f2, hs.old hrow]) | (refine khK he hs ?_; clear he; intro he) | ((first | refine stK hs ?_ | refine stFK hs ?_ | refine stAK hs ?_ | refine msK hs ?_); clear hs; (try clear w); rintro w hs; try simp only [cls] at hs) | ((first | refine al_ok hs ?_ | refine bx_ok hs ?_ | refine bsvK hs ?_ | refine bs1_ok hs ?_ | refine bs0_ok hs ?_); clear hs; (try clear w); rintro _ w hs; try simp only [cls] at hs)))
        have hlr : Ro (.at w) la (xs.map u8v) := by
          have h1 : Ro (.at w) la ((xs ++ marks 70).map u8v) := hs.ro
          have h2 := h1.take xs.length
          rwa [← List.map_take, List.take_left] at h2
        refine call_ok (by kernel_rfl) (DRead_calls w la lc xs hlr (by omega) (by omega)) ?_; rintro _ w2 ⟨ya, yc, rfl, hyc, hb⟩; rw [callK_ret]; replace hs := Sat.add hs hb; clear hb; (try clear w); rename World => w; try simp only [cls] at hs
        clear hlr
        (repeat (first | (simp (disch := first | omega | assumption | exact Option.isSome_some | (simp only [adO_isSome]; assumption)) only [↓vcp, vcs, vct, if_true, if_false, Nat.reduceBEq, ↓reduceIte, Nat.reduceEqDiff, Nat.reduceAdd, Nat.reduceMul, Nat.reduceSub, Int.reduceToNat, reduceCtorEq, Nat.reduceLT, Nat.reduceLeDiff, Int.reduceSub, Int.reduceAdd, Int.reduceNeg, Sat.look hs, Sat.lookA hs, hs.old f2, hs.old hrow]) | (refine khK he hs ?_; clear he; intro he) | ((first | refine stK hs ?_ | refine stFK hs ?_ | refine stAK hs ?_ | refine msK hs ?_); clear hs; (try clear w); rintro w hs; try simp only [cls] at hs) | ((first | refine al_ok hs ?_ | refine bx_ok hs ?_ | refine bsvK hs ?_ | refine bs1_ok hs ?_ | refine bs0_ok hs ?_); clear hs; (try clear w); rintro _ w hs; try simp only [cls] at hs)))
        refine call_ok (by kernel_rfl) (Intact_calls w la ra lc rc xs (hs.rd (a := la)) hlc70 (hxr.rd hs) hx3) ?_; rintro _ w2 ⟨rfl, hb⟩; rw [callK_ret]; replace hs := Sat.add hs (Below.sat hb); clear hb; (try clear w); rename World => w; try simp only [cls] at hs
        (repeat (first | (simp (disch := first | omega | assumption | exact Option.isSome_some | (simp only [adO_isSome]; assumption)) only [↓vcp, vcs, vct, if_true, if_false, Nat.reduceBEq, ↓reduceIte, Nat.reduceEqDiff, Nat.reduceAdd, Nat.reduceMul, Nat.reduceSub, Int.reduceToNat, reduceCtorEq, Nat.reduceLT, Nat.reduceLeDiff, Int.reduceSub, Int.reduceAdd, Int.reduceNeg, Sat.look hs, Sat.lookA hs, hs.old f2, hs.old hrow]) | (refine khK he hs ?_; clear he; intro he) | ((first | refine stK hs ?_ | refine stFK hs ?_ | refine stAK hs ?_ | refine msK hs ?_); clear hs; (try clear w); rintro w hs; try simp only [cls] at hs) | ((first | refine al_ok hs ?_ | refine bx_ok hs ?_ | refine bsvK hs ?_ | refine bs1_ok hs ?_ | refine bs0_ok hs ?_); clear hs; (try clear w); rintro _ w hs; try simp only [cls] at hs)))
        have hsB := stay hs1 (Below.sat hs.belowAt)
        refine ⟨(i + 1, x, g', other xs), by rfl, by rfl, ⟨by dsimp only; omega, by dsimp only; omega, hxl, by dsimp only; omega, hxo, (fun h => by rw [hg1] at h; cases h), ?_⟩, by dsimp only; omega⟩
        replace hsB := hsB.sub (List.Sublist.append_left (List.Sublist.append_left (List.sublist_append_left _ _) _) _)
        refine hsB.perm ?_
        have := (permAB x.cks ((noBk bb).cks ++ [Ck.bk tb args 47]) (g'.cks pb (other xs)) (x.es.flatMap both)).symm
        unfold beside
        simp only [List.append_assoc, List.cons_append, List.nil_append] at this ⊢
        exact this
      (repeat (first | (simp (disch := first | omega | assumption | exact Option.isSome_some | (simp only [adO_isSome]; assumption)) only [↓vcp, vcs, vct, if_true, if_false, Nat.reduceBEq, ↓reduceIte, Nat.reduceEqDiff, Nat.reduceAdd, Nat.reduceMul, Nat.reduceSub, Int.reduceToNat, reduceCtorEq, Nat.reduceLT, Nat.reduceLeDiff, Int.reduceSub, Int.reduceAdd, Int.reduceNeg, Sat.look hs, Sat.lookA hs, hs.old f2, hs.old hrow]) | (refine khK he hs ?_; clear he; intro he) | ((first | refine stK hs ?_ | refine stFK hs ?_ | refine stAK hs ?_ | refine msK hs ?_); clear hs; (try clear w); rintro w hs; try simp only [cls] at hs) | ((first | refine al_ok hs ?_ | refine bx_ok hs ?_ | refine bsvK hs ?_ | refine bs1_ok hs ?_ | refine bs0_ok hs ?_); clear hs; (try clear w); rintro _ w hs; try simp only [cls] at hs)))
      refine cond_join (σ := Unit) [] (fun _ => []) [1, 3, 4, 5, 17, 18, 19, 20, 21] (fun _ w' => Sat (.at w0) (g'.cks pb (if k < 2 then xs else other xs) ++ (x.cks ++ ((((noBk bb).cks ++ [Ck.bk tb args 47]) ++ x.es.flatMap both) ++ [Ck.sl oa oc ((other xs).map u8v) 5 1]))) w') ?_ ?_
      · by_cases hk2 : (k : Int) = 2
        · have hcur : (if k ≤ 2 then xs else other xs) = xs := if_pos (by omega)
          have hcur2 : (if k < 2 then xs else other xs) = other xs := if_neg (by omega)
          rw [hcur] at hs1
          rw [hcur2]
          clear hs
          have hs := hs1
          have hro2 : Ro ⟨wb, (Ck.sl g'.xa g'.xc (xs.map u8v) 5 1).foot⟩ oa ((other xs).map u8v) := hs.roOther (i := 3) rfl (by show 3 ≠ 4 + _; omega)
          have hin := Into_calls _ wb g'.xa oa g'.xc oc xs (other xs) (hs.one 3 rfl) hro2 hol.symm (by omega)
          rw [hol] at hin
          (repeat (first | (simp (disch := first | omega | assumption | exact Option.isSome_some | (simp only [adO_isSome]; assumption)) only [↓vcp, vcs, vct, if_true, if_false, Nat.reduceBEq, ↓reduceIte, Nat.reduceEqDiff, Nat.reduceAdd, Nat.reduceMul, Nat.reduceSub, Int.reduceToNat, reduceCtorEq, Nat.reduceLT, Nat.reduceLeDiff, Int.reduceSub, Int.reduceAdd, Int.reduceNeg, Sat.look hs, Sat.lookA hs]) | (refine khK he hs ?_; clear he; intro he) | ((first | refine stK hs ?_ | refine stFK hs ?_ | refine stAK hs ?_ | refine msK hs ?_); clear hs; (try clear w); rintro w hs; try simp only [cls] at hs) | ((first | refine al_ok hs ?_ | refine bx_ok hs ?_ | refine bsvK hs ?_ | refine bs1_ok hs ?_ | refine bs0_ok hs ?_); clear hs; (try clear w); rintro _ w hs; try simp only [cls] at hs)))
          refine call_ok (by kernel_rfl) hin ?_
          rintro _ w2 ⟨rfl, hb⟩
          rw [callK_ret]
          replace hs := hs.upd1 3 rfl hb
          have hset : ∀ R : List Ck, (g'.cks pb xs ++ R).set 3 (.sl g'.xa g'.xc ((other xs).map u8v) 5 1) = g'.cks pb (other xs) ++ R := fun R => by
            unfold PlG.cks PlG.ins
            rw [hol, hg1]
            rfl
          rw [hset] at hs
          (repeat (first | (simp (disch := first | omega | assumption | exact Option.isSome_some | (simp only [adO_isSome]; assumption)) only [↓vcp, vcs, vct, if_true, if_false, Nat.reduceBEq, ↓reduceIte, Nat.reduceEqDiff, Nat.reduceAdd, Nat.reduceMul, Nat.reduceSub, Int.reduceToNat, reduceCtorEq, Nat.reduceLT, Nat.reduceLeDiff, Int.reduceSub, Int.reduceAdd, Int.reduceNeg, Sat.look hs, Sat.lookA hs]) | (refine khK he hs ?_; clear he; intro he) | ((first | refine stK hs ?_ | refine stFK hs ?_ | refine stAK hs ?_ | refine msK hs ?_); clear hs; (try clear w); rintro w hs; try simp only [cls] at hs) | ((first | refine al_ok hs ?_ | refine bx_ok hs ?_ | refine bsvK hs ?_ | refine bs1_ok hs ?_ | refine bs0_ok hs ?_); clear hs; (try clear w); rintro _ w hs; try simp only [cls] at hs)))
          exact ⟨(), by rfl, by rfl, hs⟩
        · have hcur : (if k ≤ 2 then xs else other xs) = (if k < 2 then xs else other xs) := by
            by_cases h : k < 2
            · rw [if_pos h, if_pos (by omega)]
            · rw [if_neg h, if_neg (by omega)]
          rw [hcur] at hs1
          (repeat (first | (simp (disch := first | omega | assumption | exact Option.isSome_some | (simp only [adO_isSome]; assumption)) only [↓vcp, vcs, vct, if_true, if_false, Nat.reduceBEq, ↓reduceIte, Nat.reduceEqDiff, Nat.reduceAdd, Nat.reduceMul, Nat.reduceSub, Int.reduceToNat, reduceCtorEq, Nat.reduceLT, Nat.reduceLeDiff, Int.reduceSub, Int.reduceAdd, Int.reduceNeg, Sat.look hs, Sat.lookA hs]) | (refine khK he hs ?_; clear he; intro he) | ((first | refine stK hs ?_ | refine stFK hs ?_ | refine stAK hs ?_ | refine msK hs ?_); clear hs; (try clear w); rintro w hs; try simp only [cls] at hs) | ((first | refine al_ok hs ?_ | refine bx_ok hs ?_ | refine bsvK hs ?_ | refine bs1_ok hs ?_ | refine bs0_ok hs ?_); clear hs; (try clear w); rintro _ w hs; try simp only [cls] at hs)))
          exact ⟨(), by rfl, by rfl, hs1⟩
      clear hs hs1 htb f2 hrow hxr
      rintro e _ w hs
      (repeat (first | (simp (disch := first | omega | assumption | exact Option.isSome_some | (simp only [adO_isSome]; assumption)) only [↓vcp, vcs, vct, if_true, if_false, Nat.reduceBEq, ↓reduceIte, Nat.reduceEqDiff, Nat.reduceAdd, Nat.reduceMul, Nat.reduceSub, Int.reduceToNat, reduceCtorEq, Nat.reduceLT, Nat.reduceLeDiff, Int.reduceSub, Int.reduceAdd, Int.reduceNeg, Sat.look hs, Sat.lookA hs]) | (refine khK he hs ?_; clear he; intro he) | ((first | refine stK hs ?_ | refine stFK hs ?_ | refine stAK hs ?_ | refine msK hs ?_); clear hs; (try clear w); rintro w hs; try simp only [cls] at hs) | ((first | refine al_ok hs ?_ | refine bx_ok hs ?_ | refine bsvK hs ?_ | refine bs1_ok hs ?_ | refine bs0_ok hs ?_); clear hs; (try clear w); rintro _ w hs; try simp only [cls] at hs)))
      have hzl : (if k < 2 then xs else other xs).length = xs.length := by
        by_cases h : k < 2
        · rw [if_pos h]
        · rw [if_neg h]; exact hol
      refine cond_join (σ := Option Addr × Nat) [21] (fun s => [.slice s.1 xs.length s.2]) [1, 3, 4, 5, 17, 18, 19, 20] (fun s w' => Ro (.at w') s.1 ((if k < 2 then xs else other xs).map u8v) ∧ xs.length ≤ s.2 ∧ Sat (.at w0) (g'.cks pb (if k < 2 then xs else other xs) ++ (x.cks ++ ((((noBk bb).cks ++ [Ck.bk tb args 47]) ++ x.es.flatMap both) ++ [Ck.sl oa oc ((other xs).map u8v) 5 1]))) w') ?_ ?_
      · by_cases hk2 : k < 2
        · have hz : (if k < 2 then xs else other xs) = xs := if_pos hk2
          rw [hz] at hs ⊢
          (repeat (first | (simp (disch := first | omega | assumption | exact Option.isSome_some | (simp only [adO_isSome]; assumption)) only [↓vcp, vcs, vct, if_true, if_false, Nat.reduceBEq, ↓reduceIte, Nat.reduceEqDiff, Nat.reduceAdd, Nat.reduceMul, Nat.reduceSub, Int.reduceToNat, reduceCtorEq, Nat.reduceLT, Nat.reduceLeDiff, Int.reduceSub, Int.reduceAdd, Int.reduceNeg, Sat.look hs, Sat.lookA hs]) | (refine khK he hs ?_; clear he; intro he) | ((first | refine stK hs ?_ | refine stFK hs ?_ | refine stAK hs ?_ | refine msK hs ?_); clear hs; (try clear w); rintro w hs; try simp only [cls] at hs) | ((first | refine al_ok hs ?_ | refine bx_ok hs ?_ | refine bsvK hs ?_ | refine bs1_ok hs ?_ | refine bs0_ok hs ?_); clear hs; (try clear w); rintro _ w hs; try simp only [cls] at hs)))
          exact ⟨(ra, rc), by rfl, by rfl, (Rd.ro hx1).up0 hs, hx2, hs⟩
        · have hz : (if k < 2 then xs else other xs) = other xs := if_neg hk2
          rw [hz] at hs ⊢
          have hor : Ro (.at w) oa ((other xs).map u8v) := memCk (cp := oc) (el := 5) (sz := 1) hs (List.mem_append_right _ (List.mem_append_right _ (List.mem_append_right _ (.head _))))
          (repeat (first | (simp (disch := first | omega | assumption | exact Option.isSome_some | (simp only [adO_isSome]; assumption)) only [↓vcp, vcs, vct, if_true, if_false, Nat.reduceBEq, ↓reduceIte, Nat.reduceEqDiff, Nat.reduceAdd, Nat.reduceMul, Nat.reduceSub, Int.reduceToNat, reduceCtorEq, Nat.reduceLT, Nat.reduceLeDiff, Int.reduceSub, Int.reduceAdd, Int.reduceNeg, Sat.look hs, Sat.lookA hs]) | (refine khK he hs ?_; clear he; intro he) | ((first | refine stK hs ?_ | refine stFK hs ?_ | refine stAK hs ?_ | refine msK hs ?_); clear hs; (try clear w); rintro w hs; try simp only [cls] at hs) | ((first | refine al_ok hs ?_ | refine bx_ok hs ?_ | refine bsvK hs ?_ | refine bs1_ok hs ?_ | refine bs0_ok hs ?_); clear hs; (try clear w); rintro _ w hs; try simp only [cls] at hs)))
          exact ⟨(oa, oc), by rfl, by rfl, hor, by dsimp only; omega, hs⟩
      clear hs
      clear w
      rintro e ⟨na, nc⟩ wb ⟨hnr, hnc, hs1⟩
      dsimp only at hnr hnc hs1 ⊢
      have hnext : (if k + 1 ≤ 2 then xs else other xs) = (if k < 2 then xs else other xs) := by
        by_cases h : k < 2
        · rw [if_pos h, if_pos (by omega)]
        · rw [if_neg h, if_neg (by omega)]
      generalize (if k < 2 then xs else other xs) = zs at *
      have hs := Sat.start wb
      have hzr : Ro (.at wb) g'.xa (zs.map u8v) := memCk (cp := g'.xc) (el := 5) (sz := 1) hs1 (List.mem_append_left _ (show _ ∈ g'.cks pb zs from .tail _ (.tail _ (.tail _ (.head _)))))
      have hrd := DRead_calls wb g'.xa g'.xc zs hzr (by omega) (by omega)
      rw [hzl] at hrd
      (repeat (first | (simp (disch := first | omega | assumption | exact Option.isSome_some | (simp only [adO_isSome]; assumption)) only [↓vcp, vcs, vct, if_true, if_false, Nat.reduceBEq, ↓reduceIte, Nat.reduceEqDiff, Nat.reduceAdd, Nat.reduceMul, Nat.reduceSub, Int.reduceToNat, reduceCtorEq, Nat.reduceLT, Nat.reduceLeDiff, Int.reduceSub, Int.reduceAdd, Int.reduceNeg, Sat.look hs, Sat.lookA hs]) | (refine khK he hs ?_; clear he; intro he) | ((first | refine stK hs ?_ | refine stFK hs ?_ | refine stAK hs ?_ | refine msK hs ?_); clear hs; (try clear w); rintro w hs; try simp only [cls] at hs) | ((first | refine al_ok hs ?_ | refine bx_ok hs ?_ | refine bsvK hs ?_ | refine bs1_ok hs ?_ | refine bs0_ok hs ?_); clear hs; (try clear w); rintro _ w hs; try simp only [cls] at hs)))
      refine call_ok (by kernel_rfl) hrd ?_
      rintro _ w2 ⟨ya, yc, rfl, hyc, hb⟩
      rw [callK_ret]
      replace hs := hs.add hb
      try simp only [cls] at hs
      clear hb hrd
      rename World => w
      have hrf := RefRead_calls w na nc zs (hnr.up0 hs) (by omega) (by omega)
      rw [hzl] at hrf
      (repeat (first | (simp (disch := first | omega | assumption | exact Option.isSome_some | (simp only [adO_isSome]; assumption)) only [↓vcp, vcs, vct, if_true, if_false, Nat.reduceBEq, ↓reduceIte, Nat.reduceEqDiff, Nat.reduceAdd, Nat.reduceMul, Nat.reduceSub, Int.reduceToNat, reduceCtorEq, Nat.reduceLT, Nat.reduceLeDiff, Int.reduceSub, Int.reduceAdd, Int.reduceNeg, Sat.look hs, Sat.lookA hs]) | (refine khK he hs ?_; clear he; intro he) | ((first | refine stK hs ?_ | refine stFK hs ?_ | refine stAK hs ?_ | refine msK hs ?_); clear hs; (try clear w); rintro w hs; try simp only [cls] at hs) | ((first | refine al_ok hs ?_ | refine bx_ok hs ?_ | refine bsvK hs ?_ | refine bs1_ok hs ?_ | refine bs0_ok hs ?_); clear hs; (try clear w); rintro _ w hs; try simp only [cls] at hs)))
      refine call_ok (by kernel_rfl) hrf ?_
      rintro _ w2 ⟨va, vc', rfl, hvc, hb⟩
      rw [callK_ret]
      replace hs := hs.add hb
      try simp only [cls] at hs
      clear hb hrf w
      rename World => w
      have hdl := dread_len zs
      generalize dread zs = rd at *
      obtain ⟨hq, y, n, f⟩ := rd
      dsimp only at hyc hvc hdl hs ⊢
      (repeat (first | (simp (disch := first | omega | assumption | exact Option.isSome_some | (simp only [adO_isSome]; assumption)) only [↓vcp, vcs, vct, if_true, if_false, Nat.reduceBEq, ↓reduceIte, Nat.reduceEqDiff, Nat.reduceAdd, Nat.reduceMul, Nat.reduceSub, Int.reduceToNat, reduceCtorEq, Nat.reduceLT, Nat.reduceLeDiff, Int.reduceSub, Int.reduceAdd, Int.reduceNeg, Sat.look hs, Sat.lookA hs]) | (refine khK he hs ?_; clear he; intro he) | ((first | refine stK hs ?_ | refine stFK hs ?_ | refine stAK hs ?_ | refine msK hs ?_); clear hs; (try clear w); rintro w hs; try simp only [cls] at hs) | ((first | refine al_ok hs ?_ | refine bx_ok hs ?_ | refine bsvK hs ?_ | refine bs1_ok hs ?_ | refine bs0_ok hs ?_); clear hs; (try clear w); rintro _ w hs; try simp only [cls] at hs) | (refine call_ok (by kernel_rfl) (num_calls _ _) ?_; rintro _ _ ⟨rfl, rfl⟩; rw [callK_ret]) | (refine call_still (by kernel_rfl) (num_calls _ _) ?_)))
      refine call_ok (by kernel_rfl) (Eq_calls w ya va yc vc' y y (hs.rd (a := ya)) (hs.rd (a := va)) (by omega)) ?_; rintro _ w2 ⟨rfl, hb⟩; rw [callK_ret]; replace hs := Sat.add hs (Below.sat hb); clear hb; (try clear w); rename World => w; try simp only [cls] at hs
      (repeat (first | (simp (disch := first | omega | assumption | exact Option.isSome_some | (simp only [adO_isSome]; assumption)) only [↓vcp, vcs, vct, if_true, if_false, Nat.reduceBEq, ↓reduceIte, Nat.reduceEqDiff, Nat.reduceAdd, Nat.reduceMul, Nat.reduceSub, Int.reduceToNat, reduceCtorEq, Nat.reduceLT, Nat.reduceLeDiff, Int.reduceSub, Int.reduceAdd, Int.reduceNeg, Sat.look hs, Sat.lookA hs]) | (refine khK he hs ?_; clear he; intro he) | ((first | refine stK hs ?_ | refine stFK hs ?_ | refine stAK hs ?_ | refine msK hs ?_); clear hs; (try clear w); rintro w hs; try simp only [cls] at hs) | ((first | refine al_ok hs ?_ | refine bx_ok hs ?_ | refine bsvK hs ?_ | refine bs1_ok hs ?_ | refine bs0_ok hs ?_); clear hs; (try clear w); rintro _ w hs; try simp only [cls] at hs) | (refine call_ok (by kernel_rfl) (num_calls _ _) ?_; rintro _ _ ⟨rfl, rfl⟩; rw [callK_ret]) | (refine call_still (by kernel_rfl) (num_calls _ _) ?_)))
      have heq := Eq_calls w g'.xa na g'.xc nc zs zs (hzr.rd hs) (hnr.rd hs) (by omega)
      rw [hzl] at heq
      refine call_ok (by kernel_rfl) (heq) ?_; rintro _ w2 ⟨rfl, hb⟩; rw [callK_ret]; replace hs := Sat.add hs (Below.sat hb); clear hb; (try clear w); rename World => w; try simp only [cls] at hs
      clear heq
      (repeat (first | (simp (disch := first | omega | assumption | exact Option.isSome_some | (simp only [adO_isSome]; assumption)) only [↓vcp, vcs, vct, if_true, if_false, Nat.reduceBEq, ↓reduceIte, Nat.reduceEqDiff, Nat.reduceAdd, Nat.reduceMul, Nat.reduceSub, Int.reduceToNat, reduceCtorEq, Nat.reduceLT, Nat.reduceLeDiff, Int.reduceSub, Int.reduceAdd, Int.reduceNeg, Sat.look hs, Sat.lookA hs]) | (refine khK he hs ?_; clear he; intro he) | ((first | refine stK hs ?_ | refine stFK hs ?_ | refine stAK hs ?_ | refine msK hs ?_); clear hs; (try clear w); rintro w hs; try simp only [cls] at hs) | ((first | refine al_ok hs ?_ | refine bx_ok hs ?_ | refine bsvK hs ?_ | refine bs1_ok hs ?_ | refine bs0_ok hs ?_); clear hs; (try clear w); rintro _ w hs; try simp only [cls] at hs) | (refine call_ok (by kernel_rfl) (num_calls _ _) ?_; rintro _ _ ⟨rfl, rfl⟩; rw [callK_ret]) | (refine call_still (by kernel_rfl) (num_calls _ _) ?_)))
      have hsA := hs1.add hs
      clear hs hs1 hzr hnr
      have hs : Sat (.at w0) (x.cks ++ (((g'.cks pb zs ++ ((noBk bb).cks ++ [Ck.bk tb args 47])) ++ x.es.flatMap both) ++ (Ck.sl ya yc (y.map u8v) 5 1 :: [Ck.sl va vc' (y.map u8v) 5 1, Ck.sl oa oc ((other xs).map u8v) 5 1]))) w := by
        refine hsA.perm ?_
        have h1 := List.perm_append_comm_assoc (g'.cks pb zs) x.cks ((((noBk bb).cks ++ [Ck.bk tb args 47]) ++ x.es.flatMap both) ++ ([Ck.sl oa oc ((other xs).map u8v) 5 1] ++ [Ck.sl ya yc (y.map u8v) 5 1, Ck.sl va vc' (y.map u8v) 5 1]))
        have h2 := (List.perm_append_comm (l₁ := [Ck.sl oa oc ((other xs).map u8v) 5 1]) (l₂ := [Ck.sl ya yc (y.map u8v) 5 1, Ck.sl va vc' (y.map u8v) 5 1]))
        have h3 := List.Perm.append_left x.cks (List.Perm.append_left (g'.cks pb zs) (List.Perm.append_left (((noBk bb).cks ++ [Ck.bk tb args 47]) ++ x.es.flatMap both) h2))
        have h4 := h1.trans h3
        simp only [List.append_assoc, List.cons_append, List.nil_append] at h4 ⊢
        exact h4
      clear hsA
      rw [← hxl]
      refine call_ok (by kernel_rfl) (Add_in _ w x _ _ ya yc y va vc' hs (Sat.roF hs) (by omega) (by omega)) ?_
      rintro _ w2 ⟨x2, b2, d2, pad2, rfl, hl2, he2, hb⟩
      rw [callK_ret]
      clear hs
      have hs := hb
      clear hb w
      rename World => w
      (repeat (first | (simp (disch := first | omega | assumption | exact Option.isSome_some | (simp only [adO_isSome]; assumption)) only [↓vcp, vcs, vct, if_true, if_false, Nat.reduceBEq, ↓reduceIte, Nat.reduceEqDiff, Nat.reduceAdd, Nat.reduceMul, Nat.reduceSub, Int.reduceToNat, reduceCtorEq, Nat.reduceLT, Nat.reduceLeDiff, Int.reduceSub, Int.reduceAdd, Int.reduceNeg, Sat.look hs, Sat.lookA hs]) | (refine khK he hs ?_; clear he; intro he) | ((first | refine stK hs ?_ | refine stFK hs ?_ | refine stAK hs ?_ | refine msK hs ?_); clear hs; (try clear w); rintro w hs; try simp only [cls] at hs) | ((first | refine al_ok hs ?_ | refine bx_ok hs ?_ | refine bsvK hs ?_ | refine bs1_ok hs ?_ | refine bs0_ok hs ?_); clear hs; (try clear w); rintro _ w hs; try simp only [cls] at hs)))
      refine ⟨(k + 1, x2), by rfl, by rfl, ⟨by dsimp only; omega, by dsimp only; rw [hl2], by dsimp only; rw [he2, List.length_append, List.length_singleton]; omega, ?_, ?_⟩, by dsimp only; omega⟩
      · intro e he
        dsimp only at he
        rw [he2] at he
        rcases List.mem_append.1 he with he | he
        · exact hxo e he
        · obtain rfl := List.mem_singleton.1 he
          dsimp only; omega
      · dsimp only
        rw [hnext]
        have h0 := hs.sub (List.Sublist.append_left (List.Sublist.append_left (List.sublist_cons_self (Ck.sl va vc' (y.map u8v) 5 1) [Ck.sl oa oc ((other xs).map u8v) 5 1]) _) _)
        refine h0.perm ?_
        have h1 := (List.perm_append_comm_assoc (g'.cks pb zs) x2.cks ((((noBk bb).cks ++ [Ck.bk tb args 47]) ++ x2.es.flatMap both) ++ [Ck.sl oa oc ((other xs).map u8v) 5 1])).symm
        simp only [List.append_assoc, List.cons_append, List.nil_append] at h1 ⊢
        exact h1
    · clear hs
      rintro e ⟨x, g, ys⟩ w ⟨hxl, hxe, hxo, hs⟩
      dsimp only at hxl hxe hxo hs ⊢
      have hs2 : Sat (.at w0) ((noBk bb).cks ++ (x.cks ++ (x.es.map LE.gck ++ (([] ++ [] : List Kp).map Kp.ck ++ x.es.map LE.wck)))) w := by
        have h0 := hs.sub (List.Sublist.append_left (List.Sublist.append_right (List.sublist_append_left (noBk bb).cks _) _) _)
        refine h0.perm ?_
        have h1 := List.perm_append_comm_assoc x.cks (noBk bb).cks (x.es.flatMap both)
        exact h1.trans (List.Perm.append_left _ (List.Perm.append_left _ (perm_both x.es)))
      clear hs
      have hs := hs2
      clear hs2
      have hbo : BkOk (noBk bb) [] [] [] := ⟨rfl, rfl, (fun k hk => by cases hk), (fun k hk => by cases hk), (fun k hk => by cases hk), by simp [noBk]⟩
      (repeat (first | (simp (disch := first | omega | assumption | exact Option.isSome_some | (simp only [adO_isSome]; assumption)) only [↓vcp, vcs, vct, if_true, if_false, Nat.reduceBEq, ↓reduceIte, Nat.reduceEqDiff, Nat.reduceAdd, Nat.reduceMul, Nat.reduceSub, Int.reduceToNat, reduceCtorEq, Nat.reduceLT, Nat.reduceLeDiff, Int.reduceSub, Int.reduceAdd, Int.reduceNeg, Sat.look hs, Sat.lookA hs]) | (refine khK he hs ?_; clear he; intro he) | ((first | refine stK hs ?_ | refine stFK hs ?_ | refine stAK hs ?_ | refine msK hs ?_); clear hs; (try clear w); rintro w hs; try simp only [cls] at hs) | ((first | refine al_ok hs ?_ | refine bx_ok hs ?_ | refine bsvK hs ?_ | refine bs1_ok hs ?_ | refine bs0_ok hs ?_); clear hs; (try clear w); rintro _ w hs; try simp only [cls] at hs)))
      have hst := Settle_calls _ w (noBk bb) [] [] [] x 0 hbo (by simp [noBk]) (by simp [noBk]; omega) (by simp [noBk]; omega) (by omega) hxo hs
      rw [hxl] at hst
      refine call_ok (by kernel_rfl) hst ?_
      rintro _ w2 ⟨z, old', todo', fams', rfl, hzb, hz, hb⟩
      rw [callK_ret]
      clear hs hst
      have hs := hb
      clear hb w
      rename World => w
      (repeat (first | (simp (disch := first | omega | assumption | exact Option.isSome_some | (simp only [adO_isSome]; assumption)) only [↓vcp, vcs, vct, if_true, if_false, Nat.reduceBEq, ↓reduceIte, Nat.reduceEqDiff, Nat.reduceAdd, Nat.reduceMul, Nat.reduceSub, Int.reduceToNat, reduceCtorEq, Nat.reduceLT, Nat.reduceLeDiff, Int.reduceSub, Int.reduceAdd, Int.reduceNeg, Sat.look hs, Sat.lookA hs]) | (refine khK he hs ?_; clear he; intro he) | ((first | refine stK hs ?_ | refine stFK hs ?_ | refine stAK hs ?_ | refine msK hs ?_); clear hs; (try clear w); rintro w hs; try simp only [cls] at hs) | ((first | refine al_ok hs ?_ | refine bx_ok hs ?_ | refine bsvK hs ?_ | refine bs1_ok hs ?_ | refine bs0_ok hs ?_); clear hs; (try clear w); rintro _ w hs; try simp only [cls] at hs)))
      have hlk := Look_calls _ w z old' todo' fams' hz hs
      rw [hzb] at hlk
      refine call_ok (by kernel_rfl) hlk ?_
      rintro _ w2 ⟨z2, old2, todo2, fams2, rfl, _, _, _, _, hb⟩
      rw [callK_ret]
      clear hs hlk
      have hs := hb
      clear hb w
      rename World => w
      (repeat (first | (simp (disch := first | omega | assumption | exact Option.isSome_some | (simp only [adO_isSome]; assumption)) only [↓vcp, vcs, vct, if_true, if_false, Nat.reduceBEq, ↓reduceIte, Nat.reduceEqDiff, Nat.reduceAdd, Nat.reduceMul, Nat.reduceSub, Int.reduceToNat, reduceCtorEq, Nat.reduceLT, Nat.reduceLeDiff, Int.reduceSub, Int.reduceAdd, Int.reduceNeg, Sat.look hs, Sat.lookA hs]) | (refine khK he hs ?_; clear he; intro he) | ((first | refine stK hs ?_ | refine stFK hs ?_ | refine stAK hs ?_ | refine msK hs ?_); clear hs; (try clear w); rintro w hs; try simp only [cls] at hs) | ((first | refine al_ok hs ?_ | refine bx_ok hs ?_ | refine bsvK hs ?_ | refine bs1_ok hs ?_ | refine bs0_ok hs ?_); clear hs; (try clear w); rintro _ w hs; try simp only [cls] at hs)))
      refine call_ok (by kernel_rfl) (begun_calls w (hG.up0 hs)) ?_; rintro _ w2 ⟨rfl, hb⟩; rw [callK_ret]; replace hs := Sat.add hs (Below.sat hb); clear hb; (try clear w); rename World => w; try simp only [cls] at hs
      (repeat (first | (simp (disch := first | omega | assumption | exact Option.isSome_some | (simp only [adO_isSome]; assumption)) only [↓vcp, vcs, vct, if_true, if_false, Nat.reduceBEq, ↓reduceIte, Nat.reduceEqDiff, Nat.reduceAdd, Nat.reduceMul, Nat.reduceSub, Int.reduceToNat, reduceCtorEq, Nat.reduceLT, Nat.reduceLeDiff, Int.reduceSub, Int.reduceAdd, Int.reduceNeg, Sat.look hs, Sat.lookA hs]) | (refine khK he hs ?_; clear he; intro he) | ((first | refine stK hs ?_ | refine stFK hs ?_ | refine stAK hs ?_ | refine msK hs ?_); clear hs; (try clear w); rintro w hs; try simp only [cls] at hs) | ((first | refine al_ok hs ?_ | refine bx_ok hs ?_ | refine bsvK hs ?_ | refine bs1_ok hs ?_ | refine bs0_ok hs ?_); clear hs; (try clear w); rintro _ w hs; try simp only [cls] at hs)))
      exact ret_tmp rfl (hR _ _ ⟨rfl, hs.belowAt⟩)
end Go.Proofs.YtkklmjioheimfaaDoor.Dig
