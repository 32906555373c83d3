/- The law LinkHolds answers true of any links, codecs and blocks, and leaves what was there as it was. -/
import Derived.Test.YtokoohdpakhphaaDoorLnkE
import Derived.Test.YtokoohdpakhphaaDoorLnkH
import Derived.Test.YtokoohdpakhphaaDoorRowF
import Derived.Test.YtokoohdpakhphaaDoorLoan
namespace Go.Proofs.YtokoohdpakhphaaDoor.Lnk
open Go VC Go.RowKit Dig Sha Loan Help Varint
set_option linter.unusedSimpArgs false
set_option linter.unusedVariables false
set_option maxRecDepth 20000
set_option maxHeartbeats 4000000
theorem stayH {S : Cx} {H F : List Ck} {w0 w : World} (h1 : VC.Sat S H w0) (hs : VC.Sat (.at w0) F w) : VC.Sat S H w := by
  have := h1.add (Below.sat hs.belowAt)
  rwa [List.append_nil] at this
theorem m_loadEOA {S : Cx} {H : List Ck} {w : World} {P : Program} {K : Value → World → Prop} {pan : List PanicEntry → World → Prop} {sz : Nat} (t : TypeId) (he : SatE S H w) [h : TAg P t sz] (p : Option Addr) {xs : List Value} (hx : Ro S p xs) (hn : xs.length = sz) (h0 : 0 < sz) :
    runS (.ahead (SatE S H)) P (Instr.loadAt t (.pointer p)) K pan w = K (.agg xs.toArray) w := m_loadYA t p xs he fun w' hw => by
  obtain ⟨F, hw⟩ := hw
  subst hn
  exact hx.cells hw h0
theorem row_of {S : Cx} {a : Option Addr} {rows : List BRow} (h : Ro S a (rows.map BRow.v)) {i : Nat} {r : BRow} (hr : rows[i]? = some r) : oldO S (adO a i) = some (.slice r.a r.xs.length r.c) := h i _ (by rw [List.getElem?_map, hr]; rfl)
def toLk (x : Int × Nat × Nat × ByteArray × Unit) : Lk := ⟨x.1, x.2.1, x.2.2.1, x.2.2.2.1.data.toList⟩
/-- a link among others in memory -/
theorem ro_link {S : Cx} {a : Option Addr} : ∀ {L : List Lk} {i : Nat} {l : Lk}, Ro S a (L.flatMap Lk.fs) → L[i]? = some l → Ro S (adO a (i * 4)) l.fs := by
  intro L i l h hi
  have hd : (L.flatMap Lk.fs).drop (i * 4) = (L.drop i).flatMap Lk.fs := by
    clear h hi
    induction i generalizing L with
    | zero => simp
    | succ n ih =>
      cases L with
      | nil => simp
      | cons x t =>
        rw [List.flatMap_cons, List.drop_succ_cons, ← ih (L := t), Nat.succ_mul, Nat.add_comm, ← List.drop_drop]
        congr 1
  have h2 := h.drop (i * 4)
  rw [hd] at h2
  obtain ⟨hl, he⟩ := List.getElem?_eq_some_iff.1 hi
  rw [List.drop_eq_getElem_cons hl, List.flatMap_cons, he] at h2
  have h3 := h2.take 4
  have e4 : l.fs.length = 4 := rfl
  rwa [← e4, List.take_left] at h3
theorem fs_len (L : List Lk) : (L.flatMap Lk.fs).length = L.length * 4 := by
  induction L with
  | nil => rfl
  | cons x t ih => rw [List.flatMap_cons, List.length_append, ih, List.length_cons]; show 4 + _ = _; omega
theorem cells4 {S : Cx} {H : List Ck} {w : World} {p : Option Addr} {l : Lk} (h : Ro S p l.fs) (hs : VC.Sat S H w) : cellsO w p 4 = some l.fs := h.cells hs (by show 0 < 4; decide)
theorem lof_d (cd : Nat) (xs : List UInt8) : (lof cd xs).1.d.length ≤ 32 := by
  unfold lof
  split
  · exact Nat.le_of_eq (sum_len xs)
  · exact Nat.zero_le _
theorem LinkHolds_calls (w0 : World) (v3 v4 : Value) (la : Option Addr) (lc : Nat) (L : List Lk) (hL : Rd w0 w0.heap.size la (L.flatMap Lk.fs)) (hLd : ∀ l ∈ L, l.d.length ≤ 140737488351232) (hLn : L.length ≤ 140737488351232)
    (ca : Option Addr) (cc : Nat) (C : List Nat) (hC : Ro (.at w0) ca (C.map fun n : Nat => Value.int .u64 n)) (hCn : C.length ≤ 140737488351232)
    (ba : Option Addr) (bc : Nat) (B : List BRow) (hB : RdBB w0 w0.heap.size ba B) (hBn : B.length ≤ 140737488351232) (hG : Ro (.at w0) (some ⟨1, 0, none⟩) (factors.map u32v)) :
    Calls Tryd.prog 7 #[.agg [.slice la L.length lc, .slice ca C.length cc, .slice ba B.length bc, v3, v4].toArray] w0 fun e w' => e = .returned (.bool true) ∧ Below w0.heap.size w0 w' := by
  refine calls_vc Tryd.func7 rfl (by kernel_rfl) (by kernel_rfl) ?_; intro R hR
  have hs := Sat.start w0
  have hBr : Ro (.at w0) ba (B.map BRow.v) := Rd.ro hB.1
  have hLr : Ro (.at w0) la (L.flatMap Lk.fs) := Rd.ro hL
  (repeat (first | (simp (disch := first | omega | assumption | exact Option.isSome_some | (simp only [adO_isSome]; assumption)) only [↓vcp, vcs, vct, if_true, if_false, Nat.reduceBEq, ↓reduceIte, Nat.reduceEqDiff, Nat.reduceAdd, Nat.reduceMul, Nat.reduceSub, Int.reduceToNat, reduceCtorEq, Nat.reduceLT, Nat.reduceLeDiff, Int.reduceSub, Int.reduceAdd, Int.reduceNeg, Sat.look hs, Sat.lookA hs]) | (refine khK he hs ?_; clear he; intro he) | ((first | refine stK hs ?_ | refine stFK hs ?_ | refine stAK hs ?_ | refine msK hs ?_); clear hs; (try clear w); rintro w hs; try simp only [cls] at hs) | ((first | refine al_ok hs ?_ | refine bx_ok hs ?_ | refine bsvK hs ?_ | refine bs1_ok hs ?_ | refine bs0_ok hs ?_); clear hs; (try clear w); rintro _ w hs; try simp only [cls] at hs)))
  rename_i tb
  refine call_ok (by kernel_rfl) (begun_calls w (hG.up0 hs)) ?_; rintro _ w2 ⟨rfl, hb⟩; rw [callK_ret]; replace hs := Sat.add hs (Below.sat hb); clear hb; (try clear w); rename World => w; try simp only [cls] at hs
  (repeat (first | (simp (disch := first | omega | assumption | exact Option.isSome_some | (simp only [adO_isSome]; assumption)) only [↓vcp, vcs, vct, if_true, if_false, Nat.reduceBEq, ↓reduceIte, Nat.reduceEqDiff, Nat.reduceAdd, Nat.reduceMul, Nat.reduceSub, Int.reduceToNat, reduceCtorEq, Nat.reduceLT, Nat.reduceLeDiff, Int.reduceSub, Int.reduceAdd, Int.reduceNeg, Sat.look hs, Sat.lookA hs]) | (refine khK he hs ?_; clear he; intro he) | ((first | refine stK hs ?_ | refine stFK hs ?_ | refine stAK hs ?_ | refine msK hs ?_); clear hs; (try clear w); rintro w hs; try simp only [cls] at hs) | ((first | refine al_ok hs ?_ | refine bx_ok hs ?_ | refine bsvK hs ?_ | refine bs1_ok hs ?_ | refine bs0_ok hs ?_); clear hs; (try clear w); rintro _ w hs; try simp only [cls] at hs)))
  refine loop_rule (σ := Nat × Nat) [4, 3] (fun s => [.int .i64 s.1, .int .i64 s.2]) [1] (fun s w' => s.1 ≤ B.length ∧ s.2 ≤ 262144 ∧ VC.Sat (.at w0) [.bk tb [.slice la L.length lc, .slice ca C.length cc, .slice ba B.length bc, v3, v4] 28] w') (fun s _ => B.length - s.1) (0, 0) (by kernel_rfl) rfl ⟨by omega, by dsimp only; omega, hs⟩ ?_
  clear hs
  rintro e ⟨i, all⟩ w ⟨hi, hall, hs⟩
  dsimp only at hi hall hs ⊢
  simp (disch := first | omega | assumption | exact Option.isSome_some | (simp only [adO_isSome]; assumption)) only [↓vcp, vcs, vct, if_true, if_false, Nat.reduceBEq, ↓reduceIte, Nat.reduceEqDiff, Nat.reduceAdd, Nat.reduceMul, Nat.reduceSub, Int.reduceToNat, reduceCtorEq, Nat.reduceLT, Nat.reduceLeDiff, Int.reduceSub, Int.reduceAdd, Int.reduceNeg, Sat.look hs, Sat.lookA hs]
  by_cases hlt : i < B.length
  case neg =>
    (repeat (first | (simp (disch := first | omega | assumption | exact Option.isSome_some | (simp only [adO_isSome]; assumption)) only [↓vcp, vcs, vct, if_true, if_false, Nat.reduceBEq, ↓reduceIte, Nat.reduceEqDiff, Nat.reduceAdd, Nat.reduceMul, Nat.reduceSub, Int.reduceToNat, reduceCtorEq, Nat.reduceLT, Nat.reduceLeDiff, Int.reduceSub, Int.reduceAdd, Int.reduceNeg, Sat.look hs, Sat.lookA hs]) | (refine khK he hs ?_; clear he; intro he) | ((first | refine stK hs ?_ | refine stFK hs ?_ | refine stAK hs ?_ | refine msK hs ?_); clear hs; (try clear w); rintro w hs; try simp only [cls] at hs) | ((first | refine al_ok hs ?_ | refine bx_ok hs ?_ | refine bsvK hs ?_ | refine bs1_ok hs ?_ | refine bs0_ok hs ?_); clear hs; (try clear w); rintro _ w hs; try simp only [cls] at hs)))
    refine call_ok (by kernel_rfl) (begun_calls w (hG.up0 hs)) ?_; rintro _ w2 ⟨rfl, hb⟩; rw [callK_ret]; replace hs := Sat.add hs (Below.sat hb); clear hb; (try clear w); rename World => w; try simp only [cls] at hs
    (repeat (first | (simp (disch := first | omega | assumption | exact Option.isSome_some | (simp only [adO_isSome]; assumption)) only [↓vcp, vcs, vct, if_true, if_false, Nat.reduceBEq, ↓reduceIte, Nat.reduceEqDiff, Nat.reduceAdd, Nat.reduceMul, Nat.reduceSub, Int.reduceToNat, reduceCtorEq, Nat.reduceLT, Nat.reduceLeDiff, Int.reduceSub, Int.reduceAdd, Int.reduceNeg, Sat.look hs, Sat.lookA hs]) | (refine khK he hs ?_; clear he; intro he) | ((first | refine stK hs ?_ | refine stFK hs ?_ | refine stAK hs ?_ | refine msK hs ?_); clear hs; (try clear w); rintro w hs; try simp only [cls] at hs) | ((first | refine al_ok hs ?_ | refine bx_ok hs ?_ | refine bsvK hs ?_ | refine bs1_ok hs ?_ | refine bs0_ok hs ?_); clear hs; (try clear w); rintro _ w hs; try simp only [cls] at hs)))
    exact ret_tmp rfl (hR _ _ ⟨rfl, hs.belowAt⟩)
  by_cases h1000 : i < 1000
  case neg =>
    (repeat (first | (simp (disch := first | omega | assumption | exact Option.isSome_some | (simp only [adO_isSome]; assumption)) only [↓vcp, vcs, vct, if_true, if_false, Nat.reduceBEq, ↓reduceIte, Nat.reduceEqDiff, Nat.reduceAdd, Nat.reduceMul, Nat.reduceSub, Int.reduceToNat, reduceCtorEq, Nat.reduceLT, Nat.reduceLeDiff, Int.reduceSub, Int.reduceAdd, Int.reduceNeg, Sat.look hs, Sat.lookA hs]) | (refine khK he hs ?_; clear he; intro he) | ((first | refine stK hs ?_ | refine stFK hs ?_ | refine stAK hs ?_ | refine msK hs ?_); clear hs; (try clear w); rintro w hs; try simp only [cls] at hs) | ((first | refine al_ok hs ?_ | refine bx_ok hs ?_ | refine bsvK hs ?_ | refine bs1_ok hs ?_ | refine bs0_ok hs ?_); clear hs; (try clear w); rintro _ w hs; try simp only [cls] at hs)))
    refine call_ok (by kernel_rfl) (begun_calls w (hG.up0 hs)) ?_; rintro _ w2 ⟨rfl, hb⟩; rw [callK_ret]; replace hs := Sat.add hs (Below.sat hb); clear hb; (try clear w); rename World => w; try simp only [cls] at hs
    (repeat (first | (simp (disch := first | omega | assumption | exact Option.isSome_some | (simp only [adO_isSome]; assumption)) only [↓vcp, vcs, vct, if_true, if_false, Nat.reduceBEq, ↓reduceIte, Nat.reduceEqDiff, Nat.reduceAdd, Nat.reduceMul, Nat.reduceSub, Int.reduceToNat, reduceCtorEq, Nat.reduceLT, Nat.reduceLeDiff, Int.reduceSub, Int.reduceAdd, Int.reduceNeg, Sat.look hs, Sat.lookA hs]) | (refine khK he hs ?_; clear he; intro he) | ((first | refine stK hs ?_ | refine stFK hs ?_ | refine stAK hs ?_ | refine msK hs ?_); clear hs; (try clear w); rintro w hs; try simp only [cls] at hs) | ((first | refine al_ok hs ?_ | refine bx_ok hs ?_ | refine bsvK hs ?_ | refine bs1_ok hs ?_ | refine bs0_ok hs ?_); clear hs; (try clear w); rintro _ w hs; try simp only [cls] at hs)))
    exact ret_tmp rfl (hR _ _ ⟨rfl, hs.belowAt⟩)
  have hbs : ba.isSome = true := hB.isSome (by omega)
  obtain ⟨r, hr⟩ : ∃ r, B[i]? = some r := ⟨_, List.getElem?_eq_getElem hlt⟩
  obtain ⟨ra, rc, xs⟩ := r
  obtain ⟨hx1, hx2, hx3⟩ := hB.2 _ (List.mem_of_getElem? hr)
  have hrow : oldO (.at w0) (adO ba i) = some (.slice ra xs.length rc) := row_of hBr hr
  dsimp only at hx1 hx2 hx3
  have hxr : Ro (.at w0) ra (xs.map u8v) := Rd.ro hx1
  (repeat (first | (simp (disch := first | omega | assumption | exact Option.isSome_some | (simp only [adO_isSome]; assumption)) only [↓vcp, vcs, vct, if_true, if_false, Nat.reduceBEq, ↓reduceIte, Nat.reduceEqDiff, Nat.reduceAdd, Nat.reduceMul, Nat.reduceSub, Int.reduceToNat, reduceCtorEq, Nat.reduceLT, Nat.reduceLeDiff, Int.reduceSub, Int.reduceAdd, Int.reduceNeg, Sat.look hs, Sat.lookA hs, hs.old hrow]) | (refine khK he hs ?_; clear he; intro he) | ((first | refine stK hs ?_ | refine stFK hs ?_ | refine stAK hs ?_ | refine msK hs ?_); clear hs; (try clear w); rintro w hs; try simp only [cls] at hs) | ((first | refine al_ok hs ?_ | refine bx_ok hs ?_ | refine bsvK hs ?_ | refine bs1_ok hs ?_ | refine bs0_ok hs ?_); clear hs; (try clear w); rintro _ w hs; try simp only [cls] at hs)))
  by_cases hbig : 262144 < all + xs.length
  case pos =>
    (repeat (first | (simp (disch := first | omega | assumption | exact Option.isSome_some | (simp only [adO_isSome]; assumption)) only [↓vcp, vcs, vct, if_true, if_false, Nat.reduceBEq, ↓reduceIte, Nat.reduceEqDiff, Nat.reduceAdd, Nat.reduceMul, Nat.reduceSub, Int.reduceToNat, reduceCtorEq, Nat.reduceLT, Nat.reduceLeDiff, Int.reduceSub, Int.reduceAdd, Int.reduceNeg, Sat.look hs, Sat.lookA hs]) | (refine khK he hs ?_; clear he; intro he) | ((first | refine stK hs ?_ | refine stFK hs ?_ | refine stAK hs ?_ | refine msK hs ?_); clear hs; (try clear w); rintro w hs; try simp only [cls] at hs) | ((first | refine al_ok hs ?_ | refine bx_ok hs ?_ | refine bsvK hs ?_ | refine bs1_ok hs ?_ | refine bs0_ok hs ?_); clear hs; (try clear w); rintro _ w hs; try simp only [cls] at hs)))
    refine call_ok (by kernel_rfl) (begun_calls w (hG.up0 hs)) ?_; rintro _ w2 ⟨rfl, hb⟩; rw [callK_ret]; replace hs := Sat.add hs (Below.sat hb); clear hb; (try clear w); rename World => w; try simp only [cls] at hs
    (repeat (first | (simp (disch := first | omega | assumption | exact Option.isSome_some | (simp only [adO_isSome]; assumption)) only [↓vcp, vcs, vct, if_true, if_false, Nat.reduceBEq, ↓reduceIte, Nat.reduceEqDiff, Nat.reduceAdd, Nat.reduceMul, Nat.reduceSub, Int.reduceToNat, reduceCtorEq, Nat.reduceLT, Nat.reduceLeDiff, Int.reduceSub, Int.reduceAdd, Int.reduceNeg, Sat.look hs, Sat.lookA hs]) | (refine khK he hs ?_; clear he; intro he) | ((first | refine stK hs ?_ | refine stFK hs ?_ | refine stAK hs ?_ | refine msK hs ?_); clear hs; (try clear w); rintro w hs; try simp only [cls] at hs) | ((first | refine al_ok hs ?_ | refine bx_ok hs ?_ | refine bsvK hs ?_ | refine bs1_ok hs ?_ | refine bs0_ok hs ?_); clear hs; (try clear w); rintro _ w hs; try simp only [cls] at hs)))
    exact ret_tmp rfl (hR _ _ ⟨rfl, hs.belowAt⟩)
  have hxl : xs.length ≤ 262144 := by omega
  have hs1 := hs
  have htb : Ro (.at w) (some ⟨tb, 0, none⟩) [.slice la L.length lc, .slice ca C.length cc, .slice ba B.length bc, v3, v4] := Rd.ro (hs.rdBk 0 rfl)
  have f0 : oldO (.at w) (some ⟨tb, 0, none⟩) = some (.slice la L.length lc) := htb 0 _ rfl
  have f1 : oldO (.at w) (some ⟨tb, 1, none⟩) = some (.slice ca C.length cc) := htb 1 _ rfl
  have f2 : oldO (.at w) (some ⟨tb, 2, none⟩) = some (.slice ba B.length bc) := htb 2 _ rfl
  have hrow1 : oldO (.at w) (adO ba i) = some (.slice ra xs.length rc) := row_of (hBr.up0 hs) hr
  have hxr1 : Ro (.at w) ra (xs.map u8v) := hxr.up0 hs
  have hG1 := hG.up0 hs
  have hC1 := hC.up0 hs
  have hL1 := hLr.up0 hs
  clear hs
  obtain ⟨wA, rfl⟩ : ∃ wA, wA = w := ⟨w, rfl⟩
  have hs := Sat.start wA
  (repeat (first | (simp (disch := first | omega | assumption | exact Option.isSome_some | (simp only [adO_isSome]; assumption)) only [↓vcp, vcs, vct, if_true, if_false, Nat.reduceBEq, ↓reduceIte, Nat.reduceEqDiff, Nat.reduceAdd, Nat.reduceMul, Nat.reduceSub, Int.reduceToNat, reduceCtorEq, Nat.reduceLT, Nat.reduceLeDiff, Int.reduceSub, Int.reduceAdd, Int.reduceNeg, Sat.look hs, Sat.lookA hs, hs.old f0, hs.old f1, hs.old f2, hs.old hrow1]) | (refine khK he hs ?_; clear he; intro he) | ((first | refine stK hs ?_ | refine stFK hs ?_ | refine stAK hs ?_ | refine msK hs ?_); clear hs; (try clear w); rintro w hs; try simp only [cls] at hs) | ((first | refine al_ok hs ?_ | refine bx_ok hs ?_ | refine bsvK hs ?_ | refine bs1_ok hs ?_ | refine bs0_ok hs ?_); clear hs; (try clear w); rintro _ w hs; try simp only [cls] at hs)))
  refine cond_join (σ := Nat) [5] (fun s => [.int .u64 s]) [1, 3, 4] (fun s w' => VC.Sat (.at wA) [] w') ?_ ?_
  · by_cases hC0 : 0 < C.length
    · have him : i % C.length < C.length := Nat.mod_lt _ hC0
      obtain ⟨cd, hcd⟩ : ∃ cd, C[i % C.length]? = some cd := ⟨_, List.getElem?_eq_getElem him⟩
      have hcr : oldO (.at wA) (adO ca (i % C.length)) = some (.int .u64 cd) := hC1 _ _ (by rw [List.getElem?_map, hcd]; rfl)
      have hcs : ca.isSome = true := hC1.isSome (by rw [List.length_map]; omega)
      (repeat (first | (simp (disch := first | omega | assumption | exact Option.isSome_some | (simp only [adO_isSome]; assumption)) only [↓vcp, vcs, vct, if_true, if_false, Nat.reduceBEq, ↓reduceIte, Nat.reduceEqDiff, Nat.reduceAdd, Nat.reduceMul, Nat.reduceSub, Int.reduceToNat, reduceCtorEq, Nat.reduceLT, Nat.reduceLeDiff, Int.reduceSub, Int.reduceAdd, Int.reduceNeg, Sat.look hs, Sat.lookA hs, hs.old f0, hs.old f1, hs.old f2, hs.old hrow1]) | (refine khK he hs ?_; clear he; intro he) | ((first | refine stK hs ?_ | refine stFK hs ?_ | refine stAK hs ?_ | refine msK hs ?_); clear hs; (try clear w); rintro w hs; try simp only [cls] at hs) | ((first | refine al_ok hs ?_ | refine bx_ok hs ?_ | refine bsvK hs ?_ | refine bs1_ok hs ?_ | refine bs0_ok hs ?_); clear hs; (try clear w); rintro _ w hs; try simp only [cls] at hs)))
      refine draw_still 9 (by kernel_rfl) (by kernel_rfl) (by kernel_rfl) ?_
      replace hs := Sat.drew hs; revert hs; generalize World.drew _ = w; intro hs
      (repeat (first | (simp (disch := first | omega | assumption | exact Option.isSome_some | (simp only [adO_isSome]; assumption)) only [↓vcp, vcs, vct, if_true, if_false, Nat.reduceBEq, ↓reduceIte, Nat.reduceEqDiff, Nat.reduceAdd, Nat.reduceMul, Nat.reduceSub, Int.reduceToNat, reduceCtorEq, Nat.reduceLT, Nat.reduceLeDiff, Int.reduceSub, Int.reduceAdd, Int.reduceNeg, Sat.look hs, Sat.lookA hs, hs.old f0, hs.old f1, hs.old f2, hs.old hrow1, tmod_nat, hs.old hcr]) | (refine khK he hs ?_; clear he; intro he) | ((first | refine stK hs ?_ | refine stFK hs ?_ | refine stAK hs ?_ | refine msK hs ?_); clear hs; (try clear w); rintro w hs; try simp only [cls] at hs) | ((first | refine al_ok hs ?_ | refine bx_ok hs ?_ | refine bsvK hs ?_ | refine bs1_ok hs ?_ | refine bs0_ok hs ?_); clear hs; (try clear w); rintro _ w hs; try simp only [cls] at hs)))
      exact ⟨cd, by rfl, by rfl, hs⟩
    · (repeat (first | (simp (disch := first | omega | assumption | exact Option.isSome_some | (simp only [adO_isSome]; assumption)) only [↓vcp, vcs, vct, if_true, if_false, Nat.reduceBEq, ↓reduceIte, Nat.reduceEqDiff, Nat.reduceAdd, Nat.reduceMul, Nat.reduceSub, Int.reduceToNat, reduceCtorEq, Nat.reduceLT, Nat.reduceLeDiff, Int.reduceSub, Int.reduceAdd, Int.reduceNeg, Sat.look hs, Sat.lookA hs, hs.old f0, hs.old f1, hs.old f2, hs.old hrow1]) | (refine khK he hs ?_; clear he; intro he) | ((first | refine stK hs ?_ | refine stFK hs ?_ | refine stAK hs ?_ | refine msK hs ?_); clear hs; (try clear w); rintro w hs; try simp only [cls] at hs) | ((first | refine al_ok hs ?_ | refine bx_ok hs ?_ | refine bsvK hs ?_ | refine bs1_ok hs ?_ | refine bs0_ok hs ?_); clear hs; (try clear w); rintro _ w hs; try simp only [cls] at hs)))
      exact ⟨85, by rfl, by rfl, hs⟩
  clear hs
  rintro e cd w hs
  (repeat (first | (simp (disch := first | omega | assumption | exact Option.isSome_some | (simp only [adO_isSome]; assumption)) only [↓vcp, vcs, vct, if_true, if_false, Nat.reduceBEq, ↓reduceIte, Nat.reduceEqDiff, Nat.reduceAdd, Nat.reduceMul, Nat.reduceSub, Int.reduceToNat, reduceCtorEq, Nat.reduceLT, Nat.reduceLeDiff, Int.reduceSub, Int.reduceAdd, Int.reduceNeg, Sat.look hs, Sat.lookA hs, hs.old f0, hs.old f1, hs.old f2, hs.old hrow1]) | (refine khK he hs ?_; clear he; intro he) | ((first | refine stK hs ?_ | refine stFK hs ?_ | refine stAK hs ?_ | refine msK hs ?_); clear hs; (try clear w); rintro w hs; try simp only [cls] at hs) | ((first | refine al_ok hs ?_ | refine bx_ok hs ?_ | refine bsvK hs ?_ | refine bs1_ok hs ?_ | refine bs0_ok hs ?_); clear hs; (try clear w); rintro _ w hs; try simp only [cls] at hs)))
  refine call_ok (by kernel_rfl) (Lend_calls w ra rc xs (hxr1.rd hs) hx3) ?_; rintro e w2 ⟨na, nc, rfl, hown, hb⟩; rw [callK_ret]
  have hnc70 : xs.length + 70 ≤ nc := by rcases hown.form with ⟨_, h, _⟩ | ⟨_, _, _, _, _, h, _⟩ <;> omega
  replace hs := hs.add (Own.sat hown hb)
  try simp only [cls] at hs
  clear hown hb
  rename World => w
  (repeat (first | (simp (disch := first | omega | assumption | exact Option.isSome_some | (simp only [adO_isSome]; assumption)) only [↓vcp, vcs, vct, if_true, if_false, Nat.reduceBEq, ↓reduceIte, Nat.reduceEqDiff, Nat.reduceAdd, Nat.reduceMul, Nat.reduceSub, Int.reduceToNat, reduceCtorEq, Nat.reduceLT, Nat.reduceLeDiff, Int.reduceSub, Int.reduceAdd, Int.reduceNeg, Sat.look hs, Sat.lookA hs, hs.old f0, hs.old f1, hs.old f2, hs.old hrow1]) | (refine khK he hs ?_; clear he; intro he) | ((first | refine stK hs ?_ | refine stFK hs ?_ | refine stAK hs ?_ | refine msK hs ?_); clear hs; (try clear w); rintro w hs; try simp only [cls] at hs) | ((first | refine al_ok hs ?_ | refine bx_ok hs ?_ | refine bsvK hs ?_ | refine bs1_ok hs ?_ | refine bs0_ok hs ?_); clear hs; (try clear w); rintro _ w hs; try simp only [cls] at hs)))
  have hnr : Ro (.at w) na (xs.map u8v) := by
    have h1 : Ro (.at w) na ((xs ++ marks 70).map u8v) := hs.ro
    have h2 := h1.take xs.length
    rwa [← List.map_take, List.take_left] at h2
  have q1 := Of_calls w cd na nc xs (hG1.up0 hs) hnr (by omega) (by omega)
  have q2 := fun w h1 => ROf_calls w cd ra rc xs h1 hx3
  have hd32 := lof_d cd xs
  generalize lof cd xs = r at *
  obtain ⟨⟨v, c, h, d⟩, er⟩ := r
  dsimp only at q1 q2 hd32
  have hfs : (⟨v, c, h, d⟩ : Lk).fs = [.int .i64 v, .int .u64 c, .int .u64 h, .string ⟨d.toArray⟩] := rfl
  rw [hfs] at q1 q2
  refine call_ok (by kernel_rfl) (q1) ?_; rintro _ w2 ⟨rfl, hb⟩; rw [callK_ret]; replace hs := Sat.add hs (Below.sat hb); clear hb; (try clear w); rename World => w; try simp only [cls] at hs
  clear q1
  (repeat (first | (simp (disch := first | omega | assumption | exact Option.isSome_some | (simp only [adO_isSome]; assumption)) only [↓vcp, vcs, vct, if_true, if_false, Nat.reduceBEq, ↓reduceIte, Nat.reduceEqDiff, Nat.reduceAdd, Nat.reduceMul, Nat.reduceSub, Int.reduceToNat, reduceCtorEq, Nat.reduceLT, Nat.reduceLeDiff, Int.reduceSub, Int.reduceAdd, Int.reduceNeg, Sat.look hs, Sat.lookA hs, hs.old f0, hs.old f1, hs.old f2, hs.old hrow1]) | (refine khK he hs ?_; clear he; intro he) | ((first | refine stK hs ?_ | refine stFK hs ?_ | refine stAK hs ?_ | refine msK hs ?_); clear hs; (try clear w); rintro w hs; try simp only [cls] at hs) | ((first | refine al_ok hs ?_ | refine bx_ok hs ?_ | refine bsvK hs ?_ | refine bs1_ok hs ?_ | refine bs0_ok hs ?_); clear hs; (try clear w); rintro _ w hs; try simp only [cls] at hs)))
  rename_i t7
  refine call_ok (by kernel_rfl) (q2 w (hxr1.up0 hs)) ?_; rintro _ w2 ⟨rfl, hb⟩; rw [callK_ret]; replace hs := Sat.add hs (Below.sat hb); clear hb; (try clear w); rename World => w; try simp only [cls] at hs
  clear q2
  (repeat (first | (simp (disch := first | omega | assumption | exact Option.isSome_some | (simp only [adO_isSome]; assumption)) only [↓vcp, vcs, vct, if_true, if_false, Nat.reduceBEq, ↓reduceIte, Nat.reduceEqDiff, Nat.reduceAdd, Nat.reduceMul, Nat.reduceSub, Int.reduceToNat, reduceCtorEq, Nat.reduceLT, Nat.reduceLeDiff, Int.reduceSub, Int.reduceAdd, Int.reduceNeg, Sat.look hs, Sat.lookA hs, hs.old f0, hs.old f1, hs.old f2, hs.old hrow1]) | (refine khK he hs ?_; clear he; intro he) | ((first | refine stK hs ?_ | refine stFK hs ?_ | refine stAK hs ?_ | refine msK hs ?_); clear hs; (try clear w); rintro w hs; try simp only [cls] at hs) | ((first | refine al_ok hs ?_ | refine bx_ok hs ?_ | refine bsvK hs ?_ | refine bs1_ok hs ?_ | refine bs0_ok hs ?_); clear hs; (try clear w); rintro _ w hs; try simp only [cls] at hs) | (refine call_ok (by kernel_rfl) (num_calls _ _) ?_; rintro _ _ ⟨rfl, rfl⟩; rw [callK_ret]) | (refine call_still (by kernel_rfl) (num_calls _ _) ?_)))
  rename_i t9
  refine call_ok (by kernel_rfl) (Intact_calls w na ra nc rc xs (hs.rd (a := na)) hnc70 (hxr1.rd hs) hx3) ?_; rintro _ w2 ⟨rfl, hb⟩; rw [callK_ret]; replace hs := Sat.add hs (Below.sat hb); clear hb; (try clear w); rename World => w; try simp only [cls] at hs
  (repeat (first | (simp (disch := first | omega | assumption | exact Option.isSome_some | (simp only [adO_isSome]; assumption)) only [↓vcp, vcs, vct, if_true, if_false, Nat.reduceBEq, ↓reduceIte, Nat.reduceEqDiff, Nat.reduceAdd, Nat.reduceMul, Nat.reduceSub, Int.reduceToNat, reduceCtorEq, Nat.reduceLT, Nat.reduceLeDiff, Int.reduceSub, Int.reduceAdd, Int.reduceNeg, Sat.look hs, Sat.lookA hs, hs.old f0, hs.old f1, hs.old f2, hs.old hrow1]) | (refine khK he hs ?_; clear he; intro he) | ((first | refine stK hs ?_ | refine stFK hs ?_ | refine stAK hs ?_ | refine msK hs ?_); clear hs; (try clear w); rintro w hs; try simp only [cls] at hs) | ((first | refine al_ok hs ?_ | refine bx_ok hs ?_ | refine bsvK hs ?_ | refine bs1_ok hs ?_ | refine bs0_ok hs ?_); clear hs; (try clear w); rintro _ w hs; try simp only [cls] at hs)))
  have hsA := hs
  have ht9 : Ro (.at w) (some ⟨t9, 0, none⟩) [.int .i64 v, .int .u64 c, .int .u64 h, .string ⟨d.toArray⟩] := Rd.ro (hs.rdBk 2 rfl)
  have f93 : oldO (.at w) (some ⟨t9, 3, none⟩) = some (.string ⟨d.toArray⟩) := ht9 3 _ rfl
  have htb2 := htb.up0 hs
  have g0 : oldO (.at w) (some ⟨tb, 0, none⟩) = some (.slice la L.length lc) := htb2 0 _ rfl
  have g2 : oldO (.at w) (some ⟨tb, 2, none⟩) = some (.slice ba B.length bc) := htb2 2 _ rfl
  have hrow2 : oldO (.at w) (adO ba i) = some (.slice ra xs.length rc) := row_of ((hBr.up0 hs1).up0 hs) hr
  have hxr2 := hxr1.up0 hs
  have hG2 := hG1.up0 hs
  have hL2 := hL1.up0 hs
  have hna2 : Ro (.at w) na ((xs ++ marks 70).map u8v) := hs.ro
  clear hs
  obtain ⟨wC, rfl⟩ : ∃ wC, wC = w := ⟨w, rfl⟩
  have hs := Sat.start wC
  refine draw_plan (SatE _ _) [(1, true), (2, true), (4, true), (9, true), (12, true), (13, true), (15, true), (0, true), (3, true), (5, true), (6, true), (7, true), (8, true), (10, true), (11, true), (14, true), (16, true), (17, true), (18, true), (19, true), (20, false), (21, true)] (by kernel_rfl) (by kernel_rfl) (Sat.e (Sat.drew hs)) ?_; replace hs := Sat.drew hs; revert hs; generalize World.drew _ = w; intro hs; have he := Sat.e hs
  (repeat (first | (simp (disch := first | omega | assumption | exact Option.isSome_some | (simp only [adO_isSome]; assumption)) only [↓vcp, vcs, vct, if_true, if_false, Nat.reduceBEq, ↓reduceIte, Nat.reduceEqDiff, Nat.reduceAdd, Nat.reduceMul, Nat.reduceSub, Int.reduceToNat, reduceCtorEq, Nat.reduceLT, Nat.reduceLeDiff, Int.reduceSub, Int.reduceAdd, Int.reduceNeg, Sat.look hs, Sat.lookA hs, m_loadEO _ he _ g2, m_loadEO _ he _ hrow2, m_loadEOA (sz := 4) _ he _ ht9 rfl (by omega), m_loadEO _ he _ f93, m_strOfEO he _ hxr2 rfl]) | (refine khK he hs ?_; clear he; intro he) | ((first | refine stK hs ?_ | refine stFK hs ?_ | refine stAK hs ?_ | refine msK hs ?_); clear hs; (try clear w); rintro w hs; try simp only [cls] at hs) | ((first | refine al_ok hs ?_ | refine bx_ok hs ?_ | refine bsvK hs ?_ | refine bs1_ok hs ?_ | refine bs0_ok hs ?_); clear hs; (try clear w); rintro _ w hs; try simp only [cls] at hs)))
  refine bs4_ok (rows := [[.int .i64 v, .int .u64 c, .int .u64 h, .string ⟨d.toArray⟩], [.int .i64 1, .int .u64 cd, .int .u64 0, .string ⟨xs.toArray⟩], [.int .i64 0, .int .u64 112, .int .u64 18, .string ⟨d.toArray⟩], [.int .i64 1, .int .u64 cd, .int .u64 18, .string ⟨xs.toArray⟩]]) hs (by simp) rfl (by decide) (by decide) ?_
  clear hs; (try clear w)
  rintro l1 w hs
  refine khK he hs ?_; clear he; intro he
  clear he
  (repeat (first | (simp (disch := first | omega | assumption | exact Option.isSome_some | (simp only [adO_isSome]; assumption)) only [↓vcp, vcs, vct, if_true, if_false, Nat.reduceBEq, ↓reduceIte, Nat.reduceEqDiff, Nat.reduceAdd, Nat.reduceMul, Nat.reduceSub, Int.reduceToNat, reduceCtorEq, Nat.reduceLT, Nat.reduceLeDiff, Int.reduceSub, Int.reduceAdd, Int.reduceNeg, Sat.look hs, Sat.lookA hs]) | (refine khK he hs ?_; clear he; intro he) | ((first | refine stK hs ?_ | refine stFK hs ?_ | refine stAK hs ?_ | refine msK hs ?_); clear hs; (try clear w); rintro w hs; try simp only [cls] at hs) | ((first | refine al_ok hs ?_ | refine bx_ok hs ?_ | refine bsvK hs ?_ | refine bs1_ok hs ?_ | refine bs0_ok hs ?_); clear hs; (try clear w); rintro _ w hs; try simp only [cls] at hs)))
  obtain ⟨rows0, hrows0⟩ : ∃ rows0 : List Lk, rows0 = [⟨v, c, h, d⟩, ⟨1, cd, 0, xs⟩, ⟨0, 112, 18, d⟩, ⟨1, cd, 18, xs⟩] := ⟨_, rfl⟩
  have hr0l : rows0.length = 4 := by rw [hrows0]; rfl
  have hr0d : ∀ l ∈ rows0, l.d.length ≤ 140737488351232 := by
    intro l hl
    rw [hrows0] at hl
    simp only [List.mem_cons, List.not_mem_nil, or_false] at hl
    rcases hl with rfl | rfl | rfl | rfl <;> dsimp only <;> omega
  have hs0 : VC.Sat (.at wC) [.sl (some ⟨l1, 0, none⟩) 4 (rows0.flatMap Lk.fs) 35 4] w := by rw [hrows0]; exact hs
  clear hs
  have hs := hs0
  clear hs0
  refine loop_join (σ := Option Addr × Nat × List Lk) 2 [11] (fun s => [.slice s.1 s.2.2.length s.2.1]) [1, 3, 4, 6] (fun s w' => s.2.2.length ≤ 12 ∧ (∀ l ∈ s.2.2, l.d.length ≤ 140737488351232) ∧ VC.Sat (.at wC) [.sl s.1 s.2.1 (s.2.2.flatMap Lk.fs) 35 4] w') ?_ ?_
  · refine loop_rule (σ := Nat × Option Addr × Nat × List Lk) [12, 11] (fun s => [.int .i64 s.1, .slice s.2.1 s.2.2.2.length s.2.2.1]) [1, 3, 4, 6] (fun s w' => s.1 ≤ 8 ∧ s.1 ≤ L.length ∧ s.2.2.2.length ≤ 4 + s.1 ∧ (∀ l ∈ s.2.2.2, l.d.length ≤ 140737488351232) ∧ VC.Sat (.at wC) [.sl s.2.1 s.2.2.1 (s.2.2.2.flatMap Lk.fs) 35 4] w') (fun s _ => L.length - s.1) (0, some ⟨l1, 0, none⟩, 4, rows0) (by kernel_rfl) (by dsimp only; rw [hr0l]; rfl) ⟨by omega, by dsimp only; omega, by dsimp only; omega, hr0d, hs⟩ ?_
    clear hs
    rintro e ⟨k, a, cp, rows⟩ w ⟨hk8, hkL, hrl, hrd, hs⟩
    dsimp only at hk8 hkL hrl hrd hs ⊢
    simp (disch := first | omega | assumption | exact Option.isSome_some | (simp only [adO_isSome]; assumption)) only [↓vcp, vcs, vct, if_true, if_false, Nat.reduceBEq, ↓reduceIte, Nat.reduceEqDiff, Nat.reduceAdd, Nat.reduceMul, Nat.reduceSub, Int.reduceToNat, reduceCtorEq, Nat.reduceLT, Nat.reduceLeDiff, Int.reduceSub, Int.reduceAdd, Int.reduceNeg, Sat.look hs, Sat.lookA hs, hs.old g0]
    by_cases hkl : k < L.length
    case neg =>
      (repeat (first | (simp (disch := first | omega | assumption | exact Option.isSome_some | (simp only [adO_isSome]; assumption)) only [↓vcp, vcs, vct, if_true, if_false, Nat.reduceBEq, ↓reduceIte, Nat.reduceEqDiff, Nat.reduceAdd, Nat.reduceMul, Nat.reduceSub, Int.reduceToNat, reduceCtorEq, Nat.reduceLT, Nat.reduceLeDiff, Int.reduceSub, Int.reduceAdd, Int.reduceNeg, Sat.look hs, Sat.lookA hs, hs.old g0]) | (refine khK he hs ?_; clear he; intro he) | ((first | refine stK hs ?_ | refine stFK hs ?_ | refine stAK hs ?_ | refine msK hs ?_); clear hs; (try clear w); rintro w hs; try simp only [cls] at hs) | ((first | refine al_ok hs ?_ | refine bx_ok hs ?_ | refine bsvK hs ?_ | refine bs1_ok hs ?_ | refine bs0_ok hs ?_); clear hs; (try clear w); rintro _ w hs; try simp only [cls] at hs)))
      exact ⟨(a, cp, rows), by rfl, by rfl, by dsimp only; omega, hrd, hs⟩
    by_cases hk : k < 8
    case neg =>
      (repeat (first | (simp (disch := first | omega | assumption | exact Option.isSome_some | (simp only [adO_isSome]; assumption)) only [↓vcp, vcs, vct, if_true, if_false, Nat.reduceBEq, ↓reduceIte, Nat.reduceEqDiff, Nat.reduceAdd, Nat.reduceMul, Nat.reduceSub, Int.reduceToNat, reduceCtorEq, Nat.reduceLT, Nat.reduceLeDiff, Int.reduceSub, Int.reduceAdd, Int.reduceNeg, Sat.look hs, Sat.lookA hs, hs.old g0]) | (refine khK he hs ?_; clear he; intro he) | ((first | refine stK hs ?_ | refine stFK hs ?_ | refine stAK hs ?_ | refine msK hs ?_); clear hs; (try clear w); rintro w hs; try simp only [cls] at hs) | ((first | refine al_ok hs ?_ | refine bx_ok hs ?_ | refine bsvK hs ?_ | refine bs1_ok hs ?_ | refine bs0_ok hs ?_); clear hs; (try clear w); rintro _ w hs; try simp only [cls] at hs)))
      exact ⟨(a, cp, rows), by rfl, by rfl, by dsimp only; omega, hrd, hs⟩
    obtain ⟨l, hl⟩ : ∃ l, L[k]? = some l := ⟨_, List.getElem?_eq_getElem hkl⟩
    have hlk := ro_link hL2 hl
    have hls : la.isSome = true := hL2.isSome (by rw [fs_len]; omega)
    have hfl := fs_len rows
    have hone : l.fs.all (·.oneCell') = true := rfl
    (repeat (first | (simp (disch := first | omega | assumption | exact Option.isSome_some | (simp only [adO_isSome]; assumption)) only [↓vcp, vcs, vct, if_true, if_false, Nat.reduceBEq, ↓reduceIte, Nat.reduceEqDiff, Nat.reduceAdd, Nat.reduceMul, Nat.reduceSub, Int.reduceToNat, reduceCtorEq, Nat.reduceLT, Nat.reduceLeDiff, Int.reduceSub, Int.reduceAdd, Int.reduceNeg, Sat.look hs, Sat.lookA hs, hs.old g0, cells4 hlk hs]) | (refine khK he hs ?_; clear he; intro he) | ((first | refine stK hs ?_ | refine stFK hs ?_ | refine stAK hs ?_ | refine msK hs ?_); clear hs; (try clear w); rintro w hs; try simp only [cls] at hs) | ((first | refine al_ok hs ?_ | refine bx_ok hs ?_ | refine bsvK hs ?_ | refine bs1_ok hs ?_ | refine bs0_ok hs ?_); clear hs; (try clear w); rintro _ w hs; try simp only [cls] at hs)))
    refine bs4_ok (rows := [l.fs]) hs (fun r hr => by rw [List.mem_singleton.1 hr]; rfl) rfl (by decide) (by decide) ?_
    clear hs; (try clear w)
    rintro l2 w hs
    simp only [List.flatten_cons, List.flatten_nil, List.append_nil, List.cons_append, List.nil_append] at hs
    (repeat (first | (simp (disch := first | omega | assumption | exact Option.isSome_some | (simp only [adO_isSome]; assumption)) only [↓vcp, vcs, vct, if_true, if_false, Nat.reduceBEq, ↓reduceIte, Nat.reduceEqDiff, Nat.reduceAdd, Nat.reduceMul, Nat.reduceSub, Int.reduceToNat, reduceCtorEq, Nat.reduceLT, Nat.reduceLeDiff, Int.reduceSub, Int.reduceAdd, Int.reduceNeg, Sat.look hs, Sat.lookA hs, hs.old g0, cells4 hlk hs]) | (refine khK he hs ?_; clear he; intro he) | ((first | refine stK hs ?_ | refine stFK hs ?_ | refine stAK hs ?_ | refine msK hs ?_); clear hs; (try clear w); rintro w hs; try simp only [cls] at hs) | ((first | refine al_ok hs ?_ | refine bx_ok hs ?_ | refine bsvK hs ?_ | refine bs1_ok hs ?_ | refine bs0_ok hs ?_); clear hs; (try clear w); rintro _ w hs; try simp only [cls] at hs)))
    refine apK 1 hs (hs.rd (a := some ⟨l2, 0, none⟩)) ?_; clear hs; (try clear w); rintro a2 c2 w hc2 hs; try simp only [cls] at hs
    have e1 : rows.flatMap Lk.fs ++ l.fs = (rows ++ [l]).flatMap Lk.fs := by rw [List.flatMap_append]; simp
    rw [e1] at hs
    rw [show rows.length + 1 = (rows ++ [l]).length by simp]
    (repeat (first | (simp (disch := first | omega | assumption | exact Option.isSome_some | (simp only [adO_isSome]; assumption)) only [↓vcp, vcs, vct, if_true, if_false, Nat.reduceBEq, ↓reduceIte, Nat.reduceEqDiff, Nat.reduceAdd, Nat.reduceMul, Nat.reduceSub, Int.reduceToNat, reduceCtorEq, Nat.reduceLT, Nat.reduceLeDiff, Int.reduceSub, Int.reduceAdd, Int.reduceNeg, Sat.look hs, Sat.lookA hs]) | (refine khK he hs ?_; clear he; intro he) | ((first | refine stK hs ?_ | refine stFK hs ?_ | refine stAK hs ?_ | refine msK hs ?_); clear hs; (try clear w); rintro w hs; try simp only [cls] at hs) | ((first | refine al_ok hs ?_ | refine bx_ok hs ?_ | refine bsvK hs ?_ | refine bs1_ok hs ?_ | refine bs0_ok hs ?_); clear hs; (try clear w); rintro _ w hs; try simp only [cls] at hs)))
    exact ⟨(k + 1, a2, c2, rows ++ [l]), by rfl, by rfl, ⟨by dsimp only; omega, by dsimp only; omega, by dsimp only; rw [List.length_append, List.length_singleton]; omega, fun x hx => by
      rcases List.mem_append.1 hx with hx | hx
      · exact hrd x hx
      · rw [List.mem_singleton.1 hx]; exact hLd l (List.mem_of_getElem? hl), hs.sub (.cons_cons _ (List.nil_sublist _))⟩, by dsimp only; omega⟩
  clear hs
  rintro e ⟨a, cp, rows⟩ w ⟨hrl, hrd, hs⟩
  dsimp only at hrl hrd hs ⊢
  have hsC := hs
  have ht11 : Ro (.at w) a (rows.flatMap Lk.fs) := hs.ro
  have htb3 := htb2.up0 hs
  have k2 : oldO (.at w) (some ⟨tb, 2, none⟩) = some (.slice ba B.length bc) := htb3 2 _ rfl
  have hrow3 : oldO (.at w) (adO ba i) = some (.slice ra xs.length rc) := row_of (((hBr.up0 hs1).up0 hsA).up0 hs) hr
  have hxr3 := hxr2.up0 hs
  have hG3 := hG2.up0 hs
  have hna3 := hna2.up0 hs
  clear hs
  obtain ⟨wD, rfl⟩ : ∃ wD, wD = w := ⟨w, rfl⟩
  have hs := Sat.start wD
  (repeat (first | (simp (disch := first | omega | assumption | exact Option.isSome_some | (simp only [adO_isSome]; assumption)) only [↓vcp, vcs, vct, if_true, if_false, Nat.reduceBEq, ↓reduceIte, Nat.reduceEqDiff, Nat.reduceAdd, Nat.reduceMul, Nat.reduceSub, Int.reduceToNat, reduceCtorEq, Nat.reduceLT, Nat.reduceLeDiff, Int.reduceSub, Int.reduceAdd, Int.reduceNeg, Sat.look hs, Sat.lookA hs]) | (refine khK he hs ?_; clear he; intro he) | ((first | refine stK hs ?_ | refine stFK hs ?_ | refine stAK hs ?_ | refine msK hs ?_); clear hs; (try clear w); rintro w hs; try simp only [cls] at hs) | ((first | refine al_ok hs ?_ | refine bx_ok hs ?_ | refine bsvK hs ?_ | refine bs1_ok hs ?_ | refine bs0_ok hs ?_); clear hs; (try clear w); rintro _ w hs; try simp only [cls] at hs)))
  refine loop_rule (σ := Nat) [13] (fun s => [.int .i64 s]) [1, 3, 4, 6, 11] (fun s w' => s ≤ rows.length ∧ VC.Sat (.at wD) [] w') (fun s _ => rows.length - s) 0 (by kernel_rfl) rfl ⟨Nat.zero_le _, hs⟩ ?_
  clear hs
  rintro e k w ⟨hk, hs⟩
  simp (disch := first | omega | assumption | exact Option.isSome_some | (simp only [adO_isSome]; assumption)) only [↓vcp, vcs, vct, if_true, if_false, Nat.reduceBEq, ↓reduceIte, Nat.reduceEqDiff, Nat.reduceAdd, Nat.reduceMul, Nat.reduceSub, Int.reduceToNat, reduceCtorEq, Nat.reduceLT, Nat.reduceLeDiff, Int.reduceSub, Int.reduceAdd, Int.reduceNeg, Sat.look hs, Sat.lookA hs]
  by_cases hkr : k < rows.length
  case neg =>
    (repeat (first | (simp (disch := first | omega | assumption | exact Option.isSome_some | (simp only [adO_isSome]; assumption)) only [↓vcp, vcs, vct, if_true, if_false, Nat.reduceBEq, ↓reduceIte, Nat.reduceEqDiff, Nat.reduceAdd, Nat.reduceMul, Nat.reduceSub, Int.reduceToNat, reduceCtorEq, Nat.reduceLT, Nat.reduceLeDiff, Int.reduceSub, Int.reduceAdd, Int.reduceNeg, Sat.look hs, Sat.lookA hs]) | (refine khK he hs ?_; clear he; intro he) | ((first | refine stK hs ?_ | refine stFK hs ?_ | refine stAK hs ?_ | refine msK hs ?_); clear hs; (try clear w); rintro w hs; try simp only [cls] at hs) | ((first | refine al_ok hs ?_ | refine bx_ok hs ?_ | refine bsvK hs ?_ | refine bs1_ok hs ?_ | refine bs0_ok hs ?_); clear hs; (try clear w); rintro _ w hs; try simp only [cls] at hs)))
    have hfin := stayH hs1 (hsA.add (hsC.add hs))
    exact ⟨(i + 1, all + xs.length), by rfl, by rfl, ⟨by dsimp only; omega, by dsimp only; omega, hfin⟩, by dsimp only; omega⟩
  obtain ⟨l, hl⟩ : ∃ l, rows[k]? = some l := ⟨_, List.getElem?_eq_getElem hkr⟩
  have hlk := ro_link ht11 hl
  have has : a.isSome = true := ht11.isSome (by rw [fs_len]; omega)
  have hld := hrd l (List.mem_of_getElem? hl)
  have hnx : Ro (.at wD) na (xs.map u8v) := by
    have h2 := hna3.take xs.length
    rwa [← List.map_take, List.take_left] at h2
  (repeat (first | (simp (disch := first | omega | assumption | exact Option.isSome_some | (simp only [adO_isSome]; assumption)) only [↓vcp, vcs, vct, if_true, if_false, Nat.reduceBEq, ↓reduceIte, Nat.reduceEqDiff, Nat.reduceAdd, Nat.reduceMul, Nat.reduceSub, Int.reduceToNat, reduceCtorEq, Nat.reduceLT, Nat.reduceLeDiff, Int.reduceSub, Int.reduceAdd, Int.reduceNeg, Sat.look hs, Sat.lookA hs]) | (refine khK he hs ?_; clear he; intro he) | ((first | refine stK hs ?_ | refine stFK hs ?_ | refine stAK hs ?_ | refine msK hs ?_); clear hs; (try clear w); rintro w hs; try simp only [cls] at hs) | ((first | refine al_ok hs ?_ | refine bx_ok hs ?_ | refine bsvK hs ?_ | refine bs1_ok hs ?_ | refine bs0_ok hs ?_); clear hs; (try clear w); rintro _ w hs; try simp only [cls] at hs)))
  refine draw_plan (SatE _ _) [(0, true), (1, true), (2, true), (4, true), (6, true), (7, true), (8, true), (10, true), (12, true), (3, true), (9, true), (11, true), (13, true), (14, true), (5, false), (15, false), (16, true), (17, true), (18, true), (19, true), (21, true), (20, true), (22, true), (23, true), (24, false), (25, true), (26, true)] (by kernel_rfl) (by kernel_rfl) (Sat.e (Sat.drew hs)) ?_; replace hs := Sat.drew hs; revert hs; generalize World.drew _ = w; intro hs; have he := Sat.e hs
  (repeat (first | (simp (disch := first | omega | assumption | exact Option.isSome_some | (simp only [adO_isSome]; assumption)) only [↓vcp, vcs, vct, if_true, if_false, Nat.reduceBEq, ↓reduceIte, Nat.reduceEqDiff, Nat.reduceAdd, Nat.reduceMul, Nat.reduceSub, Int.reduceToNat, reduceCtorEq, Nat.reduceLT, Nat.reduceLeDiff, Int.reduceSub, Int.reduceAdd, Int.reduceNeg, Sat.look hs, Sat.lookA hs, m_loadEO _ he _ k2, m_loadEO _ he _ hrow3, m_loadEOA (sz := 4) _ he _ hlk rfl (by omega)]) | (refine khK he hs ?_; clear he; intro he) | ((first | refine stK hs ?_ | refine stFK hs ?_ | refine stAK hs ?_ | refine msK hs ?_); clear hs; (try clear w); rintro w hs; try simp only [cls] at hs) | ((first | refine al_ok hs ?_ | refine bx_ok hs ?_ | refine bsvK hs ?_ | refine bs1_ok hs ?_ | refine bs0_ok hs ?_); clear hs; (try clear w); rintro _ w hs; try simp only [cls] at hs)))
  have q1 := LHolds_calls w l na nc xs (hG3.up0 hs) (hnx.up0 hs) (by omega) (by omega) (by omega)
  generalize hbb : lholds l xs = bb at q1
  refine call_ok (by kernel_rfl) (q1) ?_; rintro _ w2 ⟨rfl, hb⟩; rw [callK_ret]; replace hs := Sat.add hs (Below.sat hb); clear hb; (try clear w); rename World => w; try simp only [cls] at hs
  clear q1
  refine khK he hs ?_; clear he; intro he
  (repeat (first | (simp (disch := first | omega | assumption | exact Option.isSome_some | (simp only [adO_isSome]; assumption)) only [↓vcp, vcs, vct, if_true, if_false, Nat.reduceBEq, ↓reduceIte, Nat.reduceEqDiff, Nat.reduceAdd, Nat.reduceMul, Nat.reduceSub, Int.reduceToNat, reduceCtorEq, Nat.reduceLT, Nat.reduceLeDiff, Int.reduceSub, Int.reduceAdd, Int.reduceNeg, Sat.look hs, Sat.lookA hs, m_loadEO _ he _ k2, m_loadEO _ he _ hrow3, m_loadEOA (sz := 4) _ he _ hlk rfl (by omega)]) | (refine khK he hs ?_; clear he; intro he) | ((first | refine stK hs ?_ | refine stFK hs ?_ | refine stAK hs ?_ | refine msK hs ?_); clear hs; (try clear w); rintro w hs; try simp only [cls] at hs) | ((first | refine al_ok hs ?_ | refine bx_ok hs ?_ | refine bsvK hs ?_ | refine bs1_ok hs ?_ | refine bs0_ok hs ?_); clear hs; (try clear w); rintro _ w hs; try simp only [cls] at hs)))
  have q1 := RLHolds_calls w l ra rc xs (hG3.up0 hs) (hxr3.up0 hs) hx2 hx3 hld
  rw [hbb] at q1
  refine call_ok (by kernel_rfl) (q1) ?_; rintro _ w2 ⟨rfl, hb⟩; rw [callK_ret]; replace hs := Sat.add hs (Below.sat hb); clear hb; (try clear w); rename World => w; try simp only [cls] at hs
  clear q1
  refine khK he hs ?_; clear he; intro he
  (repeat (first | (simp (disch := first | omega | assumption | exact Option.isSome_some | (simp only [adO_isSome]; assumption)) only [↓vcp, vcs, vct, if_true, if_false, Nat.reduceBEq, ↓reduceIte, Nat.reduceEqDiff, Nat.reduceAdd, Nat.reduceMul, Nat.reduceSub, Int.reduceToNat, reduceCtorEq, Nat.reduceLT, Nat.reduceLeDiff, Int.reduceSub, Int.reduceAdd, Int.reduceNeg, Sat.look hs, Sat.lookA hs, m_loadEO _ he _ k2, m_loadEO _ he _ hrow3, m_loadEOA (sz := 4) _ he _ hlk rfl (by omega)]) | (refine khK he hs ?_; clear he; intro he) | ((first | refine stK hs ?_ | refine stFK hs ?_ | refine stAK hs ?_ | refine msK hs ?_); clear hs; (try clear w); rintro w hs; try simp only [cls] at hs) | ((first | refine al_ok hs ?_ | refine bx_ok hs ?_ | refine bsvK hs ?_ | refine bs1_ok hs ?_ | refine bs0_ok hs ?_); clear hs; (try clear w); rintro _ w hs; try simp only [cls] at hs)))
  refine call_ok (by kernel_rfl) (Intact_calls w na ra nc rc xs (hna3.rd hs) hnc70 (hxr3.rd hs) hx3) ?_; rintro _ w2 ⟨rfl, hb⟩; rw [callK_ret]; replace hs := Sat.add hs (Below.sat hb); clear hb; (try clear w); rename World => w; try simp only [cls] at hs
  refine khK he hs ?_; clear he; intro he
  (repeat (first | (simp (disch := first | omega | assumption | exact Option.isSome_some | (simp only [adO_isSome]; assumption)) only [↓vcp, vcs, vct, if_true, if_false, Nat.reduceBEq, ↓reduceIte, Nat.reduceEqDiff, Nat.reduceAdd, Nat.reduceMul, Nat.reduceSub, Int.reduceToNat, reduceCtorEq, Nat.reduceLT, Nat.reduceLeDiff, Int.reduceSub, Int.reduceAdd, Int.reduceNeg, Sat.look hs, Sat.lookA hs, m_loadEO _ he _ k2, m_loadEO _ he _ hrow3, m_loadEOA (sz := 4) _ he _ hlk rfl (by omega)]) | (refine khK he hs ?_; clear he; intro he) | ((first | refine stK hs ?_ | refine stFK hs ?_ | refine stAK hs ?_ | refine msK hs ?_); clear hs; (try clear w); rintro w hs; try simp only [cls] at hs) | ((first | refine al_ok hs ?_ | refine bx_ok hs ?_ | refine bsvK hs ?_ | refine bs1_ok hs ?_ | refine bs0_ok hs ?_); clear hs; (try clear w); rintro _ w hs; try simp only [cls] at hs)))
  exact ⟨k + 1, by rfl, by rfl, ⟨by omega, hs⟩, by dsimp only; omega⟩
end Go.Proofs.YtokoohdpakhphaaDoor.Lnk
