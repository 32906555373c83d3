/- The law VarintExact answers true of any numbers and bytes, and leaves what was there as it was. -/
import Derived.Test.YtinnfbhdafkogaaRefVar
import Derived.Test.YtinnfbhdafkogaaSettle2
import Derived.Test.YtinnfbhdafkogaaLoan
import Derived.Test.YtinnfbhdafkogaaRowsB
namespace Go.Proofs.Ytinnfbhdafkogaa.Varint
open Go VC Go.RowKit Help Book Loan
set_option linter.unusedSimpArgs false
set_option linter.unusedVariables false
set_option maxRecDepth 20000
set_option maxHeartbeats 4000000
def both (e : LE) : List Ck := [LE.gck e, LE.wck e]
theorem perm_both : ∀ es : List LE, (es.flatMap both).Perm (es.map LE.gck ++ es.map LE.wck)
  | [] => .nil
  | e :: es => by
    rw [List.flatMap_cons, List.map_cons, List.map_cons, List.cons_append]
    refine List.Perm.cons _ ?_
    refine (List.Perm.cons _ (perm_both es)).trans ?_
    exact List.perm_middle.symm
/-- an answer is kept: its row stands among the others -/
theorem Add_in (S : Cx) (w0 : World) (x : Lt) (R F : List Ck) (a : Option Addr) (c : Nat) (xs : List UInt8) (wa : Option Addr) (wc : Nat) (hs : Sat S (x.cks ++ ((R ++ x.es.flatMap both) ++ (.sl a c (xs.map u8v) 5 1 :: F))) w0) (hw : Ro ⟨w0, footL x.cks⟩ wa (xs.map u8v)) (hl : xs.length ≤ 140737488355328) (hes : x.es.length ≤ 1099511627776) :
    Calls Try.prog 19 #[.pointer (some ⟨x.l, 0, none⟩), .slice a xs.length c, .slice wa xs.length wc] w0 fun e w' => ∃ (y : Lt) (b d : Nat) (pad : List Value), e = .returned (.tuple #[]) ∧ y.l = x.l ∧ y.es = x.es ++ [⟨a, c, xs, b, d, pad⟩] ∧ Sat S (y.cks ++ ((R ++ y.es.flatMap both) ++ F)) w' := by
  refine Calls.mono (Add_calls _ w0 x a c xs wa wc hs.front hw hl hes) fun e w' ⟨y, b, d, pad, h1, h2, h3, _, hb⟩ => ⟨y, b, d, pad, h1, h2, h3, ?_⟩
  have h := hs.frame (List.Perm.refl _) hb
  refine h.perm ?_
  rw [h3, List.flatMap_append, List.append_assoc]
  refine List.Perm.append_left _ ?_
  have e1 : ([(⟨a, c, xs, b, d, pad⟩ : LE)].flatMap both) = [.sl a c (xs.map u8v) 5 1, LE.wck ⟨a, c, xs, b, d, pad⟩] := rfl
  rw [e1]
  have p1 := (List.perm_middle (a := LE.wck ⟨a, c, xs, b, d, pad⟩) (l₁ := (R ++ x.es.flatMap both) ++ [.sl a c (xs.map u8v) 5 1]) (l₂ := F)).symm
  simp only [List.append_assoc, List.cons_append, List.nil_append] at p1 ⊢
  exact p1
def noBk (b : Nat) : Bk := ⟨b, none, 0, none, 0, [], 0, 0, 0, 0⟩
theorem row_of {S : Cx} {a : Option Addr} {rows : List BRow} (h : Ro S a (rows.map BRow.v)) {i : Nat} {r : BRow} (hr : rows[i]? = some r) : oldO S (adO a i) = some (.slice r.a r.xs.length r.c) := h i _ (by rw [List.getElem?_map, hr]; rfl)
def esOk (es : List LE) : Prop := ∀ e ∈ es, e.xs.length ≤ 140737488351232
theorem permS {α : Type} (y z K t X G W : List α) (h : X.Perm (G ++ W)) : (y ++ ((z ++ (K ++ t)) ++ X)).Perm ((z ++ (y ++ (G ++ (K ++ W)))) ++ t) := by
  have h1 := List.perm_append_comm_assoc y z (K ++ (t ++ X))
  have h2 : (t ++ X).Perm (G ++ (W ++ t)) := by
    have := List.perm_append_comm (l₁ := t) (l₂ := X)
    have h3 := this.trans (h.append_right t)
    rwa [List.append_assoc] at h3
  have h4 : (K ++ (t ++ X)).Perm (G ++ (K ++ (W ++ t))) := (List.Perm.append_left K h2).trans (List.perm_append_comm_assoc K G (W ++ t))
  have h5 := h1.trans (List.Perm.append_left z (List.Perm.append_left y h4))
  simp only [List.append_assoc] at h5 ⊢
  exact h5
def stV (z : Bk) (K : List Kp) (y : Lt) (tb : Nat) (args : List Value) : List Ck := y.cks ++ ((z.cks ++ (K.map Kp.ck ++ [.bk tb args 34])) ++ y.es.flatMap both)
theorem perm7 {α : Type} (tb bb lb x1 x2 x3 x4 : α) : [tb, bb, lb, x1, x2, x3, x4].Perm [lb, x1, x2, bb, x3, x4, tb] := by
  refine (List.perm_middle (l₁ := [tb, bb])).trans (.cons _ ?_)
  refine (List.perm_middle (l₁ := [tb, bb])).trans (.cons _ ?_)
  refine (List.perm_middle (l₁ := [tb, bb])).trans (.cons _ ?_)
  refine (List.perm_middle (l₁ := [tb])).trans (.cons _ ?_)
  refine (List.perm_middle (l₁ := [tb])).trans (.cons _ ?_)
  exact (List.perm_middle (l₁ := [tb])).trans (.cons _ (.refl _))
/-- the front of a row is written over -/
theorem IntoF_calls (S : Cx) (w0 : World) (a b : Option Addr) (c d : Nat) (xs ys zs : List UInt8) (hs : Sat S [.sl a c ((xs ++ zs).map u8v) 5 1] w0) (hy : Ro S b (ys.map u8v)) (hl : xs.length = ys.length) (hm : xs.length ≤ 140737488355328) :
    Calls Try.prog 25 #[.slice a xs.length c, .slice b ys.length d] w0 fun e w' => e = .returned (.tuple #[]) ∧ Sat S [.sl a c ((ys ++ zs).map u8v) 5 1] w' := by
  refine calls_vc Try.func25 rfl (by kernel_rfl) (by kernel_rfl) ?_; intro R hR
  simp (disch := first | omega | assumption | exact Option.isSome_some | (simp only [adO_isSome]; assumption)) only [↓vcp, vcs, vct, if_true, if_false, Nat.reduceBEq, ↓reduceIte, Nat.reduceEqDiff, Nat.reduceAdd, Nat.reduceMul, Nat.reduceSub, Int.reduceToNat, reduceCtorEq, Nat.reduceLT, Nat.reduceLeDiff, Int.reduceSub, Int.reduceAdd, Int.reduceNeg, Sat.look hs, Sat.lookA hs]
  refine loop_rule (σ := Nat) [4] (fun i => [.int .i64 i]) [0, 1] (fun i w' => i ≤ xs.length ∧ Sat S [.sl a c (((ys.take i ++ xs.drop i) ++ zs).map u8v) 5 1] w') (fun i _ => xs.length - i) 0 (by kernel_rfl) rfl ⟨by omega, by simpa using hs⟩ ?_
  clear hs
  rintro e i w ⟨hi, hs⟩
  have hll : ((ys.take i ++ xs.drop i) ++ zs).length = xs.length + zs.length := by simp; omega
  simp (disch := first | omega | assumption | exact Option.isSome_some | (simp only [adO_isSome]; assumption)) only [↓vcp, vcs, vct, if_true, if_false, Nat.reduceBEq, ↓reduceIte, Nat.reduceEqDiff, Nat.reduceAdd, Nat.reduceMul, Nat.reduceSub, Int.reduceToNat, reduceCtorEq, Nat.reduceLT, Nat.reduceLeDiff, Int.reduceSub, Int.reduceAdd, Int.reduceNeg, Sat.look hs, Sat.lookA hs]
  by_cases hlt : i < xs.length
  case pos =>
    have ha : a.isSome = true := hs.isSome (a := a) (xs := ((ys.take i ++ xs.drop i) ++ zs).map u8v) (by rw [List.length_map, hll]; omega)
    have hb : b.isSome = true := hy.isSome (by simp; omega)
    have hc := hy i _ (u8get (show i < ys.length by omega))
    have hset : (((ys.take i ++ xs.drop i) ++ zs).map u8v).set i (u8v ys[i]) = ((ys.take (i + 1) ++ xs.drop (i + 1)) ++ zs).map u8v := by
      rw [← List.map_set, List.set_append_left _ _ (by simp; omega), set_step hl (by omega)]
    generalize hq : ((ys.take i ++ xs.drop i) ++ zs).map u8v = q at *
    have hql : q.length = xs.length + zs.length := by rw [← hq, List.length_map]; exact hll
    (repeat (first | (simp (disch := first | omega | assumption | exact Option.isSome_some | (simp only [adO_isSome]; assumption)) only [↓vcp, vcs, vct, if_true, if_false, Nat.reduceBEq, ↓reduceIte, Nat.reduceEqDiff, Nat.reduceAdd, Nat.reduceMul, Nat.reduceSub, Int.reduceToNat, reduceCtorEq, Nat.reduceLT, Nat.reduceLeDiff, Int.reduceSub, Int.reduceAdd, Int.reduceNeg, Sat.look hs, Sat.lookA hs, hs.old hc]) | (refine khK he hs ?_; clear he; intro he) | ((first | refine stK hs ?_ | refine stFK hs ?_ | refine stAK hs ?_ | refine msK hs ?_); clear hs; (try clear w); rintro w hs; try simp only [cls] at hs; try simp only [hset, hql] at hs) | ((first | refine al_ok hs ?_ | refine bx_ok hs ?_ | refine bsvK hs ?_ | refine bs1_ok hs ?_ | refine bs0_ok hs ?_); clear hs; (try clear w); rintro _ w hs; try simp only [cls] at hs; try simp only [hset, hql] at hs) | ((first | refine stK hs ?_ (by first | omega | (simp only [hset, hql, cells_bk, cells_sl, List.length_cons, List.length_nil, List.length_set, List.length_append, List.length_map, List.length_replicate, List.length_take, List.length_drop]; omega) | assumption | rfl) | refine stFK hs ?_ (by first | omega | (simp only [hset, hql, cells_bk, cells_sl, List.length_cons, List.length_nil, List.length_set, List.length_append, List.length_map, List.length_replicate, List.length_take, List.length_drop]; omega) | assumption | rfl) (by first | omega | (simp only [hset, hql, cells_bk, cells_sl, List.length_cons, List.length_nil, List.length_set, List.length_append, List.length_map, List.length_replicate, List.length_take, List.length_drop]; omega) | assumption | rfl) | refine stAK hs ?_ (by first | omega | (simp only [hset, hql, cells_bk, cells_sl, List.length_cons, List.length_nil, List.length_set, List.length_append, List.length_map, List.length_replicate, List.length_take, List.length_drop]; omega) | assumption | rfl) (by first | omega | (simp only [hset, hql, cells_bk, cells_sl, List.length_cons, List.length_nil, List.length_set, List.length_append, List.length_map, List.length_replicate, List.length_take, List.length_drop]; omega) | assumption | rfl) | refine msK hs ?_ (by first | omega | (simp only [hset, hql, cells_bk, cells_sl, List.length_cons, List.length_nil, List.length_set, List.length_append, List.length_map, List.length_replicate, List.length_take, List.length_drop]; omega) | assumption | rfl)); clear hs; (try clear w); rintro w hs; try simp only [cls] at hs; try simp only [hset, hql] at hs)))
    exact ⟨i + 1, by rfl, by rfl, ⟨by omega, hs⟩, by dsimp only; omega⟩
  case neg =>
    obtain rfl : i = xs.length := by omega
    simp (disch := first | omega | assumption | exact Option.isSome_some | (simp only [adO_isSome]; assumption)) only [↓vcp, vcs, vct, if_true, if_false, Nat.reduceBEq, ↓reduceIte, Nat.reduceEqDiff, Nat.reduceAdd, Nat.reduceMul, Nat.reduceSub, Int.reduceToNat, reduceCtorEq, Nat.reduceLT, Nat.reduceLeDiff, Int.reduceSub, Int.reduceAdd, Int.reduceNeg, Sat.look hs, Sat.lookA hs]
    refine ret_none rfl (hR _ _ ⟨rfl, ?_⟩)
    rw [List.take_of_length_le (by omega), List.drop_eq_nil_of_le (by omega), List.append_nil] at hs
    exact hs
theorem VarintExact_calls (w0 : World) (na ba : Option Addr) (nc bc : Nat) (N : List Nat) (B : List BRow) (hN : Ro (.at w0) na (N.map fun n : Nat => Value.int .u64 n)) (hN64 : ∀ n ∈ N, n < 2 ^ 64) (hNl : N.length ≤ 16777216) (hB : RdBB w0 w0.heap.size ba B) (hBn : B.length ≤ 140737488351232) :
    Calls Try.prog 7 #[.agg [.slice na N.length nc, .slice ba B.length bc].toArray] w0 fun e w' => e = .returned (.bool true) ∧ Below w0.heap.size w0 w' := by
  refine calls_vc Try.func7 rfl (by kernel_rfl) (by kernel_rfl) ?_; intro R hR
  have hs := Sat.start w0
  have hBr : Ro (.at w0) ba (B.map BRow.v) := Rd.ro hB.1
  (repeat (first | (simp (disch := first | omega | assumption | exact Option.isSome_some | (simp only [adO_isSome]; assumption)) only [↓vcp, vcs, vct, if_true, if_false, Nat.reduceBEq, ↓reduceIte, Nat.reduceEqDiff, Nat.reduceAdd, Nat.reduceMul, Nat.reduceSub, Int.reduceToNat, reduceCtorEq, Nat.reduceLT, Nat.reduceLeDiff, Int.reduceSub, Int.reduceAdd, Int.reduceNeg, Sat.look hs, Sat.lookA hs]) | (refine khK he hs ?_; clear he; intro he) | ((first | refine stK hs ?_ | refine stFK hs ?_ | refine stAK hs ?_ | refine msK hs ?_); clear hs; (try clear w); rintro w hs; try simp only [cls] at hs) | ((first | refine al_ok hs ?_ | refine bx_ok hs ?_ | refine bsvK hs ?_ | refine bs1_ok hs ?_ | refine bs0_ok hs ?_); clear hs; (try clear w); rintro _ w hs; try simp only [cls] at hs)))
  rename_i tb bb lb
  replace hs := Sat.nil hs 59 1; try simp only [cls] at hs
  replace hs := Sat.nil hs 59 1; try simp only [cls] at hs
  replace hs := Sat.nil hs 59 1; try simp only [cls] at hs
  replace hs := Sat.nil hs 3 1; try simp only [cls] at hs
  obtain ⟨args, hargs⟩ : ∃ args : List Value, args = [.slice na N.length nc, .slice ba B.length bc] := ⟨_, rfl⟩
  rw [← hargs] at hs
  have hs0 : Sat (.at w0) (stV (noBk bb) [] ⟨lb, none, 0, none, 0, []⟩ tb args) w := hs.perm (perm7 ..)
  clear hs
  have hbo : BkOk (noBk bb) [] [] [] := ⟨rfl, rfl, (fun k hk => by cases hk), (fun k hk => by cases hk), (fun k hk => by cases hk), by simp [noBk]⟩
  refine loop_join (σ := Bk × List Kp × List Kp × List Kp × Lt) 0 [] (fun _ => []) [1, 3, 4] (fun s w' => match s with
    | (z, old, td, fs, y) => z.b = bb ∧ y.l = lb ∧ BkOk z old td fs ∧ z.u ≤ 16777216 ∧ z.t + y.es.length ≤ 33554432 ∧ z.ks.length + 96 * td.length + 97 * y.es.length ≤ 10000000000 ∧ esOk y.es ∧ Sat (.at w0) (stV z (td ++ fs) y tb args) w') ?_ ?_
  · refine loop_rule (σ := Nat × Bk × List Kp × List Kp × List Kp × Lt) [5] (fun s => [.int .i64 s.1]) [1, 3, 4] (fun s w' => match s with
      | (i, z, old, td, fs, y) => i ≤ N.length ∧ z.b = bb ∧ y.l = lb ∧ BkOk z old td fs ∧ z.u ≤ 16777216 ∧ z.t + y.es.length ≤ 2 * i ∧ z.ks.length + 96 * td.length + 97 * y.es.length ≤ 194 * i ∧ esOk y.es ∧ Sat (.at w0) (stV z (td ++ fs) y tb args) w')
      (fun s _ => N.length - s.1) (0, noBk bb, [], [], [], ⟨lb, none, 0, none, 0, []⟩) (by kernel_rfl) rfl ⟨by omega, rfl, rfl, hbo, by simp [noBk], by simp [noBk], by simp [noBk], (fun e he => by cases he), hs0⟩ ?_
    clear hs0 hbo
    rintro e ⟨i, z, old, td, fs, y⟩ wb ⟨hi, hzb, hyl, hbo, hzu, hzt, hzk, hyo, hs1⟩
    have htb : Ro (.at wb) (some ⟨tb, 0, none⟩) args := memBk (pad := []) hs1 (List.mem_append_right _ (List.mem_append_left _ (List.mem_append_right _ (List.mem_append_right _ (by rw [List.append_nil]; exact .head _)))))
    rw [hargs] at htb
    have f0 : oldO (.at wb) (some ⟨tb, 0, none⟩) = some (.slice na N.length nc) := htb 0 _ rfl
    have hs := Sat.start wb
    simp (disch := first | omega | assumption | exact Option.isSome_some | (simp only [adO_isSome]; assumption)) only [↓vcp, vcs, vct, if_true, if_false, Nat.reduceBEq, ↓reduceIte, Nat.reduceEqDiff, Nat.reduceAdd, Nat.reduceMul, Nat.reduceSub, Int.reduceToNat, reduceCtorEq, Nat.reduceLT, Nat.reduceLeDiff, Int.reduceSub, Int.reduceAdd, Int.reduceNeg, Sat.look hs, Sat.lookA hs, hs.old f0]
    by_cases hlt : i < N.length
    case neg =>
      (repeat (first | (simp (disch := first | omega | assumption | exact Option.isSome_some | (simp only [adO_isSome]; assumption)) only [↓vcp, vcs, vct, if_true, if_false, Nat.reduceBEq, ↓reduceIte, Nat.reduceEqDiff, Nat.reduceAdd, Nat.reduceMul, Nat.reduceSub, Int.reduceToNat, reduceCtorEq, Nat.reduceLT, Nat.reduceLeDiff, Int.reduceSub, Int.reduceAdd, Int.reduceNeg, Sat.look hs, Sat.lookA hs, hs.old f0]) | (refine khK he hs ?_; clear he; intro he) | ((first | refine stK hs ?_ | refine stFK hs ?_ | refine stAK hs ?_ | refine msK hs ?_); clear hs; (try clear w); rintro w hs; try simp only [cls] at hs) | ((first | refine al_ok hs ?_ | refine bx_ok hs ?_ | refine bsvK hs ?_ | refine bs1_ok hs ?_ | refine bs0_ok hs ?_); clear hs; (try clear w); rintro _ w hs; try simp only [cls] at hs)))
      exact ⟨(z, old, td, fs, y), by rfl, by rfl, hzb, hyl, hbo, hzu, (by show z.t + y.es.length ≤ 33554432; omega), (by show z.ks.length + 96 * td.length + 97 * y.es.length ≤ 10000000000; omega), hyo, hs1⟩
    have hns : na.isSome = true := hN.isSome (by rw [List.length_map]; omega)
    obtain ⟨n, hn⟩ : ∃ n, N[i]? = some n := ⟨_, List.getElem?_eq_getElem hlt⟩
    have hn64 := hN64 n (List.mem_of_getElem? hn)
    have hrow : oldO (.at wb) (adO na i) = some (.int .u64 n) := (hN.up0 hs1) i _ (by rw [List.getElem?_map, hn]; rfl)
    have hl9 := @lay1_len n
    (repeat (first | (simp (disch := first | omega | assumption | exact Option.isSome_some | (simp only [adO_isSome]; assumption)) only [↓vcp, vcs, vct, if_true, if_false, Nat.reduceBEq, ↓reduceIte, Nat.reduceEqDiff, Nat.reduceAdd, Nat.reduceMul, Nat.reduceSub, Int.reduceToNat, reduceCtorEq, Nat.reduceLT, Nat.reduceLeDiff, Int.reduceSub, Int.reduceAdd, Int.reduceNeg, Sat.look hs, Sat.lookA hs, hs.old f0, hs.old hrow]) | (refine khK he hs ?_; clear he; intro he) | ((first | refine stK hs ?_ | refine stFK hs ?_ | refine stAK hs ?_ | refine msK hs ?_); clear hs; (try clear w); rintro w hs; try simp only [cls] at hs) | ((first | refine al_ok hs ?_ | refine bx_ok hs ?_ | refine bsvK hs ?_ | refine bs1_ok hs ?_ | refine bs0_ok hs ?_); clear hs; (try clear w); rintro _ w hs; try simp only [cls] at hs) | (refine call_ok (by kernel_rfl) (num_calls _ _) ?_; rintro _ _ ⟨rfl, rfl⟩; rw [callK_ret]) | (refine call_still (by kernel_rfl) (num_calls _ _) ?_)))
    refine call_ok (by kernel_rfl) (PLay_calls wb n hn64) ?_; rintro _ w2 ⟨xa, xc, rfl, hxc, hb⟩; rw [callK_ret]; replace hs := Sat.add hs hb; clear hb; (try clear w); rename World => w; try simp only [cls] at hs
    (repeat (first | (simp (disch := first | omega | assumption | exact Option.isSome_some | (simp only [adO_isSome]; assumption)) only [↓vcp, vcs, vct, if_true, if_false, Nat.reduceBEq, ↓reduceIte, Nat.reduceEqDiff, Nat.reduceAdd, Nat.reduceMul, Nat.reduceSub, Int.reduceToNat, reduceCtorEq, Nat.reduceLT, Nat.reduceLeDiff, Int.reduceSub, Int.reduceAdd, Int.reduceNeg, Sat.look hs, Sat.lookA hs, hs.old f0, hs.old hrow]) | (refine khK he hs ?_; clear he; intro he) | ((first | refine stK hs ?_ | refine stFK hs ?_ | refine stAK hs ?_ | refine msK hs ?_); clear hs; (try clear w); rintro w hs; try simp only [cls] at hs) | ((first | refine al_ok hs ?_ | refine bx_ok hs ?_ | refine bsvK hs ?_ | refine bs1_ok hs ?_ | refine bs0_ok hs ?_); clear hs; (try clear w); rintro _ w hs; try simp only [cls] at hs) | (refine call_ok (by kernel_rfl) (num_calls _ _) ?_; rintro _ _ ⟨rfl, rfl⟩; rw [callK_ret]) | (refine call_still (by kernel_rfl) (num_calls _ _) ?_)))
    refine call_ok (by kernel_rfl) (PLay_calls w n hn64) ?_; rintro _ w2 ⟨ya, yc, rfl, hyc, hb⟩; rw [callK_ret]; replace hs := Sat.add hs hb; clear hb; (try clear w); rename World => w; try simp only [cls] at hs
    (repeat (first | (simp (disch := first | omega | assumption | exact Option.isSome_some | (simp only [adO_isSome]; assumption)) only [↓vcp, vcs, vct, if_true, if_false, Nat.reduceBEq, ↓reduceIte, Nat.reduceEqDiff, Nat.reduceAdd, Nat.reduceMul, Nat.reduceSub, Int.reduceToNat, reduceCtorEq, Nat.reduceLT, Nat.reduceLeDiff, Int.reduceSub, Int.reduceAdd, Int.reduceNeg, Sat.look hs, Sat.lookA hs, hs.old f0, hs.old hrow]) | (refine khK he hs ?_; clear he; intro he) | ((first | refine stK hs ?_ | refine stFK hs ?_ | refine stAK hs ?_ | refine msK hs ?_); clear hs; (try clear w); rintro w hs; try simp only [cls] at hs) | ((first | refine al_ok hs ?_ | refine bx_ok hs ?_ | refine bsvK hs ?_ | refine bs1_ok hs ?_ | refine bs0_ok hs ?_); clear hs; (try clear w); rintro _ w hs; try simp only [cls] at hs) | (refine call_ok (by kernel_rfl) (num_calls _ _) ?_; rintro _ _ ⟨rfl, rfl⟩; rw [callK_ret]) | (refine call_still (by kernel_rfl) (num_calls _ _) ?_)))
    refine call_ok (by kernel_rfl) (RLay_calls w n hn64) ?_; rintro _ w2 ⟨wa, wc, rfl, hwc, hb⟩; rw [callK_ret]; replace hs := Sat.add hs hb; clear hb; (try clear w); rename World => w; try simp only [cls] at hs
    have hlen : (if n < 2 ^ 63 then ((vlay n).length : Int) else 0) = ((lay1 n).length : Int) := by
      unfold lay1
      split <;> rfl
    generalize lay1 n = l1 at *
    generalize lerr n = er at *
    (repeat (first | (simp (disch := first | omega | assumption | exact Option.isSome_some | (simp only [adO_isSome]; assumption)) only [↓vcp, vcs, vct, if_true, if_false, Nat.reduceBEq, ↓reduceIte, Nat.reduceEqDiff, Nat.reduceAdd, Nat.reduceMul, Nat.reduceSub, Int.reduceToNat, reduceCtorEq, Nat.reduceLT, Nat.reduceLeDiff, Int.reduceSub, Int.reduceAdd, Int.reduceNeg, Sat.look hs, Sat.lookA hs, hs.old f0, hs.old hrow, m_strOfL _ _ (hs.rd (a := xa)) rfl, m_strOfL _ _ (hs.rd (a := ya)) rfl, m_strOfL _ _ (hs.rd (a := wa)) rfl]) | (refine khK he hs ?_; clear he; intro he) | ((first | refine stK hs ?_ | refine stFK hs ?_ | refine stAK hs ?_ | refine msK hs ?_); clear hs; (try clear w); rintro w hs; try simp only [cls] at hs) | ((first | refine al_ok hs ?_ | refine bx_ok hs ?_ | refine bsvK hs ?_ | refine bs1_ok hs ?_ | refine bs0_ok hs ?_); clear hs; (try clear w); rintro _ w hs; try simp only [cls] at hs) | (refine call_ok (by kernel_rfl) (num_calls _ _) ?_; rintro _ _ ⟨rfl, rfl⟩; rw [callK_ret]) | (refine call_still (by kernel_rfl) (num_calls _ _) ?_)))
    have hle := Len_calls w n hn64
    rw [hlen] at hle
    refine call_ok (by kernel_rfl) (hle) ?_; rintro _ w2 ⟨rfl, hb⟩; rw [callK_ret]; replace hs := Sat.add hs (Below.sat hb); clear hb; (try clear w); rename World => w; try simp only [cls] at hs
    clear hle
    (repeat (first | (simp (disch := first | omega | assumption | exact Option.isSome_some | (simp only [adO_isSome]; assumption)) only [↓vcp, vcs, vct, if_true, if_false, Nat.reduceBEq, ↓reduceIte, Nat.reduceEqDiff, Nat.reduceAdd, Nat.reduceMul, Nat.reduceSub, Int.reduceToNat, reduceCtorEq, Nat.reduceLT, Nat.reduceLeDiff, Int.reduceSub, Int.reduceAdd, Int.reduceNeg, Sat.look hs, Sat.lookA hs]) | (refine khK he hs ?_; clear he; intro he) | ((first | refine stK hs ?_ | refine stFK hs ?_ | refine stAK hs ?_ | refine msK hs ?_); clear hs; (try clear w); rintro w hs; try simp only [cls] at hs) | ((first | refine al_ok hs ?_ | refine bx_ok hs ?_ | refine bsvK hs ?_ | refine bs1_ok hs ?_ | refine bs0_ok hs ?_); clear hs; (try clear w); rintro _ w hs; try simp only [cls] at hs) | (refine call_ok (by kernel_rfl) (num_calls _ _) ?_; rintro _ _ ⟨rfl, rfl⟩; rw [callK_ret]) | (refine call_still (by kernel_rfl) (num_calls _ _) ?_)))
    have hsA := hs1.add hs
    clear hs hs1 htb f0 hrow
    have hs : Sat (.at w0) (y.cks ++ (((z.cks ++ ((td ++ fs).map Kp.ck ++ [Ck.bk tb args 34])) ++ y.es.flatMap both) ++ (Ck.sl xa xc (l1.map u8v) 5 1 :: [Ck.sl ya yc (l1.map u8v) 5 1, Ck.sl wa wc (l1.map u8v) 5 1]))) w := by
      have h := hsA
      unfold stV at h
      simp only [List.append_assoc, List.cons_append, List.nil_append] at h ⊢
      exact h
    clear hsA
    rw [← hyl, ← hzb]
    refine call_ok (by kernel_rfl) (Add_in _ w y _ _ xa xc l1 wa wc hs (Sat.roF hs) (by omega) (by omega)) ?_
    rintro _ w2 ⟨y2, b2, d2, pad2, rfl, hl2, he2, hb⟩
    rw [callK_ret]
    clear hs
    have hs := hb
    clear hb w
    rename World => w
    (repeat (first | (simp (disch := first | omega | assumption | exact Option.isSome_some | (simp only [adO_isSome]; assumption)) only [↓vcp, vcs, vct, if_true, if_false, Nat.reduceBEq, ↓reduceIte, Nat.reduceEqDiff, Nat.reduceAdd, Nat.reduceMul, Nat.reduceSub, Int.reduceToNat, reduceCtorEq, Nat.reduceLT, Nat.reduceLeDiff, Int.reduceSub, Int.reduceAdd, Int.reduceNeg, Sat.look hs, Sat.lookA hs]) | (refine khK he hs ?_; clear he; intro he) | ((first | refine stK hs ?_ | refine stFK hs ?_ | refine stAK hs ?_ | refine msK hs ?_); clear hs; (try clear w); rintro w hs; try simp only [cls] at hs) | ((first | refine al_ok hs ?_ | refine bx_ok hs ?_ | refine bsvK hs ?_ | refine bs1_ok hs ?_ | refine bs0_ok hs ?_); clear hs; (try clear w); rintro _ w hs; try simp only [cls] at hs)))
    rw [← hl2]
    refine call_ok (by kernel_rfl) (Add_in _ w y2 _ _ ya yc l1 wa wc hs (Sat.roF hs) (by omega) (by rw [he2, List.length_append, List.length_singleton]; omega)) ?_
    rintro _ w2 ⟨y3, b3, d3, pad3, rfl, hl3, he3, hb⟩
    rw [callK_ret]
    clear hs
    have hs := hb.sub (List.Sublist.append_left (List.sublist_append_left _ _) _)
    clear hb w
    rename World => w
    have hyo3 : esOk y3.es := by
      intro e he
      rw [he3, he2] at he
      rcases List.mem_append.1 he with he | he
      · rcases List.mem_append.1 he with he | he
        · exact hyo e he
        · obtain rfl := List.mem_singleton.1 he
          dsimp only; omega
      · obtain rfl := List.mem_singleton.1 he
        dsimp only; omega
    have he3l : y3.es.length = y.es.length + 2 := by rw [he3, he2]; simp only [List.length_append, List.length_singleton]
    have hl3' : y3.l = y.l := hl3.trans hl2
    rw [← hl3]
    clear he2 he3 hl2 hl3
    by_cases h2000 : i < 2000
    case neg =>
      (repeat (first | (simp (disch := first | omega | assumption | exact Option.isSome_some | (simp only [adO_isSome]; assumption)) only [↓vcp, vcs, vct, if_true, if_false, Nat.reduceBEq, ↓reduceIte, Nat.reduceEqDiff, Nat.reduceAdd, Nat.reduceMul, Nat.reduceSub, Int.reduceToNat, reduceCtorEq, Nat.reduceLT, Nat.reduceLeDiff, Int.reduceSub, Int.reduceAdd, Int.reduceNeg, Sat.look hs, Sat.lookA hs]) | (refine khK he hs ?_; clear he; intro he) | ((first | refine stK hs ?_ | refine stFK hs ?_ | refine stAK hs ?_ | refine msK hs ?_); clear hs; (try clear w); rintro w hs; try simp only [cls] at hs) | ((first | refine al_ok hs ?_ | refine bx_ok hs ?_ | refine bsvK hs ?_ | refine bs1_ok hs ?_ | refine bs0_ok hs ?_); clear hs; (try clear w); rintro _ w hs; try simp only [cls] at hs)))
      refine ⟨(i + 1, z, old, td, fs, y3), by rfl, by rfl, ⟨by omega, rfl, rfl, hbo, hzu, (by show z.t + y3.es.length ≤ 2 * (i + 1); omega), (by show z.ks.length + 96 * td.length + 97 * y3.es.length ≤ 194 * (i + 1); omega), hyo3, hs⟩, by dsimp only; omega⟩
    case pos =>
      (repeat (first | (simp (disch := first | omega | assumption | exact Option.isSome_some | (simp only [adO_isSome]; assumption)) only [↓vcp, vcs, vct, if_true, if_false, Nat.reduceBEq, ↓reduceIte, Nat.reduceEqDiff, Nat.reduceAdd, Nat.reduceMul, Nat.reduceSub, Int.reduceToNat, reduceCtorEq, Nat.reduceLT, Nat.reduceLeDiff, Int.reduceSub, Int.reduceAdd, Int.reduceNeg, Sat.look hs, Sat.lookA hs]) | (refine khK he hs ?_; clear he; intro he) | ((first | refine stK hs ?_ | refine stFK hs ?_ | refine stAK hs ?_ | refine msK hs ?_); clear hs; (try clear w); rintro w hs; try simp only [cls] at hs) | ((first | refine al_ok hs ?_ | refine bx_ok hs ?_ | refine bsvK hs ?_ | refine bs1_ok hs ?_ | refine bs0_ok hs ?_); clear hs; (try clear w); rintro _ w hs; try simp only [cls] at hs)))
      have hp := permS y3.cks z.cks ((td ++ fs).map Kp.ck) [Ck.bk tb args 34] (y3.es.flatMap both) (y3.es.map LE.gck) (y3.es.map LE.wck) (perm_both y3.es)
      refine call_ok (by kernel_rfl) (Settle2_calls _ w z old td fs y3 8 hbo hzu (by omega) (by omega) (by omega) hyo3 (hs.perm hp).front) ?_
      rintro _ w2 ⟨z4, old4, td4, fs4, y4, rfl, h1, h2, h3, h4, h5, h6, h7, hb⟩
      rw [callK_ret]
      have hs4 := hs.frame hp hb
      clear hs hb hp w
      rename World => w
      have hs := hs4.perm (permS y4.cks z4.cks ((td4 ++ fs4).map Kp.ck) [Ck.bk tb args 34] (y4.es.flatMap both) (y4.es.map LE.gck) (y4.es.map LE.wck) (perm_both y4.es)).symm
      clear hs4
      (repeat (first | (simp (disch := first | omega | assumption | exact Option.isSome_some | (simp only [adO_isSome]; assumption)) only [↓vcp, vcs, vct, if_true, if_false, Nat.reduceBEq, ↓reduceIte, Nat.reduceEqDiff, Nat.reduceAdd, Nat.reduceMul, Nat.reduceSub, Int.reduceToNat, reduceCtorEq, Nat.reduceLT, Nat.reduceLeDiff, Int.reduceSub, Int.reduceAdd, Int.reduceNeg, Sat.look hs, Sat.lookA hs]) | (refine khK he hs ?_; clear he; intro he) | ((first | refine stK hs ?_ | refine stFK hs ?_ | refine stAK hs ?_ | refine msK hs ?_); clear hs; (try clear w); rintro w hs; try simp only [cls] at hs) | ((first | refine al_ok hs ?_ | refine bx_ok hs ?_ | refine bsvK hs ?_ | refine bs1_ok hs ?_ | refine bs0_ok hs ?_); clear hs; (try clear w); rintro _ w hs; try simp only [cls] at hs)))
      refine ⟨(i + 1, z4, old4, td4, fs4, y4), by rfl, by rfl, ⟨by omega, h1, h2, h3, h4, (by show z4.t + y4.es.length ≤ 2 * (i + 1); omega), (by show z4.ks.length + 96 * td4.length + 97 * y4.es.length ≤ 194 * (i + 1); omega), h7, hs⟩, by dsimp only; omega⟩
  · clear hs0 hbo
    rintro e ⟨z, old, td, fs, y⟩ wb ⟨hzb, hyl, hbo, hzu, hzt, hzk, hyo, hs1⟩
    have htb : Ro (.at wb) (some ⟨tb, 0, none⟩) args := memBk (pad := []) hs1 (List.mem_append_right _ (List.mem_append_left _ (List.mem_append_right _ (List.mem_append_right _ (by rw [List.append_nil]; exact .head _)))))
    rw [hargs] at htb
    have f1 : oldO (.at wb) (some ⟨tb, 1, none⟩) = some (.slice ba B.length bc) := htb 1 _ rfl
    have hs := Sat.start wb
    (repeat (first | (simp (disch := first | omega | assumption | exact Option.isSome_some | (simp only [adO_isSome]; assumption)) only [↓vcp, vcs, vct, if_true, if_false, Nat.reduceBEq, ↓reduceIte, Nat.reduceEqDiff, Nat.reduceAdd, Nat.reduceMul, Nat.reduceSub, Int.reduceToNat, reduceCtorEq, Nat.reduceLT, Nat.reduceLeDiff, Int.reduceSub, Int.reduceAdd, Int.reduceNeg, Sat.look hs, Sat.lookA hs]) | (refine khK he hs ?_; clear he; intro he) | ((first | refine stK hs ?_ | refine stFK hs ?_ | refine stAK hs ?_ | refine msK hs ?_); clear hs; (try clear w); rintro w hs; try simp only [cls] at hs) | ((first | refine al_ok hs ?_ | refine bx_ok hs ?_ | refine bsvK hs ?_ | refine bs1_ok hs ?_ | refine bs0_ok hs ?_); clear hs; (try clear w); rintro _ w hs; try simp only [cls] at hs)))
    refine loop_rule (σ := Nat) [12] (fun i => [.int .i64 i]) [1, 3, 4] (fun i w' => i ≤ B.length ∧ Sat (.at wb) [] w') (fun i _ => B.length - i) 0 (by kernel_rfl) rfl ⟨by omega, hs⟩ ?_
    clear hs
    rintro e i w ⟨hi, hs⟩
    simp (disch := first | omega | assumption | exact Option.isSome_some | (simp only [adO_isSome]; assumption)) only [↓vcp, vcs, vct, if_true, if_false, Nat.reduceBEq, ↓reduceIte, Nat.reduceEqDiff, Nat.reduceAdd, Nat.reduceMul, Nat.reduceSub, Int.reduceToNat, reduceCtorEq, Nat.reduceLT, Nat.reduceLeDiff, Int.reduceSub, Int.reduceAdd, Int.reduceNeg, Sat.look hs, Sat.lookA hs, hs.old f1]
    by_cases hlt : i < B.length
    case pos =>
      have hbs : ba.isSome = true := hB.isSome (by omega)
      obtain ⟨r, hr⟩ : ∃ r, B[i]? = some r := ⟨_, List.getElem?_eq_getElem hlt⟩
      obtain ⟨ra, rc, xs⟩ := r
      obtain ⟨hx1, hx2, hx3⟩ := hB.2 _ (List.mem_of_getElem? hr)
      have hrow : oldO (.at wb) (adO ba i) = some (.slice ra xs.length rc) := row_of (hBr.up0 hs1) hr
      dsimp only at hx1 hx2 hx3
      have hxr : Ro (.at wb) ra (xs.map u8v) := (Rd.ro hx1).up0 hs1
      have hol := other_len xs
      (repeat (first | (simp (disch := first | omega | assumption | exact Option.isSome_some | (simp only [adO_isSome]; assumption)) only [↓vcp, vcs, vct, if_true, if_false, Nat.reduceBEq, ↓reduceIte, Nat.reduceEqDiff, Nat.reduceAdd, Nat.reduceMul, Nat.reduceSub, Int.reduceToNat, reduceCtorEq, Nat.reduceLT, Nat.reduceLeDiff, Int.reduceSub, Int.reduceAdd, Int.reduceNeg, Sat.look hs, Sat.lookA hs, hs.old f1, hs.old hrow]) | (refine khK he hs ?_; clear he; intro he) | ((first | refine stK hs ?_ | refine stFK hs ?_ | refine stAK hs ?_ | refine msK hs ?_); clear hs; (try clear w); rintro w hs; try simp only [cls] at hs) | ((first | refine al_ok hs ?_ | refine bx_ok hs ?_ | refine bsvK hs ?_ | refine bs1_ok hs ?_ | refine bs0_ok hs ?_); clear hs; (try clear w); rintro _ w hs; try simp only [cls] at hs)))
      refine call_ok (by kernel_rfl) (Lend_calls w ra rc xs (hxr.rd hs) hx3) ?_; rintro e w2 ⟨la, lc, rfl, hown, hb⟩; rw [callK_ret]
      have hlc70 : xs.length + 70 ≤ lc := by rcases hown.form with ⟨_, h, _⟩ | ⟨_, _, _, _, _, h, _⟩ <;> omega
      replace hs := hs.add (Own.sat hown hb)
      try simp only [cls] at hs
      clear hown hb w
      rename World => w
      (repeat (first | (simp (disch := first | omega | assumption | exact Option.isSome_some | (simp only [adO_isSome]; assumption)) only [↓vcp, vcs, vct, if_true, if_false, Nat.reduceBEq, ↓reduceIte, Nat.reduceEqDiff, Nat.reduceAdd, Nat.reduceMul, Nat.reduceSub, Int.reduceToNat, reduceCtorEq, Nat.reduceLT, Nat.reduceLeDiff, Int.reduceSub, Int.reduceAdd, Int.reduceNeg, Sat.look hs, Sat.lookA hs, hs.old f1, hs.old hrow]) | (refine khK he hs ?_; clear he; intro he) | ((first | refine stK hs ?_ | refine stFK hs ?_ | refine stAK hs ?_ | refine msK hs ?_); clear hs; (try clear w); rintro w hs; try simp only [cls] at hs) | ((first | refine al_ok hs ?_ | refine bx_ok hs ?_ | refine bsvK hs ?_ | refine bs1_ok hs ?_ | refine bs0_ok hs ?_); clear hs; (try clear w); rintro _ w hs; try simp only [cls] at hs)))
      have hlr : Ro (.at w) la (xs.map u8v) := by
        have h1 : Ro (.at w) la ((xs ++ marks 70).map u8v) := hs.ro
        have h2 := h1.take xs.length
        rwa [← List.map_take, List.take_left] at h2
      refine call_ok (by kernel_rfl) (reads_calls w la ra lc rc xs hlr (hxr.up0 hs) (by omega) hx2 (by omega)) ?_; rintro _ w2 ⟨rfl, hb⟩; rw [callK_ret]; replace hs := Sat.add hs (Below.sat hb); clear hb; (try clear w); rename World => w; try simp only [cls] at hs
      clear hlr
      (repeat (first | (simp (disch := first | omega | assumption | exact Option.isSome_some | (simp only [adO_isSome]; assumption)) only [↓vcp, vcs, vct, if_true, if_false, Nat.reduceBEq, ↓reduceIte, Nat.reduceEqDiff, Nat.reduceAdd, Nat.reduceMul, Nat.reduceSub, Int.reduceToNat, reduceCtorEq, Nat.reduceLT, Nat.reduceLeDiff, Int.reduceSub, Int.reduceAdd, Int.reduceNeg, Sat.look hs, Sat.lookA hs, hs.old f1, hs.old hrow]) | (refine khK he hs ?_; clear he; intro he) | ((first | refine stK hs ?_ | refine stFK hs ?_ | refine stAK hs ?_ | refine msK hs ?_); clear hs; (try clear w); rintro w hs; try simp only [cls] at hs) | ((first | refine al_ok hs ?_ | refine bx_ok hs ?_ | refine bsvK hs ?_ | refine bs1_ok hs ?_ | refine bs0_ok hs ?_); clear hs; (try clear w); rintro _ w hs; try simp only [cls] at hs)))
      have hlr : Ro (.at w) la (xs.map u8v) := by
        have h1 : Ro (.at w) la ((xs ++ marks 70).map u8v) := hs.ro
        have h2 := h1.take xs.length
        rwa [← List.map_take, List.take_left] at h2
      refine call_ok (by kernel_rfl) (reads_calls w la ra lc rc xs hlr (hxr.up0 hs) (by omega) hx2 (by omega)) ?_; rintro _ w2 ⟨rfl, hb⟩; rw [callK_ret]; replace hs := Sat.add hs (Below.sat hb); clear hb; (try clear w); rename World => w; try simp only [cls] at hs
      clear hlr
      (repeat (first | (simp (disch := first | omega | assumption | exact Option.isSome_some | (simp only [adO_isSome]; assumption)) only [↓vcp, vcs, vct, if_true, if_false, Nat.reduceBEq, ↓reduceIte, Nat.reduceEqDiff, Nat.reduceAdd, Nat.reduceMul, Nat.reduceSub, Int.reduceToNat, reduceCtorEq, Nat.reduceLT, Nat.reduceLeDiff, Int.reduceSub, Int.reduceAdd, Int.reduceNeg, Sat.look hs, Sat.lookA hs, hs.old f1, hs.old hrow]) | (refine khK he hs ?_; clear he; intro he) | ((first | refine stK hs ?_ | refine stFK hs ?_ | refine stAK hs ?_ | refine msK hs ?_); clear hs; (try clear w); rintro w hs; try simp only [cls] at hs) | ((first | refine al_ok hs ?_ | refine bx_ok hs ?_ | refine bsvK hs ?_ | refine bs1_ok hs ?_ | refine bs0_ok hs ?_); clear hs; (try clear w); rintro _ w hs; try simp only [cls] at hs)))
      refine call_ok (by kernel_rfl) (Intact_calls w la ra lc rc xs (hs.rd (a := la)) hlc70 (hxr.rd hs) hx3) ?_; rintro _ w2 ⟨rfl, hb⟩; rw [callK_ret]; replace hs := Sat.add hs (Below.sat hb); clear hb; (try clear w); rename World => w; try simp only [cls] at hs
      (repeat (first | (simp (disch := first | omega | assumption | exact Option.isSome_some | (simp only [adO_isSome]; assumption)) only [↓vcp, vcs, vct, if_true, if_false, Nat.reduceBEq, ↓reduceIte, Nat.reduceEqDiff, Nat.reduceAdd, Nat.reduceMul, Nat.reduceSub, Int.reduceToNat, reduceCtorEq, Nat.reduceLT, Nat.reduceLeDiff, Int.reduceSub, Int.reduceAdd, Int.reduceNeg, Sat.look hs, Sat.lookA hs, hs.old f1, hs.old hrow]) | (refine khK he hs ?_; clear he; intro he) | ((first | refine stK hs ?_ | refine stFK hs ?_ | refine stAK hs ?_ | refine msK hs ?_); clear hs; (try clear w); rintro w hs; try simp only [cls] at hs) | ((first | refine al_ok hs ?_ | refine bx_ok hs ?_ | refine bsvK hs ?_ | refine bs1_ok hs ?_ | refine bs0_ok hs ?_); clear hs; (try clear w); rintro _ w hs; try simp only [cls] at hs)))
      refine call_ok (by kernel_rfl) (Other_calls w ra rc xs (hxr.up0 hs) hx3) ?_; rintro _ w2 ⟨oa, oc, rfl, hoc, hb⟩; rw [callK_ret]; replace hs := Sat.add hs hb; clear hb; (try clear w); rename World => w; try simp only [cls] at hs
      (repeat (first | (simp (disch := first | omega | assumption | exact Option.isSome_some | (simp only [adO_isSome]; assumption)) only [↓vcp, vcs, vct, if_true, if_false, Nat.reduceBEq, ↓reduceIte, Nat.reduceEqDiff, Nat.reduceAdd, Nat.reduceMul, Nat.reduceSub, Int.reduceToNat, reduceCtorEq, Nat.reduceLT, Nat.reduceLeDiff, Int.reduceSub, Int.reduceAdd, Int.reduceNeg, Sat.look hs, Sat.lookA hs, hs.old f1, hs.old hrow]) | (refine khK he hs ?_; clear he; intro he) | ((first | refine stK hs ?_ | refine stFK hs ?_ | refine stAK hs ?_ | refine msK hs ?_); clear hs; (try clear w); rintro w hs; try simp only [cls] at hs) | ((first | refine al_ok hs ?_ | refine bx_ok hs ?_ | refine bsvK hs ?_ | refine bs1_ok hs ?_ | refine bs0_ok hs ?_); clear hs; (try clear w); rintro _ w hs; try simp only [cls] at hs)))
      have hin := IntoF_calls _ w la oa lc oc xs (other xs) (marks 70) (hs.one 0 rfl) (hs.roOther (i := 0) rfl (by decide)) hol.symm (by omega)
      rw [hol] at hin
      refine call_ok (by kernel_rfl) (hin) ?_; rintro _ w2 ⟨rfl, hb⟩; rw [callK_ret]; replace hs := Sat.upd hs 0 rfl hb; clear hb; (try clear w); rename World => w; try simp only [cls] at hs
      clear hin
      generalize other xs = os at *
      (repeat (first | (simp (disch := first | omega | assumption | exact Option.isSome_some | (simp only [adO_isSome]; assumption)) only [↓vcp, vcs, vct, if_true, if_false, Nat.reduceBEq, ↓reduceIte, Nat.reduceEqDiff, Nat.reduceAdd, Nat.reduceMul, Nat.reduceSub, Int.reduceToNat, reduceCtorEq, Nat.reduceLT, Nat.reduceLeDiff, Int.reduceSub, Int.reduceAdd, Int.reduceNeg, Sat.look hs, Sat.lookA hs, hs.old f1, hs.old hrow]) | (refine khK he hs ?_; clear he; intro he) | ((first | refine stK hs ?_ | refine stFK hs ?_ | refine stAK hs ?_ | refine msK hs ?_); clear hs; (try clear w); rintro w hs; try simp only [cls] at hs) | ((first | refine al_ok hs ?_ | refine bx_ok hs ?_ | refine bsvK hs ?_ | refine bs1_ok hs ?_ | refine bs0_ok hs ?_); clear hs; (try clear w); rintro _ w hs; try simp only [cls] at hs)))
      have hlr : Ro (.at w) la (os.map u8v) := by
        have h1 : Ro (.at w) la ((os ++ marks 70).map u8v) := hs.ro
        have h2 := h1.take os.length
        rwa [← List.map_take, List.take_left] at h2
      have hrd := reads_calls w la oa lc oc os hlr (hs.ro (a := oa)) (by omega) (by omega) (by omega)
      rw [hol] at hrd
      refine call_ok (by kernel_rfl) (hrd) ?_; rintro _ w2 ⟨rfl, hb⟩; rw [callK_ret]; replace hs := Sat.add hs (Below.sat hb); clear hb; (try clear w); rename World => w; try simp only [cls] at hs
      clear hlr hrd
      (repeat (first | (simp (disch := first | omega | assumption | exact Option.isSome_some | (simp only [adO_isSome]; assumption)) only [↓vcp, vcs, vct, if_true, if_false, Nat.reduceBEq, ↓reduceIte, Nat.reduceEqDiff, Nat.reduceAdd, Nat.reduceMul, Nat.reduceSub, Int.reduceToNat, reduceCtorEq, Nat.reduceLT, Nat.reduceLeDiff, Int.reduceSub, Int.reduceAdd, Int.reduceNeg, Sat.look hs, Sat.lookA hs, hs.old f1, hs.old hrow]) | (refine khK he hs ?_; clear he; intro he) | ((first | refine stK hs ?_ | refine stFK hs ?_ | refine stAK hs ?_ | refine msK hs ?_); clear hs; (try clear w); rintro w hs; try simp only [cls] at hs) | ((first | refine al_ok hs ?_ | refine bx_ok hs ?_ | refine bsvK hs ?_ | refine bs1_ok hs ?_ | refine bs0_ok hs ?_); clear hs; (try clear w); rintro _ w hs; try simp only [cls] at hs)))
      have hit := Intact_calls w la oa lc oc os (hs.rd (a := la)) (by omega) (hs.rd (a := oa)) (by omega)
      rw [hol] at hit
      refine call_ok (by kernel_rfl) (hit) ?_; rintro _ w2 ⟨rfl, hb⟩; rw [callK_ret]; replace hs := Sat.add hs (Below.sat hb); clear hb; (try clear w); rename World => w; try simp only [cls] at hs
      clear hit
      (repeat (first | (simp (disch := first | omega | assumption | exact Option.isSome_some | (simp only [adO_isSome]; assumption)) only [↓vcp, vcs, vct, if_true, if_false, Nat.reduceBEq, ↓reduceIte, Nat.reduceEqDiff, Nat.reduceAdd, Nat.reduceMul, Nat.reduceSub, Int.reduceToNat, reduceCtorEq, Nat.reduceLT, Nat.reduceLeDiff, Int.reduceSub, Int.reduceAdd, Int.reduceNeg, Sat.look hs, Sat.lookA hs, hs.old f1, hs.old hrow]) | (refine khK he hs ?_; clear he; intro he) | ((first | refine stK hs ?_ | refine stFK hs ?_ | refine stAK hs ?_ | refine msK hs ?_); clear hs; (try clear w); rintro w hs; try simp only [cls] at hs) | ((first | refine al_ok hs ?_ | refine bx_ok hs ?_ | refine bsvK hs ?_ | refine bs1_ok hs ?_ | refine bs0_ok hs ?_); clear hs; (try clear w); rintro _ w hs; try simp only [cls] at hs)))
      exact ⟨i + 1, by rfl, by rfl, ⟨by omega, hs.take 0⟩, by dsimp only; omega⟩
    case neg =>
      (repeat (first | (simp (disch := first | omega | assumption | exact Option.isSome_some | (simp only [adO_isSome]; assumption)) only [↓vcp, vcs, vct, if_true, if_false, Nat.reduceBEq, ↓reduceIte, Nat.reduceEqDiff, Nat.reduceAdd, Nat.reduceMul, Nat.reduceSub, Int.reduceToNat, reduceCtorEq, Nat.reduceLT, Nat.reduceLeDiff, Int.reduceSub, Int.reduceAdd, Int.reduceNeg, Sat.look hs, Sat.lookA hs, hs.old f1]) | (refine khK he hs ?_; clear he; intro he) | ((first | refine stK hs ?_ | refine stFK hs ?_ | refine stAK hs ?_ | refine msK hs ?_); clear hs; (try clear w); rintro w hs; try simp only [cls] at hs) | ((first | refine al_ok hs ?_ | refine bx_ok hs ?_ | refine bsvK hs ?_ | refine bs1_ok hs ?_ | refine bs0_ok hs ?_); clear hs; (try clear w); rintro _ w hs; try simp only [cls] at hs)))
      refine call_ok (by kernel_rfl) (lays_calls w) ?_; rintro _ w2 ⟨rfl, hb⟩; rw [callK_ret]; replace hs := Sat.add hs (Below.sat hb); clear hb; (try clear w); rename World => w; try simp only [cls] at hs
      have hs2 := stay hs1 hs
      have hp := permS y.cks z.cks ((td ++ fs).map Kp.ck) [Ck.bk tb args 34] (y.es.flatMap both) (y.es.map LE.gck) (y.es.map LE.wck) (perm_both y.es)
      have hst := Settle2_calls _ w z old td fs y 0 hbo hzu (by omega) (by omega) (by omega) hyo (hs2.perm hp).front
      rw [hyl, hzb] at hst
      (repeat (first | (simp (disch := first | omega | assumption | exact Option.isSome_some | (simp only [adO_isSome]; assumption)) only [↓vcp, vcs, vct, if_true, if_false, Nat.reduceBEq, ↓reduceIte, Nat.reduceEqDiff, Nat.reduceAdd, Nat.reduceMul, Nat.reduceSub, Int.reduceToNat, reduceCtorEq, Nat.reduceLT, Nat.reduceLeDiff, Int.reduceSub, Int.reduceAdd, Int.reduceNeg, Sat.look hs, Sat.lookA hs]) | (refine khK he hs ?_; clear he; intro he) | ((first | refine stK hs ?_ | refine stFK hs ?_ | refine stAK hs ?_ | refine msK hs ?_); clear hs; (try clear w); rintro w hs; try simp only [cls] at hs) | ((first | refine al_ok hs ?_ | refine bx_ok hs ?_ | refine bsvK hs ?_ | refine bs1_ok hs ?_ | refine bs0_ok hs ?_); clear hs; (try clear w); rintro _ w hs; try simp only [cls] at hs)))
      refine call_ok (by kernel_rfl) hst ?_
      rintro _ w2 ⟨z4, old4, td4, fs4, y4, rfl, h1, h2, h3, h4, h5, h6, h7, hb⟩
      rw [callK_ret]
      have hs4 := hs2.frame hp hb
      clear hs hs1 hs2 hb hp hst htb f1
      rename World => w
      have hs5 := hs4.perm (permS y4.cks z4.cks ((td4 ++ fs4).map Kp.ck) [Ck.bk tb args 34] (y4.es.flatMap both) (y4.es.map LE.gck) (y4.es.map LE.wck) (perm_both y4.es)).symm
      have hs : Sat (.at w0) (z4.cks ++ (td4 ++ fs4).map Kp.ck) w := by
        have h0 := hs5.sub (List.sublist_append_right y4.cks _)
        have h8 := h0.sub (List.sublist_append_left _ _)
        exact h8.sub (List.Sublist.append_left (List.sublist_append_left _ _) _)
      clear hs4 hs5
      have hlk := Look_calls _ w z4 old4 td4 fs4 h3 hs
      rw [h1] at hlk
      (repeat (first | (simp (disch := first | omega | assumption | exact Option.isSome_some | (simp only [adO_isSome]; assumption)) only [↓vcp, vcs, vct, if_true, if_false, Nat.reduceBEq, ↓reduceIte, Nat.reduceEqDiff, Nat.reduceAdd, Nat.reduceMul, Nat.reduceSub, Int.reduceToNat, reduceCtorEq, Nat.reduceLT, Nat.reduceLeDiff, Int.reduceSub, Int.reduceAdd, Int.reduceNeg, Sat.look hs, Sat.lookA hs]) | (refine khK he hs ?_; clear he; intro he) | ((first | refine stK hs ?_ | refine stFK hs ?_ | refine stAK hs ?_ | refine msK hs ?_); clear hs; (try clear w); rintro w hs; try simp only [cls] at hs) | ((first | refine al_ok hs ?_ | refine bx_ok hs ?_ | refine bsvK hs ?_ | refine bs1_ok hs ?_ | refine bs0_ok hs ?_); clear hs; (try clear w); rintro _ w hs; try simp only [cls] at hs)))
      refine call_ok (by kernel_rfl) hlk ?_
      rintro _ w2 ⟨z5, old5, td5, fs5, rfl, _, _, _, _, hb⟩
      rw [callK_ret]
      clear hs hlk
      have hs := hb
      clear hb w
      rename World => w
      (repeat (first | (simp (disch := first | omega | assumption | exact Option.isSome_some | (simp only [adO_isSome]; assumption)) only [↓vcp, vcs, vct, if_true, if_false, Nat.reduceBEq, ↓reduceIte, Nat.reduceEqDiff, Nat.reduceAdd, Nat.reduceMul, Nat.reduceSub, Int.reduceToNat, reduceCtorEq, Nat.reduceLT, Nat.reduceLeDiff, Int.reduceSub, Int.reduceAdd, Int.reduceNeg, Sat.look hs, Sat.lookA hs]) | (refine khK he hs ?_; clear he; intro he) | ((first | refine stK hs ?_ | refine stFK hs ?_ | refine stAK hs ?_ | refine msK hs ?_); clear hs; (try clear w); rintro w hs; try simp only [cls] at hs) | ((first | refine al_ok hs ?_ | refine bx_ok hs ?_ | refine bsvK hs ?_ | refine bs1_ok hs ?_ | refine bs0_ok hs ?_); clear hs; (try clear w); rintro _ w hs; try simp only [cls] at hs)))
      exact ret_tmp rfl (hR _ _ ⟨rfl, hs.belowAt⟩)
end Go.Proofs.Ytinnfbhdafkogaa.Varint
