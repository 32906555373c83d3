/- The law DigestParts answers true of any list of calls, and leaves what was there as it was. -/
import Derived.Test.YtkklmjioheimfaaDoorBegun
import Derived.Test.YtkklmjioheimfaaDoorPlace
namespace Go.Proofs.YtkklmjioheimfaaDoor.Dig
open Go VC Go.RowKit Sha Loan Varint Help
set_option linter.unusedSimpArgs false
set_option maxRecDepth 20000
set_option maxHeartbeats 4000000
structure OpR where
  on : Int
  act : Int
  a : Option Addr
  c : Nat
  xs : List UInt8
def OpR.vals (r : OpR) : List Value := [.int .i64 r.on, .int .i64 r.act, .slice r.a r.xs.length r.c]
/-- a hash and what was written into it -/
structure HS where
  h : Nat
  p : List UInt8
  a : Option Addr
  c : Nat
  A : List UInt8
theorem band1 (x : Int) : ∃ k : Nat, k < 2 ∧ Band .i64 x 1 = (k : Int) := by
  unfold Band
  have h1 : (BitVec.ofInt IntKind.i64.bits x &&& BitVec.ofInt IntKind.i64.bits 1).toNat < 2 := by
    rw [BitVec.toNat_and]
    have : (BitVec.ofInt IntKind.i64.bits 1).toNat = 1 := by decide
    rw [this]
    exact Nat.lt_of_le_of_lt Nat.and_le_right (by omega)
  have : ∀ n, n < 2 → IntKind.i64.wrap ((n : Nat) : Int) = (n : Int) := by decide
  exact ⟨_, h1, this _ h1⟩
def two {α : Type} (k : Nat) (x y : α) : List α := if k = 0 then [x, y] else [y, x]
theorem two_get {α : Type} {k : Nat} (h : k < 2) (x y : α) : (two k x y)[k]? = some x := by
  rcases (by omega : k = 0 ∨ k = 1) with rfl | rfl <;> rfl
theorem two_set {α : Type} {k : Nat} (h : k < 2) (x y z : α) : (two k x y).set k z = two k z y := by
  rcases (by omega : k = 0 ∨ k = 1) with rfl | rfl <;> rfl
theorem two_len {α : Type} (k : Nat) (x y : α) : (two k x y).length = 2 := by
  unfold two; split <;> rfl
def HS.v (s : HS) : Value := .slice s.a s.A.length s.c
def HS.pv (s : HS) : Value := .pointer (some ⟨s.h, 0, none⟩)
def st2 (g : PlG) (pb b3 b4 : Nat) (ys : List UInt8) (k : Nat) (s o : HS) : List Ck :=
  g.cks pb ys ++ [.bk b3 (two k s.pv o.pv) 38, .bk b4 (two k s.v o.v) 39, .bk s.h (hcells s.A s.p) 100, .bk o.h (hcells o.A o.p) 100, .sl s.a s.c (s.A.map u8v) 5 1, .sl o.a o.c (o.A.map u8v) 5 1]
theorem st2_swap {S : Cx} {w : World} {g : PlG} {pb b3 b4 : Nat} {ys : List UInt8} {s o : HS} (h : Sat S (st2 g pb b3 b4 ys 0 s o) w) : Sat S (st2 g pb b3 b4 ys 1 o s) w := by
  refine h.perm ?_
  refine List.Perm.append_left _ (List.Perm.cons _ (List.Perm.cons _ ?_))
  exact (List.Perm.swap ..).trans (List.Perm.cons _ (List.Perm.cons _ (List.Perm.swap ..)))
/-- the state, seen from hash k -/
theorem st2_at {S : Cx} {w : World} {g : PlG} {pb b3 b4 : Nat} {ys : List UInt8} {s0 s1 : HS} (h : Sat S (st2 g pb b3 b4 ys 0 s0 s1) w) {k : Nat} (hk : k < 2) {P : HS → Prop} (h0 : P s0) (h1 : P s1) {T : Nat} (hT : s0.A.length + s1.A.length ≤ T) :
    ∃ s o : HS, P s ∧ P o ∧ s.A.length + o.A.length ≤ T ∧ two 0 s0.v s1.v = two k s.v o.v ∧ two 0 s0.pv s1.pv = two k s.pv o.pv ∧ Sat S (st2 g pb b3 b4 ys k s o) w := by
  rcases (by omega : k = 0 ∨ k = 1) with rfl | rfl
  · exact ⟨s0, s1, h0, h1, hT, rfl, rfl, h⟩
  · exact ⟨s1, s0, h1, h0, by omega, rfl, rfl, st2_swap h⟩
theorem st2_back {S : Cx} {w : World} {g : PlG} {pb b3 b4 : Nat} {ys : List UInt8} {s o : HS} {k : Nat} (h : Sat S (st2 g pb b3 b4 ys k s o) w) (hk : k < 2) {P : HS → Prop} (h0 : P s) (h1 : P o) {T : Nat} (hT : s.A.length + o.A.length ≤ T) :
    ∃ s0 s1 : HS, P s0 ∧ P s1 ∧ s0.A.length + s1.A.length ≤ T ∧ Sat S (st2 g pb b3 b4 ys 0 s0 s1) w := by
  rcases (by omega : k = 0 ∨ k = 1) with rfl | rfl
  · exact ⟨s, o, h0, h1, hT, h⟩
  · refine ⟨o, s, h1, h0, by omega, h.perm ?_⟩
    refine List.Perm.append_left _ (List.Perm.cons _ (List.Perm.cons _ ?_))
    exact (List.Perm.swap ..).trans (List.Perm.cons _ (List.Perm.cons _ (List.Perm.swap ..)))
theorem perm10 {α : Type} (h0 h1 b3 b4 p o i x a b : α) : [h0, h1, b3, b4, p, o, i, x, a, b].Perm [p, o, i, x, b3, b4, h0, h1, a, b] := by
  have e1 : ([h0, h1, b3, b4] ++ [p, o, i, x]).Perm ([p, o, i, x] ++ [h0, h1, b3, b4]) := List.perm_append_comm
  have e2 : ([h0, h1] ++ [b3, b4]).Perm ([b3, b4] ++ [h0, h1]) := List.perm_append_comm
  exact (e1.trans (List.Perm.append_left _ e2)).append_right [a, b]
theorem fl_get {α : Type} {f : α → List Value} {n : Nat} (hf : ∀ x, (f x).length = n) : ∀ (l : List α) (i j : Nat), j < n → (l.flatMap f)[i * n + j]? = (l[i]?).bind fun x => (f x)[j]?
  | [], i, j, hj => rfl
  | x :: l, 0, j, hj => by
    rw [List.flatMap_cons, Nat.zero_mul, Nat.zero_add, List.getElem?_append_left (by rw [hf]; exact hj)]
    rfl
  | x :: l, i + 1, j, hj => by
    have := fl_get hf l i j hj
    rw [List.flatMap_cons, List.getElem?_append_right (by rw [hf, Nat.succ_mul]; omega), hf, show (i + 1) * n + j - n = i * n + j by rw [Nat.succ_mul]; omega, this]
    rfl
def HS.ok (s : HS) : Prop := HOk s.A s.p ∧ s.A.length ≤ s.c
theorem two_01 {k : Nat} (s o : HS) : ∃ s' o' : HS, (two k (Value.slice s.a s.A.length s.c) (.slice o.a o.A.length o.c))[0]? = some (.slice s'.a s'.A.length s'.c) ∧ (two k (Value.slice s.a s.A.length s.c) (.slice o.a o.A.length o.c))[1]? = some (.slice o'.a o'.A.length o'.c) ∧ s'.A.length + o'.A.length = s.A.length + o.A.length := by
  unfold two
  split
  · exact ⟨s, o, rfl, rfl, rfl⟩
  · exact ⟨o, s, rfl, rfl, Nat.add_comm ..⟩
/-- a new hash and a nil row stand for the old ones -/
theorem dropAt3 {α : Type} (p o i x b3 b4 h1 h2 a1 a2 n1 n2 : α) : [p, o, i, x, b3, b4, h2, a2, n1, n2].Sublist [p, o, i, x, b3, b4, h1, h2, a1, a2, n1, n2] :=
  .cons_cons _ (.cons_cons _ (.cons_cons _ (.cons_cons _ (.cons_cons _ (.cons_cons _ (.cons _ (.cons_cons _ (.cons _ (.cons_cons _ (.cons_cons _ (.cons_cons _ .slnil)))))))))))
theorem perm10b {α : Type} (p o i x b3 b4 h2 a2 n1 n2 : α) : [p, o, i, x, b3, b4, h2, a2, n1, n2].Perm [p, o, i, x, b3, b4, n1, h2, n2, a2] := by
  refine List.Perm.append_left [p, o, i, x, b3, b4] ?_
  have e1 : [h2, a2, n1, n2].Perm [h2, n1, a2, n2] := .cons _ (.swap ..)
  have e2 : [h2, n1, a2, n2].Perm [n1, h2, a2, n2] := .swap ..
  have e3 : [n1, h2, a2, n2].Perm [n1, h2, n2, a2] := .cons _ (.cons _ (.swap ..))
  exact (e1.trans e2).trans e3
theorem DigestParts_calls (w0 : World) (a : Option Addr) (c : Nat) (rows : List OpR) (hx : Ro (.at w0) a (rows.flatMap OpR.vals)) (hx2 : ∀ r ∈ rows, Ro (.at w0) r.a (r.xs.map u8v) ∧ r.xs.length ≤ 140737488351232) (hn : rows.length ≤ 140737488351232) (hG : Ro (.at w0) (some ⟨0, 0, none⟩) (factors.map u32v)) :
    Calls Tryd.prog 4 #[.slice a rows.length c] w0 fun e w' => e = .returned (.bool true) ∧ Below w0.heap.size w0 w' := by
  refine calls_vc Tryd.func4 rfl (by kernel_rfl) (by kernel_rfl) ?_; intro R hR
  have hs := Sat.start w0
  (repeat (first | (simp (disch := first | omega | assumption | exact Option.isSome_some | (simp only [adO_isSome]; assumption)) only [↓vcp, vcs, vct, if_true, if_false, Nat.reduceBEq, ↓reduceIte, Nat.reduceEqDiff, Nat.reduceAdd, Nat.reduceMul, Nat.reduceSub, Int.reduceToNat, reduceCtorEq, Nat.reduceLT, Nat.reduceLeDiff, Int.reduceSub, Int.reduceAdd, Int.reduceNeg, Sat.look hs, Sat.lookA hs]) | (refine khK he hs ?_; clear he; intro he) | ((first | refine stK hs ?_ | refine stFK hs ?_ | refine stAK hs ?_ | refine msK hs ?_); clear hs; (try clear w); rintro w hs; try simp only [cls] at hs) | ((first | refine al_ok hs ?_ | refine bx_ok hs ?_ | refine bsvK hs ?_ | refine bs1_ok hs ?_); clear hs; (try clear w); rintro _ w hs; try simp only [cls] at hs)))
  refine call_ok (by kernel_rfl) (begun_calls w0 hG) ?_; rintro _ w2 ⟨rfl, hb⟩; rw [callK_ret]; replace hs := Sat.add hs (Below.sat hb); clear hb; (try clear w); rename World => w; try simp only [cls] at hs
  (repeat (first | (simp (disch := first | omega | assumption | exact Option.isSome_some | (simp only [adO_isSome]; assumption)) only [↓vcp, vcs, vct, if_true, if_false, Nat.reduceBEq, ↓reduceIte, Nat.reduceEqDiff, Nat.reduceAdd, Nat.reduceMul, Nat.reduceSub, Int.reduceToNat, reduceCtorEq, Nat.reduceLT, Nat.reduceLeDiff, Int.reduceSub, Int.reduceAdd, Int.reduceNeg, Sat.look hs, Sat.lookA hs]) | (refine khK he hs ?_; clear he; intro he) | ((first | refine stK hs ?_ | refine stFK hs ?_ | refine stAK hs ?_ | refine msK hs ?_); clear hs; (try clear w); rintro w hs; try simp only [cls] at hs) | ((first | refine al_ok hs ?_ | refine bx_ok hs ?_ | refine bsvK hs ?_ | refine bs1_ok hs ?_); clear hs; (try clear w); rintro _ w hs; try simp only [cls] at hs)))
  refine call_ok (by kernel_rfl) (New_calls w) ?_; rintro _ w2 ⟨h0, rfl, hb⟩; rw [callK_ret]; replace hs := Sat.add hs hb; clear hb; (try clear w); rename World => w; try simp only [cls] at hs
  (repeat (first | (simp (disch := first | omega | assumption | exact Option.isSome_some | (simp only [adO_isSome]; assumption)) only [↓vcp, vcs, vct, if_true, if_false, Nat.reduceBEq, ↓reduceIte, Nat.reduceEqDiff, Nat.reduceAdd, Nat.reduceMul, Nat.reduceSub, Int.reduceToNat, reduceCtorEq, Nat.reduceLT, Nat.reduceLeDiff, Int.reduceSub, Int.reduceAdd, Int.reduceNeg, Sat.look hs, Sat.lookA hs]) | (refine khK he hs ?_; clear he; intro he) | ((first | refine stK hs ?_ | refine stFK hs ?_ | refine stAK hs ?_ | refine msK hs ?_); clear hs; (try clear w); rintro w hs; try simp only [cls] at hs) | ((first | refine al_ok hs ?_ | refine bx_ok hs ?_ | refine bsvK hs ?_ | refine bs1_ok hs ?_); clear hs; (try clear w); rintro _ w hs; try simp only [cls] at hs)))
  refine call_ok (by kernel_rfl) (New_calls w) ?_; rintro _ w2 ⟨h1, rfl, hb⟩; rw [callK_ret]; replace hs := Sat.add hs hb; clear hb; (try clear w); rename World => w; try simp only [cls] at hs
  (repeat (first | (simp (disch := first | omega | assumption | exact Option.isSome_some | (simp only [adO_isSome]; assumption)) only [↓vcp, vcs, vct, if_true, if_false, Nat.reduceBEq, ↓reduceIte, Nat.reduceEqDiff, Nat.reduceAdd, Nat.reduceMul, Nat.reduceSub, Int.reduceToNat, reduceCtorEq, Nat.reduceLT, Nat.reduceLeDiff, Int.reduceSub, Int.reduceAdd, Int.reduceNeg, Sat.look hs, Sat.lookA hs]) | (refine khK he hs ?_; clear he; intro he) | ((first | refine stK hs ?_ | refine stFK hs ?_ | refine stAK hs ?_ | refine msK hs ?_); clear hs; (try clear w); rintro w hs; try simp only [cls] at hs) | ((first | refine al_ok hs ?_ | refine bx_ok hs ?_ | refine bsvK hs ?_ | refine bs1_ok hs ?_); clear hs; (try clear w); rintro _ w hs; try simp only [cls] at hs)))
  rename_i b3 b4 pb
  replace hs := Sat.nil hs 27 1; try simp only [cls] at hs
  replace hs := Sat.nil hs 27 1; try simp only [cls] at hs
  replace hs := Sat.nil hs 5 1; try simp only [cls] at hs
  replace hs := Sat.nil hs 5 1; try simp only [cls] at hs
  replace hs := Sat.nil hs 5 1; try simp only [cls] at hs
  replace hs : Sat (.at w0) (st2 ⟨none, 0, [], none, 0, none, 0, true⟩ pb b3 b4 [] 0 ⟨h0, List.replicate 64 0, none, 0, []⟩ ⟨h1, List.replicate 64 0, none, 0, []⟩) w := hs.perm (perm10 ..)
  have hok0 := hok_nil (List.replicate 64 0) rfl
  refine loop_join (σ := PlG × List UInt8 × HS × HS) 0 [] (fun _ => []) [3, 4] (fun x w' => x.2.2.1.ok ∧ x.2.2.2.ok ∧ x.2.2.1.A.length + x.2.2.2.A.length ≤ 65536 ∧ Sat (.at w0) (st2 x.1 pb b3 b4 x.2.1 0 x.2.2.1 x.2.2.2) w') ?_ ?_
  · refine loop_rule (σ := Nat × PlG × List UInt8 × HS × HS) [6] (fun x => [.int .i64 x.1]) [0, 3, 4, 5] (fun x w' => x.1 ≤ rows.length ∧ (x.2.1.new = true → x.2.1.xa = none ∧ x.2.1.xc = 0 ∧ x.2.1.outs = []) ∧ x.2.2.2.1.ok ∧ x.2.2.2.2.ok ∧ x.2.2.2.1.A.length + x.2.2.2.2.A.length ≤ 65536 ∧ Sat (.at w0) (st2 x.2.1 pb b3 b4 x.2.2.1 0 x.2.2.2.1 x.2.2.2.2) w') (fun x _ => rows.length - x.1)
      (0, ⟨none, 0, [], none, 0, none, 0, true⟩, [], ⟨h0, List.replicate 64 0, none, 0, []⟩, ⟨h1, List.replicate 64 0, none, 0, []⟩) (by kernel_rfl) rfl ⟨by omega, fun _ => ⟨rfl, rfl, rfl⟩, ⟨hok0, by simp⟩, ⟨hok0, by simp⟩, by simp, hs⟩ ?_
    clear hs hok0
    rintro e ⟨i, g, ys, s0, s1⟩ w ⟨hi, hg, ho0, ho1, hT, hs⟩
    dsimp only at hi hg ho0 ho1 hT hs ⊢
    simp (disch := first | omega | assumption | exact Option.isSome_some | (simp only [adO_isSome]; assumption)) only [↓vcp, vcs, vct, if_true, if_false, Nat.reduceBEq, ↓reduceIte, Nat.reduceEqDiff, Nat.reduceAdd, Nat.reduceMul, Nat.reduceSub, Int.reduceToNat, reduceCtorEq, Nat.reduceLT, Nat.reduceLeDiff, Int.reduceSub, Int.reduceAdd, Int.reduceNeg, Sat.look hs, Sat.lookA hs]
    by_cases hlt : i < rows.length
    case neg =>
      (repeat (first | (simp (disch := first | omega | assumption | exact Option.isSome_some | (simp only [adO_isSome]; assumption)) only [↓vcp, vcs, vct, if_true, if_false, Nat.reduceBEq, ↓reduceIte, Nat.reduceEqDiff, Nat.reduceAdd, Nat.reduceMul, Nat.reduceSub, Int.reduceToNat, reduceCtorEq, Nat.reduceLT, Nat.reduceLeDiff, Int.reduceSub, Int.reduceAdd, Int.reduceNeg, Sat.look hs, Sat.lookA hs]) | (refine khK he hs ?_; clear he; intro he) | ((first | refine stK hs ?_ | refine stFK hs ?_ | refine stAK hs ?_ | refine msK hs ?_); clear hs; (try clear w); rintro w hs; try simp only [cls] at hs) | ((first | refine al_ok hs ?_ | refine bx_ok hs ?_ | refine bsvK hs ?_ | refine bs1_ok hs ?_); clear hs; (try clear w); rintro _ w hs; try simp only [cls] at hs)))
      exact ⟨(g, ys, s0, s1), by rfl, by rfl, ho0, ho1, hT, hs⟩
    by_cases h2000 : i < 2000
    case neg =>
      (repeat (first | (simp (disch := first | omega | assumption | exact Option.isSome_some | (simp only [adO_isSome]; assumption)) only [↓vcp, vcs, vct, if_true, if_false, Nat.reduceBEq, ↓reduceIte, Nat.reduceEqDiff, Nat.reduceAdd, Nat.reduceMul, Nat.reduceSub, Int.reduceToNat, reduceCtorEq, Nat.reduceLT, Nat.reduceLeDiff, Int.reduceSub, Int.reduceAdd, Int.reduceNeg, Sat.look hs, Sat.lookA hs]) | (refine khK he hs ?_; clear he; intro he) | ((first | refine stK hs ?_ | refine stFK hs ?_ | refine stAK hs ?_ | refine msK hs ?_); clear hs; (try clear w); rintro w hs; try simp only [cls] at hs) | ((first | refine al_ok hs ?_ | refine bx_ok hs ?_ | refine bsvK hs ?_ | refine bs1_ok hs ?_); clear hs; (try clear w); rintro _ w hs; try simp only [cls] at hs)))
      exact ⟨(g, ys, s0, s1), by rfl, by rfl, ho0, ho1, hT, hs⟩
    obtain ⟨r, hr⟩ : ∃ r, rows[i]? = some r := ⟨_, List.getElem?_eq_getElem hlt⟩
    obtain ⟨on, act, ra, rc, xs⟩ := r
    obtain ⟨hxr, hxl⟩ := hx2 _ (List.mem_of_getElem? hr)
    dsimp only at hxr hxl
    have has : a.isSome = true := hx.isSome (by have := (List.getElem?_eq_some_iff.1 (show (rows.flatMap OpR.vals)[i * 3 + 0]? = some _ by rw [fl_get (f := OpR.vals) (n := 3) (fun _ => rfl) rows i 0 (by omega), hr]; rfl)).1; omega)
    have f0 : oldO (.at w0) (adO a (i * 3)) = some (.int .i64 on) := hx _ _ (by have := fl_get (f := OpR.vals) (n := 3) (fun _ => rfl) rows i 0 (by omega); rw [hr] at this; exact this)
    have f1 : oldO (.at w0) (adO a (i * 3 + 1)) = some (.int .i64 act) := hx _ _ (by have := fl_get (f := OpR.vals) (n := 3) (fun _ => rfl) rows i 1 (by omega); rw [hr] at this; exact this)
    have f2 : oldO (.at w0) (adO a (i * 3 + 2)) = some (.slice ra xs.length rc) := hx _ _ (by have := fl_get (f := OpR.vals) (n := 3) (fun _ => rfl) rows i 2 (by omega); rw [hr] at this; exact this)
    obtain ⟨k, hk, hband⟩ := band1 on
    obtain ⟨s, o, hos, hoo, hT2, ev, ep, hs2⟩ := st2_at hs hk ho0 ho1 hT
    clear hs ho0 ho1 hT ev ep
    have hs := hs2
    clear hs2
    unfold st2 PlG.cks at hs
    simp only [HS.v, HS.pv, List.cons_append, List.nil_append] at hs
    have hk3 := two_get hk (Value.pointer (some ⟨s.h, 0, none⟩)) (.pointer (some ⟨o.h, 0, none⟩))
    have hk4 := two_get hk (Value.slice s.a s.A.length s.c) (.slice o.a o.A.length o.c)
    have hl3 := two_len k (Value.pointer (some ⟨s.h, 0, none⟩)) (.pointer (some ⟨o.h, 0, none⟩))
    have hl4 := two_len k (Value.slice s.a s.A.length s.c) (.slice o.a o.A.length o.c)
    (repeat (first | (simp (disch := first | omega | assumption | exact Option.isSome_some | (simp only [adO_isSome]; assumption)) only [↓vcp, vcs, vct, if_true, if_false, Nat.reduceBEq, ↓reduceIte, Nat.reduceEqDiff, Nat.reduceAdd, Nat.reduceMul, Nat.reduceSub, Int.reduceToNat, reduceCtorEq, Nat.reduceLT, Nat.reduceLeDiff, Int.reduceSub, Int.reduceAdd, Int.reduceNeg, Sat.look hs, Sat.lookA hs, hs.old f0, hs.old f1, hband, hk3, hl3]) | (refine khK he hs ?_; clear he; intro he) | ((first | refine stK hs ?_ | refine stFK hs ?_ | refine stAK hs ?_ | refine msK hs ?_); clear hs; (try clear w); rintro w hs; try simp only [cls] at hs) | ((first | refine al_ok hs ?_ | refine bx_ok hs ?_ | refine bsvK hs ?_ | refine bs1_ok hs ?_); clear hs; (try clear w); rintro _ w hs; try simp only [cls] at hs)))
    by_cases hw : act = 1
    case pos =>
      obtain ⟨y0, y1, hy0, hy1, hyl⟩ := two_01 (k := k) s o
      (repeat (first | (simp (disch := first | omega | assumption | exact Option.isSome_some | (simp only [adO_isSome]; assumption)) only [↓vcp, vcs, vct, if_true, if_false, Nat.reduceBEq, ↓reduceIte, Nat.reduceEqDiff, Nat.reduceAdd, Nat.reduceMul, Nat.reduceSub, Int.reduceToNat, reduceCtorEq, Nat.reduceLT, Nat.reduceLeDiff, Int.reduceSub, Int.reduceAdd, Int.reduceNeg, Sat.look hs, Sat.lookA hs]) | (refine khK he hs ?_; clear he; intro he) | ((first | refine stK hs ?_ | refine stFK hs ?_ | refine stAK hs ?_ | refine msK hs ?_); clear hs; (try clear w); rintro w hs; try simp only [cls] at hs) | ((first | refine al_ok hs ?_ | refine bx_ok hs ?_ | refine bsvK hs ?_ | refine bs1_ok hs ?_); clear hs; (try clear w); rintro _ w hs; try simp only [cls] at hs)))
      refine draw_still 14 (by kernel_rfl) (by kernel_rfl) (by kernel_rfl) ?_
      replace hs := Sat.drew hs; revert hs; generalize World.drew _ = w; intro hs
      (repeat (first | (simp (disch := first | omega | assumption | exact Option.isSome_some | (simp only [adO_isSome]; assumption)) only [↓vcp, vcs, vct, if_true, if_false, Nat.reduceBEq, ↓reduceIte, Nat.reduceEqDiff, Nat.reduceAdd, Nat.reduceMul, Nat.reduceSub, Int.reduceToNat, reduceCtorEq, Nat.reduceLT, Nat.reduceLeDiff, Int.reduceSub, Int.reduceAdd, Int.reduceNeg, Sat.look hs, Sat.lookA hs, hs.old f2, hy0, hy1, hl4]) | (refine khK he hs ?_; clear he; intro he) | ((first | refine stK hs ?_ | refine stFK hs ?_ | refine stAK hs ?_ | refine msK hs ?_); clear hs; (try clear w); rintro w hs; try simp only [cls] at hs) | ((first | refine al_ok hs ?_ | refine bx_ok hs ?_ | refine bsvK hs ?_ | refine bs1_ok hs ?_); clear hs; (try clear w); rintro _ w hs; try simp only [cls] at hs)))
      by_cases hbig : 65536 < s.A.length + o.A.length + xs.length
      case pos =>
        (repeat (first | (simp (disch := first | omega | assumption | exact Option.isSome_some | (simp only [adO_isSome]; assumption)) only [↓vcp, vcs, vct, if_true, if_false, Nat.reduceBEq, ↓reduceIte, Nat.reduceEqDiff, Nat.reduceAdd, Nat.reduceMul, Nat.reduceSub, Int.reduceToNat, reduceCtorEq, Nat.reduceLT, Nat.reduceLeDiff, Int.reduceSub, Int.reduceAdd, Int.reduceNeg, Sat.look hs, Sat.lookA hs]) | (refine khK he hs ?_; clear he; intro he) | ((first | refine stK hs ?_ | refine stFK hs ?_ | refine stAK hs ?_ | refine msK hs ?_); clear hs; (try clear w); rintro w hs; try simp only [cls] at hs) | ((first | refine al_ok hs ?_ | refine bx_ok hs ?_ | refine bsvK hs ?_ | refine bs1_ok hs ?_); clear hs; (try clear w); rintro _ w hs; try simp only [cls] at hs)))
        replace hs : Sat (.at w0) (st2 g pb b3 b4 ys k s o) w := hs
        obtain ⟨s0, s1, h0, h1, h2, hs⟩ := st2_back hs hk hos hoo hT2
        exact ⟨(i + 1, g, ys, s0, s1), by rfl, by rfl, ⟨by dsimp only; omega, hg, h0, h1, h2, hs⟩, by dsimp only; omega⟩
      case neg =>
        (repeat (first | (simp (disch := first | omega | assumption | exact Option.isSome_some | (simp only [adO_isSome]; assumption)) only [↓vcp, vcs, vct, if_true, if_false, Nat.reduceBEq, ↓reduceIte, Nat.reduceEqDiff, Nat.reduceAdd, Nat.reduceMul, Nat.reduceSub, Int.reduceToNat, reduceCtorEq, Nat.reduceLT, Nat.reduceLeDiff, Int.reduceSub, Int.reduceAdd, Int.reduceNeg, Sat.look hs, Sat.lookA hs, hs.old f2]) | (refine khK he hs ?_; clear he; intro he) | ((first | refine stK hs ?_ | refine stFK hs ?_ | refine stAK hs ?_ | refine msK hs ?_); clear hs; (try clear w); rintro w hs; try simp only [cls] at hs) | ((first | refine al_ok hs ?_ | refine bx_ok hs ?_ | refine bsvK hs ?_ | refine bs1_ok hs ?_); clear hs; (try clear w); rintro _ w hs; try simp only [cls] at hs)))
        replace hs : Sat (.at w0) (g.cks pb ys ++ [.bk b3 (two k (.pointer (some ⟨s.h, 0, none⟩)) (.pointer (some ⟨o.h, 0, none⟩))) 38, .bk b4 (two k (.slice s.a s.A.length s.c) (.slice o.a o.A.length o.c)) 39, .bk s.h (hcells s.A s.p) 100, .bk o.h (hcells o.A o.p) 100, .sl s.a s.c (s.A.map u8v) 5 1, .sl o.a o.c (o.A.map u8v) 5 1]) w := hs
        refine call_ok (by kernel_rfl) (Bytes_calls _ w pb g ys ra rc xs hs.front hg (hxr.upF hs) hxl) ?_; rintro e w2 ⟨g', H', rfl, hg1, hg2, hb⟩; rw [callK_ret]
        replace hs := hs.frame (List.Perm.refl _) hb
        replace hs := hs.sub (List.Sublist.append_right (List.sublist_append_left _ H') _)
        clear hb hg w
        rename World => w
        unfold PlG.cks at hs
        simp only [List.cons_append, List.nil_append] at hs
        (repeat (first | (simp (disch := first | omega | assumption | exact Option.isSome_some | (simp only [adO_isSome]; assumption)) only [↓vcp, vcs, vct, if_true, if_false, Nat.reduceBEq, ↓reduceIte, Nat.reduceEqDiff, Nat.reduceAdd, Nat.reduceMul, Nat.reduceSub, Int.reduceToNat, reduceCtorEq, Nat.reduceLT, Nat.reduceLeDiff, Int.reduceSub, Int.reduceAdd, Int.reduceNeg, Sat.look hs, Sat.lookA hs, hs.old f2]) | (refine khK he hs ?_; clear he; intro he) | ((first | refine stK hs ?_ | refine stFK hs ?_ | refine stAK hs ?_ | refine msK hs ?_); clear hs; (try clear w); rintro w hs; try simp only [cls] at hs) | ((first | refine al_ok hs ?_ | refine bx_ok hs ?_ | refine bsvK hs ?_ | refine bs1_ok hs ?_); clear hs; (try clear w); rintro _ w hs; try simp only [cls] at hs)))
        rcases Nat.mod_two_eq_zero_or_one i with hp | hp
        · (repeat (first | (simp (disch := first | omega | assumption | exact Option.isSome_some | (simp only [adO_isSome]; assumption)) only [↓vcp, vcs, vct, if_true, if_false, Nat.reduceBEq, ↓reduceIte, Nat.reduceEqDiff, Nat.reduceAdd, Nat.reduceMul, Nat.reduceSub, Int.reduceToNat, reduceCtorEq, Nat.reduceLT, Nat.reduceLeDiff, Int.reduceSub, Int.reduceAdd, Int.reduceNeg, Sat.look hs, Sat.lookA hs, hs.old f2, tmod_lit]) | (refine khK he hs ?_; clear he; intro he) | ((first | refine stK hs ?_ | refine stFK hs ?_ | refine stAK hs ?_ | refine msK hs ?_); clear hs; (try clear w); rintro w hs; try simp only [cls] at hs) | ((first | refine al_ok hs ?_ | refine bx_ok hs ?_ | refine bsvK hs ?_ | refine bs1_ok hs ?_); clear hs; (try clear w); rintro _ w hs; try simp only [cls] at hs)))
          refine call_ok (by kernel_rfl) (Lend_calls w ra rc xs (hxr.rd hs) hxl) ?_; rintro e w2 ⟨la, lc, rfl, hown, hb⟩; rw [callK_ret]
          have hlc70 : xs.length + 70 ≤ lc := by rcases hown.form with ⟨_, h, _⟩ | ⟨_, _, _, _, _, h, _⟩ <;> omega
          replace hs := hs.add (Own.sat hown hb)
          try simp only [cls] at hs
          clear hown hb w
          rename World => w
          (repeat (first | (simp (disch := first | omega | assumption | exact Option.isSome_some | (simp only [adO_isSome]; assumption)) only [↓vcp, vcs, vct, if_true, if_false, Nat.reduceBEq, ↓reduceIte, Nat.reduceEqDiff, Nat.reduceAdd, Nat.reduceMul, Nat.reduceSub, Int.reduceToNat, reduceCtorEq, Nat.reduceLT, Nat.reduceLeDiff, Int.reduceSub, Int.reduceAdd, Int.reduceNeg, Sat.look hs, Sat.lookA hs, hs.old f2, hk3, hl3, tmod_lit]) | (refine khK he hs ?_; clear he; intro he) | ((first | refine stK hs ?_ | refine stFK hs ?_ | refine stAK hs ?_ | refine msK hs ?_); clear hs; (try clear w); rintro w hs; try simp only [cls] at hs) | ((first | refine al_ok hs ?_ | refine bx_ok hs ?_ | refine bsvK hs ?_ | refine bs1_ok hs ?_); clear hs; (try clear w); rintro _ w hs; try simp only [cls] at hs)))
          have hrb : Ro ⟨w, (Ck.bk s.h (hcells s.A s.p) 100).foot⟩ la (xs.map u8v) := by have h2 := Ro.take (hs.roOther (a := la) (i := 6) (c := Ck.bk s.h (hcells s.A s.p) 100) rfl (by decide)) xs.length; rwa [← List.map_take, List.take_left] at h2
          refine call_ok (by kernel_rfl) (Write_calls _ w s.h s.A s.p la lc xs (hs.one 6 rfl) hos.1 (hG.up hs 6 rfl) hrb (by omega) (by omega)) ?_; rintro _ w2 ⟨p2, H2, rfl, hok2, hb⟩; rw [callK_ret]; replace hs := Sat.upd hs 6 rfl hb; clear hb; (try clear w); rename World => w; try simp only [cls] at hs
          clear hrb
          replace hs := hs.take 11
          simp only [List.take_succ_cons, List.take_zero] at hs
          (repeat (first | (simp (disch := first | omega | assumption | exact Option.isSome_some | (simp only [adO_isSome]; assumption)) only [↓vcp, vcs, vct, if_true, if_false, Nat.reduceBEq, ↓reduceIte, Nat.reduceEqDiff, Nat.reduceAdd, Nat.reduceMul, Nat.reduceSub, Int.reduceToNat, reduceCtorEq, Nat.reduceLT, Nat.reduceLeDiff, Int.reduceSub, Int.reduceAdd, Int.reduceNeg, Sat.look hs, Sat.lookA hs, hs.old f2, hk3, hl3, tmod_lit]) | (refine khK he hs ?_; clear he; intro he) | ((first | refine stK hs ?_ | refine stFK hs ?_ | refine stAK hs ?_ | refine msK hs ?_); clear hs; (try clear w); rintro w hs; try simp only [cls] at hs) | ((first | refine al_ok hs ?_ | refine bx_ok hs ?_ | refine bsvK hs ?_ | refine bs1_ok hs ?_); clear hs; (try clear w); rintro _ w hs; try simp only [cls] at hs)))
          have hlr : Ro (.at w) la (xs.map u8v) := by
            have h1 : Ro (.at w) la ((xs ++ marks 70).map u8v) := hs.ro
            have h2 := h1.take xs.length
            rwa [← List.map_take, List.take_left] at h2
          refine call_ok (by kernel_rfl) (Eq_calls w la ra lc rc xs xs (hlr.rd (Sat.start w)) (hxr.rd hs) (by omega)) ?_; rintro _ w2 ⟨rfl, hb⟩; rw [callK_ret]; replace hs := Sat.add hs (Below.sat hb); clear hb; (try clear w); rename World => w; try simp only [cls] at hs
          clear hlr
          (repeat (first | (simp (disch := first | omega | assumption | exact Option.isSome_some | (simp only [adO_isSome]; assumption)) only [↓vcp, vcs, vct, if_true, if_false, Nat.reduceBEq, ↓reduceIte, Nat.reduceEqDiff, Nat.reduceAdd, Nat.reduceMul, Nat.reduceSub, Int.reduceToNat, reduceCtorEq, Nat.reduceLT, Nat.reduceLeDiff, Int.reduceSub, Int.reduceAdd, Int.reduceNeg, Sat.look hs, Sat.lookA hs, hs.old f2, hk3, hl3, tmod_lit]) | (refine khK he hs ?_; clear he; intro he) | ((first | refine stK hs ?_ | refine stFK hs ?_ | refine stAK hs ?_ | refine msK hs ?_); clear hs; (try clear w); rintro w hs; try simp only [cls] at hs) | ((first | refine al_ok hs ?_ | refine bx_ok hs ?_ | refine bsvK hs ?_ | refine bs1_ok hs ?_); clear hs; (try clear w); rintro _ w hs; try simp only [cls] at hs)))
          refine call_ok (by kernel_rfl) (Intact_calls w la ra lc rc xs (hs.rd) hlc70 (hxr.rd hs) hxl) ?_; rintro _ w2 ⟨rfl, hb⟩; rw [callK_ret]; replace hs := Sat.add hs (Below.sat hb); clear hb; (try clear w); rename World => w; try simp only [cls] at hs
          (repeat (first | (simp (disch := first | omega | assumption | exact Option.isSome_some | (simp only [adO_isSome]; assumption)) only [↓vcp, vcs, vct, if_true, if_false, Nat.reduceBEq, ↓reduceIte, Nat.reduceEqDiff, Nat.reduceAdd, Nat.reduceMul, Nat.reduceSub, Int.reduceToNat, reduceCtorEq, Nat.reduceLT, Nat.reduceLeDiff, Int.reduceSub, Int.reduceAdd, Int.reduceNeg, Sat.look hs, Sat.lookA hs, hs.old f2, hk3, hl3, tmod_lit]) | (refine khK he hs ?_; clear he; intro he) | ((first | refine stK hs ?_ | refine stFK hs ?_ | refine stAK hs ?_ | refine msK hs ?_); clear hs; (try clear w); rintro w hs; try simp only [cls] at hs) | ((first | refine al_ok hs ?_ | refine bx_ok hs ?_ | refine bsvK hs ?_ | refine bs1_ok hs ?_); clear hs; (try clear w); rintro _ w hs; try simp only [cls] at hs)))
          replace hs := hs.trunc 10 xs.length rfl
          rw [← List.map_take, List.take_left] at hs
          simp only [List.set_cons_succ, List.set_cons_zero] at hs
          refine call_ok (by kernel_rfl) (Over_calls _ w la lc xs (hs.one 10 rfl) (by omega)) ?_; rintro _ w2 ⟨rfl, hb⟩; rw [callK_ret]; replace hs := Sat.upd hs 10 rfl hb; clear hb; (try clear w); rename World => w; try simp only [cls] at hs
          replace hs := hs.take 10
          simp only [List.take_succ_cons, List.take_zero] at hs
          (repeat (first | (simp (disch := first | omega | assumption | exact Option.isSome_some | (simp only [adO_isSome]; assumption)) only [↓vcp, vcs, vct, if_true, if_false, Nat.reduceBEq, ↓reduceIte, Nat.reduceEqDiff, Nat.reduceAdd, Nat.reduceMul, Nat.reduceSub, Int.reduceToNat, reduceCtorEq, Nat.reduceLT, Nat.reduceLeDiff, Int.reduceSub, Int.reduceAdd, Int.reduceNeg, Sat.look hs, Sat.lookA hs, hs.old f2, hk4, hl4]) | (refine khK he hs ?_; clear he; intro he) | ((first | refine stK hs ?_ | refine stFK hs ?_ | refine stAK hs ?_ | refine msK hs ?_); clear hs; (try clear w); rintro w hs; try simp only [cls] at hs) | ((first | refine al_ok hs ?_ | refine bx_ok hs ?_ | refine bsvK hs ?_ | refine bs1_ok hs ?_); clear hs; (try clear w); rintro _ w hs; try simp only [cls] at hs)))
          refine draw_plan (SatE _ []) [(0, true), (1, true), (2, true), (4, true), (5, true), (6, true), (7, true), (8, true), (3, false), (9, false), (10, true), (11, false)] (by kernel_rfl) (by kernel_rfl) ⟨_, Sat.drew hs⟩ ?_; replace hs := Sat.drew hs; revert hs; generalize World.drew _ = w; intro hs; have he : SatE (.at w0) [] w := ⟨_, hs⟩
          (repeat (first | (simp (disch := first | omega | assumption | exact Option.isSome_some | (simp only [adO_isSome]; assumption)) only [↓vcp, vcs, vct, if_true, if_false, Nat.reduceBEq, ↓reduceIte, Nat.reduceEqDiff, Nat.reduceAdd, Nat.reduceMul, Nat.reduceSub, Int.reduceToNat, reduceCtorEq, Nat.reduceLT, Nat.reduceLeDiff, Int.reduceSub, Int.reduceAdd, Int.reduceNeg, Sat.look hs, Sat.lookA hs, m_loadEO _ he _ f2, hs.old f2, hk4, hl4]) | (refine khK he hs ?_; clear he; intro he) | ((first | refine stK hs ?_ | refine stFK hs ?_ | refine stAK hs ?_ | refine msK hs ?_); clear hs; (try clear w); rintro w hs; try simp only [cls] at hs) | ((first | refine al_ok hs ?_ | refine bx_ok hs ?_ | refine bsvK hs ?_ | refine bs1_ok hs ?_); clear hs; (try clear w); rintro _ w hs; try simp only [cls] at hs)))
          refine apK (xs.length) hs (hxr.rd hs) ?_; clear hs; (try clear w); rintro a2 c2 w hc2 hs; try simp only [cls] at hs
          (repeat (first | (simp (disch := first | omega | assumption | exact Option.isSome_some | (simp only [adO_isSome]; assumption)) only [↓vcp, vcs, vct, if_true, if_false, Nat.reduceBEq, ↓reduceIte, Nat.reduceEqDiff, Nat.reduceAdd, Nat.reduceMul, Nat.reduceSub, Int.reduceToNat, reduceCtorEq, Nat.reduceLT, Nat.reduceLeDiff, Int.reduceSub, Int.reduceAdd, Int.reduceNeg, Sat.look hs, Sat.lookA hs, m_loadEO _ he _ f2, hs.old f2, hk4, hl4]) | (refine khK he hs ?_; clear he; intro he) | ((first | refine stK hs ?_ | refine stFK hs ?_ | refine stAK hs ?_ | refine msK hs ?_); clear hs; (try clear w); rintro w hs; try simp only [cls] at hs) | ((first | refine al_ok hs ?_ | refine bx_ok hs ?_ | refine bsvK hs ?_ | refine bs1_ok hs ?_); clear hs; (try clear w); rintro _ w hs; try simp only [cls] at hs)))
          clear he
          rw [two_set hk] at hs
          rw [show s.A.length + xs.length = (s.A ++ xs).length from List.length_append.symm] at hs hc2
          rw [← List.map_append] at hs
          replace hs : Sat (.at w0) (st2 g' pb b3 b4 xs k ⟨s.h, p2, a2, c2, s.A ++ xs⟩ o) w := hs
          obtain ⟨s0, s1, h0, h1, h2, hs⟩ := st2_back hs hk (P := HS.ok) ⟨hok2, hc2⟩ hoo (T := 65536) (by rw [List.length_append]; omega)
          exact ⟨(i + 1, g', xs, s0, s1), by rfl, by rfl, ⟨by dsimp only; omega, (fun h => by rw [hg1] at h; cases h), h0, h1, h2, hs⟩, by dsimp only; omega⟩
        · (repeat (first | (simp (disch := first | omega | assumption | exact Option.isSome_some | (simp only [adO_isSome]; assumption)) only [↓vcp, vcs, vct, if_true, if_false, Nat.reduceBEq, ↓reduceIte, Nat.reduceEqDiff, Nat.reduceAdd, Nat.reduceMul, Nat.reduceSub, Int.reduceToNat, reduceCtorEq, Nat.reduceLT, Nat.reduceLeDiff, Int.reduceSub, Int.reduceAdd, Int.reduceNeg, Sat.look hs, Sat.lookA hs, hs.old f2, tmod_lit]) | (refine khK he hs ?_; clear he; intro he) | ((first | refine stK hs ?_ | refine stFK hs ?_ | refine stAK hs ?_ | refine msK hs ?_); clear hs; (try clear w); rintro w hs; try simp only [cls] at hs) | ((first | refine al_ok hs ?_ | refine bx_ok hs ?_ | refine bsvK hs ?_ | refine bs1_ok hs ?_); clear hs; (try clear w); rintro _ w hs; try simp only [cls] at hs)))
          (repeat (first | (simp (disch := first | omega | assumption | exact Option.isSome_some | (simp only [adO_isSome]; assumption)) only [↓vcp, vcs, vct, if_true, if_false, Nat.reduceBEq, ↓reduceIte, Nat.reduceEqDiff, Nat.reduceAdd, Nat.reduceMul, Nat.reduceSub, Int.reduceToNat, reduceCtorEq, Nat.reduceLT, Nat.reduceLeDiff, Int.reduceSub, Int.reduceAdd, Int.reduceNeg, Sat.look hs, Sat.lookA hs, hs.old f2, hk3, hl3, tmod_lit]) | (refine khK he hs ?_; clear he; intro he) | ((first | refine stK hs ?_ | refine stFK hs ?_ | refine stAK hs ?_ | refine msK hs ?_); clear hs; (try clear w); rintro w hs; try simp only [cls] at hs) | ((first | refine al_ok hs ?_ | refine bx_ok hs ?_ | refine bsvK hs ?_ | refine bs1_ok hs ?_); clear hs; (try clear w); rintro _ w hs; try simp only [cls] at hs)))
          have hrb : Ro ⟨w, (Ck.bk s.h (hcells s.A s.p) 100).foot⟩ g'.xa (xs.map u8v) := hs.roOther (i := 6) rfl (by decide)
          refine call_ok (by kernel_rfl) (Write_calls _ w s.h s.A s.p g'.xa g'.xc xs (hs.one 6 rfl) hos.1 (hG.up hs 6 rfl) hrb (by omega) (by omega)) ?_; rintro _ w2 ⟨p2, H2, rfl, hok2, hb⟩; rw [callK_ret]; replace hs := Sat.upd hs 6 rfl hb; clear hb; (try clear w); rename World => w; try simp only [cls] at hs
          clear hrb
          replace hs := hs.take 10
          simp only [List.take_succ_cons, List.take_zero] at hs
          (repeat (first | (simp (disch := first | omega | assumption | exact Option.isSome_some | (simp only [adO_isSome]; assumption)) only [↓vcp, vcs, vct, if_true, if_false, Nat.reduceBEq, ↓reduceIte, Nat.reduceEqDiff, Nat.reduceAdd, Nat.reduceMul, Nat.reduceSub, Int.reduceToNat, reduceCtorEq, Nat.reduceLT, Nat.reduceLeDiff, Int.reduceSub, Int.reduceAdd, Int.reduceNeg, Sat.look hs, Sat.lookA hs, hs.old f2, hk3, hl3, tmod_lit]) | (refine khK he hs ?_; clear he; intro he) | ((first | refine stK hs ?_ | refine stFK hs ?_ | refine stAK hs ?_ | refine msK hs ?_); clear hs; (try clear w); rintro w hs; try simp only [cls] at hs) | ((first | refine al_ok hs ?_ | refine bx_ok hs ?_ | refine bsvK hs ?_ | refine bs1_ok hs ?_); clear hs; (try clear w); rintro _ w hs; try simp only [cls] at hs)))
          refine call_ok (by kernel_rfl) (Eq_calls w g'.xa ra g'.xc rc xs xs (hs.rd (a := g'.xa)) (hxr.rd hs) (by omega)) ?_; rintro _ w2 ⟨rfl, hb⟩; rw [callK_ret]; replace hs := Sat.add hs (Below.sat hb); clear hb; (try clear w); rename World => w; try simp only [cls] at hs
          (repeat (first | (simp (disch := first | omega | assumption | exact Option.isSome_some | (simp only [adO_isSome]; assumption)) only [↓vcp, vcs, vct, if_true, if_false, Nat.reduceBEq, ↓reduceIte, Nat.reduceEqDiff, Nat.reduceAdd, Nat.reduceMul, Nat.reduceSub, Int.reduceToNat, reduceCtorEq, Nat.reduceLT, Nat.reduceLeDiff, Int.reduceSub, Int.reduceAdd, Int.reduceNeg, Sat.look hs, Sat.lookA hs, hs.old f2, hk3, hl3, tmod_lit]) | (refine khK he hs ?_; clear he; intro he) | ((first | refine stK hs ?_ | refine stFK hs ?_ | refine stAK hs ?_ | refine msK hs ?_); clear hs; (try clear w); rintro w hs; try simp only [cls] at hs) | ((first | refine al_ok hs ?_ | refine bx_ok hs ?_ | refine bsvK hs ?_ | refine bs1_ok hs ?_); clear hs; (try clear w); rintro _ w hs; try simp only [cls] at hs)))
          refine call_ok (by kernel_rfl) (Over_calls _ w g'.xa g'.xc xs (hs.one 3 rfl) (by omega)) ?_; rintro _ w2 ⟨rfl, hb⟩; rw [callK_ret]; replace hs := Sat.upd hs 3 rfl hb; clear hb; (try clear w); rename World => w; try simp only [cls] at hs
          have hyl2 : (List.replicate xs.length (238 : UInt8)).length = xs.length := List.length_replicate ..
          generalize List.replicate xs.length (238 : UInt8) = ys2 at *
          rw [← hyl2] at hs
          (repeat (first | (simp (disch := first | omega | assumption | exact Option.isSome_some | (simp only [adO_isSome]; assumption)) only [↓vcp, vcs, vct, if_true, if_false, Nat.reduceBEq, ↓reduceIte, Nat.reduceEqDiff, Nat.reduceAdd, Nat.reduceMul, Nat.reduceSub, Int.reduceToNat, reduceCtorEq, Nat.reduceLT, Nat.reduceLeDiff, Int.reduceSub, Int.reduceAdd, Int.reduceNeg, Sat.look hs, Sat.lookA hs, hs.old f2, hk4, hl4]) | (refine khK he hs ?_; clear he; intro he) | ((first | refine stK hs ?_ | refine stFK hs ?_ | refine stAK hs ?_ | refine msK hs ?_); clear hs; (try clear w); rintro w hs; try simp only [cls] at hs) | ((first | refine al_ok hs ?_ | refine bx_ok hs ?_ | refine bsvK hs ?_ | refine bs1_ok hs ?_); clear hs; (try clear w); rintro _ w hs; try simp only [cls] at hs)))
          refine draw_plan (SatE _ []) [(0, true), (1, true), (2, true), (4, true), (5, true), (6, true), (7, true), (8, true), (3, false), (9, false), (10, true), (11, false)] (by kernel_rfl) (by kernel_rfl) ⟨_, Sat.drew hs⟩ ?_; replace hs := Sat.drew hs; revert hs; generalize World.drew _ = w; intro hs; have he : SatE (.at w0) [] w := ⟨_, hs⟩
          (repeat (first | (simp (disch := first | omega | assumption | exact Option.isSome_some | (simp only [adO_isSome]; assumption)) only [↓vcp, vcs, vct, if_true, if_false, Nat.reduceBEq, ↓reduceIte, Nat.reduceEqDiff, Nat.reduceAdd, Nat.reduceMul, Nat.reduceSub, Int.reduceToNat, reduceCtorEq, Nat.reduceLT, Nat.reduceLeDiff, Int.reduceSub, Int.reduceAdd, Int.reduceNeg, Sat.look hs, Sat.lookA hs, m_loadEO _ he _ f2, hs.old f2, hk4, hl4]) | (refine khK he hs ?_; clear he; intro he) | ((first | refine stK hs ?_ | refine stFK hs ?_ | refine stAK hs ?_ | refine msK hs ?_); clear hs; (try clear w); rintro w hs; try simp only [cls] at hs) | ((first | refine al_ok hs ?_ | refine bx_ok hs ?_ | refine bsvK hs ?_ | refine bs1_ok hs ?_); clear hs; (try clear w); rintro _ w hs; try simp only [cls] at hs)))
          refine apK (xs.length) hs (hxr.rd hs) ?_; clear hs; (try clear w); rintro a2 c2 w hc2 hs; try simp only [cls] at hs
          (repeat (first | (simp (disch := first | omega | assumption | exact Option.isSome_some | (simp only [adO_isSome]; assumption)) only [↓vcp, vcs, vct, if_true, if_false, Nat.reduceBEq, ↓reduceIte, Nat.reduceEqDiff, Nat.reduceAdd, Nat.reduceMul, Nat.reduceSub, Int.reduceToNat, reduceCtorEq, Nat.reduceLT, Nat.reduceLeDiff, Int.reduceSub, Int.reduceAdd, Int.reduceNeg, Sat.look hs, Sat.lookA hs, m_loadEO _ he _ f2, hs.old f2, hk4, hl4]) | (refine khK he hs ?_; clear he; intro he) | ((first | refine stK hs ?_ | refine stFK hs ?_ | refine stAK hs ?_ | refine msK hs ?_); clear hs; (try clear w); rintro w hs; try simp only [cls] at hs) | ((first | refine al_ok hs ?_ | refine bx_ok hs ?_ | refine bsvK hs ?_ | refine bs1_ok hs ?_); clear hs; (try clear w); rintro _ w hs; try simp only [cls] at hs)))
          clear he
          rw [two_set hk] at hs
          rw [show s.A.length + xs.length = (s.A ++ xs).length from List.length_append.symm] at hs hc2
          rw [← List.map_append] at hs
          replace hs : Sat (.at w0) (st2 g' pb b3 b4 ys2 k ⟨s.h, p2, a2, c2, s.A ++ xs⟩ o) w := hs
          obtain ⟨s0, s1, h0, h1, h2, hs⟩ := st2_back hs hk (P := HS.ok) ⟨hok2, hc2⟩ hoo (T := 65536) (by rw [List.length_append]; omega)
          exact ⟨(i + 1, g', ys2, s0, s1), by rfl, by rfl, ⟨by dsimp only; omega, (fun h => by rw [hg1] at h; cases h), h0, h1, h2, hs⟩, by dsimp only; omega⟩
    case neg =>
      by_cases hw2 : act = 2
      case pos =>
        (repeat (first | (simp (disch := first | omega | assumption | exact Option.isSome_some | (simp only [adO_isSome]; assumption)) only [↓vcp, vcs, vct, if_true, if_false, Nat.reduceBEq, ↓reduceIte, Nat.reduceEqDiff, Nat.reduceAdd, Nat.reduceMul, Nat.reduceSub, Int.reduceToNat, reduceCtorEq, Nat.reduceLT, Nat.reduceLeDiff, Int.reduceSub, Int.reduceAdd, Int.reduceNeg, Sat.look hs, Sat.lookA hs, hk4, hl4]) | (refine khK he hs ?_; clear he; intro he) | ((first | refine stK hs ?_ | refine stFK hs ?_ | refine stAK hs ?_ | refine msK hs ?_); clear hs; (try clear w); rintro w hs; try simp only [cls] at hs) | ((first | refine al_ok hs ?_ | refine bx_ok hs ?_ | refine bsvK hs ?_ | refine bs1_ok hs ?_); clear hs; (try clear w); rintro _ w hs; try simp only [cls] at hs)))
        have hsc : s.A.length ≤ s.c := hos.2
        refine call_ok (by kernel_rfl) (Sum_calls w s.a s.c s.A (hs.ro (a := s.a)) (by omega)) ?_; rintro _ w2 ⟨rfl, hb⟩; rw [callK_ret]; replace hs := Sat.add hs (Below.sat hb); clear hb; (try clear w); rename World => w; try simp only [cls] at hs
        have hsl := sum_len s.A
        have hsx : sum s.A = sum s.A := rfl
        obtain ⟨sx, hsx⟩ : ∃ sx, sum s.A = sx := ⟨_, rfl⟩
        rw [hsx] at hsl ⊢
        have hsl' : (sx.map u8v).length = 32 := by rw [List.length_map]; exact hsl
        have hst : (sx.map u8v).take 32 = sx.map u8v := List.take_of_length_le (by omega)
        (repeat (first | (simp (disch := first | omega | assumption | exact Option.isSome_some | (simp only [adO_isSome]; assumption)) only [↓vcp, vcs, vct, if_true, if_false, Nat.reduceBEq, ↓reduceIte, Nat.reduceEqDiff, Nat.reduceAdd, Nat.reduceMul, Nat.reduceSub, Int.reduceToNat, reduceCtorEq, Nat.reduceLT, Nat.reduceLeDiff, Int.reduceSub, Int.reduceAdd, Int.reduceNeg, Sat.look hs, Sat.lookA hs, hsl', hst]) | (refine khK he hs ?_; clear he; intro he) | ((first | refine stK hs ?_ | refine stFK hs ?_ | refine stAK hs ?_ | refine msK hs ?_); clear hs; (try clear w); rintro w hs; try simp only [cls] at hs; try simp only [hsl'] at hs) | ((first | refine al_ok hs ?_ | refine bx_ok hs ?_ | refine bsvK hs ?_ | refine bs1_ok hs ?_); clear hs; (try clear w); rintro _ w hs; try simp only [cls] at hs; try simp only [hsl'] at hs) | ((first | refine stK hs ?_ (by first | omega | (simp only [hsl', cells_bk, cells_sl, List.length_cons, List.length_nil, List.length_set, List.length_append, List.length_map, List.length_replicate, List.length_take, List.length_drop]; omega) | assumption | rfl) | refine stFK hs ?_ (by first | omega | (simp only [hsl', cells_bk, cells_sl, List.length_cons, List.length_nil, List.length_set, List.length_append, List.length_map, List.length_replicate, List.length_take, List.length_drop]; omega) | assumption | rfl) (by first | omega | (simp only [hsl', cells_bk, cells_sl, List.length_cons, List.length_nil, List.length_set, List.length_append, List.length_map, List.length_replicate, List.length_take, List.length_drop]; omega) | assumption | rfl) | refine stAK hs ?_ (by first | omega | (simp only [hsl', cells_bk, cells_sl, List.length_cons, List.length_nil, List.length_set, List.length_append, List.length_map, List.length_replicate, List.length_take, List.length_drop]; omega) | assumption | rfl) (by first | omega | (simp only [hsl', cells_bk, cells_sl, List.length_cons, List.length_nil, List.length_set, List.length_append, List.length_map, List.length_replicate, List.length_take, List.length_drop]; omega) | assumption | rfl) | refine msK hs ?_ (by first | omega | (simp only [hsl', cells_bk, cells_sl, List.length_cons, List.length_nil, List.length_set, List.length_append, List.length_map, List.length_replicate, List.length_take, List.length_drop]; omega) | assumption | rfl)); clear hs; (try clear w); rintro w hs; try simp only [cls] at hs; try simp only [hsl'] at hs)))
        rename_i tb
        have tk : 0 + 32 ≤ (Ck.bk tb (sx.map u8v) 28).cells.length := by rw [cells_bk, hsl']; omega
        refine draw_plan (SatE _ _) [(0, true), (1, true), (2, true), (4, true), (3, false), (5, false), (6, true), (7, true), (8, true), (9, true), (10, true), (12, true), (11, false), (13, false), (14, true), (15, true)] (by kernel_rfl) (by kernel_rfl) (Sat.e (Sat.drew hs)) ?_; replace hs := Sat.drew hs; revert hs; generalize World.drew _ = w; intro hs; have he := Sat.e hs
        (repeat (first | (simp (disch := first | omega | assumption | exact Option.isSome_some | (simp only [adO_isSome]; assumption)) only [↓vcp, vcs, vct, if_true, if_false, Nat.reduceBEq, ↓reduceIte, Nat.reduceEqDiff, Nat.reduceAdd, Nat.reduceMul, Nat.reduceSub, Int.reduceToNat, reduceCtorEq, Nat.reduceLT, Nat.reduceLeDiff, Int.reduceSub, Int.reduceAdd, Int.reduceNeg, Sat.look hs, Sat.lookA hs, m_loadEA _ he _ tk (by omega), m_loadE _ he _, hst, hk3, hl3]) | (refine khK he hs ?_; clear he; intro he) | ((first | refine stK hs ?_ | refine stFK hs ?_ | refine stAK hs ?_ | refine msK hs ?_); clear hs; (try clear w); rintro w hs; try simp only [cls] at hs) | ((first | refine al_ok hs ?_ | refine bx_ok hs ?_ | refine bsvK hs ?_ | refine bs1_ok hs ?_); clear hs; (try clear w); rintro _ w hs; try simp only [cls] at hs)))
        refine call_ok (by kernel_rfl) (HSum_calls _ w s.h s.A s.p (hs.one 6 rfl) hos.1 (hG.up hs 6 rfl) (by omega)) ?_; rintro _ w2 ⟨H2, rfl, hb⟩; rw [callK_ret]; replace hs := Sat.upd hs 6 rfl hb; clear hb; (try clear w); rename World => w; try simp only [cls] at hs
        rw [hsx]
        (repeat (first | (simp (disch := first | omega | assumption | exact Option.isSome_some | (simp only [adO_isSome]; assumption)) only [↓vcp, vcs, vct, if_true, if_false, Nat.reduceBEq, ↓reduceIte, Nat.reduceEqDiff, Nat.reduceAdd, Nat.reduceMul, Nat.reduceSub, Int.reduceToNat, reduceCtorEq, Nat.reduceLT, Nat.reduceLeDiff, Int.reduceSub, Int.reduceAdd, Int.reduceNeg, Sat.look hs, Sat.lookA hs, m_loadEA _ he _ tk (by omega), m_loadE _ he _, hst, hk3, hl3]) | (refine khK he hs ?_; clear he; intro he) | ((first | refine stK hs ?_ | refine stFK hs ?_ | refine stAK hs ?_ | refine msK hs ?_); clear hs; (try clear w); rintro w hs; try simp only [cls] at hs) | ((first | refine al_ok hs ?_ | refine bx_ok hs ?_ | refine bsvK hs ?_ | refine bs1_ok hs ?_); clear hs; (try clear w); rintro _ w hs; try simp only [cls] at hs)))
        refine call_ok (by kernel_rfl) (same_calls w sx sx hsl hsl) ?_; rintro _ w2 ⟨rfl, hb⟩; rw [callK_ret]; replace hs := Sat.add hs (Below.sat hb); clear hb; (try clear w); rename World => w; try simp only [cls] at hs
        (repeat (first | (simp (disch := first | omega | assumption | exact Option.isSome_some | (simp only [adO_isSome]; assumption)) only [↓vcp, vcs, vct, if_true, if_false, Nat.reduceBEq, ↓reduceIte, Nat.reduceEqDiff, Nat.reduceAdd, Nat.reduceMul, Nat.reduceSub, Int.reduceToNat, reduceCtorEq, Nat.reduceLT, Nat.reduceLeDiff, Int.reduceSub, Int.reduceAdd, Int.reduceNeg, Sat.look hs, Sat.lookA hs, m_loadEA _ he _ tk (by omega), m_loadE _ he _, hst, hk3, hl3]) | (refine khK he hs ?_; clear he; intro he) | ((first | refine stK hs ?_ | refine stFK hs ?_ | refine stAK hs ?_ | refine msK hs ?_); clear hs; (try clear w); rintro w hs; try simp only [cls] at hs) | ((first | refine al_ok hs ?_ | refine bx_ok hs ?_ | refine bsvK hs ?_ | refine bs1_ok hs ?_); clear hs; (try clear w); rintro _ w hs; try simp only [cls] at hs)))
        refine call_ok (by kernel_rfl) (HSum_calls _ w s.h s.A s.p (hs.one 6 rfl) hos.1 (hG.up hs 6 rfl) (by omega)) ?_; rintro _ w2 ⟨H3, rfl, hb⟩; rw [callK_ret]; replace hs := Sat.upd hs 6 rfl hb; clear hb; (try clear w); rename World => w; try simp only [cls] at hs
        rw [hsx]
        (repeat (first | (simp (disch := first | omega | assumption | exact Option.isSome_some | (simp only [adO_isSome]; assumption)) only [↓vcp, vcs, vct, if_true, if_false, Nat.reduceBEq, ↓reduceIte, Nat.reduceEqDiff, Nat.reduceAdd, Nat.reduceMul, Nat.reduceSub, Int.reduceToNat, reduceCtorEq, Nat.reduceLT, Nat.reduceLeDiff, Int.reduceSub, Int.reduceAdd, Int.reduceNeg, Sat.look hs, Sat.lookA hs, m_loadEA _ he _ tk (by omega), m_loadE _ he _, hst, hk3, hl3]) | (refine khK he hs ?_; clear he; intro he) | ((first | refine stK hs ?_ | refine stFK hs ?_ | refine stAK hs ?_ | refine msK hs ?_); clear hs; (try clear w); rintro w hs; try simp only [cls] at hs) | ((first | refine al_ok hs ?_ | refine bx_ok hs ?_ | refine bsvK hs ?_ | refine bs1_ok hs ?_); clear hs; (try clear w); rintro _ w hs; try simp only [cls] at hs)))
        refine call_ok (by kernel_rfl) (same_calls w sx sx hsl hsl) ?_; rintro _ w2 ⟨rfl, hb⟩; rw [callK_ret]; replace hs := Sat.add hs (Below.sat hb); clear hb; (try clear w); rename World => w; try simp only [cls] at hs
        (repeat (first | (simp (disch := first | omega | assumption | exact Option.isSome_some | (simp only [adO_isSome]; assumption)) only [↓vcp, vcs, vct, if_true, if_false, Nat.reduceBEq, ↓reduceIte, Nat.reduceEqDiff, Nat.reduceAdd, Nat.reduceMul, Nat.reduceSub, Int.reduceToNat, reduceCtorEq, Nat.reduceLT, Nat.reduceLeDiff, Int.reduceSub, Int.reduceAdd, Int.reduceNeg, Sat.look hs, Sat.lookA hs, m_loadEA _ he _ tk (by omega), m_loadE _ he _, hst, hk3, hl3]) | (refine khK he hs ?_; clear he; intro he) | ((first | refine stK hs ?_ | refine stFK hs ?_ | refine stAK hs ?_ | refine msK hs ?_); clear hs; (try clear w); rintro w hs; try simp only [cls] at hs) | ((first | refine al_ok hs ?_ | refine bx_ok hs ?_ | refine bsvK hs ?_ | refine bs1_ok hs ?_); clear hs; (try clear w); rintro _ w hs; try simp only [cls] at hs)))
        replace hs := hs.take 10
        simp only [List.take_succ_cons, List.take_zero] at hs
        replace hs : Sat (.at w0) (st2 g pb b3 b4 ys k s o) w := hs
        obtain ⟨s0, s1, h0, h1, h2, hs⟩ := st2_back hs hk hos hoo hT2
        exact ⟨(i + 1, g, ys, s0, s1), by rfl, by rfl, ⟨by dsimp only; omega, hg, h0, h1, h2, hs⟩, by dsimp only; omega⟩
      case neg =>
        by_cases hw3 : act = 3
        case pos =>
          (repeat (first | (simp (disch := first | omega | assumption | exact Option.isSome_some | (simp only [adO_isSome]; assumption)) only [↓vcp, vcs, vct, if_true, if_false, Nat.reduceBEq, ↓reduceIte, Nat.reduceEqDiff, Nat.reduceAdd, Nat.reduceMul, Nat.reduceSub, Int.reduceToNat, reduceCtorEq, Nat.reduceLT, Nat.reduceLeDiff, Int.reduceSub, Int.reduceAdd, Int.reduceNeg, Sat.look hs, Sat.lookA hs]) | (refine khK he hs ?_; clear he; intro he) | ((first | refine stK hs ?_ | refine stFK hs ?_ | refine stAK hs ?_ | refine msK hs ?_); clear hs; (try clear w); rintro w hs; try simp only [cls] at hs) | ((first | refine al_ok hs ?_ | refine bx_ok hs ?_ | refine bsvK hs ?_ | refine bs1_ok hs ?_); clear hs; (try clear w); rintro _ w hs; try simp only [cls] at hs)))
          refine call_ok (by kernel_rfl) (New_calls w) ?_; rintro _ w2 ⟨nb, rfl, hb⟩; rw [callK_ret]; replace hs := Sat.add hs hb; clear hb; (try clear w); rename World => w; try simp only [cls] at hs
          replace hs := Sat.nil hs 5 1; try simp only [cls] at hs
          (repeat (first | (simp (disch := first | omega | assumption | exact Option.isSome_some | (simp only [adO_isSome]; assumption)) only [↓vcp, vcs, vct, if_true, if_false, Nat.reduceBEq, ↓reduceIte, Nat.reduceEqDiff, Nat.reduceAdd, Nat.reduceMul, Nat.reduceSub, Int.reduceToNat, reduceCtorEq, Nat.reduceLT, Nat.reduceLeDiff, Int.reduceSub, Int.reduceAdd, Int.reduceNeg, Sat.look hs, Sat.lookA hs, hl3, hl4]) | (refine khK he hs ?_; clear he; intro he) | ((first | refine stK hs ?_ | refine stFK hs ?_ | refine stAK hs ?_ | refine msK hs ?_); clear hs; (try clear w); rintro w hs; try simp only [cls] at hs) | ((first | refine al_ok hs ?_ | refine bx_ok hs ?_ | refine bsvK hs ?_ | refine bs1_ok hs ?_); clear hs; (try clear w); rintro _ w hs; try simp only [cls] at hs)))
          replace hs := hs.sub (H' := _) (dropAt3 ..)
          rw [two_set hk, two_set hk] at hs
          replace hs : Sat (.at w0) (st2 g pb b3 b4 ys k ⟨nb, List.replicate 64 0, none, 0, []⟩ o) w := hs.perm (perm10b ..)
          obtain ⟨s0, s1, h0, h1, h2, hs⟩ := st2_back hs hk (P := HS.ok) ⟨hok_nil (List.replicate 64 0) rfl, by simp⟩ hoo (T := 65536) (by simp; omega)
          exact ⟨(i + 1, g, ys, s0, s1), by rfl, by rfl, ⟨by dsimp only; omega, hg, h0, h1, h2, hs⟩, by dsimp only; omega⟩
        case neg =>
          (repeat (first | (simp (disch := first | omega | assumption | exact Option.isSome_some | (simp only [adO_isSome]; assumption)) only [↓vcp, vcs, vct, if_true, if_false, Nat.reduceBEq, ↓reduceIte, Nat.reduceEqDiff, Nat.reduceAdd, Nat.reduceMul, Nat.reduceSub, Int.reduceToNat, reduceCtorEq, Nat.reduceLT, Nat.reduceLeDiff, Int.reduceSub, Int.reduceAdd, Int.reduceNeg, Sat.look hs, Sat.lookA hs]) | (refine khK he hs ?_; clear he; intro he) | ((first | refine stK hs ?_ | refine stFK hs ?_ | refine stAK hs ?_ | refine msK hs ?_); clear hs; (try clear w); rintro w hs; try simp only [cls] at hs) | ((first | refine al_ok hs ?_ | refine bx_ok hs ?_ | refine bsvK hs ?_ | refine bs1_ok hs ?_); clear hs; (try clear w); rintro _ w hs; try simp only [cls] at hs)))
          replace hs : Sat (.at w0) (st2 g pb b3 b4 ys k s o) w := hs
          obtain ⟨s0, s1, h0, h1, h2, hs⟩ := st2_back hs hk hos hoo hT2
          exact ⟨(i + 1, g, ys, s0, s1), by rfl, by rfl, ⟨by dsimp only; omega, hg, h0, h1, h2, hs⟩, by dsimp only; omega⟩
  · clear hs hok0
    rintro e ⟨g, ys, s0, s1⟩ w ⟨ho0, ho1, hT, hs⟩
    dsimp only at ho0 ho1 hT hs ⊢
    (repeat (first | (simp (disch := first | omega | assumption | exact Option.isSome_some | (simp only [adO_isSome]; assumption)) only [↓vcp, vcs, vct, if_true, if_false, Nat.reduceBEq, ↓reduceIte, Nat.reduceEqDiff, Nat.reduceAdd, Nat.reduceMul, Nat.reduceSub, Int.reduceToNat, reduceCtorEq, Nat.reduceLT, Nat.reduceLeDiff, Int.reduceSub, Int.reduceAdd, Int.reduceNeg, Sat.look hs, Sat.lookA hs]) | (refine khK he hs ?_; clear he; intro he) | ((first | refine stK hs ?_ | refine stFK hs ?_ | refine stAK hs ?_ | refine msK hs ?_); clear hs; (try clear w); rintro w hs; try simp only [cls] at hs) | ((first | refine al_ok hs ?_ | refine bx_ok hs ?_ | refine bsvK hs ?_ | refine bs1_ok hs ?_); clear hs; (try clear w); rintro _ w hs; try simp only [cls] at hs)))
    refine loop_rule (σ := Nat × HS × HS) [10] (fun x => [.int .i64 x.1]) [3, 4] (fun x w' => x.1 ≤ 2 ∧ x.2.1.ok ∧ x.2.2.ok ∧ x.2.1.A.length + x.2.2.A.length ≤ 65536 ∧ Sat (.at w0) (st2 g pb b3 b4 ys 0 x.2.1 x.2.2) w') (fun x _ => 2 - x.1) (0, s0, s1) (by kernel_rfl) rfl ⟨by omega, ho0, ho1, hT, hs⟩ ?_
    clear hs ho0 ho1 hT
    rintro e ⟨k, s0, s1⟩ w ⟨hk2, ho0, ho1, hT, hs⟩
    dsimp only at hk2 ho0 ho1 hT hs ⊢
    simp (disch := first | omega | assumption | exact Option.isSome_some | (simp only [adO_isSome]; assumption)) only [↓vcp, vcs, vct, if_true, if_false, Nat.reduceBEq, ↓reduceIte, Nat.reduceEqDiff, Nat.reduceAdd, Nat.reduceMul, Nat.reduceSub, Int.reduceToNat, reduceCtorEq, Nat.reduceLT, Nat.reduceLeDiff, Int.reduceSub, Int.reduceAdd, Int.reduceNeg, Sat.look hs, Sat.lookA hs]
    by_cases hk : k < 2
    case neg =>
      (repeat (first | (simp (disch := first | omega | assumption | exact Option.isSome_some | (simp only [adO_isSome]; assumption)) only [↓vcp, vcs, vct, if_true, if_false, Nat.reduceBEq, ↓reduceIte, Nat.reduceEqDiff, Nat.reduceAdd, Nat.reduceMul, Nat.reduceSub, Int.reduceToNat, reduceCtorEq, Nat.reduceLT, Nat.reduceLeDiff, Int.reduceSub, Int.reduceAdd, Int.reduceNeg, Sat.look hs, Sat.lookA hs]) | (refine khK he hs ?_; clear he; intro he) | ((first | refine stK hs ?_ | refine stFK hs ?_ | refine stAK hs ?_ | refine msK hs ?_); clear hs; (try clear w); rintro w hs; try simp only [cls] at hs) | ((first | refine al_ok hs ?_ | refine bx_ok hs ?_ | refine bsvK hs ?_ | refine bs1_ok hs ?_); clear hs; (try clear w); rintro _ w hs; try simp only [cls] at hs)))
      refine call_ok (by kernel_rfl) (begun_calls w (hG.up0 hs)) ?_; rintro _ w2 ⟨rfl, hb⟩; rw [callK_ret]; replace hs := Sat.add hs (Below.sat hb); clear hb; (try clear w); rename World => w; try simp only [cls] at hs
      (repeat (first | (simp (disch := first | omega | assumption | exact Option.isSome_some | (simp only [adO_isSome]; assumption)) only [↓vcp, vcs, vct, if_true, if_false, Nat.reduceBEq, ↓reduceIte, Nat.reduceEqDiff, Nat.reduceAdd, Nat.reduceMul, Nat.reduceSub, Int.reduceToNat, reduceCtorEq, Nat.reduceLT, Nat.reduceLeDiff, Int.reduceSub, Int.reduceAdd, Int.reduceNeg, Sat.look hs, Sat.lookA hs]) | (refine khK he hs ?_; clear he; intro he) | ((first | refine stK hs ?_ | refine stFK hs ?_ | refine stAK hs ?_ | refine msK hs ?_); clear hs; (try clear w); rintro w hs; try simp only [cls] at hs) | ((first | refine al_ok hs ?_ | refine bx_ok hs ?_ | refine bsvK hs ?_ | refine bs1_ok hs ?_); clear hs; (try clear w); rintro _ w hs; try simp only [cls] at hs)))
      exact ret_tmp rfl (hR _ _ ⟨rfl, hs.belowAt⟩)
    case pos =>
      obtain ⟨s, o, hos, hoo, hT2, ev, ep, hs2⟩ := st2_at hs hk ho0 ho1 hT
      clear hs
      have hs := hs2
      unfold st2 PlG.cks at hs
      simp only [HS.v, HS.pv, List.cons_append, List.nil_append] at hs
      have hk3 := two_get hk (Value.pointer (some ⟨s.h, 0, none⟩)) (.pointer (some ⟨o.h, 0, none⟩))
      have hk4 := two_get hk (Value.slice s.a s.A.length s.c) (.slice o.a o.A.length o.c)
      have hl3 := two_len k (Value.pointer (some ⟨s.h, 0, none⟩)) (.pointer (some ⟨o.h, 0, none⟩))
      have hl4 := two_len k (Value.slice s.a s.A.length s.c) (.slice o.a o.A.length o.c)
      have hsc : s.A.length ≤ s.c := hos.2
      have hsl := sum_len s.A
      obtain ⟨sx, hsx⟩ : ∃ sx, sum s.A = sx := ⟨_, rfl⟩
      rw [hsx] at hsl
      (repeat (first | (simp (disch := first | omega | assumption | exact Option.isSome_some | (simp only [adO_isSome]; assumption)) only [↓vcp, vcs, vct, if_true, if_false, Nat.reduceBEq, ↓reduceIte, Nat.reduceEqDiff, Nat.reduceAdd, Nat.reduceMul, Nat.reduceSub, Int.reduceToNat, reduceCtorEq, Nat.reduceLT, Nat.reduceLeDiff, Int.reduceSub, Int.reduceAdd, Int.reduceNeg, Sat.look hs, Sat.lookA hs, hk3, hl3, hk4, hl4]) | (refine khK he hs ?_; clear he; intro he) | ((first | refine stK hs ?_ | refine stFK hs ?_ | refine stAK hs ?_ | refine msK hs ?_); clear hs; (try clear w); rintro w hs; try simp only [cls] at hs) | ((first | refine al_ok hs ?_ | refine bx_ok hs ?_ | refine bsvK hs ?_ | refine bs1_ok hs ?_); clear hs; (try clear w); rintro _ w hs; try simp only [cls] at hs)))
      refine draw_plan (SatE _ _) [(0, true), (1, true), (2, true), (3, true), (4, true), (5, true), (6, true), (9, true), (10, true), (7, true), (11, true), (8, false), (12, false), (13, false), (14, true), (15, true)] (by kernel_rfl) (by kernel_rfl) (Sat.e (Sat.drew hs)) ?_; replace hs := Sat.drew hs; revert hs; generalize World.drew _ = w; intro hs; have he := Sat.e hs
      (repeat (first | (simp (disch := first | omega | assumption | exact Option.isSome_some | (simp only [adO_isSome]; assumption)) only [↓vcp, vcs, vct, if_true, if_false, Nat.reduceBEq, ↓reduceIte, Nat.reduceEqDiff, Nat.reduceAdd, Nat.reduceMul, Nat.reduceSub, Int.reduceToNat, reduceCtorEq, Nat.reduceLT, Nat.reduceLeDiff, Int.reduceSub, Int.reduceAdd, Int.reduceNeg, Sat.look hs, Sat.lookA hs, m_loadE _ he _, hk3, hl3, hk4, hl4]) | (refine khK he hs ?_; clear he; intro he) | ((first | refine stK hs ?_ | refine stFK hs ?_ | refine stAK hs ?_ | refine msK hs ?_); clear hs; (try clear w); rintro w hs; try simp only [cls] at hs) | ((first | refine al_ok hs ?_ | refine bx_ok hs ?_ | refine bsvK hs ?_ | refine bs1_ok hs ?_); clear hs; (try clear w); rintro _ w hs; try simp only [cls] at hs)))
      refine call_ok (by kernel_rfl) (HSum_calls _ w s.h s.A s.p (hs.one 6 rfl) hos.1 (hG.up hs 6 rfl) (by omega)) ?_; rintro _ w2 ⟨H2, rfl, hb⟩; rw [callK_ret]; replace hs := Sat.upd hs 6 rfl hb; clear hb; (try clear w); rename World => w; try simp only [cls] at hs
      rw [hsx]
      (repeat (first | (simp (disch := first | omega | assumption | exact Option.isSome_some | (simp only [adO_isSome]; assumption)) only [↓vcp, vcs, vct, if_true, if_false, Nat.reduceBEq, ↓reduceIte, Nat.reduceEqDiff, Nat.reduceAdd, Nat.reduceMul, Nat.reduceSub, Int.reduceToNat, reduceCtorEq, Nat.reduceLT, Nat.reduceLeDiff, Int.reduceSub, Int.reduceAdd, Int.reduceNeg, Sat.look hs, Sat.lookA hs, m_loadE _ he _, hk3, hl3, hk4, hl4]) | (refine khK he hs ?_; clear he; intro he) | ((first | refine stK hs ?_ | refine stFK hs ?_ | refine stAK hs ?_ | refine msK hs ?_); clear hs; (try clear w); rintro w hs; try simp only [cls] at hs) | ((first | refine al_ok hs ?_ | refine bx_ok hs ?_ | refine bsvK hs ?_ | refine bs1_ok hs ?_); clear hs; (try clear w); rintro _ w hs; try simp only [cls] at hs)))
      refine call_ok (by kernel_rfl) (Sum_calls w s.a s.c s.A (hs.ro (a := s.a)) (by omega)) ?_; rintro _ w2 ⟨rfl, hb⟩; rw [callK_ret]; replace hs := Sat.add hs (Below.sat hb); clear hb; (try clear w); rename World => w; try simp only [cls] at hs
      rw [hsx]
      (repeat (first | (simp (disch := first | omega | assumption | exact Option.isSome_some | (simp only [adO_isSome]; assumption)) only [↓vcp, vcs, vct, if_true, if_false, Nat.reduceBEq, ↓reduceIte, Nat.reduceEqDiff, Nat.reduceAdd, Nat.reduceMul, Nat.reduceSub, Int.reduceToNat, reduceCtorEq, Nat.reduceLT, Nat.reduceLeDiff, Int.reduceSub, Int.reduceAdd, Int.reduceNeg, Sat.look hs, Sat.lookA hs, m_loadE _ he _, hk3, hl3, hk4, hl4]) | (refine khK he hs ?_; clear he; intro he) | ((first | refine stK hs ?_ | refine stFK hs ?_ | refine stAK hs ?_ | refine msK hs ?_); clear hs; (try clear w); rintro w hs; try simp only [cls] at hs) | ((first | refine al_ok hs ?_ | refine bx_ok hs ?_ | refine bsvK hs ?_ | refine bs1_ok hs ?_); clear hs; (try clear w); rintro _ w hs; try simp only [cls] at hs)))
      refine call_ok (by kernel_rfl) (same_calls w sx sx hsl hsl) ?_; rintro _ w2 ⟨rfl, hb⟩; rw [callK_ret]; replace hs := Sat.add hs (Below.sat hb); clear hb; (try clear w); rename World => w; try simp only [cls] at hs
      (repeat (first | (simp (disch := first | omega | assumption | exact Option.isSome_some | (simp only [adO_isSome]; assumption)) only [↓vcp, vcs, vct, if_true, if_false, Nat.reduceBEq, ↓reduceIte, Nat.reduceEqDiff, Nat.reduceAdd, Nat.reduceMul, Nat.reduceSub, Int.reduceToNat, reduceCtorEq, Nat.reduceLT, Nat.reduceLeDiff, Int.reduceSub, Int.reduceAdd, Int.reduceNeg, Sat.look hs, Sat.lookA hs, m_loadE _ he _, hk3, hl3, hk4, hl4]) | (refine khK he hs ?_; clear he; intro he) | ((first | refine stK hs ?_ | refine stFK hs ?_ | refine stAK hs ?_ | refine msK hs ?_); clear hs; (try clear w); rintro w hs; try simp only [cls] at hs) | ((first | refine al_ok hs ?_ | refine bx_ok hs ?_ | refine bsvK hs ?_ | refine bs1_ok hs ?_); clear hs; (try clear w); rintro _ w hs; try simp only [cls] at hs)))
      replace hs := hs.take 10
      simp only [List.take_succ_cons, List.take_zero] at hs
      replace hs : Sat (.at w0) (st2 g pb b3 b4 ys k s o) w := hs
      obtain ⟨s0, s1, h0, h1, h2, hs⟩ := st2_back hs hk hos hoo hT2
      exact ⟨(k + 1, s0, s1), by rfl, by rfl, ⟨by dsimp only; omega, h0, h1, h2, hs⟩, by dsimp only; omega⟩
end Go.Proofs.YtkklmjioheimfaaDoor.Dig
