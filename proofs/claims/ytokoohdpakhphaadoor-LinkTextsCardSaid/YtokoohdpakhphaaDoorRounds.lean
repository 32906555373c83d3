/- One block of the document's own SHA-256. -/
import Derived.Test.YtokoohdpakhphaaDoorRefFirst
namespace Go.Proofs.YtokoohdpakhphaaDoor.Sha
open Go VC Go.RowKit
set_option linter.unusedSimpArgs false
set_option maxRecDepth 20000
/-- the array of words, the first i of them made -/
def wsAt (m : List UInt32) (i : Nat) : List Value := (List.range 64).map fun j => u32v (if j < i then sched m j else 0)
theorem wsAt_len (m : List UInt32) (i : Nat) : (wsAt m i).length = 64 := by simp [wsAt]
theorem wsAt_get (m : List UInt32) {i j : Nat} (h : j < i) (h64 : j < 64) : (wsAt m i)[j]? = some (.int .u32 (sched m j).toNat) := by simp [wsAt, h64, h, u32v]
theorem wsAt_set (m : List UInt32) {i : Nat} (h : i < 64) : (wsAt m i).set i (.int .u32 (sched m i).toNat) = wsAt m (i + 1) := by
  apply List.ext_getElem?
  intro j
  by_cases hj : j < 64
  · by_cases e : i = j
    · subst e
      rw [List.getElem?_set_self (by rw [wsAt_len]; exact h)]
      simp [wsAt, hj, u32v]
    · rw [List.getElem?_set_ne e]
      simp only [wsAt, List.getElem?_map, List.getElem?_range hj, Option.map_some]
      by_cases hl : j < i
      · rw [if_pos hl, if_pos (by omega)]
      · rw [if_neg hl, if_neg (by omega)]
  · rw [List.getElem?_eq_none (by simp [wsAt_len]; omega), List.getElem?_eq_none (by simp [wsAt_len]; omega)]
theorem words_at (l : List UInt8) (p i : Nat) (_hp : p + 64 ≤ l.length) (h : i < 16) : sched (words ((l.drop p).take 64)) i = word l (p + 4 * i) := by
  rw [sched_small h, words_get _ h]
  have e : ∀ j, j < 64 → ((l.drop p).take 64).getD j 0 = l.getD (p + j) 0 := fun j hj => by
    simp only [List.getD_eq_getElem?_getD, List.getElem?_take, if_pos hj, List.getElem?_drop]
  unfold word
  rw [e (4 * i) (by omega), e (4 * i + 1) (by omega), e (4 * i + 2) (by omega), e (4 * i + 3) (by omega)]
  rfl
def St.vals (s : St) : List Value := [.int .u32 s.a.toNat, .int .u32 s.b.toNat, .int .u32 s.c.toNat, .int .u32 s.d.toNat, .int .u32 s.e.toNat, .int .u32 s.f.toNat, .int .u32 s.g.toNat, .int .u32 s.h.toNat]
/-- the local blocks: the state that came in, the result's, the words, the factors twice, the state under way -/
def rblk (s v : St) (m : List UInt32) (i : Nat) : List Blk := [(s.vals, 109), (List.replicate 8 (.int .u32 0), 109), (wsAt m i, 128), (factors.map u32v, 128), (factors.map u32v, 128), (v.vals, 109)]
/-- the state under way, its words moved down to place k -/
def shv (s : St) (k : Nat) : List Value :=
  let a : Value := .int .u32 s.a.toNat
  let b : Value := .int .u32 s.b.toNat
  let c : Value := .int .u32 s.c.toNat
  let d : Value := .int .u32 s.d.toNat
  let e : Value := .int .u32 s.e.toNat
  let f : Value := .int .u32 s.f.toNat
  let g : Value := .int .u32 s.g.toNat
  let h : Value := .int .u32 s.h.toNat
  match k with
  | 0 => [a, a, b, c, d, e, f, g]
  | 1 => [a, b, b, c, d, e, f, g]
  | 2 => [a, b, c, c, d, e, f, g]
  | 3 => [a, b, c, d, d, e, f, g]
  | 4 => [a, b, c, d, e, e, f, g]
  | 5 => [a, b, c, d, e, f, f, g]
  | 6 => [a, b, c, d, e, f, g, g]
  | _ => [a, b, c, d, e, f, g, h]
def rblkS (s v : St) (m : List UInt32) (i k : Nat) : List Blk := [(s.vals, 109), (List.replicate 8 (.int .u32 0), 109), (wsAt m i, 128), (factors.map u32v, 128), (factors.map u32v, 128), (shv v k, 109)]
/-- the state that came in, the first j words summed -/
def adv (s v : St) (j : Nat) : List Value :=
  match j with
  | 0 => [.int .u32 s.a.toNat, .int .u32 s.b.toNat, .int .u32 s.c.toNat, .int .u32 s.d.toNat, .int .u32 s.e.toNat, .int .u32 s.f.toNat, .int .u32 s.g.toNat, .int .u32 s.h.toNat]
  | 1 => [.int .u32 (s.a + v.a).toNat, .int .u32 s.b.toNat, .int .u32 s.c.toNat, .int .u32 s.d.toNat, .int .u32 s.e.toNat, .int .u32 s.f.toNat, .int .u32 s.g.toNat, .int .u32 s.h.toNat]
  | 2 => [.int .u32 (s.a + v.a).toNat, .int .u32 (s.b + v.b).toNat, .int .u32 s.c.toNat, .int .u32 s.d.toNat, .int .u32 s.e.toNat, .int .u32 s.f.toNat, .int .u32 s.g.toNat, .int .u32 s.h.toNat]
  | 3 => [.int .u32 (s.a + v.a).toNat, .int .u32 (s.b + v.b).toNat, .int .u32 (s.c + v.c).toNat, .int .u32 s.d.toNat, .int .u32 s.e.toNat, .int .u32 s.f.toNat, .int .u32 s.g.toNat, .int .u32 s.h.toNat]
  | 4 => [.int .u32 (s.a + v.a).toNat, .int .u32 (s.b + v.b).toNat, .int .u32 (s.c + v.c).toNat, .int .u32 (s.d + v.d).toNat, .int .u32 s.e.toNat, .int .u32 s.f.toNat, .int .u32 s.g.toNat, .int .u32 s.h.toNat]
  | 5 => [.int .u32 (s.a + v.a).toNat, .int .u32 (s.b + v.b).toNat, .int .u32 (s.c + v.c).toNat, .int .u32 (s.d + v.d).toNat, .int .u32 (s.e + v.e).toNat, .int .u32 s.f.toNat, .int .u32 s.g.toNat, .int .u32 s.h.toNat]
  | 6 => [.int .u32 (s.a + v.a).toNat, .int .u32 (s.b + v.b).toNat, .int .u32 (s.c + v.c).toNat, .int .u32 (s.d + v.d).toNat, .int .u32 (s.e + v.e).toNat, .int .u32 (s.f + v.f).toNat, .int .u32 s.g.toNat, .int .u32 s.h.toNat]
  | 7 => [.int .u32 (s.a + v.a).toNat, .int .u32 (s.b + v.b).toNat, .int .u32 (s.c + v.c).toNat, .int .u32 (s.d + v.d).toNat, .int .u32 (s.e + v.e).toNat, .int .u32 (s.f + v.f).toNat, .int .u32 (s.g + v.g).toNat, .int .u32 s.h.toNat]
  | _ => [.int .u32 (s.a + v.a).toNat, .int .u32 (s.b + v.b).toNat, .int .u32 (s.c + v.c).toNat, .int .u32 (s.d + v.d).toNat, .int .u32 (s.e + v.e).toNat, .int .u32 (s.f + v.f).toNat, .int .u32 (s.g + v.g).toNat, .int .u32 (s.h + v.h).toNat]
def rblkA (s v : St) (m : List UInt32) (j : Nat) : List Blk := [(adv s v j, 109), (List.replicate 8 (.int .u32 0), 109), (wsAt m 64, 128), (factors.map u32v, 128), (factors.map u32v, 128), (v.vals, 109)]
theorem rounds_calls (w : World) (s : St) (a : Option Addr) (c p : Nat) (l : List UInt8) (hx : RdB w w.heap.size a l) (hp : p + 64 ≤ l.length) (hl : l.length ≤ 140737488355328) :
    Calls Tryd.prog 74 #[.agg (s.list.map u32v).toArray, .slice a l.length c, .int .i64 p] w fun e w' => e = .returned (.agg ((block s ((l.drop p).take 64)).list.map u32v).toArray) ∧ Below w.heap.size w w' := by
  refine calls_vc Tryd.func74 rfl (by kernel_rfl) (by kernel_rfl) ?_; intro R hR
  rw [← mw_start w]
  simp (disch := first | omega | assumption | exact Option.isSome_some | (simp only [adO_isSome]; assumption)) only [↓vcp, vcs, vcm, if_true, if_false, Nat.reduceBEq, ↓reduceIte, Nat.reduceEqDiff, Nat.reduceAdd, Nat.reduceMul, Nat.reduceSub, Int.reduceToNat, reduceCtorEq, Nat.reduceLT, Nat.reduceLeDiff, Int.reduceSub, Int.reduceAdd, Int.reduceNeg, St.list, u32v]
  refine call_ok (by kernel_rfl) (factor_exact _) ?_; rintro e w' ⟨rfl, rfl⟩; rw [callK_ret]
  simp (disch := first | omega | assumption | exact Option.isSome_some | (simp only [adO_isSome]; assumption)) only [↓vcp, vcs, vcm, if_true, if_false, Nat.reduceBEq, ↓reduceIte, Nat.reduceEqDiff, Nat.reduceAdd, Nat.reduceMul, Nat.reduceSub, Int.reduceToNat, reduceCtorEq, Nat.reduceLT, Nat.reduceLeDiff, Int.reduceSub, Int.reduceAdd, Int.reduceNeg]
  rw [if_pos ⟨rfl, rfl⟩]
  simp only [putsB_succ]
  rw [putsB_head]
  rotate_left
  · rfl
  simp (disch := first | omega | assumption | exact Option.isSome_some | (simp only [adO_isSome]; assumption)) only [↓vcp, vcs, vcm, if_true, if_false, Nat.reduceBEq, ↓reduceIte, Nat.reduceEqDiff, Nat.reduceAdd, Nat.reduceMul, Nat.reduceSub, Int.reduceToNat, reduceCtorEq, Nat.reduceLT, Nat.reduceLeDiff, Int.reduceSub, Int.reduceAdd, Int.reduceNeg]
  generalize hm : words ((l.drop p).take 64) = m at *
  refine loop_rule (σ := Nat × Nat) [10] (fun x => [.int .i64 x.1]) [1, 2, 3, 6, 7, 8, 9] (fun x w' => x.1 ≤ 64 ∧ mw w x.2 [] (rblk s (comp m s x.1) m x.1) = w') (fun x _ => 64 - x.1) (0, 0) (by kernel_rfl) rfl ⟨by omega, rfl⟩ ?_
  rintro e ⟨i, n⟩ w1 ⟨hi, rfl⟩
  dsimp only at hi ⊢
  simp (disch := first | omega | assumption | exact Option.isSome_some | (simp only [adO_isSome]; assumption)) only [↓vcp, vcs, vcm, if_true, if_false, Nat.reduceBEq, ↓reduceIte, Nat.reduceEqDiff, Nat.reduceAdd, Nat.reduceMul, Nat.reduceSub, Int.reduceToNat, reduceCtorEq, Nat.reduceLT, Nat.reduceLeDiff, Int.reduceSub, Int.reduceAdd, Int.reduceNeg, rblk, St.vals]
  by_cases hlt : i < 64
  case neg =>
    obtain rfl : i = 64 := by omega
    simp (disch := first | omega | assumption | exact Option.isSome_some | (simp only [adO_isSome]; assumption)) only [↓vcp, vcs, vcm, if_true, if_false, Nat.reduceBEq, ↓reduceIte, Nat.reduceEqDiff, Nat.reduceAdd, Nat.reduceMul, Nat.reduceSub, Int.reduceToNat, reduceCtorEq, Nat.reduceLT, Nat.reduceLeDiff, Int.reduceSub, Int.reduceAdd, Int.reduceNeg, rblk, St.vals]
    refine loop_rule (σ := Nat × Nat) [18] (fun x => [.int .i64 x.1]) [3, 6, 9] (fun x w' => x.1 ≤ 8 ∧ mw w x.2 [] (rblkA s (comp m s 64) m x.1) = w') (fun x _ => 8 - x.1) (0, n) (by kernel_rfl) rfl ⟨by omega, rfl⟩ ?_
    rintro b2 ⟨j, n2⟩ w2 ⟨hj, rfl⟩
    dsimp only at hj ⊢
    obtain rfl | rfl | rfl | rfl | rfl | rfl | rfl | rfl | rfl : j = 0 ∨ j = 1 ∨ j = 2 ∨ j = 3 ∨ j = 4 ∨ j = 5 ∨ j = 6 ∨ j = 7 ∨ j = 8 := by omega
    all_goals simp (disch := first | omega | assumption | exact Option.isSome_some | (simp only [adO_isSome]; assumption)) only [↓vcp, vcs, vcm, if_true, if_false, Nat.reduceBEq, ↓reduceIte, Nat.reduceEqDiff, Nat.reduceAdd, Nat.reduceMul, Nat.reduceSub, Int.reduceToNat, reduceCtorEq, Nat.reduceLT, Nat.reduceLeDiff, Int.reduceSub, Int.reduceAdd, Int.reduceNeg, rblkA, adv, St.vals, Int.cast_ofNat_Int]
    rotate_right
    · rw [if_pos (by simp)]
      refine ret_cell (sz := 8) rfl (by rfl) ?_ (hR _ _ ⟨rfl, below_mw n2 [] _ (Below.refl _ _) (Nat.le_refl _) (fun x hx => by cases hx)⟩)
      simp (disch := first | omega | assumption | exact Option.isSome_some | (simp only [adO_isSome]; assumption)) only [↓vcp, vcs, vcm, if_true, if_false, Nat.reduceBEq, ↓reduceIte, Nat.reduceEqDiff, Nat.reduceAdd, Nat.reduceMul, Nat.reduceSub, Int.reduceToNat, reduceCtorEq, Nat.reduceLT, Nat.reduceLeDiff, Int.reduceSub, Int.reduceAdd, Int.reduceNeg, List.replicate]
      rw [← hm]
      rfl
    all_goals
      refine draw_still 9 (by kernel_rfl) (by kernel_rfl) (by kernel_rfl) ?_
      simp (disch := first | omega | assumption | exact Option.isSome_some | (simp only [adO_isSome]; assumption)) only [↓vcp, vcs, vcm, if_true, if_false, Nat.reduceBEq, ↓reduceIte, Nat.reduceEqDiff, Nat.reduceAdd, Nat.reduceMul, Nat.reduceSub, Int.reduceToNat, reduceCtorEq, Nat.reduceLT, Nat.reduceLeDiff, Int.reduceSub, Int.reduceAdd, Int.reduceNeg, w32_add, Int.cast_ofNat_Int]
    · exact ⟨(1, n2 + 1), by rfl, by rfl, ⟨by dsimp only; omega, rfl⟩, by dsimp only; omega⟩
    · exact ⟨(2, n2 + 1), by rfl, by rfl, ⟨by dsimp only; omega, rfl⟩, by dsimp only; omega⟩
    · exact ⟨(3, n2 + 1), by rfl, by rfl, ⟨by dsimp only; omega, rfl⟩, by dsimp only; omega⟩
    · exact ⟨(4, n2 + 1), by rfl, by rfl, ⟨by dsimp only; omega, rfl⟩, by dsimp only; omega⟩
    · exact ⟨(5, n2 + 1), by rfl, by rfl, ⟨by dsimp only; omega, rfl⟩, by dsimp only; omega⟩
    · exact ⟨(6, n2 + 1), by rfl, by rfl, ⟨by dsimp only; omega, rfl⟩, by dsimp only; omega⟩
    · exact ⟨(7, n2 + 1), by rfl, by rfl, ⟨by dsimp only; omega, rfl⟩, by dsimp only; omega⟩
    · exact ⟨(8, n2 + 1), by rfl, by rfl, ⟨by dsimp only; omega, rfl⟩, by dsimp only; omega⟩
  case pos =>
    simp (disch := first | omega | assumption | exact Option.isSome_some | (simp only [adO_isSome]; assumption)) only [↓vcp, vcs, vcm, if_true, if_false, Nat.reduceBEq, ↓reduceIte, Nat.reduceEqDiff, Nat.reduceAdd, Nat.reduceMul, Nat.reduceSub, Int.reduceToNat, reduceCtorEq, Nat.reduceLT, Nat.reduceLeDiff, Int.reduceSub, Int.reduceAdd, Int.reduceNeg, rblk, St.vals]
    refine cond_join (σ := Nat) [] (fun _ => []) [10, 1, 2, 3, 6, 7, 8, 9] (fun n' w' => mw w n' [] (rblk s (comp m s i) m (i + 1)) = w') ?_ ?_
    · by_cases h16 : i < 16
      · simp (disch := first | omega | assumption | exact Option.isSome_some | (simp only [adO_isSome]; assumption)) only [↓vcp, vcs, vcm, if_true, if_false, Nat.reduceBEq, ↓reduceIte, Nat.reduceEqDiff, Nat.reduceAdd, Nat.reduceMul, Nat.reduceSub, Int.reduceToNat, reduceCtorEq, Nat.reduceLT, Nat.reduceLeDiff, Int.reduceSub, Int.reduceAdd, Int.reduceNeg]
        have hx1 : RdB (mw w n [] (rblk s (comp m s i) m i)) w.heap.size a l := hx.below (below_mw n [] _ (Below.refl _ _) (Nat.le_refl _) (fun x hx => by cases hx))
        have hcast : (p : Int) + 4 * (i : Int) = ((p + 4 * i : Nat) : Int) := by omega
        simp (disch := first | omega | assumption | exact Option.isSome_some | (simp only [adO_isSome]; assumption)) only [↓vcp, vcs, vcm, if_true, if_false, Nat.reduceBEq, ↓reduceIte, Nat.reduceEqDiff, Nat.reduceAdd, Nat.reduceMul, Nat.reduceSub, Int.reduceToNat, reduceCtorEq, Nat.reduceLT, Nat.reduceLeDiff, Int.reduceSub, Int.reduceAdd, Int.reduceNeg, hcast]
        refine call_ok (by kernel_rfl) (word_calls _ _ a c (p + 4 * i) l hx1 (by omega) hl) ?_; rintro e w' ⟨rfl, rfl⟩; rw [callK_ret]
        have hg : ((wsAt m i)[i]?).isSome = true := by simp [wsAt_len, hlt]
        obtain ⟨x, hx0⟩ := Option.isSome_iff_exists.1 hg
        have hset := wsAt_set m hlt
        rw [← hm, words_at l p i hp h16, hm] at hset
        simp (disch := first | omega | assumption | exact Option.isSome_some | (simp only [adO_isSome]; assumption)) only [↓vcp, vcs, vcm, if_true, if_false, Nat.reduceBEq, ↓reduceIte, Nat.reduceEqDiff, Nat.reduceAdd, Nat.reduceMul, Nat.reduceSub, Int.reduceToNat, reduceCtorEq, Nat.reduceLT, Nat.reduceLeDiff, Int.reduceSub, Int.reduceAdd, Int.reduceNeg, hx0, hset]
        exact ⟨n, by rfl, by rfl, rfl⟩
      · have hcast : ∀ d : Nat, d ≤ 16 → ((i : Int) - (d : Int)).toNat = i - d := fun d hd => by omega
        have hw : ∀ d : Nat, 0 < d → d ≤ 16 → (wsAt m i)[i - d]? = some (.int .u32 (sched m (i - d)).toNat) := fun d h0 hd => wsAt_get m (by omega) (by omega)
        have c15 := hcast 15 (by omega)
        have c2 := hcast 2 (by omega)
        have c7 := hcast 7 (by omega)
        have c16 := hcast 16 (by omega)
        simp only [Int.cast_ofNat_Int] at c15 c2 c7 c16
        have w15 := hw 15 (by omega) (by omega)
        have w2 := hw 2 (by omega) (by omega)
        have w7 := hw 7 (by omega) (by omega)
        have w16 := hw 16 (by omega) (by omega)
        simp (disch := first | omega | assumption | exact Option.isSome_some | (simp only [adO_isSome]; assumption)) only [↓vcp, vcs, vcm, if_true, if_false, Nat.reduceBEq, ↓reduceIte, Nat.reduceEqDiff, Nat.reduceAdd, Nat.reduceMul, Nat.reduceSub, Int.reduceToNat, reduceCtorEq, Nat.reduceLT, Nat.reduceLeDiff, Int.reduceSub, Int.reduceAdd, Int.reduceNeg, c15, c2, w15, w2]
        refine draw_plan (StOf _ (w.heap.size + 2) i) [(0, true), (1, true), (3, true), (6, true), (7, true), (9, true), (10, true), (11, true), (12, true), (14, true), (16, true), (19, true), (20, true), (23, true), (24, true), (25, true), (26, true), (2, false), (4, false), (5, true), (8, true), (13, true), (15, false), (17, false), (18, true), (21, true), (22, true), (27, true), (28, true), (29, false)] (by kernel_rfl) (by kernel_rfl) (StOf.start ?_) ?_
        · rw [cellO_mw]
          simp [wsAt_len, hlt]
        · have hg : ((wsAt m i)[i]?).isSome = true := by simp [wsAt_len, hlt]
          obtain ⟨x, hx0⟩ := Option.isSome_iff_exists.1 hg
          have hS0 : StOf (mw w n [] (rblk s (comp m s i) m i)) (w.heap.size + 2) i (mw w (n + 1) [] (rblk s (comp m s i) m i)) := StOf.start (by
            rw [cellO_mw]
            simp [rblk, wsAt_len, hlt])
          simp only [rblk, St.vals] at hS0
          simp (disch := first | omega | assumption | exact Option.isSome_some | (simp only [adO_isSome]; assumption)) only [↓vcp, vcs, vcm, if_true, if_false, Nat.reduceBEq, ↓reduceIte, Nat.reduceEqDiff, Nat.reduceAdd, Nat.reduceMul, Nat.reduceSub, Int.reduceToNat, reduceCtorEq, Nat.reduceLT, Nat.reduceLeDiff, Int.reduceSub, Int.reduceAdd, Int.reduceNeg, c7, c16, w7, w16]
          refine call_ok (by kernel_rfl) (turnB_calls _ _ 17 (by omega) (by omega)) ?_; rintro e w' ⟨rfl, rfl⟩; rw [callK_ret]
          refine And.intro hS0 ?_
          simp (disch := first | omega | assumption | exact Option.isSome_some | (simp only [adO_isSome]; assumption)) only [↓vcp, vcs, vcm, if_true, if_false, Nat.reduceBEq, ↓reduceIte, Nat.reduceEqDiff, Nat.reduceAdd, Nat.reduceMul, Nat.reduceSub, Int.reduceToNat, reduceCtorEq, Nat.reduceLT, Nat.reduceLeDiff, Int.reduceSub, Int.reduceAdd, Int.reduceNeg, c7, c16, w7, w16]
          refine call_ok (by kernel_rfl) (turnB_calls _ _ 19 (by omega) (by omega)) ?_; rintro e w' ⟨rfl, rfl⟩; rw [callK_ret]
          refine And.intro hS0 ?_
          simp (disch := first | omega | assumption | exact Option.isSome_some | (simp only [adO_isSome]; assumption)) only [↓vcp, vcs, vcm, if_true, if_false, Nat.reduceBEq, ↓reduceIte, Nat.reduceEqDiff, Nat.reduceAdd, Nat.reduceMul, Nat.reduceSub, Int.reduceToNat, reduceCtorEq, Nat.reduceLT, Nat.reduceLeDiff, Int.reduceSub, Int.reduceAdd, Int.reduceNeg, c7, c16, w7, w16]
          refine call_ok (by kernel_rfl) (turnB_calls _ _ 7 (by omega) (by omega)) ?_; rintro e w' ⟨rfl, rfl⟩; rw [callK_ret]
          refine And.intro hS0 ?_
          simp (disch := first | omega | assumption | exact Option.isSome_some | (simp only [adO_isSome]; assumption)) only [↓vcp, vcs, vcm, if_true, if_false, Nat.reduceBEq, ↓reduceIte, Nat.reduceEqDiff, Nat.reduceAdd, Nat.reduceMul, Nat.reduceSub, Int.reduceToNat, reduceCtorEq, Nat.reduceLT, Nat.reduceLeDiff, Int.reduceSub, Int.reduceAdd, Int.reduceNeg, c7, c16, w7, w16]
          refine call_ok (by kernel_rfl) (turnB_calls _ _ 18 (by omega) (by omega)) ?_; rintro e w' ⟨rfl, rfl⟩; rw [callK_ret]
          refine And.intro hS0 ?_
          have hset := wsAt_set m hlt
          have hsum : (rotr (sched m (i - 2)) 17 ^^^ rotr (sched m (i - 2)) 19 ^^^ sched m (i - 2) >>> 10) + sched m (i - 7) + (rotr (sched m (i - 15)) 7 ^^^ rotr (sched m (i - 15)) 18 ^^^ sched m (i - 15) >>> 3) + sched m (i - 16) = sched m i := by
            rw [sched_big (t := i) h16]
            unfold sg0 sg1
            ac_rfl
          simp (disch := first | omega | assumption | exact Option.isSome_some | (simp only [adO_isSome]; assumption)) only [↓vcp, vcs, vcm, if_true, if_false, Nat.reduceBEq, ↓reduceIte, Nat.reduceEqDiff, Nat.reduceAdd, Nat.reduceMul, Nat.reduceSub, Int.reduceToNat, reduceCtorEq, Nat.reduceLT, Nat.reduceLeDiff, Int.reduceSub, Int.reduceAdd, Int.reduceNeg, c7, c16, w7, w16, shr10, shr3, w32_xor, w32_add, hsum, hx0, hset]
          have hS1 := StOf.mw w n 1 [] (rblk s (comp m s i) m i) 2 i (.int .u32 (sched m i).toNat) (by simp [rblk])
          simp only [rblk, St.vals, putB_succ, putB_zero, hset] at hS1
          refine And.intro hS1 ?_
          simp (disch := first | omega | assumption | exact Option.isSome_some | (simp only [adO_isSome]; assumption)) only [↓vcp, vcs, vcm, if_true, if_false, Nat.reduceBEq, ↓reduceIte, Nat.reduceEqDiff, Nat.reduceAdd, Nat.reduceMul, Nat.reduceSub, Int.reduceToNat, reduceCtorEq, Nat.reduceLT, Nat.reduceLeDiff, Int.reduceSub, Int.reduceAdd, Int.reduceNeg]
          exact ⟨n + 1, by rfl, by rfl, rfl⟩
    · rintro b n' w' rfl
      have hf : (factors.map u32v)[i]? = some (.int .u32 (factors.getD i 0).toNat) := by
        have h64 : factors.length = 64 := rfl
        rw [List.getElem?_map, List.getElem?_eq_getElem (by omega), List.getD_eq_getElem?_getD, List.getElem?_eq_getElem (by omega)]
        rfl
      have hwi := wsAt_get m (i := i + 1) (j := i) (by omega) hlt
      simp (disch := first | omega | assumption | exact Option.isSome_some | (simp only [adO_isSome]; assumption)) only [↓vcp, vcs, vcm, if_true, if_false, Nat.reduceBEq, ↓reduceIte, Nat.reduceEqDiff, Nat.reduceAdd, Nat.reduceMul, Nat.reduceSub, Int.reduceToNat, reduceCtorEq, Nat.reduceLT, Nat.reduceLeDiff, Int.reduceSub, Int.reduceAdd, Int.reduceNeg, rblk, St.vals]
      refine draw_plan (DrewOf _) [(0, true), (1, true), (2, true), (4, true), (7, true), (11, true), (12, true), (13, true), (14, true), (15, true), (16, true), (17, true), (18, true), (19, true), (20, true), (22, true), (23, true), (24, true), (26, true), (27, true), (28, true), (3, false), (5, false), (6, true), (8, false), (9, true), (10, true), (21, true), (25, true), (29, true), (30, true)] (by kernel_rfl) (by kernel_rfl) (DrewOf.start _) ?_
      have hD := DrewOf.mw w n' 1 [] (rblk s (comp m s i) m (i + 1))
      simp only [rblk, St.vals] at hD
      simp (disch := first | omega | assumption | exact Option.isSome_some | (simp only [adO_isSome]; assumption)) only [↓vcp, vcs, vcm, if_true, if_false, Nat.reduceBEq, ↓reduceIte, Nat.reduceEqDiff, Nat.reduceAdd, Nat.reduceMul, Nat.reduceSub, Int.reduceToNat, reduceCtorEq, Nat.reduceLT, Nat.reduceLeDiff, Int.reduceSub, Int.reduceAdd, Int.reduceNeg, hf, hwi]
      refine call_ok (by kernel_rfl) (turnB_calls _ _ 6 (by omega) (by omega)) ?_; rintro e w' ⟨rfl, rfl⟩; rw [callK_ret]
      refine And.intro hD ?_
      simp (disch := first | omega | assumption | exact Option.isSome_some | (simp only [adO_isSome]; assumption)) only [↓vcp, vcs, vcm, if_true, if_false, Nat.reduceBEq, ↓reduceIte, Nat.reduceEqDiff, Nat.reduceAdd, Nat.reduceMul, Nat.reduceSub, Int.reduceToNat, reduceCtorEq, Nat.reduceLT, Nat.reduceLeDiff, Int.reduceSub, Int.reduceAdd, Int.reduceNeg, hf, hwi]
      refine call_ok (by kernel_rfl) (turnB_calls _ _ 11 (by omega) (by omega)) ?_; rintro e w' ⟨rfl, rfl⟩; rw [callK_ret]
      refine And.intro hD ?_
      simp (disch := first | omega | assumption | exact Option.isSome_some | (simp only [adO_isSome]; assumption)) only [↓vcp, vcs, vcm, if_true, if_false, Nat.reduceBEq, ↓reduceIte, Nat.reduceEqDiff, Nat.reduceAdd, Nat.reduceMul, Nat.reduceSub, Int.reduceToNat, reduceCtorEq, Nat.reduceLT, Nat.reduceLeDiff, Int.reduceSub, Int.reduceAdd, Int.reduceNeg, hf, hwi]
      refine call_ok (by kernel_rfl) (turnB_calls _ _ 25 (by omega) (by omega)) ?_; rintro e w' ⟨rfl, rfl⟩; rw [callK_ret]
      refine And.intro hD ?_
      simp (disch := first | omega | assumption | exact Option.isSome_some | (simp only [adO_isSome]; assumption)) only [↓vcp, vcs, vcm, if_true, if_false, Nat.reduceBEq, ↓reduceIte, Nat.reduceEqDiff, Nat.reduceAdd, Nat.reduceMul, Nat.reduceSub, Int.reduceToNat, reduceCtorEq, Nat.reduceLT, Nat.reduceLeDiff, Int.reduceSub, Int.reduceAdd, Int.reduceNeg, hf, hwi, w32_xor, w32_add, w32_and, w32_not]
      refine draw_plan (DrewOf _) [(0, true), (2, true), (5, true), (8, true), (9, true), (10, true), (11, true), (12, true), (13, true), (14, true), (15, true), (16, true), (17, true), (18, true), (19, true), (20, true), (21, true), (22, true), (1, false), (3, false), (4, true), (6, false), (7, true), (23, true), (24, true)] (by kernel_rfl) (by kernel_rfl) (DrewOf.start _) ?_
      have hD2 := DrewOf.mw w (n' + 1) 1 [] (rblk s (comp m s i) m (i + 1))
      simp only [rblk, St.vals] at hD2
      simp (disch := first | omega | assumption | exact Option.isSome_some | (simp only [adO_isSome]; assumption)) only [↓vcp, vcs, vcm, if_true, if_false, Nat.reduceBEq, ↓reduceIte, Nat.reduceEqDiff, Nat.reduceAdd, Nat.reduceMul, Nat.reduceSub, Int.reduceToNat, reduceCtorEq, Nat.reduceLT, Nat.reduceLeDiff, Int.reduceSub, Int.reduceAdd, Int.reduceNeg]
      refine call_ok (by kernel_rfl) (turnB_calls _ _ 2 (by omega) (by omega)) ?_; rintro e w' ⟨rfl, rfl⟩; rw [callK_ret]
      refine And.intro hD2 ?_
      simp (disch := first | omega | assumption | exact Option.isSome_some | (simp only [adO_isSome]; assumption)) only [↓vcp, vcs, vcm, if_true, if_false, Nat.reduceBEq, ↓reduceIte, Nat.reduceEqDiff, Nat.reduceAdd, Nat.reduceMul, Nat.reduceSub, Int.reduceToNat, reduceCtorEq, Nat.reduceLT, Nat.reduceLeDiff, Int.reduceSub, Int.reduceAdd, Int.reduceNeg]
      refine call_ok (by kernel_rfl) (turnB_calls _ _ 13 (by omega) (by omega)) ?_; rintro e w' ⟨rfl, rfl⟩; rw [callK_ret]
      refine And.intro hD2 ?_
      simp (disch := first | omega | assumption | exact Option.isSome_some | (simp only [adO_isSome]; assumption)) only [↓vcp, vcs, vcm, if_true, if_false, Nat.reduceBEq, ↓reduceIte, Nat.reduceEqDiff, Nat.reduceAdd, Nat.reduceMul, Nat.reduceSub, Int.reduceToNat, reduceCtorEq, Nat.reduceLT, Nat.reduceLeDiff, Int.reduceSub, Int.reduceAdd, Int.reduceNeg]
      refine call_ok (by kernel_rfl) (turnB_calls _ _ 22 (by omega) (by omega)) ?_; rintro e w' ⟨rfl, rfl⟩; rw [callK_ret]
      refine And.intro hD2 ?_
      simp (disch := first | omega | assumption | exact Option.isSome_some | (simp only [adO_isSome]; assumption)) only [↓vcp, vcs, vcm, if_true, if_false, Nat.reduceBEq, ↓reduceIte, Nat.reduceEqDiff, Nat.reduceAdd, Nat.reduceMul, Nat.reduceSub, Int.reduceToNat, reduceCtorEq, Nat.reduceLT, Nat.reduceLeDiff, Int.reduceSub, Int.reduceAdd, Int.reduceNeg, w32_xor, w32_add, w32_and, w32_not]
      refine loop_rule (σ := Nat) [17] (fun k => [.int .i64 k]) [10, 1, 2, 3, 6, 7, 8, 9, 15, 16] (fun k w' => k ≤ 7 ∧ mw w (n' + 2) [] (rblkS s (comp m s i) m (i + 1) k) = w') (fun k _ => k) 7 (by kernel_rfl) rfl ⟨by omega, rfl⟩ ?_
      rintro b2 k w2 ⟨hk, rfl⟩
      obtain rfl | rfl | rfl | rfl | rfl | rfl | rfl | rfl : k = 0 ∨ k = 1 ∨ k = 2 ∨ k = 3 ∨ k = 4 ∨ k = 5 ∨ k = 6 ∨ k = 7 := by omega
      · simp (disch := first | omega | assumption | exact Option.isSome_some | (simp only [adO_isSome]; assumption)) only [↓vcp, vcs, vcm, if_true, if_false, Nat.reduceBEq, ↓reduceIte, Nat.reduceEqDiff, Nat.reduceAdd, Nat.reduceMul, Nat.reduceSub, Int.reduceToNat, reduceCtorEq, Nat.reduceLT, Nat.reduceLeDiff, Int.reduceSub, Int.reduceAdd, Int.reduceNeg, rblkS, shv, St.vals, w32_add, Int.cast_ofNat_Int]
        exact ⟨(i + 1, n' + 2), by rfl, by rfl, ⟨by dsimp only; omega, rfl⟩, by dsimp only; omega⟩
      · simp (disch := first | omega | assumption | exact Option.isSome_some | (simp only [adO_isSome]; assumption)) only [↓vcp, vcs, vcm, if_true, if_false, Nat.reduceBEq, ↓reduceIte, Nat.reduceEqDiff, Nat.reduceAdd, Nat.reduceMul, Nat.reduceSub, Int.reduceToNat, reduceCtorEq, Nat.reduceLT, Nat.reduceLeDiff, Int.reduceSub, Int.reduceAdd, Int.reduceNeg, rblkS, shv, St.vals, Int.cast_ofNat_Int, Int.reduceSub]
        exact ⟨0, by rfl, by rfl, ⟨by omega, rfl⟩, by dsimp only; omega⟩
      · simp (disch := first | omega | assumption | exact Option.isSome_some | (simp only [adO_isSome]; assumption)) only [↓vcp, vcs, vcm, if_true, if_false, Nat.reduceBEq, ↓reduceIte, Nat.reduceEqDiff, Nat.reduceAdd, Nat.reduceMul, Nat.reduceSub, Int.reduceToNat, reduceCtorEq, Nat.reduceLT, Nat.reduceLeDiff, Int.reduceSub, Int.reduceAdd, Int.reduceNeg, rblkS, shv, St.vals, Int.cast_ofNat_Int, Int.reduceSub]
        exact ⟨1, by rfl, by rfl, ⟨by omega, rfl⟩, by dsimp only; omega⟩
      · simp (disch := first | omega | assumption | exact Option.isSome_some | (simp only [adO_isSome]; assumption)) only [↓vcp, vcs, vcm, if_true, if_false, Nat.reduceBEq, ↓reduceIte, Nat.reduceEqDiff, Nat.reduceAdd, Nat.reduceMul, Nat.reduceSub, Int.reduceToNat, reduceCtorEq, Nat.reduceLT, Nat.reduceLeDiff, Int.reduceSub, Int.reduceAdd, Int.reduceNeg, rblkS, shv, St.vals, Int.cast_ofNat_Int, Int.reduceSub]
        exact ⟨2, by rfl, by rfl, ⟨by omega, rfl⟩, by dsimp only; omega⟩
      · simp (disch := first | omega | assumption | exact Option.isSome_some | (simp only [adO_isSome]; assumption)) only [↓vcp, vcs, vcm, if_true, if_false, Nat.reduceBEq, ↓reduceIte, Nat.reduceEqDiff, Nat.reduceAdd, Nat.reduceMul, Nat.reduceSub, Int.reduceToNat, reduceCtorEq, Nat.reduceLT, Nat.reduceLeDiff, Int.reduceSub, Int.reduceAdd, Int.reduceNeg, rblkS, shv, St.vals, Int.cast_ofNat_Int, Int.reduceSub]
        exact ⟨3, by rfl, by rfl, ⟨by omega, rfl⟩, by dsimp only; omega⟩
      · simp (disch := first | omega | assumption | exact Option.isSome_some | (simp only [adO_isSome]; assumption)) only [↓vcp, vcs, vcm, if_true, if_false, Nat.reduceBEq, ↓reduceIte, Nat.reduceEqDiff, Nat.reduceAdd, Nat.reduceMul, Nat.reduceSub, Int.reduceToNat, reduceCtorEq, Nat.reduceLT, Nat.reduceLeDiff, Int.reduceSub, Int.reduceAdd, Int.reduceNeg, rblkS, shv, St.vals, Int.cast_ofNat_Int, Int.reduceSub]
        exact ⟨4, by rfl, by rfl, ⟨by omega, rfl⟩, by dsimp only; omega⟩
      · simp (disch := first | omega | assumption | exact Option.isSome_some | (simp only [adO_isSome]; assumption)) only [↓vcp, vcs, vcm, if_true, if_false, Nat.reduceBEq, ↓reduceIte, Nat.reduceEqDiff, Nat.reduceAdd, Nat.reduceMul, Nat.reduceSub, Int.reduceToNat, reduceCtorEq, Nat.reduceLT, Nat.reduceLeDiff, Int.reduceSub, Int.reduceAdd, Int.reduceNeg, rblkS, shv, St.vals, Int.cast_ofNat_Int, Int.reduceSub]
        exact ⟨5, by rfl, by rfl, ⟨by omega, rfl⟩, by dsimp only; omega⟩
      · simp (disch := first | omega | assumption | exact Option.isSome_some | (simp only [adO_isSome]; assumption)) only [↓vcp, vcs, vcm, if_true, if_false, Nat.reduceBEq, ↓reduceIte, Nat.reduceEqDiff, Nat.reduceAdd, Nat.reduceMul, Nat.reduceSub, Int.reduceToNat, reduceCtorEq, Nat.reduceLT, Nat.reduceLeDiff, Int.reduceSub, Int.reduceAdd, Int.reduceNeg, rblkS, shv, St.vals, Int.cast_ofNat_Int, Int.reduceSub]
        exact ⟨6, by rfl, by rfl, ⟨by omega, rfl⟩, by dsimp only; omega⟩
end Go.Proofs.YtokoohdpakhphaaDoor.Sha
