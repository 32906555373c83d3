/- The book: its cells and its marks. -/
import Derived.Test.YtinnfbhdafkogaaTy
import Derived.Test.YtinnfbhdafkogaaBun
import Derived.Test.YtinnfbhdafkogaaNums
import Derived.Test.YtinnfbhdafkogaaApp2
namespace Go.Proofs.Ytinnfbhdafkogaa.Book
open Go VC Go.RowKit
set_option linter.unusedSimpArgs false
set_option linter.unusedVariables false
set_option maxRecDepth 20000
set_option maxHeartbeats 4000000
/-- the book's cells, where all lists but those of bytes are empty -/
def bcells (v0 v1 : Value) (at' t d u : Int) : List Value := [v0, v1, .int .i64 at', .slice none 0 0, .slice none 0 0, .int .i64 0, .slice none 0 0, .slice none 0 0, .int .i64 0, .slice none 0 0, .slice none 0 0, .int .i64 0, .slice none 0 0, .slice none 0 0, .int .i64 0, .slice none 0 0, .slice none 0 0, .int .i64 0, .slice none 0 0, .slice none 0 0, .int .i64 0, .slice none 0 0, .slice none 0 0, .int .i64 0, .slice none 0 0, .slice none 0 0, .int .i64 0, .slice none 0 0, .slice none 0 0, .int .i64 0, .slice none 0 0, .slice none 0 0, .int .i64 0, .slice none 0 0, .slice none 0 0, .int .i64 0, .slice none 0 0, .slice none 0 0, .int .i64 0, .slice none 0 0, .slice none 0 0, .int .i64 0, .slice none 0 0, .slice none 0 0, .int .i64 0, .slice none 0 0, .slice none 0 0, .int .i64 0, .slice none 0 0, .slice none 0 0, .int .i64 0, .slice none 0 0, .slice none 0 0, .int .i64 0, .int .i64 t, .int .i64 d, .int .i64 u]
theorem bg0 (v0 v1 : Value) (at' t d u : Int) : (bcells v0 v1 at' t d u)[0]? = some (v0) := rfl
theorem bg1 (v0 v1 : Value) (at' t d u : Int) : (bcells v0 v1 at' t d u)[1]? = some (v1) := rfl
theorem bg2 (v0 v1 : Value) (at' t d u : Int) : (bcells v0 v1 at' t d u)[2]? = some (.int .i64 at') := rfl
theorem bg3 (v0 v1 : Value) (at' t d u : Int) : (bcells v0 v1 at' t d u)[3]? = some (.slice none 0 0) := rfl
theorem bg5 (v0 v1 : Value) (at' t d u : Int) : (bcells v0 v1 at' t d u)[5]? = some (.int .i64 0) := rfl
theorem bg6 (v0 v1 : Value) (at' t d u : Int) : (bcells v0 v1 at' t d u)[6]? = some (.slice none 0 0) := rfl
theorem bg8 (v0 v1 : Value) (at' t d u : Int) : (bcells v0 v1 at' t d u)[8]? = some (.int .i64 0) := rfl
theorem bg9 (v0 v1 : Value) (at' t d u : Int) : (bcells v0 v1 at' t d u)[9]? = some (.slice none 0 0) := rfl
theorem bg11 (v0 v1 : Value) (at' t d u : Int) : (bcells v0 v1 at' t d u)[11]? = some (.int .i64 0) := rfl
theorem bg12 (v0 v1 : Value) (at' t d u : Int) : (bcells v0 v1 at' t d u)[12]? = some (.slice none 0 0) := rfl
theorem bg14 (v0 v1 : Value) (at' t d u : Int) : (bcells v0 v1 at' t d u)[14]? = some (.int .i64 0) := rfl
theorem bg15 (v0 v1 : Value) (at' t d u : Int) : (bcells v0 v1 at' t d u)[15]? = some (.slice none 0 0) := rfl
theorem bg17 (v0 v1 : Value) (at' t d u : Int) : (bcells v0 v1 at' t d u)[17]? = some (.int .i64 0) := rfl
theorem bg18 (v0 v1 : Value) (at' t d u : Int) : (bcells v0 v1 at' t d u)[18]? = some (.slice none 0 0) := rfl
theorem bg20 (v0 v1 : Value) (at' t d u : Int) : (bcells v0 v1 at' t d u)[20]? = some (.int .i64 0) := rfl
theorem bg21 (v0 v1 : Value) (at' t d u : Int) : (bcells v0 v1 at' t d u)[21]? = some (.slice none 0 0) := rfl
theorem bg23 (v0 v1 : Value) (at' t d u : Int) : (bcells v0 v1 at' t d u)[23]? = some (.int .i64 0) := rfl
theorem bg24 (v0 v1 : Value) (at' t d u : Int) : (bcells v0 v1 at' t d u)[24]? = some (.slice none 0 0) := rfl
theorem bg26 (v0 v1 : Value) (at' t d u : Int) : (bcells v0 v1 at' t d u)[26]? = some (.int .i64 0) := rfl
theorem bg27 (v0 v1 : Value) (at' t d u : Int) : (bcells v0 v1 at' t d u)[27]? = some (.slice none 0 0) := rfl
theorem bg29 (v0 v1 : Value) (at' t d u : Int) : (bcells v0 v1 at' t d u)[29]? = some (.int .i64 0) := rfl
theorem bg30 (v0 v1 : Value) (at' t d u : Int) : (bcells v0 v1 at' t d u)[30]? = some (.slice none 0 0) := rfl
theorem bg32 (v0 v1 : Value) (at' t d u : Int) : (bcells v0 v1 at' t d u)[32]? = some (.int .i64 0) := rfl
theorem bg33 (v0 v1 : Value) (at' t d u : Int) : (bcells v0 v1 at' t d u)[33]? = some (.slice none 0 0) := rfl
theorem bg35 (v0 v1 : Value) (at' t d u : Int) : (bcells v0 v1 at' t d u)[35]? = some (.int .i64 0) := rfl
theorem bg36 (v0 v1 : Value) (at' t d u : Int) : (bcells v0 v1 at' t d u)[36]? = some (.slice none 0 0) := rfl
theorem bg38 (v0 v1 : Value) (at' t d u : Int) : (bcells v0 v1 at' t d u)[38]? = some (.int .i64 0) := rfl
theorem bg39 (v0 v1 : Value) (at' t d u : Int) : (bcells v0 v1 at' t d u)[39]? = some (.slice none 0 0) := rfl
theorem bg41 (v0 v1 : Value) (at' t d u : Int) : (bcells v0 v1 at' t d u)[41]? = some (.int .i64 0) := rfl
theorem bg42 (v0 v1 : Value) (at' t d u : Int) : (bcells v0 v1 at' t d u)[42]? = some (.slice none 0 0) := rfl
theorem bg44 (v0 v1 : Value) (at' t d u : Int) : (bcells v0 v1 at' t d u)[44]? = some (.int .i64 0) := rfl
theorem bg45 (v0 v1 : Value) (at' t d u : Int) : (bcells v0 v1 at' t d u)[45]? = some (.slice none 0 0) := rfl
theorem bg47 (v0 v1 : Value) (at' t d u : Int) : (bcells v0 v1 at' t d u)[47]? = some (.int .i64 0) := rfl
theorem bg48 (v0 v1 : Value) (at' t d u : Int) : (bcells v0 v1 at' t d u)[48]? = some (.slice none 0 0) := rfl
theorem bg50 (v0 v1 : Value) (at' t d u : Int) : (bcells v0 v1 at' t d u)[50]? = some (.int .i64 0) := rfl
theorem bg51 (v0 v1 : Value) (at' t d u : Int) : (bcells v0 v1 at' t d u)[51]? = some (.slice none 0 0) := rfl
theorem bg53 (v0 v1 : Value) (at' t d u : Int) : (bcells v0 v1 at' t d u)[53]? = some (.int .i64 0) := rfl
theorem bg54 (v0 v1 : Value) (at' t d u : Int) : (bcells v0 v1 at' t d u)[54]? = some (.int .i64 t) := rfl
theorem bg55 (v0 v1 : Value) (at' t d u : Int) : (bcells v0 v1 at' t d u)[55]? = some (.int .i64 d) := rfl
theorem bg56 (v0 v1 : Value) (at' t d u : Int) : (bcells v0 v1 at' t d u)[56]? = some (.int .i64 u) := rfl
theorem blen (v0 v1 : Value) (at' t d u : Int) : (bcells v0 v1 at' t d u).length = 57 := rfl
/-- byte k of mark m -/
def atB (m k : Nat) : UInt8 := if k % 2 = 0 then UInt8.ofNat (1 + m % 251) else UInt8.ofNat (1 + (7 * m + m / 251) % 251)
theorem ofNat8 {n : Nat} (h : n < 256) : (UInt8.ofNat n).toNat = n := by simp [UInt8.toNat_ofNat']; omega
theorem at_calls (w : World) (m k : Nat) (hm : m ≤ 72057594037927936) : Calls Try.prog 39 #[.int .i64 m, .int .i64 k] w fun e w' => e = .returned (.int .u8 ((atB m k).toNat : Int)) ∧ w = w' := by
  refine calls_vc Try.func39 rfl (by kernel_rfl) (by kernel_rfl) ?_; intro R hR
  unfold atB at hR
  have hs := Sat.start w
  have e1 : (1 + ((m % 251 : Nat) : Int)) = ((1 + m % 251 : Nat) : Int) := by omega
  have e2 : (7 * (m : Int)) = ((7 * m : Nat) : Int) := by omega
  have e3 : (((7 * m : Nat) : Int) + ((m / 251 : Nat) : Int)) = ((7 * m + m / 251 : Nat) : Int) := by omega
  have e4 : (1 + (((7 * m + m / 251) % 251 : Nat) : Int)) = ((1 + (7 * m + m / 251) % 251 : Nat) : Int) := by omega
  rcases Nat.mod_two_eq_zero_or_one k with hk | hk
  · rw [if_pos hk, ofNat8 (by omega)] at hR
    (repeat (first | (simp (disch := first | omega | assumption | exact Option.isSome_some | (simp only [adO_isSome]; assumption)) only [↓vcp, vcs, vct, if_true, if_false, Nat.reduceBEq, ↓reduceIte, Nat.reduceEqDiff, Nat.reduceAdd, Nat.reduceMul, Nat.reduceSub, Int.reduceToNat, reduceCtorEq, Nat.reduceLT, Nat.reduceLeDiff, Int.reduceSub, Int.reduceAdd, Int.reduceNeg, Sat.look hs, Sat.lookA hs, tmod_lit, tdiv_lit, e1, wr8]) | (refine khK he hs ?_; clear he; intro he) | ((first | refine stK hs ?_ | refine stFK hs ?_ | refine stAK hs ?_ | refine msK hs ?_); clear hs; (try clear w); rintro w hs; try simp only [cls] at hs) | ((first | refine al_ok hs ?_ | refine bx_ok hs ?_ | refine bsvK hs ?_ | refine bs1_ok hs ?_ | refine bs0_ok hs ?_); clear hs; (try clear w); rintro _ w hs; try simp only [cls] at hs)))
    exact ret_tmp rfl (hR _ _ ⟨rfl, rfl⟩)
  · rw [if_neg (by omega), ofNat8 (by omega)] at hR
    (repeat (first | (simp (disch := first | omega | assumption | exact Option.isSome_some | (simp only [adO_isSome]; assumption)) only [↓vcp, vcs, vct, if_true, if_false, Nat.reduceBEq, ↓reduceIte, Nat.reduceEqDiff, Nat.reduceAdd, Nat.reduceMul, Nat.reduceSub, Int.reduceToNat, reduceCtorEq, Nat.reduceLT, Nat.reduceLeDiff, Int.reduceSub, Int.reduceAdd, Int.reduceNeg, Sat.look hs, Sat.lookA hs, tmod_lit, tdiv_lit, e1, e2, e3, e4, wr8]) | (refine khK he hs ?_; clear he; intro he) | ((first | refine stK hs ?_ | refine stFK hs ?_ | refine stAK hs ?_ | refine msK hs ?_); clear hs; (try clear w); rintro w hs; try simp only [cls] at hs) | ((first | refine al_ok hs ?_ | refine bx_ok hs ?_ | refine bsvK hs ?_ | refine bs1_ok hs ?_ | refine bs0_ok hs ?_); clear hs; (try clear w); rintro _ w hs; try simp only [cls] at hs)))
    exact ret_tmp rfl (hR _ _ ⟨rfl, rfl⟩)
def mk (m n : Nat) : List UInt8 := (List.range n).map (atB m)
theorem mk_len (m n : Nat) : (mk m n).length = n := by simp [mk]
theorem mk_succ (m n : Nat) : mk m (n + 1) = mk m n ++ [atB m n] := by simp [mk, List.range_succ]
theorem mk_get {m n k : Nat} (h : k < n) : (mk m n)[k]? = some (atB m k) := by simp [mk, h]
theorem mk_take {m n k : Nat} (h : k ≤ n) : (mk m n).take k = mk m k := by
  unfold mk
  rw [← List.map_take, List.take_range, Nat.min_eq_left h]
end Go.Proofs.Ytinnfbhdafkogaa.Book
