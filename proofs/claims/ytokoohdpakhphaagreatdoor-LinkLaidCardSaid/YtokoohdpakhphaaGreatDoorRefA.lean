/- Several texts in one. -/
import Derived.Test.YtokoohdpakhphaaGreatDoorTy
import Derived.Test.YtokoohdpakhphaaGreatDoorBits
import Derived.Test.YtokoohdpakhphaaGreatDoorSha
import Derived.Test.YtokoohdpakhphaaGreatDoorNums
namespace Go.Proofs.YtokoohdpakhphaaGreatDoor.Sha
open Go VC Go.RowKit
set_option linter.unusedSimpArgs false
set_option maxRecDepth 20000
theorem shr10 (x : UInt32) : Shr .u32 (x.toNat : Int) 10 = ((x >>> 10).toNat : Int) := by
  have := Shr_u .u32 x.toNat 10 (by rw [u32b]; omega)
  simp only [Int.cast_ofNat_Int] at this
  rw [this]
  simp [Nat.shiftRight_eq_div_pow]
theorem shr3 (x : UInt32) : Shr .u32 (x.toNat : Int) 3 = ((x >>> 3).toNat : Int) := by
  have := Shr_u .u32 x.toNat 3 (by rw [u32b]; omega)
  simp only [Int.cast_ofNat_Int] at this
  rw [this]
  simp [Nat.shiftRight_eq_div_pow]
theorem w32_not (x : UInt32) : Bxor .u32 (if IntKind.u32.signed then -1 else IntKind.u32.max) (x.toNat : Int) = ((~~~x).toNat : Int) := by
  have h := Bxor_u .u32 rfl (2 ^ 32 - 1) x.toNat (by decide) (u32_lt x)
  have e : (if IntKind.u32.signed then (-1 : Int) else IntKind.u32.max) = ((2 ^ 32 - 1 : Nat) : Int) := rfl
  rw [e, h]
  have h2 : (2 ^ 32 - 1) ^^^ x.toNat = (~~~x).toNat := by
    rw [Nat.xor_comm]
    have := UInt32.toNat_not x
    rw [this]
    have h3 : (BitVec.ofNat 32 x.toNat ^^^ BitVec.allOnes 32).toNat = (~~~ BitVec.ofNat 32 x.toNat).toNat := by rw [BitVec.xor_allOnes]
    have hlt := u32_lt x
    simp only [BitVec.toNat_xor, BitVec.toNat_allOnes, BitVec.toNat_not, BitVec.toNat_ofNat, Nat.mod_eq_of_lt hlt] at h3
    rw [h3]
  rw [h2]
theorem band31 (n : Nat) (h0 : 0 < n) (h : n < 32) : Band .u64 (IntKind.u64.wrap (-(n : Int))) 31 = ((32 - n : Nat) : Int) := by
  have : ∀ m : Fin 32, 0 < m.val → Band .u64 (IntKind.u64.wrap (-(m.val : Int))) 31 = ((32 - m.val : Nat) : Int) := by decide +kernel
  exact this ⟨n, h⟩ h0
theorem Rotate_calls (w : World) (x : UInt32) (n : Nat) (h0 : 0 < n) (h : n < 32) :
    Calls Tryz.prog 115 #[.int .u32 x.toNat, .int .i64 (-(n : Int))] w fun e w' => e = .returned (.int .u32 (rotr x n).toNat) ∧ w = w' := by
  refine calls_vc Tryz.func115 rfl (by kernel_rfl) (by kernel_rfl) ?_; intro R hR
  have hsub : (32 : Int) - ((32 - n : Nat) : Int) = (n : Int) := by omega
  simp (disch := first | omega | assumption | exact Option.isSome_some | (simp only [adO_isSome]; assumption)) only [↓vcp, vcs, vcm, if_true, if_false, Nat.reduceBEq, ↓reduceIte, Nat.reduceEqDiff, Nat.reduceAdd, Nat.reduceMul, Nat.reduceSub, Int.reduceToNat, reduceCtorEq, Nat.reduceLT, Nat.reduceLeDiff, Int.reduceSub, Int.reduceAdd, Int.reduceNeg, band31 n h0 h, hsub, rot_or x n (Nat.le_of_lt h)]
  exact ret_tmp rfl (hR _ _ ⟨rfl, rfl⟩)
theorem turnA_calls (w : World) (x : UInt32) (n : Nat) (h0 : 0 < n) (h : n < 32) :
    Calls Tryz.prog 108 #[.int .u32 x.toNat, .int .i64 n] w fun e w' => e = .returned (.int .u32 (rotr x n).toNat) ∧ w = w' := by
  refine calls_vc Tryz.func108 rfl (by kernel_rfl) (by kernel_rfl) ?_; intro R hR
  simp (disch := first | omega | assumption | exact Option.isSome_some | (simp only [adO_isSome]; assumption)) only [↓vcp, vcs, vcm, if_true, if_false, Nat.reduceBEq, ↓reduceIte, Nat.reduceEqDiff, Nat.reduceAdd, Nat.reduceMul, Nat.reduceSub, Int.reduceToNat, reduceCtorEq, Nat.reduceLT, Nat.reduceLeDiff, Int.reduceSub, Int.reduceAdd, Int.reduceNeg, Int.zero_sub]
  refine call_ok (by kernel_rfl) (Rotate_calls w x n h0 h) ?_; rintro e w' ⟨rfl, rfl⟩; rw [callK_ret]
  simp (disch := first | omega | assumption | exact Option.isSome_some | (simp only [adO_isSome]; assumption)) only [↓vcp, vcs, vcm, if_true, if_false, Nat.reduceBEq, ↓reduceIte, Nat.reduceEqDiff, Nat.reduceAdd, Nat.reduceMul, Nat.reduceSub, Int.reduceToNat, reduceCtorEq, Nat.reduceLT, Nat.reduceLeDiff, Int.reduceSub, Int.reduceAdd, Int.reduceNeg]
  exact ret_tmp rfl (hR _ _ ⟨rfl, rfl⟩)
theorem turnI (w : World) (x : UInt32) (i : Int) (h0 : 0 < i) (h : i < 32) : Calls Tryz.prog 108 #[.int .u32 x.toNat, .int .i64 i] w fun e w' => e = .returned (.int .u32 (rotr x i.toNat).toNat) ∧ w = w' := by
  have := turnA_calls w x i.toNat (by omega) (by omega)
  rwa [Int.toNat_of_nonneg (by omega)] at this
end Go.Proofs.YtokoohdpakhphaaGreatDoor.Sha
namespace Go.Proofs.YtokoohdpakhphaaGreatDoor.Sha
open Go VC Go.RowKit
set_option linter.unusedSimpArgs false
set_option maxRecDepth 20000
def wpart (b : List UInt8) (p : Nat) : Nat → Nat
  | 0 => 0
  | i + 1 => 256 * wpart b p i + (b.getD (p + i) 0).toNat
theorem wpart_lt (b : List UInt8) (p : Nat) : ∀ i, wpart b p i < 256 ^ i
  | 0 => by simp [wpart]
  | i + 1 => by
    have h1 := wpart_lt b p i
    have h2 := (b.getD (p + i) 0).toNat_lt
    have h3 : 256 ^ (i + 1) = 256 * 256 ^ i := by rw [Nat.pow_succ, Nat.mul_comm]
    simp only [wpart]
    omega
theorem wpart_word (b : List UInt8) (p : Nat) : wpart b p 4 = (word b p).toNat := by
  have h := wpart_lt b p 4
  unfold word
  rw [UInt32.toNat_ofNat']
  have e : wpart b p 4 = (b.getD p 0).toNat * 2 ^ 24 + (b.getD (p + 1) 0).toNat * 2 ^ 16 + (b.getD (p + 2) 0).toNat * 2 ^ 8 + (b.getD (p + 3) 0).toNat := by
    simp only [wpart, Nat.add_zero]
    omega
  rw [← e, Nat.mod_eq_of_lt (by omega)]
end Go.Proofs.YtokoohdpakhphaaGreatDoor.Sha
namespace Go.Proofs.YtokoohdpakhphaaGreatDoor.Sha
open Go VC Go.RowKit
set_option linter.unusedSimpArgs false
set_option maxRecDepth 20000
end Go.Proofs.YtokoohdpakhphaaGreatDoor.Sha
namespace Go.Proofs.YtokoohdpakhphaaGreatDoor.Sha
open Go VC Go.RowKit
set_option linter.unusedSimpArgs false
set_option maxRecDepth 20000
set_option maxHeartbeats 4000000
theorem pad_step (n j : Nat) (hj : j ≤ (119 - n % 64) % 64) : (n + 1 + j) % 64 = 56 ↔ j = (119 - n % 64) % 64 := by
  have h1 : (n + 1 + j) % 64 = (n % 64 + 1 + j) % 64 := by omega
  have h2 : n % 64 < 64 := Nat.mod_lt _ (by omega)
  rw [h1]
  generalize n % 64 = r at *
  by_cases h : r ≤ 55
  · have : (119 - r) % 64 = 55 - r := by omega
    rw [this] at hj ⊢
    omega
  · have : (119 - r) % 64 = 119 - r := by omega
    rw [this] at hj ⊢
    omega
end Go.Proofs.YtokoohdpakhphaaGreatDoor.Sha
namespace Go.Proofs.YtokoohdpakhphaaGreatDoor.Sha
open Go VC Go.RowKit
set_option linter.unusedSimpArgs false
set_option maxRecDepth 20000
/-- the array of words, the first i of them made -/
def wsAt (m : List UInt32) (i : Nat) : List Value := (List.range 64).map fun j => u32v (if j < i then sched m j else 0)
theorem wsAt_len (m : List UInt32) (i : Nat) : (wsAt m i).length = 64 := by simp [wsAt]
theorem wsAt_get (m : List UInt32) {i j : Nat} (h : j < i) (h64 : j < 64) : (wsAt m i)[j]? = some (.int .u32 (sched m j).toNat) := by simp [wsAt, h64, h, u32v]
theorem wsAt_set (m : List UInt32) {i : Nat} (h : i < 64) : (wsAt m i).set i (.int .u32 (sched m i).toNat) = wsAt m (i + 1) := by
  apply List.ext_getElem?
  intro j
  by_cases hj : j < 64
  · by_cases e : i = j
    · subst e
      rw [List.getElem?_set_self (by rw [wsAt_len]; exact h)]
      simp [wsAt, hj, u32v]
    · rw [List.getElem?_set_ne e]
      simp only [wsAt, List.getElem?_map, List.getElem?_range hj, Option.map_some]
      by_cases hl : j < i
      · rw [if_pos hl, if_pos (by omega)]
      · rw [if_neg hl, if_neg (by omega)]
  · rw [List.getElem?_eq_none (by simp [wsAt_len]; omega), List.getElem?_eq_none (by simp [wsAt_len]; omega)]
theorem words_at (l : List UInt8) (p i : Nat) (_hp : p + 64 ≤ l.length) (h : i < 16) : sched (words ((l.drop p).take 64)) i = word l (p + 4 * i) := by
  rw [sched_small h, words_get _ h]
  have e : ∀ j, j < 64 → ((l.drop p).take 64).getD j 0 = l.getD (p + j) 0 := fun j hj => by
    simp only [List.getD_eq_getElem?_getD, List.getElem?_take, if_pos hj, List.getElem?_drop]
  unfold word
  rw [e (4 * i) (by omega), e (4 * i + 1) (by omega), e (4 * i + 2) (by omega), e (4 * i + 3) (by omega)]
  rfl
def St.vals (s : St) : List Value := [.int .u32 s.a.toNat, .int .u32 s.b.toNat, .int .u32 s.c.toNat, .int .u32 s.d.toNat, .int .u32 s.e.toNat, .int .u32 s.f.toNat, .int .u32 s.g.toNat, .int .u32 s.h.toNat]
/-- the local blocks: the state that came in, the result's, the words, the factors twice, the state under way -/
def rblk (s v : St) (m : List UInt32) (i : Nat) : List Blk := [(s.vals, 175), (List.replicate 8 (.int .u32 0), 175), (wsAt m i, 194), (factors.map u32v, 194), (factors.map u32v, 194), (v.vals, 175)]
/-- the state under way, its words moved down to place k -/
def shv (s : St) (k : Nat) : List Value :=
  let a : Value := .int .u32 s.a.toNat
  let b : Value := .int .u32 s.b.toNat
  let c : Value := .int .u32 s.c.toNat
  let d : Value := .int .u32 s.d.toNat
  let e : Value := .int .u32 s.e.toNat
  let f : Value := .int .u32 s.f.toNat
  let g : Value := .int .u32 s.g.toNat
  let h : Value := .int .u32 s.h.toNat
  match k with
  | 0 => [a, a, b, c, d, e, f, g]
  | 1 => [a, b, b, c, d, e, f, g]
  | 2 => [a, b, c, c, d, e, f, g]
  | 3 => [a, b, c, d, d, e, f, g]
  | 4 => [a, b, c, d, e, e, f, g]
  | 5 => [a, b, c, d, e, f, f, g]
  | 6 => [a, b, c, d, e, f, g, g]
  | _ => [a, b, c, d, e, f, g, h]
def rblkS (s v : St) (m : List UInt32) (i k : Nat) : List Blk := [(s.vals, 175), (List.replicate 8 (.int .u32 0), 175), (wsAt m i, 194), (factors.map u32v, 194), (factors.map u32v, 194), (shv v k, 175)]
/-- the state that came in, the first j words summed -/
def adv (s v : St) (j : Nat) : List Value :=
  match j with
  | 0 => [.int .u32 s.a.toNat, .int .u32 s.b.toNat, .int .u32 s.c.toNat, .int .u32 s.d.toNat, .int .u32 s.e.toNat, .int .u32 s.f.toNat, .int .u32 s.g.toNat, .int .u32 s.h.toNat]
  | 1 => [.int .u32 (s.a + v.a).toNat, .int .u32 s.b.toNat, .int .u32 s.c.toNat, .int .u32 s.d.toNat, .int .u32 s.e.toNat, .int .u32 s.f.toNat, .int .u32 s.g.toNat, .int .u32 s.h.toNat]
  | 2 => [.int .u32 (s.a + v.a).toNat, .int .u32 (s.b + v.b).toNat, .int .u32 s.c.toNat, .int .u32 s.d.toNat, .int .u32 s.e.toNat, .int .u32 s.f.toNat, .int .u32 s.g.toNat, .int .u32 s.h.toNat]
  | 3 => [.int .u32 (s.a + v.a).toNat, .int .u32 (s.b + v.b).toNat, .int .u32 (s.c + v.c).toNat, .int .u32 s.d.toNat, .int .u32 s.e.toNat, .int .u32 s.f.toNat, .int .u32 s.g.toNat, .int .u32 s.h.toNat]
  | 4 => [.int .u32 (s.a + v.a).toNat, .int .u32 (s.b + v.b).toNat, .int .u32 (s.c + v.c).toNat, .int .u32 (s.d + v.d).toNat, .int .u32 s.e.toNat, .int .u32 s.f.toNat, .int .u32 s.g.toNat, .int .u32 s.h.toNat]
  | 5 => [.int .u32 (s.a + v.a).toNat, .int .u32 (s.b + v.b).toNat, .int .u32 (s.c + v.c).toNat, .int .u32 (s.d + v.d).toNat, .int .u32 (s.e + v.e).toNat, .int .u32 s.f.toNat, .int .u32 s.g.toNat, .int .u32 s.h.toNat]
  | 6 => [.int .u32 (s.a + v.a).toNat, .int .u32 (s.b + v.b).toNat, .int .u32 (s.c + v.c).toNat, .int .u32 (s.d + v.d).toNat, .int .u32 (s.e + v.e).toNat, .int .u32 (s.f + v.f).toNat, .int .u32 s.g.toNat, .int .u32 s.h.toNat]
  | 7 => [.int .u32 (s.a + v.a).toNat, .int .u32 (s.b + v.b).toNat, .int .u32 (s.c + v.c).toNat, .int .u32 (s.d + v.d).toNat, .int .u32 (s.e + v.e).toNat, .int .u32 (s.f + v.f).toNat, .int .u32 (s.g + v.g).toNat, .int .u32 s.h.toNat]
  | _ => [.int .u32 (s.a + v.a).toNat, .int .u32 (s.b + v.b).toNat, .int .u32 (s.c + v.c).toNat, .int .u32 (s.d + v.d).toNat, .int .u32 (s.e + v.e).toNat, .int .u32 (s.f + v.f).toNat, .int .u32 (s.g + v.g).toNat, .int .u32 (s.h + v.h).toNat]
def rblkA (s v : St) (m : List UInt32) (j : Nat) : List Blk := [(adv s v j, 175), (List.replicate 8 (.int .u32 0), 175), (wsAt m 64, 194), (factors.map u32v, 194), (factors.map u32v, 194), (v.vals, 175)]
end Go.Proofs.YtokoohdpakhphaaGreatDoor.Sha
namespace Go.Proofs.YtokoohdpakhphaaGreatDoor.Sha
open Go VC Go.RowKit
set_option linter.unusedSimpArgs false
set_option maxRecDepth 20000
set_option maxHeartbeats 4000000
theorem flatMap_get {β γ : Type} {f : β → List γ} {k : Nat} (hf : ∀ x, (f x).length = k) : ∀ (l : List β) (i j : Nat) (x : β), l[i]? = some x → j < k → (l.flatMap f)[i * k + j]? = (f x)[j]?
  | [], i, j, x, h, _ => by simp at h
  | y :: l, 0, j, x, h, hj => by
    simp at h; subst h
    rw [List.flatMap_cons, Nat.zero_mul, Nat.zero_add, List.getElem?_append_left (by rw [hf]; exact hj)]
  | y :: l, i + 1, j, x, h, hj => by
    have ih := flatMap_get hf l i j x (by simpa using h) hj
    rw [List.flatMap_cons, List.getElem?_append_right (by rw [hf, Nat.succ_mul]; omega), hf, show (i + 1) * k + j - k = i * k + j by rw [Nat.succ_mul]; omega]
    exact ih
theorem out_len (s : St) : (out s).length = 32 := by simp [out, St.list]
theorem sum_len (xs : List UInt8) : (sum xs).length = 32 := out_len _
theorem out_get (s : St) (j : Nat) (h : j < 32) : ∃ x : UInt32, s.list[j / 4]? = some x ∧ (out s)[j]? = some (UInt8.ofNat (x.toNat / 2 ^ (24 - 8 * (j % 4)))) := by
  have hl : s.list.length = 8 := rfl
  have hi : j / 4 < s.list.length := by omega
  refine ⟨s.list[j / 4], List.getElem?_eq_getElem hi, ?_⟩
  have := flatMap_get (f := fun w : UInt32 => [UInt8.ofNat (w.toNat / 2 ^ 24), UInt8.ofNat (w.toNat / 2 ^ 16), UInt8.ofNat (w.toNat / 2 ^ 8), UInt8.ofNat w.toNat]) (fun _ => rfl) s.list (j / 4) (j % 4) _ (List.getElem?_eq_getElem hi) (Nat.mod_lt _ (by omega))
  rw [show j / 4 * 4 + j % 4 = j by omega] at this
  unfold out
  rw [this]
  obtain h | h | h | h : j % 4 = 0 ∨ j % 4 = 1 ∨ j % 4 = 2 ∨ j % 4 = 3 := by omega
  all_goals rw [h]; simp
theorem fill_set {α : Type} {l : List α} {z v : α} {j n : Nat} (hn : l.length = n) (hj : l[j]? = some v) : (l.take j ++ List.replicate (n - j) z).set j v = l.take (j + 1) ++ List.replicate (n - (j + 1)) z := by
  obtain ⟨hlt, rfl⟩ := List.getElem?_eq_some_iff.1 hj
  have e : n - j = (n - (j + 1)) + 1 := by omega
  rw [e, List.replicate_succ, List.set_append_right _ _ (by simp; omega), List.take_succ_eq_append_getElem hlt]
  rw [List.length_take, Nat.min_eq_left (Nat.le_of_lt hlt), Nat.sub_self, List.set_cons_zero, List.append_assoc]
  rfl
theorem pad_mod (n : Nat) : (n + (pad n).length) % 64 = 0 := by
  have h : (pad n).length = 1 + (119 - n % 64) % 64 + 8 := by simp [pad, be64]; omega
  have h2 := (pad_step n ((119 - n % 64) % 64) (Nat.le_refl _)).2 rfl
  omega
theorem fold_step (s : St) (l : List UInt8) (i : Nat) (h : 64 * i + 64 ≤ l.length) : fold s (l.take (64 * (i + 1))) = block (fold s (l.take (64 * i))) ((l.drop (64 * i)).take 64) := by
  have h1 : l.take (64 * (i + 1)) = l.take (64 * i) ++ (l.drop (64 * i)).take 64 := by
    rw [show 64 * (i + 1) = 64 * i + 64 by omega, List.take_add]
  have h2 : ((l.drop (64 * i)).take 64).length = 64 := by simp only [List.length_take, List.length_drop]; omega
  generalize (l.drop (64 * i)).take 64 = ys at *
  have e1 : ys.take 64 = ys := List.take_of_length_le (by omega)
  have e2 : ys.drop 64 = [] := List.drop_eq_nil_of_le (by omega)
  rw [h1, fold_append i _ _ _ (by simp only [List.length_take]; omega), fold_big (by omega), e1, e2, fold_small (by simp)]
theorem stl_len (s : St) : (s.list.map u32v).length = 8 := rfl
theorem stl_take (s : St) : (s.list.map u32v).take 8 = s.list.map u32v := rfl
theorem out_lt (s : St) {j : Nat} {x : UInt32} (h : s.list[j]? = some x) : (s.list.map u32v)[j]? = some (.int .u32 x.toNat) := by simp [h, u32v]
end Go.Proofs.YtokoohdpakhphaaGreatDoor.Sha
namespace Go.Proofs.YtokoohdpakhphaaGreatDoor.Sha
open Go VC Go.RowKit
set_option linter.unusedSimpArgs false
set_option maxRecDepth 20000
set_option maxHeartbeats 4000000
theorem shl_lit (k : IntKind) (hk : k.signed = false) (a b : Nat) (h : b ≤ k.bits) : Shl k (a : Int) (no_index (@OfNat.ofNat Int b instOfNat)) = ((a * 2 ^ (@OfNat.ofNat Nat b (instOfNatNat b)) % 2 ^ k.bits : Nat) : Int) := Shl_u k hk a b h
theorem word_or (l : List UInt8) (p : Nat) (b0 b1 b2 b3 : UInt8) (h0 : l.getD p 0 = b0) (h1 : l.getD (p + 1) 0 = b1) (h2 : l.getD (p + 2) 0 = b2) (h3 : l.getD (p + 3) 0 = b3) :
    Bor .u32 (Bor .u32 (Bor .u32 (Shl .u32 (b0.toNat : Int) 24) (Shl .u32 (b1.toNat : Int) 16)) (Shl .u32 (b2.toNat : Int) 8)) (b3.toNat : Int) = ((word l p).toNat : Int) := by
  have l0 := b0.toNat_lt
  have l1 := b1.toNat_lt
  have l2 := b2.toNat_lt
  have l3 := b3.toNat_lt
  have o : ∀ x y n : Nat, y < 2 ^ n → x * 2 ^ n ||| y = x * 2 ^ n + y := fun x y n h => by
    rw [← Nat.shiftLeft_eq, Nat.shiftLeft_add_eq_or_of_lt h]
  rw [shl_lit .u32 rfl _ 24 (by decide), shl_lit .u32 rfl _ 16 (by decide), shl_lit .u32 rfl _ 8 (by decide)]
  simp only [bits32]
  rw [Nat.mod_eq_of_lt (show b0.toNat * 2 ^ 24 < 2 ^ 32 by omega), Nat.mod_eq_of_lt (show b1.toNat * 2 ^ 16 < 2 ^ 32 by omega), Nat.mod_eq_of_lt (show b2.toNat * 2 ^ 8 < 2 ^ 32 by omega)]
  rw [Bor_u .u32 rfl _ _ (by rw [bits32]; omega) (by rw [bits32]; omega), o _ _ 24 (by omega)]
  rw [Bor_u .u32 rfl _ _ (by rw [bits32]; omega) (by rw [bits32]; omega)]
  rw [show b0.toNat * 2 ^ 24 + b1.toNat * 2 ^ 16 = (b0.toNat * 2 ^ 8 + b1.toNat) * 2 ^ 16 by omega, o _ _ 16 (by omega)]
  rw [Bor_u .u32 rfl _ _ (by rw [bits32]; omega) (by rw [bits32]; omega)]
  rw [show (b0.toNat * 2 ^ 8 + b1.toNat) * 2 ^ 16 + b2.toNat * 2 ^ 8 = ((b0.toNat * 2 ^ 8 + b1.toNat) * 2 ^ 8 + b2.toNat) * 2 ^ 8 by omega, o _ _ 8 (by omega)]
  unfold word
  rw [h0, h1, h2, h3, UInt32.toNat_ofNat', Nat.mod_eq_of_lt (by omega)]
  congr 1
  omega
theorem mix_calls (S : Cx) (w0 : World) (hb : Nat) (s : St) (rest : List Value) (a : Option Addr) (c : Nat) (xs : List UInt8)
    (hs0 : Sat S [.bk hb (s.list.map u32v ++ rest) 178] w0) (hG : Ro (.at w0) (some ⟨0, 0, none⟩) (factors.map u32v)) (hx : Ro (.at w0) a (xs.map u8v)) (hl : xs.length = 64) :
    Calls Tryz.prog 99 #[.pointer (some ⟨hb, 0, none⟩), .slice a 64 c] w0 fun e w' => ∃ H, e = .returned (.tuple #[]) ∧ Sat S (.bk hb ((block s xs).list.map u32v ++ rest) 178 :: H) w' := by
  refine calls_vc Tryz.func99 rfl (by kernel_rfl) (by kernel_rfl) ?_; intro R hR
  have hs := Sat.start w0
  (repeat (first | (simp (disch := first | omega | assumption | exact Option.isSome_some | (simp only [adO_isSome]; assumption)) only [↓vcp, vcs, vct, if_true, if_false, Nat.reduceBEq, ↓reduceIte, Nat.reduceEqDiff, Nat.reduceAdd, Nat.reduceMul, Nat.reduceSub, Int.reduceToNat, reduceCtorEq, Nat.reduceLT, Nat.reduceLeDiff, Int.reduceSub, Int.reduceAdd, Int.reduceNeg, Sat.look hs, Sat.lookA hs]) | (refine khK he hs ?_; clear he; intro he) | ((first | refine stK hs ?_ | refine stFK hs ?_ | refine stAK hs ?_ | refine msK hs ?_); clear hs; (try clear w); rintro w hs; try simp only [cls] at hs) | ((first | refine al_ok hs ?_ | refine bx_ok hs ?_ | refine bsvK hs ?_ | refine bs1_ok hs ?_ | refine bs0_ok hs ?_); clear hs; (try clear w); rintro _ w hs; try simp only [cls] at hs)))
  rename_i wb
  generalize hm : words xs = m at *
  have ha : a.isSome = true := hx.isSome (by simp; omega)
  have hc8 : ∀ w H, Sat (.at w0) H w → cellsO w (some ⟨hb, 0, none⟩) 8 = some (s.list.map u32v) := fun w H hs => by
    have h1 : Ro (.at w0) (some ⟨hb, 0, none⟩) (s.list.map u32v ++ rest) := Rd.ro (hs0.rdBk 0 rfl)
    have h2 := h1.take 8
    exact Ro.cells (xs := s.list.map u32v) h2 hs (by simp [St.list])
  have hc64 : ∀ w H, Sat (.at w0) H w → cellsO w (some ⟨0, 0, none⟩) 64 = some (factors.map u32v) := fun w H hs => Ro.cells hG hs (by simp [factors])
  have hw0 : wsAt m 0 = List.replicate 64 (.int .u32 0) := rfl
  refine loop_rule (σ := Nat) [17] (fun i => [.int .i64 i]) [0, 1, 4] (fun i w' => i ≤ 16 ∧ Sat (.at w0) [.bk wb (wsAt m i) 194] w') (fun i _ => 16 - i) 0 (by kernel_rfl) rfl ⟨by omega, hs⟩ ?_
  clear hs
  rintro b i w ⟨hi, hs⟩
  simp (disch := first | omega | assumption | exact Option.isSome_some | (simp only [adO_isSome]; assumption)) only [↓vcp, vcs, vct, if_true, if_false, Nat.reduceBEq, ↓reduceIte, Nat.reduceEqDiff, Nat.reduceAdd, Nat.reduceMul, Nat.reduceSub, Int.reduceToNat, reduceCtorEq, Nat.reduceLT, Nat.reduceLeDiff, Int.reduceSub, Int.reduceAdd, Int.reduceNeg, Sat.look hs, Sat.lookA hs]
  by_cases hlt : i < 16
  case pos =>
    have hby : ∀ j, j < 4 → oldO (.at w0) (adO a (4 * i + j)) = some (.int .u8 (xs.getD (4 * i + j) 0).toNat) := fun j hj => hx _ _ (by
      rw [List.getElem?_map, List.getElem?_eq_getElem (by omega), List.getD_eq_getElem?_getD, List.getElem?_eq_getElem (by omega)]; rfl)
    have f0 := hby 0 (by omega)
    rw [Nat.add_zero] at f0
    have e0 : (4 * (i : Int)).toNat = 4 * i := by omega
    have e1 : (4 * (i : Int) + 1).toNat = 4 * i + 1 := by omega
    have e2 : (4 * (i : Int) + 2).toNat = 4 * i + 2 := by omega
    have e3 : (4 * (i : Int) + 3).toNat = 4 * i + 3 := by omega
    have hwl := wsAt_len m i
    have hwo := word_or xs (4 * i) _ _ _ _ rfl rfl rfl rfl
    have hset := wsAt_set m (i := i) (by omega)
    have hsc : sched m i = word xs (4 * i) := by rw [sched_small hlt, ← hm, words_get _ hlt]
    have b0 := (xs.getD (4 * i) 0).toNat_lt
    have b1 := (xs.getD (4 * i + 1) 0).toNat_lt
    have b2 := (xs.getD (4 * i + 2) 0).toNat_lt
    have b3 := (xs.getD (4 * i + 3) 0).toNat_lt
    (repeat (first | (simp (disch := first | omega | assumption | exact Option.isSome_some | (simp only [adO_isSome]; assumption)) only [↓vcp, vcs, vct, if_true, if_false, Nat.reduceBEq, ↓reduceIte, Nat.reduceEqDiff, Nat.reduceAdd, Nat.reduceMul, Nat.reduceSub, Int.reduceToNat, reduceCtorEq, Nat.reduceLT, Nat.reduceLeDiff, Int.reduceSub, Int.reduceAdd, Int.reduceNeg, Sat.look hs, Sat.lookA hs]) | (refine khK he hs ?_; clear he; intro he) | ((first | refine stK hs ?_ | refine stFK hs ?_ | refine stAK hs ?_ | refine msK hs ?_); clear hs; (try clear w); rintro w hs; try simp only [cls] at hs) | ((first | refine al_ok hs ?_ | refine bx_ok hs ?_ | refine bsvK hs ?_ | refine bs1_ok hs ?_ | refine bs0_ok hs ?_); clear hs; (try clear w); rintro _ w hs; try simp only [cls] at hs)))
    refine draw_still 35 (by kernel_rfl) (by kernel_rfl) (by kernel_rfl) ?_
    replace hs := Sat.drew hs; revert hs; generalize World.drew _ = w; intro hs
    (repeat (first | (simp (disch := first | omega | assumption | exact Option.isSome_some | (simp only [adO_isSome]; assumption)) only [↓vcp, vcs, vct, if_true, if_false, Nat.reduceBEq, ↓reduceIte, Nat.reduceEqDiff, Nat.reduceAdd, Nat.reduceMul, Nat.reduceSub, Int.reduceToNat, reduceCtorEq, Nat.reduceLT, Nat.reduceLeDiff, Int.reduceSub, Int.reduceAdd, Int.reduceNeg, Sat.look hs, Sat.lookA hs, e0, e1, e2, e3, hs.old f0, hs.old (hby 1 (by omega)), hs.old (hby 2 (by omega)), hs.old (hby 3 (by omega)), hwo]) | (refine khK he hs ?_; clear he; intro he) | ((first | refine stK hs ?_ | refine stFK hs ?_ | refine stAK hs ?_ | refine msK hs ?_); clear hs; (try clear w); rintro w hs; try simp only [cls] at hs) | ((first | refine al_ok hs ?_ | refine bx_ok hs ?_ | refine bsvK hs ?_ | refine bs1_ok hs ?_ | refine bs0_ok hs ?_); clear hs; (try clear w); rintro _ w hs; try simp only [cls] at hs)))
    rw [← hsc, hset] at hs
    exact ⟨i + 1, by rfl, by rfl, ⟨by omega, hs⟩, by dsimp only; omega⟩
  case neg =>
    obtain rfl : i = 16 := by omega
    (repeat (first | (simp (disch := first | omega | assumption | exact Option.isSome_some | (simp only [adO_isSome]; assumption)) only [↓vcp, vcs, vct, if_true, if_false, Nat.reduceBEq, ↓reduceIte, Nat.reduceEqDiff, Nat.reduceAdd, Nat.reduceMul, Nat.reduceSub, Int.reduceToNat, reduceCtorEq, Nat.reduceLT, Nat.reduceLeDiff, Int.reduceSub, Int.reduceAdd, Int.reduceNeg, Sat.look hs, Sat.lookA hs]) | (refine khK he hs ?_; clear he; intro he) | ((first | refine stK hs ?_ | refine stFK hs ?_ | refine stAK hs ?_ | refine msK hs ?_); clear hs; (try clear w); rintro w hs; try simp only [cls] at hs) | ((first | refine al_ok hs ?_ | refine bx_ok hs ?_ | refine bsvK hs ?_ | refine bs1_ok hs ?_ | refine bs0_ok hs ?_); clear hs; (try clear w); rintro _ w hs; try simp only [cls] at hs)))
    refine loop_rule (σ := Nat) [6] (fun i => [.int .i64 i]) [0, 4] (fun i w' => 16 ≤ i ∧ i ≤ 64 ∧ Sat (.at w0) [.bk wb (wsAt m i) 194] w') (fun i _ => 64 - i) 16 (by kernel_rfl) rfl ⟨by omega, by omega, hs⟩ ?_
    clear hs
    rintro b i w ⟨hi1, hi, hs⟩
    simp (disch := first | omega | assumption | exact Option.isSome_some | (simp only [adO_isSome]; assumption)) only [↓vcp, vcs, vct, if_true, if_false, Nat.reduceBEq, ↓reduceIte, Nat.reduceEqDiff, Nat.reduceAdd, Nat.reduceMul, Nat.reduceSub, Int.reduceToNat, reduceCtorEq, Nat.reduceLT, Nat.reduceLeDiff, Int.reduceSub, Int.reduceAdd, Int.reduceNeg, Sat.look hs, Sat.lookA hs]
    by_cases hlt : i < 64
    case pos =>
      have hcast : ∀ d : Nat, d ≤ 16 → ((i : Int) - (d : Int)).toNat = i - d := fun d hd => by omega
      have hw : ∀ d : Nat, 0 < d → d ≤ 16 → (wsAt m i)[i - d]? = some (.int .u32 (sched m (i - d)).toNat) := fun d h0 hd => wsAt_get m (by omega) (by omega)
      have c15 := hcast 15 (by omega)
      have c2 := hcast 2 (by omega)
      have c7 := hcast 7 (by omega)
      have c16 := hcast 16 (by omega)
      simp only [Int.cast_ofNat_Int] at c15 c2 c7 c16
      have w15 := hw 15 (by omega) (by omega)
      have w2 := hw 2 (by omega) (by omega)
      have w7 := hw 7 (by omega) (by omega)
      have w16 := hw 16 (by omega) (by omega)
      have hwl := wsAt_len m i
      have hset := wsAt_set m hlt
      have hsum : sched m (i - 16) + (rotr (sched m (i - 15)) 7 ^^^ rotr (sched m (i - 15)) 18 ^^^ sched m (i - 15) >>> 3) + sched m (i - 7) + (rotr (sched m (i - 2)) 17 ^^^ rotr (sched m (i - 2)) 19 ^^^ sched m (i - 2) >>> 10) = sched m i := by
        rw [sched_big (t := i) (by omega)]
        rfl
      (repeat (first | (simp (disch := first | omega | assumption | exact Option.isSome_some | (simp only [adO_isSome]; assumption)) only [↓vcp, vcs, vct, if_true, if_false, Nat.reduceBEq, ↓reduceIte, Nat.reduceEqDiff, Nat.reduceAdd, Nat.reduceMul, Nat.reduceSub, Int.reduceToNat, reduceCtorEq, Nat.reduceLT, Nat.reduceLeDiff, Int.reduceSub, Int.reduceAdd, Int.reduceNeg, Sat.look hs, Sat.lookA hs]) | (refine khK he hs ?_; clear he; intro he) | ((first | refine stK hs ?_ | refine stFK hs ?_ | refine stAK hs ?_ | refine msK hs ?_); clear hs; (try clear w); rintro w hs; try simp only [cls] at hs) | ((first | refine al_ok hs ?_ | refine bx_ok hs ?_ | refine bsvK hs ?_ | refine bs1_ok hs ?_ | refine bs0_ok hs ?_); clear hs; (try clear w); rintro _ w hs; try simp only [cls] at hs)))
      refine draw_still 9 (by kernel_rfl) (by kernel_rfl) (by kernel_rfl) ?_
      replace hs := Sat.drew hs; revert hs; generalize World.drew _ = w; intro hs
      (repeat (first | (simp (disch := first | omega | assumption | exact Option.isSome_some | (simp only [adO_isSome]; assumption)) only [↓vcp, vcs, vct, if_true, if_false, Nat.reduceBEq, ↓reduceIte, Nat.reduceEqDiff, Nat.reduceAdd, Nat.reduceMul, Nat.reduceSub, Int.reduceToNat, reduceCtorEq, Nat.reduceLT, Nat.reduceLeDiff, Int.reduceSub, Int.reduceAdd, Int.reduceNeg, Sat.look hs, Sat.lookA hs, c15, c2, w15, w2]) | (refine khK he hs ?_; clear he; intro he) | ((first | refine stK hs ?_ | refine stFK hs ?_ | refine stAK hs ?_ | refine msK hs ?_); clear hs; (try clear w); rintro w hs; try simp only [cls] at hs) | ((first | refine al_ok hs ?_ | refine bx_ok hs ?_ | refine bsvK hs ?_ | refine bs1_ok hs ?_ | refine bs0_ok hs ?_); clear hs; (try clear w); rintro _ w hs; try simp only [cls] at hs)))
      refine draw_still 29 (by kernel_rfl) (by kernel_rfl) (by kernel_rfl) ?_
      replace hs := Sat.drew hs; revert hs; generalize World.drew _ = w; intro hs
      (repeat (first | (simp (disch := first | omega | assumption | exact Option.isSome_some | (simp only [adO_isSome]; assumption)) only [↓vcp, vcs, vct, if_true, if_false, Nat.reduceBEq, ↓reduceIte, Nat.reduceEqDiff, Nat.reduceAdd, Nat.reduceMul, Nat.reduceSub, Int.reduceToNat, reduceCtorEq, Nat.reduceLT, Nat.reduceLeDiff, Int.reduceSub, Int.reduceAdd, Int.reduceNeg, Sat.look hs, Sat.lookA hs, c7, c16, w7, w16, shr10, shr3, w32_xor, w32_add, hsum]) | (refine khK he hs ?_; clear he; intro he) | ((first | refine stK hs ?_ | refine stFK hs ?_ | refine stAK hs ?_ | refine msK hs ?_); clear hs; (try clear w); rintro w hs; try simp only [cls] at hs) | ((first | refine al_ok hs ?_ | refine bx_ok hs ?_ | refine bsvK hs ?_ | refine bs1_ok hs ?_ | refine bs0_ok hs ?_); clear hs; (try clear w); rintro _ w hs; try simp only [cls] at hs) | (refine call_ok (by kernel_rfl) (turnI _ _ _ (by omega) (by omega)) ?_; rintro _ _ ⟨rfl, rfl⟩; rw [callK_ret]) | (refine call_still (by kernel_rfl) (turnI _ _ _ (by omega) (by omega)) ?_)))
      rw [hset] at hs
      exact ⟨i + 1, by rfl, by rfl, ⟨by omega, by omega, hs⟩, by dsimp only; omega⟩
    case neg =>
      obtain rfl : i = 64 := by omega
      (repeat (first | (simp (disch := first | omega | assumption | exact Option.isSome_some | (simp only [adO_isSome]; assumption)) only [↓vcp, vcs, vct, if_true, if_false, Nat.reduceBEq, ↓reduceIte, Nat.reduceEqDiff, Nat.reduceAdd, Nat.reduceMul, Nat.reduceSub, Int.reduceToNat, reduceCtorEq, Nat.reduceLT, Nat.reduceLeDiff, Int.reduceSub, Int.reduceAdd, Int.reduceNeg, Sat.look hs, Sat.lookA hs, hc8 _ _ hs, hc64 _ _ hs]) | (refine khK he hs ?_; clear he; intro he) | ((first | refine stK hs ?_ | refine stFK hs ?_ | refine stAK hs ?_ | refine msK hs ?_); clear hs; (try clear w); rintro w hs; try simp only [cls] at hs) | ((first | refine al_ok hs ?_ | refine bx_ok hs ?_ | refine bsvK hs ?_ | refine bs1_ok hs ?_ | refine bs0_ok hs ?_); clear hs; (try clear w); rintro _ w hs; try simp only [cls] at hs)))
      rename_i sb
      refine loop_rule (σ := Nat) [102] (fun i => [.int .i64 i]) [0, 4, 9, 101] (fun i w' => i ≤ 64 ∧ Sat (.at w0) [.bk wb (wsAt m 64) 194, .bk sb (comp m s i).vals 175] w') (fun i _ => 64 - i) 0 (by kernel_rfl) rfl ⟨by omega, hs⟩ ?_
      clear hs
      rintro b i w ⟨hi, hs⟩
      simp (disch := first | omega | assumption | exact Option.isSome_some | (simp only [adO_isSome]; assumption)) only [↓vcp, vcs, vct, if_true, if_false, Nat.reduceBEq, ↓reduceIte, Nat.reduceEqDiff, Nat.reduceAdd, Nat.reduceMul, Nat.reduceSub, Int.reduceToNat, reduceCtorEq, Nat.reduceLT, Nat.reduceLeDiff, Int.reduceSub, Int.reduceAdd, Int.reduceNeg, Sat.look hs, Sat.lookA hs]
      by_cases hlt : i < 64
      case pos =>
        have hf : (factors.map u32v).toArray[i]? = some (.int .u32 (factors.getD i 0).toNat) := by
          have h64 : factors.length = 64 := rfl
          rw [List.getElem?_toArray, List.getElem?_map, List.getElem?_eq_getElem (by omega), List.getD_eq_getElem?_getD, List.getElem?_eq_getElem (by omega)]
          rfl
        rw [List.getElem?_toArray] at hf
        have hwi := wsAt_get m (i := 64) (j := i) (by omega) hlt
        have hst : (step (comp m s i) (factors.getD i 0) (sched m i)).vals = (comp m s (i + 1)).vals := rfl
        generalize hcs : comp m s i = v at *
        obtain ⟨va, vb, vc', vd, ve, vf, vg, vh⟩ := v
        simp only [St.vals] at hs
        (repeat (first | (simp (disch := first | omega | assumption | exact Option.isSome_some | (simp only [adO_isSome]; assumption)) only [↓vcp, vcs, vct, if_true, if_false, Nat.reduceBEq, ↓reduceIte, Nat.reduceEqDiff, Nat.reduceAdd, Nat.reduceMul, Nat.reduceSub, Int.reduceToNat, reduceCtorEq, Nat.reduceLT, Nat.reduceLeDiff, Int.reduceSub, Int.reduceAdd, Int.reduceNeg, Sat.look hs, Sat.lookA hs, hf]) | (refine khK he hs ?_; clear he; intro he) | ((first | refine stK hs ?_ | refine stFK hs ?_ | refine stAK hs ?_ | refine msK hs ?_); clear hs; (try clear w); rintro w hs; try simp only [cls] at hs) | ((first | refine al_ok hs ?_ | refine bx_ok hs ?_ | refine bsvK hs ?_ | refine bs1_ok hs ?_ | refine bs0_ok hs ?_); clear hs; (try clear w); rintro _ w hs; try simp only [cls] at hs)))
        refine draw_still 5 (by kernel_rfl) (by kernel_rfl) (by kernel_rfl) ?_
        replace hs := Sat.drew hs; revert hs; generalize World.drew _ = w; intro hs
        (repeat (first | (simp (disch := first | omega | assumption | exact Option.isSome_some | (simp only [adO_isSome]; assumption)) only [↓vcp, vcs, vct, if_true, if_false, Nat.reduceBEq, ↓reduceIte, Nat.reduceEqDiff, Nat.reduceAdd, Nat.reduceMul, Nat.reduceSub, Int.reduceToNat, reduceCtorEq, Nat.reduceLT, Nat.reduceLeDiff, Int.reduceSub, Int.reduceAdd, Int.reduceNeg, Sat.look hs, Sat.lookA hs]) | (refine khK he hs ?_; clear he; intro he) | ((first | refine stK hs ?_ | refine stFK hs ?_ | refine stAK hs ?_ | refine msK hs ?_); clear hs; (try clear w); rintro w hs; try simp only [cls] at hs) | ((first | refine al_ok hs ?_ | refine bx_ok hs ?_ | refine bsvK hs ?_ | refine bs1_ok hs ?_ | refine bs0_ok hs ?_); clear hs; (try clear w); rintro _ w hs; try simp only [cls] at hs)))
        refine draw_still 28 (by kernel_rfl) (by kernel_rfl) (by kernel_rfl) ?_
        replace hs := Sat.drew hs; revert hs; generalize World.drew _ = w; intro hs
        (repeat (first | (simp (disch := first | omega | assumption | exact Option.isSome_some | (simp only [adO_isSome]; assumption)) only [↓vcp, vcs, vct, if_true, if_false, Nat.reduceBEq, ↓reduceIte, Nat.reduceEqDiff, Nat.reduceAdd, Nat.reduceMul, Nat.reduceSub, Int.reduceToNat, reduceCtorEq, Nat.reduceLT, Nat.reduceLeDiff, Int.reduceSub, Int.reduceAdd, Int.reduceNeg, Sat.look hs, Sat.lookA hs, hwi, w32_xor, w32_add, w32_and, w32_not]) | (refine khK he hs ?_; clear he; intro he) | ((first | refine stK hs ?_ | refine stFK hs ?_ | refine stAK hs ?_ | refine msK hs ?_); clear hs; (try clear w); rintro w hs; try simp only [cls] at hs) | ((first | refine al_ok hs ?_ | refine bx_ok hs ?_ | refine bsvK hs ?_ | refine bs1_ok hs ?_ | refine bs0_ok hs ?_); clear hs; (try clear w); rintro _ w hs; try simp only [cls] at hs) | (refine call_ok (by kernel_rfl) (turnI _ _ _ (by omega) (by omega)) ?_; rintro _ _ ⟨rfl, rfl⟩; rw [callK_ret]) | (refine call_still (by kernel_rfl) (turnI _ _ _ (by omega) (by omega)) ?_)))
        refine draw_still 24 (by kernel_rfl) (by kernel_rfl) (by kernel_rfl) ?_
        replace hs := Sat.drew hs; revert hs; generalize World.drew _ = w; intro hs
        (repeat (first | (simp (disch := first | omega | assumption | exact Option.isSome_some | (simp only [adO_isSome]; assumption)) only [↓vcp, vcs, vct, if_true, if_false, Nat.reduceBEq, ↓reduceIte, Nat.reduceEqDiff, Nat.reduceAdd, Nat.reduceMul, Nat.reduceSub, Int.reduceToNat, reduceCtorEq, Nat.reduceLT, Nat.reduceLeDiff, Int.reduceSub, Int.reduceAdd, Int.reduceNeg, Sat.look hs, Sat.lookA hs, w32_xor, w32_add, w32_and, w32_not]) | (refine khK he hs ?_; clear he; intro he) | ((first | refine stK hs ?_ | refine stFK hs ?_ | refine stAK hs ?_ | refine msK hs ?_); clear hs; (try clear w); rintro w hs; try simp only [cls] at hs) | ((first | refine al_ok hs ?_ | refine bx_ok hs ?_ | refine bsvK hs ?_ | refine bs1_ok hs ?_ | refine bs0_ok hs ?_); clear hs; (try clear w); rintro _ w hs; try simp only [cls] at hs) | (refine call_ok (by kernel_rfl) (turnI _ _ _ (by omega) (by omega)) ?_; rintro _ _ ⟨rfl, rfl⟩; rw [callK_ret]) | (refine call_still (by kernel_rfl) (turnI _ _ _ (by omega) (by omega)) ?_)))
        exact ⟨i + 1, by rfl, by rfl, ⟨by omega, by rw [← hst]; exact hs⟩, by dsimp only; omega⟩
      case neg =>
        obtain rfl : i = 64 := by omega
        (repeat (first | (simp (disch := first | omega | assumption | exact Option.isSome_some | (simp only [adO_isSome]; assumption)) only [↓vcp, vcs, vct, if_true, if_false, Nat.reduceBEq, ↓reduceIte, Nat.reduceEqDiff, Nat.reduceAdd, Nat.reduceMul, Nat.reduceSub, Int.reduceToNat, reduceCtorEq, Nat.reduceLT, Nat.reduceLeDiff, Int.reduceSub, Int.reduceAdd, Int.reduceNeg, Sat.look hs, Sat.lookA hs]) | (refine khK he hs ?_; clear he; intro he) | ((first | refine stK hs ?_ | refine stFK hs ?_ | refine stAK hs ?_ | refine msK hs ?_); clear hs; (try clear w); rintro w hs; try simp only [cls] at hs) | ((first | refine al_ok hs ?_ | refine bx_ok hs ?_ | refine bsvK hs ?_ | refine bs1_ok hs ?_ | refine bs0_ok hs ?_); clear hs; (try clear w); rintro _ w hs; try simp only [cls] at hs)))
        replace hs := hs0.add hs
        try simp only [cls] at hs
        refine loop_rule (σ := Nat) [181] (fun j => [.int .i64 j]) [0, 9] (fun j w' => j ≤ 8 ∧ Sat S [.bk hb (adv s (comp m s 64) j ++ rest) 178, .bk wb (wsAt m 64) 194, .bk sb (comp m s 64).vals 175] w') (fun j _ => 8 - j) 0 (by kernel_rfl) rfl ⟨by omega, hs⟩ ?_
        clear hs
        have hfin : adv s (comp m s 64) 8 = (block s xs).list.map u32v := by rw [← hm]; rfl
        generalize comp m s 64 = v at *
        obtain ⟨va, vb, vc', vd, ve, vf, vg, vh⟩ := v
        obtain ⟨sa, sb', sc, sd, se, sf, sg, sh⟩ := s
        rintro b j w ⟨hj, hs⟩
        simp only [St.vals] at hs
        obtain rfl | rfl | rfl | rfl | rfl | rfl | rfl | rfl | rfl : j = 0 ∨ j = 1 ∨ j = 2 ∨ j = 3 ∨ j = 4 ∨ j = 5 ∨ j = 6 ∨ j = 7 ∨ j = 8 := by omega
        rotate_right
        · rw [hfin] at hs
          simp (disch := first | omega | assumption | exact Option.isSome_some | (simp only [adO_isSome]; assumption)) only [↓vcp, vcs, vct, if_true, if_false, Nat.reduceBEq, ↓reduceIte, Nat.reduceEqDiff, Nat.reduceAdd, Nat.reduceMul, Nat.reduceSub, Int.reduceToNat, reduceCtorEq, Nat.reduceLT, Nat.reduceLeDiff, Int.reduceSub, Int.reduceAdd, Int.reduceNeg, Sat.look hs, Sat.lookA hs, Int.cast_ofNat_Int]
          exact ret_none rfl (hR _ _ ⟨_, rfl, hs⟩)
        all_goals
          simp only [adv, List.cons_append, List.nil_append] at hs
          (repeat (first | (simp (disch := first | omega | assumption | exact Option.isSome_some | (simp only [adO_isSome]; assumption)) only [↓vcp, vcs, vct, if_true, if_false, Nat.reduceBEq, ↓reduceIte, Nat.reduceEqDiff, Nat.reduceAdd, Nat.reduceMul, Nat.reduceSub, Int.reduceToNat, reduceCtorEq, Nat.reduceLT, Nat.reduceLeDiff, Int.reduceSub, Int.reduceAdd, Int.reduceNeg, Sat.look hs, Sat.lookA hs, Int.cast_ofNat_Int]) | (refine khK he hs ?_; clear he; intro he) | ((first | refine stK hs ?_ | refine stFK hs ?_ | refine stAK hs ?_ | refine msK hs ?_); clear hs; (try clear w); rintro w hs; try simp only [cls] at hs) | ((first | refine al_ok hs ?_ | refine bx_ok hs ?_ | refine bsvK hs ?_ | refine bs1_ok hs ?_ | refine bs0_ok hs ?_); clear hs; (try clear w); rintro _ w hs; try simp only [cls] at hs)))
          refine draw_still 13 (by kernel_rfl) (by kernel_rfl) (by kernel_rfl) ?_
          replace hs := Sat.drew hs; revert hs; generalize World.drew _ = w; intro hs
          (repeat (first | (simp (disch := first | omega | assumption | exact Option.isSome_some | (simp only [adO_isSome]; assumption)) only [↓vcp, vcs, vct, if_true, if_false, Nat.reduceBEq, ↓reduceIte, Nat.reduceEqDiff, Nat.reduceAdd, Nat.reduceMul, Nat.reduceSub, Int.reduceToNat, reduceCtorEq, Nat.reduceLT, Nat.reduceLeDiff, Int.reduceSub, Int.reduceAdd, Int.reduceNeg, Sat.look hs, Sat.lookA hs, Int.cast_ofNat_Int, w32_add]) | (refine khK he hs ?_; clear he; intro he) | ((first | refine stK hs ?_ | refine stFK hs ?_ | refine stAK hs ?_ | refine msK hs ?_); clear hs; (try clear w); rintro w hs; try simp only [cls] at hs) | ((first | refine al_ok hs ?_ | refine bx_ok hs ?_ | refine bsvK hs ?_ | refine bs1_ok hs ?_ | refine bs0_ok hs ?_); clear hs; (try clear w); rintro _ w hs; try simp only [cls] at hs)))
        · exact ⟨1, by rfl, by rfl, ⟨by omega, hs⟩, by dsimp only; omega⟩
        · exact ⟨2, by rfl, by rfl, ⟨by omega, hs⟩, by dsimp only; omega⟩
        · exact ⟨3, by rfl, by rfl, ⟨by omega, hs⟩, by dsimp only; omega⟩
        · exact ⟨4, by rfl, by rfl, ⟨by omega, hs⟩, by dsimp only; omega⟩
        · exact ⟨5, by rfl, by rfl, ⟨by omega, hs⟩, by dsimp only; omega⟩
        · exact ⟨6, by rfl, by rfl, ⟨by omega, hs⟩, by dsimp only; omega⟩
        · exact ⟨7, by rfl, by rfl, ⟨by omega, hs⟩, by dsimp only; omega⟩
        · exact ⟨8, by rfl, by rfl, ⟨by omega, hs⟩, by dsimp only; omega⟩
end Go.Proofs.YtokoohdpakhphaaGreatDoor.Sha
