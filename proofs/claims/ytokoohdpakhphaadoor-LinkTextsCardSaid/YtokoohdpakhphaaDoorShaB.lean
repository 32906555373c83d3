/- Several texts in one. -/
import Derived.Test.YtokoohdpakhphaaDoorSha
namespace Go.Proofs.YtokoohdpakhphaaDoor.Sha
open Go VC
/-- the word that comes sixteen behind the first one -/
def nextW (W : List UInt32) : UInt32 := W.headD 0 + sg0 (W.tail.getD 0 0) + W.tail.getD 8 0 + sg1 (W.tail.getD 13 0)
/-- one round: the state, and the next sixteen words -/
def roundK (p : List UInt32 × St) (k : UInt32) : List UInt32 × St := (p.1.tail ++ [nextW p.1], step p.2 k (p.1.headD 0))
/-- the rounds -/
def runK (ks W : List UInt32) (s : St) : St := (ks.foldl roundK (W, s)).2
theorem runK_cons (k : UInt32) (ks W : List UInt32) (s : St) : runK (k :: ks) W s = runK ks (W.tail ++ [nextW W]) (step s k (W.headD 0)) := by
  unfold runK
  rw [List.foldl_cons]
  rfl
def win (m : List UInt32) (t : Nat) : List UInt32 := (List.range 16).map fun i => sched m (t + i)
theorem win_cons (m : List UInt32) (t : Nat) : win m t = sched m t :: (List.range 15).map fun i => sched m (t + 1 + i) := by
  unfold win
  rw [show (16 : Nat) = 15 + 1 from rfl, List.range_succ_eq_map, List.map_cons, List.map_map]
  rw [Nat.add_zero]
  refine congrArg _ ?_
  apply List.map_congr_left
  intro i _
  show sched m (t + (i + 1)) = _
  rw [show t + (i + 1) = t + 1 + i by omega]
theorem win_next (m : List UInt32) (t : Nat) : ((List.range 15).map fun i => sched m (t + 1 + i)) ++ [sched m t + sg0 (((List.range 15).map fun i => sched m (t + 1 + i)).getD 0 0) + ((List.range 15).map fun i => sched m (t + 1 + i)).getD 8 0 + sg1 (((List.range 15).map fun i => sched m (t + 1 + i)).getD 13 0)] = win m (t + 1) := by
  have hb := sched_big (m := m) (t := t + 16) (by omega)
  have e : sched m t + sg0 (((List.range 15).map fun i => sched m (t + 1 + i)).getD 0 0) + ((List.range 15).map fun i => sched m (t + 1 + i)).getD 8 0 + sg1 (((List.range 15).map fun i => sched m (t + 1 + i)).getD 13 0) = sched m (t + 16) := by
    rw [hb]
    simp only [List.getD_eq_getElem?_getD, List.getElem?_map, List.getElem?_range (show 0 < 15 by omega), List.getElem?_range (show 8 < 15 by omega), List.getElem?_range (show 13 < 15 by omega), Option.map_some, Option.getD_some]
    rw [show t + 16 - 16 = t by omega, show t + 16 - 15 = t + 1 + 0 by omega, show t + 16 - 7 = t + 1 + 8 by omega, show t + 16 - 2 = t + 1 + 13 by omega]
  rw [e]
  unfold win
  rw [show (16 : Nat) = 15 + 1 from rfl, List.range_succ, List.map_append]
  rfl
theorem runK_comp (m : List UInt32) (s : St) : ∀ n t, t + n = 64 → runK (factors.drop t) (win m t) (comp m s t) = comp m s 64
  | 0, t, h => by
    have : t = 64 := by omega
    subst this
    rfl
  | n + 1, t, h => by
    have hl : factors.length = 64 := rfl
    rw [List.drop_eq_getElem_cons (by omega : t < factors.length), win_cons, runK_cons]
    unfold nextW
    rw [List.tail_cons, List.headD_cons, win_next]
    have := runK_comp m s n (t + 1) (by omega)
    rw [comp, List.getD_eq_getElem?_getD, List.getElem?_eq_getElem (by omega : t < factors.length)] at this
    exact this
theorem win_zero (b : List UInt8) : win (words b) 0 = words b := by
  unfold win words
  apply List.map_congr_left
  intro i hi
  have : i < 16 := by simpa using hi
  rw [Nat.zero_add, sched_small this, ← words, words_get _ this]
def blockK (s : St) (b : List UInt8) : St := s.add (runK factors (words b) s)
theorem blockK_eq (s : St) (b : List UInt8) : block s b = blockK s b := by
  unfold block blockK
  have := runK_comp (words b) s 64 0 (by omega)
  rw [List.drop_zero, win_zero, show comp (words b) s 0 = s from rfl] at this
  rw [this]
def foldK : Nat → St → List UInt8 → St
  | 0, s, _ => s
  | n + 1, s, xs => foldK n (blockK s (xs.take 64)) (xs.drop 64)
theorem foldK_eq : ∀ (n : Nat) (s : St) (xs : List UInt8), xs.length / 64 = n → fold s xs = foldK n s xs
  | 0, s, xs, h => by rw [fold_small (by omega)]; rfl
  | n + 1, s, xs, h => by
    rw [fold_big (by omega), blockK_eq, foldK]
    exact foldK_eq n _ _ (by rw [List.length_drop]; omega)
def sumK (xs : List UInt8) : List UInt8 := out (foldK ((xs ++ pad xs.length).length / 64) first (xs ++ pad xs.length))
theorem sum_eq (xs : List UInt8) : sum xs = sumK xs := by
  unfold sum sumK
  rw [foldK_eq _ _ _ rfl]
def abcD : List UInt8 := [0xba, 0x78, 0x16, 0xbf, 0x8f, 0x01, 0xcf, 0xea, 0x41, 0x41, 0x40, 0xde, 0x5d, 0xae, 0x22, 0x23, 0xb0, 0x03, 0x61, 0xa3, 0x96, 0x17, 0x7a, 0x9c, 0xb4, 0x10, 0xff, 0x61, 0xf2, 0x00, 0x15, 0xad]
theorem sum_abc : sum [97, 98, 99] = abcD := by
  rw [sum_eq]
  decide +kernel
end Go.Proofs.YtokoohdpakhphaaDoor.Sha
namespace Go.Proofs.YtokoohdpakhphaaDoor.Sha
open Go VC
set_option maxRecDepth 20000
set_option maxHeartbeats 4000000
def noneD : List UInt8 := [227, 176, 196, 66, 152, 252, 28, 20, 154, 251, 244, 200, 153, 111, 185, 36, 39, 174, 65, 228, 100, 155, 147, 76, 164, 149, 153, 27, 120, 82, 184, 85]
def longT : List UInt8 := [97, 98, 99, 100, 98, 99, 100, 101, 99, 100, 101, 102, 100, 101, 102, 103, 101, 102, 103, 104, 102, 103, 104, 105, 103, 104, 105, 106, 104, 105, 106, 107, 105, 106, 107, 108, 106, 107, 108, 109, 107, 108, 109, 110, 108, 109, 110, 111, 109, 110, 111, 112, 110, 111, 112, 113]
def longD : List UInt8 := [36, 141, 106, 97, 210, 6, 56, 184, 229, 192, 38, 147, 12, 62, 96, 57, 163, 60, 228, 89, 100, 255, 33, 103, 246, 236, 237, 212, 25, 219, 6, 193]
theorem sum_none : sum [] = noneD := by
  rw [sum_eq]
  decide +kernel
theorem sum_long : sum longT = longD := by
  rw [sum_eq]
  decide +kernel
def asN (n : Nat) : List UInt8 := List.replicate n 97
def headOf (l : List UInt8) : Nat := (l.take 4).foldl (fun a b => 256 * a + b.toNat) 0
def lens : List Nat := [54, 55, 56, 57, 58, 59, 60, 61, 62, 63, 64, 65, 66, 118, 119, 120, 121, 122, 123, 124, 125, 126, 127, 128, 129, 130]
def heads : List Nat := [2750421865, 2672005368, 3008641444, 4047187314, 3586144695, 287027809, 300824850, 903216151, 4110846348, 2101245088, 4292891902, 1666408900, 2886959054, 2275263728, 837526812, 792539988, 3915469600, 3479975564, 1718991480, 2619266570, 2833359091, 918354217, 3313406584, 1748422419, 3240931364, 507268935]
theorem heads_eq : lens.map (fun n => headOf (sumK (asN n))) = heads := by decide +kernel
theorem heads_nodup : heads.Nodup := by decide +kernel
theorem sums_ne {m n : Nat} (hm : m ∈ lens) (hn : n ∈ lens) (h : m ≠ n) : sum (asN m) ≠ sum (asN n) := fun e => by
  rw [sum_eq, sum_eq] at e
  have hnd := heads_nodup
  rw [← heads_eq] at hnd
  obtain ⟨i, hi, rfl⟩ := List.mem_iff_getElem.1 hm
  obtain ⟨j, hj, rfl⟩ := List.mem_iff_getElem.1 hn
  have hij : i ≠ j := fun e => h (by subst e; rfl)
  have := (List.nodup_iff_pairwise_ne.1 hnd)
  rw [List.pairwise_iff_getElem] at this
  rcases Nat.lt_or_ge i j with hlt | hge
  · exact this i j (by rwa [List.length_map]) (by rwa [List.length_map]) hlt (by rw [List.getElem_map, List.getElem_map, e])
  · exact this j i (by rwa [List.length_map]) (by rwa [List.length_map]) (by omega) (by rw [List.getElem_map, List.getElem_map, e])
theorem lens_mem {n : Nat} (h : 54 ≤ n ∧ n < 67 ∨ 118 ≤ n ∧ n < 131) : n ∈ lens := by
  have : ∀ n, n < 131 → (54 ≤ n ∧ n < 67 ∨ 118 ≤ n ∧ n < 131) → n ∈ lens := by decide
  exact this n (by omega) h
end Go.Proofs.YtokoohdpakhphaaDoor.Sha
