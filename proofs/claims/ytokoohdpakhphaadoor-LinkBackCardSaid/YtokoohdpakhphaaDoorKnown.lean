/- Known digests, computed by the kernel. No statement about the program stands here. -/
import Derived.Test.YtokoohdpakhphaaDoorShaK
namespace Go.Proofs.YtokoohdpakhphaaDoor.Sha
open Go VC
set_option maxRecDepth 20000
set_option maxHeartbeats 4000000
def noneD : List UInt8 := [227, 176, 196, 66, 152, 252, 28, 20, 154, 251, 244, 200, 153, 111, 185, 36, 39, 174, 65, 228, 100, 155, 147, 76, 164, 149, 153, 27, 120, 82, 184, 85]
def longT : List UInt8 := [97, 98, 99, 100, 98, 99, 100, 101, 99, 100, 101, 102, 100, 101, 102, 103, 101, 102, 103, 104, 102, 103, 104, 105, 103, 104, 105, 106, 104, 105, 106, 107, 105, 106, 107, 108, 106, 107, 108, 109, 107, 108, 109, 110, 108, 109, 110, 111, 109, 110, 111, 112, 110, 111, 112, 113]
def longD : List UInt8 := [36, 141, 106, 97, 210, 6, 56, 184, 229, 192, 38, 147, 12, 62, 96, 57, 163, 60, 228, 89, 100, 255, 33, 103, 246, 236, 237, 212, 25, 219, 6, 193]
theorem sum_none : sum [] = noneD := by
  rw [sum_eq]
  decide +kernel
theorem sum_long : sum longT = longD := by
  rw [sum_eq]
  decide +kernel
def asN (n : Nat) : List UInt8 := List.replicate n 97
def headOf (l : List UInt8) : Nat := (l.take 4).foldl (fun a b => 256 * a + b.toNat) 0
def lens : List Nat := [54, 55, 56, 57, 58, 59, 60, 61, 62, 63, 64, 65, 66, 118, 119, 120, 121, 122, 123, 124, 125, 126, 127, 128, 129, 130]
def heads : List Nat := [2750421865, 2672005368, 3008641444, 4047187314, 3586144695, 287027809, 300824850, 903216151, 4110846348, 2101245088, 4292891902, 1666408900, 2886959054, 2275263728, 837526812, 792539988, 3915469600, 3479975564, 1718991480, 2619266570, 2833359091, 918354217, 3313406584, 1748422419, 3240931364, 507268935]
theorem heads_eq : lens.map (fun n => headOf (sumK (asN n))) = heads := by decide +kernel
theorem heads_nodup : heads.Nodup := by decide +kernel
theorem sums_ne {m n : Nat} (hm : m ∈ lens) (hn : n ∈ lens) (h : m ≠ n) : sum (asN m) ≠ sum (asN n) := fun e => by
  rw [sum_eq, sum_eq] at e
  have hnd := heads_nodup
  rw [← heads_eq] at hnd
  obtain ⟨i, hi, rfl⟩ := List.mem_iff_getElem.1 hm
  obtain ⟨j, hj, rfl⟩ := List.mem_iff_getElem.1 hn
  have hij : i ≠ j := fun e => h (by subst e; rfl)
  have := (List.nodup_iff_pairwise_ne.1 hnd)
  rw [List.pairwise_iff_getElem] at this
  rcases Nat.lt_or_ge i j with hlt | hge
  · exact this i j (by rwa [List.length_map]) (by rwa [List.length_map]) hlt (by rw [List.getElem_map, List.getElem_map, e])
  · exact this j i (by rwa [List.length_map]) (by rwa [List.length_map]) (by omega) (by rw [List.getElem_map, List.getElem_map, e])
theorem lens_mem {n : Nat} (h : 54 ≤ n ∧ n < 67 ∨ 118 ≤ n ∧ n < 131) : n ∈ lens := by
  have : ∀ n, n < 131 → (54 ≤ n ∧ n < 67 ∨ 118 ≤ n ∧ n < 131) → n ∈ lens := by decide
  exact this n (by omega) h
end Go.Proofs.YtokoohdpakhphaaDoor.Sha
