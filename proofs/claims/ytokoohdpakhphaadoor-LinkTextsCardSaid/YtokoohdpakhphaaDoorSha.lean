/- SHA-256 as plain functions on words and lists of bytes. No statement about the program stands here. -/
import Derived.Test.YtokoohdpakhphaaDoorBitsU
namespace Go.Proofs.YtokoohdpakhphaaDoor.Sha
open Go VC
def sg0 (x : UInt32) : UInt32 := rotr x 7 ^^^ rotr x 18 ^^^ (x >>> 3)
def sg1 (x : UInt32) : UInt32 := rotr x 17 ^^^ rotr x 19 ^^^ (x >>> 10)
def bs0 (a : UInt32) : UInt32 := rotr a 2 ^^^ rotr a 13 ^^^ rotr a 22
def bs1 (e : UInt32) : UInt32 := rotr e 6 ^^^ rotr e 11 ^^^ rotr e 25
def cho (e f g : UInt32) : UInt32 := (e &&& f) ^^^ (~~~e &&& g)
def maj (a b c : UInt32) : UInt32 := (a &&& b) ^^^ (a &&& c) ^^^ (b &&& c)
/-- the words of a block, and those that follow from them -/
def sched (m : List UInt32) (t : Nat) : UInt32 :=
  if t < 16 then m.getD t 0 else sched m (t - 16) + sg0 (sched m (t - 15)) + sched m (t - 7) + sg1 (sched m (t - 2))
termination_by t
decreasing_by all_goals omega
theorem sched_small {m : List UInt32} {t : Nat} (h : t < 16) : sched m t = m.getD t 0 := by rw [sched, if_pos h]
theorem sched_big {m : List UInt32} {t : Nat} (h : ¬ t < 16) : sched m t = sched m (t - 16) + sg0 (sched m (t - 15)) + sched m (t - 7) + sg1 (sched m (t - 2)) := by rw [sched, if_neg h]
def factors : List UInt32 := [
  0x428a2f98, 0x71374491, 0xb5c0fbcf, 0xe9b5dba5, 0x3956c25b, 0x59f111f1, 0x923f82a4, 0xab1c5ed5,
  0xd807aa98, 0x12835b01, 0x243185be, 0x550c7dc3, 0x72be5d74, 0x80deb1fe, 0x9bdc06a7, 0xc19bf174,
  0xe49b69c1, 0xefbe4786, 0x0fc19dc6, 0x240ca1cc, 0x2de92c6f, 0x4a7484aa, 0x5cb0a9dc, 0x76f988da,
  0x983e5152, 0xa831c66d, 0xb00327c8, 0xbf597fc7, 0xc6e00bf3, 0xd5a79147, 0x06ca6351, 0x14292967,
  0x27b70a85, 0x2e1b2138, 0x4d2c6dfc, 0x53380d13, 0x650a7354, 0x766a0abb, 0x81c2c92e, 0x92722c85,
  0xa2bfe8a1, 0xa81a664b, 0xc24b8b70, 0xc76c51a3, 0xd192e819, 0xd6990624, 0xf40e3585, 0x106aa070,
  0x19a4c116, 0x1e376c08, 0x2748774c, 0x34b0bcb5, 0x391c0cb3, 0x4ed8aa4a, 0x5b9cca4f, 0x682e6ff3,
  0x748f82ee, 0x78a5636f, 0x84c87814, 0x8cc70208, 0x90befffa, 0xa4506ceb, 0xbef9a3f7, 0xc67178f2]
structure St where
  a : UInt32
  b : UInt32
  c : UInt32
  d : UInt32
  e : UInt32
  f : UInt32
  g : UInt32
  h : UInt32
def St.list (s : St) : List UInt32 := [s.a, s.b, s.c, s.d, s.e, s.f, s.g, s.h]
def first : St := ⟨0x6a09e667, 0xbb67ae85, 0x3c6ef372, 0xa54ff53a, 0x510e527f, 0x9b05688c, 0x1f83d9ab, 0x5be0cd19⟩
/-- one round -/
def step (s : St) (k w : UInt32) : St :=
  let t := s.h + bs1 s.e + cho s.e s.f s.g + k + w
  let u := bs0 s.a + maj s.a s.b s.c
  ⟨t + u, s.a, s.b, s.c, s.d + t, s.e, s.f, s.g⟩
def comp (m : List UInt32) (s : St) : Nat → St
  | 0 => s
  | t + 1 => step (comp m s t) (factors.getD t 0) (sched m t)
def St.add (s v : St) : St := ⟨s.a + v.a, s.b + v.b, s.c + v.c, s.d + v.d, s.e + v.e, s.f + v.f, s.g + v.g, s.h + v.h⟩
/-- four bytes as a word -/
def word (b : List UInt8) (i : Nat) : UInt32 := UInt32.ofNat ((b.getD i 0).toNat * 2 ^ 24 + (b.getD (i + 1) 0).toNat * 2 ^ 16 + (b.getD (i + 2) 0).toNat * 2 ^ 8 + (b.getD (i + 3) 0).toNat)
def words (b : List UInt8) : List UInt32 := (List.range 16).map fun i => word b (4 * i)
theorem words_get (b : List UInt8) {t : Nat} (h : t < 16) : (words b).getD t 0 = word b (4 * t) := by simp [words, List.getD, h]
/-- a block changes the state -/
def block (s : St) (b : List UInt8) : St := s.add (comp (words b) s 64)
/-- all whole blocks at the front -/
def fold (s : St) (xs : List UInt8) : St := if _h : 64 ≤ xs.length then fold (block s (xs.take 64)) (xs.drop 64) else s
termination_by xs.length
decreasing_by simp; omega
theorem fold_small {s : St} {xs : List UInt8} (h : xs.length < 64) : fold s xs = s := by rw [fold, dif_neg (by omega)]
theorem fold_big {s : St} {xs : List UInt8} (h : 64 ≤ xs.length) : fold s xs = fold (block s (xs.take 64)) (xs.drop 64) := by rw [fold, dif_pos h]
theorem fold_append (n : Nat) : ∀ (s : St) (xs ys : List UInt8), xs.length = 64 * n → fold s (xs ++ ys) = fold (fold s xs) ys := by
  induction n with
  | zero =>
    intro s xs ys h
    have : xs = [] := List.eq_nil_of_length_eq_zero (by omega)
    subst this
    rw [List.nil_append, fold_small (xs := []) (by simp)]
  | succ n ih =>
    intro s xs ys h
    rw [fold_big (xs := xs ++ ys) (by simp; omega), fold_big (xs := xs) (by omega), List.take_append_of_le_length (by omega), List.drop_append_of_le_length (by omega)]
    exact ih _ _ _ (by simp; omega)
/-- what stands behind the text -/
def be64 (n : Nat) : List UInt8 := (List.range 8).map fun i => UInt8.ofNat (n / 2 ^ (8 * (7 - i)))
def pad (n : Nat) : List UInt8 := 128 :: (List.replicate ((119 - n % 64) % 64) 0 ++ be64 (8 * n % 2 ^ 64))
def out (s : St) : List UInt8 := s.list.flatMap fun w => [UInt8.ofNat (w.toNat / 2 ^ 24), UInt8.ofNat (w.toNat / 2 ^ 16), UInt8.ofNat (w.toNat / 2 ^ 8), UInt8.ofNat w.toNat]
def sum (xs : List UInt8) : List UInt8 := out (fold first (xs ++ pad xs.length))
end Go.Proofs.YtokoohdpakhphaaDoor.Sha
