/- Numbers: what Go's operations on ints do to natural numbers. No statement about the program stands here. -/
import Derived.Test.YtokoohdpakhphaaDoorBitsU
import Derived.Test.YtokoohdpakhphaaDoorBun
namespace Go.Proofs.YtokoohdpakhphaaDoor.VC
open Go
theorem tmod_nat (a b : Nat) : (a : Int).tmod (b : Int) = ((a % b : Nat) : Int) := rfl
theorem tdiv_nat (a b : Nat) : (a : Int).tdiv (b : Int) = ((a / b : Nat) : Int) := rfl
theorem tmod_lit (a b : Nat) : (a : Int).tmod (no_index (@OfNat.ofNat Int b instOfNat)) = ((a % @OfNat.ofNat Nat b (instOfNatNat b) : Nat) : Int) := (fun h => h) rfl
theorem tdiv_lit (a b : Nat) : (a : Int).tdiv (no_index (@OfNat.ofNat Int b instOfNat)) = ((a / @OfNat.ofNat Nat b (instOfNatNat b) : Nat) : Int) := (fun h => h) rfl
theorem shr_lit (k : IntKind) (a b : Nat) (h : b ≤ k.bits) : Shr k (a : Int) (no_index (@OfNat.ofNat Int b instOfNat)) = ((a / 2 ^ (@OfNat.ofNat Nat b (instOfNatNat b)) : Nat) : Int) := Shr_u k a b h
theorem shr_nat (k : IntKind) (a b : Nat) (h : b ≤ k.bits) : Shr k (a : Int) (b : Int) = ((a / 2 ^ b : Nat) : Int) := Shr_u k a b h
theorem wr8 (n : Nat) : IntKind.u8.wrap (n : Int) = ((UInt8.ofNat n).toNat : Int) := by rw [wrap_u8_mod]; simp
theorem bits64 : IntKind.bits .u64 = 64 := rfl
theorem bits32 : IntKind.bits .u32 = 32 := rfl
theorem bits8 : IntKind.bits .u8 = 8 := rfl
theorem bitsi64 : IntKind.bits .i64 = 64 := rfl
theorem u8v_eq (b : UInt8) : Value.int .u8 (b.toNat : Int) = u8v b := (fun h => h) rfl
end Go.Proofs.YtokoohdpakhphaaDoor.VC
