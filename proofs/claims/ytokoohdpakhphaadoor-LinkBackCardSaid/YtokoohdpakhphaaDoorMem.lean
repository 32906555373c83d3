/- Words for memory: a slice that reads as a list of values. No statement about the program stands here. -/
import Derived.Test.YtokoohdpakhphaaDoorVcOps
import Derived.Laws.OwnMore
import Derived.Deep.AppendLies
namespace Go.Proofs.YtokoohdpakhphaaDoor.VC
open Go Go.RowKit

/-- the address a (below block B) is the head of cells that hold vs -/
def Rd (w : World) (B : Nat) (a : Option Addr) (vs : List Value) : Prop :=
  vs ≠ [] → ∃ ad, a = some ad ∧ ad.block < B ∧ ∀ (i : Nat) (h : i < vs.length), w.cell? (ad.add i) = some vs[i]
def u8v (b : UInt8) : Value := .int .u8 b.toNat
instance (b : UInt8) : OneC (u8v b) := ⟨rfl⟩
def RdB (w : World) (B : Nat) (a : Option Addr) (xs : List UInt8) : Prop := Rd w B a (xs.map u8v)

theorem below_drewN {B : Nat} {a w : World} (h : Below B a w) (n : Nat) : Below B a (w.drewN n) := ⟨h.os, h.tape, h.output, h.size, h.block⟩
theorem block_add (a : Addr) (n : Nat) : (a.add n).block = a.block := by unfold Addr.add; split <;> rfl

section
variable {w w' : World} {B B' : Nat} {a : Option Addr} {vs : List Value}
theorem Rd.nil : Rd w B a [] := fun h => absurd rfl h
theorem Rd.isSome (h : Rd w B a vs) (hn : 0 < vs.length) : a.isSome = true := by
  obtain ⟨ad, rfl, _⟩ := h (fun e => by subst e; simp at hn)
  rfl
theorem Rd.cell (h : Rd w B a vs) {i : Nat} (hi : i < vs.length) : cellO w (adO a i) = some vs[i] := by
  obtain ⟨ad, rfl, _, hc⟩ := h (fun e => by subst e; simp at hi)
  exact hc i hi
theorem Rd.keep (h : Rd w B a vs) (hk : ∀ p : Addr, p.block < B → w'.cell? p = w.cell? p) : Rd w' B a vs := fun hn => by
  obtain ⟨ad, rfl, hb, hc⟩ := h hn
  exact ⟨ad, rfl, hb, fun i hi => by rw [hk _ (by rw [block_add]; exact hb)]; exact hc i hi⟩
theorem Rd.below (h : Rd w B a vs) (hb : Below B w w') : Rd w' B a vs := h.keep fun _ hp => hb.cell hp
theorem Rd.more (h : Rd w B a vs) (hB : B ≤ B') : Rd w B' a vs := fun hn => by
  obtain ⟨ad, rfl, hb, hc⟩ := h hn
  exact ⟨ad, rfl, by omega, hc⟩
theorem Rd.drewN (h : Rd w B a vs) (n : Nat) : Rd (w.drewN n) B a vs := h
theorem Rd.alloc (h : Rd w B a vs) (hB : B ≤ w.heap.size) (o : Obj) : Rd (w.alloc o) B a vs := h.keep fun p hp => World.cell?_alloc_lt w o p (by omega)
theorem Rd.set (h : Rd w B a vs) {p : Addr} (hB : B ≤ p.block) (u : Value) : Rd (w.setCell p u) B a vs :=
  h.keep fun q hq => World.cell?_setCell_other w p q u (fun e => by subst e; omega)
theorem Rd.drop (h : Rd w B a vs) (k : Nat) : Rd w B (adO a k) (vs.drop k) := fun hn => by
  obtain ⟨ad, rfl, hb, hc⟩ := h (fun e => by subst e; simp at hn)
  refine ⟨ad.add k, rfl, by rw [block_add]; exact hb, fun i hi => ?_⟩
  rw [addr_add_add, List.getElem_drop]
  exact hc _ (by simp at hi; omega)
theorem Rd.take (h : Rd w B a vs) (k : Nat) : Rd w B a (vs.take k) := fun hn => by
  obtain ⟨ad, rfl, hb, hc⟩ := h (fun e => by subst e; simp at hn)
  refine ⟨ad, rfl, hb, fun i hi => ?_⟩
  rw [List.getElem_take]
  exact hc _ (by simp at hi; omega)
end
theorem RdB.isSome {w : World} {B : Nat} {a : Option Addr} {xs : List UInt8} (h : RdB w B a xs) (hn : 0 < xs.length) : a.isSome = true := Rd.isSome h (by simpa using hn)
theorem RdB.cell {w : World} {B : Nat} {a : Option Addr} {xs : List UInt8} (h : RdB w B a xs) {i : Nat} (hi : i < xs.length) : cellO w (adO a i) = some (.int .u8 xs[i].toNat) := by
  have := Rd.cell h (i := i) (by simpa using hi)
  simpa [u8v] using this
theorem RdB.drop {w : World} {B : Nat} {a : Option Addr} {xs : List UInt8} (h : RdB w B a xs) (k : Nat) : RdB w B (adO a k) (xs.drop k) := by
  have := Rd.drop h k
  rwa [← List.map_drop] at this
theorem RdB.take {w : World} {B : Nat} {a : Option Addr} {xs : List UInt8} (h : RdB w B a xs) (k : Nat) : RdB w B a (xs.take k) := by
  have := Rd.take h k
  rwa [← List.map_take] at this
end Go.Proofs.YtokoohdpakhphaaDoor.VC
