/- A list of lists of bytes in memory. No statement about the program stands here. -/
import Derived.Test.YtokoohdpakhphaaDoorVcMem
namespace Go.Proofs.YtokoohdpakhphaaDoor.VC
open Go Go.RowKit
structure BRow where
  a : Option Addr
  c : Nat
  xs : List UInt8
def BRow.v (r : BRow) : Value := .slice r.a r.xs.length r.c
def RdBB (w : World) (B : Nat) (a : Option Addr) (rows : List BRow) : Prop := Rd w B a (rows.map BRow.v) ∧ ∀ r ∈ rows, RdB w B r.a r.xs ∧ r.xs.length ≤ r.c ∧ r.xs.length ≤ 140737488351232
theorem RdBB.below {w w' : World} {B : Nat} {a : Option Addr} {rows : List BRow} (h : RdBB w B a rows) (hb : Below B w w') : RdBB w' B a rows :=
  ⟨h.1.below hb, fun r hr => ⟨(h.2 r hr).1.below hb, (h.2 r hr).2⟩⟩
theorem RdBB.cell {w : World} {B : Nat} {a : Option Addr} {rows : List BRow} (h : RdBB w B a rows) {i : Nat} (hi : i < rows.length) : cellO w (adO a i) = some (.slice rows[i].a rows[i].xs.length rows[i].c) := by
  have := Rd.cell h.1 (i := i) (by simpa using hi)
  simpa [BRow.v] using this
theorem RdBB.isSome {w : World} {B : Nat} {a : Option Addr} {rows : List BRow} (h : RdBB w B a rows) (hi : 0 < rows.length) : a.isSome = true := Rd.isSome h.1 (by simpa using hi)
end Go.Proofs.YtokoohdpakhphaaDoor.VC
