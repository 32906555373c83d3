/- Rows of rows of bytes, as an argument's reading gives them. -/
import Derived.Test.YtokoohdpakhphaaDoorRowF
import Derived.Test.YtokoohdpakhphaaDoorOpen
namespace Go.Proofs.YtokoohdpakhphaaDoor.Dig
open Go VC Go.RowKit
theorem rdbb_of {W : World} {r : SRow (SRow UInt8)} (hrd : Rd W W.heap.size r.a (r.xs.flatMap fun x : SRow UInt8 => [x.v]))
    (hq : ∀ x ∈ r.xs, Rd W W.heap.size x.a (x.xs.flatMap fun b : UInt8 => [u8v b]) ∧ x.xs.length ≤ x.c ∧ x.xs.length ≤ 140737488351232) : RdBB W W.heap.size r.a (r.xs.map fun x => ⟨x.a, x.c, x.xs⟩) := ⟨by
  have e : r.xs.flatMap (fun x : SRow UInt8 => [x.v]) = (r.xs.map fun x => (⟨x.a, x.c, x.xs⟩ : BRow)).map BRow.v := by
    simp [List.map_map, ← List.map_eq_flatMap]
    exact fun a _ => rfl
  rw [← e]; exact hrd, fun y hy => by
  obtain ⟨x, hx, rfl⟩ := List.mem_map.1 hy
  obtain ⟨h1, h2, h3⟩ := hq x hx
  refine ⟨?_, h2, h3⟩
  have e : x.xs.flatMap (fun b : UInt8 => [u8v b]) = x.xs.map u8v := (List.map_eq_flatMap ..).symm
  rw [e] at h1
  exact h1⟩
end Go.Proofs.YtokoohdpakhphaaDoor.Dig
