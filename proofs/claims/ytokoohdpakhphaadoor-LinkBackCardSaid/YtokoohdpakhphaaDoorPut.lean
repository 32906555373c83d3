/- Blocks that stood before and are written: a world with the block b put anew. No statement about the program stands here. -/
import Derived.Test.YtokoohdpakhphaaDoorTow
namespace Go.Proofs.YtokoohdpakhphaaDoor.VC
open Go Go.RowKit
set_option linter.unusedSimpArgs false
/-- the block b holds just these cells -/
def Bk (w : World) (b : Nat) (cs : List Value) (t : Nat) : Prop := w.heap[b]? = some (.cells cs.toArray t (0, 0))
def put (w : World) (b : Nat) (cs : List Value) (t : Nat) : World := { w with heap := w.heap.setIfInBounds b (.cells cs.toArray t (0, 0)) }
section
variable {w w' : World} {b c t u : Nat} {cs ds : List Value} {P : Program} {K : Value → World → Prop} {pan : List PanicEntry → World → Prop} {sz : Nat}
theorem Bk.lt (h : Bk w b cs t) : b < w.heap.size := by
  by_cases hlt : b < w.heap.size
  · exact hlt
  · unfold Bk at h; rw [Array.getElem?_eq_none (by omega)] at h; cases h
theorem put_self (h : Bk w b cs t) : put w b cs t = w := by
  have hlt := h.lt
  unfold put
  have : w.heap.setIfInBounds b (.cells cs.toArray t (0, 0)) = w.heap := by
    apply Array.ext_getElem?
    intro i
    rw [Array.getElem?_setIfInBounds]
    by_cases e : b = i
    · subst e; rw [if_pos rfl, if_pos hlt]; exact h.symm
    · rw [if_neg e]
  rw [this]
theorem size_put (w : World) (b : Nat) (cs : List Value) (t : Nat) : (put w b cs t).heap.size = w.heap.size := by simp [put]
theorem heap_put (w : World) (b : Nat) (cs : List Value) (t : Nat) (k : Nat) : (put w b cs t).heap[k]? = if b = k ∧ k < w.heap.size then some (.cells cs.toArray t (0, 0)) else w.heap[k]? := by
  unfold put
  rw [Array.getElem?_setIfInBounds]
  by_cases e : b = k
  · subst e
    by_cases hl : b < w.heap.size
    · simp [hl]
    · simp [hl]
  · simp [e]
theorem heap_put_ne (h : c ≠ b) : (put w b cs t).heap[c]? = w.heap[c]? := by rw [heap_put, if_neg (by omega)]
theorem bk_put (h : b < w.heap.size) : Bk (put w b cs t) b cs t := by unfold Bk; rw [heap_put, if_pos ⟨rfl, h⟩]
theorem Bk.put_ne (h : Bk w c ds u) (hne : c ≠ b) : Bk (put w b cs t) c ds u := by unfold Bk; rw [heap_put_ne hne]; exact h
theorem put_put (w : World) (b : Nat) (cs ds : List Value) (t u : Nat) : put (put w b cs t) b ds u = put w b ds u := by simp [put]
theorem Bk.tow (h : Bk w b cs t) (L : List Blk) : Bk (tow w L) b cs t := by unfold Bk; rw [heap_tow_old L w b h.lt]; exact h
theorem Bk.cell (h : Bk w b cs t) (k : Nat) : cellO w (some ⟨b, k, none⟩) = cs[k]? := by
  show World.cell? _ _ = _
  unfold World.cell?
  unfold Bk at h
  simp [h]
theorem Bk.frozen (h : Bk w b cs t) (k : Nat) : w.frozen? ⟨b, k, none⟩ = false := by
  unfold World.frozen?
  unfold Bk at h
  simp [h]
theorem Bk.set (h : Bk w b cs t) (k : Nat) (v : Value) : w.setCell ⟨b, k, none⟩ v = put w b (cs.set k v) t := by
  have hlt := h.lt
  unfold World.setCell put
  congr 1
  apply Array.ext_getElem?
  intro i
  rw [Array.getElem?_modify, Array.getElem?_setIfInBounds]
  by_cases e : b = i
  · subst e
    unfold Bk at h
    rw [h, if_pos rfl, if_pos rfl, if_pos hlt]
    simp
  · simp [e]
theorem Bk.below (h : Bk w b cs t) {B : Nat} (hb : Below B w w') (hlt : b < B) : Bk w' b cs t := by unfold Bk; rw [hb.block b hlt]; exact h
/-- loads and stores at a block that was put -/
theorem cellO_put (L : List Blk) (k : Nat) (h : b < w.heap.size) : cellO (tow (put w b cs t) L) (some ⟨b, k, none⟩) = cs[k]? := ((bk_put h).tow L).cell k
theorem m_storeP (L : List Blk) (k : Nat) (v : Value) [hs : TSc P u] [ho : OneC v] (h : b < w.heap.size) :
    runT .ord P (Instr.storeAt u (.pointer (some ⟨b, k, none⟩)) v) K pan (tow (put w b cs t) L) = stM (cs[k]?) (K undef (tow (put w b (cs.set k v) t) L)) (stZ P u (some ⟨b, k, none⟩) v K pan (tow (put w b cs t) L)) := by
  have hk := ((bk_put (cs := cs) (t := t) h).tow L)
  cases hc : cs[k]? with
  | none => rfl
  | some x =>
    rw [m_store u _ v (by rw [hk.cell, hc]; rfl) (show frozenO _ (some _) = false from hk.frozen k)]
    show K undef ((tow (put w b cs t) L).setCell _ v) = _
    rw [setCell_tow_old L _ b k v (by rw [size_put]; exact h), (bk_put h).set, put_put]
    rfl
end
end Go.Proofs.YtokoohdpakhphaaDoor.VC
