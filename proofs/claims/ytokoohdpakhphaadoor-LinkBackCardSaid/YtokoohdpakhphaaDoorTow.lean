/- Local blocks: worlds as a base with blocks put upon it. No statement about the program stands here. -/
import Derived.Test.YtokoohdpakhphaaDoorStruct
namespace Go.Proofs.YtokoohdpakhphaaDoor.VC
open Go Go.RowKit
set_option linter.unusedSimpArgs false
abbrev Blk := List Value × Nat
def tow (w : World) : List Blk → World
  | [] => w
  | (cs, t) :: l => tow (w.alloc (.cells cs.toArray t)) l
theorem tow_nil (w : World) : tow w [] = w := (fun h => h) rfl
theorem tow_alloc : ∀ (w : World) (L : List Blk) (cs : List Value) (t : Nat), (tow w L).alloc (.cells cs.toArray t) = tow w (L ++ [(cs, t)])
  | w, [], cs, t => rfl
  | w, (c, u) :: L, cs, t => by rw [tow, tow_alloc]; rfl
theorem size_tow : ∀ (w : World) (L : List Blk), (tow w L).heap.size = w.heap.size + L.length
  | w, [] => rfl
  | w, (c, u) :: L => by rw [tow, size_tow]; simp; omega
theorem heap_tow : ∀ (L : List Blk) (w : World) (i : Nat), (tow w L).heap[w.heap.size + i]? = (L[i]?).map fun b => .cells b.1.toArray b.2 (0, 0)
  | [], w, i => by simp [tow]
  | (c, u) :: L, w, 0 => by
    rw [tow]
    have : ∀ (L : List Blk) (w : World) (k : Nat), k < w.heap.size → (tow w L).heap[k]? = w.heap[k]? := by
      intro L
      induction L with
      | nil => intro w k _; rfl
      | cons b L ih => intro w k hk; rw [tow, ih _ _ (by simp; omega), Below.heap_alloc w _ k hk]
    rw [this L _ _ (by simp)]
    exact heap_alloc_new w _
  | (c, u) :: L, w, i + 1 => by
    rw [tow]
    have := heap_tow L (w.alloc (.cells c.toArray u)) i
    rw [show (w.alloc (.cells c.toArray u)).heap.size + i = w.heap.size + (i + 1) by simp; omega] at this
    simpa using this
theorem heap_tow_old : ∀ (L : List Blk) (w : World) (k : Nat), k < w.heap.size → (tow w L).heap[k]? = w.heap[k]?
  | [], w, k, _ => rfl
  | (c, u) :: L, w, k, hk => by rw [tow, heap_tow_old L _ k (by simp; omega), Below.heap_alloc w _ k hk]
theorem below_tow (w : World) : ∀ (L : List Blk) {B : Nat} {a : World}, Below B a w → B ≤ w.heap.size → Below B a (tow w L)
  | [], _, _, h, _ => h
  | (c, u) :: L, _, _, h, hB => below_tow (w.alloc (.cells c.toArray u)) L (h.alloc hB _) (by simp; omega)
theorem cellO_tow (w : World) (L : List Blk) (i k : Nat) : cellO (tow w L) (some ⟨w.heap.size + i, k, none⟩) = (L[i]?).bind fun b => b.1[k]? := by
  show World.cell? _ _ = _
  unfold World.cell?
  simp only [heap_tow]
  cases L[i]? with
  | none => rfl
  | some b => simp
theorem cellO_tow0 (w : World) (L : List Blk) (k : Nat) : cellO (tow w L) (some ⟨w.heap.size, k, none⟩) = (L[0]?).bind fun b => b.1[k]? := cellO_tow w L 0 k
theorem cell?_tow_old (w : World) (L : List Blk) (p : Addr) (h : p.block < w.heap.size) : (tow w L).cell? p = w.cell? p := by
  unfold World.cell?
  rw [heap_tow_old L w _ h]
theorem Rd.tow {w : World} {B : Nat} {a : Option Addr} {vs : List Value} (h : Rd w B a vs) (hB : B ≤ w.heap.size) (L : List Blk) : Rd (tow w L) B a vs := h.keep fun p hp => cell?_tow_old w L p (by omega)
theorem cellsFrom_tow (w : World) (L : List Blk) (i : Nat) (b : Blk) (hb : L[i]? = some b) : ∀ (n k j : Nat), k + j + n ≤ b.1.length → cellsFrom (tow w L) ⟨w.heap.size + i, k, none⟩ j n = some ((b.1.drop (k + j)).take n)
  | 0, k, j, h => by simp [cellsFrom]
  | n + 1, k, j, h => by
    have hadd : (⟨w.heap.size + i, k, none⟩ : Addr).add j = ⟨w.heap.size + i, k + j, none⟩ := by unfold Addr.add; split <;> simp_all
    have hc := cellO_tow w L i (k + j)
    rw [hb] at hc
    simp only [cellO, Option.bind_some] at hc
    have hlt : k + j < b.1.length := by omega
    rw [List.getElem?_eq_getElem hlt] at hc
    simp only [cellsFrom, hadd, hc, cellsFrom_tow w L i b hb n k (j + 1) (by omega)]
    rw [List.drop_eq_getElem_cons hlt, List.take_succ_cons]
    rfl
def cutB (o : Option Blk) (k n : Nat) : Option (List Value) := match o with | some b => if k + n ≤ b.1.length then some ((b.1.drop k).take n) else none | none => none
def cellsZ (w : World) (p : Option Addr) (n : Nat) : Option (List Value) := cellsO w p n
def cellsQ (o : Option (List Value)) (z : Option (List Value)) : Option (List Value) := match o with | some l => some l | none => z
theorem cellsQ_some (l : List Value) (z : Option (List Value)) : cellsQ (some l) z = some l := (fun h => h) rfl
theorem cellsO_tow (w : World) (L : List Blk) (i k n : Nat) : cellsO (tow w L) (some ⟨w.heap.size + i, k, none⟩) n = cellsQ (cutB (L[i]?) k n) (cellsZ (tow w L) (some ⟨w.heap.size + i, k, none⟩) n) := by
  cases hb : L[i]? with
  | none => rfl
  | some b =>
    unfold cutB
    by_cases h : k + n ≤ b.1.length
    · simp only [if_pos h, cellsQ]
      have := cellsFrom_tow w L i b hb n k 0 (by omega)
      show cellsFrom (tow w L) _ 0 n = _
      rw [this, Nat.add_zero]
    · simp only [if_neg h, cellsQ]; rfl
theorem cellsO_tow0 (w : World) (L : List Blk) (k n : Nat) : cellsO (tow w L) (some ⟨w.heap.size, k, none⟩) n = cellsQ (cutB (L[0]?) k n) (cellsZ (tow w L) (some ⟨w.heap.size + 0, k, none⟩) n) := cellsO_tow w L 0 k n
theorem cutB_some (b : Blk) (k n : Nat) : cutB (some b) k n = if k + n ≤ b.1.length then some ((b.1.drop k).take n) else none := (fun h => h) rfl
theorem add_lit (b k n : Nat) : (⟨b, k, none⟩ : Addr).add n = ⟨b, k + n, none⟩ := by unfold Addr.add; split <;> simp_all

/-- a block written -/
def putB (L : List Blk) (i k : Nat) (v : Value) : List Blk := L.modify i fun b => (b.1.set k v, b.2)
theorem setCell_tow_old : ∀ (L : List Blk) (w : World) (n k : Nat) (v : Value), n < w.heap.size → (tow w L).setCell ⟨n, k, none⟩ v = tow (w.setCell ⟨n, k, none⟩ v) L
  | [], w, n, k, v, _ => rfl
  | (c, u) :: L, w, n, k, v, h => by
    rw [tow, setCell_tow_old L _ n k v (by simp; omega), World.setCell_alloc_past _ n k v h]
    rfl
theorem setCell_tow : ∀ (L : List Blk) (w : World) (i k : Nat) (v : Value), i < L.length → (tow w L).setCell ⟨w.heap.size + i, k, none⟩ v = tow w (putB L i k v)
  | [], w, i, k, v, h => by simp at h
  | (c, u) :: L, w, 0, k, v, _ => by
    rw [tow, setCell_tow_old L _ _ k v (by simp), Nat.add_zero, World.setCell_alloc_at _ _ _ k v rfl]
    simp [putB, tow]
  | (c, u) :: L, w, i + 1, k, v, h => by
    have := setCell_tow L (w.alloc (.cells c.toArray u)) i k v (by simpa using h)
    rw [show (w.alloc (.cells c.toArray u)).heap.size + i = w.heap.size + (i + 1) by simp; omega] at this
    rw [tow, this]
    simp [putB, tow]
theorem frozen_tow (w : World) (L : List Blk) (i k : Nat) (h : i < L.length) : (tow w L).frozen? ⟨w.heap.size + i, k, none⟩ = false := by
  unfold World.frozen?
  simp only [heap_tow, List.getElem?_eq_getElem h, Option.map_some]
  simp
section
variable {P : Program} {K : Value → World → Prop} {pan : List PanicEntry → World → Prop} {w : World} {t sz : Nat}
def stM (o : Option Value) (k z : Prop) : Prop := match o with | some _ => k | none => z
theorem stM_some (v : Value) (k z : Prop) : stM (some v) k z = k := (fun h => h) rfl
def stZ (P : Program) (t : Nat) (p : Option Addr) (v : Value) (K : Value → World → Prop) (pan : List PanicEntry → World → Prop) (w : World) : Prop := runT .ord P (Instr.storeAt t (.pointer p) v) K pan w
theorem m_storeT (L : List Blk) (i k : Nat) (v : Value) [h : TSc P t] [ho : OneC v] :
    runT .ord P (Instr.storeAt t (.pointer (some ⟨w.heap.size + i, k, none⟩)) v) K pan (tow w L) = stM ((L[i]?).bind fun b => b.1[k]?) (K undef (tow w (putB L i k v))) (stZ P t (some ⟨w.heap.size + i, k, none⟩) v K pan (tow w L)) := by
  have hc := cellO_tow w L i k
  cases hb : (L[i]?).bind fun b => b.1[k]? with
  | none => rfl
  | some u =>
    have hi : i < L.length := by
      by_cases hlt : i < L.length
      · exact hlt
      · rw [List.getElem?_eq_none (by omega)] at hb; cases hb
    rw [m_store t _ v (by rw [hc, hb]; rfl) (show frozenO _ (some _) = false from frozen_tow w L i k hi)]
    show K undef ((tow w L).setCell _ v) = _
    rw [setCell_tow L w i k v hi]
    rfl
theorem m_storeT0 (L : List Blk) (k : Nat) (v : Value) [h : TSc P t] [ho : OneC v] :
    runT .ord P (Instr.storeAt t (.pointer (some ⟨w.heap.size, k, none⟩)) v) K pan (tow w L) = stM ((L[0]?).bind fun b => b.1[k]?) (K undef (tow w (putB L 0 k v))) (stZ P t (some ⟨w.heap.size + 0, k, none⟩) v K pan (tow w L)) := m_storeT L 0 k v
/-- several cells written -/
def putsB (L : List Blk) (i k : Nat) : List Value → List Blk
  | [] => L
  | v :: vs => putsB (putB L i k v) i (k + 1) vs
theorem run_storeCells_tow (w : World) (i : Nat) (k0 : Nat) : ∀ (vs : List Value) (j : Nat) (L : List Blk) (b : Blk), L[i]? = some b → k0 + j + vs.length ≤ b.1.length → (vs.all (·.oneCell')) = true →
    (storeCells ⟨w.heap.size + i, k0, none⟩ vs j).run P (tow w L) = .ok () (tow w (putsB L i (k0 + j) vs))
  | [], j, L, b, hb, h, _ => by simp [storeCells, putsB]
  | v :: vs, j, L, b, hb, h, h1 => by
    simp only [List.all_cons, Bool.and_eq_true] at h1
    simp only [List.length_cons] at h
    have hi : i < L.length := by
      by_cases hlt : i < L.length
      · exact hlt
      · rw [List.getElem?_eq_none (by omega)] at hb; cases hb
    have hc : (tow w L).cell? ⟨w.heap.size + i, k0 + j, none⟩ = some (b.1[k0 + j]'(by omega)) := by
      have := cellO_tow w L i (k0 + j)
      rw [hb, Option.bind_some, List.getElem?_eq_getElem (by omega)] at this
      exact this
    have hst := run_store P (tow w L) ⟨w.heap.size + i, k0 + j, none⟩ v .plain h1.1
    rw [hc] at hst
    simp only [frozen_tow w L i _ hi, Bool.false_eq_true, if_false, setCell_tow L w i _ v hi] at hst
    have hrec := run_storeCells_tow w i k0 vs (j + 1) (putB L i (k0 + j) v) (b.1.set (k0 + j) v, b.2) (by simp [putB, List.getElem?_modify, hb]) (by simp; omega) h1.2
    simp only [storeCells, add_lit, Sem.run_bind, hst, Result.andThen_ok, hrec, putsB]
    rw [Nat.add_assoc]
def stA (o : Option Blk) (k n : Nat) (vs : List Value) (q z : Prop) : Prop := match o with | some b => if vs.length = n ∧ k + n ≤ b.1.length ∧ vs.all (·.oneCell') = true then q else z | none => z
theorem stA_some (b : Blk) (k n : Nat) (vs : List Value) (q z : Prop) : stA (some b) k n vs q z = if vs.length = n ∧ k + n ≤ b.1.length ∧ vs.all (·.oneCell') = true then q else z := (fun h => h) rfl
theorem m_storeTA (L : List Blk) (i k : Nat) (vs : List Value) [h : TAg P t sz] :
    runT .ord P (Instr.storeAt t (.pointer (some ⟨w.heap.size + i, k, none⟩)) (.agg vs.toArray)) K pan (tow w L) = stA (L[i]?) k sz vs (K undef (tow w (putsB L i k vs))) (stZ P t (some ⟨w.heap.size + i, k, none⟩) (.agg vs.toArray) K pan (tow w L)) := by
  cases hb : L[i]? with
  | none => rfl
  | some b =>
    unfold stA
    by_cases hh : vs.length = sz ∧ k + sz ≤ b.1.length ∧ vs.all (·.oneCell') = true
    · simp only [if_pos hh]
      have hs : ∀ w, (sizeOf t).run P w = .ok sz w := run_sizeOf h.s
      have hst := run_storeCells_tow (P := P) w i k vs 0 L b hb (by omega) hh.2.2
      refine runT_ok ?_
      simp only [Instr.storeAt, Instr.sureAddr, Sem.run_bind, Sem.run_pure, Result.andThen_ok, storeVar, hs, Value.cells, List.size_toArray, hh.1]
      simp [hst]
    · simp only [if_neg hh]; rfl
theorem m_storeTA0 (L : List Blk) (k : Nat) (vs : List Value) [h : TAg P t sz] :
    runT .ord P (Instr.storeAt t (.pointer (some ⟨w.heap.size, k, none⟩)) (.agg vs.toArray)) K pan (tow w L) = stA (L[0]?) k sz vs (K undef (tow w (putsB L 0 k vs))) (stZ P t (some ⟨w.heap.size + 0, k, none⟩) (.agg vs.toArray) K pan (tow w L)) := m_storeTA L 0 k vs
theorem putsB_nil (L : List Blk) (i k : Nat) : putsB L i k [] = L := (fun h => h) rfl
theorem putsB_cons (L : List Blk) (i k : Nat) (v : Value) (vs : List Value) : putsB L i k (v :: vs) = putsB (putB L i k v) i (k + 1) vs := (fun h => h) rfl
theorem putB_zero (c : List Value) (u : Nat) (L : List Blk) (k : Nat) (v : Value) : putB ((c, u) :: L) 0 k v = (c.set k v, u) :: L := by simp [putB]
theorem putB_succ (b : Blk) (L : List Blk) (i k : Nat) (v : Value) : putB (b :: L) (i + 1) k v = b :: putB L i k v := by simp [putB]
theorem cells_one (v : Value) [ho : OneC v] : v.cells = [v].toArray := by
  have hv := ho.h
  cases v <;> first | rfl | cases hv
theorem one_int (k : IntKind) (n : Int) : (Value.int k n).oneCell' = true := (fun h => h) rfl
theorem one_str (s : ByteArray) : (Value.string s).oneCell' = true := (fun h => h) rfl
theorem one_bool (s : Bool) : (Value.bool s).oneCell' = true := (fun h => h) rfl
theorem one_slice (a : Option Addr) (n c : Nat) : (Value.slice a n c).oneCell' = true := (fun h => h) rfl
theorem one_ptr (a : Option Addr) : (Value.pointer a).oneCell' = true := (fun h => h) rfl
end
end Go.Proofs.YtokoohdpakhphaaDoor.VC
