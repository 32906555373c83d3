/- Several texts in one. -/
import Derived.Test.YtokoohdpakhphaaDoorTowA
namespace Go.Proofs.YtokoohdpakhphaaDoor.VC
open Go Go.RowKit
set_option linter.unusedSimpArgs false
/-- the block b holds just these cells -/
def Bk (w : World) (b : Nat) (cs : List Value) (t : Nat) : Prop := w.heap[b]? = some (.cells cs.toArray t (0, 0))
def put (w : World) (b : Nat) (cs : List Value) (t : Nat) : World := { w with heap := w.heap.setIfInBounds b (.cells cs.toArray t (0, 0)) }
section
variable {w w' : World} {b c t u : Nat} {cs ds : List Value} {P : Program} {K : Value → World → Prop} {pan : List PanicEntry → World → Prop} {sz : Nat}
theorem Bk.lt (h : Bk w b cs t) : b < w.heap.size := by
  by_cases hlt : b < w.heap.size
  · exact hlt
  · unfold Bk at h; rw [Array.getElem?_eq_none (by omega)] at h; cases h
theorem put_self (h : Bk w b cs t) : put w b cs t = w := by
  have hlt := h.lt
  unfold put
  have : w.heap.setIfInBounds b (.cells cs.toArray t (0, 0)) = w.heap := by
    apply Array.ext_getElem?
    intro i
    rw [Array.getElem?_setIfInBounds]
    by_cases e : b = i
    · subst e; rw [if_pos rfl, if_pos hlt]; exact h.symm
    · rw [if_neg e]
  rw [this]
theorem size_put (w : World) (b : Nat) (cs : List Value) (t : Nat) : (put w b cs t).heap.size = w.heap.size := by simp [put]
theorem heap_put (w : World) (b : Nat) (cs : List Value) (t : Nat) (k : Nat) : (put w b cs t).heap[k]? = if b = k ∧ k < w.heap.size then some (.cells cs.toArray t (0, 0)) else w.heap[k]? := by
  unfold put
  rw [Array.getElem?_setIfInBounds]
  by_cases e : b = k
  · subst e
    by_cases hl : b < w.heap.size
    · simp [hl]
    · simp [hl]
  · simp [e]
theorem heap_put_ne (h : c ≠ b) : (put w b cs t).heap[c]? = w.heap[c]? := by rw [heap_put, if_neg (by omega)]
theorem bk_put (h : b < w.heap.size) : Bk (put w b cs t) b cs t := by unfold Bk; rw [heap_put, if_pos ⟨rfl, h⟩]
theorem Bk.put_ne (h : Bk w c ds u) (hne : c ≠ b) : Bk (put w b cs t) c ds u := by unfold Bk; rw [heap_put_ne hne]; exact h
theorem put_put (w : World) (b : Nat) (cs ds : List Value) (t u : Nat) : put (put w b cs t) b ds u = put w b ds u := by simp [put]
theorem Bk.tow (h : Bk w b cs t) (L : List Blk) : Bk (tow w L) b cs t := by unfold Bk; rw [heap_tow_old L w b h.lt]; exact h
theorem Bk.cell (h : Bk w b cs t) (k : Nat) : cellO w (some ⟨b, k, none⟩) = cs[k]? := by
  show World.cell? _ _ = _
  unfold World.cell?
  unfold Bk at h
  simp [h]
theorem Bk.frozen (h : Bk w b cs t) (k : Nat) : w.frozen? ⟨b, k, none⟩ = false := by
  unfold World.frozen?
  unfold Bk at h
  simp [h]
theorem Bk.set (h : Bk w b cs t) (k : Nat) (v : Value) : w.setCell ⟨b, k, none⟩ v = put w b (cs.set k v) t := by
  have hlt := h.lt
  unfold World.setCell put
  congr 1
  apply Array.ext_getElem?
  intro i
  rw [Array.getElem?_modify, Array.getElem?_setIfInBounds]
  by_cases e : b = i
  · subst e
    unfold Bk at h
    rw [h, if_pos rfl, if_pos rfl, if_pos hlt]
    simp
  · simp [e]
theorem Bk.below (h : Bk w b cs t) {B : Nat} (hb : Below B w w') (hlt : b < B) : Bk w' b cs t := by unfold Bk; rw [hb.block b hlt]; exact h
/-- loads and stores at a block that was put -/
theorem cellO_put (L : List Blk) (k : Nat) (h : b < w.heap.size) : cellO (tow (put w b cs t) L) (some ⟨b, k, none⟩) = cs[k]? := ((bk_put h).tow L).cell k
theorem m_storeP (L : List Blk) (k : Nat) (v : Value) [hs : TSc P u] [ho : OneC v] (h : b < w.heap.size) :
    runT .ord P (Instr.storeAt u (.pointer (some ⟨b, k, none⟩)) v) K pan (tow (put w b cs t) L) = stM (cs[k]?) (K undef (tow (put w b (cs.set k v) t) L)) (stZ P u (some ⟨b, k, none⟩) v K pan (tow (put w b cs t) L)) := by
  have hk := ((bk_put (cs := cs) (t := t) h).tow L)
  cases hc : cs[k]? with
  | none => rfl
  | some x =>
    rw [m_store u _ v (by rw [hk.cell, hc]; rfl) (show frozenO _ (some _) = false from hk.frozen k)]
    show K undef ((tow (put w b cs t) L).setCell _ v) = _
    rw [setCell_tow_old L _ b k v (by rw [size_put]; exact h), (bk_put h).set, put_put]
    rfl
end
end Go.Proofs.YtokoohdpakhphaaDoor.VC
namespace Go.Proofs.YtokoohdpakhphaaDoor.VC
open Go Go.RowKit
set_option linter.unusedSimpArgs false
abbrev Ovl := Nat × List Value × Nat
def puts (w : World) : List Ovl → World
  | [] => w
  | (b, cs, t) :: M => put (puts w M) b cs t
def mw (w : World) (n : Nat) (M : List Ovl) (L : List Blk) : World := (tow (puts w M) L).drewN n
theorem mw_start (w : World) : mw w 0 [] [] = w := (fun h => h) rfl
theorem mw_put {w : World} {b t : Nat} {cs : List Value} (h : Bk w b cs t) : mw w 0 [(b, cs, t)] [] = w := put_self h
theorem size_puts (w : World) : ∀ M : List Ovl, (puts w M).heap.size = w.heap.size
  | [] => rfl
  | (b, cs, t) :: M => by rw [puts, size_put, size_puts w M]
theorem size_mw (w : World) (n : Nat) (M : List Ovl) (L : List Blk) : (mw w n M L).heap.size = w.heap.size + L.length := by
  show (tow (puts w M) L).heap.size = _
  rw [size_tow, size_puts]
theorem mw_drew (w : World) (n : Nat) (M : List Ovl) (L : List Blk) : (mw w n M L).drew = mw w (n + 1) M L := (fun h => h) rfl
theorem mw_drewN (w : World) (n m : Nat) (M : List Ovl) (L : List Blk) : (mw w n M L).drewN m = mw w (n + m) M L := by
  unfold mw World.drewN
  simp [Nat.add_assoc]
theorem alloc_drewN (w : World) (n : Nat) (o : Obj) : (w.drewN n).alloc o = (w.alloc o).drewN n := rfl
theorem setCell_drewN (w : World) (n : Nat) (p : Addr) (v : Value) : (w.drewN n).setCell p v = (w.setCell p v).drewN n := rfl
theorem mw_alloc (w : World) (n : Nat) (M : List Ovl) (L : List Blk) (cs : List Value) (t : Nat) : (mw w n M L).alloc (.cells cs.toArray t) = mw w n M (L ++ [(cs, t)]) := by
  unfold mw
  rw [alloc_drewN, tow_alloc]
theorem cellO_mw (w : World) (n : Nat) (M : List Ovl) (L : List Blk) (i k : Nat) : cellO (mw w n M L) (some ⟨w.heap.size + i, k, none⟩) = (L[i]?).bind fun b => b.1[k]? := by
  have := cellO_tow (puts w M) L i k
  rw [size_puts] at this
  exact this
theorem cellO_mw0 (w : World) (n : Nat) (M : List Ovl) (L : List Blk) (k : Nat) : cellO (mw w n M L) (some ⟨w.heap.size, k, none⟩) = (L[0]?).bind fun b => b.1[k]? := cellO_mw w n M L 0 k
theorem bk_mw {w : World} {b t : Nat} {cs : List Value} (n : Nat) (M : List Ovl) (L : List Blk) (h : b < w.heap.size) : Bk (mw w n ((b, cs, t) :: M) L) b cs t := by
  have h1 : Bk (put (puts w M) b cs t) b cs t := bk_put (by rw [size_puts]; exact h)
  exact h1.tow L
theorem cellO_mwP {w : World} {b t : Nat} {cs : List Value} (n : Nat) (M : List Ovl) (L : List Blk) (k : Nat) (h : b < w.heap.size) : cellO (mw w n ((b, cs, t) :: M) L) (some ⟨b, k, none⟩) = cs[k]? := (bk_mw n M L h).cell k
theorem cellsO_mw (w : World) (n : Nat) (M : List Ovl) (L : List Blk) (i k m : Nat) : cellsO (mw w n M L) (some ⟨w.heap.size + i, k, none⟩) m = cellsQ (cutB (L[i]?) k m) (cellsZ (mw w n M L) (some ⟨w.heap.size + i, k, none⟩) m) := by
  have := cellsO_tow (puts w M) L i k m
  rw [size_puts] at this
  have e : ∀ p, cellsO (mw w n M L) p m = cellsO (tow (puts w M) L) p m := fun p => by
    cases p with
    | none => rfl
    | some a => exact cellsFrom_drewN _ n a m 0
  unfold cellsZ at this ⊢
  rw [e]
  exact this
theorem cellsO_mw0 (w : World) (n : Nat) (M : List Ovl) (L : List Blk) (k m : Nat) : cellsO (mw w n M L) (some ⟨w.heap.size, k, none⟩) m = cellsQ (cutB (L[0]?) k m) (cellsZ (mw w n M L) (some ⟨w.heap.size + 0, k, none⟩) m) := cellsO_mw w n M L 0 k m
theorem Bk.cellsFrom {w : World} {b t : Nat} {cs : List Value} (h : Bk w b cs t) : ∀ (n k j : Nat), k + j + n ≤ cs.length → VC.cellsFrom w ⟨b, k, none⟩ j n = some ((cs.drop (k + j)).take n)
  | 0, k, j, _ => by simp [VC.cellsFrom]
  | n + 1, k, j, hl => by
    have hlt : k + j < cs.length := by omega
    have hc := h.cell (k + j)
    rw [List.getElem?_eq_getElem hlt] at hc
    have hc' : w.cell? ⟨b, k + j, none⟩ = some cs[k + j] := hc
    simp only [VC.cellsFrom, add_lit, hc', h.cellsFrom n k (j + 1) (by omega)]
    rw [List.drop_eq_getElem_cons hlt, List.take_succ_cons]
    rfl
theorem cellsO_mwP {w : World} {b t : Nat} {cs : List Value} (n : Nat) (M : List Ovl) (L : List Blk) (k m : Nat) (h : b < w.heap.size) (hl : k + m ≤ cs.length) : cellsO (mw w n ((b, cs, t) :: M) L) (some ⟨b, k, none⟩) m = some ((cs.drop k).take m) := by
  have := (bk_mw (t := t) (cs := cs) n M L h).cellsFrom m k 0 (by omega)
  simpa [cellsO] using this
section
variable {P : Program} {K : Value → World → Prop} {pan : List PanicEntry → World → Prop} {w : World} {t u sz b : Nat} {cs : List Value}
theorem frozen_mw (w : World) (n : Nat) (M : List Ovl) (L : List Blk) (i k : Nat) (h : i < L.length) : (mw w n M L).frozen? ⟨w.heap.size + i, k, none⟩ = false := by
  have := frozen_tow (puts w M) L i k h
  rw [size_puts] at this
  exact this
theorem setCell_mw (w : World) (n : Nat) (M : List Ovl) (L : List Blk) (i k : Nat) (v : Value) (h : i < L.length) : (mw w n M L).setCell ⟨w.heap.size + i, k, none⟩ v = mw w n M (putB L i k v) := by
  have := setCell_tow L (puts w M) i k v h
  rw [size_puts] at this
  unfold mw
  rw [setCell_drewN, this]
theorem m_storeM (n : Nat) (M : List Ovl) (L : List Blk) (i k : Nat) (v : Value) [h : TSc P t] [ho : OneC v] :
    runT .ord P (Instr.storeAt t (.pointer (some ⟨w.heap.size + i, k, none⟩)) v) K pan (mw w n M L) = stM ((L[i]?).bind fun b => b.1[k]?) (K undef (mw w n M (putB L i k v))) (stZ P t (some ⟨w.heap.size + i, k, none⟩) v K pan (mw w n M L)) := by
  have hc := cellO_mw w n M L i k
  cases hb : (L[i]?).bind fun b => b.1[k]? with
  | none => rfl
  | some u =>
    have hi : i < L.length := by
      by_cases hlt : i < L.length
      · exact hlt
      · rw [List.getElem?_eq_none (by omega)] at hb; cases hb
    rw [m_store t _ v (by rw [hc, hb]; rfl) (show frozenO _ (some _) = false from frozen_mw w n M L i k hi)]
    show K undef ((mw w n M L).setCell _ v) = _
    rw [setCell_mw w n M L i k v hi]
    rfl
theorem m_storeM0 (n : Nat) (M : List Ovl) (L : List Blk) (k : Nat) (v : Value) [h : TSc P t] [ho : OneC v] :
    runT .ord P (Instr.storeAt t (.pointer (some ⟨w.heap.size, k, none⟩)) v) K pan (mw w n M L) = stM ((L[0]?).bind fun b => b.1[k]?) (K undef (mw w n M (putB L 0 k v))) (stZ P t (some ⟨w.heap.size + 0, k, none⟩) v K pan (mw w n M L)) := m_storeM n M L 0 k v
theorem setCell_mwP (n : Nat) (M : List Ovl) (L : List Blk) (k : Nat) (v : Value) (h : b < w.heap.size) : (mw w n ((b, cs, u) :: M) L).setCell ⟨b, k, none⟩ v = mw w n ((b, cs.set k v, u) :: M) L := by
  have hb : b < (puts w M).heap.size := by rw [size_puts]; exact h
  unfold mw
  rw [setCell_drewN, puts, setCell_tow_old L _ b k v (by rw [size_put]; exact hb), (bk_put hb).set, put_put, puts]
theorem m_storeMP (n : Nat) (M : List Ovl) (L : List Blk) (k : Nat) (v : Value) [hs : TSc P t] [ho : OneC v] (h : b < w.heap.size) :
    runT .ord P (Instr.storeAt t (.pointer (some ⟨b, k, none⟩)) v) K pan (mw w n ((b, cs, u) :: M) L) = stM (cs[k]?) (K undef (mw w n ((b, cs.set k v, u) :: M) L)) (stZ P t (some ⟨b, k, none⟩) v K pan (mw w n ((b, cs, u) :: M) L)) := by
  have hk := bk_mw (t := u) (cs := cs) n M L h
  cases hc : cs[k]? with
  | none => rfl
  | some x =>
    rw [m_store t _ v (by rw [hk.cell, hc]; rfl) (show frozenO _ (some _) = false from hk.frozen k)]
    show K undef ((mw w n ((b, cs, u) :: M) L).setCell _ v) = _
    rw [setCell_mwP n M L k v h]
    rfl
theorem run_storeCells_mw (w : World) (n : Nat) (M : List Ovl) (i k0 : Nat) : ∀ (vs : List Value) (j : Nat) (L : List Blk) (b : Blk), L[i]? = some b → k0 + j + vs.length ≤ b.1.length → (vs.all (·.oneCell')) = true →
    (storeCells ⟨w.heap.size + i, k0, none⟩ vs j).run P (mw w n M L) = .ok () (mw w n M (putsB L i (k0 + j) vs))
  | [], j, L, b, hb, h, _ => by simp [storeCells, putsB]
  | v :: vs, j, L, b, hb, h, h1 => by
    simp only [List.all_cons, Bool.and_eq_true] at h1
    simp only [List.length_cons] at h
    have hi : i < L.length := by
      by_cases hlt : i < L.length
      · exact hlt
      · rw [List.getElem?_eq_none (by omega)] at hb; cases hb
    have hc : (mw w n M L).cell? ⟨w.heap.size + i, k0 + j, none⟩ = some (b.1[k0 + j]'(by omega)) := by
      have := cellO_mw w n M L i (k0 + j)
      rw [hb, Option.bind_some, List.getElem?_eq_getElem (by omega)] at this
      exact this
    have hst := run_store P (mw w n M L) ⟨w.heap.size + i, k0 + j, none⟩ v .plain h1.1
    rw [hc] at hst
    simp only [frozen_mw w n M L i _ hi, Bool.false_eq_true, if_false, setCell_mw w n M L i _ v hi] at hst
    have hrec := run_storeCells_mw w n M i k0 vs (j + 1) (putB L i (k0 + j) v) (b.1.set (k0 + j) v, b.2) (by simp [putB, List.getElem?_modify, hb]) (by simp; omega) h1.2
    simp only [storeCells, add_lit, Sem.run_bind, hst, Result.andThen_ok, hrec, putsB]
    rw [Nat.add_assoc]
theorem m_storeMA (n : Nat) (M : List Ovl) (L : List Blk) (i k : Nat) (vs : List Value) [h : TAg P t sz] :
    runT .ord P (Instr.storeAt t (.pointer (some ⟨w.heap.size + i, k, none⟩)) (.agg vs.toArray)) K pan (mw w n M L) = stA (L[i]?) k sz vs (K undef (mw w n M (putsB L i k vs))) (stZ P t (some ⟨w.heap.size + i, k, none⟩) (.agg vs.toArray) K pan (mw w n M L)) := by
  cases hb : L[i]? with
  | none => rfl
  | some b =>
    unfold stA
    by_cases hh : vs.length = sz ∧ k + sz ≤ b.1.length ∧ vs.all (·.oneCell') = true
    · simp only [if_pos hh]
      have hs : ∀ w, (sizeOf t).run P w = .ok sz w := run_sizeOf h.s
      have hst := run_storeCells_mw (P := P) w n M i k vs 0 L b hb (by omega) hh.2.2
      refine runT_ok ?_
      simp only [Instr.storeAt, Instr.sureAddr, Sem.run_bind, Sem.run_pure, Result.andThen_ok, storeVar, hs, Value.cells, List.size_toArray, hh.1]
      simp [hst]
    · simp only [if_neg hh]; rfl
theorem m_storeMA0 (n : Nat) (M : List Ovl) (L : List Blk) (k : Nat) (vs : List Value) [h : TAg P t sz] :
    runT .ord P (Instr.storeAt t (.pointer (some ⟨w.heap.size, k, none⟩)) (.agg vs.toArray)) K pan (mw w n M L) = stA (L[0]?) k sz vs (K undef (mw w n M (putsB L 0 k vs))) (stZ P t (some ⟨w.heap.size + 0, k, none⟩) (.agg vs.toArray) K pan (mw w n M L)) := m_storeMA n M L 0 k vs
/-! an array built, its elements one cell each -/
def fillA (cs : List Value) : List (Nat × Value) → Option (Array Value)
  | [] => some cs.toArray
  | (i, v) :: r => if v.oneCell' = true ∧ i < cs.length then fillA (cs.set i v) r else none
theorem fillA_sound : ∀ (l : List (Nat × Value)) (cs : List Value) (r : Array Value), fillA cs l = some r → Instr.fill (fun i => some (i * 1, 1)) cs.toArray l = some r
  | [], cs, r, h => h
  | (i, v) :: l, cs, r, h => by
    rw [fillA] at h
    by_cases hc : v.oneCell' = true ∧ i < cs.length
    · rw [if_pos hc] at h
      have hcs : v.cells = #[v] := by
        have := hc.1
        cases v <;> first | rfl | cases this
      have ih := fillA_sound l (cs.set i v) r h
      rw [Instr.fill]
      simp only [hcs]
      rw [if_neg (by simp; omega)]
      simpa using ih
    · rw [if_neg hc] at h; cases h
theorem fillA_nil (cs : List Value) : fillA cs [] = some cs.toArray := (fun h => h) rfl
theorem fillA_cons (cs : List Value) (i : Nat) (v : Value) (l : List (Nat × Value)) : fillA cs ((i, v) :: l) = if v.oneCell' = true ∧ i < cs.length then fillA (cs.set i v) l else none := (fun h => h) rfl
theorem m_buildA {el m : Nat} {z : Value} {q : Md} [h : TArr P t m el 1] [hz : TZero P t z] (l : List (Nat × Value)) :
    runS q P (Instr.build t l.toArray) K pan w = bldM (fillA z.cells.toList l) K w (bldZ q P t l K pan w) := by
  cases hf : fillA z.cells.toList l with
  | none => rfl
  | some cs =>
    have hf' := fillA_sound l _ cs hf
    have hzu := hz.u
    have hs := h.s
    cases hi : P.info? t with
    | none => simp [hi] at hzu
    | some inf =>
      simp [hi] at hzu
      cases hie : P.info? el with
      | none => simp [hie] at hs
      | some ie =>
        simp [hie] at hs
        refine runS_pure fun w => ?_
        refine run_build w t l.toArray cs ?_
        simp only [Program.built, hi, h.u, hzu, hie, hs]
        simpa using hf'
/-- a result that is a variable of its own, of several cells -/
theorem ret_cell {fn : Func} {R : Ending → World → Prop} {e : Env} {r : Nat} {p : Option Addr} {l : List Value} [h : TAg P t sz] (hf : fn.results = #[.cell r t]) (he : e r = .pointer p) (hl : cellsO w p sz = some l) (hr : R (.returned (.agg l.toArray)) w) : retK P fn R e w := by
  refine ⟨#[.agg l.toArray], ?_, hr⟩
  cases p with
  | none => cases hl
  | some a =>
    have hc : cellsFrom w a 0 sz = some l := hl
    simp [hf, resE, he, asAddr, loadVar, run_isAgg_ag h.u, run_sizeOf h.s, loadCells, run_loadCellsFrom _ a sz 0 #[] l hc]
/-- what is below B reads as it did -/
theorem below_mw (n : Nat) : ∀ (M : List Ovl) (L : List Blk) {B : Nat} {a : World}, Below B a w → B ≤ w.heap.size → (∀ x ∈ M, B ≤ x.1) → Below B a (mw w n M L) := by
  intro M L B a h hB hM
  have hp : ∀ M : List Ovl, (∀ x ∈ M, B ≤ x.1) → Below B a (puts w M) := by
    intro M
    induction M with
    | nil => intro _; exact h
    | cons x M ih =>
      obtain ⟨b, cs, t⟩ := x
      intro hM
      have h1 := ih (fun y hy => hM y (by simp [hy]))
      have h2 := hM (b, cs, t) (by simp)
      exact ⟨h1.os, h1.tape, h1.output, by rw [puts, size_put]; exact h1.size, fun k hk => by rw [puts, heap_put_ne (by dsimp only at h2; omega)]; exact h1.block k hk⟩
  exact below_drewN (below_tow _ L (hp M hM) (by rw [size_puts]; exact hB)) n
/-! planned regions -/
def DrewOf (W w : World) : Prop := ∃ n, w = W.drewN n
theorem DrewOf.start (W : World) : DrewOf W W.drew := ⟨1, rfl⟩
theorem DrewOf.mw (w : World) (n m : Nat) (M : List Ovl) (L : List Blk) : DrewOf (mw w n M L) (mw w (n + m) M L) := ⟨m, (mw_drewN w n m M L).symm⟩
theorem m_loadD {W : World} (p : Option Addr) [h : TSc P t] (hS : DrewOf W w) : runS (.ahead (DrewOf W)) P (Instr.loadAt t (.pointer p)) K pan w = ldM (cellO W p) K w (ldZ (.ahead (DrewOf W)) P t p K pan w) := by
  cases hc : cellO W p with
  | none => rfl
  | some v => exact m_loadY t p v hS fun w' ⟨n, e⟩ => by subst e; exact hc
/-- the worlds of a region whose last operation writes the cell k of block b -/
def StOf (W : World) (b k : Nat) (w : World) : Prop := ∃ n v, w = (W.setCell ⟨b, k, none⟩ v).drewN n
theorem setCell_self {w : World} {p : Addr} {v : Value} (h : w.cell? p = some v) : w.setCell p v = w := by
  unfold World.cell? at h
  have this : (w.setCell p v).heap = w.heap := by
    unfold World.setCell
    apply Array.ext_getElem?
    intro i
    dsimp only
    rw [Array.getElem?_modify]
    by_cases e : p.block = i
    · subst e
      rw [if_pos rfl]
      cases hh : w.heap[p.block]? with
      | none => rfl
      | some o =>
        rw [hh] at h
        cases o with
        | cells c el fr =>
          simp only at h
          simp only [Option.map_some]
          by_cases hs : p.spot.isSome = true
          · rw [if_pos hs]
          · rw [if_neg hs] at h ⊢
            congr 2
            apply Array.ext_getElem?
            intro j
            rw [Array.getElem?_setIfInBounds]
            by_cases ej : p.off = j
            · subst ej
              obtain ⟨hj, hv⟩ := Array.getElem?_eq_some_iff.1 h
              rw [if_pos rfl, if_pos hj, Array.getElem?_eq_getElem hj, hv]
            · rw [if_neg ej]
        | _ => rfl
    · rw [if_neg e]
  have e : w.setCell p v = { w with heap := (w.setCell p v).heap } := rfl
  rw [e, this]
theorem StOf.start {W : World} {b k : Nat} (h : (cellO W (some ⟨b, k, none⟩)).isSome = true) : StOf W b k W.drew := by
  obtain ⟨v, hv⟩ := Option.isSome_iff_exists.1 h
  exact ⟨1, v, by rw [setCell_self hv]; rfl⟩
theorem StOf.stored {W : World} {b k : Nat} (n : Nat) (v : Value) : StOf W b k ((W.setCell ⟨b, k, none⟩ v).drewN n) := ⟨n, v, rfl⟩
theorem m_loadS {W : World} {b k b' k' : Nat} [h : TSc P t] (hne : b' ≠ b ∨ k' ≠ k) (hS : StOf W b k w) : runS (.ahead (StOf W b k)) P (Instr.loadAt t (.pointer (some ⟨b', k', none⟩))) K pan w = ldM (cellO W (some ⟨b', k', none⟩)) K w (ldZ (.ahead (StOf W b k)) P t (some ⟨b', k', none⟩) K pan w) := by
  cases hc : cellO W (some ⟨b', k', none⟩) with
  | none => rfl
  | some v =>
    refine m_loadY t _ v hS fun w' hw => ?_
    obtain ⟨n, u, e⟩ := hw
    subst e
    show (W.setCell ⟨b, k, none⟩ u).cell? ⟨b', k', none⟩ = some v
    rw [World.cell?_setCell_other W ⟨b, k, none⟩ ⟨b', k', none⟩ u (fun e => by injection e with e1 e2 e3; omega)]
    exact hc
theorem putB_set (L : List Blk) (i k : Nat) (v : Value) (cs : List Value) (u : Nat) (h : L[i]? = some (cs, u)) : putB L i k v = L.set i (cs.set k v, u) := by
  apply List.ext_getElem?
  intro j
  have hi : i < L.length := by
    by_cases hlt : i < L.length
    · exact hlt
    · rw [List.getElem?_eq_none (by omega)] at h; cases h
  unfold putB
  rw [List.getElem?_modify]
  by_cases e : i = j
  · subst e
    rw [h, List.getElem?_set_self hi]
    simp
  · rw [List.getElem?_set_ne e]
    simp only [if_neg e]
    cases L[j]? <;> rfl
theorem putsB_set (i u : Nat) : ∀ (vs : List Value) (L : List Blk) (k : Nat) (cs : List Value), L[i]? = some (cs, u) → k + vs.length ≤ cs.length → putsB L i k vs = L.set i (cs.take k ++ vs ++ cs.drop (k + vs.length), u)
  | [], L, k, cs, h, hl => by
    obtain ⟨hi, hv⟩ := List.getElem?_eq_some_iff.1 h
    simp only [putsB, List.length_nil, Nat.add_zero, List.append_nil, List.take_append_drop]
    rw [← hv, List.set_getElem_self]
  | v :: vs, L, k, cs, h, hl => by
    obtain ⟨hi, hv⟩ := List.getElem?_eq_some_iff.1 h
    simp only [List.length_cons] at hl
    rw [putsB, putB_set L i k v cs u h, putsB_set i u vs _ (k + 1) (cs.set k v) (by rw [List.getElem?_set_self hi]) (by simp; omega), List.set_set]
    congr 2
    rw [List.take_set, List.drop_set_of_lt (by omega), List.take_add_one, List.getElem?_eq_getElem (by omega : k < cs.length)]
    simp only [Option.toList_some, List.length_cons]
    rw [List.set_append_right _ _ (by simp; omega), show k + 1 + vs.length = k + (vs.length + 1) by omega]
    simp [List.length_take, Nat.min_eq_left (show k ≤ cs.length by omega)]
theorem putsB_full {L : List Blk} {i u : Nat} {cs vs : List Value} (h : L[i]? = some (cs, u)) (hl : vs.length = cs.length) : putsB L i 0 vs = L.set i (vs, u) := by
  rw [putsB_set i u vs L 0 cs h (by omega)]
  simp [hl]
theorem putsB_succ (b : Blk) (L : List Blk) (i k : Nat) : ∀ vs : List Value, putsB (b :: L) (i + 1) k vs = b :: putsB L i k vs := by
  intro vs
  induction vs generalizing L k with
  | nil => rfl
  | cons v vs ih => rw [putsB, putsB, putB_succ, ih]
theorem putsB_head {cs vs : List Value} {u : Nat} {L : List Blk} (h : vs.length = cs.length) : putsB ((cs, u) :: L) 0 0 vs = (vs, u) :: L := by
  rw [putsB_full (cs := cs) (u := u) rfl h]
  rfl
theorem StOf.mw (w : World) (n m : Nat) (M : List Ovl) (L : List Blk) (i k : Nat) (v : Value) (h : i < L.length) : StOf (mw w n M L) (w.heap.size + i) k (mw w (n + m) M (putB L i k v)) :=
  ⟨m, v, by rw [setCell_mw w n M L i k v h, mw_drewN]⟩
theorem tow_append : ∀ (w : World) (L L' : List Blk), tow (tow w L) L' = tow w (L ++ L')
  | w, [], L' => rfl
  | w, (c, u) :: L, L' => by rw [tow, tow_append]; rfl
theorem tow_drewN : ∀ (w : World) (L : List Blk) (n : Nat), tow (w.drewN n) L = (tow w L).drewN n
  | w, [], n => rfl
  | w, (c, u) :: L, n => by rw [tow, tow, alloc_drewN, tow_drewN]
theorem mw_mw (w : World) (n m : Nat) (M : List Ovl) (L L' : List Blk) : mw (mw w n M L) m [] L' = mw w (n + m) M (L ++ L') := by
  show (tow ((tow (puts w M) L).drewN n) L').drewN m = (tow (puts w M) (L ++ L')).drewN (n + m)
  rw [tow_drewN, tow_append]
  unfold World.drewN
  simp [Nat.add_assoc]
end
end Go.Proofs.YtokoohdpakhphaaDoor.VC
