/- Several texts in one. -/
import Derived.Test.YtokoohdpakhphaaDoorMemA
import Derived.Laws.StructEq
import Derived.Laws.Tables
namespace Go.Proofs.YtokoohdpakhphaaDoor.VC
open Go Go.RowKit
set_option linter.unusedSimpArgs false
/-- the fields' places -/
def placesD (P : Program) (t : Nat) : Option (List (Nat × Nat)) :=
  match P.underlying t with
  | some (.struct fs) => fs.toList.mapM fun f => (P.info? f.type).map fun i => (f.offset, i.size)
  | _ => none
class TBld (P : Program) (t : Nat) (pl : outParam (List (Nat × Nat))) : Prop where u : placesD P t = some pl
/-- the kinds of plain fields that '==' compares -/
inductive SK where | i | s | b
def skOf : Option TypeDesc → Option SK
  | some (.int _) => some .i
  | some .string => some .s
  | some .bool => some .b
  | _ => none
def eqD (P : Program) (t : Nat) : Option (List (Nat × SK)) :=
  match P.underlying t with
  | some (.struct fs) => if P.stoodInHeld t = false ∧ P.eqGuardType P.depth t = false then fs.toList.mapM fun f => if f.name ≠ "_" then (skOf (P.underlying f.type)).map fun k => (f.offset, k) else none else none
  | _ => none
class TEq (P : Program) (t : Nat) (fs : outParam (List (Nat × SK))) : Prop where u : eqD P t = some fs
section
variable {P : Program} {K : Value → World → Prop} {pan : List PanicEntry → World → Prop} {w : World} {q : Md} {t : Nat} {pl : List (Nat × Nat)} {z : Value}
theorem new_row (w : World) (cs : List Value) (el : Nat) : Rd (w.alloc (.cells cs.toArray el)) (w.heap.size + 1) (some ⟨w.heap.size, 0, none⟩) cs := fun hn => ⟨_, rfl, by simp, fun i hi => by
  have hb : (w.alloc (.cells cs.toArray el)).heap[w.heap.size]? = some (.cells cs.toArray el (0, 0)) := heap_alloc_new w _
  have hadd : (⟨w.heap.size, 0, none⟩ : Addr).add i = ⟨w.heap.size, i, none⟩ := by unfold Addr.add; split <;> simp_all
  rw [hadd, cell_of_row _ _ i _ _ _ hb]
  simp [hi]⟩
/-! building -/
def bldM (o : Option (Array Value)) (K : Value → World → Prop) (w : World) (z : Prop) : Prop := match o with | some cs => K (.agg cs) w | none => z
theorem bldM_some (cs : Array Value) (z : Prop) : bldM (some cs) K w z = K (.agg cs) w := (fun h => h) rfl
def bldZ (q : Md) (P : Program) (t : Nat) (l : List (Nat × Value)) (K : Value → World → Prop) (pan : List PanicEntry → World → Prop) (w : World) : Prop := runS q P (Instr.build t l.toArray) K pan w
/-- filling, on lists -/
def fillL (pl : List (Nat × Nat)) (cs : List Value) : List (Nat × Value) → Option (Array Value)
  | [] => some cs.toArray
  | (i, v) :: r => fillS (pl[i]?) v cs fun cs' => fillL pl cs' r
where fillS (o : Option (Nat × Nat)) (v : Value) (cs : List Value) (k : List Value → Option (Array Value)) : Option (Array Value) :=
  match o with
  | none => none
  | some (off, size) => if v.cells.size ≠ size || off + v.cells.size > cs.length then none else k (v.cells.zipIdx.foldl (fun cs (c, j) => cs.setIfInBounds (off + j) c) cs.toArray).toList
theorem fillL_eq (pl : List (Nat × Nat)) : ∀ (l : List (Nat × Value)) (cs : List Value), Instr.fill (fun i => pl[i]?) cs.toArray l = fillL pl cs l
  | [], cs => rfl
  | (i, v) :: r, cs => by
    rw [Instr.fill, fillL]
    unfold fillL.fillS
    cases pl[i]? with
    | none => rfl
    | some os =>
      obtain ⟨off, size⟩ := os
      simp only [List.size_toArray]
      split
      · rfl
      · rw [← fillL_eq pl r]
theorem fillL_nil (cs : List Value) : fillL pl cs [] = some cs.toArray := (fun h => h) rfl
theorem fillL_cons (cs : List Value) (i : Nat) (v : Value) (r : List (Nat × Value)) : fillL pl cs ((i, v) :: r) = fillL.fillS (pl[i]?) v cs fun cs' => fillL pl cs' r := (fun h => h) rfl
theorem fillS_one (off : Nat) (v : Value) [ho : OneC v] (cs : List Value) (k : List Value → Option (Array Value)) : fillL.fillS (some (off, 1)) v cs k = if off < cs.length then k (cs.set off v) else none := by
  have hv := ho.h
  have hc : v.cells = #[v] := by cases v <;> first | rfl | cases hv
  unfold fillL.fillS
  simp only [hc]
  by_cases h : off < cs.length
  · rw [if_pos h, if_neg (by simp; omega)]
    simp
  · rw [if_neg h, if_pos (by simp; omega)]
theorem foldl_put : ∀ (vs : List Value) (off : Nat) (cs : Array Value), off + vs.length ≤ cs.size → ((vs.zipIdx 0).foldl (fun cs (c, j) => cs.setIfInBounds (off + j) c) cs).toList = cs.toList.take off ++ vs ++ cs.toList.drop (off + vs.length) := by
  have : ∀ (vs : List Value) (off k : Nat) (cs : Array Value), off + k + vs.length ≤ cs.size → ((vs.zipIdx k).foldl (fun cs (c, j) => cs.setIfInBounds (off + j) c) cs).toList = cs.toList.take (off + k) ++ vs ++ cs.toList.drop (off + k + vs.length) := by
    intro vs
    induction vs with
    | nil => intro off k cs h; simp
    | cons v vs ih =>
      intro off k cs h
      simp only [List.length_cons] at h
      rw [List.zipIdx_cons, List.foldl_cons, ih off (k + 1) _ (by simp; omega)]
      simp only [Array.toList_setIfInBounds, List.length_cons]
      rw [show off + (k + 1) = off + k + 1 by omega, show off + k + 1 + vs.length = off + k + (vs.length + 1) by omega]
      rw [List.take_set, List.drop_set_of_lt (by omega), List.take_add_one]
      have hl : off + k < cs.toList.length := by simp; omega
      rw [List.getElem?_eq_getElem hl]
      simp only [Option.toList_some]
      rw [List.set_append_right _ _ (by simp; omega)]
      simp [List.length_take, Nat.min_eq_left (show off + k ≤ cs.size by omega)]
  intro vs off cs h
  exact this vs off 0 cs h
theorem fillS_agg (off n : Nat) (vs : List Value) (cs : List Value) (k : List Value → Option (Array Value)) (hn : vs.length = n) (h : off + n ≤ cs.length) : fillL.fillS (some (off, n)) (.agg vs.toArray) cs k = k (cs.take off ++ vs ++ cs.drop (off + n)) := by
  subst hn
  unfold fillL.fillS
  dsimp only
  rw [if_neg (by simp [Value.cells]; omega)]
  have := foldl_put vs off cs.toArray (by simpa using h)
  simp only [Value.cells] at this ⊢
  congr 1
  rw [← this]
  simp
theorem m_build [h : TBld P t pl] [hz : TZero P t z] (l : List (Nat × Value)) :
    runS q P (Instr.build t l.toArray) K pan w = bldM (fillL pl z.cells.toList l) K w (bldZ q P t l K pan w) := by
  have e := fillL_eq pl l z.cells.toList
  rw [Array.toArray_toList] at e
  rw [← e]
  cases hf : Instr.fill (fun i => pl[i]?) z.cells l with
  | none => rfl
  | some cs =>
    have hu := h.u
    unfold placesD at hu
    have hzu := hz.u
    cases hi : P.info? t with
    | none => simp [hi] at hzu
    | some inf =>
      simp [hi] at hzu
      cases hd : P.underlying t with
      | none => simp [hd] at hu
      | some d =>
        cases d with
        | struct fs =>
          simp only [hd] at hu
          refine runS_pure fun w => ?_
          refine run_build w t l.toArray cs ?_
          simp only [Program.built, hi, hd, hzu, hu]
          simpa using hf
        | _ => simp [hd] at hu
theorem cells_agg (cs : Array Value) : (Value.agg cs).cells = cs := (fun h => h) rfl

/-! comparing -/
theorem beq_dec (a b : ByteArray) : (a == b) = decide (a = b) := by
  rw [beq_toListBytes]
  by_cases h : a = b
  · simp [h]
  · simp only [h, decide_false]
    simpa using fun hh => h (ba_ext hh)
def eqCell : SK → Value → Value → Option Bool
  | .i, .int k a, .int k' b => if k = k' then some (decide (a = b)) else none
  | .s, .string a, .string b => some (decide (a = b))
  | .b, .bool a, .bool b => some (decide (a = b))
  | _, _, _ => none
def andO : Option Bool → Option Bool → Option Bool
  | some a, some b => some (a && b)
  | _, _ => none
def eqF (k : SK) : Option Value → Option Value → Option Bool
  | some a, some b => eqCell k a b
  | _, _ => none
def eqFs (xs ys : List Value) : List (Nat × SK) → Option Bool
  | [] => some true
  | (o, k) :: r => andO (eqF k (xs[o]?) (ys[o]?)) (eqFs xs ys r)
theorem run_eqCell {d ft : Nat} {k : SK} {a b : Value} {r : Bool} (hk : skOf (P.underlying ft) = some k) (h : eqCell k a b = some r) (w : World) : (Op.equalIn (d + 1) ft a b).run P w = .ok r w := by
  cases hu : P.underlying ft with
  | none => simp [hu, skOf] at hk
  | some td =>
    cases td <;> simp [hu, skOf] at hk <;> subst hk <;> cases a <;> cases b <;> simp [eqCell] at h
    case int.int.int => obtain ⟨rfl, rfl⟩ := h; simp [Op.equalIn, run_underlying hu]; rfl
    case bool.bool.bool a b => subst h; cases a <;> cases b <;> simp [Op.equalIn, run_underlying hu]
    case string.string.string a b => subst h; simp [Op.equalIn, run_underlying hu, beq_dec]
theorem run_part_sk {ft : Nat} {k : SK} (hk : skOf (P.underlying ft) = some k) (cs : Array Value) (off : Nat) (v : Value) (h : cs[off]? = some v) (w : World) : (part ft cs off).run P w = .ok v w := by
  have hp : plainD (P.underlying ft) = true := by
    cases hu : P.underlying ft with
    | none => simp [hu, skOf] at hk
    | some td => cases td <;> simp [hu, skOf] at hk <;> rfl
  simp [part, run_isAgg_sc hp, h]
theorem run_eqFields (d : Nat) (xs ys : List Value) : ∀ (F : List Field) (fs : List (Nat × SK)) (r : Bool),
    (F.mapM fun f => if f.name ≠ "_" then (skOf (P.underlying f.type)).map fun k => (f.offset, k) else none) = some fs → eqFs xs ys fs = some r → ∀ w : World, (Op.eqFields (d + 1) xs.toArray ys.toArray F).run P w = .ok r w
  | [], fs, r, h, hr, w => by
    simp at h; subst h
    simp [eqFs] at hr; subst hr
    simp [Op.eqFields]
  | f :: F, fs, r, h, hr, w => by
    rw [List.mapM_cons] at h
    by_cases hn : f.name ≠ "_"
    · rw [if_pos hn] at h
      cases hk : skOf (P.underlying f.type) with
      | none => simp [hk] at h
      | some k =>
        cases hF : (F.mapM fun f => if f.name ≠ "_" then (skOf (P.underlying f.type)).map fun k => (f.offset, k) else none) with
        | none => simp only [hk, hF] at h; simp at h
        | some fs' =>
          simp only [hk, hF] at h
          simp at h
          subst h
          simp only [eqFs] at hr
          cases ha : xs[f.offset]? with
          | none => simp [ha, eqF, andO] at hr
          | some a =>
            cases hb : ys[f.offset]? with
            | none => simp [ha, hb, eqF, andO] at hr
            | some b =>
              simp only [ha, hb, eqF] at hr
              cases hc : eqCell k a b with
              | none => simp [hc, andO] at hr
              | some p =>
                cases hrest : eqFs xs ys fs' with
                | none => simp [hc, hrest, andO] at hr
                | some s =>
                  simp [hc, hrest, andO] at hr
                  have h1 := run_part_sk hk xs.toArray f.offset a (by simpa using ha) w
                  have h2 := run_part_sk hk ys.toArray f.offset b (by simpa using hb) w
                  have h3 := run_eqCell (d := d) hk hc w
                  have h4 := run_eqFields d xs ys F fs' s hF hrest w
                  rw [Op.eqFields]
                  simp only [if_pos hn, Sem.run_bind, h1, h2, h3, Result.andThen_ok]
                  subst hr
                  cases p
                  · simp
                  · simpa using h4
    · rw [if_neg hn] at h
      simp at h
def eqM (o : Option Bool) (K : Bool → Prop) (z : Prop) : Prop := match o with | some b => K b | none => z
theorem eqM_some (b : Bool) (K : Bool → Prop) (z : Prop) : eqM (some b) K z = K b := (fun h => h) rfl
theorem run_eqS {fs : List (Nat × SK)} [h : TEq P t fs] {xs ys : List Value} {r : Bool} (hr : eqFs xs ys fs = some r) (w : World) :
    P.eqGuardType P.depth t = false ∧ (Op.equalIn 10000 t (.agg xs.toArray) (.agg ys.toArray)).run P w = .ok r w := by
  have hu := h.u
  unfold eqD at hu
  cases hd : P.underlying t with
  | none => simp [hd] at hu
  | some td =>
    cases td with
    | struct F =>
      simp only [hd] at hu
      by_cases hc : P.stoodInHeld t = false ∧ P.eqGuardType P.depth t = false
      · rw [if_pos hc] at hu
        refine ⟨hc.2, ?_⟩
        have hf : P.fieldsOf t = F := by simp [Program.fieldsOf, hd]
        rw [run_equalIn_struct (P := P) w 9999 t xs.toArray ys.toArray (by rw [hf]; exact hd) hc.1, hf]
        exact run_eqFields 9998 xs ys F.toList fs r hu hr w
      · rw [if_neg hc] at hu; cases hu
    | _ => simp [hd] at hu
def eqZ (q : Md) (P : Program) (op : BinOp) (t : TypeId) (x y : Operand) (a b : Value) (K : Value → World → Prop) (pan : List PanicEntry → World → Prop) (w : World) : Prop := binE q P op t x y a b K pan w
theorem s_eqS {fs : List (Nat × SK)} [h : TEq P t fs] (x y : Operand) (xs ys : List Value) :
    binE q P .eql t x y (.agg xs.toArray) (.agg ys.toArray) K pan w = eqM (eqFs xs ys fs) (fun b => K (.bool b) w) (eqZ q P .eql t x y (Value.agg xs.toArray) (Value.agg ys.toArray) K pan w) := by
  cases hr : eqFs xs ys fs with
  | none => rfl
  | some r =>
    refine runS_pure fun w => ?_
    rw [Sem.run_bind, run_eqGuard_agg w _ _ _ _ _ _ (run_eqS hr w).1, Result.andThen_ok, run_eql_struct, (run_eqS hr w).2]
    rfl
theorem s_neS {fs : List (Nat × SK)} [h : TEq P t fs] (x y : Operand) (xs ys : List Value) :
    binE q P .neq t x y (.agg xs.toArray) (.agg ys.toArray) K pan w = eqM (eqFs xs ys fs) (fun b => K (.bool (!b)) w) (eqZ q P .neq t x y (Value.agg xs.toArray) (Value.agg ys.toArray) K pan w) := by
  cases hr : eqFs xs ys fs with
  | none => rfl
  | some r =>
    refine runS_pure fun w => ?_
    rw [Sem.run_bind, run_eqGuard_agg w _ _ _ _ _ _ (run_eqS hr w).1, Result.andThen_ok, run_neq_struct, (run_eqS hr w).2]
    rfl
theorem eqFs_nil (xs ys : List Value) : eqFs xs ys [] = some true := (fun h => h) rfl
theorem eqFs_cons (xs ys : List Value) (o : Nat) (k : SK) (r : List (Nat × SK)) : eqFs xs ys ((o, k) :: r) = andO (eqF k (xs[o]?) (ys[o]?)) (eqFs xs ys r) := (fun h => h) rfl
theorem eqF_i (k : IntKind) (a b : Int) : eqF .i (some (.int k a)) (some (.int k b)) = some (decide (a = b)) := by simp [eqF, eqCell]
theorem eqF_s (a b : ByteArray) : eqF .s (some (.string a)) (some (.string b)) = some (decide (a = b)) := (fun h => h) rfl
theorem eqF_b (a b : Bool) : eqF .b (some (.bool a)) (some (.bool b)) = some (decide (a = b)) := (fun h => h) rfl
theorem andO_some (a b : Bool) : andO (some a) (some b) = some (a && b) := (fun h => h) rfl
theorem dec_and (p q : Prop) [Decidable p] [Decidable q] : (decide p && decide q) = decide (p ∧ q) := by simp
theorem not_dec (p : Prop) [Decidable p] : (!decide p) = decide (¬ p) := by simp
end
end Go.Proofs.YtokoohdpakhphaaDoor.VC
namespace Go.Proofs.YtokoohdpakhphaaDoor.VC
open Go Go.RowKit
set_option linter.unusedSimpArgs false
abbrev Blk := List Value × Nat
def tow (w : World) : List Blk → World
  | [] => w
  | (cs, t) :: l => tow (w.alloc (.cells cs.toArray t)) l
theorem tow_nil (w : World) : tow w [] = w := (fun h => h) rfl
theorem tow_alloc : ∀ (w : World) (L : List Blk) (cs : List Value) (t : Nat), (tow w L).alloc (.cells cs.toArray t) = tow w (L ++ [(cs, t)])
  | w, [], cs, t => rfl
  | w, (c, u) :: L, cs, t => by rw [tow, tow_alloc]; rfl
theorem size_tow : ∀ (w : World) (L : List Blk), (tow w L).heap.size = w.heap.size + L.length
  | w, [] => rfl
  | w, (c, u) :: L => by rw [tow, size_tow]; simp; omega
theorem heap_tow : ∀ (L : List Blk) (w : World) (i : Nat), (tow w L).heap[w.heap.size + i]? = (L[i]?).map fun b => .cells b.1.toArray b.2 (0, 0)
  | [], w, i => by simp [tow]
  | (c, u) :: L, w, 0 => by
    rw [tow]
    have : ∀ (L : List Blk) (w : World) (k : Nat), k < w.heap.size → (tow w L).heap[k]? = w.heap[k]? := by
      intro L
      induction L with
      | nil => intro w k _; rfl
      | cons b L ih => intro w k hk; rw [tow, ih _ _ (by simp; omega), Below.heap_alloc w _ k hk]
    rw [this L _ _ (by simp)]
    exact heap_alloc_new w _
  | (c, u) :: L, w, i + 1 => by
    rw [tow]
    have := heap_tow L (w.alloc (.cells c.toArray u)) i
    rw [show (w.alloc (.cells c.toArray u)).heap.size + i = w.heap.size + (i + 1) by simp; omega] at this
    simpa using this
theorem heap_tow_old : ∀ (L : List Blk) (w : World) (k : Nat), k < w.heap.size → (tow w L).heap[k]? = w.heap[k]?
  | [], w, k, _ => rfl
  | (c, u) :: L, w, k, hk => by rw [tow, heap_tow_old L _ k (by simp; omega), Below.heap_alloc w _ k hk]
theorem below_tow (w : World) : ∀ (L : List Blk) {B : Nat} {a : World}, Below B a w → B ≤ w.heap.size → Below B a (tow w L)
  | [], _, _, h, _ => h
  | (c, u) :: L, _, _, h, hB => below_tow (w.alloc (.cells c.toArray u)) L (h.alloc hB _) (by simp; omega)
theorem cellO_tow (w : World) (L : List Blk) (i k : Nat) : cellO (tow w L) (some ⟨w.heap.size + i, k, none⟩) = (L[i]?).bind fun b => b.1[k]? := by
  show World.cell? _ _ = _
  unfold World.cell?
  simp only [heap_tow]
  cases L[i]? with
  | none => rfl
  | some b => simp
theorem cellO_tow0 (w : World) (L : List Blk) (k : Nat) : cellO (tow w L) (some ⟨w.heap.size, k, none⟩) = (L[0]?).bind fun b => b.1[k]? := cellO_tow w L 0 k
theorem cell?_tow_old (w : World) (L : List Blk) (p : Addr) (h : p.block < w.heap.size) : (tow w L).cell? p = w.cell? p := by
  unfold World.cell?
  rw [heap_tow_old L w _ h]
theorem Rd.tow {w : World} {B : Nat} {a : Option Addr} {vs : List Value} (h : Rd w B a vs) (hB : B ≤ w.heap.size) (L : List Blk) : Rd (tow w L) B a vs := h.keep fun p hp => cell?_tow_old w L p (by omega)
theorem cellsFrom_tow (w : World) (L : List Blk) (i : Nat) (b : Blk) (hb : L[i]? = some b) : ∀ (n k j : Nat), k + j + n ≤ b.1.length → cellsFrom (tow w L) ⟨w.heap.size + i, k, none⟩ j n = some ((b.1.drop (k + j)).take n)
  | 0, k, j, h => by simp [cellsFrom]
  | n + 1, k, j, h => by
    have hadd : (⟨w.heap.size + i, k, none⟩ : Addr).add j = ⟨w.heap.size + i, k + j, none⟩ := by unfold Addr.add; split <;> simp_all
    have hc := cellO_tow w L i (k + j)
    rw [hb] at hc
    simp only [cellO, Option.bind_some] at hc
    have hlt : k + j < b.1.length := by omega
    rw [List.getElem?_eq_getElem hlt] at hc
    simp only [cellsFrom, hadd, hc, cellsFrom_tow w L i b hb n k (j + 1) (by omega)]
    rw [List.drop_eq_getElem_cons hlt, List.take_succ_cons]
    rfl
def cutB (o : Option Blk) (k n : Nat) : Option (List Value) := match o with | some b => if k + n ≤ b.1.length then some ((b.1.drop k).take n) else none | none => none
def cellsZ (w : World) (p : Option Addr) (n : Nat) : Option (List Value) := cellsO w p n
def cellsQ (o : Option (List Value)) (z : Option (List Value)) : Option (List Value) := match o with | some l => some l | none => z
theorem cellsQ_some (l : List Value) (z : Option (List Value)) : cellsQ (some l) z = some l := (fun h => h) rfl
theorem cellsO_tow (w : World) (L : List Blk) (i k n : Nat) : cellsO (tow w L) (some ⟨w.heap.size + i, k, none⟩) n = cellsQ (cutB (L[i]?) k n) (cellsZ (tow w L) (some ⟨w.heap.size + i, k, none⟩) n) := by
  cases hb : L[i]? with
  | none => rfl
  | some b =>
    unfold cutB
    by_cases h : k + n ≤ b.1.length
    · simp only [if_pos h, cellsQ]
      have := cellsFrom_tow w L i b hb n k 0 (by omega)
      show cellsFrom (tow w L) _ 0 n = _
      rw [this, Nat.add_zero]
    · simp only [if_neg h, cellsQ]; rfl
theorem cellsO_tow0 (w : World) (L : List Blk) (k n : Nat) : cellsO (tow w L) (some ⟨w.heap.size, k, none⟩) n = cellsQ (cutB (L[0]?) k n) (cellsZ (tow w L) (some ⟨w.heap.size + 0, k, none⟩) n) := cellsO_tow w L 0 k n
theorem cutB_some (b : Blk) (k n : Nat) : cutB (some b) k n = if k + n ≤ b.1.length then some ((b.1.drop k).take n) else none := (fun h => h) rfl
theorem add_lit (b k n : Nat) : (⟨b, k, none⟩ : Addr).add n = ⟨b, k + n, none⟩ := by unfold Addr.add; split <;> simp_all

/-- a block written -/
def putB (L : List Blk) (i k : Nat) (v : Value) : List Blk := L.modify i fun b => (b.1.set k v, b.2)
theorem setCell_tow_old : ∀ (L : List Blk) (w : World) (n k : Nat) (v : Value), n < w.heap.size → (tow w L).setCell ⟨n, k, none⟩ v = tow (w.setCell ⟨n, k, none⟩ v) L
  | [], w, n, k, v, _ => rfl
  | (c, u) :: L, w, n, k, v, h => by
    rw [tow, setCell_tow_old L _ n k v (by simp; omega), World.setCell_alloc_past _ n k v h]
    rfl
theorem setCell_tow : ∀ (L : List Blk) (w : World) (i k : Nat) (v : Value), i < L.length → (tow w L).setCell ⟨w.heap.size + i, k, none⟩ v = tow w (putB L i k v)
  | [], w, i, k, v, h => by simp at h
  | (c, u) :: L, w, 0, k, v, _ => by
    rw [tow, setCell_tow_old L _ _ k v (by simp), Nat.add_zero, World.setCell_alloc_at _ _ _ k v rfl]
    simp [putB, tow]
  | (c, u) :: L, w, i + 1, k, v, h => by
    have := setCell_tow L (w.alloc (.cells c.toArray u)) i k v (by simpa using h)
    rw [show (w.alloc (.cells c.toArray u)).heap.size + i = w.heap.size + (i + 1) by simp; omega] at this
    rw [tow, this]
    simp [putB, tow]
theorem frozen_tow (w : World) (L : List Blk) (i k : Nat) (h : i < L.length) : (tow w L).frozen? ⟨w.heap.size + i, k, none⟩ = false := by
  unfold World.frozen?
  simp only [heap_tow, List.getElem?_eq_getElem h, Option.map_some]
  simp
section
variable {P : Program} {K : Value → World → Prop} {pan : List PanicEntry → World → Prop} {w : World} {t sz : Nat}
def stM (o : Option Value) (k z : Prop) : Prop := match o with | some _ => k | none => z
theorem stM_some (v : Value) (k z : Prop) : stM (some v) k z = k := (fun h => h) rfl
def stZ (P : Program) (t : Nat) (p : Option Addr) (v : Value) (K : Value → World → Prop) (pan : List PanicEntry → World → Prop) (w : World) : Prop := runT .ord P (Instr.storeAt t (.pointer p) v) K pan w
theorem m_storeT (L : List Blk) (i k : Nat) (v : Value) [h : TSc P t] [ho : OneC v] :
    runT .ord P (Instr.storeAt t (.pointer (some ⟨w.heap.size + i, k, none⟩)) v) K pan (tow w L) = stM ((L[i]?).bind fun b => b.1[k]?) (K undef (tow w (putB L i k v))) (stZ P t (some ⟨w.heap.size + i, k, none⟩) v K pan (tow w L)) := by
  have hc := cellO_tow w L i k
  cases hb : (L[i]?).bind fun b => b.1[k]? with
  | none => rfl
  | some u =>
    have hi : i < L.length := by
      by_cases hlt : i < L.length
      · exact hlt
      · rw [List.getElem?_eq_none (by omega)] at hb; cases hb
    rw [m_store t _ v (by rw [hc, hb]; rfl) (show frozenO _ (some _) = false from frozen_tow w L i k hi)]
    show K undef ((tow w L).setCell _ v) = _
    rw [setCell_tow L w i k v hi]
    rfl
theorem m_storeT0 (L : List Blk) (k : Nat) (v : Value) [h : TSc P t] [ho : OneC v] :
    runT .ord P (Instr.storeAt t (.pointer (some ⟨w.heap.size, k, none⟩)) v) K pan (tow w L) = stM ((L[0]?).bind fun b => b.1[k]?) (K undef (tow w (putB L 0 k v))) (stZ P t (some ⟨w.heap.size + 0, k, none⟩) v K pan (tow w L)) := m_storeT L 0 k v
/-- several cells written -/
def putsB (L : List Blk) (i k : Nat) : List Value → List Blk
  | [] => L
  | v :: vs => putsB (putB L i k v) i (k + 1) vs
theorem run_storeCells_tow (w : World) (i : Nat) (k0 : Nat) : ∀ (vs : List Value) (j : Nat) (L : List Blk) (b : Blk), L[i]? = some b → k0 + j + vs.length ≤ b.1.length → (vs.all (·.oneCell')) = true →
    (storeCells ⟨w.heap.size + i, k0, none⟩ vs j).run P (tow w L) = .ok () (tow w (putsB L i (k0 + j) vs))
  | [], j, L, b, hb, h, _ => by simp [storeCells, putsB]
  | v :: vs, j, L, b, hb, h, h1 => by
    simp only [List.all_cons, Bool.and_eq_true] at h1
    simp only [List.length_cons] at h
    have hi : i < L.length := by
      by_cases hlt : i < L.length
      · exact hlt
      · rw [List.getElem?_eq_none (by omega)] at hb; cases hb
    have hc : (tow w L).cell? ⟨w.heap.size + i, k0 + j, none⟩ = some (b.1[k0 + j]'(by omega)) := by
      have := cellO_tow w L i (k0 + j)
      rw [hb, Option.bind_some, List.getElem?_eq_getElem (by omega)] at this
      exact this
    have hst := run_store P (tow w L) ⟨w.heap.size + i, k0 + j, none⟩ v .plain h1.1
    rw [hc] at hst
    simp only [frozen_tow w L i _ hi, Bool.false_eq_true, if_false, setCell_tow L w i _ v hi] at hst
    have hrec := run_storeCells_tow w i k0 vs (j + 1) (putB L i (k0 + j) v) (b.1.set (k0 + j) v, b.2) (by simp [putB, List.getElem?_modify, hb]) (by simp; omega) h1.2
    simp only [storeCells, add_lit, Sem.run_bind, hst, Result.andThen_ok, hrec, putsB]
    rw [Nat.add_assoc]
def stA (o : Option Blk) (k n : Nat) (vs : List Value) (q z : Prop) : Prop := match o with | some b => if vs.length = n ∧ k + n ≤ b.1.length ∧ vs.all (·.oneCell') = true then q else z | none => z
theorem stA_some (b : Blk) (k n : Nat) (vs : List Value) (q z : Prop) : stA (some b) k n vs q z = if vs.length = n ∧ k + n ≤ b.1.length ∧ vs.all (·.oneCell') = true then q else z := (fun h => h) rfl
theorem m_storeTA (L : List Blk) (i k : Nat) (vs : List Value) [h : TAg P t sz] :
    runT .ord P (Instr.storeAt t (.pointer (some ⟨w.heap.size + i, k, none⟩)) (.agg vs.toArray)) K pan (tow w L) = stA (L[i]?) k sz vs (K undef (tow w (putsB L i k vs))) (stZ P t (some ⟨w.heap.size + i, k, none⟩) (.agg vs.toArray) K pan (tow w L)) := by
  cases hb : L[i]? with
  | none => rfl
  | some b =>
    unfold stA
    by_cases hh : vs.length = sz ∧ k + sz ≤ b.1.length ∧ vs.all (·.oneCell') = true
    · simp only [if_pos hh]
      have hs : ∀ w, (sizeOf t).run P w = .ok sz w := run_sizeOf h.s
      have hst := run_storeCells_tow (P := P) w i k vs 0 L b hb (by omega) hh.2.2
      refine runT_ok ?_
      simp only [Instr.storeAt, Instr.sureAddr, Sem.run_bind, Sem.run_pure, Result.andThen_ok, storeVar, hs, Value.cells, List.size_toArray, hh.1]
      simp [hst]
    · simp only [if_neg hh]; rfl
theorem m_storeTA0 (L : List Blk) (k : Nat) (vs : List Value) [h : TAg P t sz] :
    runT .ord P (Instr.storeAt t (.pointer (some ⟨w.heap.size, k, none⟩)) (.agg vs.toArray)) K pan (tow w L) = stA (L[0]?) k sz vs (K undef (tow w (putsB L 0 k vs))) (stZ P t (some ⟨w.heap.size + 0, k, none⟩) (.agg vs.toArray) K pan (tow w L)) := m_storeTA L 0 k vs
theorem putsB_nil (L : List Blk) (i k : Nat) : putsB L i k [] = L := (fun h => h) rfl
theorem putsB_cons (L : List Blk) (i k : Nat) (v : Value) (vs : List Value) : putsB L i k (v :: vs) = putsB (putB L i k v) i (k + 1) vs := (fun h => h) rfl
theorem putB_zero (c : List Value) (u : Nat) (L : List Blk) (k : Nat) (v : Value) : putB ((c, u) :: L) 0 k v = (c.set k v, u) :: L := by simp [putB]
theorem putB_succ (b : Blk) (L : List Blk) (i k : Nat) (v : Value) : putB (b :: L) (i + 1) k v = b :: putB L i k v := by simp [putB]
theorem cells_one (v : Value) [ho : OneC v] : v.cells = [v].toArray := by
  have hv := ho.h
  cases v <;> first | rfl | cases hv
theorem one_int (k : IntKind) (n : Int) : (Value.int k n).oneCell' = true := (fun h => h) rfl
theorem one_str (s : ByteArray) : (Value.string s).oneCell' = true := (fun h => h) rfl
theorem one_bool (s : Bool) : (Value.bool s).oneCell' = true := (fun h => h) rfl
theorem one_slice (a : Option Addr) (n c : Nat) : (Value.slice a n c).oneCell' = true := (fun h => h) rfl
theorem one_ptr (a : Option Addr) : (Value.pointer a).oneCell' = true := (fun h => h) rfl
end
end Go.Proofs.YtokoohdpakhphaaDoor.VC
