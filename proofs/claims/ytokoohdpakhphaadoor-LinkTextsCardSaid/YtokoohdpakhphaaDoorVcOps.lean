/- The calculus' rules for single operations, over any program. No statement about the program stands here. -/
import Derived.Test.YtokoohdpakhphaaDoorVc
namespace Go.Proofs.YtokoohdpakhphaaDoor.VC
open Go
set_option linter.unusedVariables false

/-! ### what the rules ask of the program's types -/
class TInt (P : Program) (t : Nat) (k : outParam IntKind) : Prop where u : P.underlying t = some (.int k)
class TBool (P : Program) (t : Nat) : Prop where u : P.underlying t = some .bool
class TStr (P : Program) (t : Nat) : Prop where u : P.underlying t = some .string
class TPtr (P : Program) (t : Nat) (el : outParam Nat) : Prop where u : P.underlying t = some (.pointer el)
/-- a slice's type: its elements' type, how many cells one has, how many bytes -/
class TSl (P : Program) (t : Nat) (el sz by' : outParam Nat) : Prop where
  u : P.underlying t = some (.slice el)
  s : (P.info? el).map (fun i => (i.size, i.bytes)) = some (sz, by')
class TArr (P : Program) (t : Nat) (n el sz : outParam Nat) : Prop where
  u : P.underlying t = some (.array n el)
  s : (P.info? el).map (·.size) = some sz
/-- a type whose values are no struct, no array: one cell -/
def plainD : Option TypeDesc → Bool
  | some (.struct _) | some (.array _ _) | none => false
  | _ => true
class TSc (P : Program) (t : Nat) : Prop where
  u : plainD (P.underlying t) = true
  s : (P.info? t).map (·.size) = some 1
/-- a struct or an array of n cells -/
def aggD : Option TypeDesc → Bool
  | some (.struct _) | some (.array _ _) => true
  | _ => false
class TAg (P : Program) (t : Nat) (n : outParam Nat) : Prop where
  u : aggD (P.underlying t) = true
  s : (P.info? t).map (·.size) = some n
/-- field i of a struct: its place, its type; it has a cell -/
def fldD (i : Nat) : Option TypeDesc → Option (Nat × Nat)
  | some (.struct fs) => (fs[i]?).map fun f => (f.offset, f.type)
  | _ => none
class TFld (P : Program) (t i : Nat) (off ft : outParam Nat) : Prop where
  u : fldD i (P.underlying t) = some (off, ft)
  s : ((P.info? ft).map (fun i => decide (i.size ≠ 0))) = some true
class TZero (P : Program) (t : Nat) (z : outParam Value) : Prop where u : (P.info? t).bind (·.zero) = some z
/-- a value of one cell, by its look -/
class OneC (v : Value) : Prop where h : v.oneCell' = true
instance (b : Bool) : OneC (.bool b) := ⟨rfl⟩
instance (k : IntKind) (n : Int) : OneC (.int k n) := ⟨rfl⟩
instance (k : FloatKind) (n : Nat) : OneC (.float k n) := ⟨rfl⟩
instance (s : ByteArray) : OneC (.string s) := ⟨rfl⟩
instance (a : Option Addr) : OneC (.pointer a) := ⟨rfl⟩
instance (a : Option Addr) (n c : Nat) : OneC (.slice a n c) := ⟨rfl⟩
instance (r : Option Nat) : OneC (.map r) := ⟨rfl⟩
instance (r : Option Nat) : OneC (.chan r) := ⟨rfl⟩
instance (f : Fn) (x y : Array Value) : OneC (.func f x y) := ⟨rfl⟩
instance : OneC .nilFunc := ⟨rfl⟩
instance : OneC .nilIface := ⟨rfl⟩
instance (t : TypeId) (v : Value) : OneC (.iface t v) := ⟨rfl⟩
/-- what reads may be run so -/
class RdM (q : Md) : Prop where h : (match q with | .ahead _ => false | _ => true) = true
instance : RdM .ord := ⟨rfl⟩
instance : RdM .quiet := ⟨rfl⟩
instance : RdM .still := ⟨rfl⟩
class TIface (P : Program) (t : Nat) : Prop where u : (match P.underlying t with | some (.interface _) => true | _ => false) = true

section
variable {k1 k2 : IntKind} {el sz by' off ft sn : Nat} {z : Value}
variable {q : Md} {P : Program} {K : Value → World → Prop} {pan : List PanicEntry → World → Prop} {w : World}

/-! ### frames -/
theorem upd_get (e : Env) (d : Nat) (v : Value) (i : Nat) : upd e d v i = if i = d then v else e i := (fun h => h) rfl
theorem updo_some (e : Env) (d : Nat) (v : Value) : updo e (some d) v = upd e d v := (fun h => h) rfl
theorem updo_none (e : Env) (v : Value) : updo e none v = e := (fun h => h) rfl
theorem ev_tmp (e : Env) (t : Nat) : ev e (.tmp t) = e t := (fun h => h) rfl
theorem ev_const (e : Env) (v : Value) : ev e (.const v) = v := (fun h => h) rfl
theorem ev_global (e : Env) (g : Nat) : ev e (.global g) = .pointer (some ⟨g, 0, none⟩) := (fun h => h) rfl
theorem ev_func (e : Env) (f : Nat) : ev e (.func f) = .func (.func f) #[] #[] := (fun h => h) rfl
theorem Ko_app (f : Env → World → Prop) (d : Option Tmp) (e : Env) (v : Value) (w : World) : Ko f d e v w = f (updo e d v) w := (fun h => h) rfl
theorem entry_nil (i : Nat) : entry [] i = fun _ => undef := (fun h => h) rfl
theorem entry_cons (v : Value) (vs : List Value) (i : Nat) : entry (v :: vs) i = upd (entry vs (i + 1)) i v := (fun h => h) rfl
theorem upds_cons (e : Env) (i : Nat) (is : List Nat) (v : Value) (vs : List Value) : upds e (i :: is) (v :: vs) = upd (upds e is vs) i v := (fun h => h) rfl
theorem upds_nil (e : Env) (vs : List Value) : upds e [] vs = e := by cases vs <;> rfl

/-! ### code -/
section
variable {N : Nat} {k : Env → World → Prop} {X : Ex} {e : Env}
theorem vc_skip : vc P N .skip k X e w = k e w := (fun h => h) rfl
theorem vc_label (l : Nat) : vc P N (.label l) k X e w = k e w := (fun h => h) rfl
theorem vc_region (id : Nat) (l : List Oper) : vc P N (.region id l.toArray false) k X e w = vops P .ord l k X l e w := (fun h => h) rfl
theorem vc_draw (id : Nat) (l : List Oper) : vc P N (.region id l.toArray true) k X e w = DrawP P N id l.toArray k X e w := (fun h => h) rfl
theorem vc_seq (x y : Code) : vc P N (.seq x y) k X e w = vc P N x (vc P N y k X) X e w := (fun h => h) rfl
def condQ (P : Program) (N : Nat) (v : Value) (x y : Code) (k : Env → World → Prop) (X : Ex) (e : Env) (w : World) : Prop := boolP v (vc P N x k X e w) (vc P N y k X e w)
theorem vc_cond (c : Operand) (x y : Code) : vc P N (.cond c x y) k X e w = condQ P N (ev e c) x y k X e w := (fun h => h) rfl
theorem condQ_true (x y : Code) : condQ P N (.bool true) x y k X e w = vc P N x k X e w := by simp [condQ, boolP]
theorem condQ_false (x y : Code) : condQ P N (.bool false) x y k X e w = vc P N y k X e w := by simp [condQ, boolP]
theorem condQ_pos {c : Prop} [Decidable c] (h : c) (x y : Code) : condQ P N (.bool (decide c)) x y k X e w = vc P N x k X e w := by rw [decide_eq_true h]; exact condQ_true x y
theorem condQ_neg {c : Prop} [Decidable c] (h : ¬ c) (x y : Code) : condQ P N (.bool (decide c)) x y k X e w = vc P N y k X e w := by rw [decide_eq_false h]; exact condQ_false x y
theorem cond_split {c : Prop} [Decidable c] {x y : Code} (h1 : c → vc P N x k X e w) (h2 : ¬ c → vc P N y k X e w) : condQ P N (.bool (decide c)) x y k X e w := by
  by_cases h : c
  · rw [condQ_pos h]; exact h1 h
  · rw [condQ_neg h]; exact h2 h
theorem cond_bool {b : Bool} {x y : Code} (h1 : b = true → vc P N x k X e w) (h2 : b = false → vc P N y k X e w) : condQ P N (.bool b) x y k X e w := by
  cases b
  · rw [condQ_false]; exact h2 rfl
  · rw [condQ_true]; exact h1 rfl
/-- an 'if' whose ways meet behind it -/
theorem cond_join {v : Value} {x y : Code} {σ : Type} (L : List Nat) (enc : σ → List Value) (K' : List Nat) (I : σ → World → Prop)
    (h1 : condQ P N v x y (Meet L enc K' (K'.map e) I) X e w) (h2 : ∀ (b : Env) s w', I s w' → k (upds (upds b K' (K'.map e)) L (enc s)) w') : condQ P N v x y k X e w := by
  obtain ⟨b, hb, h⟩ := h1
  refine ⟨b, hb, ?_⟩
  cases b with
  | true => exact vc_join L enc K' I h h2
  | false => exact vc_join L enc K' I h h2
theorem vc_block (id : Nat) (c : Code) : vc P N (.block id c) k X e w = vc P N c k (exBlock id k X) e w := (fun h => h) rfl
theorem exBlock_ret (id : Nat) (k : Env → World → Prop) (X : Ex) : (exBlock id k X).ret = X.ret := (fun h => h) rfl
theorem exBlock_gto (id : Nat) (k : Env → World → Prop) (X : Ex) : (exBlock id k X).gto = X.gto := (fun h => h) rfl
theorem exBlock_pan (id : Nat) (k : Env → World → Prop) (X : Ex) : (exBlock id k X).pan = X.pan := (fun h => h) rfl
theorem exBlock_brk (id : Nat) (k : Env → World → Prop) (X : Ex) : (exBlock id k X).brk id = k := by funext e w; simp [exBlock, brkB]
theorem exBlock_brk_ne (id i : Nat) (h : i ≠ id) (k : Env → World → Prop) (X : Ex) : (exBlock id k X).brk i = X.brk i := by funext e w; simp [exBlock, brkB, h]
theorem exGto_ret (f : Nat → Env → World → Prop) (X : Ex) : (exGto f X).ret = X.ret := (fun h => h) rfl
theorem exGto_gto (f : Nat → Env → World → Prop) (X : Ex) : (exGto f X).gto = f := (fun h => h) rfl
theorem exGto_pan (f : Nat → Env → World → Prop) (X : Ex) : (exGto f X).pan = X.pan := (fun h => h) rfl
theorem exGto_brk (f : Nat → Env → World → Prop) (X : Ex) : (exGto f X).brk = X.brk := (fun h => h) rfl
theorem noEx_ret (fn : Func) (R : Ending → World → Prop) : (noEx P fn R).ret = retK P fn R := (fun h => h) rfl
theorem noEx_pan (fn : Func) (R : Ending → World → Prop) : (noEx P fn R).pan = fun ch w => R (.panicked ch) w := (fun h => h) rfl
theorem vcTo_seq (l : Nat) (x y : Code) (J : Env → World → Prop) : vcTo P N l (.seq x y) J X e w = if isLab l x = true then J e w else vc P N x (vcTo P N l y J X) X e w := (fun h => h) rfl
theorem isLab_label (l l' : Nat) : isLab l (.label l') = (l' == l) := (fun h => h) rfl
theorem isLab_region (l id : Nat) (ops : Array Oper) (d : Bool) : isLab l (.region id ops d) = false := (fun h => h) rfl
theorem isLab_block (l id : Nat) (c : Code) : isLab l (.block id c) = false := (fun h => h) rfl
theorem isLab_cond (l : Nat) (c : Operand) (x y : Code) : isLab l (.cond c x y) = false := (fun h => h) rfl
theorem isLab_seq (l : Nat) (x y : Code) : isLab l (.seq x y) = false := (fun h => h) rfl
theorem isLab_loop (l : Nat) (x : Code) : isLab l (.loop x) = false := (fun h => h) rfl
theorem vc_loop (c : Code) : vc P N (.loop c) k X e w = LoopP P N c k X e w := (fun h => h) rfl
theorem vc_exit (id : Nat) : vc P N (.exit id) k X e w = X.brk id e w := (fun h => h) rfl
theorem vc_scope (c : Code) : vc P N (.scope c) k X e w = ScopeP P N c k X e w := (fun h => h) rfl
theorem vc_goto (l : Nat) : vc P N (.goto l) k X e w = X.gto l e w := (fun h => h) rfl
theorem vc_ret : vc P N .ret k X e w = X.ret e w := (fun h => h) rfl
theorem brkB_eq (id : Nat) (f : Nat → Env → World → Prop) : brkB id k f id e w = k e w := by simp [brkB]
theorem brkB_ne (id i : Nat) (h : i ≠ id) (f : Nat → Env → World → Prop) : brkB id k f i e w = f i e w := by simp [brkB, h]
theorem Dn_app : Dn k e w = ∀ n, k e (w.drewN n) := (fun h => h) rfl

theorem vops_nil (all : List Oper) : vops P q all k X [] e w = k e w := (fun h => h) rfl
theorem vops_plain (all rest : List Oper) (d : Option Tmp) (op : Op) (ty : TypeId) (pos : String) (af : Array Edge) :
    vops P q all k X (⟨d, op, ty, pos, af, none⟩ :: rest) e w = runX q P (execOp (ev e) ⟨d, op, ty, pos, af, none⟩) (Ko (vops P q all k X rest) d e) X.pan w := (fun h => h) rfl
/-- a guarded operation, its guard read off the frame -/
def grdQ (P : Program) (q : Md) (all : List Oper) (k : Env → World → Prop) (X : Ex) (o : Oper) (rest : List Oper) (v : Value) (b : Bool) (e : Env) (w : World) : Prop :=
  grd (boolOf v) b (runX q P (execOp (ev e) o) (Ko (vops P q all k X rest) o.dst e) X.pan w) (vops P q all k X rest (updo e o.dst undef) w)
def slotV : List Oper → Nat → Env → Value
  | [], _, _ => undef
  | o :: _, 0, e => match o.dst with | some d => e d | none => undef
  | _ :: l, j + 1, e => slotV l j e
theorem slotV_zero (l : List Oper) (d : Nat) (op : Op) (ty : TypeId) (pos : String) (af : Array Edge) (g : Option (Nat × Bool)) : slotV (⟨some d, op, ty, pos, af, g⟩ :: l) 0 e = e d := (fun h => h) rfl
theorem slotV_succ (o : Oper) (l : List Oper) (j : Nat) : slotV (o :: l) (j + 1) e = slotV l j e := (fun h => h) rfl
theorem slotV_eq : ∀ (all : List Oper) (j : Nat), yieldE all e j = boolOf (slotV all j e)
  | [], j => rfl
  | o :: l, 0 => by
    simp only [yieldE, slotV, List.getElem?_cons_zero, Option.bind_some]
    cases o.dst <;> rfl
  | o :: l, j + 1 => by
    simp only [slotV, ← slotV_eq l j, yieldE, List.getElem?_cons_succ]
theorem vops_guard (all rest : List Oper) (d : Option Tmp) (op : Op) (ty : TypeId) (pos : String) (af : Array Edge) (j : Nat) (b : Bool) :
    vops P q all k X (⟨d, op, ty, pos, af, some (j, b)⟩ :: rest) e w = grdQ P q all k X ⟨d, op, ty, pos, af, some (j, b)⟩ rest (slotV all j e) b e w := by
  simp only [vops, grdQ, slotV_eq]
theorem grdQ_yes (all rest : List Oper) (o : Oper) (b : Bool) : grdQ P q all k X o rest (.bool b) b e w = runX q P (execOp (ev e) o) (Ko (vops P q all k X rest) o.dst e) X.pan w := by simp [grdQ, grd, boolOf]
theorem grdQ_no (all rest : List Oper) (o : Oper) (b : Bool) : grdQ P q all k X o rest (.bool b) (!b) e w = vops P q all k X rest (updo e o.dst undef) w := by cases b <;> simp [grdQ, grd, boolOf]
theorem grdQ_undef (all rest : List Oper) (o : Oper) (b : Bool) : grdQ P q all k X o rest undef b e w = vops P q all k X rest (updo e o.dst undef) w := by simp [grdQ, grd, boolOf, undef]
theorem grdQ_tf (all rest : List Oper) (o : Oper) : grdQ P q all k X o rest (.bool true) false e w = vops P q all k X rest (updo e o.dst undef) w := by simp [grdQ, grd, boolOf]
theorem grdQ_ft (all rest : List Oper) (o : Oper) : grdQ P q all k X o rest (.bool false) true e w = vops P q all k X rest (updo e o.dst undef) w := by simp [grdQ, grd, boolOf]
theorem grdQ_pos_t {c : Prop} [Decidable c] (h : c) (all rest : List Oper) (o : Oper) : grdQ P q all k X o rest (.bool (decide c)) true e w = runX q P (execOp (ev e) o) (Ko (vops P q all k X rest) o.dst e) X.pan w := by simp [grdQ, grd, boolOf, h]
theorem grdQ_neg_t {c : Prop} [Decidable c] (h : ¬ c) (all rest : List Oper) (o : Oper) : grdQ P q all k X o rest (.bool (decide c)) true e w = vops P q all k X rest (updo e o.dst undef) w := by simp [grdQ, grd, boolOf, h]
theorem grdQ_pos_f {c : Prop} [Decidable c] (h : c) (all rest : List Oper) (o : Oper) : grdQ P q all k X o rest (.bool (decide c)) false e w = vops P q all k X rest (updo e o.dst undef) w := by simp [grdQ, grd, boolOf, h]
theorem grdQ_neg_f {c : Prop} [Decidable c] (h : ¬ c) (all rest : List Oper) (o : Oper) : grdQ P q all k X o rest (.bool (decide c)) false e w = runX q P (execOp (ev e) o) (Ko (vops P q all k X rest) o.dst e) X.pan w := by simp [grdQ, grd, boolOf, h]
end

section
variable {S : World → Prop} {k : Env → World → Prop} {X : Ex} {e : Env} {all : List Oper}
theorem vplan_nil : vplan P S all k X [] e w = k e w := (fun h => h) rfl
def vstep (P : Program) (S : World → Prop) (all : List Oper) (k : Env → World → Prop) (X : Ex) (fl : Bool) (pl : Plan) (o : Option Oper) (e : Env) (w : World) : Prop :=
  match o with
  | none => False
  | some o =>
    match o.guard with
    | none => if fl = true then runX (.ahead S) P (execOp (ev e) o) (Ko (vplan P S all k X pl) o.dst e) X.pan w else runX .ord P (execOp (ev e) o) (Kh S (Ko (vplan P S all k X pl) o.dst e)) X.pan w
    | some (j, b) => grd (yieldE all e j) b
        (if fl = true then runX (.ahead S) P (execOp (ev e) o) (Ko (vplan P S all k X pl) o.dst e) X.pan w else runX .ord P (execOp (ev e) o) (Kh S (Ko (vplan P S all k X pl) o.dst e)) X.pan w)
        (vplan P S all k X pl (updo e o.dst undef) w)
theorem vplan_cons (i : Nat) (fl : Bool) (pl : Plan) : vplan P S all k X ((i, fl) :: pl) e w = vstep P S all k X fl pl (all[i]?) e w := (fun h => h) rfl
theorem vstep_take (pl : Plan) (d : Option Tmp) (op : Op) (ty : TypeId) (pos : String) (af : Array Edge) :
    vstep P S all k X true pl (some ⟨d, op, ty, pos, af, none⟩) e w = runX (.ahead S) P (execOp (ev e) ⟨d, op, ty, pos, af, none⟩) (Ko (vplan P S all k X pl) d e) X.pan w := by simp [vstep]
theorem vstep_only (pl : Plan) (d : Option Tmp) (op : Op) (ty : TypeId) (pos : String) (af : Array Edge) :
    vstep P S all k X false pl (some ⟨d, op, ty, pos, af, none⟩) e w = runX .ord P (execOp (ev e) ⟨d, op, ty, pos, af, none⟩) (Kh S (Ko (vplan P S all k X pl) d e)) X.pan w := by simp [vstep]
def runH (P : Program) (S : World → Prop) (all : List Oper) (k : Env → World → Prop) (X : Ex) (fl : Bool) (pl : Plan) (o : Oper) (e : Env) (w : World) : Prop :=
  if fl = true then runX (.ahead S) P (execOp (ev e) o) (Ko (vplan P S all k X pl) o.dst e) X.pan w else runX .ord P (execOp (ev e) o) (Kh S (Ko (vplan P S all k X pl) o.dst e)) X.pan w
theorem runH_t (pl : Plan) (o : Oper) : runH P S all k X true pl o e w = runX (.ahead S) P (execOp (ev e) o) (Ko (vplan P S all k X pl) o.dst e) X.pan w := by simp [runH]
theorem runH_f (pl : Plan) (o : Oper) : runH P S all k X false pl o e w = runX .ord P (execOp (ev e) o) (Kh S (Ko (vplan P S all k X pl) o.dst e)) X.pan w := by simp [runH]
def grdH (P : Program) (S : World → Prop) (all : List Oper) (k : Env → World → Prop) (X : Ex) (fl : Bool) (pl : Plan) (o : Oper) (v : Value) (b : Bool) (e : Env) (w : World) : Prop :=
  grd (boolOf v) b (runH P S all k X fl pl o e w) (vplan P S all k X pl (updo e o.dst undef) w)
theorem vstep_guard (fl : Bool) (pl : Plan) (d : Option Tmp) (op : Op) (ty : TypeId) (pos : String) (af : Array Edge) (j : Nat) (b : Bool) :
    vstep P S all k X fl pl (some ⟨d, op, ty, pos, af, some (j, b)⟩) e w = grdH P S all k X fl pl ⟨d, op, ty, pos, af, some (j, b)⟩ (slotV all j e) b e w := by
  simp only [vstep, grdH, slotV_eq, runH]
theorem grdH_yes (fl : Bool) (pl : Plan) (o : Oper) (b : Bool) : grdH P S all k X fl pl o (.bool b) b e w = runH P S all k X fl pl o e w := by simp [grdH, grd, boolOf]
theorem grdH_undef (fl : Bool) (pl : Plan) (o : Oper) (b : Bool) : grdH P S all k X fl pl o undef b e w = vplan P S all k X pl (updo e o.dst undef) w := by simp [grdH, grd, boolOf, undef]
theorem grdH_tf (fl : Bool) (pl : Plan) (o : Oper) : grdH P S all k X fl pl o (.bool true) false e w = vplan P S all k X pl (updo e o.dst undef) w := by simp [grdH, grd, boolOf]
theorem grdH_ft (fl : Bool) (pl : Plan) (o : Oper) : grdH P S all k X fl pl o (.bool false) true e w = vplan P S all k X pl (updo e o.dst undef) w := by simp [grdH, grd, boolOf]
theorem grdH_pos_t {c : Prop} [Decidable c] (h : c) (fl : Bool) (pl : Plan) (o : Oper) : grdH P S all k X fl pl o (.bool (decide c)) true e w = runH P S all k X fl pl o e w := by simp [grdH, grd, boolOf, h]
theorem grdH_neg_t {c : Prop} [Decidable c] (h : ¬ c) (fl : Bool) (pl : Plan) (o : Oper) : grdH P S all k X fl pl o (.bool (decide c)) true e w = vplan P S all k X pl (updo e o.dst undef) w := by simp [grdH, grd, boolOf, h]
theorem grdH_pos_f {c : Prop} [Decidable c] (h : c) (fl : Bool) (pl : Plan) (o : Oper) : grdH P S all k X fl pl o (.bool (decide c)) false e w = vplan P S all k X pl (updo e o.dst undef) w := by simp [grdH, grd, boolOf, h]
theorem grdH_neg_f {c : Prop} [Decidable c] (h : ¬ c) (fl : Bool) (pl : Plan) (o : Oper) : grdH P S all k X fl pl o (.bool (decide c)) false e w = runH P S all k X fl pl o e w := by simp [grdH, grd, boolOf, h]
theorem Kh_app (S : World → Prop) (K : Value → World → Prop) (v : Value) (w : World) : Kh S K v w = (S w ∧ K v w) := (fun h => h) rfl
end

/-! ### runs -/
def runS (q : Md) (P : Program) (s : Sem Value) (K : Value → World → Prop) (pan : List PanicEntry → World → Prop) (w : World) : Prop := runX q P (do pure (.value (← s))) K pan w
def runT (q : Md) (P : Program) (s : Sem Unit) (K : Value → World → Prop) (pan : List PanicEntry → World → Prop) (w : World) : Prop := runX q P (do s; pure .skip) K pan w

theorem drewN0 (w : World) : w.drewN 0 = w := rfl
theorem runX_reads {s : Sem Next} {v : Value} (hq : (match q with | .ahead _ => false | _ => true) = true) (h : ∀ n, s.run P (w.drewN n) = .ok (.value v) (w.drewN n)) : runX q P s K pan w = K v w := by
  cases q with
  | quiet =>
    simp only [runX, runQ]
    apply propext
    constructor
    · rintro ⟨u, h1, h2⟩
      have := h1 0
      rw [h 0] at this
      rw [this.2]; exact h2
    · intro hk
      exact ⟨v, fun n => by rw [h n]; exact ⟨rfl, rfl⟩, hk⟩
  | still =>
    have h0 := h 0
    rw [drewN0] at h0
    simp only [runX, runW, h0, Oper.quietUpon]
    apply propext
    constructor
    · rintro ⟨u, h1, h2⟩
      rw [h1.2]; exact h2
    · exact fun hk => ⟨v, ⟨trivial, rfl⟩, hk⟩
  | ord =>
    have h0 := h 0
    rw [drewN0] at h0
    simp only [runX, runN, h0]
  | ahead S => cases hq
theorem runX_yields {S : World → Prop} {s : Sem Next} {v : Value} (hS : S w) (h : ∀ w', S w' → s.run P w' = .ok (.value v) w') : runX (.ahead S) P s K pan w = K v w := by
  simp only [runX, runY]
  apply propext
  constructor
  · rintro ⟨u, h1, _, h2⟩
    rw [h w hS] at h1
    injection h1 with this _
    injection this with this
    rw [this]; exact h2
  · exact fun hk => ⟨v, h w hS, h, hk⟩
theorem runX_pure {s : Sem Next} {v : Value} (h : ∀ w, s.run P w = .ok (.value v) w) : runX q P s K pan w = K v w := by
  cases q with
  | ahead S =>
    simp only [runX, runY]
    apply propext
    constructor
    · rintro ⟨u, h1, _, h2⟩
      rw [h w] at h1
      injection h1 with this _
      injection this with this
      rw [this]; exact h2
    · exact fun hk => ⟨v, h w, fun w' _ => h w', hk⟩
  | _ => exact runX_reads rfl fun n => h _
theorem runS_reads {s : Sem Value} {v : Value} (hq : (match q with | .ahead _ => false | _ => true) = true) (h : ∀ n, s.run P (w.drewN n) = .ok v (w.drewN n)) : runS q P s K pan w = K v w :=
  runX_reads hq fun n => by simp [h n]
theorem runS_yields {S : World → Prop} {s : Sem Value} {v : Value} (hS : S w) (h : ∀ w', S w' → s.run P w' = .ok v w') : runS (.ahead S) P s K pan w = K v w :=
  runX_yields hS fun w' h' => by simp [h w' h']
theorem runS_pure {s : Sem Value} {v : Value} (h : ∀ w, s.run P w = .ok v w) : runS q P s K pan w = K v w := runX_pure fun w => by simp [h w]
theorem runS_ok {s : Sem Value} {v : Value} {w' : World} (h : s.run P w = .ok v w') : runS .ord P s K pan w = K v w' := by
  simp [runS, runX, runN, h]
theorem runT_ok {s : Sem Unit} {w' : World} (h : s.run P w = .ok () w') : runT .ord P s K pan w = K undef w' := by
  simp [runT, runX, runN, h]

section
variable {e : Env} {d : Option Tmp} {ty : TypeId} {pos : String} {af : Array Edge} {g : Option (Nat × Bool)}
theorem x_move (x : Operand) : runX q P (execOp (ev e) ⟨d, .move x, ty, pos, af, g⟩) K pan w = K (ev e x) w := runX_pure fun _ => rfl
theorem x_assign (x : Operand) : runX q P (execOp (ev e) ⟨d, .assign x, ty, pos, af, g⟩) K pan w = K (ev e x) w := runX_pure fun _ => rfl
def pickE (q : Md) (P : Program) (c a b : Value) (K : Value → World → Prop) (pan : List PanicEntry → World → Prop) (w : World) : Prop := runX q P (do pure (.value (if ← asBool c then a else b))) K pan w
theorem x_pick (c a b : Operand) : runX q P (execOp (ev e) ⟨d, .pick c a b, ty, pos, af, g⟩) K pan w = pickE q P (ev e c) (ev e a) (ev e b) K pan w := (fun h => h) rfl
def binE (q : Md) (P : Program) (op : BinOp) (t : TypeId) (x y : Operand) (a b : Value) (K : Value → World → Prop) (pan : List PanicEntry → World → Prop) (w : World) : Prop := runS q P (do eqGuard op t x y a b; binOp op t a b) K pan w
theorem x_bin (op : BinOp) (t yt : TypeId) (x y : Operand) : runX q P (execOp (ev e) ⟨d, .binOp op t x y yt, ty, pos, af, g⟩) K pan w = binE q P op t x y (ev e x) (ev e y) K pan w := (fun h => h) rfl
theorem x_un (op : UnOp) (t : TypeId) (x : Operand) : runX q P (execOp (ev e) ⟨d, .unOp op t x, ty, pos, af, g⟩) K pan w = runS q P (Op.unary op (ev e x)) K pan w := (fun h => h) rfl
theorem x_conv (s t : TypeId) (x : Operand) : runX q P (execOp (ev e) ⟨d, .convert s t x, ty, pos, af, g⟩) K pan w = runS q P (convert s t (ev e x)) K pan w := (fun h => h) rfl
theorem x_load (t : TypeId) (x : Operand) : runX q P (execOp (ev e) ⟨d, .load t x, ty, pos, af, g⟩) K pan w = runS q P (Instr.loadAt t (ev e x)) K pan w := (fun h => h) rfl
theorem x_store (t : TypeId) (x y : Operand) : runX q P (execOp (ev e) ⟨d, .store t x y, ty, pos, af, g⟩) K pan w = runT q P (Instr.storeAt t (ev e x) (ev e y)) K pan w := (fun h => h) rfl
def nilE (q : Md) (P : Program) (x : Operand) (e : Env) (K : Value → World → Prop) (pan : List PanicEntry → World → Prop) (w : World) (v : Value) : Prop := runX q P (execOp (ev e) ⟨none, .nilCheck x, 0, "", #[], none⟩) K pan w
theorem x_box (t : TypeId) (x : Operand) : runX q P (execOp (ev e) ⟨d, .box t x, ty, pos, af, g⟩) K pan w = runS q P (Instr.box t (ev e x)) K pan w := (fun h => h) rfl
theorem x_alloc (t : TypeId) : runX q P (execOp (ev e) ⟨d, .alloc t, ty, pos, af, g⟩) K pan w = runS q P (Instr.alloc t true (.tuple #[])) K pan w := (fun h => h) rfl
def evps (e : Env) : List (Nat × Operand) → List (Nat × Value)
  | [] => []
  | (i, x) :: l => (i, ev e x) :: evps e l
theorem evps_map (e : Env) (l : List (Nat × Operand)) : l.map (fun p => (p.1, ev e p.2)) = evps e l := by
  induction l with
  | nil => rfl
  | cons a l ih => simp [evps, ih]
theorem x_build (t : TypeId) (l : List (Nat × Operand)) : runX q P (execOp (ev e) ⟨d, .build t l.toArray, ty, pos, af, g⟩) K pan w = runS q P (Instr.build t (evps e l).toArray) K pan w := by
  rw [← evps_map, ← List.map_toArray]; rfl
theorem x_buildSlice (t : TypeId) (n : Nat) (l : List (Nat × Operand)) : runX q P (execOp (ev e) ⟨d, .buildSlice t n l.toArray, ty, pos, af, g⟩) K pan w = runS q P (Instr.buildSlice t n (evps e l).toArray) K pan w := by
  rw [← evps_map, ← List.map_toArray]; rfl
theorem x_makeSlice (t : TypeId) (x y : Operand) : runX q P (execOp (ev e) ⟨d, .makeSlice t x y, ty, pos, af, g⟩) K pan w = runS q P (Instr.makeSlice t (ev e x) (ev e y)) K pan w := (fun h => h) rfl
theorem x_makeIface (t : TypeId) (x : Operand) : runX q P (execOp (ev e) ⟨d, .makeInterface t x, ty, pos, af, g⟩) K pan w = runS q P (Instr.makeInterface t (ev e x)) K pan w := (fun h => h) rfl
theorem x_slice (t : TypeId) (x : Operand) (lo hi mx : Option Operand) : runX q P (execOp (ev e) ⟨d, .slice t x lo hi mx, ty, pos, af, g⟩) K pan w = runS q P (Instr.sliceAt t (ev e x) (lo.map (ev e)) (hi.map (ev e)) (mx.map (ev e))) K pan w := (fun h => h) rfl
theorem x_fieldAddr (t : TypeId) (x : Operand) (i : Nat) : runX q P (execOp (ev e) ⟨d, .fieldAddr t x i, ty, pos, af, g⟩) K pan w = runS q P (Instr.fieldAt t (ev e x) i) K pan w := (fun h => h) rfl
theorem x_field (t : TypeId) (x : Operand) (i : Nat) : runX q P (execOp (ev e) ⟨d, .field t x i, ty, pos, af, g⟩) K pan w = runS q P (Instr.field t (ev e x) i) K pan w := (fun h => h) rfl
theorem x_indexAddr (t : TypeId) (x i : Operand) : runX q P (execOp (ev e) ⟨d, .indexAddr t x i, ty, pos, af, g⟩) K pan w = runS q P (Instr.indexAt t (ev e x) (ev e i)) K pan w := (fun h => h) rfl
theorem x_index (t : TypeId) (x i : Operand) : runX q P (execOp (ev e) ⟨d, .index t x i, ty, pos, af, g⟩) K pan w = runS q P (Instr.index t (ev e x) (ev e i)) K pan w := (fun h => h) rfl
theorem x_extract (x : Operand) (i : Nat) : runX q P (execOp (ev e) ⟨d, .extract x i, ty, pos, af, g⟩) K pan w = runS q P (Instr.extract (ev e x) i) K pan w := (fun h => h) rfl
def nilV (q : Md) (P : Program) (v : Value) (K : Value → World → Prop) (pan : List PanicEntry → World → Prop) (w : World) : Prop := runX q P (execOp (fun _ => v) ⟨none, .nilCheck (.tmp 0), 0, "", #[], none⟩) K pan w
theorem x_nilCheck (x : Operand) : runX q P (execOp (ev e) ⟨d, .nilCheck x, ty, pos, af, g⟩) K pan w = nilV q P (ev e x) K pan w := (fun h => h) rfl
theorem nilC_ptr (p : Option Addr) (hp : p.isSome = true) : nilV q P (.pointer p) K pan w = K (.pointer p) w := by
  cases p with
  | none => cases hp
  | some a => exact runX_pure fun _ => by simp only [execOp, Sem.run_pure]

/-! calls -/
def callX (q : Md) (P : Program) (f : Nat) (args : List Value) (K : Value → World → Prop) (pan : List PanicEntry → World → Prop) (w : World) : Prop := runX q P (callFunc f args.toArray) K pan w
theorem x_call (f : Nat) (as : List Operand) (ats : Array TypeId) : runX q P (execOp (ev e) ⟨d, .call { callee := .value (.func f), args := as.toArray, argTypes := ats }, ty, pos, af, g⟩) K pan w = callX q P f (as.map (ev e)) K pan w := by
  have h : execOp (ev e) ⟨d, .call { callee := .value (.func f), args := as.toArray, argTypes := ats }, ty, pos, af, g⟩ = callFunc f (#[] ++ as.toArray.map (ev e) ++ #[]) := (fun h => h) rfl
  rw [h, Array.empty_append, Array.append_empty, List.map_toArray]; rfl
/-- a call of a function value -/
def callV (q : Md) (P : Program) (f : Value) (args : List Value) (K : Value → World → Prop) (pan : List PanicEntry → World → Prop) (w : World) : Prop := runX q P (do let d ← Deferred.ofValue f args.toArray; invoke d.target d.args) K pan w
theorem x_callV (t : Nat) (as : List Operand) (ats : Array TypeId) : runX q P (execOp (ev e) ⟨d, .call { callee := .value (.tmp t), args := as.toArray, argTypes := ats }, ty, pos, af, g⟩) K pan w = callV q P (e t) (as.map (ev e)) K pan w := by
  unfold callV
  rw [← List.map_toArray]
  rfl
theorem callV_func (f : Nat) (first captured : List Value) (args : List Value) : callV q P (.func (.func f) first.toArray captured.toArray) args K pan w = callX q P f (first ++ args ++ captured) K pan w := by
  have h : (do let d ← Deferred.ofValue (.func (.func f) first.toArray captured.toArray) args.toArray; invoke d.target d.args : Sem Next) = callFunc f (first.toArray ++ args.toArray ++ captured.toArray) := (fun h => h) rfl
  unfold callV callX
  rw [h]; simp
theorem x_bi (b : Builtin) (as : List Operand) (ats : Array TypeId) : runX q P (execOp (ev e) ⟨d, .call { callee := .builtin b, args := as.toArray, argTypes := ats }, ty, pos, af, g⟩) K pan w =
    runX q P (builtin b ats ty (as.toArray.map fun | .const _ => true | _ => false) (as.map (ev e)).toArray) K pan w := by
  rw [← List.map_toArray]; rfl
end
theorem bi_len (ats : Array TypeId) (ty : TypeId) (cs : Array Bool) (args : Array Value) : runX q P (builtin .len ats ty cs args) K pan w = runS q P (Builtin.len_ ats ty args) K pan w := (fun h => h) rfl
theorem bi_cap (ats : Array TypeId) (ty : TypeId) (cs : Array Bool) (args : Array Value) : runX q P (builtin .cap ats ty cs args) K pan w = runS q P (Builtin.cap_ ats ty args) K pan w := (fun h => h) rfl
theorem bi_append (ats : Array TypeId) (ty : TypeId) (cs : Array Bool) (args : Array Value) : runX q P (builtin .append ats ty cs args) K pan w = runS q P (Builtin.append_ ats ty args) K pan w := (fun h => h) rfl
theorem bi_copy (ats : Array TypeId) (ty : TypeId) (cs : Array Bool) (args : Array Value) : runX q P (builtin .copy ats ty cs args) K pan w = runS q P (Builtin.copy_ ats ty args) K pan w := (fun h => h) rfl
theorem bi_min (ats : Array TypeId) (ty : TypeId) (cs : Array Bool) (args : Array Value) : runX q P (builtin .min ats ty cs args) K pan w = runS q P (Builtin.min_ ats ty args) K pan w := (fun h => h) rfl
theorem bi_max (ats : Array TypeId) (ty : TypeId) (cs : Array Bool) (args : Array Value) : runX q P (builtin .max ats ty cs args) K pan w = runS q P (Builtin.max_ ats ty args) K pan w := (fun h => h) rfl

/-- is it a Go function with a body of its own? -/
def goFn (P : Program) (f : Nat) : Bool := match P.funcs[f]? with
  | some fn => fn.body.isSome && !(fn.name == "runtime.NumGoroutine")
  | none => false
theorem run_callFunc {f : Nat} {args : Array Value} (h : goFn P f = true) (w : World) : (callFunc f args).run P w = .ok (.enter f args) w := by
  unfold goFn at h
  cases hf : P.funcs[f]? with
  | none => simp [hf] at h
  | some fn =>
    simp only [hf, Bool.and_eq_true, Bool.not_eq_true'] at h
    have hb : fn.body ≠ none := by intro hn; simp [hn] at h
    have hn : ¬ fn.name = "runtime.NumGoroutine" := by simpa using h.2
    simp [callFunc, hf, hn, hb]
theorem call_ok {f : Nat} {args : List Value} {R : Ending → World → Prop} (hg : goFn P f = true) (hc : Calls P f args.toArray w R) (h : ∀ e w', R e w' → callK K pan e w') : callX .ord P f args K pan w := by
  simp only [callX, runX, runN, run_callFunc hg]
  exact hc.mono h
/-- a call inside a region whose order is open: it leaves the world, but for draws -/
theorem call_quiet {f : Nat} {args : List Value} {v : Value} (hg : goFn P f = true) (hc : ∀ n, Calls P f args.toArray (w.drewN n) fun e w' => e = .returned v ∧ ∃ m, w' = (w.drewN n).drewN m) (h : K v w) : callX .quiet P f args K pan w := by
  simp only [callX, runX, runQ]
  refine ⟨v, fun n => ?_, h⟩
  rw [run_callFunc hg]
  exact ⟨rfl, (hc n).mono fun e w' ⟨h1, m, h2⟩ => ⟨h1, n + m, by rw [h2, World.drewN_drewN]⟩⟩
theorem call_still {f : Nat} {args : List Value} {v : Value} (hg : goFn P f = true) (hc : Calls P f args.toArray w fun e w' => e = .returned v ∧ w = w') (h : K v w) : callX .still P f args K pan w := by
  refine ⟨v, ?_, h⟩
  rw [run_callFunc hg]
  exact ⟨rfl, hc.mono fun e w' h => ⟨h.1, h.2.symm⟩⟩
theorem callK_ret (v : Value) (w : World) : callK K pan (.returned v) w = K v w := (fun h => h) rfl

/-! ### integers -/
def Band (k : IntKind) (x y : Int) : Int := k.wrap (BitVec.ofInt k.bits x &&& BitVec.ofInt k.bits y).toNat
def Bor (k : IntKind) (x y : Int) : Int := k.wrap (BitVec.ofInt k.bits x ||| BitVec.ofInt k.bits y).toNat
def Bxor (k : IntKind) (x y : Int) : Int := k.wrap (BitVec.ofInt k.bits x ^^^ BitVec.ofInt k.bits y).toNat
def Bandn (k : IntKind) (x y : Int) : Int := k.wrap (BitVec.ofInt k.bits x &&& ~~~ BitVec.ofInt k.bits y).toNat
def Shl (k : IntKind) (x y : Int) : Int := k.wrap (x * 2 ^ (min y.toNat k.bits))
def Shr (k : IntKind) (x y : Int) : Int := x.fdiv (2 ^ (min y.toNat k.bits))
section
variable (k k' : IntKind) (t : TypeId) (x y : Operand) (a b : Int)
theorem b_add : binE q P .add t x y (.int k a) (.int k b) K pan w = K (.int k (k.wrap (a + b))) w := runS_pure fun w => by simp [eqGuard, binOp, Op.intArith]
theorem b_sub : binE q P .sub t x y (.int k a) (.int k b) K pan w = K (.int k (k.wrap (a - b))) w := runS_pure fun w => by simp [eqGuard, binOp, Op.intArith]
theorem b_mul : binE q P .mul t x y (.int k a) (.int k b) K pan w = K (.int k (k.wrap (a * b))) w := runS_pure fun w => by simp [eqGuard, binOp, Op.intArith]
theorem b_and : binE q P .and t x y (.int k a) (.int k b) K pan w = K (.int k (Band k a b)) w := runS_pure fun w => by simp [eqGuard, binOp, Op.intBits, Band]
theorem b_or : binE q P .or t x y (.int k a) (.int k b) K pan w = K (.int k (Bor k a b)) w := runS_pure fun w => by simp [eqGuard, binOp, Op.intBits, Bor]
theorem b_xor : binE q P .xor t x y (.int k a) (.int k b) K pan w = K (.int k (Bxor k a b)) w := runS_pure fun w => by simp [eqGuard, binOp, Op.intBits, Bxor]
theorem b_andn : binE q P .andNot t x y (.int k a) (.int k b) K pan w = K (.int k (Bandn k a b)) w := runS_pure fun w => by simp [eqGuard, binOp, Op.intBits, Bandn]
theorem b_quo (h : b ≠ 0) : binE q P .quo t x y (.int k a) (.int k b) K pan w = K (.int k (k.wrap (a.tdiv b))) w := runS_pure fun w => by simp [eqGuard, binOp, Op.intDiv, h]
theorem b_rem (h : b ≠ 0) : binE q P .rem t x y (.int k a) (.int k b) K pan w = K (.int k (a.tmod b)) w := runS_pure fun w => by simp [eqGuard, binOp, Op.intDiv, h]
theorem b_shl (h : 0 ≤ b) : binE q P .shl t x y (.int k a) (.int k' b) K pan w = K (.int k (Shl k a b)) w := runS_pure fun w => by
  have : ¬ b < 0 := by omega
  simp [eqGuard, binOp, Op.shift, this, Shl]
theorem b_shr (h : 0 ≤ b) : binE q P .shr t x y (.int k a) (.int k' b) K pan w = K (.int k (Shr k a b)) w := runS_pure fun w => by
  have : ¬ b < 0 := by omega
  simp [eqGuard, binOp, Op.shift, this, Shr]
theorem b_eql : binE q P .eql t x y (.int k a) (.int k b) K pan w = K (.bool (decide (a = b))) w := runS_pure fun w => by
  have : (a == b) = decide (a = b) := (fun h => h) rfl
  simp [eqGuard, binOp, Op.intCmp, this]
theorem b_neq : binE q P .neq t x y (.int k a) (.int k b) K pan w = K (.bool (decide (a ≠ b))) w := runS_pure fun w => by
  have : (a != b) = decide (a ≠ b) := by simp [bne, decide_not]; rfl
  simp only [eqGuard, binOp, Op.intCmp, this]
  simp
theorem b_lss : binE q P .lss t x y (.int k a) (.int k b) K pan w = K (.bool (decide (a < b))) w := runS_pure fun w => by simp [eqGuard, binOp, Op.intCmp]
theorem b_leq : binE q P .leq t x y (.int k a) (.int k b) K pan w = K (.bool (decide (a ≤ b))) w := runS_pure fun w => by simp [eqGuard, binOp, Op.intCmp]
theorem b_gtr : binE q P .gtr t x y (.int k a) (.int k b) K pan w = K (.bool (decide (b < a))) w := runS_pure fun w => by simp [eqGuard, binOp, Op.intCmp]
theorem b_geq : binE q P .geq t x y (.int k a) (.int k b) K pan w = K (.bool (decide (b ≤ a))) w := runS_pure fun w => by simp [eqGuard, binOp, Op.intCmp]
theorem u_neg : runS q P (Op.unary .neg (.int k a)) K pan w = K (.int k (k.wrap (0 - a))) w := runS_pure fun w => by simp [Op.unary, Op.intArith]
theorem u_xor : runS q P (Op.unary .xor (.int k a)) K pan w = K (.int k (Bxor k (if k.signed then -1 else k.max) a)) w := runS_pure fun w => by simp [Op.unary, Op.intBits, Bxor]
theorem u_not (c : Prop) [Decidable c] : runS q P (Op.unary .not (.bool (decide c))) K pan w = K (.bool (decide (¬ c))) w := runS_pure fun w => by simp [Op.unary]
theorem u_notb (b : Bool) : runS q P (Op.unary .not (.bool b)) K pan w = K (.bool (!b)) w := runS_pure fun w => by simp [Op.unary]
end
theorem pick_t (a b : Value) : pickE q P (.bool true) a b K pan w = K a w := runX_pure fun n => by simp [asBool]
theorem pick_f (a b : Value) : pickE q P (.bool false) a b K pan w = K b w := runX_pure fun n => by simp [asBool]
theorem pick_pos {c : Prop} [Decidable c] (h : c) (a b : Value) : pickE q P (.bool (decide c)) a b K pan w = K a w := by rw [decide_eq_true h]; exact pick_t a b
theorem pick_neg {c : Prop} [Decidable c] (h : ¬ c) (a b : Value) : pickE q P (.bool (decide c)) a b K pan w = K b w := by rw [decide_eq_false h]; exact pick_f a b
section
variable (s t : TypeId)
theorem c_int [hs : TInt P s k1] [ht : TInt P t k2] (k : IntKind) (n : Int) : runS q P (convert s t (.int k n)) K pan w = K (.int k2 (k2.wrap n)) w :=
  runS_pure fun w => by simp [convert, run_underlying hs.u, run_underlying ht.u, Conv.intToInt]
theorem run_equal_bool (h : P.underlying t = some .bool) (a b : Bool) (w : World) : (Op.equal t (.bool a) (.bool b)).run P w = .ok (a == b) w := by
  have : ∀ d, (Op.equalIn (d + 1) t (.bool a) (.bool b)).run P w = .ok (a == b) w := fun d => by simp [Op.equalIn, run_underlying h]
  exact this 9999
theorem b_eqb [h : TBool P t] (x y : Operand) (a b : Bool) : binE q P .eql t x y (.bool a) (.bool b) K pan w = K (.bool (decide (a = b))) w := runS_pure fun w => by
  have e : (a == b) = decide (a = b) := by cases a <;> cases b <;> rfl
  simp [eqGuard, binOp, run_equal_bool t h.u, e]
theorem b_neb [h : TBool P t] (x y : Operand) (a b : Bool) : binE q P .neq t x y (.bool a) (.bool b) K pan w = K (.bool (decide (a ≠ b))) w := runS_pure fun w => by
  have e : (!(a == b)) = decide (a ≠ b) := by cases a <;> cases b <;> rfl
  simp only [eqGuard, binOp, Sem.run_bind, run_equal_bool t h.u, Result.andThen_ok, Sem.run_pure, e]
  simp
end

/-! ### strings -/
theorem ba_ext {a b : ByteArray} (h : a.toList = b.toList) : a = b := by
  rw [ByteArray.toList_eq, ByteArray.toList_eq] at h
  cases a; cases b
  simpa using h
section
variable (t : TypeId) (x y : Operand) (a b : ByteArray)
theorem s_eql : binE q P .eql t x y (.string a) (.string b) K pan w = K (.bool (decide (a = b))) w := runS_pure fun w => by
  have e : (a.toList == b.toList) = decide (a = b) := by
    by_cases h : a = b
    · simp [h]
    · simp only [h, decide_false]
      simpa using fun hh => h (ba_ext hh)
  simp [eqGuard, binOp, Op.stringOp, e]
theorem s_neq : binE q P .neq t x y (.string a) (.string b) K pan w = K (.bool (decide (a ≠ b))) w := runS_pure fun w => by
  have e : (!(a.toList == b.toList)) = decide (a ≠ b) := by
    by_cases h : a = b
    · simp [h]
    · simp only [ne_eq, h, not_false_eq_true, decide_true]
      simpa using fun hh => h (ba_ext hh)
  simp only [eqGuard, binOp, Op.stringOp, e]
  simp
theorem s_lss : binE q P .lss t x y (.string a) (.string b) K pan w = K (.bool (Op.bytesLess a.toList b.toList)) w := runS_pure fun w => by simp [eqGuard, binOp, Op.stringOp]
theorem s_add (h : a.size + b.size ≤ 9223372036854775807) : binE q P .add t x y (.string a) (.string b) K pan w = K (.string (a ++ b)) w := runS_pure fun w => by
  have : ¬ (((a.size + b.size : Nat) : Int) > IntKind.i64.max) := by
    have : IntKind.i64.max = 9223372036854775807 := by decide
    omega
  simp [eqGuard, binOp, Op.stringOp]
  omega
end

/-! ### memory -/
def adO (a : Option Addr) (n : Nat) : Option Addr := a.map (·.add n)
def cellO (w : World) (p : Option Addr) : Option Value := p.bind w.cell?
theorem adO_some (a : Addr) (n : Nat) : adO (some a) n = some (a.add n) := (fun h => h) rfl
theorem adO_isSome (a : Option Addr) (n : Nat) : (adO a n).isSome = a.isSome := by cases a <;> rfl
theorem addr_add_add (a : Addr) (i j : Nat) : (a.add i).add j = a.add (i + j) := by
  unfold Addr.add
  by_cases hi : i = 0 <;> by_cases hj : j = 0 <;> simp [hi, hj, Nat.add_assoc]
theorem adO_adO (a : Option Addr) (i j : Nat) : adO (adO a i) j = adO a (i + j) := by cases a <;> simp [adO, addr_add_add]
theorem addr_add0 (a : Addr) : a.add 0 = a := (fun h => h) rfl
theorem adO_0 (a : Option Addr) : adO a 0 = a := by cases a <;> rfl
theorem cellO_drewN (w : World) (n : Nat) (p : Option Addr) : cellO (w.drewN n) p = cellO w p := (fun h => h) rfl
theorem cellO_some (w : World) (a : Addr) : cellO w (some a) = w.cell? a := (fun h => h) rfl

theorem run_isAgg_sc {t : TypeId} (h : plainD (P.underlying t) = true) (w : World) : (isAgg t).run P w = .ok false w := by
  unfold isAgg
  cases hu : P.underlying t with
  | none => simp [hu, plainD] at h
  | some d =>
    simp only [Sem.run_bind, run_underlying hu, Result.andThen_ok]
    cases d <;> first | rfl | simp [hu, plainD] at h
theorem run_isAgg_ag {t : TypeId} (h : aggD (P.underlying t) = true) (w : World) : (isAgg t).run P w = .ok true w := by
  unfold isAgg
  cases hu : P.underlying t with
  | none => simp [hu, aggD] at h
  | some d =>
    simp only [Sem.run_bind, run_underlying hu, Result.andThen_ok]
    cases d <;> first | rfl | simp [hu, aggD] at h
theorem run_sizeOf {t n : Nat} (h : (P.info? t).map (·.size) = some n) (w : World) : (sizeOf t).run P w = .ok n w := by
  cases hi : P.info? t with
  | none => simp [hi] at h
  | some i => simp [hi] at h; simp [sizeOf, typeInfo, hi, h]

/-- a load, the cell looked up -/
def ldM (o : Option Value) (K : Value → World → Prop) (w : World) (z : Prop) : Prop := match o with | some v => K v w | none => z
def ldZ (q : Md) (P : Program) (t : TypeId) (p : Option Addr) (K : Value → World → Prop) (pan : List PanicEntry → World → Prop) (w : World) : Prop := runS q P (Instr.loadAt t (.pointer p)) K pan w
theorem ldM_some (v : Value) (z : Prop) : ldM (some v) K w z = K v w := (fun h => h) rfl
theorem m_load (t : TypeId) [h : TSc P t] (p : Option Addr) [hq : RdM q] : runS q P (Instr.loadAt t (.pointer p)) K pan w = ldM (cellO w p) K w (ldZ q P t p K pan w) := by
  cases hc : cellO w p with
  | none => rfl
  | some v =>
    cases p with
    | none => cases hc
    | some a =>
      have hc : w.cell? a = some v := hc
      exact runS_reads hq.h fun n => by
        have hc' : (w.drewN n).cell? a = some v := hc
        simp [Instr.loadAt, Instr.sureAddr, loadVar, run_isAgg_sc h.u, hc']

/-- n cells that stand behind one another -/
def cellsFrom (w : World) (a : Addr) : Nat → Nat → Option (List Value)
  | _, 0 => some []
  | i, n + 1 => match w.cell? (a.add i), cellsFrom w a (i + 1) n with
    | some v, some l => some (v :: l)
    | _, _ => none
def cellsO (w : World) (p : Option Addr) (n : Nat) : Option (List Value) := p.bind fun a => cellsFrom w a 0 n
theorem run_loadCellsFrom (w : World) (a : Addr) : ∀ (n i : Nat) (acc : Array Value) (l : List Value), cellsFrom w a i n = some l → (loadCellsFrom a i n acc).run P w = .ok (acc ++ l.toArray) w
  | 0, i, acc, l, h => by simp [cellsFrom] at h; subst h; simp [loadCellsFrom]
  | n + 1, i, acc, l, h => by
    simp only [cellsFrom] at h
    cases hc : w.cell? (a.add i) with
    | none => simp [hc] at h
    | some v =>
      cases hr : cellsFrom w a (i + 1) n with
      | none => simp [hc, hr] at h
      | some l' =>
        simp [hc, hr] at h
        subst h
        simp [loadCellsFrom, hc, run_loadCellsFrom w a n (i + 1) (acc.push v) l' hr]
theorem cellsFrom_drewN (w : World) (m : Nat) (a : Addr) : ∀ n i, cellsFrom (w.drewN m) a i n = cellsFrom w a i n
  | 0, i => rfl
  | n + 1, i => by simp only [cellsFrom, cellsFrom_drewN w m a n]; rfl
def ldMA (o : Option (List Value)) (K : Value → World → Prop) (w : World) (z : Prop) : Prop := match o with | some v => K (.agg v.toArray) w | none => z
theorem ldMA_some (v : List Value) (z : Prop) : ldMA (some v) K w z = K (.agg v.toArray) w := (fun h => h) rfl
theorem m_loadA (t : TypeId) [h : TAg P t sz] (p : Option Addr) [hq : RdM q] : runS q P (Instr.loadAt t (.pointer p)) K pan w = ldMA (cellsO w p sz) K w (ldZ q P t p K pan w) := by
  cases hc : cellsO w p sz with
  | none => rfl
  | some v =>
    cases p with
    | none => cases hc
    | some a =>
      have hc : cellsFrom w a 0 sz = some v := hc
      exact runS_reads hq.h fun n => by
        have hc' : cellsFrom (w.drewN n) a 0 sz = some v := by rw [cellsFrom_drewN]; exact hc
        simp [Instr.loadAt, Instr.sureAddr, loadVar, run_isAgg_ag h.u, run_sizeOf h.s, loadCells, run_loadCellsFrom _ a sz 0 #[] v hc']

/-- in a planned region: a cell that every world of S holds with one value -/
theorem m_loadY {S : World → Prop} (t : TypeId) [h : TSc P t] (p : Option Addr) (v : Value) (hS : S w) (hc : ∀ w', S w' → cellO w' p = some v) : runS (.ahead S) P (Instr.loadAt t (.pointer p)) K pan w = K v w := by
  cases p with
  | none => cases hc w hS
  | some a =>
    refine runS_yields hS fun w' hS' => ?_
    have hc' : w'.cell? a = some v := hc w' hS'
    simp [Instr.loadAt, Instr.sureAddr, loadVar, run_isAgg_sc h.u, hc']

def setO (w : World) (p : Option Addr) (v : Value) : World := match p with | some a => w.setCell a v | none => w
def frozenO (w : World) (p : Option Addr) : Bool := match p with | some a => w.frozen? a | none => true
theorem m_store (t : TypeId) [h : TSc P t] (p : Option Addr) (v : Value) [ho : OneC v] (hc : (cellO w p).isSome = true) (hf : frozenO w p = false) :
    runT .ord P (Instr.storeAt t (.pointer p) v) K pan w = K undef (setO w p v) := by
  cases p with
  | none => cases hc
  | some a =>
    have hv := ho.h
    obtain ⟨u, hu⟩ := Option.isSome_iff_exists.1 hc
    have hu : w.cell? a = some u := hu
    have hf : w.frozen? a = false := hf
    refine runT_ok ?_
    have hcs : v.cells = #[v] := by cases v <;> first | rfl | cases hv
    have hs : (sizeOf t).run P w = .ok 1 w := run_sizeOf h.s w
    have hst := run_store P w a v .plain hv
    simp only [Instr.storeAt, Instr.sureAddr, Sem.run_bind, Sem.run_pure, Result.andThen_ok, storeVar, hs, hcs]
    simp [storeCells, addr_add0, hst, hu, hf, setO]

theorem m_box (t : TypeId) (v : Value) : runS .ord P (Instr.box t v) K pan w = K (.pointer (some ⟨w.heap.size, 0, none⟩)) (w.alloc (.cells v.cells t)) := runS_ok (by simp [Instr.box, newVar, newRow])
theorem m_alloc (t : TypeId) [h : TZero P t z] : runS .ord P (Instr.alloc t true (.tuple #[])) K pan w = K (.pointer (some ⟨w.heap.size, 0, none⟩)) (w.alloc (.cells z.cells t)) := by
  have hu := h.u
  cases hi : P.info? t with
  | none => simp [hi] at hu
  | some i =>
    simp [hi] at hu
    refine runS_ok ?_
    simp [Instr.alloc, zeroValue, typeInfo, hi, hu, newVar, newRow]

section
variable (t : TypeId) (i : Nat)
theorem m_fieldAt [h : TFld P t i off ft] (p : Option Addr) (hp : p.isSome = true) : runS q P (Instr.fieldAt t (.pointer p) i) K pan w = K (.pointer (adO p off)) w := by
  cases p with
  | none => cases hp
  | some a =>
    have hu := h.u
    unfold fldD at hu
    cases hd : P.underlying t with
    | none => simp [hd] at hu
    | some d =>
      cases d <;> simp [hd] at hu
      rename_i fs
      obtain ⟨f, hf, h1, h2⟩ := hu
      have hs := h.s
      rw [← h2] at hs
      cases hi : P.info? f.type with
      | none => simp [hi] at hs
      | some inf =>
        simp [hi] at hs
        exact runS_pure fun w => by simp [Instr.fieldAt, run_underlying hd, hf, Instr.sureAddr, fieldPlace, sizeOf, typeInfo, hi, hs, adO, h1]
theorem run_partSc {ft : Nat} [hs : TSc P ft] (cs : Array Value) (off : Nat) (v : Value) (h : cs[off]? = some v) (w : World) : (part ft cs off).run P w = .ok v w := by
  simp [part, run_isAgg_sc hs.u, h]
theorem run_partAg {ft n : Nat} [hs : TAg P ft n] (cs : Array Value) (off : Nat) (w : World) : (part ft cs off).run P w = .ok (.agg (cs.extract off (off + n))) w := by
  simp [part, run_isAgg_ag hs.u, run_sizeOf hs.s]
theorem run_fieldOf [h : TFld P t i off ft] (cs : Array Value) (w : World) : (Instr.field t (.agg cs) i).run P w = (part ft cs off).run P w := by
  have hu := h.u
  unfold fldD at hu
  cases hd : P.underlying t with
  | none => simp [hd] at hu
  | some d =>
    cases d <;> simp [hd] at hu
    rename_i fs
    obtain ⟨f, hf, h1, h2⟩ := hu
    simp [Instr.field, run_underlying hd, hf, asAgg, h1, h2]
def fldZ (q : Md) (P : Program) (t : TypeId) (i : Nat) (cs : Array Value) (K : Value → World → Prop) (pan : List PanicEntry → World → Prop) (w : World) : Prop := runS q P (Instr.field t (.agg cs) i) K pan w
theorem m_field [h : TFld P t i off ft] [hs : TSc P ft] (cs : Array Value) : runS q P (Instr.field t (.agg cs) i) K pan w = ldM (cs[off]?) K w (fldZ q P t i cs K pan w) := by
  cases hc : cs[off]? with
  | none => rfl
  | some v => exact runS_pure fun w => by rw [run_fieldOf t i, run_partSc cs off v hc]
theorem m_fieldA [h : TFld P t i off ft] [hs : TAg P ft sn] (cs : Array Value) : runS q P (Instr.field t (.agg cs) i) K pan w = K (.agg (cs.extract off (off + sn))) w :=
  runS_pure fun w => by rw [run_fieldOf t i, run_partAg]
theorem m_index [h : TSl P t el sz by'] (a : Option Addr) (n c : Nat) (k : IntKind) (j : Int) (ha : a.isSome = true) (h0 : 0 ≤ j) (h1 : j < n) :
    runS q P (Instr.indexAt t (.slice a n c) (.int k j)) K pan w = K (.pointer (adO a (j.toNat * sz))) w := by
  cases a with
  | none => cases ha
  | some ad =>
    have hs := h.s
    have hsz : (P.info? el).map (·.size) = some sz := by
      cases hi : P.info? el <;> simp [hi] at hs ⊢; exact hs.1
    exact runS_pure fun w => by simp [Instr.indexAt, asIntOf, run_underlying h.u, h0, h1, run_sizeOf hsz, adO]
theorem m_indexArr [h : TArr P t sn el sz] (p : Option Addr) (k : IntKind) (j : Int) (ha : p.isSome = true) (h0 : 0 ≤ j) (h1 : j < sn) :
    runS q P (Instr.indexAt t (.pointer p) (.int k j)) K pan w = K (.pointer (adO p (j.toNat * sz))) w := by
  cases p with
  | none => cases ha
  | some ad => exact runS_pure fun w => by simp [Instr.indexAt, asIntOf, run_underlying h.u, h0, h1, run_sizeOf h.s, adO, Instr.sureAddr]
/-- a string's byte -/
def bt (s : ByteArray) (i : Nat) : Int := ((s.data.toList[i]?).getD 0).toNat
theorem m_indexStr [h : TStr P t] (s : ByteArray) (k : IntKind) (j : Int) (h0 : 0 ≤ j) (h1 : j < s.size) : runS q P (Instr.index t (.string s) (.int k j)) K pan w = K (.int .u8 (bt s j.toNat)) w := by
  have hlt : j.toNat < s.size := by omega
  have hg : s[j.toNat]? = some s[j.toNat] := by rw [getElem?_pos]
  have hb : bt s j.toNat = s[j.toNat].toNat := by
    unfold bt
    have : s.data.toList[j.toNat]? = some s[j.toNat] := by
      rw [Array.getElem?_toList]
      exact Array.getElem?_eq_getElem (xs := s.data) hlt
    rw [this]; rfl
  exact runS_pure fun w => by simp [Instr.index, asIntOf, run_underlying h.u, h0, hg, hb]
theorem m_lenSl [h : TSl P t el sz by'] (ty : TypeId) (a : Option Addr) (n c : Nat) : runS q P (Builtin.len_ #[t] ty #[.slice a n c]) K pan w = K (.int .i64 n) w :=
  runS_pure fun w => by simp [Builtin.len_, run_underlying h.u, goInt]
theorem m_capSl [h : TSl P t el sz by'] (ty : TypeId) (a : Option Addr) (n c : Nat) : runS q P (Builtin.cap_ #[t] ty #[.slice a n c]) K pan w = K (.int .i64 c) w :=
  runS_pure fun w => by simp [Builtin.cap_, run_underlying h.u, goInt]
theorem m_lenStr [h : TStr P t] (ty : TypeId) (s : ByteArray) : runS q P (Builtin.len_ #[t] ty #[.string s]) K pan w = K (.int .i64 s.size) w :=
  runS_pure fun w => by simp [Builtin.len_, run_underlying h.u, goInt]
end
theorem m_extract (vs : Array Value) (i : Nat) (v : Value) (h : vs[i]? = some v) : runS q P (Instr.extract (.tuple vs) i) K pan w = K v w := runS_pure fun w => by simp [Instr.extract, h]
def extZ (q : Md) (P : Program) (vs : Array Value) (i : Nat) (K : Value → World → Prop) (pan : List PanicEntry → World → Prop) (w : World) : Prop := runS q P (Instr.extract (.tuple vs) i) K pan w
theorem m_extr (vs : Array Value) (i : Nat) : runS q P (Instr.extract (.tuple vs) i) K pan w = ldM (vs[i]?) K w (extZ q P vs i K pan w) := by
  cases hc : vs[i]? with
  | none => rfl
  | some v => exact m_extract vs i v hc
theorem m_iface (t : TypeId) (v : Value) (d : TypeDesc) (hd : P.underlying t = some d) (hn : (match d with | .interface _ => false | _ => true) = true) : runS q P (Instr.makeInterface t v) K pan w = K (.iface t v) w :=
  runS_pure fun w => by
    simp only [Instr.makeInterface, Sem.run_bind, run_underlying hd, Result.andThen_ok]
    cases d <;> first | rfl | cases hn

/-! ### results -/
theorem ret_tmp {fn : Func} {R : Ending → World → Prop} {e : Env} {t : Nat} (h : fn.results = #[.tmp t]) (hr : R (.returned (e t)) w) : retK P fn R e w :=
  ⟨#[e t], by simp [h, resE], hr⟩
theorem ret_none {fn : Func} {R : Ending → World → Prop} {e : Env} (h : fn.results = #[]) (hr : R (.returned (.tuple #[])) w) : retK P fn R e w :=
  ⟨#[], by simp [h], hr⟩
theorem ret_tmp2 {fn : Func} {R : Ending → World → Prop} {e : Env} {t u : Nat} (h : fn.results = #[.tmp t, .tmp u]) (hr : R (.returned (.tuple #[e t, e u])) w) : retK P fn R e w :=
  ⟨#[e t, e u], by simp [h, resE], hr⟩
theorem ret_tmp3 {fn : Func} {R : Ending → World → Prop} {e : Env} {t u v : Nat} (h : fn.results = #[.tmp t, .tmp u, .tmp v]) (hr : R (.returned (.tuple #[e t, e u, e v])) w) : retK P fn R e w :=
  ⟨#[e t, e u, e v], by simp [h, resE], hr⟩
theorem ret_tmp4 {fn : Func} {R : Ending → World → Prop} {e : Env} {t u v x : Nat} (h : fn.results = #[.tmp t, .tmp u, .tmp v, .tmp x]) (hr : R (.returned (.tuple #[e t, e u, e v, e x])) w) : retK P fn R e w :=
  ⟨#[e t, e u, e v, e x], by simp [h, resE], hr⟩

/-! ### wraps -/
theorem wr_i64 (n : Int) (h0 : -9223372036854775808 ≤ n) (h1 : n ≤ 9223372036854775807) : IntKind.i64.wrap n = n := by
  simp only [IntKind.wrap, IntKind.bits, IntKind.signed]
  simp
  omega
theorem wr_u64 (n : Int) (h0 : 0 ≤ n) (h1 : n ≤ 18446744073709551615) : IntKind.u64.wrap n = n := by
  simp only [IntKind.wrap, IntKind.bits, IntKind.signed]
  simp
  omega
theorem wr_u32 (n : Int) (h0 : 0 ≤ n) (h1 : n ≤ 4294967295) : IntKind.u32.wrap n = n := by
  simp only [IntKind.wrap, IntKind.bits, IntKind.signed]
  simp
  omega
theorem wr_i32 (n : Int) (h0 : -2147483648 ≤ n) (h1 : n ≤ 2147483647) : IntKind.i32.wrap n = n := by
  simp only [IntKind.wrap, IntKind.bits, IntKind.signed]
  simp
  omega
theorem wr_u8 (n : Int) (h0 : 0 ≤ n) (h1 : n ≤ 255) : IntKind.u8.wrap n = n := by
  simp only [IntKind.wrap, IntKind.bits, IntKind.signed]
  simp
  omega
end
end Go.Proofs.YtokoohdpakhphaaDoor.VC
