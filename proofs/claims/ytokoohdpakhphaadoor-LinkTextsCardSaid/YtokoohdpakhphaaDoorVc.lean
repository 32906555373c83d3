/- A calculus of conditions over a frame that is a function of its slots: what 'vc' says of a piece of code implies the walk's own 'wp'. No statement about the program stands here. -/
import Derived.WalkKit
import Derived.Deep.Quiet
import Derived.Deep.LoopGhost
import Derived.ScopeJumps
import Derived.OrdersHeld
import Derived.StillTail
import Derived.KernelRfl
namespace Go.Proofs.YtokoohdpakhphaaDoor.VC
open Go

abbrev Env := Nat → Value
def upd (e : Env) (d : Nat) (v : Value) : Env := fun i => if i = d then v else e i
def updo (e : Env) : Option Tmp → Value → Env
  | some d, v => upd e d v
  | none, _ => e
def ev (e : Env) : Operand → Value
  | .tmp t => e t
  | .const v => v
  | .global g => .pointer (some ⟨g, 0, none⟩)
  | .func f => .func (.func f) #[] #[]

structure Ex where
  ret : Env → World → Prop
  brk : Nat → Env → World → Prop
  gto : Nat → Env → World → Prop
  pan : List PanicEntry → World → Prop

def Rel (N : Nat) (e : Env) (a : Act) : Prop := a.defers = [] ∧ a.tmps.size = N ∧ ∀ i, a.tmps.getD i undef = e i

def toQ (N : Nat) (k : Env → World → Prop) (X : Ex) : Exit → Act → World → Prop
  | .normal, a, w => ∃ e, Rel N e a ∧ k e w
  | .ret, a, w => ∃ e, Rel N e a ∧ X.ret e w
  | .exit id, a, w => ∃ e, Rel N e a ∧ X.brk id e w
  | .goto l, a, w => ∃ e, Rel N e a ∧ X.gto l e w
  | .panic ch, a, w => a.defers = [] ∧ X.pan ch w
  | .outgrown, _, _ => False

theorem Rel.ev_eq {N : Nat} {e : Env} {a : Act} (h : Rel N e a) : a.eval = ev e := by
  funext x
  cases x with
  | tmp t => exact h.2.2 t
  | _ => rfl

theorem Rel.put {N : Nat} {e : Env} {a : Act} (h : Rel N e a) (d : Option Tmp) (v : Value) (hd : ∀ t, d = some t → t < N) : Rel N (updo e d v) (a.put d v) := by
  cases d with
  | none => exact h
  | some d =>
    have hlt := hd d rfl
    refine ⟨h.1, by simp [Act.put, h.2.1], fun i => ?_⟩
    have h3 := h.2.2 i
    simp only [Act.put, updo, upd, Array.getD_eq_getD_getElem?, Array.getElem?_setIfInBounds, h.2.1] at h3 ⊢
    by_cases hi : d = i
    · subst hi; simp [hlt]
    · rw [if_neg hi, if_neg (fun e => hi e.symm)]; exact h3

def callK (K : Value → World → Prop) (pan : List PanicEntry → World → Prop) : Ending → World → Prop
  | .returned v, w => K v w
  | .panicked ch, w => pan ch w
  | .outgrown, _ => False

def runN (P : Program) (s : Sem Next) (K : Value → World → Prop) (pan : List PanicEntry → World → Prop) (w : World) : Prop :=
  match s.run P w with
  | .ok (.value v) w' => K v w'
  | .ok .skip w' => K undef w'
  | .ok (.enter f args) w' => Calls P f args w' (callK K pan)
  | .halt (.panic v) w' => pan [{ v, recovered := false }] w'
  | _ => False

def runP (P : Program) (s : Sem Value) (K : Value → World → Prop) (pan : List PanicEntry → World → Prop) (w : World) : Prop :=
  match s.run P w with
  | .ok v w' => K v w'
  | .halt (.panic v) w' => pan [{ v, recovered := false }] w'
  | _ => False

def runU (P : Program) (s : Sem Unit) (K : World → Prop) (pan : List PanicEntry → World → Prop) (w : World) : Prop :=
  match s.run P w with
  | .ok _ w' => K w'
  | .halt (.panic v) w' => pan [{ v, recovered := false }] w'
  | _ => False

/-- as runN; 'q': in every world that differs from this one by draws alone, with one value (for a region whose order is open) -/
def runQ (P : Program) (s : Sem Next) (K : Value → World → Prop) (w : World) : Prop :=
  ∃ v, (∀ n, Oper.quietUpon P (fun w' => ∃ m, w' = w.drewN m) (w.drewN n) v (s.run P (w.drewN n))) ∧ K v w
/-- in this world, leaving it as it is -/
def runW (P : Program) (s : Sem Next) (K : Value → World → Prop) (w : World) : Prop :=
  ∃ v, Oper.quietUpon P (fun w' => w' = w) w v (s.run P w) ∧ K v w
/-- in every world of which S holds, with one value, and leaving it as it is -/
def runY (S : World → Prop) (P : Program) (s : Sem Next) (K : Value → World → Prop) (w : World) : Prop :=
  ∃ v, s.run P w = .ok (.value v) w ∧ (∀ w', S w' → s.run P w' = .ok (.value v) w') ∧ K v w
/-- how an operation is run: as it stands; in a region whose order is open and that only reads; ahead of others in such a region -/
inductive Md where
  | ord
  | quiet
  | still
  | ahead (S : World → Prop)
def runX (q : Md) (P : Program) (s : Sem Next) (K : Value → World → Prop) (pan : List PanicEntry → World → Prop) (w : World) : Prop :=
  match q with
  | .ord => runN P s K pan w
  | .quiet => runQ P s K w
  | .still => runW P s K w
  | .ahead S => runY S P s K w

def boolOf : Value → Option Bool
  | .bool b => some b
  | _ => none
def yieldE (ops : List Oper) (e : Env) (j : Nat) : Option Bool :=
  match (ops[j]?).bind (·.dst) with
  | some s => boolOf (e s)
  | none => none

theorem yieldE_eq {N : Nat} {e : Env} {a : Act} (h : Rel N e a) (ops : List Oper) (j : Nat) : yielded ops.toArray a.tmps j = yieldE ops e j := by
  unfold yielded yieldE
  rw [List.getElem?_toArray]
  cases hd : (ops[j]?).bind (·.dst) with
  | none => rfl
  | some s =>
    simp only [Option.bind_some]
    have h3 := h.2.2 s
    rw [Array.getD_eq_getD_getElem?] at h3
    cases ht : a.tmps[s]? with
    | none => rw [ht] at h3; simp only [Option.getD_none] at h3; rw [← h3]; rfl
    | some v =>
      rw [ht] at h3; simp only [Option.getD_some] at h3; rw [← h3]
      cases v <;> rfl

def grd (y : Option Bool) (b : Bool) (p q : Prop) : Prop := if y = some b then p else q

/-- what follows an operation that writes slot d -/
def Ko (f : Env → World → Prop) (d : Option Tmp) (e : Env) : Value → World → Prop := fun v w => f (updo e d v) w

def vops (P : Program) (q : Md) (all : List Oper) (k : Env → World → Prop) (X : Ex) : List Oper → Env → World → Prop
  | [], e, w => k e w
  | o :: rest, e, w =>
    match o.guard with
    | none => runX q P (execOp (ev e) o) (Ko (vops P q all k X rest) o.dst e) X.pan w
    | some (j, b) => grd (yieldE all e j) b (runX q P (execOp (ev e) o) (Ko (vops P q all k X rest) o.dst e) X.pan w) (vops P q all k X rest (updo e o.dst undef) w)

def LoopP (P : Program) (N : Nat) (c : Code) (k : Env → World → Prop) (X : Ex) (e : Env) (w : World) : Prop :=
  ∀ a, Rel N e a → (Code.loop c).wp P (toQ N k X) a w
def ScopeP (P : Program) (N : Nat) (c : Code) (k : Env → World → Prop) (X : Ex) (e : Env) (w : World) : Prop :=
  ∀ a, Rel N e a → (Code.scope c).wp P (toQ N k X) a w
def DrawP (P : Program) (N : Nat) (id : Nat) (ops : Array Oper) (k : Env → World → Prop) (X : Ex) (e : Env) (w : World) : Prop :=
  ∀ a, Rel N e a → (Code.region id ops true).wp P (toQ N k X) a w
def OtherP (P : Program) (N : Nat) (c : Code) (k : Env → World → Prop) (X : Ex) (e : Env) (w : World) : Prop :=
  ∀ a, Rel N e a → c.wp P (toQ N k X) a w

def brkB (id : Nat) (k : Env → World → Prop) (f : Nat → Env → World → Prop) : Nat → Env → World → Prop :=
  fun i e w => if i = id then k e w else f i e w

def exBlock (id : Nat) (k : Env → World → Prop) (X : Ex) : Ex := { X with brk := brkB id k X.brk }
def exGto (f : Nat → Env → World → Prop) (X : Ex) : Ex := { X with gto := f }
def noGto : Nat → Env → World → Prop := fun _ _ _ => False
def boolP (v : Value) (p q : Prop) : Prop := ∃ b, v = .bool b ∧ if b = true then p else q

def vc (P : Program) (N : Nat) : Code → (Env → World → Prop) → Ex → Env → World → Prop
  | .skip, k, _, e, w => k e w
  | .label _, k, _, e, w => k e w
  | .region id ops draw, k, X, e, w => if draw = true then DrawP P N id ops k X e w else vops P .ord ops.toList k X ops.toList e w
  | .seq x y, k, X, e, w => vc P N x (vc P N y k X) X e w
  | .cond c x y, k, X, e, w => boolP (ev e c) (vc P N x k X e w) (vc P N y k X e w)
  | .block id c, k, X, e, w => vc P N c k (exBlock id k X) e w
  | .loop c, k, X, e, w => LoopP P N c k X e w
  | .exit id, _, X, e, w => X.brk id e w
  | .scope c, k, X, e, w => ScopeP P N c k X e w
  | .goto l, _, X, e, w => X.gto l e w
  | .ret, _, X, e, w => X.ret e w
  | .rangeFunc f ps as b, k, X, e, w => OtherP P N (.rangeFunc f ps as b) k X e w
  | .refuse _, _, _, _, _ => False

/-- every slot that is written lies in the frame -/
def okOps (N : Nat) (l : List Oper) : Bool := l.all fun o => match o.dst with | some d => decide (d < N) | none => true
def okCode (N : Nat) : Code → Bool
  | .region _ ops _ => okOps N ops.toList
  | .seq x y => okCode N x && okCode N y
  | .cond _ x y => okCode N x && okCode N y
  | .block _ c => okCode N c
  | .loop c => okCode N c
  | .scope c => okCode N c
  | _ => true

theorem upon_of_runN {P : Program} {N : Nat} {o : Oper} {e : Env} {a : Act} {w : World} {K : Value → World → Prop} {pan : List PanicEntry → World → Prop}
    {next : Act → World → Prop} {Q : Exit → Act → World → Prop} (hr : Rel N e a) (_hd : ∀ t, o.dst = some t → t < N)
    (h : runN P (execOp (ev e) o) K pan w) (hk : ∀ v w', K v w' → next (a.put o.dst v) w') (hp : ∀ ch w', pan ch w' → Q (.panic ch) a w') : o.wp P a w next Q := by
  unfold Oper.wp
  rw [hr.ev_eq]
  unfold runN at h
  generalize (execOp (ev e) o).run P w = r at *
  cases r with
  | ok n w' =>
    cases n <;> simp only [Oper.upon] <;> simp only at h
    case value v => exact hk _ _ h
    case skip => exact hk _ _ h
    case enter f args =>
      refine h.mono fun e w'' hh => ?_
      cases e with
      | returned v => exact hk _ _ hh
      | panicked ch => exact hp _ _ hh
      | outgrown => exact hh.elim
  | halt x w' =>
    cases x <;> simp only [Oper.upon] <;> simp only at h
    case panic v => exact hp _ _ h

theorem vops_sound {P : Program} {N : Nat} {all : List Oper} {k : Env → World → Prop} {X : Ex} : ∀ (l : List Oper) (e : Env) (a : Act) (w : World), okOps N l = true → Rel N e a →
    vops P .ord all k X l e w → wpList P all.toArray (toQ N k X) l a w
  | [], e, a, w, _, hr, h => ⟨e, hr, h⟩
  | o :: rest, e, a, w, hok, hr, h => by
    simp only [okOps, List.all_cons, Bool.and_eq_true] at hok
    obtain ⟨ho, hok⟩ := hok
    have hd : ∀ t, o.dst = some t → t < N := by
      intro t ht; rw [ht] at ho; simpa using ho
    have hop : runN P (execOp (ev e) o) (Ko (vops P .ord all k X rest) o.dst e) X.pan w → o.wp P a w (wpList P all.toArray (toQ N k X) rest) (toQ N k X) := fun h =>
      upon_of_runN hr hd h (fun v w' hv => vops_sound rest _ _ w' hok (hr.put _ v hd) hv) (fun ch w' hp => ⟨hr.1, hp⟩)
    have hskip : vops P .ord all k X rest (updo e o.dst undef) w → wpList P all.toArray (toQ N k X) rest (a.put o.dst undef) w := fun h => vops_sound rest _ _ w hok (hr.put _ undef hd) h
    unfold wpList
    unfold vops at h
    simp only [runX, grd] at h
    cases hg : o.guard with
    | none =>
      rw [hg] at h
      rw [if_pos (by simp [Region.wanted, hg])]
      exact .inl (hop h)
    | some jb =>
      obtain ⟨j, b⟩ := jb
      rw [hg] at h
      simp only at h
      have he : Region.wanted o (yielded all.toArray a.tmps) = (yieldE all e j == some b) := by
        simp only [Region.wanted, hg]; rw [yieldE_eq hr]
      by_cases hy : yieldE all e j = some b
      · rw [if_pos hy] at h
        rw [if_pos (by rw [he, hy]; simp)]
        exact .inl (hop h)
      · rw [if_neg hy] at h
        rw [if_neg (by rw [he]; simpa using hy)]
        exact hskip h

theorem toQ_then {P : Program} {N : Nat} {y : Code} {k : Env → World → Prop} {X : Ex} (hy : ∀ e a w, Rel N e a → vc P N y k X e w → y.wp P (toQ N k X) a w) :
    ∀ e a w, toQ N (vc P N y k X) X e a w → Exit.then (y.wp P (toQ N k X)) (toQ N k X) e a w := by
  intro e a w h
  cases e with
  | normal => obtain ⟨e, hr, h⟩ := h; exact hy e a w hr h
  | _ => exact h

theorem vc_sound {P : Program} {N : Nat} : ∀ (c : Code) (k : Env → World → Prop) (X : Ex) (e : Env) (a : Act) (w : World), okCode N c = true → Rel N e a → vc P N c k X e w → c.wp P (toQ N k X) a w
  | .skip, k, X, e, a, w, _, hr, h => wp_skip ⟨e, hr, h⟩
  | .label _, k, X, e, a, w, _, hr, h => wp_label ⟨e, hr, h⟩
  | .region id ops draw, k, X, e, a, w, hok, hr, h => by
    unfold vc at h
    cases draw with
    | true => exact h a hr
    | false =>
      simp only [Bool.false_eq_true, if_false] at h
      have := vops_sound ops.toList e a w hok hr h
      exact wp_region_list (by simpa using this)
  | .seq x y, k, X, e, a, w, hok, hr, h => by
    simp only [okCode, Bool.and_eq_true] at hok
    exact wp_seq (wp_mono (vc_sound x _ X e a w hok.1 hr h) (toQ_then fun e a w hr h => vc_sound y k X e a w hok.2 hr h))
  | .cond c x y, k, X, e, a, w, hok, hr, h => by
    simp only [okCode, Bool.and_eq_true] at hok
    obtain ⟨b, hb, h⟩ := h
    refine wp_cond (t := b) (by rw [hr.ev_eq]; exact hb) ?_
    cases b with
    | true => simp only [if_true] at h ⊢; exact vc_sound x k X e a w hok.1 hr h
    | false => simp only [Bool.false_eq_true, if_false] at h ⊢; exact vc_sound y k X e a w hok.2 hr h
  | .block id c, k, X, e, a, w, hok, hr, h => by
    refine wp_block (wp_mono (vc_sound c k _ e a w hok hr h) ?_)
    intro e a w h
    cases e with
    | exit id' =>
      obtain ⟨e, hr, h⟩ := h
      simp only [exBlock, brkB] at h
      simp only [Exit.inBlock]
      split at h
      · rename_i hi; rw [if_pos hi]; exact ⟨e, hr, h⟩
      · rename_i hi; rw [if_neg hi]; exact ⟨e, hr, h⟩
    | _ => exact h
  | .loop c, k, X, e, a, w, _, hr, h => h a hr
  | .exit id, k, X, e, a, w, _, hr, h => wp_exit ⟨e, hr, h⟩
  | .scope c, k, X, e, a, w, _, hr, h => h a hr
  | .goto l, k, X, e, a, w, _, hr, h => wp_goto ⟨e, hr, h⟩
  | .ret, k, X, e, a, w, _, hr, h => wp_ret ⟨e, hr, h⟩
  | .rangeFunc f ps as b, k, X, e, a, w, _, hr, h => h a hr
  | .refuse _, _, _, _, _, _, _, _, h => h.elim

/-! ### a function's entry and its results -/
def resE (e : Env) : ResultVar → Sem Value
  | .tmp t => pure (e t)
  | .cell a t => do loadVar t (← asAddr (e a))
def retK (P : Program) (fn : Func) (R : Ending → World → Prop) (e : Env) (w : World) : Prop :=
  ∃ vs : Array Value, (fn.results.mapM (resE e)).run P w = .ok vs w ∧ R (.returned (if h : vs.size = 1 then vs[0] else .tuple vs)) w
def noEx (P : Program) (fn : Func) (R : Ending → World → Prop) : Ex :=
  { ret := retK P fn R, brk := fun _ _ _ => False, gto := fun _ _ _ => False, pan := fun ch w => R (.panicked ch) w }
def entry : List Value → Nat → Env
  | [], _ => fun _ => undef
  | v :: vs, i => upd (entry vs (i + 1)) i v

theorem entry_get : ∀ (vs : List Value) (k i : Nat), entry vs k i = if k ≤ i then (vs[i - k]?).getD undef else undef
  | [], k, i => by simp [entry]
  | v :: vs, k, i => by
    simp only [entry, upd, entry_get vs (k + 1) i]
    by_cases h : i = k
    · subst h; simp
    · rw [if_neg h]
      by_cases h' : k ≤ i
      · rw [if_pos (by omega), if_pos h']
        obtain ⟨d, hd⟩ : ∃ d, i - k = d + 1 := ⟨i - k - 1, by omega⟩
        have : i - (k + 1) = d := by omega
        rw [hd, this, List.getElem?_cons_succ]
      · rw [if_neg (by omega), if_neg h']

theorem results_eq (fn : Func) (a : Act) (e : Env) {N : Nat} (h : Rel N e a) :
    results fn a.tmps = (do let vs ← fn.results.mapM (resE e); pure (if h : vs.size = 1 then vs[0] else .tuple vs)) := by
  unfold results
  congr 1
  congr 1
  funext x
  cases x with
  | tmp t => simp only [resE]; rw [h.2.2]
  | cell b t => simp only [resE]; rw [h.2.2]

theorem calls_vc {P : Program} {f : FuncId} {fn : Func} {c : Code} {args : Array Value} {w : World} {R : Ending → World → Prop}
    (hf : P.funcs[f]? = some fn) (hb : fn.body = some c) (ha : decide (args.size ≤ fn.ntmps) = true) (hok : okCode fn.ntmps c = true)
    (h : ∀ R' : Ending → World → Prop, (∀ e w', R e w' → R' e w') → vc P fn.ntmps c (retK P fn R') (noEx P fn R') (entry args.toList 0) w) : Calls P f args w R := by
  have ha : args.size ≤ fn.ntmps := of_decide_eq_true ha
  have h := h R fun _ _ h => h
  refine calls_of_wp hf hb ?_
  have hr : Rel fn.ntmps (entry args.toList 0) { tmps := args ++ Array.replicate (fn.ntmps - args.size) undef, defers := [] } := by
    refine ⟨rfl, by simp; omega, fun i => ?_⟩
    rw [entry_get]
    simp only [Nat.zero_le, if_true, Nat.sub_zero, Array.getD_eq_getD_getElem?, Array.getElem?_append, Array.getElem?_replicate, Array.getElem?_toList]
    by_cases hi : i < args.size
    · rw [if_pos hi]
    · rw [if_neg hi, Array.getElem?_eq_none (by omega)]
      split <;> rfl
  refine wp_mono (vc_sound c _ _ _ _ w hok hr h) ?_
  intro e a w h
  cases e with
  | normal =>
    obtain ⟨e, hr, vs, hv, hR⟩ := h
    exact ⟨hr.1, _, by rw [results_eq fn a e hr]; simp only [Sem.run_bind, hv, Result.andThen_ok, Sem.run_pure], hR⟩
  | ret =>
    obtain ⟨e, hr, vs, hv, hR⟩ := h
    exact ⟨hr.1, _, by rw [results_eq fn a e hr]; simp only [Sem.run_bind, hv, Result.andThen_ok, Sem.run_pure], hR⟩
  | exit id => obtain ⟨e, _, h⟩ := h; exact h.elim
  | goto l => obtain ⟨e, _, h⟩ := h; exact h.elim
  | panic ch => exact h
  | outgrown => exact h.elim

/-! ### loops -/
/-- which slots a piece of code may write -/
def wrOps (l : List Oper) : List Nat := l.filterMap (·.dst)
def wr : Code → List Nat
  | .region _ ops _ => wrOps ops.toList
  | .seq x y => wr x ++ wr y
  | .cond _ x y => wr x ++ wr y
  | .block _ c => wr c
  | .loop c => wr c
  | .scope c => wr c
  | _ => []

def upds (e : Env) : List Nat → List Value → Env
  | i :: is, v :: vs => upd (upds e is vs) i v
  | _, _ => e

theorem upds_map (e : Env) : ∀ (L : List Nat), upds e L (L.map e) = e
  | [] => rfl
  | i :: is => by
    simp only [List.map_cons, upds, upds_map e is]
    funext j
    unfold upd
    split
    · rename_i h; rw [h]
    · rfl

/-- what holds at a loop's head, or at a label: the slots L hold 'enc s', of which 'I s w' holds; the slots K hold what they held; m: a number that every round lowers -/
def Round {σ : Type} (L : List Nat) (enc : σ → List Value) (K : List Nat) (kv : List Value) (I : σ → World → Prop) (μ : σ → World → Nat) (m : Nat) (e : Env) (w : World) : Prop :=
  ∃ s, L.map e = enc s ∧ K.map e = kv ∧ I s w ∧ μ s w < m

/-- A LOOP. -/
theorem loop_rule {P : Program} {N : Nat} {c : Code} {k : Env → World → Prop} {X : Ex} {e : Env} {w : World} {σ : Type} (L : List Nat) (enc : σ → List Value) (K : List Nat) (I : σ → World → Prop) (μ : σ → World → Nat)
    (s0 : σ) (hok : okCode N c = true) (hs : L.map e = enc s0) (h0 : I s0 w)
    (hr : ∀ (b : Env) s w', I s w' → vc P N c (Round L enc K (K.map e) I μ (μ s w')) X (upds (upds b K (K.map e)) L (enc s)) w') : LoopP P N c k X e w := by
  intro a ha
  refine wp_loop_ghost (fun n a w => ∃ e' s, Rel N e' a ∧ L.map e' = enc s ∧ K.map e' = K.map e ∧ I s w ∧ μ s w = n) _ ⟨e, s0, ha, hs, rfl, h0, rfl⟩ ?_
  rintro n a w ⟨e', s, ha, hL, hK, hI, rfl⟩
  have hv := hr e' s w hI
  rw [← hK, upds_map, ← hL, upds_map, hK] at hv
  refine wp_mono (vc_sound c _ X e' a w hok ha hv) ?_
  intro x a' w' h
  cases x with
  | normal =>
    obtain ⟨e'', ha', s', h1, h2, h3, h4⟩ := h
    exact ⟨_, h4, e'', s', ha', h1, h2, h3, rfl⟩
  | _ => exact h

/-- A scope through which the run goes without a jump. -/
theorem scope_straight {P : Program} {N : Nat} {c : Code} {k : Env → World → Prop} {X : Ex} {e : Env} {w : World} (hok : okCode N c = true)
    (h : vc P N c k (exGto noGto X) e w) : ScopeP P N c k X e w := by
  intro a ha
  refine wp_scope_straight (wp_mono (vc_sound c k _ e a w hok ha h) ?_)
  intro x a' w' h
  cases x with
  | goto l => obtain ⟨_, _, h⟩ := h; exact h.elim
  | _ => exact h

/-- a run up to a label: there J is to hold -/
def isLab (l : Nat) : Code → Bool
  | .label l' => l' == l
  | _ => false
def vcTo (P : Program) (N : Nat) (l : Nat) : Code → (Env → World → Prop) → Ex → Env → World → Prop
  | .seq x y, J, X, e, w => if isLab l x = true then J e w else vc P N x (vcTo P N l y J X) X e w
  | _, _, _, _, _ => False
def restOf (l : Nat) : Code → Option Code
  | .seq x y => if isLab l x = true then some y else restOf l y
  | _ => none
theorem vcTo_sound {P : Program} {N l : Nat} {J : Env → World → Prop} {X : Ex} {Q : Exit → Act → World → Prop} {r : Code}
    (hQ : ∀ e a w, e ≠ .normal → toQ N (fun _ _ => False) X e a w → Q e a w) (hJ : ∀ e a w, Rel N e a → J e w → r.wp P Q a w) :
    ∀ (c : Code) (e : Env) (a : Act) (w : World), restOf l c = some r → okCode N c = true → Rel N e a → vcTo P N l c J X e w → c.wp P Q a w := by
  intro c
  induction c with
  | seq x y _ ih =>
    intro e a w hr hok ha h
    simp only [okCode, Bool.and_eq_true] at hok
    simp only [vcTo] at h
    simp only [restOf] at hr
    by_cases hl : isLab l x = true
    · rw [if_pos hl] at h hr
      simp only [Option.some.injEq] at hr
      subst hr
      cases x with
      | label l' => exact wp_seq (wp_label (hJ e a w ha h))
      | _ => simp [isLab] at hl
    · rw [if_neg hl] at h hr
      refine wp_seq (wp_mono (vc_sound x _ X e a w hok.1 ha h) ?_)
      intro z a' w' hz
      cases z with
      | normal => obtain ⟨e', ha', hz⟩ := hz; exact ih e' a' w' hr hok.2 ha' hz
      | _ => exact hQ _ _ _ (by simp) hz
  | _ => intro e a w hr; simp [restOf] at hr

/-- A scope with one label that is jumped to: what holds at the label, and one run from it on. -/
theorem scope_rule {P : Program} {N : Nat} {c r : Code} {k : Env → World → Prop} {X : Ex} {e : Env} {w : World} {σ : Type} (l : Nat) (L : List Nat) (enc : σ → List Value) (K : List Nat) (I : σ → World → Prop) (μ : σ → World → Nat) (m : Nat)
    (hf : findLabel c l = some (.seq .skip r)) (hc : restOf l c = some r) (hok : okCode N c = true) (hok' : okCode N r = true)
    (first : vcTo P N l c (Round L enc K (K.map e) I μ m) (exGto noGto X) e w)
    (hr : ∀ (b : Env) s w', I s w' → vc P N r k (exGto (fun l' e' w'' => l' = l ∧ Round L enc K (K.map e) I μ (μ s w') e' w'') X) (upds (upds b K (K.map e)) L (enc s)) w') : ScopeP P N c k X e w := by
  intro a ha
  let p : Act → World → Nat → Prop := fun a w n => ∃ e' s, Rel N e' a ∧ L.map e' = enc s ∧ K.map e' = K.map e ∧ I s w ∧ μ s w = n
  have pass : ∀ e' a w s, Rel N e' a → L.map e' = enc s → K.map e' = K.map e → I s w → r.wp P (Exit.jump l (fun a' w' => (∃ n, p a' w' n) ∧ leastOf (p a' w') < μ s w) (toQ N k X)) a w := by
    intro e' a w s ha hL hK hI
    have hv := hr e' s w hI
    rw [← hK, upds_map, ← hL, upds_map, hK] at hv
    refine wp_mono (vc_sound r k _ e' a w hok' ha hv) ?_
    intro x a' w' h
    cases x with
    | goto l' =>
      obtain ⟨e'', ha', rfl, s', h1, h2, h3, h4⟩ := h
      have hp : p a' w' (μ s' w') := ⟨e'', s', ha', h1, h2, h3, rfl⟩
      refine ⟨rfl, ⟨_, hp⟩, ?_⟩
      have := (leastOf_spec (p := p a' w') ⟨_, hp⟩).2 _ hp
      omega
    | _ => exact h
  refine wp_scope_jumps l (fun a w => ∃ n, p a w n) (fun a w => leastOf (p a w)) hf ?_ ?_
  · refine vcTo_sound (N := N) (l := l) (X := exGto noGto X) (r := r) ?_ ?_ c e a w hc hok ha first
    · intro x a' w' hx h
      cases x with
      | normal => exact absurd rfl hx
      | goto l' => obtain ⟨_, _, h⟩ := h; exact h.elim
      | _ => exact h
    · rintro e' a' w' ha' ⟨s, h1, h2, h3, _⟩
      refine wp_mono (pass e' a' w' s ha' h1 h2 h3) ?_
      intro x a'' w'' h
      cases x with
      | goto l' => exact ⟨h.1, h.2.1⟩
      | _ => exact h
  · rintro a w hJ
    obtain ⟨e', s, ha, hL, hK, hI, hn⟩ := (leastOf_spec hJ).1
    have := pass e' a w s ha hL hK hI
    rw [hn] at this
    exact wp_seq (wp_skip this)

/-! ### a region whose order is open, all of whose operations only read -/
theorem quietAt_put {P : Program} {N : Nat} {all : List Oper} {Q : Act → Prop} {w : World} {k : Env → World → Prop} {X : Ex} (hQ : ∀ e a, Rel N e a → k e w → Q a) : ∀ (l : List Oper) (e : Env) (a : Act), okOps N l = true → Rel N e a →
    vops P .quiet all k X l e w → wpQuiet P all.toArray (fun w' => ∃ n, w' = w.drewN n) Q l a
  | [], e, a, _, hr, h => hQ e a hr h
  | o :: rest, e, a, hok, hr, h => by
    simp only [okOps, List.all_cons, Bool.and_eq_true] at hok
    obtain ⟨ho, hok⟩ := hok
    have hd : ∀ t, o.dst = some t → t < N := by
      intro t ht; rw [ht] at ho; simpa using ho
    have hop : runQ P (execOp (ev e) o) (Ko (vops P .quiet all k X rest) o.dst e) w → o.quiet P a (fun w' => ∃ n, w' = w.drewN n) (wpQuiet P all.toArray (fun w' => ∃ n, w' = w.drewN n) Q rest) := by
      rintro ⟨v, h1, h2⟩
      refine ⟨v, ?_, quietAt_put hQ rest _ _ hok (hr.put _ v hd) h2⟩
      rintro w' ⟨n, rfl⟩
      unfold Oper.quietAt
      rw [hr.ev_eq]
      exact h1 n
    unfold vops at h
    simp only [runX, grd] at h
    unfold wpQuiet
    cases hg : o.guard with
    | none =>
      rw [hg] at h
      rw [if_pos (by simp [Region.wanted, hg])]
      exact hop h
    | some jb =>
      obtain ⟨j, b⟩ := jb
      rw [hg] at h
      simp only at h
      have he : Region.wanted o (yielded all.toArray a.tmps) = (yieldE all e j == some b) := by
        simp only [Region.wanted, hg]; rw [yieldE_eq hr]
      by_cases hy : yieldE all e j = some b
      · rw [if_pos hy] at h
        rw [if_pos (by rw [he, hy]; simp)]
        exact hop h
      · rw [if_neg hy] at h
        rw [if_neg (by rw [he]; simpa using hy)]
        exact quietAt_put hQ rest _ _ hok (hr.put _ undef hd) h

/-- what follows such a region: whatever number of draws was made -/
def Dn (k : Env → World → Prop) (e : Env) (w : World) : Prop := ∀ n, k e (w.drewN n)
theorem draw_quiet {P : Program} {N id : Nat} {l : List Oper} {k : Env → World → Prop} {X : Ex} {e : Env} {w : World} (hm : P.follows .mixedOrders = true) (hB : Region.lexB .any l.toArray = true) (hok : okOps N l = true)
    (h : vops P .quiet l (Dn k) X l e w) : DrawP P N id l.toArray k X e w := by
  intro a ha
  refine wp_region_quiet_lit hm hB (quietAt_put ?_ l e a hok ha h)
  rintro e a hr hk w' ⟨n, rfl⟩
  exact ⟨e, hr, hk n⟩

/-! ### a region whose order is open, the first operations of which only read; the others come one behind the other -/
theorem stillAt_put {P : Program} {N : Nat} {all : List Oper} {Q : Act → Prop} {w : World} {k : Env → World → Prop} {X : Ex} (hQ : ∀ e a, Rel N e a → k e w → Q a) : ∀ (l : List Oper) (e : Env) (a : Act), okOps N l = true → Rel N e a →
    vops P .still all k X l e w → wpStill P all.toArray w Q l a
  | [], e, a, _, hr, h => hQ e a hr h
  | o :: rest, e, a, hok, hr, h => by
    simp only [okOps, List.all_cons, Bool.and_eq_true] at hok
    obtain ⟨ho, hok⟩ := hok
    have hd : ∀ t, o.dst = some t → t < N := by
      intro t ht; rw [ht] at ho; simpa using ho
    have hop : runW P (execOp (ev e) o) (Ko (vops P .still all k X rest) o.dst e) w → o.still P a w (wpStill P all.toArray w Q rest) := by
      rintro ⟨v, h1, h2⟩
      have next := stillAt_put hQ rest _ _ hok (hr.put _ v hd) h2
      unfold Oper.still
      rw [hr.ev_eq]
      generalize (execOp (ev e) o).run P w = r at *
      cases r with
      | ok n w' =>
        cases n <;> simp only [Oper.quietUpon] at h1 <;> simp only [Oper.stillUpon]
        case value u => exact ⟨h1.1, h1.2 ▸ next⟩
        case skip => exact ⟨h1.1, h1.2 ▸ next⟩
        case enter f args => exact ⟨h1.1, v, h1.2, next⟩
      | halt x w' => simp only [Oper.quietUpon] at h1
    unfold vops at h
    simp only [runX, grd] at h
    unfold wpStill
    cases hg : o.guard with
    | none =>
      rw [hg] at h
      rw [if_pos (by simp [Region.wanted, hg])]
      exact hop h
    | some jb =>
      obtain ⟨j, b⟩ := jb
      rw [hg] at h
      simp only at h
      have he : Region.wanted o (yielded all.toArray a.tmps) = (yieldE all e j == some b) := by
        simp only [Region.wanted, hg]; rw [yieldE_eq hr]
      by_cases hy : yieldE all e j = some b
      · rw [if_pos hy] at h
        rw [if_pos (by rw [he, hy]; simp)]
        exact hop h
      · rw [if_neg hy] at h
        rw [if_neg (by rw [he]; simpa using hy)]
        exact stillAt_put hQ rest _ _ hok (hr.put _ undef hd) h
theorem okOps_drop {N : Nat} : ∀ (n : Nat) (l : List Oper), okOps N l = true → okOps N (l.drop n) = true
  | 0, l, h => h
  | n + 1, [], h => h
  | n + 1, o :: l, h => by
    simp only [okOps, List.all_cons, Bool.and_eq_true] at h
    exact okOps_drop n l h.2
theorem okOps_take {N : Nat} : ∀ (n : Nat) (l : List Oper), okOps N l = true → okOps N (l.take n) = true
  | 0, l, h => rfl
  | n + 1, [], h => h
  | n + 1, o :: l, h => by
    simp only [okOps, List.all_cons, Bool.and_eq_true] at h
    simp only [List.take_succ_cons, okOps, List.all_cons, Bool.and_eq_true]
    exact ⟨h.1, okOps_take n l h.2⟩
theorem draw_still {P : Program} {N id : Nat} {l : List Oper} {k : Env → World → Prop} {X : Ex} {e : Env} {w : World} (n : Nat) (hm : P.follows .mixedOrders = true) (hB : Region.lexTailB .any l.toArray n = true) (hok : okOps N l = true)
    (h : vops P .still l (vops P .ord l k X (l.drop n)) X (l.take n) e w.drew) : DrawP P N id l.toArray k X e w := by
  intro a ha
  refine wp_region_still_tail n hm hB ?_
  refine stillAt_put (N := N) (k := vops P .ord l k X (l.drop n)) (X := X) (w := w.drew) ?_ (l.take n) e a (okOps_take n l hok) ha h
  intro e' a' hr hk
  exact vops_sound (l.drop n) e' a' w.drew (okOps_drop n l hok) hr hk

/-! ### a region whose order is open: a plan -/
/-- one step of a plan: which operation; is it taken ahead of others (it yields one value in every world of S), or is it the only one that may come up -/
abbrev Plan := List (Nat × Bool)
def planOk (ops : Array Oper) : Plan → Array Bool → Bool
  | [], listed => (Region.ready .any ops listed).isEmpty
  | (i, true) :: pl, listed => (Region.ready .any ops listed).contains i && Region.free .any ops listed i && planOk ops pl (listed.setIfInBounds i true)
  | (i, false) :: pl, listed => (Region.ready .any ops listed == [i]) && planOk ops pl (listed.setIfInBounds i true)
/-- what follows an operation that is carried out: S anew -/
def Kh (S : World → Prop) (K : Value → World → Prop) : Value → World → Prop := fun v w => S w ∧ K v w
def vplan (P : Program) (S : World → Prop) (all : List Oper) (k : Env → World → Prop) (X : Ex) : Plan → Env → World → Prop
  | [], e, w => k e w
  | (i, fl) :: pl, e, w =>
    match all[i]? with
    | none => False
    | some o =>
      match o.guard with
      | none => if fl = true then runX (.ahead S) P (execOp (ev e) o) (Ko (vplan P S all k X pl) o.dst e) X.pan w else runX .ord P (execOp (ev e) o) (Kh S (Ko (vplan P S all k X pl) o.dst e)) X.pan w
      | some (j, b) => grd (yieldE all e j) b
          (if fl = true then runX (.ahead S) P (execOp (ev e) o) (Ko (vplan P S all k X pl) o.dst e) X.pan w else runX .ord P (execOp (ev e) o) (Kh S (Ko (vplan P S all k X pl) o.dst e)) X.pan w)
          (vplan P S all k X pl (updo e o.dst undef) w)
theorem vplan_sound {P : Program} {N : Nat} {S : World → Prop} {all : List Oper} {k : Env → World → Prop} {X : Ex} (hok : okOps N all = true) (hs : Region.noSelect all.toArray = true) :
    ∀ (pl : Plan) (listed : Array Bool) (e : Env) (a : Act) (w : World), planOk all.toArray pl listed = true → Rel N e a → S w → vplan P S all k X pl e w → wpAnyH P .any all.toArray (toQ N k X) S pl.length listed a w
  | [], listed, e, a, w, hp, hr, hS, h => ⟨by simpa [planOk] using hp, e, hr, h⟩
  | (i, fl) :: pl, listed, e, a, w, hp, hr, hS, h => by
    unfold vplan at h
    cases ho : all[i]? with
    | none => rw [ho] at h; exact h.elim
    | some o =>
      rw [ho] at h
      simp only at h
      have hoa : all.toArray[i]? = some o := by rw [List.getElem?_toArray]; exact ho
      have hd : ∀ t, o.dst = some t → t < N := by
        intro t ht
        have := List.all_eq_true.1 hok o (List.mem_of_getElem? ho)
        rw [ht] at this; simpa using this
      have hskip : ∀ u, vplan P S all k X pl (updo e o.dst u) w → planOk all.toArray pl (listed.setIfInBounds i true) = true → wpAnyH P .any all.toArray (toQ N k X) S pl.length (listed.setIfInBounds i true) (a.put o.dst u) w :=
        fun u h hp => vplan_sound hok hs pl _ _ _ w hp (hr.put _ u hd) hS h
      cases fl with
      | true =>
        simp only [planOk, Bool.and_eq_true] at hp
        obtain ⟨⟨h1, h2⟩, h3⟩ := hp
        have take : ∀ v, YieldsIf P all.toArray S o v a → vplan P S all k X pl (updo e o.dst v) w → wpAnyH P .any all.toArray (toQ N k X) S (pl.length + 1) listed a w := fun v hy h =>
          wpAnyH_take hoa hs h2 (by simpa using h1) (fun c a' w' hq => show a'.defers = [] ∧ X.pan c w' from ⟨by have := hq.1; cases hdd : o.dst <;> (rw [hdd] at this; exact this), hq.2⟩) hy hS (hskip v h h3)
        have hyes : Region.wanted o (yielded all.toArray a.tmps) = true → runX (.ahead S) P (execOp (ev e) o) (Ko (vplan P S all k X pl) o.dst e) X.pan w → wpAnyH P .any all.toArray (toQ N k X) S (pl.length + 1) listed a w := by
          rintro hw ⟨v, _, hv, hk⟩
          exact take v (.inl ⟨hw, fun w' hS' => by rw [hr.ev_eq]; exact hv w' hS'⟩) hk
        simp only [if_true] at h
        cases hg : o.guard with
        | none =>
          rw [hg] at h
          exact hyes (by simp [Region.wanted, hg]) h
        | some jb =>
          obtain ⟨j, b⟩ := jb
          rw [hg] at h
          simp only [grd] at h
          have he : Region.wanted o (yielded all.toArray a.tmps) = (yieldE all e j == some b) := by
            simp only [Region.wanted, hg]; rw [yieldE_eq hr]
          by_cases hy : yieldE all e j = some b
          · rw [if_pos hy] at h
            exact hyes (by rw [he, hy]; simp) h
          · rw [if_neg hy] at h
            exact take undef (.inr ⟨by rw [he]; simpa using hy, rfl⟩) h
      | false =>
        simp only [planOk, Bool.and_eq_true, beq_iff_eq] at hp
        obtain ⟨h1, h3⟩ := hp
        refine wpAnyH_all h1 (by simp) ?_
        intro i' hi'
        simp only [List.mem_singleton] at hi'
        subst hi'
        simp only [Bool.false_eq_true, if_false] at h
        have hyes : runX .ord P (execOp (ev e) o) (Kh S (Ko (vplan P S all k X pl) o.dst e)) X.pan w → o.wp P a w (fun a' w' => S w' ∧ wpAnyH P .any all.toArray (toQ N k X) S pl.length (listed.setIfInBounds i' true) a' w') (toQ N k X) := fun h =>
          upon_of_runN hr hd h (fun v w' hv => ⟨hv.1, vplan_sound hok hs pl _ _ _ w' h3 (hr.put _ v hd) hv.1 hv.2⟩) (fun ch w' hp => ⟨hr.1, hp⟩)
        unfold wpOp
        simp only [hoa]
        cases hg : o.guard with
        | none =>
          rw [hg] at h
          rw [if_pos (by simp [Region.wanted, hg])]
          exact .inl (hyes h)
        | some jb =>
          obtain ⟨j, b⟩ := jb
          rw [hg] at h
          simp only [grd] at h
          have he : Region.wanted o (yielded all.toArray a.tmps) = (yieldE all e j == some b) := by
            simp only [Region.wanted, hg]; rw [yieldE_eq hr]
          by_cases hy : yieldE all e j = some b
          · rw [if_pos hy] at h
            rw [if_pos (by rw [he, hy]; simp)]
            exact .inl (hyes h)
          · rw [if_neg hy] at h
            rw [if_neg (by rw [he]; simpa using hy)]
            exact ⟨hS, hskip undef h h3⟩
/-- A REGION WHOSE ORDER IS OPEN, BY A PLAN: S holds behind every operation that is carried out. -/
theorem draw_plan {P : Program} {N id : Nat} {l : List Oper} {k : Env → World → Prop} {X : Ex} {e : Env} {w : World} (S : World → Prop) (pl : Plan) (hm : P.follows .mixedOrders = true)
    (hok : (okOps N l && Region.noSelect l.toArray && planOk l.toArray pl (Array.replicate l.length false) && pl.length == l.length) = true)
    (hS : S w.drew) (h : vplan P S l k X pl e w.drew) : DrawP P N id l.toArray k X e w := by
  simp only [Bool.and_eq_true, beq_iff_eq] at hok
  obtain ⟨⟨⟨h1, h2⟩, h3⟩, h4⟩ := hok
  intro a ha
  refine wp_region_held (S := S) hm ?_
  have := vplan_sound h1 h2 pl _ e a w.drew h3 ha hS h
  rw [h4] at this
  simpa using this

/-! ### where ways meet again -/
theorem runX_mono {q : Md} {P : Program} {s : Sem Next} {K K' : Value → World → Prop} {pan : List PanicEntry → World → Prop} {w : World} (h : ∀ v w, K v w → K' v w) (hh : runX q P s K pan w) : runX q P s K' pan w := by
  cases q with
  | ord =>
    simp only [runX, runN] at hh ⊢
    split at hh
    · exact h _ _ hh
    · exact h _ _ hh
    · refine hh.mono fun e w' h' => ?_
      cases e with
      | returned v => exact h _ _ h'
      | panicked ch => exact h'
      | outgrown => exact h'
    · exact hh
    · exact hh.elim
  | quiet =>
    obtain ⟨v, h1, h2⟩ := hh
    exact ⟨v, h1, h _ _ h2⟩
  | still =>
    obtain ⟨v, h1, h2⟩ := hh
    exact ⟨v, h1, h _ _ h2⟩
  | ahead S =>
    obtain ⟨v, h0, h1, h2⟩ := hh
    exact ⟨v, h0, h1, h _ _ h2⟩
/-- ways out, widened -/
structure exLe (X X' : Ex) : Prop where
  ret : ∀ e w, X.ret e w → X'.ret e w
  brk : ∀ i e w, X.brk i e w → X'.brk i e w
  gto : ∀ i e w, X.gto i e w → X'.gto i e w
  pan : ∀ c w, X.pan c w → X'.pan c w
theorem exLe.refl (X : Ex) : exLe X X := ⟨fun _ _ h => h, fun _ _ _ h => h, fun _ _ _ h => h, fun _ _ h => h⟩
theorem exLe.block {X X' : Ex} {k k' : Env → World → Prop} (id : Nat) (hk : ∀ e w, k e w → k' e w) (h : exLe X X') : exLe (exBlock id k X) (exBlock id k' X') := ⟨h.ret, fun i e w hb => by
  simp only [exBlock, brkB] at hb ⊢
  split
  · rename_i hi; rw [if_pos hi] at hb; exact hk _ _ hb
  · rename_i hi; rw [if_neg hi] at hb; exact h.brk _ _ _ hb, h.gto, h.pan⟩
theorem toQ_mono {N : Nat} {k k' : Env → World → Prop} {X X' : Ex} (h : ∀ e w, k e w → k' e w) (hX : exLe X X') : ∀ x a w, toQ N k X x a w → toQ N k' X' x a w := by
  intro x a w hh
  cases x with
  | normal => obtain ⟨e, hr, hk⟩ := hh; exact ⟨e, hr, h _ _ hk⟩
  | ret => obtain ⟨e, hr, hk⟩ := hh; exact ⟨e, hr, hX.ret _ _ hk⟩
  | exit i => obtain ⟨e, hr, hk⟩ := hh; exact ⟨e, hr, hX.brk _ _ _ hk⟩
  | goto i => obtain ⟨e, hr, hk⟩ := hh; exact ⟨e, hr, hX.gto _ _ _ hk⟩
  | panic c => exact ⟨hh.1, hX.pan _ _ hh.2⟩
  | outgrown => exact hh
theorem runX_pan {q : Md} {P : Program} {s : Sem Next} {K : Value → World → Prop} {pan pan' : List PanicEntry → World → Prop} {w : World} (h : ∀ c w, pan c w → pan' c w) (hh : runX q P s K pan w) : runX q P s K pan' w := by
  cases q with
  | ord =>
    simp only [runX, runN] at hh ⊢
    split at hh
    · exact hh
    · exact hh
    · refine hh.mono fun e w' h' => ?_
      cases e with
      | returned v => exact h'
      | panicked ch => exact h _ _ h'
      | outgrown => exact h'
    · exact h _ _ hh
    · exact hh.elim
  | quiet => exact hh
  | still => exact hh
  | ahead S => exact hh
theorem vops_mono {q : Md} {P : Program} {all : List Oper} {k k' : Env → World → Prop} {X X' : Ex} (h : ∀ e w, k e w → k' e w) (hX : exLe X X') : ∀ (l : List Oper) (e : Env) (w : World), vops P q all k X l e w → vops P q all k' X' l e w
  | [], e, w, hh => h e w hh
  | o :: rest, e, w, hh => by
    unfold vops at hh ⊢
    have hk : ∀ v w, Ko (vops P q all k X rest) o.dst e v w → Ko (vops P q all k' X' rest) o.dst e v w := fun v w => vops_mono h hX rest _ w
    cases hg : o.guard with
    | none =>
      rw [hg] at hh
      exact runX_pan hX.pan (runX_mono hk hh)
    | some jb =>
      obtain ⟨j, b⟩ := jb
      rw [hg] at hh
      simp only [grd] at hh ⊢
      split
      · rename_i hy; rw [if_pos hy] at hh; exact runX_pan hX.pan (runX_mono hk hh)
      · rename_i hy; rw [if_neg hy] at hh; exact vops_mono h hX rest _ w hh
theorem vc_mono {P : Program} {N : Nat} : ∀ (c : Code) (k k' : Env → World → Prop) (X X' : Ex) (e : Env) (w : World), (∀ e w, k e w → k' e w) → exLe X X' → vc P N c k X e w → vc P N c k' X' e w
  | .skip, k, k', X, X', e, w, h, hX, hh => h e w hh
  | .label _, k, k', X, X', e, w, h, hX, hh => h e w hh
  | .region id ops draw, k, k', X, X', e, w, h, hX, hh => by
    unfold vc at hh ⊢
    cases draw with
    | true => exact fun a ha => wp_mono (hh a ha) (toQ_mono h hX)
    | false =>
      simp only [Bool.false_eq_true, if_false] at hh ⊢
      exact vops_mono h hX _ _ _ hh
  | .seq x y, k, k', X, X', e, w, h, hX, hh => vc_mono x _ _ X X' e w (fun e w => vc_mono y k k' X X' e w h hX) hX hh
  | .cond c x y, k, k', X, X', e, w, h, hX, hh => by
    obtain ⟨b, hb, hh⟩ := hh
    refine ⟨b, hb, ?_⟩
    cases b with
    | true => exact vc_mono x k k' X X' e w h hX hh
    | false => exact vc_mono y k k' X X' e w h hX hh
  | .block id c, k, k', X, X', e, w, h, hX, hh => vc_mono c k k' (exBlock id k X) (exBlock id k' X') e w h (hX.block id h) hh
  | .loop c, k, k', X, X', e, w, h, hX, hh => fun a ha => wp_mono (hh a ha) (toQ_mono h hX)
  | .exit id, k, k', X, X', e, w, h, hX, hh => hX.brk _ _ _ hh
  | .scope c, k, k', X, X', e, w, h, hX, hh => fun a ha => wp_mono (hh a ha) (toQ_mono h hX)
  | .goto l, k, k', X, X', e, w, h, hX, hh => hX.gto _ _ _ hh
  | .ret, k, k', X, X', e, w, h, hX, hh => hX.ret _ _ hh
  | .rangeFunc f ps as b, k, k', X, X', e, w, h, hX, hh => fun a ha => wp_mono (hh a ha) (toQ_mono h hX)
  | .refuse _, k, k', X, X', e, w, h, hX, hh => hh

/-- what holds where ways meet -/
def Meet {σ : Type} (L : List Nat) (enc : σ → List Value) (K : List Nat) (kv : List Value) (I : σ → World → Prop) (e : Env) (w : World) : Prop := ∃ s, L.map e = enc s ∧ K.map e = kv ∧ I s w
theorem Meet.to {σ : Type} {L : List Nat} {enc : σ → List Value} {K : List Nat} {e0 : Env} {I : σ → World → Prop} {k : Env → World → Prop}
    (h : ∀ (b : Env) s w', I s w' → k (upds (upds b K (K.map e0)) L (enc s)) w') {e : Env} {w : World} (hm : Meet L enc K (K.map e0) I e w) : k e w := by
  obtain ⟨s, h1, h2, h3⟩ := hm
  have := h e s w h3
  rwa [← h2, upds_map, ← h1, upds_map] at this
/-- a piece of code whose ways meet behind it -/
theorem vc_join {P : Program} {N : Nat} {c : Code} {k : Env → World → Prop} {X : Ex} {e : Env} {w : World} {σ : Type} (L : List Nat) (enc : σ → List Value) (K : List Nat) (I : σ → World → Prop)
    (h1 : vc P N c (Meet L enc K (K.map e) I) X e w) (h2 : ∀ (b : Env) s w', I s w' → k (upds (upds b K (K.map e)) L (enc s)) w') : vc P N c k X e w :=
  vc_mono c _ _ X X e w (fun _ _ => Meet.to h2) (exLe.refl X) h1
/-- a loop that is left by its block's exit alone: its ways out meet -/
theorem loop_join {P : Program} {N : Nat} {c : Code} {k : Env → World → Prop} {X : Ex} {e : Env} {w : World} {σ : Type} (id : Nat) (L : List Nat) (enc : σ → List Value) (K : List Nat) (I : σ → World → Prop)
    (h1 : LoopP P N c (fun _ _ => False) (exBlock id (Meet L enc K (K.map e) I) X) e w) (h2 : ∀ (b : Env) s w', I s w' → k (upds (upds b K (K.map e)) L (enc s)) w') : LoopP P N c k (exBlock id k X) e w := by
  intro a ha
  refine wp_mono (h1 a ha) ?_
  intro x a' w' h
  cases x with
  | normal => obtain ⟨_, _, h⟩ := h; exact h.elim
  | exit i =>
    obtain ⟨e', hr, hb⟩ := h
    refine ⟨e', hr, ?_⟩
    simp only [exBlock, brkB] at hb ⊢
    split
    · rename_i hi; rw [if_pos hi] at hb; exact Meet.to h2 hb
    · rename_i hi; rw [if_neg hi] at hb; exact hb
  | _ => exact h

end Go.Proofs.YtokoohdpakhphaaDoor.VC
