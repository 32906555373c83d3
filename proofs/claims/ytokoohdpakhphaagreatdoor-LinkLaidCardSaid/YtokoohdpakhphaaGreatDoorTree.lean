/- A region whose order is open, by a tree of orders. No statement about the program stands here. -/
import Derived.Test.YtokoohdpakhphaaGreatDoorVc
namespace Go.Proofs.YtokoohdpakhphaaGreatDoor.VC
open Go Go.RowKit
/-- an order of a region's operations: 'ahead': it yields one value in every world of S; 'alt i t r': i may come up now, and then t; or one of r's -/
inductive PT where
  | fin
  | ahead (i : Nat) (t : PT)
  | alt (i : Nat) (t : PT) (r : PT)
  | none
def PT.ids : PT → List Nat
  | .alt i _ r => i :: r.ids
  | _ => []
def ptOk (ops : Array Oper) : PT → Array Bool → Bool
  | .fin, listed => (Region.ready .any ops listed).isEmpty
  | .ahead i t, listed => (Region.ready .any ops listed).contains i && Region.free .any ops listed i && ptOk ops t (listed.setIfInBounds i true)
  | .alt i t r, listed => (Region.ready .any ops listed == i :: r.ids) && ptOk ops t (listed.setIfInBounds i true) && alts ops r listed
  | .none, _ => false
where alts (ops : Array Oper) : PT → Array Bool → Bool
  | .alt i t r, listed => ptOk ops t (listed.setIfInBounds i true) && alts ops r listed
  | .none, _ => true
  | _, _ => false
def PT.size : PT → Nat
  | .fin => 0
  | .ahead _ t => t.size + 1
  | .alt _ t _ => t.size + 1
  | .none => 0
def PT.even : PT → Bool
  | .fin => true
  | .ahead _ t => t.even
  | .alt _ t r => t.even && r.even && (match r with | .alt _ t2 _ => t2.size == t.size | .none => true | _ => false)
  | .none => true
/-- one operation is carried out -/
def vop (P : Program) (S : World → Prop) (all : List Oper) (k : Env → World → Prop) (X : Ex) (o : Oper) (e : Env) (w : World) : Prop :=
  match o.guard with
  | none => runX .ord P (execOp (ev e) o) (Kh S (Ko k o.dst e)) X.pan w
  | some (j, b) => grd (yieldE all e j) b (runX .ord P (execOp (ev e) o) (Kh S (Ko k o.dst e)) X.pan w) (k (updo e o.dst undef) w)
def vpt (P : Program) (S : World → Prop) (all : List Oper) (k : Env → World → Prop) (X : Ex) : PT → Env → World → Prop
  | .fin, e, w => k e w
  | .none, _, _ => True
  | .ahead i t, e, w =>
    match all[i]? with
    | none => False
    | some o =>
      match o.guard with
      | none => runX (.ahead S) P (execOp (ev e) o) (Ko (vpt P S all k X t) o.dst e) X.pan w
      | some (j, b) => grd (yieldE all e j) b (runX (.ahead S) P (execOp (ev e) o) (Ko (vpt P S all k X t) o.dst e) X.pan w) (vpt P S all k X t (updo e o.dst undef) w)
  | .alt i t r, e, w =>
    (match all[i]? with
    | none => False
    | some o => vop P S all (vpt P S all k X t) X o e w) ∧ vpt P S all k X r e w
theorem vpt_sound {P : Program} {N : Nat} {S : World → Prop} {all : List Oper} {k : Env → World → Prop} {X : Ex} (hok : okOps N all = true) (hs : Region.noSelect all.toArray = true) :
    ∀ (t : PT), (∀ (n : Nat) (listed : Array Bool) (e : Env) (a : Act) (w : World), n = t.size → t.even = true → ptOk all.toArray t listed = true → Rel N e a → S w → vpt P S all k X t e w → wpAnyH P .any all.toArray (toQ N k X) S n listed a w) ∧
      (∀ (n : Nat) (listed : Array Bool) (e : Env) (a : Act) (w : World), (∀ i u r, t = .alt i u r → n = u.size) → t.even = true → ptOk.alts all.toArray t listed = true → Rel N e a → S w → vpt P S all k X t e w →
        ∀ i ∈ t.ids, wpOp P all.toArray (toQ N k X) i (fun a' w' => S w' ∧ wpAnyH P .any all.toArray (toQ N k X) S n (listed.setIfInBounds i true) a' w') a w)
  | .fin => ⟨fun n listed e a w hn _ hp hr hS h => by subst hn; exact ⟨by simpa [ptOk] using hp, e, hr, h⟩, fun n listed e a w _ _ hp => by simp [ptOk.alts] at hp⟩
  | .none => ⟨fun n listed e a w hn _ hp hr hS h => by simp [ptOk] at hp, fun n listed e a w _ _ hp hr hS h i hi => by simp [PT.ids] at hi⟩
  | .ahead i t => ⟨fun n listed e a w hn hev hp hr hS h => by
      subst hn
      have ih := (vpt_sound (P := P) (S := S) (k := k) (X := X) hok hs t).1
      unfold vpt at h
      cases ho : all[i]? with
      | none => rw [ho] at h; exact h.elim
      | some o =>
        rw [ho] at h
        simp only at h
        have hoa : all.toArray[i]? = some o := by rw [List.getElem?_toArray]; exact ho
        have hd : ∀ t, o.dst = some t → t < N := by
          intro t ht
          have := List.all_eq_true.1 hok o (List.mem_of_getElem? ho)
          rw [ht] at this; simpa using this
        simp only [ptOk, Bool.and_eq_true] at hp
        obtain ⟨⟨h1, h2⟩, h3⟩ := hp
        have hskip : ∀ u, vpt P S all k X t (updo e o.dst u) w → wpAnyH P .any all.toArray (toQ N k X) S t.size (listed.setIfInBounds i true) (a.put o.dst u) w :=
          fun u h => ih _ _ _ _ w rfl hev h3 (hr.put _ u hd) hS h
        have take : ∀ v, YieldsIf P all.toArray S o v a → vpt P S all k X t (updo e o.dst v) w → wpAnyH P .any all.toArray (toQ N k X) S (t.size + 1) listed a w := fun v hy h =>
          wpAnyH_take hoa hs h2 (by simpa using h1) (fun c a' w' hq => show a'.defers = [] ∧ X.pan c w' from ⟨by have := hq.1; cases hdd : o.dst <;> (rw [hdd] at this; exact this), hq.2⟩) hy hS (hskip v h)
        have hyes : Region.wanted o (yielded all.toArray a.tmps) = true → runX (.ahead S) P (execOp (ev e) o) (Ko (vpt P S all k X t) o.dst e) X.pan w → wpAnyH P .any all.toArray (toQ N k X) S (t.size + 1) listed a w := by
          rintro hw ⟨v, _, hv, hk⟩
          exact take v (.inl ⟨hw, fun w' hS' => by rw [hr.ev_eq]; exact hv w' hS'⟩) hk
        cases hg : o.guard with
        | none =>
          rw [hg] at h
          exact hyes (by simp [Region.wanted, hg]) h
        | some jb =>
          obtain ⟨j, b⟩ := jb
          rw [hg] at h
          simp only [grd] at h
          have he : Region.wanted o (yielded all.toArray a.tmps) = (yieldE all e j == some b) := by
            simp only [Region.wanted, hg]; rw [yieldE_eq hr]
          by_cases hy : yieldE all e j = some b
          · rw [if_pos hy] at h
            exact hyes (by rw [he, hy]; simp) h
          · rw [if_neg hy] at h
            exact take undef (.inr ⟨by rw [he]; simpa using hy, rfl⟩) h, fun n listed e a w _ _ hp => by simp [ptOk.alts] at hp⟩
  | .alt i t r => by
    have iht := (vpt_sound (P := P) (S := S) (k := k) (X := X) hok hs t).1
    have ihr := (vpt_sound (P := P) (S := S) (k := k) (X := X) hok hs r).2
    have hB : ∀ (n : Nat) (listed : Array Bool) (e : Env) (a : Act) (w : World), n = t.size → (PT.alt i t r).even = true → ptOk.alts all.toArray (.alt i t r) listed = true → Rel N e a → S w → vpt P S all k X (.alt i t r) e w →
        ∀ i' ∈ (PT.alt i t r).ids, wpOp P all.toArray (toQ N k X) i' (fun a' w' => S w' ∧ wpAnyH P .any all.toArray (toQ N k X) S n (listed.setIfInBounds i' true) a' w') a w := by
      intro n listed e a w hn hev hp hr hS h i' hi'
      subst hn
      simp only [ptOk.alts, Bool.and_eq_true] at hp
      simp only [PT.even, Bool.and_eq_true] at hev
      obtain ⟨⟨hev1, hev2⟩, hev3⟩ := hev
      unfold vpt at h
      obtain ⟨h1, h2⟩ := h
      rcases List.mem_cons.1 hi' with rfl | hi'
      · cases ho : all[i']? with
        | none => rw [ho] at h1; exact h1.elim
        | some o =>
          rw [ho] at h1
          simp only [vop] at h1
          have hoa : all.toArray[i']? = some o := by rw [List.getElem?_toArray]; exact ho
          have hd : ∀ t, o.dst = some t → t < N := by
            intro t ht
            have := List.all_eq_true.1 hok o (List.mem_of_getElem? ho)
            rw [ht] at this; simpa using this
          have hyes : runX .ord P (execOp (ev e) o) (Kh S (Ko (vpt P S all k X t) o.dst e)) X.pan w → o.wp P a w (fun a' w' => S w' ∧ wpAnyH P .any all.toArray (toQ N k X) S t.size (listed.setIfInBounds i' true) a' w') (toQ N k X) := fun h =>
            upon_of_runN hr hd h (fun v w' hv => ⟨hv.1, iht _ _ _ _ w' rfl hev1 hp.1 (hr.put _ v hd) hv.1 hv.2⟩) (fun ch w' hp => ⟨hr.1, hp⟩)
          unfold wpOp
          simp only [hoa]
          cases hg : o.guard with
          | none =>
            rw [hg] at h1
            rw [if_pos (by simp [Region.wanted, hg])]
            exact .inl (hyes h1)
          | some jb =>
            obtain ⟨j, b⟩ := jb
            rw [hg] at h1
            simp only [grd] at h1
            have he : Region.wanted o (yielded all.toArray a.tmps) = (yieldE all e j == some b) := by
              simp only [Region.wanted, hg]; rw [yieldE_eq hr]
            by_cases hy : yieldE all e j = some b
            · rw [if_pos hy] at h1
              rw [if_pos (by rw [he, hy]; simp)]
              exact .inl (hyes h1)
            · rw [if_neg hy] at h1
              rw [if_neg (by rw [he]; simpa using hy)]
              exact ⟨hS, iht _ _ _ _ w rfl hev1 hp.1 (hr.put _ undef hd) hS h1⟩
      · refine ihr t.size listed e a w ?_ hev2 hp.2 hr hS h2 i' hi'
        intro j u r' hr'
        subst hr'
        simp only [beq_iff_eq] at hev3
        exact hev3.symm
    refine ⟨fun n listed e a w hn hev hp hr hS h => ?_, fun n listed e a w hn hev hp hr hS h => hB n listed e a w (hn _ _ _ rfl) hev hp hr hS h⟩
    subst hn
    simp only [ptOk, Bool.and_eq_true, beq_iff_eq] at hp
    obtain ⟨⟨h1, h2⟩, h3⟩ := hp
    refine wpAnyH_all h1 (by simp) ?_
    exact hB t.size listed e a w rfl hev (by simp only [ptOk.alts, Bool.and_eq_true]; exact ⟨h2, h3⟩) hr hS h
/-- A REGION WHOSE ORDER IS OPEN, BY A TREE OF ORDERS: S holds behind every operation that is carried out. -/
theorem draw_tree {P : Program} {N id : Nat} {l : List Oper} {k : Env → World → Prop} {X : Ex} {e : Env} {w : World} (S : World → Prop) (t : PT) (hm : P.follows .mixedOrders = true)
    (hok : (okOps N l && Region.noSelect l.toArray && ptOk l.toArray t (Array.replicate l.length false) && t.even && t.size == l.length) = true)
    (hS : S w.drew) (h : vpt P S l k X t e w.drew) : DrawP P N id l.toArray k X e w := by
  simp only [Bool.and_eq_true, beq_iff_eq] at hok
  obtain ⟨⟨⟨⟨h1, h2⟩, h3⟩, h5⟩, h4⟩ := hok
  intro a ha
  refine wp_region_held (S := S) hm ?_
  have := (vpt_sound h1 h2 t).1 _ _ e a w.drew h4.symm h5 h3 ha hS h
  simpa using this
section
variable {P : Program} {S : World → Prop} {all : List Oper} {k : Env → World → Prop} {X : Ex} {e : Env} {w : World}
theorem pt_fin : vpt P S all k X .fin e w = k e w := (fun h => h) rfl
def tsA (P : Program) (S : World → Prop) (all : List Oper) (k : Env → World → Prop) (X : Ex) (t : PT) (o : Option Oper) (e : Env) (w : World) : Prop :=
  match o with
  | none => False
  | some o =>
    match o.guard with
    | none => runX (.ahead S) P (execOp (ev e) o) (Ko (vpt P S all k X t) o.dst e) X.pan w
    | some (j, b) => grd (yieldE all e j) b (runX (.ahead S) P (execOp (ev e) o) (Ko (vpt P S all k X t) o.dst e) X.pan w) (vpt P S all k X t (updo e o.dst undef) w)
def tsO (P : Program) (S : World → Prop) (all : List Oper) (k : Env → World → Prop) (X : Ex) (t : PT) (o : Option Oper) (e : Env) (w : World) : Prop :=
  match o with
  | none => False
  | some o => vop P S all (vpt P S all k X t) X o e w
theorem pt_ahead (i : Nat) (t : PT) : vpt P S all k X (.ahead i t) e w = tsA P S all k X t (all[i]?) e w := (fun h => h) rfl
theorem pt_only (i : Nat) (t : PT) : vpt P S all k X (.alt i t .none) e w = tsO P S all k X t (all[i]?) e w := by
  unfold vpt tsO
  simp [vpt]
theorem ts_take (t : PT) (d : Option Tmp) (op : Op) (ty : TypeId) (pos : String) (af : Array Edge) :
    tsA P S all k X t (some ⟨d, op, ty, pos, af, none⟩) e w = runX (.ahead S) P (execOp (ev e) ⟨d, op, ty, pos, af, none⟩) (Ko (vpt P S all k X t) d e) X.pan w := (fun h => h) rfl
theorem ts_only (t : PT) (d : Option Tmp) (op : Op) (ty : TypeId) (pos : String) (af : Array Edge) :
    tsO P S all k X t (some ⟨d, op, ty, pos, af, none⟩) e w = runX .ord P (execOp (ev e) ⟨d, op, ty, pos, af, none⟩) (Kh S (Ko (vpt P S all k X t) d e)) X.pan w := (fun h => h) rfl
theorem alt_ok {i : Nat} {t r : PT} (h1 : vpt P S all k X (.alt i t .none) e w) (h2 : vpt P S all k X r e w) : vpt P S all k X (.alt i t r) e w := by
  unfold vpt at h1 ⊢
  exact ⟨h1.1, h2⟩
end
end Go.Proofs.YtokoohdpakhphaaGreatDoor.VC
