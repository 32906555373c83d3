/- Several texts in one. -/
import Derived.Test.YtokoohdpakhphaaDoorVcOps
import Derived.Laws.OwnMore
import Derived.Deep.AppendLies
import Derived.Maps.AppendAt
import Derived.Laws.IdiomStrings
import Derived.Laws.Tables
namespace Go.Proofs.YtokoohdpakhphaaDoor.VC
open Go Go.RowKit

/-- the address a (below block B) is the head of cells that hold vs -/
def Rd (w : World) (B : Nat) (a : Option Addr) (vs : List Value) : Prop :=
  vs ≠ [] → ∃ ad, a = some ad ∧ ad.block < B ∧ ∀ (i : Nat) (h : i < vs.length), w.cell? (ad.add i) = some vs[i]
def u8v (b : UInt8) : Value := .int .u8 b.toNat
instance (b : UInt8) : OneC (u8v b) := ⟨rfl⟩
def RdB (w : World) (B : Nat) (a : Option Addr) (xs : List UInt8) : Prop := Rd w B a (xs.map u8v)

theorem below_drewN {B : Nat} {a w : World} (h : Below B a w) (n : Nat) : Below B a (w.drewN n) := ⟨h.os, h.tape, h.output, h.size, h.block⟩
theorem block_add (a : Addr) (n : Nat) : (a.add n).block = a.block := by unfold Addr.add; split <;> rfl

section
variable {w w' : World} {B B' : Nat} {a : Option Addr} {vs : List Value}
theorem Rd.nil : Rd w B a [] := fun h => absurd rfl h
theorem Rd.isSome (h : Rd w B a vs) (hn : 0 < vs.length) : a.isSome = true := by
  obtain ⟨ad, rfl, _⟩ := h (fun e => by subst e; simp at hn)
  rfl
theorem Rd.cell (h : Rd w B a vs) {i : Nat} (hi : i < vs.length) : cellO w (adO a i) = some vs[i] := by
  obtain ⟨ad, rfl, _, hc⟩ := h (fun e => by subst e; simp at hi)
  exact hc i hi
theorem Rd.keep (h : Rd w B a vs) (hk : ∀ p : Addr, p.block < B → w'.cell? p = w.cell? p) : Rd w' B a vs := fun hn => by
  obtain ⟨ad, rfl, hb, hc⟩ := h hn
  exact ⟨ad, rfl, hb, fun i hi => by rw [hk _ (by rw [block_add]; exact hb)]; exact hc i hi⟩
theorem Rd.below (h : Rd w B a vs) (hb : Below B w w') : Rd w' B a vs := h.keep fun _ hp => hb.cell hp
theorem Rd.more (h : Rd w B a vs) (hB : B ≤ B') : Rd w B' a vs := fun hn => by
  obtain ⟨ad, rfl, hb, hc⟩ := h hn
  exact ⟨ad, rfl, by omega, hc⟩
theorem Rd.drewN (h : Rd w B a vs) (n : Nat) : Rd (w.drewN n) B a vs := h
theorem Rd.alloc (h : Rd w B a vs) (hB : B ≤ w.heap.size) (o : Obj) : Rd (w.alloc o) B a vs := h.keep fun p hp => World.cell?_alloc_lt w o p (by omega)
theorem Rd.set (h : Rd w B a vs) {p : Addr} (hB : B ≤ p.block) (u : Value) : Rd (w.setCell p u) B a vs :=
  h.keep fun q hq => World.cell?_setCell_other w p q u (fun e => by subst e; omega)
theorem Rd.drop (h : Rd w B a vs) (k : Nat) : Rd w B (adO a k) (vs.drop k) := fun hn => by
  obtain ⟨ad, rfl, hb, hc⟩ := h (fun e => by subst e; simp at hn)
  refine ⟨ad.add k, rfl, by rw [block_add]; exact hb, fun i hi => ?_⟩
  rw [addr_add_add, List.getElem_drop]
  exact hc _ (by simp at hi; omega)
theorem Rd.take (h : Rd w B a vs) (k : Nat) : Rd w B a (vs.take k) := fun hn => by
  obtain ⟨ad, rfl, hb, hc⟩ := h (fun e => by subst e; simp at hn)
  refine ⟨ad, rfl, hb, fun i hi => ?_⟩
  rw [List.getElem_take]
  exact hc _ (by simp at hi; omega)
end
theorem RdB.isSome {w : World} {B : Nat} {a : Option Addr} {xs : List UInt8} (h : RdB w B a xs) (hn : 0 < xs.length) : a.isSome = true := Rd.isSome h (by simpa using hn)
theorem RdB.cell {w : World} {B : Nat} {a : Option Addr} {xs : List UInt8} (h : RdB w B a xs) {i : Nat} (hi : i < xs.length) : cellO w (adO a i) = some (.int .u8 xs[i].toNat) := by
  have := Rd.cell h (i := i) (by simpa using hi)
  simpa [u8v] using this
theorem RdB.drop {w : World} {B : Nat} {a : Option Addr} {xs : List UInt8} (h : RdB w B a xs) (k : Nat) : RdB w B (adO a k) (xs.drop k) := by
  have := Rd.drop h k
  rwa [← List.map_drop] at this
theorem RdB.take {w : World} {B : Nat} {a : Option Addr} {xs : List UInt8} (h : RdB w B a xs) (k : Nat) : RdB w B a (xs.take k) := by
  have := Rd.take h k
  rwa [← List.map_take] at this
end Go.Proofs.YtokoohdpakhphaaDoor.VC
namespace Go.Proofs.YtokoohdpakhphaaDoor.VC
open Go Go.RowKit
set_option linter.unusedVariables false
section
variable {el sz by' : Nat} {z : Value} {P : Program} {K : Value → World → Prop} {pan : List PanicEntry → World → Prop} {w : World} {q : Md}

/-- what is owned: a slice value over a row of the call's own (block number base or above), or nil -/
abbrev Own (w : World) (base el sz : Nat) (a : Option Addr) (n c : Nat) (xs : List Value) : Prop := w.ownsRow base el sz (.slice a n c) n xs

theorem Own.form {base n c : Nat} {a : Option Addr} {xs : List Value} (h : Own w base el sz a n c xs) :
    (a = none ∧ n = 0 ∧ c = 0 ∧ xs = []) ∨ ∃ g cur, a = some ⟨g, 0, none⟩ ∧ base ≤ g ∧ w.heap[g]? = some (.cells cur el (0, 0)) ∧ n ≤ c ∧ c ≤ maxLen ∧ cur.size = c * sz ∧ cur.toList.take (n * sz) = xs := by
  rcases h.2 with ⟨h1, h2⟩ | ⟨g, cap, cur, h1, h2, h3, h4, h5, h6, h7⟩
  · obtain ⟨e1, e2, e3⟩ := Value.slice.inj h1
    subst h2
    exact .inl ⟨e1, rfl, e3, List.eq_nil_of_length_eq_zero (by simpa using h.1)⟩
  · obtain ⟨e1, e2, e3⟩ := Value.slice.inj h1
    subst e1; subst e3
    exact .inr ⟨g, cur, rfl, h2, h3, h4, h5, h6, h7⟩
theorem Own.len {base n c : Nat} {a : Option Addr} {xs : List Value} (h : Own w base el sz a n c xs) : xs.length = n * sz := h.1
theorem Own.rd {base n c : Nat} {a : Option Addr} {xs : List Value} (h : Own w base el sz a n c xs) : Rd w w.heap.size a xs := fun hn => by
  rcases h.form with ⟨_, _, _, h4⟩ | ⟨g, cur, rfl, hb, hg, _, _, hs, ht⟩
  · exact absurd h4 hn
  · refine ⟨_, rfl, (Array.getElem?_eq_some_iff.1 hg).1, fun i hi => ?_⟩
    exact World.ownsRow.cells (v := .slice (some ⟨g, 0, none⟩) n c) h rfl i _ (List.getElem?_eq_getElem hi)
theorem Own.nil (w : World) (base el sz : Nat) : Own w base el sz none 0 0 [] := World.ownsRow_nil w base el sz
theorem Own.block {base n c : Nat} {a : Option Addr} {xs : List Value} (h : Own w base el sz a n c xs) : ∀ k, Value.ownBlock (.slice a n c) = some k → base ≤ k ∧ k < w.heap.size := World.ownsRow.lt h

theorem TSl.info {t : Nat} (h : TSl P t el sz by') (hz : TZero P el z) : ∃ i, P.info? el = some i ∧ i.zero = some z ∧ i.size = sz ∧ i.bytes = by' := by
  have h1 := h.s
  have h2 := hz.u
  cases hi : P.info? el with
  | none => simp [hi] at h1
  | some i =>
    simp [hi] at h1 h2
    exact ⟨i, rfl, h2, h1.1, h1.2⟩

theorem m_append (t ty : Nat) [h : TSl P t el sz by'] [hz : TZero P el z] (base : Nat) {a A : Option Addr} {n c m d B : Nat} {xs news : List Value} (hzs : z.cells.size = sz) (hsz : 0 < sz)
    (hown : Own w base el sz a n c xs) (hr : Rd w B A news) (hl : news.length = m * sz) (h1 : ∀ u ∈ news, u.oneCell' = true) (h63 : n + m ≤ maxLen) (hb : (n + m) * by' ≤ 140737488355328) (hbase : base ≤ w.heap.size)
    (hK : ∀ a' c' w', Own w' base el sz a' (n + m) c' (xs ++ news) → w.grownBy w' (Value.ownBlock (.slice a n c)) →
      (Value.ownBlock (.slice a' (n + m) c') = Value.ownBlock (.slice a n c) ∨ Value.ownBlock (.slice a' (n + m) c') = some w.heap.size) → K (.slice a' (n + m) c') w') :
    runS .ord P (Builtin.append_ #[t, t] ty #[.slice a n c, .slice A m d]) K pan w := by
  obtain ⟨i, hi, hiz, his, hib⟩ := TSl.info h hz
  rcases A with _ | ad
  · have hn : news = [] := by
      rcases news with _ | ⟨u, l⟩
      · rfl
      · obtain ⟨ad, h, _⟩ := hr (by simp)
        cases h
    subst hn
    have hm : m = 0 := by
      rcases Nat.eq_zero_or_pos m with h0 | h0
      · exact h0
      · have := Nat.mul_pos h0 hsz
        simp at hl; omega
    subst hm
    have hrun : (Builtin.append_ #[t, t] ty #[.slice a n c, .slice none 0 d]).run P w = .ok (.slice a n c) w := by
      have hnc : n ≤ c := by
        rcases hown.form with ⟨_, h2, _, _⟩ | ⟨_, _, _, _, _, h4, _⟩ <;> omega
      rcases a with _ | a
      · simp [Builtin.append_, run_underlying h.u, sizeOf, typeInfo, hi, Builtin.lenOf, Builtin.firstCells, hnc]
      · simp [Builtin.append_, run_underlying h.u, sizeOf, typeInfo, hi, Builtin.lenOf, Builtin.firstCells, hnc, storeCells]
    rw [runS_ok hrun]
    exact hK a c w (by simpa using hown) (World.grownBy.refl w _) (.inl rfl)
  · have hnews : ∀ j u, news[j]? = some u → w.cell? (ad.add j) = some u := by
      intro j u hu
      obtain ⟨hj, hju⟩ := List.getElem?_eq_some_iff.1 hu
      obtain ⟨ad', h, _, hc⟩ := hr (fun e => by subst e; simp at hj)
      injection h with h
      subst h
      rw [hc j hj, hju]
    obtain ⟨v', w', hrun, h2, h3, _, h5⟩ := run_append_own_at (P := P) w base t ty el i z sz by' h.u hi hiz his hib hzs hsz _ n xs hown ad m d news hl hnews h1 h63 hb hbase
    rw [runS_ok hrun]
    have hform : ∃ a' c', v' = .slice a' (n + m) c' := by
      rcases h2.2 with ⟨rfl, hx⟩ | ⟨g, cap, cur, rfl, _⟩
      · have : n + m = 0 := by
          have := h2.1
          rw [hx] at this
          simp at this
          omega
        exact ⟨none, 0, by rw [this]⟩
      · exact ⟨_, _, rfl⟩
    obtain ⟨a', c', rfl⟩ := hform
    exact hK a' c' w' h2 h3 h5

theorem m_make (t : Nat) [h : TSl P t el sz by'] [hz : TZero P el z] (base : Nat) {kl kc : IntKind} {ci : Int} (c : Nat) (hc : ci = c) (hb : by' * c ≤ 281474976710656) (h63 : c ≤ maxLen) (hbase : base ≤ w.heap.size)
    (hK : ∀ w', Own w' base el sz (some ⟨w.heap.size, 0, none⟩) 0 c [] → w.grownBy w' none → w'.heap.size = w.heap.size + 1 → K (.slice (some ⟨w.heap.size, 0, none⟩) 0 c) w') :
    runS .ord P (Instr.makeSlice t (.int kl 0) (.int kc ci)) K pan w := by
  subst hc
  obtain ⟨i, hi, hiz, his, hib⟩ := TSl.info h hz
  have h63' : (c : Int) ≤ 9223372036854775807 := by
    have h := h63
    simp [maxLen] at h
    omega
  have hb' : (i.bytes : Int) * (c : Int) ≤ 281474976710656 := by
    rw [hib]
    have h : ((by' * c : Nat) : Int) ≤ 281474976710656 := by omega
    rwa [Int.natCast_mul] at h
  have hr := run_make (P := P) w t el i z h.u hi hiz kl kc 0 c (Int.le_refl _) (by omega) hb' h63'
  simp only [Int.toNat_zero, Int.toNat_natCast] at hr
  rw [runS_ok hr]
  refine hK _ ?_ (World.grownBy_alloc w _ none) (by simp)
  exact World.ownsRow_made w _ c hbase h63 (by rw [size_madeCells, his])
theorem m_makeFull (t : Nat) [h : TSl P t el sz by'] [hz : TZero P el z] (base : Nat) {kl kc : IntKind} {ni : Int} (n : Nat) (hn : ni = n) (hb : by' * n ≤ 281474976710656) (h63 : n ≤ maxLen) (hbase : base ≤ w.heap.size)
    (hK : ∀ w', Own w' base el sz (some ⟨w.heap.size, 0, none⟩) n n (madeCells z.cells (n * sz)).toList → w.grownBy w' none → K (.slice (some ⟨w.heap.size, 0, none⟩) n n) w') :
    runS .ord P (Instr.makeSlice t (.int kl ni) (.int kc ni)) K pan w := by
  subst hn
  obtain ⟨i, hi, hiz, his, hib⟩ := TSl.info h hz
  obtain ⟨w', hr, h1, h2⟩ := run_make_full (P := P) w base t el i z sz h.u hi hiz his kl kc n (by rw [hib]; exact hb) h63 hbase
  rw [runS_ok hr]
  exact hK w' h1 h2

/-- a slice literal of one element of one cell -/
theorem m_bs1 (t : Nat) [h : TSl P t el 1 by'] [hz : TZero P el z] (v : Value) [ho : OneC v] :
    runS .ord P (Instr.buildSlice t 1 [(0, v)].toArray) K pan w = K (.slice (some ⟨w.heap.size, 0, none⟩) 1 1) (w.alloc (.cells #[v] el)) := by
  obtain ⟨i, hi, hiz, his, hib⟩ := TSl.info h hz
  have hv := ho.h
  have hcs : v.cells = #[v] := by cases v <;> first | rfl | cases hv
  refine runS_ok ?_
  simp [Instr.buildSlice, run_underlying h.u, sizeOf, typeInfo, zeroValue, hi, hiz, his, newRow, Instr.fill, hcs]
  have e : Array.range 1 = #[0] := rfl
  rw [e]; simp
/-- a slice literal: 'cells' is what fill gives -/
theorem m_bs (t n : Nat) [h : TSl P t el sz by'] [hz : TZero P el z] (parts : List (Nat × Value)) (cells : Array Value) (hsmall : n * sz ≤ 16777216) (hpos : 0 < n * sz)
    (hf : Instr.fill (fun i => some (i * sz, sz)) ((Array.range (n * sz)).map (z.cells[· % z.cells.size]!)) parts = some cells) :
    runS .ord P (Instr.buildSlice t n parts.toArray) K pan w = K (.slice (some ⟨w.heap.size, 0, none⟩) n n) (w.alloc (.cells cells el)) := by
  obtain ⟨i, hi, hiz, his, hib⟩ := TSl.info h hz
  have h1 : ¬ n * i.size > 2 ^ 24 := by rw [his]; omega
  have h2 : ¬ n * i.size = 0 := by rw [his]; omega
  refine runS_ok ?_
  subst his
  simp only [Instr.buildSlice, Sem.run_bind, run_underlying h.u, Result.andThen_ok, sizeOf, typeInfo, hi, zeroValue, hiz, run_program, Sem.run_pure, if_neg h1, if_neg h2, hf, newRow]
  simp
theorem m_bs0 (t : Nat) [h : TSl P t el sz by'] : runS .ord P (Instr.buildSlice t 0 ([] : List (Nat × Value)).toArray) K pan w = K (.slice (some ⟨w.heap.size, 0, none⟩) 0 0) (w.alloc (.cells #[] el)) := by
  have hs : (sizeOf el).run P w = .ok sz w := by
    have := h.s
    cases hi : P.info? el with
    | none => simp [hi] at this
    | some i => simp [hi] at this; simp [sizeOf, typeInfo, hi, this.1]
  refine runS_ok ?_
  simp [Instr.buildSlice, run_underlying h.u, hs, newRow, Instr.fill]
  have e : Array.range 0 = #[] := rfl
  rw [e]; simp

/-! cutting -/
def cutA (a : Option Addr) (l m sz : Nat) : Option Addr := if m = l then a else adO a (l * sz)
theorem Rd.cut {B : Nat} {a : Option Addr} {vs : List Value} (h : Rd w B a vs) (l h' m : Nat) (hlm : h' ≤ m) : Rd w B (cutA a l m sz) ((vs.take (h' * sz)).drop (l * sz)) := by
  unfold cutA
  by_cases e : m = l
  · rw [if_pos e]
    have : (vs.take (h' * sz)).drop (l * sz) = [] := by
      apply List.drop_eq_nil_of_le
      rw [List.length_take]
      have : h' * sz ≤ l * sz := Nat.mul_le_mul_right _ (by omega)
      omega
    rw [this]
    exact Rd.nil
  · rw [if_neg e]
    exact Rd.drop (Rd.take h _) _
theorem TSl.run_size {t : Nat} (h : TSl P t el sz by') (w : World) : (sizeOf el).run P w = .ok sz w := by
  have := h.s
  cases hi : P.info? el with
  | none => simp [hi] at this
  | some i => simp [hi] at this; simp [sizeOf, typeInfo, hi, this.1]
section
variable (t : Nat) (a : Option Addr) (n c : Nat) (kl kh km : IntKind) (l h' m : Int)
theorem m_cut_lh [h : TSl P t el sz by'] (h0 : 0 ≤ l) (h1 : l ≤ h') (h2 : h' ≤ c) : runS q P (Instr.sliceAt t (.slice a n c) (some (.int kl l)) (some (.int kh h')) none) K pan w = K (.slice (cutA a l.toNat c sz) (h'.toNat - l.toNat) (c - l.toNat)) w := by
  have eh : (h'.toNat : Int) = h' := Int.toNat_of_nonneg (by omega)
  exact runS_pure fun w => by simp [Instr.sliceAt, Instr.slice, run_underlying h.u, Instr.sliceBounds, run_sliceBound, TSl.run_size h, eh, h0, h1, h2, (by omega : 0 ≤ h'), cutA, adO]
theorem m_cut_h [h : TSl P t el sz by'] (h1 : 0 ≤ h') (h2 : h' ≤ c) : runS q P (Instr.sliceAt t (.slice a n c) none (some (.int kh h')) none) K pan w = K (.slice a h'.toNat c) w := by
  exact runS_pure fun w => by simp [Instr.sliceAt, Instr.slice, run_underlying h.u, Instr.sliceBounds, run_sliceBound, TSl.run_size h, h1, h2]; intro _; cases a <;> rfl
theorem m_cut_l [h : TSl P t el sz by'] (h1 : 0 ≤ l) (h2 : l ≤ n) : runS q P (Instr.sliceAt t (.slice a n c) (some (.int kl l)) none none) K pan w = K (.slice (cutA a l.toNat c sz) (n - l.toNat) (c - l.toNat)) w := by
  exact runS_pure fun w => by simp [Instr.sliceAt, Instr.slice, run_underlying h.u, Instr.sliceBounds, run_sliceBound, TSl.run_size h, h1, h2, cutA, adO]
theorem m_cut_lhm [h : TSl P t el sz by'] (h0 : 0 ≤ l) (h1 : l ≤ h') (h2 : h' ≤ m) (h3 : m ≤ c) : runS q P (Instr.sliceAt t (.slice a n c) (some (.int kl l)) (some (.int kh h')) (some (.int km m))) K pan w = K (.slice (cutA a l.toNat m.toNat sz) (h'.toNat - l.toNat) (m.toNat - l.toNat)) w := by
  have eh : (h'.toNat : Int) = h' := Int.toNat_of_nonneg (by omega)
  have em : (m.toNat : Int) = m := Int.toNat_of_nonneg (by omega)
  exact runS_pure fun w => by simp [Instr.sliceAt, Instr.slice, run_underlying h.u, Instr.sliceBounds, run_sliceBound, TSl.run_size h, eh, em, h0, h1, h2, h3, (by omega : 0 ≤ h'), (by omega : 0 ≤ m), cutA, adO]
theorem m_cut_hm [h : TSl P t el sz by'] (h1 : 0 ≤ h') (h2 : h' ≤ m) (h3 : m ≤ c) : runS q P (Instr.sliceAt t (.slice a n c) none (some (.int kh h')) (some (.int km m))) K pan w = K (.slice (cutA a 0 m.toNat sz) h'.toNat m.toNat) w := by
  have em : (m.toNat : Int) = m := Int.toNat_of_nonneg (by omega)
  exact runS_pure fun w => by simp [Instr.sliceAt, Instr.slice, run_underlying h.u, Instr.sliceBounds, run_sliceBound, TSl.run_size h, em, h1, h2, h3, (by omega : 0 ≤ m), cutA, adO]
end

/-! bytes and strings -/
theorem run_strOf (s t : Nat) (hs : TSl P s el 1 by') (he : TInt P el .u8) (ht : TStr P t) {B c : Nat} {a : Option Addr} {xs : List UInt8} (hr : RdB w B a xs) :
    (convert s t (.slice a xs.length c)).run P w = .ok (.string ⟨xs.toArray⟩) w := by
  cases xs with
  | nil =>
    show (convert s t (.slice a 0 c)).run P _ = _
    rw [run_convert_bytes_string _ s t el a 0 c hs.u he.u ht.u]
    cases a with
    | none => rfl
    | some ad => simp [Conv.bytesToString, loadCells, loadCellsFrom]; rfl
  | cons x xs =>
    have hr' := hr
    obtain ⟨ad, rfl, _, _⟩ := hr (by simp)
    exact run_convert_bytes_back _ s t el ad c (x :: xs) hs.u he.u ht.u fun j hj => RdB.cell hr' hj
theorem m_strOfY {S : World → Prop} (s t : Nat) [hs : TSl P s el 1 by'] [he : TInt P el .u8] [ht : TStr P t] {B c : Nat} {a : Option Addr} {xs : List UInt8} (hS : S w) (hr : ∀ w', S w' → RdB w' B a xs) :
    runS (.ahead S) P (convert s t (.slice a xs.length c)) K pan w = K (.string ⟨xs.toArray⟩) w :=
  runS_yields hS fun w' hS' => run_strOf s t hs he ht (hr w' hS')
theorem m_loadN {S : World → Prop} (t : TypeId) [h : TSc P t] (p : Option Addr) (v : Value) (hc : ∀ w', S w' → cellO w' p = some v) (hS : S w) : runS (.ahead S) P (Instr.loadAt t (.pointer p)) K pan w = K v w := m_loadY t p v hS hc
theorem m_strOfN {S : World → Prop} (s t : Nat) [hs : TSl P s el 1 by'] [he : TInt P el .u8] [ht : TStr P t] {B c n : Nat} {a : Option Addr} {xs : List UInt8} (hn : xs.length = n) (hr : ∀ w', S w' → RdB w' B a xs) (hS : S w) :
    runS (.ahead S) P (convert s t (.slice a n c)) K pan w = K (.string ⟨xs.toArray⟩) w := by
  subst hn
  exact runS_yields hS fun w' hS' => run_strOf s t hs he ht (hr w' hS')
theorem m_strOf (s t : Nat) [hs : TSl P s el 1 by'] [he : TInt P el .u8] [ht : TStr P t] {B c : Nat} {a : Option Addr} {xs : List UInt8} [hq : RdM q] (hr : RdB w B a xs) :
    runS q P (convert s t (.slice a xs.length c)) K pan w = K (.string ⟨xs.toArray⟩) w :=
  runS_reads hq.h fun n => run_strOf s t hs he ht (w := w.drewN n) hr
end
end Go.Proofs.YtokoohdpakhphaaDoor.VC
