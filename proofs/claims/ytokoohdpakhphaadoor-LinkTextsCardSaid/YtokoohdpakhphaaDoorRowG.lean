/- Several texts in one. -/
import Derived.Test.YtokoohdpakhphaaDoorMemA
import Derived.Deep.Slices
import Derived.SizedLaws
import Derived.ChangeOld
import Derived.WideShapes
namespace Go.Proofs.YtokoohdpakhphaaDoor.VC
open Go Go.RowKit
structure BRow where
  a : Option Addr
  c : Nat
  xs : List UInt8
def BRow.v (r : BRow) : Value := .slice r.a r.xs.length r.c
def RdBB (w : World) (B : Nat) (a : Option Addr) (rows : List BRow) : Prop := Rd w B a (rows.map BRow.v) ∧ ∀ r ∈ rows, RdB w B r.a r.xs ∧ r.xs.length ≤ r.c ∧ r.xs.length ≤ 140737488351232
theorem RdBB.below {w w' : World} {B : Nat} {a : Option Addr} {rows : List BRow} (h : RdBB w B a rows) (hb : Below B w w') : RdBB w' B a rows :=
  ⟨h.1.below hb, fun r hr => ⟨(h.2 r hr).1.below hb, (h.2 r hr).2⟩⟩
theorem RdBB.cell {w : World} {B : Nat} {a : Option Addr} {rows : List BRow} (h : RdBB w B a rows) {i : Nat} (hi : i < rows.length) : cellO w (adO a i) = some (.slice rows[i].a rows[i].xs.length rows[i].c) := by
  have := Rd.cell h.1 (i := i) (by simpa using hi)
  simpa [BRow.v] using this
theorem RdBB.isSome {w : World} {B : Nat} {a : Option Addr} {rows : List BRow} (h : RdBB w B a rows) (hi : 0 < rows.length) : a.isSome = true := Rd.isSome h.1 (by simpa using hi)
end Go.Proofs.YtokoohdpakhphaaDoor.VC
namespace Go.Proofs.YtokoohdpakhphaaDoor.VC
open Go Go.RowKit
/-- each value of type t that is read has the cells f x, where Q x -/
def Opens (P : Program) (t : Nat) (w : World) {α : Type} (f : α → List Value) (Q : α → Prop) : Prop :=
  ∀ (H : Type) (enc : TypeId × Value → H) (fuel : Nat) (cs : List Value) (d : DataW H) (ps : List MemPlace), DataW.trod enc P w 0 (fun _ => true) true fuel t cs = some (d, ps) →
    (∀ n ∈ d.weights P t, n ≤ reachBytes) → ∃ x, cs = f x ∧ Q x
section
variable {P : Program} {t el sz by' : Nat} {w : World} {α : Type} {f : α → List Value} {Q : α → Prop}
theorem opens_int {k : IntKind} [h : TInt P t k] : Opens P t w (fun n : Int => [.int k n]) (fun n => (Lit.int k n).wf = true) := fun H enc fuel cs d ps hd _ => by
  obtain ⟨n, hc, _, hw⟩ := DataW.trod_int h.u hd
  exact ⟨n, hc, hw⟩
theorem opens_u8 [h : TInt P t .u8] : Opens P t w (fun b : UInt8 => [u8v b]) (fun _ => True) := fun H enc fuel cs d ps hd hn => by
  obtain ⟨n, hc, hw⟩ := opens_int (P := P) (t := t) (w := w) H enc fuel cs d ps hd hn
  have hw' : 0 ≤ n ∧ n < 256 := by
    simp only [Lit.wf] at hw
    have h1 : IntKind.u8.min = 0 := rfl
    have h2 : IntKind.u8.max = 255 := rfl
    rw [h1, h2] at hw
    simp at hw
    omega
  refine ⟨UInt8.ofNat n.toNat, ?_, trivial⟩
  rw [hc]
  dsimp only [u8v]
  have : (UInt8.ofNat n.toNat).toNat = n.toNat := by rw [UInt8.toNat_ofNat']; omega
  rw [this, Int.toNat_of_nonneg hw'.1]
theorem opens_bool [h : TBool P t] : Opens P t w (fun b : Bool => [.bool b]) (fun _ => True) := fun H enc fuel cs d ps hd _ => by
  cases fuel with
  | zero => simp [DataW.trod] at hd
  | succ n =>
    unfold DataW.trod at hd
    rw [h.u] at hd
    split at hd <;> simp_all
theorem opens_str [h : TStr P t] : Opens P t w (fun s : ByteArray => [.string s]) (fun s => s.size ≤ reachBytes) := fun H enc fuel cs d ps hd hn => by
  obtain ⟨s, hc, hx, _⟩ := DataW.trod_string h.u hd
  injection hx with h1 h2
  subst h1
  refine ⟨s, hc, ?_⟩
  have := hn s.data.toList.length (by simp [DataW.weights])
  simpa using this
structure SRow (α : Type) where
  a : Option Addr
  c : Nat
  xs : List α
def SRow.v (r : SRow α) : Value := .slice r.a r.xs.length r.c
theorem cell?_lt {w : World} {p : Addr} {v : Value} (h : w.cell? p = some v) : p.block < w.heap.size := by
  unfold World.cell? at h
  by_cases hlt : p.block < w.heap.size
  · exact hlt
  · rw [Array.getElem?_eq_none (by omega)] at h
    simp at h
theorem weightsAll_mem {H : Type} (P : Program) (e : TypeId) : ∀ (l : List (DataW H)) (d : DataW H), d ∈ l → ∀ n ∈ d.weights P e, n ∈ DataW.weightsAll P e l
  | x :: l, d, hd, n, hn => by
    simp only [DataW.weightsAll, List.mem_append]
    rcases List.mem_cons.1 hd with rfl | h
    · exact .inl hn
    · exact .inr (weightsAll_mem P e l d h n hn)
theorem getElem?_flatMap {β γ : Type} {f : β → List γ} {k : Nat} (hf : ∀ x, (f x).length = k) : ∀ (l : List β) (i j : Nat) (x : β), l[i]? = some x → j < k → (l.flatMap f)[i * k + j]? = (f x)[j]?
  | [], i, j, x, h, _ => by simp at h
  | y :: l, 0, j, x, h, hj => by
    simp only [List.getElem?_cons_zero, Option.some.injEq] at h
    subst h
    rw [List.flatMap_cons, Nat.zero_mul, Nat.zero_add, List.getElem?_append_left (by rw [hf]; exact hj)]
  | y :: l, i + 1, j, x, h, hj => by
    rw [List.getElem?_cons_succ] at h
    rw [List.flatMap_cons, List.getElem?_append_right (by rw [hf, Nat.succ_mul]; omega), hf, show (i + 1) * k + j - k = i * k + j by rw [Nat.succ_mul]; omega]
    exact getElem?_flatMap hf l i j x h hj
theorem opens_slice [h : TSl P t el sz by'] (hel : Opens P el w f Q) (hf : ∀ x, (f x).length = sz) :
    Opens P t w (fun r : SRow α => [r.v]) (fun r => Rd w w.heap.size r.a (r.xs.flatMap f) ∧ r.xs.length ≤ r.c ∧ r.c * by' ≤ reachBytes ∧ ∀ x ∈ r.xs, Q x) := fun H enc fuel cs d ps hd hn => by
  have hs : P.cellsOf el = sz ∧ P.bytesOf el = by' := by
    have := h.s
    cases hi : P.info? el with
    | none => simp [hi] at this
    | some i =>
      simp [hi] at this
      simp [Program.cellsOf, Program.bytesOf, hi, this]
  rcases Deep.open_slice h.u hd with ⟨rfl, hx⟩ | ⟨a, len, cap, m, n, D, Pl, rfl, hb, hl, hm, hmm, hx, hall⟩
  · exact ⟨⟨none, 0, []⟩, rfl, Rd.nil, Nat.le_refl _, by simp, fun x hx => by cases hx⟩
  · simp only [if_true] at hmm
    subst hmm
    injection hx with hx1 hx2
    subst hx1
    have hw : ∀ i, i < m → ∀ n ∈ (D i).weights P el, n ≤ reachBytes := fun i hi n hn' => by
      refine hn n ?_
      simp only [DataW.weights, h.u, List.mem_cons, List.mem_append]
      by_cases hil : i < len
      · exact .inr (.inl (weightsAll_mem P el _ (D i) (List.mem_map.2 ⟨i, by simpa using hil, rfl⟩) n hn'))
      · exact .inr (.inr (weightsAll_mem P el _ (D i) (List.mem_map.2 ⟨i - len, by simp; omega, by rw [show len + (i - len) = i by omega]⟩) n hn'))
    have hcap : m * by' ≤ reachBytes := by
      have := hn ((len + (m - len)) * P.bytesOf el) (by simp [DataW.weights, h.u])
      rwa [show len + (m - len) = m by omega, hs.2] at this
    rw [hs.1] at hall
    have hX : ∀ i, ∃ x : Option α, i < m → ∃ y, x = some y ∧ w.cells? 0 (a.add (i * sz)) sz = some (f y) ∧ Q y := fun i => by
      by_cases hi : i < m
      · obtain ⟨cs', h1, h2⟩ := hall i hi
        obtain ⟨y, rfl, hq⟩ := hel H enc n cs' _ _ h2 (hw i hi)
        exact ⟨some y, fun _ => ⟨y, rfl, h1, hq⟩⟩
      · exact ⟨none, fun h => absurd h hi⟩
    have hl' : ∀ k, k ≤ m → ∃ xs : List α, xs.length = k ∧ ∀ (i : Nat) y, xs[i]? = some y → w.cells? 0 (a.add (i * sz)) sz = some (f y) ∧ Q y := by
      intro k
      induction k with
      | zero => exact fun _ => ⟨[], rfl, fun i y h => by simp at h⟩
      | succ k ih =>
        intro hk
        obtain ⟨xs, hxs, hall'⟩ := ih (by omega)
        obtain ⟨x, hx⟩ := hX k
        obtain ⟨y, rfl, h1, h2⟩ := hx (by omega)
        refine ⟨xs ++ [y], by simp [hxs], fun i z hz => ?_⟩
        by_cases hi : i < xs.length
        · rw [List.getElem?_append_left hi] at hz
          exact hall' i z hz
        · rw [List.getElem?_append_right (by omega)] at hz
          have : i = k := by
            by_cases e : i - xs.length = 0
            · omega
            · rw [List.getElem?_eq_none (by simp; omega)] at hz; cases hz
          subst this
          rw [hxs, Nat.sub_self] at hz
          simp only [List.getElem?_cons_zero, Option.some.injEq] at hz
          subst hz
          exact ⟨h1, h2⟩
    obtain ⟨xs, hxs, hall'⟩ := hl' len hl
    refine ⟨⟨some a, m, xs⟩, by simp [SRow.v, hxs], ?_, by simpa [hxs] using hl, hcap, fun x hx => ?_⟩
    · intro hne
      have hsz : 0 < sz ∧ 0 < xs.length := by
        have : 0 < (xs.flatMap f).length := List.length_pos_iff.2 hne
        rcases xs with _ | ⟨y, l⟩
        · simp at this
        · refine ⟨?_, by simp⟩
          rcases Nat.eq_zero_or_pos sz with e | e
          · exfalso
            have : ∀ l : List α, l.flatMap f = [] := fun l => by
              rw [List.flatMap_eq_nil_iff]
              exact fun x _ => List.eq_nil_of_length_eq_zero (by rw [hf, e])
            exact hne (this _)
          · exact e
      have hlen : (xs.flatMap f).length = xs.length * sz := by
        have : ∀ l : List α, (l.flatMap f).length = l.length * sz := fun l => by
          induction l with
          | nil => simp
          | cons y l ih => rw [List.flatMap_cons, List.length_append, ih, hf, List.length_cons, Nat.succ_mul, Nat.add_comm]
        exact this xs
      have hcell : ∀ i j, i < xs.length → j < sz → ∃ hh : i * sz + j < (xs.flatMap f).length, w.cell? (a.add (i * sz + j)) = some (xs.flatMap f)[i * sz + j] := fun i j hi hj => by
        have e := getElem?_flatMap hf xs i j xs[i] (List.getElem?_eq_getElem hi) hj
        obtain ⟨h1, _⟩ := hall' i xs[i] (List.getElem?_eq_getElem hi)
        obtain ⟨_, _, h3⟩ := World.cells?_some h1
        have h4 := h3 j hj
        rw [Deep.add_add, ← e] at h4
        have hlt : i * sz + j < (xs.flatMap f).length := by
          rw [hlen]
          calc i * sz + j < i * sz + sz := by omega
            _ = (i + 1) * sz := by rw [Nat.succ_mul]
            _ ≤ xs.length * sz := Nat.mul_le_mul_right _ (by omega)
        exact ⟨hlt, by rw [h4, List.getElem?_eq_getElem hlt]⟩
      refine ⟨a, rfl, ?_, fun i hi => ?_⟩
      · obtain ⟨_, h0⟩ := hcell 0 0 hsz.2 hsz.1
        have := cell?_lt h0
        rwa [block_add] at this
      · rw [hlen] at hi
        have h1 : i / sz < xs.length := Nat.div_lt_of_lt_mul (by rw [Nat.mul_comm]; exact hi)
        have h2 : i % sz < sz := Nat.mod_lt _ hsz.1
        have e : i / sz * sz + i % sz = i := by rw [Nat.mul_comm]; exact Nat.div_add_mod _ _
        obtain ⟨_, h3⟩ := hcell (i / sz) (i % sz) h1 h2
        simp only [e] at h3
        exact h3
    · obtain ⟨i, hi, rfl⟩ := List.mem_iff_getElem.1 hx
      exact (hall' i _ (List.getElem?_eq_getElem hi)).2
theorem opens_u64 [h : TInt P t .u64] : Opens P t w (fun n : Nat => [.int .u64 n]) (fun n => n < 2 ^ 64) := fun H enc fuel cs d ps hd hn => by
  obtain ⟨n, hc, hw⟩ := opens_int (P := P) (t := t) (w := w) H enc fuel cs d ps hd hn
  have hw' : 0 ≤ n ∧ n < 2 ^ 64 := by
    simp only [Lit.wf] at hw
    have h1 : IntKind.u64.min = 0 := rfl
    have h2 : IntKind.u64.max = 18446744073709551615 := rfl
    rw [h1, h2] at hw
    simp at hw
    omega
  refine ⟨n.toNat, ?_, by omega⟩
  rw [hc]
  dsimp only
  rw [Int.toNat_of_nonneg hw'.1]
/-- the fields fs of a struct, from place off to its end -/
def OpensF (P : Program) (w : World) (off fin : Nat) (fs : List Field) {α : Type} (f : α → List Value) (Q : α → Prop) : Prop :=
  ∀ (H : Type) (enc : TypeId × Value → H) (n : Nat) (cs : List Value) (xs : List (DataW H × List MemPlace)), cs.length = fin →
    (∀ (i : Nat) (fd : Field), fs[i]? = some fd → DataW.trod enc P w 0 (fun _ => true) true n fd.type ((cs.drop fd.offset).take (P.cellsOf fd.type)) = xs[i]?) → xs.length = fs.length →
    (∀ m ∈ DataW.weightsEach P (fs.map (·.type)) (xs.map (·.1)), m ≤ reachBytes) → ∃ x, cs.drop off = f x ∧ Q x
theorem opensF_nil (fin : Nat) : OpensF P w fin fin [] (fun _ : Unit => []) (fun _ => True) := fun H enc n cs xs hl _ _ _ => ⟨(), by rw [← hl, List.drop_length], trivial⟩
theorem opensF_cons {β : Type} {f2 : β → List Value} {Q2 : β → Prop} {off fin sz : Nat} {fd : Field} {fs : List Field} (h1 : Opens P fd.type w f Q) (ho : fd.offset = off) (hs : P.cellsOf fd.type = sz) (hr : OpensF P w (off + sz) fin fs f2 Q2) :
    OpensF P w off fin (fd :: fs) (fun x : α × β => f x.1 ++ f2 x.2) (fun x => Q x.1 ∧ Q2 x.2) := fun H enc n cs xs hl hx hxl hw => by
  rcases xs with _ | ⟨y, ys⟩
  · simp at hxl
  · have h0 := hx 0 fd rfl
    rw [List.getElem?_cons_zero, ho, hs] at h0
    obtain ⟨x1, e1, q1⟩ := h1 H enc n _ y.1 y.2 h0 (fun m hm => hw m (by simp [DataW.weightsEach, hm]))
    obtain ⟨x2, e2, q2⟩ := hr H enc n cs ys hl (fun i fd' h => by have := hx (i + 1) fd' (by simpa using h); simpa using this) (by simpa using hxl) (fun m hm => hw m (by simp [DataW.weightsEach, hm]))
    refine ⟨(x1, x2), ?_, q1, q2⟩
    dsimp only
    rw [← e1, ← e2, ← List.drop_drop, List.take_append_drop]
theorem opens_struct {fs : List Field} {fin : Nat} (hu : P.underlying t = some (.struct fs.toArray)) (hf : P.cellsOf t = fin) (h : OpensF P w 0 fin fs f Q) : Opens P t w f Q := fun H enc fuel cs d ps hd hn => by
  obtain ⟨xs, n, rfl, hx, hl, hxl, hall⟩ := DataW.trod_struct hu hd
  injection hx with hx1 hx2
  subst hx1
  obtain ⟨x, e, q⟩ := h H enc n cs xs (hl.trans hf) (fun i fd hfd => hall i fd (by simpa using hfd)) (by simpa using hxl) (fun m hm => hn m (by simp only [DataW.weights, hu]; exact hm))
  exact ⟨x, by simpa using e, q⟩
end
end Go.Proofs.YtokoohdpakhphaaDoor.VC
namespace Go.Proofs.YtokoohdpakhphaaDoor.Dig
open Go VC Go.RowKit
theorem rdbb_of {W : World} {r : SRow (SRow UInt8)} (hrd : Rd W W.heap.size r.a (r.xs.flatMap fun x : SRow UInt8 => [x.v]))
    (hq : ∀ x ∈ r.xs, Rd W W.heap.size x.a (x.xs.flatMap fun b : UInt8 => [u8v b]) ∧ x.xs.length ≤ x.c ∧ x.xs.length ≤ 140737488351232) : RdBB W W.heap.size r.a (r.xs.map fun x => ⟨x.a, x.c, x.xs⟩) := ⟨by
  have e : r.xs.flatMap (fun x : SRow UInt8 => [x.v]) = (r.xs.map fun x => (⟨x.a, x.c, x.xs⟩ : BRow)).map BRow.v := by
    simp [List.map_map, ← List.map_eq_flatMap]
    exact fun a _ => rfl
  rw [← e]; exact hrd, fun y hy => by
  obtain ⟨x, hx, rfl⟩ := List.mem_map.1 hy
  obtain ⟨h1, h2, h3⟩ := hq x hx
  refine ⟨?_, h2, h3⟩
  have e : x.xs.flatMap (fun b : UInt8 => [u8v b]) = x.xs.map u8v := (List.map_eq_flatMap ..).symm
  rw [e] at h1
  exact h1⟩
end Go.Proofs.YtokoohdpakhphaaDoor.Dig
