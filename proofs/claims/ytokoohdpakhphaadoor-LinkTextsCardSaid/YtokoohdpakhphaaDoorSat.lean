/- Symbolic heaps: what is known of a world: which blocks of those that stood at the beginning may be written, and what stands in the blocks that are known. No statement about the program stands here. -/
import Derived.Test.YtokoohdpakhphaaDoorMwA
namespace Go.Proofs.YtokoohdpakhphaaDoor.VC
open Go Go.RowKit
set_option linter.unusedSimpArgs false
set_option linter.unusedVariables false
/-- the world at the beginning; which of its blocks may be written -/
structure Cx where
  base : World
  mod : Nat → Prop
def Cx.at (w : World) : Cx := ⟨w, fun _ => False⟩
/-- an owned row: nil, or a block of its own of c elements, the first cells hold xs -/
def SlH (w : World) (a : Option Addr) (c : Nat) (xs : List Value) (el sz : Nat) : Prop :=
  (a = none ∧ c = 0 ∧ xs = []) ∨ ∃ b cs, a = some ⟨b, 0, none⟩ ∧ w.heap[b]? = some (.cells cs el (0, 0)) ∧ c ≤ maxLen ∧ cs.size = c * sz ∧ xs.length ≤ c * sz ∧ cs.toList.take xs.length = xs
/-- a block as a whole, no cell of which is frozen -/
def BkH (w : World) (b : Nat) (cs : List Value) (t : Nat) : Prop := ∃ fr : Nat × Nat, w.heap[b]? = some (.cells cs.toArray t fr) ∧ (fr = (0, 0) ∨ cs.length ≤ fr.1)
/-- what is known: a block as a whole; an owned row; something else, of the blocks of F -/
inductive Ck where
  | bk (b : Nat) (cs : List Value) (t : Nat)
  | sl (a : Option Addr) (c : Nat) (xs : List Value) (el sz : Nat)
  | pr (F : Nat → Prop) (C : World → Prop)
def Ck.foot : Ck → Nat → Prop
  | .bk b _ _, k => k = b
  | .sl a _ _ _ _, k => ∃ ad, a = some ad ∧ ad.block = k
  | .pr F _, k => F k
def Ck.holds (w : World) : Ck → Prop
  | .bk b cs t => BkH w b cs t
  | .sl a c xs el sz => SlH w a c xs el sz
  | .pr F C => ∀ w' : World, (∀ k, F k → w'.heap[k]? = w.heap[k]?) → C w'
theorem Ck.congr {w w' : World} {c : Ck} (hc : ∀ k, c.foot k → w'.heap[k]? = w.heap[k]?) (h : c.holds w) : c.holds w' := by
  cases c with
  | bk b cs t =>
    obtain ⟨fr, h1, h2⟩ := h
    exact ⟨fr, by rw [hc b rfl]; exact h1, h2⟩
  | sl a c xs el sz =>
    rcases h with h | ⟨b, cs, h1, h2, h3⟩
    · exact .inl h
    · exact .inr ⟨b, cs, h1, by rw [hc b ⟨_, h1, rfl⟩]; exact h2, h3⟩
  | pr F C => exact fun w'' hk => h w'' fun k hF => by rw [hk k hF, hc k hF]
structure Kept (S : Cx) (w : World) : Prop where
  os : w.os = S.base.os
  tape : w.tape = S.base.tape
  output : w.output = S.base.output
  size : S.base.heap.size ≤ w.heap.size
  block : ∀ k, k < S.base.heap.size → ¬ S.mod k → w.heap[k]? = S.base.heap[k]?
structure Sat (S : Cx) (H : List Ck) (w : World) : Prop where
  kept : Kept S w
  holds : ∀ c ∈ H, c.holds w
  own : ∀ c ∈ H, ∀ k, c.foot k → k < w.heap.size ∧ (k < S.base.heap.size → S.mod k)
  apart : H.Pairwise fun c d => ∀ k, c.foot k → ¬ d.foot k
def footL (H : List Ck) (k : Nat) : Prop := ∃ c ∈ H, c.foot k
section
variable {S : Cx} {H F pre post new : List Ck} {w w' : World} {c c' : Ck}
theorem Kept.refl (w : World) (m : Nat → Prop) : Kept ⟨w, m⟩ w := ⟨rfl, rfl, rfl, Nat.le_refl _, fun _ _ _ => rfl⟩
theorem Sat.start (w : World) : Sat (.at w) [] w := ⟨Kept.refl w _, fun _ h => (nomatch h), fun _ h => (nomatch h), .nil⟩
theorem Sat.perm {H' : List Ck} (hs : Sat S H w) (hp : H.Perm H') : Sat S H' w :=
  ⟨hs.kept, fun c h => hs.holds c (hp.mem_iff.2 h), fun c h => hs.own c (hp.mem_iff.2 h), (hp.pairwise_iff (fun h k hd hc => h k hc hd)).1 hs.apart⟩
/-- WHAT IS DONE TO A PART LEAVES THE REST. -/
theorem Sat.frame (hs : Sat S H w) (hp : H.Perm (pre ++ F)) (h : Sat ⟨w, footL pre⟩ post w') : Sat S (post ++ F) w' := by
  have hs' := hs.perm hp
  have hap := List.pairwise_append.1 hs'.apart
  have hF : ∀ c ∈ F, ∀ k, c.foot k → k < w.heap.size ∧ ¬ footL pre k := fun c hc k hk =>
    ⟨(hs'.own c (List.mem_append_right _ hc) k hk).1, fun ⟨d, hd, hdk⟩ => hap.2.2 d hd c hc k hdk hk⟩
  have hpre : ∀ k, footL pre k → k < S.base.heap.size → S.mod k := fun k ⟨d, hd, hdk⟩ => (hs'.own d (List.mem_append_left _ hd) k hdk).2
  refine ⟨⟨h.kept.os.trans hs.kept.os, h.kept.tape.trans hs.kept.tape, h.kept.output.trans hs.kept.output, Nat.le_trans hs.kept.size h.kept.size, fun k hk hm => ?_⟩, ?_, ?_, ?_⟩
  · have := h.kept.block k (Nat.lt_of_lt_of_le hk hs.kept.size) (fun hp => hm (hpre k hp hk))
    exact this.trans (hs.kept.block k hk hm)
  · intro c hc
    rcases List.mem_append.1 hc with hc | hc
    · exact h.holds c hc
    · exact Ck.congr (fun k hk => h.kept.block k (hF c hc k hk).1 (hF c hc k hk).2) (hs'.holds c (List.mem_append_right _ hc))
  · intro c hc k hk
    rcases List.mem_append.1 hc with hc | hc
    · refine ⟨(h.own c hc k hk).1, fun hb => hpre k ((h.own c hc k hk).2 ?_) hb⟩
      exact Nat.lt_of_lt_of_le hb hs.kept.size
    · have := hs'.own c (List.mem_append_right _ hc) k hk
      exact ⟨Nat.lt_of_lt_of_le this.1 h.kept.size, this.2⟩
  · refine List.pairwise_append.2 ⟨h.apart, hap.2.1, fun d hd c hc k hdk hck => ?_⟩
    have h1 := hF c hc k hck
    exact h1.2 ((h.own d hd k hdk).2 h1.1)
theorem Sat.add (hs : Sat S H w) (h : Sat (.at w) new w') : Sat S (H ++ new) w' := by
  have e : (⟨w, footL []⟩ : Cx) = .at w := by
    unfold Cx.at
    congr 1
    funext k
    exact propext ⟨fun ⟨c, hc, _⟩ => (nomatch hc), fun h => h.elim⟩
  have := hs.frame (pre := []) (F := H) (List.Perm.refl _) (e ▸ h)
  exact this.perm List.perm_append_comm
theorem eraseIdx_perm : ∀ (H : List Ck) (i : Nat) (c : Ck), H[i]? = some c → H.Perm (c :: H.eraseIdx i)
  | [], i, c, h => by simp at h
  | d :: H, 0, c, h => by simp at h; subst h; exact List.Perm.refl _
  | d :: H, i + 1, c, h => by
    have := eraseIdx_perm H i c (by simpa using h)
    exact (this.cons d).trans (List.Perm.swap c d _)
theorem set_perm : ∀ (H : List Ck) (i : Nat) (c d : Ck), H[i]? = some c → (H.set i d).Perm (d :: H.eraseIdx i)
  | [], i, c, d, h => by simp at h
  | e :: H, 0, c, d, h => List.Perm.refl _
  | e :: H, i + 1, c, d, h => by
    have := set_perm H i c d (by simpa using h)
    exact (this.cons e).trans (List.Perm.swap d e _)
theorem foot1 (c : Ck) : footL [c] = c.foot := by
  funext k
  exact propext ⟨fun ⟨d, hd, hk⟩ => by simp at hd; subst hd; exact hk, fun h => ⟨c, by simp, h⟩⟩
theorem Sat.one (hs : Sat S H w) (i : Nat) (hi : H[i]? = some c) : Sat ⟨w, c.foot⟩ [c] w := by
  have hm := List.mem_of_getElem? hi
  exact ⟨Kept.refl w _, fun d hd => by simp at hd; subst hd; exact hs.holds d hm, fun d hd k hk => by simp at hd; subst hd; exact ⟨(hs.own d hm k hk).1, fun _ => hk⟩, by simp⟩
theorem Sat.upd (hs : Sat S H w) (i : Nat) (hi : H[i]? = some c) (h : Sat ⟨w, c.foot⟩ (c' :: new) w') : Sat S (H.set i c' ++ new) w' := by
  have h1 := hs.frame (pre := [c]) (F := H.eraseIdx i) (eraseIdx_perm H i c hi) (by rw [foot1]; exact h)
  refine h1.perm ?_
  have := (set_perm H i c c' hi).symm
  exact (List.perm_append_comm.cons c').trans ((List.perm_append_comm (l₁ := c' :: H.eraseIdx i) (l₂ := new)).symm.symm.trans (List.perm_append_comm.trans (this.append_right new))) |>.trans (List.Perm.refl _)
theorem Sat.upd1 (hs : Sat S H w) (i : Nat) (hi : H[i]? = some c) (h : Sat ⟨w, c.foot⟩ [c'] w') : Sat S (H.set i c') w' := by
  have := hs.upd i hi h
  rwa [List.append_nil] at this
theorem Sat.drop (hs : Sat S (H ++ F) w) : Sat S H w := ⟨hs.kept, fun c h => hs.holds c (List.mem_append_left _ h), fun c h => hs.own c (List.mem_append_left _ h), (List.pairwise_append.1 hs.apart).1⟩
theorem Sat.sub {H' : List Ck} (hs : Sat S H w) (h : H'.Sublist H) : Sat S H' w := ⟨hs.kept, fun c hc => hs.holds c (h.subset hc), fun c hc => hs.own c (h.subset hc), hs.apart.sublist h⟩
theorem Sat.below (hs : Sat S H w) (hm : ∀ k, ¬ S.mod k) : Below S.base.heap.size S.base w := ⟨hs.kept.os, hs.kept.tape, hs.kept.output, hs.kept.size, fun k hk => hs.kept.block k hk (hm k)⟩
theorem Sat.belowAt {w0 : World} (hs : Sat (.at w0) H w) : Below w0.heap.size w0 w := hs.below fun _ h => h
theorem Below.sat {w0 : World} (h : Below w0.heap.size w0 w) : Sat (.at w0) [] w := ⟨⟨h.os, h.tape, h.output, h.size, fun k hk _ => h.block k hk⟩, fun _ h => (nomatch h), fun _ h => (nomatch h), .nil⟩
theorem Sat.drewN (hs : Sat S H w) (n : Nat) : Sat S H (w.drewN n) :=
  ⟨⟨hs.kept.os, hs.kept.tape, hs.kept.output, hs.kept.size, hs.kept.block⟩, fun c h => Ck.congr (fun _ _ => rfl) (hs.holds c h), hs.own, hs.apart⟩
theorem Sat.drew (hs : Sat S H w) : Sat S H w.drew := hs.drewN 1
/-- two steps -/
theorem Sat.trans {H' : List Ck} {w1 : World} (hs : Sat (.at w) H w1) (h : Sat (.at w1) new w') : Sat (.at w) (H ++ new) w' := hs.add h

/-! ### cells -/
def Ck.cells : Ck → List Value
  | .bk _ cs _ => cs
  | .sl _ _ xs _ _ => xs
  | .pr _ _ => []
def Ck.put : Ck → Nat → Value → Ck
  | .bk b cs t, k, v => .bk b (cs.set k v) t
  | .sl a c xs el sz, k, v => .sl a c (xs.set k v) el sz
  | .pr F C, _, _ => .pr F C
def Ck.puts : Ck → Nat → List Value → Ck
  | .bk b cs t, k, vs => .bk b (cs.take k ++ vs ++ cs.drop (k + vs.length)) t
  | .sl a c xs el sz, k, vs => .sl a c (xs.take k ++ vs ++ xs.drop (k + vs.length)) el sz
  | .pr F C, _, _ => .pr F C
theorem cells_bk (b t : Nat) (cs : List Value) : (Ck.bk b cs t).cells = cs := (fun h => h) rfl
theorem cells_sl (a : Option Addr) (n el sz : Nat) (xs : List Value) : (Ck.sl a n xs el sz).cells = xs := (fun h => h) rfl
theorem put_bk (b t k : Nat) (cs : List Value) (v : Value) : (Ck.bk b cs t).put k v = .bk b (cs.set k v) t := (fun h => h) rfl
theorem put_sl (a : Option Addr) (n el sz k : Nat) (xs : List Value) (v : Value) : (Ck.sl a n xs el sz).put k v = .sl a n (xs.set k v) el sz := (fun h => h) rfl
theorem puts_bk (b t k : Nat) (cs vs : List Value) : (Ck.bk b cs t).puts k vs = .bk b (cs.take k ++ vs ++ cs.drop (k + vs.length)) t := (fun h => h) rfl
theorem puts_sl (a : Option Addr) (n el sz k : Nat) (xs vs : List Value) : (Ck.sl a n xs el sz).puts k vs = .sl a n (xs.take k ++ vs ++ xs.drop (k + vs.length)) el sz := (fun h => h) rfl
/-- the address p is place k of what is known there -/
def Ck.place : Ck → Option Addr → Nat → Prop
  | .bk b _ _, p, k => p = some ⟨b, k, none⟩
  | .sl a _ _ _ _, p, k => p = adO a k
  | .pr _ _, _, _ => False
/-- where in H the address p lies -/
class At (H : List Ck) (p : Option Addr) (c : outParam Ck) (i k : outParam Nat) : Prop where
  get : H[i]? = some c
  place : c.place p k
theorem add_lit0 (b k : Nat) : (⟨b, 0, none⟩ : Addr).add k = ⟨b, k, none⟩ := by rw [add_lit, Nat.zero_add]
instance At.bk (b t k : Nat) (cs : List Value) (H : List Ck) : At (.bk b cs t :: H) (some ⟨b, k, none⟩) (.bk b cs t) 0 k := ⟨rfl, rfl⟩
instance At.slB (b k n el sz : Nat) (xs : List Value) (H : List Ck) : At (.sl (some ⟨b, 0, none⟩) n xs el sz :: H) (some ⟨b, k, none⟩) (.sl (some ⟨b, 0, none⟩) n xs el sz) 0 k := ⟨rfl, by show _ = some (Addr.add _ _); rw [add_lit0]⟩
instance At.slA (a : Option Addr) (k n el sz : Nat) (xs : List Value) (H : List Ck) : At (.sl a n xs el sz :: H) (adO a k) (.sl a n xs el sz) 0 k := ⟨rfl, rfl⟩
instance At.sl0 (a : Option Addr) (n el sz : Nat) (xs : List Value) (H : List Ck) : At (.sl a n xs el sz :: H) a (.sl a n xs el sz) 0 0 := ⟨rfl, (adO_0 a).symm⟩
instance (priority := low) At.next (d : Ck) (H : List Ck) (p : Option Addr) (c : Ck) (i k : Nat) [h : At H p c i k] : At (d :: H) p c (i + 1) k := ⟨by rw [List.getElem?_cons_succ]; exact h.get, h.place⟩
/-- the same, by the row's own address -/
class AtR (H : List Ck) (a : Option Addr) (n : outParam Nat) (xs : outParam (List Value)) (el sz i : outParam Nat) : Prop where
  get : H[i]? = some (.sl a n xs el sz)
instance AtR.here (a : Option Addr) (n el sz : Nat) (xs : List Value) (H : List Ck) : AtR (.sl a n xs el sz :: H) a n xs el sz 0 := ⟨rfl⟩
instance (priority := low) AtR.next (d : Ck) (H : List Ck) (a : Option Addr) (n el sz i : Nat) (xs : List Value) [h : AtR H a n xs el sz i] : AtR (d :: H) a n xs el sz (i + 1) := ⟨by rw [List.getElem?_cons_succ]; exact h.get⟩

instance (priority := low) At.app (A B : List Ck) (p : Option Addr) (c : Ck) (i k : Nat) [h : At B p c i k] : At (A ++ B) p c (A.length + i) k := ⟨by rw [List.getElem?_append_right (by omega), Nat.add_sub_cancel_left]; exact h.get, h.place⟩
instance (priority := low) AtR.app (A B : List Ck) (a : Option Addr) (n el sz i : Nat) (xs : List Value) [h : AtR B a n xs el sz i] : AtR (A ++ B) a n xs el sz (A.length + i) := ⟨by rw [List.getElem?_append_right (by omega), Nat.add_sub_cancel_left]; exact h.get⟩
theorem set_app (A B : List Ck) (i : Nat) (c : Ck) : (A ++ B).set (A.length + i) c = A ++ B.set i c := by rw [List.set_append_right _ _ (by omega), Nat.add_sub_cancel_left]
theorem set_app0 (A B : List Ck) (c : Ck) : (A ++ B).set A.length c = A ++ B.set 0 c := set_app A B 0 c
theorem SlH.cell {a : Option Addr} {n el sz k : Nat} {xs : List Value} {v : Value} (h : SlH w a n xs el sz) (hk : xs[k]? = some v) : cellO w (adO a k) = some v := by
  rcases h with ⟨_, _, rfl⟩ | ⟨b, cs, rfl, hb, _, hs, hl, ht⟩
  · cases hk
  · show World.cell? w (Addr.add _ k) = _
    rw [add_lit0]
    unfold World.cell?
    simp only [hb, Option.isSome_none, Bool.false_eq_true, if_false]
    rw [← ht, List.getElem?_take] at hk
    split at hk
    · rw [← Array.getElem?_toList]; exact hk
    · cases hk
theorem Ck.cell {p : Option Addr} {k : Nat} {v : Value} (h : c.holds w) (hp : c.place p k) (hk : c.cells[k]? = some v) : cellO w p = some v := by
  cases c with
  | bk b cs t =>
    rw [show p = _ from hp]
    obtain ⟨fr, h1, _⟩ := h
    show World.cell? _ _ = _
    unfold World.cell?
    simpa [h1, Ck.cells] using hk
  | sl a n xs el sz => rw [show p = _ from hp]; exact SlH.cell h hk
  | pr F C => exact hp.elim
/-- a cell, or what the world says of it -/
def lk (o z : Option Value) : Option Value := match o with | some v => some v | none => z
def lkZ (w : World) (p : Option Addr) : Option Value := cellO w p
theorem lk_some (v : Value) (z : Option Value) : lk (some v) z = some v := (fun h => h) rfl
theorem Sat.look (hs : Sat S H w) (p : Option Addr) {i k : Nat} [h : At H p c i k] : cellO w p = lk (c.cells[k]?) (lkZ w p) := by
  cases hv : c.cells[k]? with
  | none => rfl
  | some v => exact Ck.cell (hs.holds c (List.mem_of_getElem? h.get)) h.place hv
theorem adO_lit (a : Option Addr) (i j : Nat) : adO (adO a i) j = adO a (i + j) := adO_adO a i j
theorem place_add {p : Option Addr} {k : Nat} (hp : c.place p k) (j : Nat) : c.place (adO p j) (k + j) := by
  cases c with
  | bk b cs t => rw [show p = _ from hp]; show some (Addr.add _ j) = _; rw [add_lit]
  | sl a n xs el sz => rw [show p = _ from hp]; exact adO_adO a k j
  | pr F C => exact hp.elim
theorem Ck.cellsFrom {p : Addr} {k : Nat} (h : c.holds w) (hp : c.place (some p) k) : ∀ (n j : Nat), k + j + n ≤ c.cells.length → VC.cellsFrom w p j n = some ((c.cells.drop (k + j)).take n)
  | 0, j, _ => by simp [VC.cellsFrom]
  | n + 1, j, hl => by
    have hlt : k + j < c.cells.length := by omega
    have hc : w.cell? (p.add j) = some c.cells[k + j] := Ck.cell (p := some (p.add j)) h (place_add hp j) (List.getElem?_eq_getElem hlt)
    simp only [VC.cellsFrom, hc, Ck.cellsFrom h hp n (j + 1) (by omega)]
    rw [List.drop_eq_getElem_cons hlt, List.take_succ_cons]
    rfl
def lkA (cs : List Value) (k n : Nat) (z : Option (List Value)) : Option (List Value) := if k + n ≤ cs.length ∧ 0 < n then some ((cs.drop k).take n) else z
theorem lkA_eq (cs : List Value) (k n : Nat) (z : Option (List Value)) : lkA cs k n z = if k + n ≤ cs.length ∧ 0 < n then some ((cs.drop k).take n) else z := (fun h => h) rfl
theorem Sat.lookA (hs : Sat S H w) (p : Option Addr) (n : Nat) {i k : Nat} [h : At H p c i k] : cellsO w p n = lkA c.cells k n (cellsZ w p n) := by
  unfold lkA
  split
  · rename_i hl
    have hh := hs.holds c (List.mem_of_getElem? h.get)
    have hp := h.place
    cases p with
    | none =>
      exfalso
      have hc : cellO w none = some _ := Ck.cell hh hp (List.getElem?_eq_getElem (show k < c.cells.length by omega))
      cases hc
    | some ad =>
      have := Ck.cellsFrom hh hp n 0 (by omega)
      simpa [cellsO] using this
  · rfl
end
end Go.Proofs.YtokoohdpakhphaaDoor.VC
