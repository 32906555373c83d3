/- Symbolic heaps: what the operations do to them. No statement about the program stands here. -/
import Derived.Test.YtokoohdpakhphaaDoorSat
import Derived.Laws.IdiomStrings
import Derived.ChangeKeysEq
namespace Go.Proofs.YtokoohdpakhphaaDoor.VC
open Go Go.RowKit
set_option linter.unusedSimpArgs false
set_option linter.unusedVariables false
section
variable {S : Cx} {H F pre post new : List Ck} {w w' : World} {c c' : Ck} {P : Program} {K : Value → World → Prop} {pan : List PanicEntry → World → Prop} {t sz el by' : Nat} {z : Value}
/-! ### one part, changed -/
theorem local1 {c' : Ck} (os : w'.os = w.os) (tape : w'.tape = w.tape) (out : w'.output = w.output) (size : w.heap.size ≤ w'.heap.size) (block : ∀ k, k < w.heap.size → ¬ c.foot k → w'.heap[k]? = w.heap[k]?)
    (h : c'.holds w') (own : ∀ k, c'.foot k → k < w'.heap.size ∧ (k < w.heap.size → c.foot k)) : Sat ⟨w, c.foot⟩ [c'] w' :=
  ⟨⟨os, tape, out, size, block⟩, fun d hd => by simp at hd; subst hd; exact h, fun d hd k hk => by simp at hd; subst hd; exact own k hk, by simp⟩
theorem local0 {c' : Ck} (os : w'.os = w.os) (tape : w'.tape = w.tape) (out : w'.output = w.output) (size : w.heap.size ≤ w'.heap.size) (block : ∀ k, k < w.heap.size → w'.heap[k]? = w.heap[k]?)
    (h : c'.holds w') (own : ∀ k, c'.foot k → k < w'.heap.size ∧ w.heap.size ≤ k) : Sat (.at w) [c'] w' :=
  ⟨⟨os, tape, out, size, fun k hk _ => block k hk⟩, fun d hd => by simp at hd; subst hd; exact h, fun d hd k hk => by simp at hd; subst hd; exact ⟨(own k hk).1, fun hb => absurd (own k hk).2 (Nat.not_le.2 hb)⟩, by simp⟩
/-- a new block -/
theorem Sat.newB (hs : Sat S H w) (cs : List Value) (t : Nat) : Sat S (H ++ [.bk w.heap.size cs t]) (w.alloc (.cells cs.toArray t)) :=
  hs.add (local0 rfl rfl rfl (by simp) (fun k hk => Below.heap_alloc w _ k hk) ⟨(0, 0), heap_alloc_new w _, .inl rfl⟩ (fun k hk => by have : k = w.heap.size := hk; subst this; simp))
theorem Sat.newSl (hs : Sat S H w) (cs : List Value) (el sz n : Nat) (xs : List Value) (hn : n ≤ maxLen) (hc : cs.length = n * sz) (hx : xs.length ≤ n * sz) (ht : cs.take xs.length = xs) : Sat S (H ++ [.sl (some ⟨w.heap.size, 0, none⟩) n xs el sz]) (w.alloc (.cells cs.toArray el)) :=
  hs.add (local0 rfl rfl rfl (by simp) (fun k hk => Below.heap_alloc w _ k hk) (.inr ⟨w.heap.size, cs.toArray, rfl, heap_alloc_new w _, hn, by simpa using hc, hx, by simpa using ht⟩) (fun k ⟨ad, he, hk⟩ => by injection he with he; subst he; subst hk; simp))
theorem cells_block {H' : Array Value} {p : Nat} {fr : Nat × Nat} (w : World) (k : Nat) (v : Value) (h : w.heap[p]? = some (.cells H' t fr)) : (w.setCell ⟨p, k, none⟩ v).heap[p]? = some (.cells (H'.setIfInBounds k v) t fr) := by
  unfold World.setCell
  simp [Array.getElem?_modify, h]
theorem place_foot {ad : Addr} {k : Nat} (hp : c.place (some ad) k) : c.foot ad.block := by
  cases c with
  | bk b cs t => injection hp with hp; subst hp; rfl
  | sl a n xs el sz =>
    cases a with
    | none => cases hp
    | some a0 =>
      have : some ad = some (a0.add k) := hp
      injection this with this
      subst this
      exact ⟨a0, rfl, (block_add a0 k).symm⟩
  | pr F C => exact hp.elim
theorem Ck.put_holds {ad : Addr} {k : Nat} (h : c.holds w) (hp : c.place (some ad) k) (hk : k < c.cells.length) (v : Value) : (c.put k v).holds (w.setCell ad v) ∧ w.frozen? ad = false ∧ ad.spot = none := by
  cases c with
  | bk b cs t =>
    injection hp with hp
    subst hp
    obtain ⟨fr, h1, h2⟩ := h
    refine ⟨⟨fr, ?_, by simpa using h2⟩, ?_, rfl⟩
    · rw [cells_block w k v h1]; simp
    · have hk : k < cs.length := hk
      unfold World.frozen?
      simp only [h1]
      rcases h2 with rfl | h2
      · simp
      · simp; omega
  | sl a n xs el sz =>
    have hk : k < xs.length := hk
    rcases h with ⟨_, _, rfl⟩ | ⟨b, cs, rfl, hb, hn, hs, hl, ht⟩
    · simp at hk
    · have : some ad = some (Addr.add _ k) := hp
      injection this with this
      rw [add_lit0] at this
      subst this
      refine ⟨.inr ⟨b, cs.setIfInBounds k v, rfl, cells_block w k v hb, hn, by simpa using hs, by simpa using hl, ?_⟩, ?_, rfl⟩
      · rw [List.length_set, Array.toList_setIfInBounds, List.take_set, ht]
      · unfold World.frozen?
        simp [hb]
  | pr F C => exact hp.elim
theorem put_foot (c : Ck) (k : Nat) (v : Value) : (c.put k v).foot = c.foot := by cases c <;> rfl
theorem Sat.put (hs : Sat S H w) {i k : Nat} {ad : Addr} (hi : H[i]? = some c) (hp : c.place (some ad) k) (hk : k < c.cells.length) (v : Value) : Sat S (H.set i (c.put k v)) (w.setCell ad v) := by
  have hm := List.mem_of_getElem? hi
  have hh := Ck.put_holds (hs.holds c hm) hp hk v
  have hf := place_foot hp
  refine hs.upd1 i hi (local1 rfl rfl rfl (by simp [World.setCell]) (fun k' hk' hn => Below.heap_setCell w ad v k' (fun e => hn (e ▸ hf))) hh.1 (fun k' hk' => ?_))
  rw [put_foot] at hk'
  exact ⟨by simpa [World.setCell] using (hs.own c hm k' hk').1, fun _ => hk'⟩
theorem st_ok (hs : Sat S H w) {p : Option Addr} {v : Value} {i k : Nat} [h : TSc P t] [ho : OneC v] [ha : At H p c i k] (hk : k < c.cells.length) (hK : ∀ w', Sat S (H.set i (c.put k v)) w' → K undef w') :
    runT .ord P (Instr.storeAt t (.pointer p) v) K pan w := by
  have hh := hs.holds c (List.mem_of_getElem? ha.get)
  have hc := Ck.cell hh ha.place (List.getElem?_eq_getElem hk)
  cases p with
  | none => cases hc
  | some ad =>
    have hp := Ck.put_holds hh ha.place hk v
    rw [m_store t (some ad) v (by rw [hc]; rfl) hp.2.1]
    exact hK _ (hs.put ha.get ha.place hk v)
/-! several cells -/
theorem put_len (c : Ck) (k : Nat) (v : Value) : (c.put k v).cells.length = c.cells.length := by cases c <;> simp [Ck.put, Ck.cells]
theorem place_put {p : Option Addr} {k j : Nat} {v : Value} (hp : c.place p k) : (c.put j v).place p k := by cases c <;> exact hp
theorem puts_nil (c : Ck) (k : Nat) (h : k ≤ c.cells.length) : c.puts k [] = c := by
  cases c <;> simp [Ck.puts]
theorem puts_cons (c : Ck) (k : Nat) (v : Value) (vs : List Value) (h : k + (v :: vs).length ≤ c.cells.length) : (c.put k v).puts (k + 1) vs = c.puts k (v :: vs) := by
  have key : ∀ l : List Value, k + (v :: vs).length ≤ l.length → (l.set k v).take (k + 1) ++ vs ++ (l.set k v).drop (k + 1 + vs.length) = l.take k ++ v :: vs ++ l.drop (k + (v :: vs).length) := by
    intro l hl
    simp only [List.length_cons] at hl ⊢
    rw [List.take_set, List.drop_set_of_lt (by omega), List.take_add_one, List.getElem?_eq_getElem (by omega : k < l.length)]
    simp only [Option.toList_some]
    rw [List.set_append_right _ _ (by simp; omega), show k + 1 + vs.length = k + (vs.length + 1) by omega]
    simp [List.length_take, Nat.min_eq_left (show k ≤ l.length by omega)]
  cases c with
  | bk b cs t => simp only [Ck.put, Ck.puts]; rw [key cs h]
  | sl a n xs el sz => simp only [Ck.put, Ck.puts]; rw [key xs h]
  | pr F C => rfl
theorem run_storeCells_at (P : Program) (ad : Addr) : ∀ (vs : List Value) (j k : Nat) (c : Ck) (w : World) (S : Cx) (H : List Ck) (i : Nat), Sat S H w → H[i]? = some c → c.place (some ad) k → k + j + vs.length ≤ c.cells.length → vs.all (·.oneCell') = true →
    ∃ w', (storeCells ad vs j).run P w = .ok () w' ∧ Sat S (H.set i (c.puts (k + j) vs)) w'
  | [], j, k, c, w, S, H, i, hs, hi, hp, hl, _ => by
    refine ⟨w, by simp [storeCells], ?_⟩
    rw [puts_nil _ _ (by simp at hl; omega)]
    obtain ⟨hlt, rfl⟩ := List.getElem?_eq_some_iff.1 hi
    rwa [List.set_getElem_self]
  | v :: vs, j, k, c, w, S, H, i, hs, hi, hp, hl, h1 => by
    simp only [List.all_cons, Bool.and_eq_true] at h1
    have hlt : k + j < c.cells.length := by simp at hl; omega
    have hpj : c.place (some (ad.add j)) (k + j) := place_add hp j
    have hh := hs.holds c (List.mem_of_getElem? hi)
    have hc : w.cell? (ad.add j) = some c.cells[k + j] := Ck.cell (p := some (ad.add j)) hh hpj (List.getElem?_eq_getElem hlt)
    have hst := run_store P w (ad.add j) v .plain h1.1
    have hput := Ck.put_holds hh hpj hlt v
    rw [hc] at hst
    simp only [hput.2.1, Bool.false_eq_true, if_false] at hst
    have hs1 := hs.put hi hpj hlt v
    have hilt := (List.getElem?_eq_some_iff.1 hi).1
    obtain ⟨w', hr, hs2⟩ := run_storeCells_at P ad vs (j + 1) k (c.put (k + j) v) _ S _ i hs1 (by rw [List.getElem?_set_self hilt]) (place_put hp) (by rw [put_len]; simp at hl; omega) h1.2
    refine ⟨w', by simp only [storeCells, Sem.run_bind, hst, Result.andThen_ok, hr], ?_⟩
    rw [List.set_set, ← Nat.add_assoc, puts_cons _ _ _ _ (by simpa using hl)] at hs2
    exact hs2
theorem stA_ok (hs : Sat S H w) {p : Option Addr} {vs : List Value} {i k : Nat} [h : TAg P t sz] [ha : At H p c i k] (hl : vs.length = sz) (hk : k + sz ≤ c.cells.length) (h0 : 0 < sz) (h1 : vs.all (·.oneCell') = true)
    (hK : ∀ w', Sat S (H.set i (c.puts k vs)) w' → K undef w') : runT .ord P (Instr.storeAt t (.pointer p) (.agg vs.toArray)) K pan w := by
  have hh := hs.holds c (List.mem_of_getElem? ha.get)
  have hc := Ck.cell hh ha.place (List.getElem?_eq_getElem (show k < c.cells.length by omega))
  cases p with
  | none => cases hc
  | some ad =>
    obtain ⟨w', hr, hs'⟩ := run_storeCells_at P ad vs 0 k c w S H i hs ha.get ha.place (by omega) h1
    have hsz : ∀ w, (sizeOf t).run P w = .ok sz w := run_sizeOf h.s
    rw [runT_ok (w' := w')]
    · exact hK _ (by simpa using hs')
    · simp only [Instr.storeAt, Instr.sureAddr, Sem.run_bind, Sem.run_pure, Result.andThen_ok, storeVar, hsz, Value.cells, List.size_toArray, hl]
      simp [hr]
/-- all cells of a part -/
def Ck.full : Ck → List Value → Ck
  | .bk b _ t, vs => .bk b vs t
  | .sl a n _ el sz, vs => .sl a n vs el sz
  | .pr F C, _ => .pr F C
theorem full_bk (b t : Nat) (cs vs : List Value) : (Ck.bk b cs t).full vs = .bk b vs t := (fun h => h) rfl
theorem full_sl (a : Option Addr) (n el sz : Nat) (xs vs : List Value) : (Ck.sl a n xs el sz).full vs = .sl a n vs el sz := (fun h => h) rfl
theorem puts_full (c : Ck) (vs : List Value) (h : vs.length = c.cells.length) : c.puts 0 vs = c.full vs := by
  cases c <;> simp [Ck.puts, Ck.full, h, Ck.cells] <;> simp [Ck.cells] at h <;> omega
theorem stF_ok (hs : Sat S H w) {p : Option Addr} {vs : List Value} {i : Nat} [h : TAg P t sz] [ha : At H p c i 0] (hl : vs.length = sz) (hk : vs.length = c.cells.length) (h0 : 0 < sz) (h1 : vs.all (·.oneCell') = true)
    (hK : ∀ w', Sat S (H.set i (c.full vs)) w' → K undef w') : runT .ord P (Instr.storeAt t (.pointer p) (.agg vs.toArray)) K pan w :=
  stA_ok hs hl (by omega) h0 h1 fun w' hs' => hK w' (by rw [puts_full c vs hk] at hs'; exact hs')
/-! ### new blocks -/
theorem al_ok (hs : Sat S H w) [h : TZero P t z] (hK : ∀ b w', Sat S (H ++ [.bk b z.cells.toList t]) w' → K (.pointer (some ⟨b, 0, none⟩)) w') : runS .ord P (Instr.alloc t true (.tuple #[])) K pan w := by
  rw [m_alloc t]
  exact hK _ _ (by simpa using hs.newB z.cells.toList t)
theorem bx_ok (hs : Sat S H w) {v : Value} (hK : ∀ b w', Sat S (H ++ [.bk b v.cells.toList t]) w' → K (.pointer (some ⟨b, 0, none⟩)) w') : runS .ord P (Instr.box t v) K pan w := by
  rw [m_box t]
  exact hK _ _ (by simpa using hs.newB v.cells.toList t)
theorem mk_ok (hs : Sat S H w) [h : TSl P t el sz by'] [hz : TZero P el z] {kl kc : IntKind} {li ci : Int} (n c : Nat) (hn : li = n) (hc : ci = c) (hnc : n ≤ c) (hb : by' * c ≤ 281474976710656) (h63 : c ≤ maxLen)
    (hK : ∀ b w', Sat S (H ++ [.sl (some ⟨b, 0, none⟩) c (madeCells z.cells (n * sz)).toList el sz]) w' → K (.slice (some ⟨b, 0, none⟩) n c) w') : runS .ord P (Instr.makeSlice t (.int kl li) (.int kc ci)) K pan w := by
  subst hn; subst hc
  obtain ⟨i, hi, hiz, his, hib⟩ := TSl.info h hz
  have h63' : (c : Int) ≤ 9223372036854775807 := by
    have h := h63
    simp [maxLen] at h
    omega
  have hb' : (i.bytes : Int) * (c : Int) ≤ 281474976710656 := by
    rw [hib]
    have h : ((by' * c : Nat) : Int) ≤ 281474976710656 := by omega
    rwa [Int.natCast_mul] at h
  have hr := run_make (P := P) w t el i z h.u hi hiz kl kc n c (by omega) (by omega) hb' h63'
  simp only [Int.toNat_natCast] at hr
  rw [runS_ok hr]
  refine hK _ _ ?_
  have hns : n * sz ≤ c * sz := Nat.mul_le_mul_right _ hnc
  have := hs.newSl (madeCells z.cells (c * i.size)).toList el sz c (madeCells z.cells (n * sz)).toList h63 (by simp [size_madeCells, his]) (by simpa [size_madeCells] using hns) (by
    rw [Array.length_toList, size_madeCells, his]
    unfold madeCells
    rw [Array.toList_map, Array.toList_map, Array.toList_range, Array.toList_range, ← List.map_take, List.take_range, Nat.min_eq_left hns])
  simpa using this
theorem bs_ok (hs : Sat S H w) [h : TSl P t el sz by'] [hz : TZero P el z] {n : Nat} {parts : List (Nat × Value)} {cells : List Value} (hsmall : n * sz ≤ 16777216) (hpos : 0 < n * sz)
    (hf : Instr.fill (fun i => some (i * sz, sz)) ((Array.range (n * sz)).map (z.cells[· % z.cells.size]!)) parts = some cells.toArray) (hl : cells.length = n * sz)
    (hK : ∀ b w', Sat S (H ++ [.sl (some ⟨b, 0, none⟩) n cells el sz]) w' → K (.slice (some ⟨b, 0, none⟩) n n) w') : runS .ord P (Instr.buildSlice t n parts.toArray) K pan w := by
  rw [m_bs t n parts cells.toArray hsmall hpos hf]
  refine hK _ _ (hs.newSl cells el sz n cells ?_ hl (by omega) (by simp))
  have : n ≤ n * sz := Nat.le_mul_of_pos_right _ (Nat.pos_of_mul_pos_left hpos)
  unfold maxLen; omega
theorem toL (l : List Value) : l.toArray.toList = l := (fun h => h) rfl
theorem bs1_ok (hs : Sat S H w) [h : TSl P t el 1 by'] [hz : TZero P el z] {v : Value} [ho : OneC v]
    (hK : ∀ b w', Sat S (H ++ [.sl (some ⟨b, 0, none⟩) 1 [v] el 1]) w' → K (.slice (some ⟨b, 0, none⟩) 1 1) w') : runS .ord P (Instr.buildSlice t 1 [(0, v)].toArray) K pan w := by
  rw [m_bs1 t v]
  exact hK _ _ (hs.newSl [v] el 1 1 [v] (by unfold maxLen; omega) (by simp) (by simp) (by simp))
/-- a literal's parts, one behind the other -/
class PartsV (i : Nat) (l : List (Nat × Value)) (vs : outParam (List Value)) : Prop where
  h : ∀ pre suf : List Value, pre.length = i → suf.length = l.length → fillA (pre ++ suf) l = some (pre ++ vs).toArray
  n : vs.length = l.length
instance PartsV.nil (i : Nat) : PartsV i [] [] := ⟨fun pre suf _ h => by
  have : suf = [] := List.eq_nil_of_length_eq_zero (by simpa using h)
  subst this
  simp [fillA], rfl⟩
instance PartsV.cons (i : Nat) (v : Value) (l : List (Nat × Value)) (vs : List Value) [ho : OneC v] [hr : PartsV (i + 1) l vs] : PartsV i ((i, v) :: l) (v :: vs) := ⟨fun pre suf hp hl => by
  cases suf with
  | nil => simp at hl
  | cons x suf =>
    rw [fillA_cons, if_pos ⟨ho.h, by simp; omega⟩, List.set_append_right _ _ (by omega), hp, Nat.sub_self, List.set_cons_zero]
    have := hr.h (pre ++ [v]) suf (by simp [hp]) (by simpa using hl)
    simpa using this, by simp [hr.n]⟩
theorem bsv_ok (hs : Sat S H w) [h : TSl P t el 1 by'] [hz : TZero P el z] {n : Nat} {parts : List (Nat × Value)} {vs : List Value} [hp : PartsV 0 parts vs] (hn : parts.length = n) (h0 : 0 < n) (hsmall : n ≤ 16777216)
    (hK : ∀ b w', Sat S (H ++ [.sl (some ⟨b, 0, none⟩) n vs el 1]) w' → K (.slice (some ⟨b, 0, none⟩) n n) w') : runS .ord P (Instr.buildSlice t n parts.toArray) K pan w := by
  refine bs_ok hs (by omega) (by omega) ?_ (by rw [hp.n]; omega) hK
  have := hp.h [] ((Array.range (n * 1)).map (z.cells[· % z.cells.size]!)).toList rfl (by simp [hn])
  have := fillA_sound parts _ _ this
  rwa [List.nil_append, Array.toArray_toList] at this
theorem bs0_ok (hs : Sat S H w) [h : TSl P t el sz by'] (hK : ∀ b w', Sat S (H ++ [.sl (some ⟨b, 0, none⟩) 0 [] el sz]) w' → K (.slice (some ⟨b, 0, none⟩) 0 0) w') : runS .ord P (Instr.buildSlice t 0 ([] : List (Nat × Value)).toArray) K pan w := by
  rw [m_bs0 t]
  exact hK _ _ (hs.newSl [] el sz 0 [] (by unfold maxLen; omega) (by simp) (by simp) rfl)
def ixZ (q : Md) (P : Program) (t : Nat) (cs : Array Value) (j : Value) (K : Value → World → Prop) (pan : List PanicEntry → World → Prop) (w : World) : Prop := runS q P (Instr.index t (.agg cs) j) K pan w
/-- an element of an array that is a value -/
theorem m_indexAg {n : Nat} {q : Md} [h : TArr P t n el 1] [hs : TSc P el] (cs : Array Value) (k : IntKind) (j : Int) (h0 : 0 ≤ j) (h1 : j < n) :
    runS q P (Instr.index t (.agg cs) (.int k j)) K pan w = ldM (cs[j.toNat]?) K w (ixZ q P t cs (.int k j) K pan w) := by
  cases hc : cs[j.toNat]? with
  | none => rfl
  | some v =>
    have hsz : ∀ w, (sizeOf el).run P w = .ok 1 w := run_sizeOf h.s
    refine runS_pure fun w => ?_
    simp [Instr.index, asIntOf, run_underlying h.u, h0, h1, hsz, run_partSc cs j.toNat v hc]
/-! ### rows that are appended to -/
theorem SlH.own {a : Option Addr} {n cp : Nat} {xs : List Value} (h : SlH w a cp xs el sz) (hsz : 0 < sz) (hn : xs.length = n * sz) : Own w 0 el sz a n cp xs := by
  rcases h with ⟨rfl, rfl, rfl⟩ | ⟨b, cs, rfl, hb, hc, hs, hl, ht⟩
  · have : n = 0 := by
      rcases Nat.eq_zero_or_pos n with h0 | h0
      · exact h0
      · have := Nat.mul_pos h0 hsz
        simp at hn; omega
    subst this
    exact Own.nil w 0 el sz
  · refine ⟨hn, .inr ⟨b, cp, cs, rfl, Nat.zero_le _, hb, ?_, hc, hs, by rw [← hn]; exact ht⟩⟩
    rw [hn] at hl
    exact Nat.le_of_mul_le_mul_right hl hsz
theorem Own.slH {base n cp : Nat} {a : Option Addr} {xs : List Value} (h : Own w base el sz a n cp xs) : SlH w a cp xs el sz := by
  have hl := h.len
  rcases h.form with ⟨h1, _, h3, h4⟩ | ⟨g, cur, h1, _, h3, h4, h5, h6, h7⟩
  · exact .inl ⟨h1, h3, h4⟩
  · exact .inr ⟨g, cur, h1, h3, h5, h6, by rw [hl]; exact Nat.mul_le_mul_right _ h4, by rw [hl]; exact h7⟩
theorem SlH.lt {a : Option Addr} {cp k : Nat} {xs : List Value} (h : SlH w a cp xs el sz) (hk : (Ck.sl a cp xs el sz).foot k) : k < w.heap.size := by
  obtain ⟨ad, rfl, rfl⟩ := hk
  rcases h with ⟨h, _⟩ | ⟨b, cs, h, hb, _⟩
  · cases h
  · injection h with h
    subst h
    exact (Array.getElem?_eq_some_iff.1 hb).1
theorem Own.sat {w0 : World} {n cp : Nat} {a : Option Addr} {xs : List Value} (h : Own w w0.heap.size el sz a n cp xs) (hb : Below w0.heap.size w0 w) : Sat (.at w0) [.sl a cp xs el sz] w :=
  local0 hb.os hb.tape hb.output hb.size hb.block h.slH fun k hk => ⟨SlH.lt h.slH hk, by
    obtain ⟨ad, rfl, rfl⟩ := hk
    exact (h.block ad.block rfl).1⟩
theorem ap_ok (hs : Sat S H w) {ty : Nat} [h : TSl P t el sz by'] [hz : TZero P el z] {a A : Option Addr} {n cp m d B i : Nat} {xs news : List Value} [ha : AtR H a cp xs el sz i] (hzs : z.cells.size = sz) (hsz : 0 < sz)
    (hn : xs.length = n * sz) (hr : Rd w B A news) (hl : news.length = m * sz) (h1 : news.all (·.oneCell') = true) (hb : (n + m) * by' ≤ 140737488355328) (h63 : n + m ≤ maxLen)
    (hK : ∀ a' c' w', n + m ≤ c' → Sat S (H.set i (.sl a' c' (xs ++ news) el sz)) w' → K (.slice a' (n + m) c') w') : runS .ord P (Builtin.append_ #[t, t] ty #[.slice a n cp, .slice A m d]) K pan w := by
  have hh : SlH w a cp xs el sz := hs.holds _ (List.mem_of_getElem? ha.get)
  have hown := hh.own hsz hn
  refine m_append t ty 0 hzs hsz hown hr hl (fun u hu => List.all_eq_true.1 h1 u hu) h63 hb (Nat.zero_le _) fun a' c' w' hown' hg hblk => ?_
  have hnc : n + m ≤ c' := by rcases hown'.form with ⟨_, h, _⟩ | ⟨_, _, _, _, _, h, _⟩ <;> omega
  refine hK a' c' w' hnc (hs.upd1 i ha.get (local1 hg.os hg.tape hg.output hg.size (fun k hk hnf => hg.block k hk fun e => hnf ?_) hown'.slH fun k hk => ⟨SlH.lt hown'.slH hk, fun hlt => ?_⟩))
  · cases a with
    | none => cases e
    | some a0 => injection e with e; exact ⟨a0, rfl, e.symm⟩
  · obtain ⟨ad, rfl, rfl⟩ := hk
    rcases hblk with e | e
    · cases a with
      | none => cases e
      | some a0 => injection e with e; exact ⟨a0, rfl, e.symm⟩
    · injection e with e
      omega
theorem Sat.nil (hs : Sat S H w) (el sz : Nat) : Sat S (H ++ [.sl none 0 [] el sz]) w :=
  hs.add (local0 rfl rfl rfl (Nat.le_refl _) (fun _ _ => rfl) (.inl ⟨rfl, rfl, rfl⟩) (fun k ⟨ad, h, _⟩ => by cases h))
theorem Sat.take (n : Nat) (hs : Sat S H w) : Sat S (H.take n) w := hs.sub (List.take_sublist _ _)
theorem oneB (xs : List UInt8) : (xs.map u8v).all (·.oneCell') = true := by simp [u8v, Value.oneCell']
theorem oneR (n : Nat) (v : Value) (h : v.oneCell' = true) : (List.replicate n v).all (·.oneCell') = true := by simp [h]
/-! ### pointers and rows held against nil -/
theorem run_ptrNil [h : TPtr P t el] (p : Option Addr) (w : World) : (Op.equal t (.pointer p) (.pointer none)).run P w = .ok p.isNone w := by
  show (Op.equalIn (9999 + 1) t _ _).run P w = _
  rw [Op.equalIn]
  simp only [Sem.run_bind, run_underlying h.u, Result.andThen_ok]
  cases p <;> simp
theorem p_eqN {q : Md} [h : TPtr P t el] (x y : Operand) (p : Option Addr) : binE q P .eql t x y (.pointer p) (.pointer none) K pan w = K (.bool p.isNone) w := runS_pure fun w => by
  simp [eqGuard, binOp, run_ptrNil (t := t) p w]
theorem p_neN {q : Md} [h : TPtr P t el] (x y : Operand) (p : Option Addr) : binE q P .neq t x y (.pointer p) (.pointer none) K pan w = K (.bool (!p.isNone)) w := runS_pure fun w => by
  simp [eqGuard, binOp, run_ptrNil (t := t) p w]
theorem run_slNil [h : TSl P t el sz by'] (a : Option Addr) (n c : Nat) (w : World) : (Op.equal t (.slice a n c) (.slice none 0 0)).run P w = .ok a.isNone w := by
  show (Op.equalIn (9999 + 1) t _ _).run P w = _
  rw [Op.equalIn]
  simp only [Sem.run_bind, run_underlying h.u, Result.andThen_ok]
  cases a <;> simp
theorem sl_eqN {q : Md} [h : TSl P t el sz by'] (x y : Operand) (a : Option Addr) (n c : Nat) : binE q P .eql t x y (.slice a n c) (.slice none 0 0) K pan w = K (.bool a.isNone) w := runS_pure fun w => by
  simp [eqGuard, binOp, run_slNil (t := t) a n c w]
theorem sl_neN {q : Md} [h : TSl P t el sz by'] (x y : Operand) (a : Option Addr) (n c : Nat) : binE q P .neq t x y (.slice a n c) (.slice none 0 0) K pan w = K (.bool (!a.isNone)) w := runS_pure fun w => by
  simp [eqGuard, binOp, run_slNil (t := t) a n c w]
theorem isNone_some (a : Addr) : (some a : Option Addr).isNone = false := rfl
theorem isNone_none : (none : Option Addr).isNone = true := rfl
/-! ### copy; an array cut -/
theorem run_firstCells {A : Option Addr} {B m d n : Nat} {news : List Value} (hr : Rd w B A news) (hl : news.length = m * sz) (hn : n ≤ m) (hsz : 0 < sz) : (Builtin.firstCells sz n (.slice A m d)).run P w = .ok (news.take (n * sz)).toArray w := by
  have hle : n * sz ≤ news.length := by rw [hl]; exact Nat.mul_le_mul_right _ hn
  cases A with
  | none =>
    have : news = [] := by
      rcases news with _ | ⟨u, l⟩
      · rfl
      · obtain ⟨ad, h, _⟩ := hr (by simp)
        cases h
    subst this
    simp [Builtin.firstCells]
  | some ad =>
    have key : ∀ k j, j + k ≤ news.length → cellsFrom w ad j k = some ((news.drop j).take k) := by
      intro k
      induction k with
      | zero => intro j _; simp [cellsFrom]
      | succ k ih =>
        intro j hj
        have hlt : j < news.length := by omega
        obtain ⟨ad', h, _, hc⟩ := hr (fun e => by subst e; simp at hlt)
        injection h with h
        subst h
        simp only [cellsFrom, hc j hlt, ih (j + 1) (by omega)]
        rw [List.drop_eq_getElem_cons hlt, List.take_succ_cons]
    have := run_loadCellsFrom (P := P) w ad (n * sz) 0 #[] _ (key (n * sz) 0 (by omega))
    simp only [Builtin.firstCells, loadCells, this]
    simp
theorem cp_ok (hs : Sat S H w) {dt st ty : Nat} [h : TSl P dt el sz by'] {base A : Option Addr} {dl dc m d B i k : Nat} {news : List Value} [ha : At H base c i k] (n : Nat) (hsz : 0 < sz) (hn' : min m dl = n)
    (hr : Rd w B A news) (hl : news.length = m * sz) (h1 : news.all (·.oneCell') = true) (hk : k + n * sz ≤ c.cells.length)
    (hK : ∀ w', Sat S (H.set i (c.puts k (news.take (n * sz)))) w' → K (.int .i64 n) w') : runS .ord P (Builtin.copy_ #[dt, st] ty #[.slice base dl dc, .slice A m d]) K pan w := by
  have hn : Nat.min m dl = n := hn'
  have hnm : n ≤ m := by rw [← hn]; exact Nat.min_le_left _ _
  have hf := run_firstCells (P := P) (sz := sz) (n := n) (d := d) hr hl hnm hsz
  have hlen : (news.take (n * sz)).length = n * sz := by
    rw [List.length_take, Nat.min_eq_left]
    rw [hl]; exact Nat.mul_le_mul_right _ hnm
  cases base with
  | none =>
    have hw : c.puts k (news.take (n * sz)) = c ∧ True := by
      refine ⟨?_, trivial⟩
      have hn0 : n * sz = 0 := by
        rcases Nat.eq_zero_or_pos (n * sz) with h0 | h0
        · exact h0
        · exfalso
          have hc := Ck.cell (hs.holds c (List.mem_of_getElem? ha.get)) ha.place (List.getElem?_eq_getElem (show k < c.cells.length by omega))
          cases hc
      rw [hn0, List.take_zero, puts_nil _ _ (by omega)]
    rw [runS_ok (v := .int .i64 n) (w' := w)]
    · refine hK w ?_
      obtain ⟨hlt, he⟩ := List.getElem?_eq_some_iff.1 ha.get
      rw [hw.1, ← he, List.set_getElem_self]
      exact hs
    · simp [Builtin.copy_, run_underlying h.u, Builtin.lenOf, hn, TSl.run_size h, hf, goInt]
  | some ad =>
    obtain ⟨w', hr', hs'⟩ := run_storeCells_at P ad (news.take (n * sz)) 0 k c w S H i hs ha.get ha.place (by rw [hlen]; omega) (List.all_eq_true.2 fun u hu => List.all_eq_true.1 h1 u (List.take_subset _ _ hu))
    rw [runS_ok (v := .int .i64 n) (w' := w')]
    · exact hK w' (by simpa using hs')
    · simp [Builtin.copy_, run_underlying h.u, Builtin.lenOf, hn, TSl.run_size h, hf, goInt, hr']
def cutP (p : Option Addr) (l n sz : Nat) : Option Addr := if n = l then p else adO p (l * sz)
theorem cutP_0 (p : Option Addr) (n sz : Nat) (h : n ≠ 0) : cutP p 0 n sz = p := by unfold cutP; rw [if_neg h, Nat.zero_mul, adO_0]
theorem cutP_lt (p : Option Addr) (l n sz : Nat) (h : l < n) : cutP p l n sz = adO p (l * sz) := by unfold cutP; rw [if_neg (by omega)]
theorem m_cutArr {n : Nat} {q : Md} [h : TArr P t n el sz] (p : Option Addr) (hp : p.isSome = true) : runS q P (Instr.sliceAt t (.pointer p) none none none) K pan w = K (.slice (cutP p 0 n sz) n n) w := by
  have hsz : ∀ w, (sizeOf el).run P w = .ok sz w := run_sizeOf h.s
  cases p with
  | none => cases hp
  | some a => exact runS_pure fun w => by simp [Instr.sliceAt, run_underlying h.u, Instr.sureAddr, Instr.sliceBounds, hsz, cutP, adO]; split <;> rfl
theorem m_cutArr_l {n : Nat} {q : Md} [h : TArr P t n el sz] (p : Option Addr) (hp : p.isSome = true) (k : IntKind) (l : Int) (h0 : 0 ≤ l) (h1 : l ≤ n) : runS q P (Instr.sliceAt t (.pointer p) (some (.int k l)) none none) K pan w = K (.slice (cutP p l.toNat n sz) (n - l.toNat) (n - l.toNat)) w := by
  have hsz : ∀ w, (sizeOf el).run P w = .ok sz w := run_sizeOf h.s
  cases p with
  | none => cases hp
  | some a => exact runS_pure fun w => by simp [Instr.sliceAt, run_underlying h.u, Instr.sureAddr, Instr.sliceBounds, run_sliceBound, hsz, cutP, adO, h0, h1]; split <;> rfl
theorem m_cutArr_h {n : Nat} {q : Md} [h : TArr P t n el sz] (p : Option Addr) (hp : p.isSome = true) (k : IntKind) (l : Int) (h0 : 0 ≤ l) (h1 : l ≤ n) : runS q P (Instr.sliceAt t (.pointer p) none (some (.int k l)) none) K pan w = K (.slice (cutP p 0 n sz) l.toNat n) w := by
  have hsz : ∀ w, (sizeOf el).run P w = .ok sz w := run_sizeOf h.s
  cases p with
  | none => cases hp
  | some a => exact runS_pure fun w => by simp [Instr.sliceAt, run_underlying h.u, Instr.sureAddr, Instr.sliceBounds, run_sliceBound, hsz, cutP, adO, h0, h1]; split <;> rfl
/-! ### what stood there before -/
/-- the cell of an address that stood there before and is not written -/
noncomputable def oldO (S : Cx) (p : Option Addr) : Option Value := open Classical in match p with | some a => if a.block < S.base.heap.size ∧ ¬ S.mod a.block then S.base.cell? a else none | none => none
theorem Sat.old (hs : Sat S H w) {p : Option Addr} {v : Value} (h : oldO S p = some v) : cellO w p = some v := by
  cases p with
  | none => cases h
  | some a =>
    unfold oldO at h
    simp only at h
    split at h
    · rename_i hc
      show w.cell? a = some v
      rw [← h]
      exact World.cell?_of_block (hs.kept.block _ hc.1 hc.2)
    · cases h
/-- a row that stood there before reads so -/
def Ro (S : Cx) (a : Option Addr) (xs : List Value) : Prop := ∀ (i : Nat) (v : Value), xs[i]? = some v → oldO S (adO a i) = some v
theorem Ro.cell {a : Option Addr} {xs : List Value} (h : Ro S a xs) (hs : Sat S H w) {i : Nat} {v : Value} (hi : xs[i]? = some v) : cellO w (adO a i) = some v := hs.old (h i v hi)
theorem Ro.isSome {a : Option Addr} {xs : List Value} (h : Ro S a xs) (hn : 0 < xs.length) : a.isSome = true := by
  have := h 0 xs[0] (List.getElem?_eq_getElem hn)
  cases a with
  | none => cases this
  | some a => rfl
theorem oldO_some {p : Option Addr} {v : Value} (h : oldO S p = some v) : ∃ a, p = some a ∧ a.block < S.base.heap.size ∧ ¬ S.mod a.block ∧ S.base.cell? a = some v := by
  cases p with
  | none => cases h
  | some a =>
    unfold oldO at h
    simp only at h
    split at h
    · rename_i hc; exact ⟨a, rfl, hc.1, hc.2, h⟩
    · cases h
theorem oldO_mk {a : Addr} {v : Value} (h1 : a.block < S.base.heap.size) (h2 : ¬ S.mod a.block) (h3 : S.base.cell? a = some v) : oldO S (some a) = some v := by
  unfold oldO
  simp only [if_pos (And.intro h1 h2), h3]
theorem Ro.rd {a : Option Addr} {xs : List Value} (h : Ro S a xs) (hs : Sat S H w) : Rd w w.heap.size a xs := fun hn => by
  have h0 : 0 < xs.length := List.length_pos_iff.2 hn
  have := h 0 xs[0] (List.getElem?_eq_getElem h0)
  rw [adO_0] at this
  obtain ⟨ad, rfl, hb, _, _⟩ := oldO_some this
  exact ⟨ad, rfl, Nat.lt_of_lt_of_le hb hs.kept.size, fun i hi => Ro.cell h hs (List.getElem?_eq_getElem hi)⟩
theorem Ro.cells {a : Option Addr} {xs : List Value} (h : Ro S a xs) (hs : Sat S H w) (hn : 0 < xs.length) : cellsO w a xs.length = some xs := by
  obtain ⟨ad, rfl, _, hc⟩ := (h.rd hs) (fun e => by subst e; simp at hn)
  have key : ∀ n j, j + n ≤ xs.length → cellsFrom w ad j n = some ((xs.drop j).take n) := by
    intro n
    induction n with
    | zero => intro j _; simp [cellsFrom]
    | succ n ih =>
      intro j hj
      have hlt : j < xs.length := by omega
      simp only [cellsFrom, hc j hlt, ih (j + 1) (by omega)]
      rw [List.drop_eq_getElem_cons hlt, List.take_succ_cons]
  have := key xs.length 0 (by omega)
  simpa [cellsO] using this
theorem Ro.take {a : Option Addr} {xs : List Value} (h : Ro S a xs) (n : Nat) : Ro S a (xs.take n) := fun i v hi => by
  rw [List.getElem?_take] at hi
  split at hi
  · exact h i v hi
  · cases hi
theorem Ro.drop {a : Option Addr} {xs : List Value} (h : Ro S a xs) (n : Nat) : Ro S (adO a n) (xs.drop n) := fun i v hi => by
  rw [List.getElem?_drop] at hi
  rw [adO_adO]
  exact h _ v hi
theorem Ro.cut1 {a : Option Addr} {xs : List Value} (h : Ro S a xs) (n c : Nat) (hc : xs.length ≤ c) : Ro S (cutA a n c 1) (xs.drop n) := by
  unfold cutA
  split
  · rename_i e
    rw [List.drop_eq_nil_of_le (by omega)]
    exact fun i v hi => by simp at hi
  · rw [Nat.mul_one]; exact h.drop n
theorem Rd.ro {w : World} {a : Option Addr} {xs : List Value} (h : Rd w w.heap.size a xs) : Ro (.at w) a xs := fun i v hi => by
  obtain ⟨hlt, rfl⟩ := List.getElem?_eq_some_iff.1 hi
  obtain ⟨ad, rfl, hb, hc⟩ := h (fun e => by subst e; simp at hlt)
  exact oldO_mk (by rw [block_add]; exact hb) (fun h => h) (hc i hlt)
theorem Sat.rd {a : Option Addr} {cp i : Nat} {xs : List Value} (hs : Sat S H w) [h : AtR H a cp xs el sz i] : Rd w w.heap.size a xs := fun hn => by
  have hh : SlH w a cp xs el sz := hs.holds _ (List.mem_of_getElem? h.get)
  rcases hh with ⟨_, _, h⟩ | ⟨b, cs, rfl, hb, hc⟩
  · exact absurd h hn
  · have hh : SlH w (some ⟨b, 0, none⟩) cp xs el sz := hs.holds _ (List.mem_of_getElem? h.get)
    exact ⟨_, rfl, (Array.getElem?_eq_some_iff.1 hb).1, fun i hi => hh.cell (List.getElem?_eq_getElem hi)⟩
theorem Sat.isSome {a : Option Addr} {cp i : Nat} {xs : List Value} (hs : Sat S H w) [h : AtR H a cp xs el sz i] (hn : 0 < xs.length) : a.isSome = true := Rd.isSome (hs.rd (a := a)) hn
theorem Sat.rdBk {b : Nat} {cs : List Value} (i : Nat) (hs : Sat S H w) (hi : H[i]? = some (.bk b cs t)) : Rd w w.heap.size (some ⟨b, 0, none⟩) cs := fun hn => by
  have hh := hs.holds _ (List.mem_of_getElem? hi)
  refine ⟨_, rfl, (hs.own _ (List.mem_of_getElem? hi) b rfl).1, fun i hi => ?_⟩
  exact Ck.cell (p := some _) hh (show (Ck.bk b cs t).place _ i from by show some _ = _; rw [add_lit0]) (List.getElem?_eq_getElem hi)
theorem Sat.cellsBk {b : Nat} {cs : List Value} (i : Nat) (hs : Sat S H w) (hi : H[i]? = some (.bk b cs t)) (hn : cs.length = sz) (h0 : 0 < sz) : cellsO w (some ⟨b, 0, none⟩) sz = some cs := by
  have hh := hs.holds _ (List.mem_of_getElem? hi)
  have := Ck.cellsFrom (p := ⟨b, 0, none⟩) (k := 0) hh rfl sz 0 (by show 0 + 0 + sz ≤ cs.length; omega)
  simp only [cellsO, Option.bind_some, this, Ck.cells]
  simp [← hn]
theorem Sat.rdAt {b i : Nat} (hs : Sat S H w) [h : At H (some ⟨b, 0, none⟩) c i 0] : Rd w w.heap.size (some ⟨b, 0, none⟩) c.cells := fun hn => by
  have hm := List.mem_of_getElem? h.get
  have hh := hs.holds _ hm
  refine ⟨_, rfl, (hs.own _ hm b (place_foot h.place)).1, fun i hi => ?_⟩
  have hp := place_add h.place i
  rw [Nat.zero_add] at hp
  exact Ck.cell (p := some _) hh hp (List.getElem?_eq_getElem hi)
/-- what stood there before stands there still, seen from a later world in which the blocks of a part may be written -/
theorem Ro.up {a : Option Addr} {xs : List Value} (h : Ro S a xs) (hs : Sat S H w) (i : Nat) (hi : H[i]? = some c) : Ro ⟨w, c.foot⟩ a xs := fun j v hj => by
  obtain ⟨ad, he, h1, h2, h3⟩ := oldO_some (h j v hj)
  have h4 := hs.old (h j v hj)
  rw [he] at h4 ⊢
  exact oldO_mk (Nat.lt_of_lt_of_le h1 hs.kept.size) (fun hf => h2 ((hs.own c (List.mem_of_getElem? hi) _ hf).2 h1)) h4
theorem Rd.roUp {a : Option Addr} {xs : List Value} (h : Rd w w.heap.size a xs) (hd : ∀ ad, a = some ad → ¬ c.foot ad.block) : Ro ⟨w, c.foot⟩ a xs := fun j v hj => by
  obtain ⟨hlt, rfl⟩ := List.getElem?_eq_some_iff.1 hj
  obtain ⟨ad, rfl, hb, hc⟩ := h (fun e => by subst e; simp at hlt)
  exact oldO_mk (by rw [block_add]; exact hb) (by rw [block_add]; exact hd ad rfl) (hc j hlt)
theorem Sat.front (hs : Sat S (pre ++ F) w) : Sat ⟨w, footL pre⟩ pre w :=
  ⟨Kept.refl w _, fun c h => hs.holds c (List.mem_append_left _ h), fun c h k hk => ⟨(hs.own c (List.mem_append_left _ h) k hk).1, fun _ => ⟨c, h, hk⟩⟩, (List.pairwise_append.1 hs.apart).1⟩
theorem Ro.upF {a : Option Addr} {xs : List Value} (h : Ro S a xs) (hs : Sat S (pre ++ F) w) : Ro ⟨w, footL pre⟩ a xs := fun j v hj => by
  obtain ⟨ad, he, h1, h2, h3⟩ := oldO_some (h j v hj)
  have h4 := hs.old (h j v hj)
  rw [he] at h4 ⊢
  exact oldO_mk (Nat.lt_of_lt_of_le h1 hs.kept.size) (fun ⟨c, hc, hf⟩ => h2 ((hs.own c (List.mem_append_left _ hc) _ hf).2 h1)) h4
theorem Sat.roF {a : Option Addr} {cp j : Nat} {xs : List Value} (hs : Sat S (pre ++ F) w) [h : AtR F a cp xs el sz j] : Ro ⟨w, footL pre⟩ a xs := fun i v hi => by
  have hm : Ck.sl a cp xs el sz ∈ F := List.mem_of_getElem? h.get
  have hh : SlH w a cp xs el sz := hs.holds _ (List.mem_append_right _ hm)
  have hc := hh.cell hi
  cases a with
  | none => cases hc
  | some ad =>
    have hf : (Ck.sl (some ad) cp xs el sz).foot ad.block := ⟨ad, rfl, rfl⟩
    exact oldO_mk (by rw [block_add]; exact (hs.own _ (List.mem_append_right _ hm) _ hf).1) (fun ⟨c, hc', hk⟩ => (List.pairwise_append.1 hs.apart).2.2 c hc' _ hm _ hk (by rw [block_add]; exact hf)) hc
/-- less is known of a row -/
theorem Sat.trunc (hs : Sat S H w) {a : Option Addr} {cp : Nat} {xs : List Value} (i n : Nat) (hi : H[i]? = some (.sl a cp xs el sz)) : Sat S (H.set i (.sl a cp (xs.take n) el sz)) w := by
  have hh : SlH w a cp xs el sz := hs.holds _ (List.mem_of_getElem? hi)
  refine hs.upd1 i hi (local1 rfl rfl rfl (Nat.le_refl _) (fun _ _ _ => rfl) ?_ (fun k hk => ⟨SlH.lt hh hk, fun _ => hk⟩))
  rcases hh with ⟨h1, h2, rfl⟩ | ⟨b, cs, h1, h2, h3, h4, h5, h6⟩
  · exact .inl ⟨h1, h2, by simp⟩
  · refine .inr ⟨b, cs, h1, h2, h3, h4, Nat.le_trans (by rw [List.length_take]; omega) h5, ?_⟩
    rw [List.length_take, ← List.take_take, h6]
theorem Ro.up0 {a : Option Addr} {xs : List Value} (h : Ro S a xs) (hs : Sat S H w) : Ro (.at w) a xs := Rd.ro (h.rd hs)
theorem Sat.ro {a : Option Addr} {cp i : Nat} {xs : List Value} (hs : Sat S H w) [h : AtR H a cp xs el sz i] : Ro (.at w) a xs := Rd.ro (hs.rd (a := a))
/-- a row of one part, seen while another part is written -/
theorem Sat.roOther {a : Option Addr} {cp i j : Nat} {xs : List Value} (hs : Sat S H w) [h : AtR H a cp xs el sz j] (hi : H[i]? = some c) (hij : i ≠ j) : Ro ⟨w, c.foot⟩ a xs :=
  Rd.roUp (hs.rd (a := a)) fun ad had hf => by
    subst had
    have key : ∀ (i j : Nat) (c d : Ck), i < j → H[i]? = some c → H[j]? = some d → ∀ k, c.foot k → ¬ d.foot k := by
      intro i j c d hlt h1 h2 k
      obtain ⟨hi', rfl⟩ := List.getElem?_eq_some_iff.1 h1
      obtain ⟨hj', rfl⟩ := List.getElem?_eq_some_iff.1 h2
      exact List.pairwise_iff_getElem.1 hs.apart i j hi' hj' hlt k
    rcases Nat.lt_or_gt_of_ne hij with hlt | hlt
    · exact key i j _ _ hlt hi h.get _ hf ⟨ad, rfl, rfl⟩
    · exact key j i _ _ hlt h.get hi _ ⟨ad, rfl, rfl⟩ hf
theorem apartIJ (hs : Sat S H w) {d : Ck} {i j : Nat} (hi : H[i]? = some c) (hj : H[j]? = some d) (hij : i ≠ j) : ∀ k, c.foot k → ¬ d.foot k := by
  have key : ∀ (i j : Nat) (c d : Ck), i < j → H[i]? = some c → H[j]? = some d → ∀ k, c.foot k → ¬ d.foot k := by
    intro i j c d hlt h1 h2 k
    obtain ⟨hi', rfl⟩ := List.getElem?_eq_some_iff.1 h1
    obtain ⟨hj', rfl⟩ := List.getElem?_eq_some_iff.1 h2
    exact List.pairwise_iff_getElem.1 hs.apart i j hi' hj' hlt k
  rcases Nat.lt_or_gt_of_ne hij with hlt | hlt
  · exact key i j _ _ hlt hi hj
  · exact fun k hc hd => key j i _ _ hlt hj hi k hd hc
/-- a block, seen while another part is written -/
theorem Sat.roOtherBk {b i : Nat} {cs : List Value} (j : Nat) (hs : Sat S H w) (hi : H[i]? = some c) (hj : H[j]? = some (.bk b cs t)) (hij : i ≠ j) : Ro ⟨w, c.foot⟩ (some ⟨b, 0, none⟩) cs :=
  Rd.roUp (hs.rdBk j hj) fun ad had hf => by
    injection had with had
    subst had
    exact apartIJ hs hi hj hij _ hf rfl
/-! ### arrays of bytes held against each other -/
class TNoG (P : Program) (t : Nat) : Prop where u : P.eqGuardType P.depth t = false
theorem run_eqItems_u8 [he : TInt P el .u8] [hse : TSc P el] (d : Nat) (xs ys : List UInt8) (hlen : xs.length = ys.length) (w : World) : ∀ is : List Nat, (∀ j ∈ is, j < xs.length) → (Op.eqItems (d + 1) el 1 (xs.map u8v).toArray (ys.map u8v).toArray is).run P w = .ok (is.all fun j => xs[j]? == ys[j]?) w
  | [], _ => by simp [Op.eqItems]
  | j :: is, h => by
    have hj := h j (by simp)
    have ih := run_eqItems_u8 d xs ys hlen w is fun k hk => h k (by simp [hk])
    have px : (xs.map u8v).toArray[j * 1]? = some (.int .u8 (xs[j].toNat : Int)) := by simp [u8v, hj]
    have py : (ys.map u8v).toArray[j * 1]? = some (.int .u8 ((ys[j]'(by omega)).toNat : Int)) := by simp [u8v, hlen ▸ hj]
    have heq : (Op.equalIn (d + 1) el (.int .u8 (xs[j].toNat : Int)) (.int .u8 ((ys[j]'(by omega)).toNat : Int))).run P w = .ok ((xs[j].toNat : Int) == ((ys[j]'(by omega)).toNat : Int)) w := by
      simp [Op.equalIn, run_underlying he.u]
    have hb : ((xs[j].toNat : Int) == ((ys[j]'(by omega)).toNat : Int)) = (xs[j]? == ys[j]?) := by
      rw [List.getElem?_eq_getElem hj, List.getElem?_eq_getElem (by omega : j < ys.length)]
      rw [Bool.eq_iff_iff]
      simp only [beq_iff_eq, Option.some.injEq]
      exact ⟨fun h => UInt8.toNat_inj.1 (by omega), fun h => by rw [h]⟩
    simp only [Op.eqItems, Sem.run_bind, run_partSc _ _ _ px, run_partSc _ _ _ py, Result.andThen_ok, heq, hb, List.all_cons]
    by_cases hh : (xs[j]? == ys[j]?) = true
    · simp [hh, ih]
    · simp [hh]
theorem all_range_eq {xs ys : List UInt8} (h : xs.length = ys.length) : ((List.range xs.length).all fun j => xs[j]? == ys[j]?) = decide (xs = ys) := by
  rw [Bool.eq_iff_iff, List.all_eq_true, decide_eq_true_iff]
  constructor
  · intro hh
    apply List.ext_getElem?
    intro i
    by_cases hi : i < xs.length
    · simpa using hh i (by simpa using hi)
    · rw [List.getElem?_eq_none (by omega), List.getElem?_eq_none (by omega)]
  · rintro rfl j _
    simp
theorem run_eqArr {n : Nat} [h : TArr P t n el 1] [he : TInt P el .u8] [hse : TSc P el] (xs ys : List UInt8) (hx : xs.length = n) (hy : ys.length = n) (w : World) :
    (Op.equalIn 10000 t (.agg (xs.map u8v).toArray) (.agg (ys.map u8v).toArray)).run P w = .ok (decide (xs = ys)) w := by
  have hs := h.s
  cases hi : P.info? el with
  | none => simp [hi] at hs
  | some i =>
    have hc : P.cellsOf el = 1 := by simp [hi] at hs; simp [Program.cellsOf, hi, hs]
    rw [show (10000 : Nat) = 9999 + 1 from rfl, run_equalIn_array (P := P) (w := w) 9999 _ _ h.u hi, hc, show (9999 : Nat) = 9998 + 1 from rfl, run_eqItems_u8 9998 xs ys (by omega) w _ (by simp [hx]), ← hx, all_range_eq (by omega)]
theorem m_eqArr {n : Nat} {q : Md} [h : TArr P t n el 1] [he : TInt P el .u8] [hse : TSc P el] [hg : TNoG P t] (x y : Operand) (xs ys : List UInt8) (hx : xs.length = n) (hy : ys.length = n) :
    binE q P .eql t x y (.agg (xs.map u8v).toArray) (.agg (ys.map u8v).toArray) K pan w = K (.bool (decide (xs = ys))) w := by
  refine runS_pure fun w => ?_
  rw [Sem.run_bind, run_eqGuard_agg w _ _ _ _ _ _ hg.u, Result.andThen_ok, run_eql_struct, run_eqArr xs ys hx hy w]
  rfl
theorem m_neArr {n : Nat} {q : Md} [h : TArr P t n el 1] [he : TInt P el .u8] [hse : TSc P el] [hg : TNoG P t] (x y : Operand) (xs ys : List UInt8) (hx : xs.length = n) (hy : ys.length = n) :
    binE q P .neq t x y (.agg (xs.map u8v).toArray) (.agg (ys.map u8v).toArray) K pan w = K (.bool (decide (xs ≠ ys))) w := by
  refine runS_pure fun w => ?_
  rw [Sem.run_bind, run_eqGuard_agg w _ _ _ _ _ _ hg.u, Result.andThen_ok, run_neq_struct, run_eqArr xs ys hx hy w]
  simp
/-! ### strings out of bytes -/
theorem m_strOfL {q : Md} (s t : Nat) [hs : TSl P s el 1 by'] [he : TInt P el .u8] [ht : TStr P t] {B c n : Nat} {a : Option Addr} {xs : List UInt8} [hq : RdM q] (hr : RdB w B a xs) (hn : xs.length = n) :
    runS q P (convert s t (.slice a n c)) K pan w = K (.string ⟨xs.toArray⟩) w := by
  subst hn
  exact m_strOf s t hr
theorem ba_eq (a b : List UInt8) : ((⟨a.toArray⟩ : ByteArray) = ⟨b.toArray⟩) = (a = b) := by simp
/-- []byte("..."): a row that was just made is marked: nothing of it is frozen, but no row is appended to it in place -/
theorem ms_ok (hs : Sat S H w) {s b n cp i : Nat} {xs : List Value} [h : TSl P s el sz by'] [he : TInt P el .u8] [ha : AtR H (some ⟨b, 0, none⟩) cp xs el sz i] (hx : xs.length = cp * sz)
    (hK : ∀ w', Sat S (H.set i (.bk b xs el)) w' → K (.slice (some ⟨b, 0, none⟩) n cp) w') : runS .ord P (convert s s (.slice (some ⟨b, 0, none⟩) n cp)) K pan w := by
  have hh : SlH w (some ⟨b, 0, none⟩) cp xs el sz := hs.holds _ (List.mem_of_getElem? ha.get)
  rcases hh with ⟨h0, _⟩ | ⟨b', cs, h1, h2, h3, h4, h5, h6⟩
  · cases h0
  · injection h1 with h1
    injection h1 with h1
    subst h1
    have hcs : cs.toList = xs := by rw [← h6, List.take_of_length_le (by simp; omega)]
    have hsh : w.shape? b = some (el, cs.size) := by unfold World.shape?; rw [h2]
    have hfr : (w.freeze ⟨b, cs.size, none⟩ 1).heap[b]? = some (.cells cs el (cs.size, cs.size + 1)) := by
      unfold World.freeze
      rw [if_neg (by decide)]
      simp [Array.getElem?_modify, h2]
    have hoth : ∀ k, k ≠ b → (w.freeze ⟨b, cs.size, none⟩ 1).heap[k]? = w.heap[k]? := fun k hk => by
      unfold World.freeze
      rw [if_neg (by decide)]
      simp only [Array.getElem?_modify]
      rw [if_neg (by omega)]
    rw [runS_ok (w' := w.freeze ⟨b, cs.size, none⟩ 1)]
    · refine hK _ (hs.upd1 i ha.get (local1 ?_ ?_ ?_ ?_ (fun k hk hn => hoth k fun e => hn (e ▸ ⟨_, rfl, rfl⟩)) ⟨(cs.size, cs.size + 1), by rw [hfr, ← hcs], .inr (by rw [← hcs]; simp)⟩ (fun k hk => ?_)))
      · unfold World.freeze; rw [if_neg (by decide)]
      · unfold World.freeze; rw [if_neg (by decide)]
      · unfold World.freeze; rw [if_neg (by decide)]
      · unfold World.freeze; rw [if_neg (by decide)]; simp
      · have : k = b := hk
        subst this
        exact ⟨(Array.getElem?_eq_some_iff.1 hfr).1, fun _ => ⟨_, rfl, rfl⟩⟩
    · simp [convert, run_underlying h.u, run_underlying he.u, markStringish, hsh]
/-! ### regions whose order is open -/
theorem dn_ok {k : Env → World → Prop} {e : Env} (hs : Sat S H w) (h : ∀ w', Sat S H w' → k e w') : Dn k e w := fun n => h _ (hs.drewN n)
/-- the worlds of which H is known, and maybe more -/
def SatE (S : Cx) (H : List Ck) (w : World) : Prop := ∃ F, Sat S (H ++ F) w
theorem Sat.e (hs : Sat S H w) : SatE S H w := ⟨[], by rwa [List.append_nil]⟩
theorem Sat.e2 {H' : List Ck} (F : List Ck) (hs : Sat S H' w) (h : H' = H ++ F) : SatE S H w := ⟨F, h ▸ hs⟩
theorem SatE.look (hs : SatE S H w) (p : Option Addr) {i k : Nat} {v : Value} [h : At H p c i k] (hv : c.cells[k]? = some v) : cellO w p = some v := by
  obtain ⟨F, hs⟩ := hs
  exact Ck.cell (hs.drop.holds c (List.mem_of_getElem? h.get)) h.place hv
theorem m_loadE (t : TypeId) (hs : SatE S H w) [h : TSc P t] (p : Option Addr) {i k : Nat} [ha : At H p c i k] : runS (.ahead (SatE S H)) P (Instr.loadAt t (.pointer p)) K pan w = ldM (c.cells[k]?) K w (ldZ (.ahead (SatE S H)) P t p K pan w) := by
  cases hv : c.cells[k]? with
  | none => rfl
  | some v => exact m_loadY t p v hs fun w' hw => hw.look p hv
theorem m_loadYA {C : World → Prop} (t : TypeId) [h : TAg P t sz] (p : Option Addr) (l : List Value) (hS : C w) (hc : ∀ w', C w' → cellsO w' p sz = some l) : runS (.ahead C) P (Instr.loadAt t (.pointer p)) K pan w = K (.agg l.toArray) w := by
  refine runS_yields hS fun w' hw => ?_
  have hcl := hc w' hw
  cases p with
  | none => cases hcl
  | some a =>
    have hcl' : cellsFrom w' a 0 sz = some l := hcl
    simp [Instr.loadAt, Instr.sureAddr, loadVar, run_isAgg_ag h.u, run_sizeOf h.s, loadCells, run_loadCellsFrom _ a sz 0 #[] l hcl']
theorem m_loadEA (t : TypeId) (hs : SatE S H w) [h : TAg P t sz] (p : Option Addr) {i k : Nat} [ha : At H p c i k] (hk : k + sz ≤ c.cells.length) (h0 : 0 < sz) : runS (.ahead (SatE S H)) P (Instr.loadAt t (.pointer p)) K pan w = K (.agg ((c.cells.drop k).take sz).toArray) w := by
  refine m_loadYA t p _ hs fun w' hw => ?_
  obtain ⟨F, hw⟩ := hw
  have := hw.drop.lookA p sz (i := i) (k := k)
  rw [this, lkA_eq, if_pos ⟨hk, h0⟩]
theorem kh_ok {C : World → Prop} {v : Value} (h : C w) (hk : K v w) : Kh C K v w := ⟨h, hk⟩
theorem SatE.next {H' : List Ck} (he : SatE S H w) (hs : Sat S H' w') (h : H' = H ++ F) : SatE S H w' := ⟨F, h ▸ hs⟩
theorem SatE.old (hs : SatE S H w) {p : Option Addr} {v : Value} (h : oldO S p = some v) : cellO w p = some v := by
  obtain ⟨F, hs⟩ := hs
  exact hs.old h
theorem m_loadEO (t : TypeId) (hs : SatE S H w) [h : TSc P t] (p : Option Addr) {v : Value} (ho : oldO S p = some v) : runS (.ahead (SatE S H)) P (Instr.loadAt t (.pointer p)) K pan w = K v w := m_loadY t p v hs fun w' hw => hw.old ho
end
end Go.Proofs.YtokoohdpakhphaaDoor.VC
