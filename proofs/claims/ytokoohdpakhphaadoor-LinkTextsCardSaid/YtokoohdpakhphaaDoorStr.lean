/- Strings, functions without a body, what a strings.Builder does to memory. No statement about the program stands here. -/
import Derived.Test.YtokoohdpakhphaaDoorBun
import Derived.Laws.IdiomStrings
import Derived.Laws.Externs
import Derived.Laws.Strings3
import Derived.Lib.Builder
import Derived.Lib.UnsafeStr
import Derived.Lib.Bytealg
namespace Go.Proofs.YtokoohdpakhphaaDoor.VC
open Go Go.RowKit
set_option linter.unusedVariables false
set_option maxRecDepth 10000
section
variable {q : Md} {S : Cx} {H : List Ck} {w : World} {P : Program} {K : Value → World → Prop} {pan : List PanicEntry → World → Prop} {t el by' : Nat}
/-- a call of a function that the library writes without a body -/
theorem ext_ok {f : Nat} {args : List Value} {fn : Func} {e : Array Value → Sem Value} {v : Value} (hf : P.funcs[f]? = some fn) (hname : (fn.name == "runtime.NumGoroutine") = false) (hb : fn.body.isNone = true)
    (hn : Extern.findNext fn = none) (he : Extern.find fn = some e) (hr : (e args.toArray).run P w = .ok v w) (h : K v w) : callX .ord P f args K pan w := by
  simp only [callX, runX, runN, run_callFunc_extern hf hname hb hn he, hr, Result.andThen]
  exact h
/-- a new block, marked behind its last cell -/
theorem Sat.newBf (hs : Sat S H w) (cs : List Value) (t : Nat) : Sat S (H ++ [.bk w.heap.size cs t]) (w.alloc (.cells cs.toArray t (cs.length, cs.length + 1))) :=
  hs.add (local0 rfl rfl rfl (by simp) (fun k hk => Below.heap_alloc w _ k hk) ⟨(cs.length, cs.length + 1), heap_alloc_new w _, .inr (Nat.le_refl _)⟩ (fun k hk => by have : k = w.heap.size := hk; subst this; simp))
/-- []byte(s) -/
theorem cvb_ok (hs : Sat S H w) {s : Nat} [h : TStr P s] [ht : TSl P t el 1 by'] [he : TInt P el .u8] {b : List UInt8}
    (hK : ∀ a c pad w', b.length ≤ c → Sat S (H ++ [.bk a (b.map u8v ++ pad) el]) w' → K (.slice (some ⟨a, 0, none⟩) b.length c) w') : runS .ord P (convert s t (.string ⟨b.toArray⟩)) K pan w := by
  rw [runS_ok (run_bytes_of_string w s t el ⟨b.toArray⟩ h.u ht.u he.u)]
  generalize hg : grownCap w (ByteArray.mk b.toArray).size 0 el = c
  have hc : b.length ≤ c := by
    have := grownCap_ge w (ByteArray.mk b.toArray).size 0 el
    rw [hg] at this
    exact Nat.le_trans (Nat.le_of_eq (by simp [ByteArray.size])) this
  have hl : (bytesRow ⟨b.toArray⟩ c) = (b.map u8v ++ List.replicate (c - b.length) (Value.int .u8 0)).toArray := by
    unfold bytesRow
    apply Array.toList_inj.1
    simp [ByteArray.size]
    exact fun _ _ => rfl
  have h2 := (Sat.drew hs).newBf (b.map u8v ++ List.replicate (c - b.length) (Value.int .u8 0)) el
  have hsz : (b.map u8v ++ List.replicate (c - b.length) (Value.int .u8 0)).toArray.size = (b.map u8v ++ List.replicate (c - b.length) (Value.int .u8 0) : List Value).length := by simp
  rw [hl, hsz]
  have e : (ByteArray.mk b.toArray).size = b.length := by simp [ByteArray.size]
  rw [e]
  exact hK _ _ _ _ hc h2
/-- s[i:] -/
theorem m_sliceStr [h : TStr P t] (b : List UInt8) (k : IntKind) (i : Int) (h0 : 0 ≤ i) (h1 : i ≤ b.length) : runS q P (Instr.sliceAt t (.string ⟨b.toArray⟩) (some (.int k i)) none none) K pan w = K (.string ⟨(b.drop i.toNat).toArray⟩) w := runS_pure fun w => by
  have e : (ByteArray.mk b.toArray).size = b.length := by simp [ByteArray.size]
  have hx : (ByteArray.mk b.toArray).extract i.toNat (ByteArray.mk b.toArray).size = ⟨(b.drop i.toNat).toArray⟩ := by
    apply ByteArray.ext
    rw [ByteArray.data_extract, e]
    apply Array.toList_inj.1
    simp [List.extract, List.take_of_length_le]
  have := run_slice_string_l (P := P) (w := w) (t := t) (s := ⟨b.toArray⟩) h.u k i h0 (by rw [e]; exact h1)
  rw [hx] at this
  simpa [Instr.sliceAt, run_underlying h.u] using this
theorem ba_app (a b : List UInt8) : (ByteArray.mk a.toArray) ++ (ByteArray.mk b.toArray) = ⟨(a ++ b).toArray⟩ := by
  apply ByteArray.ext
  simp [ByteArray.data_append]
theorem ba_size (a : List UInt8) : (ByteArray.mk a.toArray).size = a.length := by simp [ByteArray.size]
theorem bt_list (a : List UInt8) (i : Nat) (h : i < a.length) : bt ⟨a.toArray⟩ i = a[i].toNat := by
  unfold bt
  simp [h]
theorem bi_uSlice (ats : Array TypeId) (ty : TypeId) (cs : Array Bool) (args : Array Value) : runX q P (builtin .unsafeSliceData ats ty cs args) K pan w = runS q P (Builtin.unsafeSliceData_ ats ty args) K pan w := (fun h => h) rfl
theorem bi_uStr (ats : Array TypeId) (ty : TypeId) (cs : Array Bool) (args : Array Value) : runX q P (builtin .unsafeString ats ty cs args) K pan w = runS q P (Builtin.unsafeString_ ats ty args) K pan w := (fun h => h) rfl
theorem m_uSlice [hq : RdM q] (ats : Array TypeId) (ty : TypeId) (a : Addr) (n c : Nat) (hc : c ≠ 0) : runS q P (Builtin.unsafeSliceData_ ats ty #[.slice (some a) n c]) K pan w = K (.pointer (some a)) w :=
  runS_reads hq.h fun _ => Lib.run_unsafeSliceData_row _ ats ty a n c hc
theorem m_uSlice0 [hq : RdM q] (ats : Array TypeId) (ty : TypeId) (n c : Nat) : runS q P (Builtin.unsafeSliceData_ ats ty #[.slice none n c]) K pan w = K (.pointer none) w :=
  runS_reads hq.h fun _ => Lib.run_unsafeSliceData_nil _ ats ty n c
theorem m_uSliceY {C : World → Prop} (hS : C w) (ats : Array TypeId) (ty : TypeId) (a : Addr) (n c : Nat) (hc : c ≠ 0) : runS (.ahead C) P (Builtin.unsafeSliceData_ ats ty #[.slice (some a) n c]) K pan w = K (.pointer (some a)) w :=
  runS_yields hS fun _ _ => Lib.run_unsafeSliceData_row _ ats ty a n c hc
theorem m_uSlice0Y {C : World → Prop} (hS : C w) (ats : Array TypeId) (ty : TypeId) (n c : Nat) : runS (.ahead C) P (Builtin.unsafeSliceData_ ats ty #[.slice none n c]) K pan w = K (.pointer none) w :=
  runS_yields hS fun _ _ => Lib.run_unsafeSliceData_nil _ ats ty n c
theorem freeze_heap (w : World) (g n k : Nat) (hk : k ≠ g) : (w.freeze ⟨g, 0, none⟩ n).heap[k]? = w.heap[k]? := by
  unfold World.freeze
  split
  · rfl
  · simp [Array.getElem?_modify, Ne.symm hk]
theorem freeze_size (w : World) (g n : Nat) : (w.freeze ⟨g, 0, none⟩ n).heap.size = w.heap.size := by
  unfold World.freeze
  split
  · rfl
  · simp
theorem freeze_rest (w : World) (g n : Nat) : (w.freeze ⟨g, 0, none⟩ n).os = w.os ∧ (w.freeze ⟨g, 0, none⟩ n).tape = w.tape ∧ (w.freeze ⟨g, 0, none⟩ n).output = w.output := by
  unfold World.freeze
  split <;> exact ⟨rfl, rfl, rfl⟩
theorem Sat.e0 (hs : Sat S H w) : SatE S [] w := ⟨H, hs⟩
/-- a row of one's own is frozen: nothing is known of it any more -/
theorem freeze_sat {g c n : Nat} {xs : List Value} (hs : Sat S [.sl (some ⟨g, 0, none⟩) c xs el 1] w) : Sat S [] (w.freeze ⟨g, 0, none⟩ n) := by
  obtain ⟨h1, h2, h3⟩ := freeze_rest w g n
  refine ⟨⟨by rw [h1]; exact hs.kept.os, by rw [h2]; exact hs.kept.tape, by rw [h3]; exact hs.kept.output, by rw [freeze_size]; exact hs.kept.size, fun k hk hm => ?_⟩, fun _ h => (nomatch h), fun _ h => (nomatch h), .nil⟩
  have hg : k ≠ g := fun h => by
    subst h
    exact hm ((hs.own _ (.head _) k ⟨_, rfl, rfl⟩).2 hk)
  rw [freeze_heap w g n k hg]
  exact hs.kept.block k hk hm
theorem Ro.rdS {a : Option Addr} {xs : List Value} (h : Ro S a xs) (hs : Sat S H w) : Rd w S.base.heap.size a xs := fun hn => by
  have h0 : 0 < xs.length := List.length_pos_iff.2 hn
  have := h 0 xs[0] (List.getElem?_eq_getElem h0)
  rw [adO_0] at this
  obtain ⟨ad, rfl, hb, _, _⟩ := oldO_some this
  exact ⟨ad, rfl, hb, fun i hi => Ro.cell h hs (List.getElem?_eq_getElem hi)⟩
theorem m_strOfEO (he : SatE S H w) (s : Nat) [hsl : TSl P s el 1 by'] [hei : TInt P el .u8] [ht : TStr P t] {c n : Nat} {a : Option Addr} {xs : List UInt8} (hx : Ro S a (xs.map u8v)) (hn : xs.length = n) :
    runS (.ahead (SatE S H)) P (convert s t (.slice a n c)) K pan w = K (.string ⟨xs.toArray⟩) w := m_strOfN s t (B := S.base.heap.size) hn (fun w' hw => by obtain ⟨F, hw⟩ := hw; exact Ro.rdS hx hw) he
/-- results: a variable of several cells, then values -/
theorem ret_cellT {fn : Func} {R : Ending → World → Prop} {e : Env} {r u sz : Nat} {p : Option Addr} {l : List Value} [h : TAg P t sz] (hf : fn.results = #[.cell r t, .tmp u]) (he : e r = .pointer p) (hl : cellsO w p sz = some l) (hr : R (.returned (.tuple #[.agg l.toArray, e u])) w) : retK P fn R e w := by
  refine ⟨#[.agg l.toArray, e u], ?_, hr⟩
  cases p with
  | none => cases hl
  | some a =>
    have hc : cellsFrom w a 0 sz = some l := hl
    simp [hf, resE, he, asAddr, loadVar, run_isAgg_ag h.u, run_sizeOf h.s, loadCells, run_loadCellsFrom _ a sz 0 #[] l hc]
theorem ret_cellT2 {fn : Func} {R : Ending → World → Prop} {e : Env} {r u v sz : Nat} {p : Option Addr} {l : List Value} [h : TAg P t sz] (hf : fn.results = #[.cell r t, .tmp u, .tmp v]) (he : e r = .pointer p) (hl : cellsO w p sz = some l) (hr : R (.returned (.tuple #[.agg l.toArray, e u, e v])) w) : retK P fn R e w := by
  refine ⟨#[.agg l.toArray, e u, e v], ?_, hr⟩
  cases p with
  | none => cases hl
  | some a =>
    have hc : cellsFrom w a 0 sz = some l := hl
    simp [hf, resE, he, asAddr, loadVar, run_isAgg_ag h.u, run_sizeOf h.s, loadCells, run_loadCellsFrom _ a sz 0 #[] l hc]
end
end Go.Proofs.YtokoohdpakhphaaDoor.VC
