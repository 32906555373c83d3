/- Several texts in one. -/
import Derived.Test.YtokoohdpakhphaaDoorVcMem
import Derived.Test.YtokoohdpakhphaaDoorStr
namespace Go.Proofs.YtokoohdpakhphaaDoor.VC
open Go Go.RowKit
structure BRow where
  a : Option Addr
  c : Nat
  xs : List UInt8
def BRow.v (r : BRow) : Value := .slice r.a r.xs.length r.c
def RdBB (w : World) (B : Nat) (a : Option Addr) (rows : List BRow) : Prop := Rd w B a (rows.map BRow.v) ∧ ∀ r ∈ rows, RdB w B r.a r.xs ∧ r.xs.length ≤ r.c ∧ r.xs.length ≤ 140737488351232
theorem RdBB.below {w w' : World} {B : Nat} {a : Option Addr} {rows : List BRow} (h : RdBB w B a rows) (hb : Below B w w') : RdBB w' B a rows :=
  ⟨h.1.below hb, fun r hr => ⟨(h.2 r hr).1.below hb, (h.2 r hr).2⟩⟩
theorem RdBB.cell {w : World} {B : Nat} {a : Option Addr} {rows : List BRow} (h : RdBB w B a rows) {i : Nat} (hi : i < rows.length) : cellO w (adO a i) = some (.slice rows[i].a rows[i].xs.length rows[i].c) := by
  have := Rd.cell h.1 (i := i) (by simpa using hi)
  simpa [BRow.v] using this
theorem RdBB.isSome {w : World} {B : Nat} {a : Option Addr} {rows : List BRow} (h : RdBB w B a rows) (hi : 0 < rows.length) : a.isSome = true := Rd.isSome h.1 (by simpa using hi)
end Go.Proofs.YtokoohdpakhphaaDoor.VC
namespace Go.Proofs.YtokoohdpakhphaaDoor.VC
open Go Go.RowKit
set_option linter.unusedVariables false
def parts4 : Nat → List (List Value) → List (Nat × Value)
  | _, [] => []
  | k, r :: rs => (k, .agg r.toArray) :: parts4 (k + 1) rs
theorem set4 (pre suf : List Value) (k : Nat) (a b c d s0 s1 s2 s3 : Value) (hp : pre.length = k) :
    (((((pre ++ (s0 :: s1 :: s2 :: s3 :: suf)).toArray.setIfInBounds (k + 0) a).setIfInBounds (k + 1) b).setIfInBounds (k + 2) c).setIfInBounds (k + 3) d) = (pre ++ (a :: b :: c :: d :: suf)).toArray := by
  subst hp
  apply Array.toList_inj.1
  simp only [Array.toList_setIfInBounds, Nat.add_zero]
  rw [List.set_append_right _ _ (Nat.le_refl _), List.set_append_right _ _ (by omega), List.set_append_right _ _ (by omega), List.set_append_right _ _ (by omega)]
  simp
theorem fill4 : ∀ (rows : List (List Value)) (k : Nat) (pre suf : List Value), (∀ r ∈ rows, r.length = 4) → pre.length = k * 4 → suf.length = rows.length * 4 →
    Instr.fill (fun i => some (i * 4, 4)) (pre ++ suf).toArray (parts4 k rows) = some (pre ++ rows.flatten).toArray
  | [], k, pre, suf, _, hp, hs => by
    have : suf = [] := List.eq_nil_of_length_eq_zero (by simpa using hs)
    subst this
    rfl
  | r :: rs, k, pre, suf, hr, hp, hs => by
    have hr4 := hr r (.head _)
    match r, hr4 with
    | [a, b, c, d], _ =>
      rcases suf with _ | ⟨s0, _ | ⟨s1, _ | ⟨s2, _ | ⟨s3, suf⟩⟩⟩⟩
      · simp only [List.length_nil, List.length_cons] at hs; omega
      · simp only [List.length_nil, List.length_cons] at hs; omega
      · simp only [List.length_nil, List.length_cons] at hs; omega
      · simp only [List.length_nil, List.length_cons] at hs; omega
      · have hs' : suf.length = rs.length * 4 := by simp only [List.length_cons] at hs; omega
        have h1 : ¬ (decide ((Value.agg [a, b, c, d].toArray).cells.size ≠ 4) || decide (k * 4 + (Value.agg [a, b, c, d].toArray).cells.size > (pre ++ (s0 :: s1 :: s2 :: s3 :: suf)).toArray.size)) = true := by
          have e : (Value.agg [a, b, c, d].toArray).cells.size = 4 := rfl
          rw [e]
          simp only [List.size_toArray, List.length_append, List.length_cons]
          simp
          omega
        rw [parts4, Instr.fill]
        dsimp only
        rw [if_neg h1]
        have h2 : ((Value.agg [a, b, c, d].toArray).cells.zipIdx.foldl (fun cs (x : Value × Nat) => cs.setIfInBounds (k * 4 + x.2) x.1) (pre ++ (s0 :: s1 :: s2 :: s3 :: suf)).toArray) = (pre ++ (a :: b :: c :: d :: suf)).toArray := by
          have e : (Value.agg [a, b, c, d].toArray).cells.zipIdx = #[(a, 0), (b, 1), (c, 2), (d, 3)] := by
            show [a, b, c, d].toArray.zipIdx = _
            simp
          rw [e, ← Array.foldl_toList]
          simp only [List.foldl_cons, List.foldl_nil]
          exact set4 pre suf (k * 4) a b c d s0 s1 s2 s3 hp
        have ih := fill4 rs (k + 1) (pre ++ [a, b, c, d]) suf (fun r h => hr r (.tail _ h)) (by simp [hp]; omega) hs'
        have e3 : pre ++ [a, b, c, d] ++ suf = pre ++ (a :: b :: c :: d :: suf) := by simp
        rw [e3] at ih
        rw [h2, ih]
        simp
section
variable {S : Cx} {H : List Ck} {w : World} {P : Program} {K : Value → World → Prop} {pan : List PanicEntry → World → Prop} {t el by' : Nat} {z : Value}
theorem bs4_ok (hs : Sat S H w) [h : TSl P t el 4 by'] [hz : TZero P el z] {n : Nat} {rows : List (List Value)} (hr : ∀ r ∈ rows, r.length = 4) (hn : rows.length = n) (h0 : 0 < n) (hsmall : n ≤ 1000)
    (hK : ∀ b w', Sat S (H ++ [.sl (some ⟨b, 0, none⟩) n rows.flatten el 4]) w' → K (.slice (some ⟨b, 0, none⟩) n n) w') : runS .ord P (Instr.buildSlice t n (parts4 0 rows).toArray) K pan w := by
  refine bs_ok hs (by omega) (by omega) ?_ ?_ hK
  · have := fill4 rows 0 [] ((Array.range (n * 4)).map (z.cells[· % z.cells.size]!)).toList hr rfl (by simp [hn])
    rw [List.nil_append, List.nil_append, Array.toArray_toList] at this
    exact this
  · have : rows.flatten.length = rows.length * 4 := by
      clear hn h0 hsmall hK
      induction rows with
      | nil => rfl
      | cons x t ih =>
        rw [List.flatten_cons, List.length_append, hr x (.head _), ih (fun r h => hr r (.tail _ h)), List.length_cons]
        omega
    omega
end
end Go.Proofs.YtokoohdpakhphaaDoor.VC
