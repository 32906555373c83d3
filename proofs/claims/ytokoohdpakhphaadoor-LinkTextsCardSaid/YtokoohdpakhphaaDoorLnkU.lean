/- Small rules of the laws' walks. No statement about the program stands here. -/
import Derived.Test.YtokoohdpakhphaaDoorRowG
import Derived.Test.YtokoohdpakhphaaDoorLoan
import Derived.Test.YtokoohdpakhphaaDoorLnkC
namespace Go.Proofs.YtokoohdpakhphaaDoor.Lnk
open Go VC Go.RowKit
set_option linter.unusedVariables false
theorem stayU {S : Cx} {H F : List Ck} {w0 w : World} (h1 : VC.Sat S H w0) (hs : VC.Sat (.at w0) F w) : VC.Sat S H w := by
  have := h1.add (Below.sat hs.belowAt)
  rwa [List.append_nil] at this
theorem m_loadU {S : Cx} {H : List Ck} {w : World} {P : Program} {K : Value → World → Prop} {pan : List PanicEntry → World → Prop} {sz : Nat} (t : TypeId) (he : SatE S H w) [h : TAg P t sz] (p : Option Addr) {xs : List Value} (hx : Ro S p xs) (hn : xs.length = sz) (h0 : 0 < sz) :
    runS (.ahead (SatE S H)) P (Instr.loadAt t (.pointer p)) K pan w = K (.agg xs.toArray) w := m_loadYA t p xs he fun w' hw => by
  obtain ⟨F, hw⟩ := hw
  subst hn
  exact hx.cells hw h0
theorem rowU {S : Cx} {a : Option Addr} {rows : List BRow} (h : Ro S a (rows.map BRow.v)) {i : Nat} {r : BRow} (hr : rows[i]? = some r) : oldO S (adO a i) = some (.slice r.a r.xs.length r.c) := h i _ (by rw [List.getElem?_map, hr]; rfl)
/-- a link among others in memory -/
theorem linkU {S : Cx} {a : Option Addr} : ∀ {L : List Lk} {i : Nat} {l : Lk}, Ro S a (L.flatMap Lk.fs) → L[i]? = some l → Ro S (adO a (i * 4)) l.fs := by
  intro L i l h hi
  have hd : (L.flatMap Lk.fs).drop (i * 4) = (L.drop i).flatMap Lk.fs := by
    clear h hi
    induction i generalizing L with
    | zero => simp
    | succ n ih =>
      cases L with
      | nil => simp
      | cons x t =>
        rw [List.flatMap_cons, List.drop_succ_cons, ← ih (L := t), Nat.succ_mul, Nat.add_comm, ← List.drop_drop]
        congr 1
  have h2 := h.drop (i * 4)
  rw [hd] at h2
  obtain ⟨hl, he⟩ := List.getElem?_eq_some_iff.1 hi
  rw [List.drop_eq_getElem_cons hl, List.flatMap_cons, he] at h2
  have h3 := h2.take 4
  have e4 : l.fs.length = 4 := rfl
  rwa [← e4, List.take_left] at h3
def toLkU (x : Int × Nat × Nat × ByteArray × Unit) : Lk := ⟨x.1, x.2.1, x.2.2.1, x.2.2.2.1.data.toList⟩
def strV (s : List UInt8) : Value := .string ⟨s.toArray⟩
end Go.Proofs.YtokoohdpakhphaaDoor.Lnk
