/- The program's hash under way, as plain lists. No statement about the program stands here. -/
import Derived.Test.YtokoohdpakhphaaDoorRefSum
import Derived.Test.YtokoohdpakhphaaDoorMix
namespace Go.Proofs.YtokoohdpakhphaaDoor.Sha
open Go VC Go.RowKit
set_option linter.unusedSimpArgs false
set_option maxRecDepth 20000
/-- the cells of a hash: its state, the bytes that wait, how many, how many in all -/
def hraw (s : St) (part : List UInt8) (held all : Nat) : List Value := s.list.map u32v ++ (part.map u8v ++ [.int .i64 (held : Int), .int .u64 (all : Int)])
/-- the bytes that wait -/
def HOk (ys part : List UInt8) : Prop := part.length = 64 ∧ part.take (ys.length % 64) = ys.drop (64 * (ys.length / 64))
def hcells (ys part : List UInt8) : List Value := hraw (fold first ys) part (ys.length % 64) ys.length
section
variable {s : St} {part : List UInt8} {held all : Nat} {v : Value}
theorem stlen (s : St) : (s.list.map u32v).length = 8 := rfl
theorem hraw_len (hp : part.length = 64) : (hraw s part held all).length = 74 := by simp [hraw, St.list, hp]
theorem hraw_one : (hraw s part held all).all (·.oneCell') = true := by simp [hraw, St.list, u32v, u8v, Value.oneCell']
theorem hraw_72 (hp : part.length = 64) : (hraw s part held all)[72]? = some (.int .i64 (held : Int)) := by
  unfold hraw; rw [List.getElem?_append_right (by rw [stlen]; omega), stlen, List.getElem?_append_right (by simp [hp]), List.length_map, hp]; rfl
theorem hraw_73 (hp : part.length = 64) : (hraw s part held all)[73]? = some (.int .u64 (all : Int)) := by
  unfold hraw; rw [List.getElem?_append_right (by rw [stlen]; omega), stlen, List.getElem?_append_right (by simp [hp]), List.length_map, hp]; rfl
theorem hraw_s72 (hp : part.length = 64) (n : Nat) : (hraw s part held all).set 72 (.int .i64 (n : Int)) = hraw s part n all := by
  unfold hraw; rw [List.set_append_right _ _ (by rw [stlen]; omega), stlen, List.set_append_right _ _ (by simp [hp]), List.length_map, hp]; rfl
theorem hraw_s720 (hp : part.length = 64) : (hraw s part held all).set 72 (.int .i64 0) = hraw s part 0 all := hraw_s72 hp 0
theorem hraw_s73 (hp : part.length = 64) (n : Nat) : (hraw s part held all).set 73 (.int .u64 (n : Int)) = hraw s part held n := by
  unfold hraw; rw [List.set_append_right _ _ (by rw [stlen]; omega), stlen, List.set_append_right _ _ (by simp [hp]), List.length_map, hp]; rfl
theorem hraw_copy (hp : part.length = 64) (h : Nat) (xs : List UInt8) (hle : h + xs.length ≤ 64) :
    (hraw s part held all).take (8 + h) ++ (xs.map u8v ++ (hraw s part held all).drop (8 + h + xs.length)) = hraw s (part.take h ++ xs ++ part.drop (h + xs.length)) held all := by
  rw [← List.append_assoc]
  unfold hraw
  rw [List.take_append, List.drop_append, stlen, List.take_of_length_le (by rw [stlen]; omega), List.drop_eq_nil_of_le (by rw [stlen]; omega)]
  rw [show 8 + h - 8 = h by omega, show 8 + h + xs.length - 8 = h + xs.length by omega]
  rw [List.take_append_of_le_length (by simp [hp]; omega), List.drop_append_of_le_length (by simp [hp]; omega)]
  simp
theorem hraw_copy0 (hp : part.length = 64) (xs : List UInt8) (hle : xs.length ≤ 64) :
    (hraw s part held all).take 8 ++ (xs.map u8v ++ (hraw s part held all).drop (8 + xs.length)) = hraw s (xs ++ part.drop xs.length) held all := by
  have := hraw_copy (s := s) (held := held) (all := all) hp 0 xs (by omega)
  simpa using this
end
theorem fold_full {zs : List UInt8} (h : zs.length % 64 = 0) (s : St) (xs : List UInt8) : fold s (zs ++ xs) = fold (fold s zs) xs := fold_append (zs.length / 64) s zs xs (by omega)
theorem fold_one {ys : List UInt8} (h : ys.length = 64) (s : St) : fold s ys = block s ys := by
  have e1 : ys.take 64 = ys := List.take_of_length_le (by omega)
  have e2 : ys.drop 64 = [] := List.drop_eq_nil_of_le (by omega)
  rw [fold_big (by omega), e1, e2, fold_small (by simp)]
theorem fold_front (ys : List UInt8) (s : St) : fold s ys = fold s (ys.take (64 * (ys.length / 64))) := by
  have h1 : ys = ys.take (64 * (ys.length / 64)) ++ ys.drop (64 * (ys.length / 64)) := (List.take_append_drop _ _).symm
  have h2 : (ys.take (64 * (ys.length / 64))).length = 64 * (ys.length / 64) := by rw [List.length_take]; omega
  conv => lhs; rw [h1]
  rw [fold_append _ _ _ _ h2, fold_small (by rw [List.length_drop]; omega)]
theorem madeCells_one (v : Value) (n : Nat) : (madeCells #[v] n).toList = List.replicate n v := by
  apply List.ext_getElem
  · simp [size_madeCells]
  · intro i h1 h2
    simp [madeCells, Nat.mod_one]
theorem out4 (s : St) (i : Nat) (h : i < 8) : ∃ x : UInt32, s.list[i]? = some x ∧ (out s)[4 * i]? = some (UInt8.ofNat (x.toNat / 2 ^ 24)) ∧ (out s)[4 * i + 1]? = some (UInt8.ofNat (x.toNat / 2 ^ 16)) ∧ (out s)[4 * i + 2]? = some (UInt8.ofNat (x.toNat / 2 ^ 8)) ∧ (out s)[4 * i + 3]? = some (UInt8.ofNat x.toNat) := by
  have hl : s.list.length = 8 := rfl
  refine ⟨s.list[i], List.getElem?_eq_getElem (by omega), ?_⟩
  have g : ∀ j, j < 4 → (out s)[i * 4 + j]? = ([UInt8.ofNat (s.list[i].toNat / 2 ^ 24), UInt8.ofNat (s.list[i].toNat / 2 ^ 16), UInt8.ofNat (s.list[i].toNat / 2 ^ 8), UInt8.ofNat s.list[i].toNat] : List UInt8)[j]? := fun j hj =>
    flatMap_get (f := fun w : UInt32 => [UInt8.ofNat (w.toNat / 2 ^ 24), UInt8.ofNat (w.toNat / 2 ^ 16), UInt8.ofNat (w.toNat / 2 ^ 8), UInt8.ofNat w.toNat]) (fun _ => rfl) s.list i j s.list[i] (List.getElem?_eq_getElem (by omega)) hj
  rw [Nat.mul_comm 4 i]
  exact ⟨g 0 (by omega), g 1 (by omega), g 2 (by omega), g 3 (by omega)⟩
theorem hok_nil (part : List UInt8) (h : part.length = 64) : HOk [] part := ⟨h, by simp⟩
/-- the bytes that wait, and those that are added, make no block -/
theorem hok_more {ys part : List UInt8} (h : HOk ys part) (xs : List UInt8) (hl : ys.length % 64 + xs.length < 64) :
    HOk (ys ++ xs) (part.take (ys.length % 64) ++ xs ++ part.drop (ys.length % 64 + xs.length)) ∧ fold first (ys ++ xs) = fold first ys ∧ (ys ++ xs).length % 64 = ys.length % 64 + xs.length := by
  obtain ⟨h1, h2⟩ := h
  have hm : (ys ++ xs).length % 64 = ys.length % 64 + xs.length := by rw [List.length_append]; omega
  have hd : (ys ++ xs).length / 64 = ys.length / 64 := by rw [List.length_append]; omega
  have hlt : (part.take (ys.length % 64)).length = ys.length % 64 := by rw [List.length_take]; omega
  refine ⟨⟨by simp; omega, ?_⟩, ?_, hm⟩
  · rw [hm, hd, List.take_append_of_le_length (by rw [List.length_append, hlt]; omega), List.take_of_length_le (by rw [List.length_append, hlt]; omega), h2, List.drop_append_of_le_length (by omega)]
  · rw [fold_front (ys ++ xs), fold_front ys, hd, List.take_append_of_le_length (by omega)]
/-- the bytes that wait, and those that are added, make just one block -/
theorem hok_block {ys part : List UInt8} (h : HOk ys part) (xs : List UInt8) (hl : ys.length % 64 + xs.length = 64) :
    fold first (ys ++ xs) = block (fold first ys) (part.take (ys.length % 64) ++ xs) ∧ (ys ++ xs).length % 64 = 0 := by
  obtain ⟨h1, h2⟩ := h
  refine ⟨?_, by rw [List.length_append]; omega⟩
  have e : ys ++ xs = ys.take (64 * (ys.length / 64)) ++ (part.take (ys.length % 64) ++ xs) := by rw [h2, ← List.append_assoc, List.take_append_drop]
  rw [e, fold_append (ys.length / 64) _ _ _ (by rw [List.length_take]; omega), ← fold_front, fold_one]
  rw [List.length_append, List.length_take]; omega
/-- whole blocks, and some bytes more -/
theorem hok_end {zs part : List UInt8} (hz : zs.length % 64 = 0) (hp : part.length = 64) (xs : List UInt8) (hl : xs.length < 64) :
    HOk (zs ++ xs) (xs ++ part.drop xs.length) ∧ fold first (zs ++ xs) = fold first zs ∧ (zs ++ xs).length % 64 = xs.length := by
  have hm : (zs ++ xs).length % 64 = xs.length := by rw [List.length_append]; omega
  have hd : 64 * ((zs ++ xs).length / 64) = zs.length := by rw [List.length_append]; omega
  refine ⟨⟨by simp; omega, ?_⟩, ?_, hm⟩
  · rw [hm, hd, List.take_left, List.drop_left]
  · rw [fold_full hz, fold_small hl]
end Go.Proofs.YtokoohdpakhphaaDoor.Sha
