/- Bytes in digits of so many bits: the program's spread. -/
import Derived.Test.YtokoohdpakhphaaDoorLnkD
namespace Go.Proofs.YtokoohdpakhphaaDoor.Lnk
open Go VC Go.RowKit
set_option linter.unusedSimpArgs false
set_option linter.unusedVariables false
set_option maxRecDepth 20000
set_option maxHeartbeats 4000000
def dmap (ds : List UInt8) (l : List Nat) : List UInt8 := l.map fun d => ds.getD d 0
theorem spread_calls (w0 : World) (a : Option Addr) (c : Nat) (b ds : List UInt8) (bits : Nat) (hb0 : 0 < bits) (hb8 : bits ≤ 8) (hds : ds.length = 2 ^ bits) (hx : Ro (.at w0) a (b.map u8v)) (hl : b.length ≤ 1048576) :
    Calls Tryd.prog 39 #[.slice a b.length c, .int .i64 bits, .string ⟨ds.toArray⟩] w0 fun e w' => e = .returned (.string ⟨(spreadL bits ds b).toArray⟩) ∧ Below w0.heap.size w0 w' := by
  refine calls_vc Tryd.func39 rfl (by kernel_rfl) (by kernel_rfl) ?_; intro R hR
  have hs := Sat.start w0
  (repeat (first | (simp (disch := first | omega | assumption | exact Option.isSome_some | (simp only [adO_isSome]; assumption)) only [↓vcp, vcs, vct, if_true, if_false, Nat.reduceBEq, ↓reduceIte, Nat.reduceEqDiff, Nat.reduceAdd, Nat.reduceMul, Nat.reduceSub, Int.reduceToNat, reduceCtorEq, Nat.reduceLT, Nat.reduceLeDiff, Int.reduceSub, Int.reduceAdd, Int.reduceNeg, Sat.look hs, Sat.lookA hs]) | (refine khK he hs ?_; clear he; intro he) | ((first | refine stK hs ?_ | refine stFK hs ?_ | refine stAK hs ?_ | refine msK hs ?_); clear hs; (try clear w); rintro w hs; try simp only [cls] at hs) | ((first | refine al_ok hs ?_ | refine bx_ok hs ?_ | refine bsvK hs ?_ | refine bs1_ok hs ?_ | refine bs0_ok hs ?_); clear hs; (try clear w); rintro _ w hs; try simp only [cls] at hs)))
  rename_i bb
  refine loop_join (σ := Nat × Nat × Option Addr × Option Addr × Nat × List UInt8) 0 [8, 9] (fun s => [.int .i64 s.1, .int .i64 s.2.1]) [0, 1, 2, 7] (fun s w' => s.2.1 < bits ∧ s.1 < 2 ^ s.2.1 ∧ (s.2.2.1 = none ∨ s.2.2.1 = some ⟨bb, 0, none⟩) ∧ (s.2.2.2.2.2 = [] → s.2.2.2.1 = none ∧ s.2.2.2.2.1 = 0) ∧ s.2.2.2.2.2.length ≤ 16 * b.length ∧ s.2.2.2.2.2 ++ dmap ds (spgo bits [] s.1 s.2.1) = spreadL bits ds b ∧ VC.Sat (.at w0) (bld bb s.2.2.1 s.2.2.2.1 s.2.2.2.2.1 s.2.2.2.2.2) w') ?_ ?_
  · refine loop_rule (σ := Nat × Nat × Nat × Option Addr × Option Addr × Nat × List UInt8) [14, 8, 9] (fun s => [.int .i64 s.1, .int .i64 s.2.1, .int .i64 s.2.2.1]) [0, 1, 2, 7, 12, 13] (fun s w' => s.1 ≤ b.length ∧ s.2.2.1 < bits ∧ s.2.1 < 2 ^ s.2.2.1 ∧ (s.2.2.2.1 = none ∨ s.2.2.2.1 = some ⟨bb, 0, none⟩) ∧ (s.2.2.2.2.2.2 = [] → s.2.2.2.2.1 = none ∧ s.2.2.2.2.2.1 = 0) ∧ s.2.2.2.2.2.2.length ≤ 16 * s.1 ∧ s.2.2.2.2.2.2 ++ dmap ds (spgo bits (b.drop s.1) s.2.1 s.2.2.1) = spreadL bits ds b ∧ VC.Sat (.at w0) (bld bb s.2.2.2.1 s.2.2.2.2.1 s.2.2.2.2.2.1 s.2.2.2.2.2.2) w') (fun s _ => b.length - s.1) (0, 0, 0, none, none, 0, []) (by kernel_rfl) rfl ⟨by omega, by dsimp only; omega, by dsimp only; simp, .inl rfl, fun _ => ⟨rfl, rfl⟩, by simp, by rfl, ?_⟩ ?_
    · replace hs := Sat.nil hs 5 1; try simp only [cls] at hs
      exact hs
    clear hs
    rintro e ⟨i, n, h, p, ba, bc, out⟩ w ⟨hi, hh, hn, hp, hnil, hout, heq, hs⟩
    dsimp only at hi hh hn hp hnil hout heq hs ⊢
    simp (disch := first | omega | assumption | exact Option.isSome_some | (simp only [adO_isSome]; assumption)) only [↓vcp, vcs, vct, if_true, if_false, Nat.reduceBEq, ↓reduceIte, Nat.reduceEqDiff, Nat.reduceAdd, Nat.reduceMul, Nat.reduceSub, Int.reduceToNat, reduceCtorEq, Nat.reduceLT, Nat.reduceLeDiff, Int.reduceSub, Int.reduceAdd, Int.reduceNeg, Sat.look hs, Sat.lookA hs]
    by_cases hlt : i < b.length
    case neg =>
      obtain rfl : i = b.length := by omega
      rw [List.drop_length] at heq
      (repeat (first | (simp (disch := first | omega | assumption | exact Option.isSome_some | (simp only [adO_isSome]; assumption)) only [↓vcp, vcs, vct, if_true, if_false, Nat.reduceBEq, ↓reduceIte, Nat.reduceEqDiff, Nat.reduceAdd, Nat.reduceMul, Nat.reduceSub, Int.reduceToNat, reduceCtorEq, Nat.reduceLT, Nat.reduceLeDiff, Int.reduceSub, Int.reduceAdd, Int.reduceNeg, Sat.look hs, Sat.lookA hs]) | (refine khK he hs ?_; clear he; intro he) | ((first | refine stK hs ?_ | refine stFK hs ?_ | refine stAK hs ?_ | refine msK hs ?_); clear hs; (try clear w); rintro w hs; try simp only [cls] at hs) | ((first | refine al_ok hs ?_ | refine bx_ok hs ?_ | refine bsvK hs ?_ | refine bs1_ok hs ?_ | refine bs0_ok hs ?_); clear hs; (try clear w); rintro _ w hs; try simp only [cls] at hs)))
      exact ⟨(n, h, p, ba, bc, out), by rfl, by rfl, hh, hn, hp, hnil, by dsimp only; omega, heq, hs⟩
    obtain ⟨x, hxi⟩ : ∃ x, b[i]? = some x := ⟨_, List.getElem?_eq_getElem hlt⟩
    have hdrop : b.drop i = x :: b.drop (i + 1) := by
      rw [List.drop_eq_getElem_cons hlt]
      rw [List.getElem?_eq_getElem hlt] at hxi
      rw [Option.some.inj hxi]
    have has : a.isSome = true := hx.isSome (by rw [List.length_map]; omega)
    have f0 : oldO (.at w0) (adO a i) = some (.int .u8 (x.toNat : Int)) := hx i _ (by rw [List.getElem?_map, hxi]; rfl)
    have hx256 := x.toNat_lt
    have hp8 : 2 ^ h ≤ 256 := by
      have := Nat.pow_le_pow_right (n := 2) (by decide) (show h ≤ 8 by omega)
      omega
    have ho8 := or8 n x.toNat (by omega) (by omega)
    have hN : n * 256 + x.toNat < 2 ^ (h + 8) := by
      rw [Nat.pow_add]
      omega
    unfold bld at hs
    rw [hdrop] at heq
    unfold spgo at heq
    obtain ⟨N, hNd⟩ : ∃ N, N = n * 256 + x.toNat := ⟨_, rfl⟩
    rw [← hNd] at heq ho8 hN
    generalize hrest : dmap ds (spgo bits (b.drop (i + 1)) (N % 2 ^ ((h + 8) % bits)) ((h + 8) % bits)) = rest
    have heq2 : out ++ dmap ds (digs bits N (h + 8)) ++ rest = spreadL bits ds b := by
      rw [← heq, ← hrest]
      unfold dmap
      rw [List.map_append, List.append_assoc]
    have hp16 : 2 ^ (h + 8) ≤ 65536 := by
      have := Nat.pow_le_pow_right (n := 2) (by decide) (show h + 8 ≤ 16 by omega)
      omega
    have hone := one_shl bits (by omega)
    have hwp := wrap_p bits (by omega)
    obtain ⟨hpb1, hpb2⟩ := pow_le8 (b := bits) (by omega)
    (repeat (first | (simp (disch := first | omega | assumption | exact Option.isSome_some | (simp only [adO_isSome]; assumption)) only [↓vcp, vcs, vct, if_true, if_false, Nat.reduceBEq, ↓reduceIte, Nat.reduceEqDiff, Nat.reduceAdd, Nat.reduceMul, Nat.reduceSub, Int.reduceToNat, reduceCtorEq, Nat.reduceLT, Nat.reduceLeDiff, Int.reduceSub, Int.reduceAdd, Int.reduceNeg, Sat.look hs, Sat.lookA hs, hs.old f0, ho8]) | (refine khK he hs ?_; clear he; intro he) | ((first | refine stK hs ?_ | refine stFK hs ?_ | refine stAK hs ?_ | refine msK hs ?_); clear hs; (try clear w); rintro w hs; try simp only [cls] at hs) | ((first | refine al_ok hs ?_ | refine bx_ok hs ?_ | refine bsvK hs ?_ | refine bs1_ok hs ?_ | refine bs0_ok hs ?_); clear hs; (try clear w); rintro _ w hs; try simp only [cls] at hs)))
    refine loop_join (σ := Nat × Option Addr × Option Addr × Nat × List UInt8) 2 [9] (fun s => [.int .i64 s.1]) [0, 1, 2, 7, 8, 12, 13, 14] (fun s w' => s.1 < bits ∧ s.1 = (h + 8) % bits ∧ (s.2.1 = none ∨ s.2.1 = some ⟨bb, 0, none⟩) ∧ (s.2.2.2.2 = [] → s.2.2.1 = none ∧ s.2.2.2.1 = 0) ∧ s.2.2.2.2.length ≤ 16 * (i + 1) ∧ s.2.2.2.2 ++ rest = spreadL bits ds b ∧ VC.Sat (.at w0) (bld bb s.2.1 s.2.2.1 s.2.2.2.1 s.2.2.2.2) w') ?_ ?_
    · refine loop_rule (σ := Nat × Option Addr × Option Addr × Nat × List UInt8) [9] (fun s => [.int .i64 s.1]) [0, 1, 2, 7, 8, 12, 13, 14] (fun s w' => s.1 ≤ h + 8 ∧ s.1 % bits = (h + 8) % bits ∧ (s.2.1 = none ∨ s.2.1 = some ⟨bb, 0, none⟩) ∧ (s.2.2.2.2 = [] → s.2.2.1 = none ∧ s.2.2.2.1 = 0) ∧ s.2.2.2.2.length + s.1 ≤ 16 * i + h + 8 ∧ s.2.2.2.2 ++ dmap ds (digs bits N s.1) ++ rest = spreadL bits ds b ∧ VC.Sat (.at w0) (bld bb s.2.1 s.2.2.1 s.2.2.2.1 s.2.2.2.2) w') (fun s _ => s.1) (h + 8, p, ba, bc, out) (by kernel_rfl) (by rfl) ⟨Nat.le_refl _, rfl, hp, hnil, by dsimp only; omega, heq2, hs⟩ ?_
      clear hs hp hnil hout heq heq2 f0
      rintro e ⟨k, p, ba, bc, out⟩ w ⟨hk, hkm, hp, hnil, hout, heq, hs⟩
      dsimp only at hk hkm hp hnil hout heq hs ⊢
      simp (disch := first | omega | assumption | exact Option.isSome_some | (simp only [adO_isSome]; assumption)) only [↓vcp, vcs, vct, if_true, if_false, Nat.reduceBEq, ↓reduceIte, Nat.reduceEqDiff, Nat.reduceAdd, Nat.reduceMul, Nat.reduceSub, Int.reduceToNat, reduceCtorEq, Nat.reduceLT, Nat.reduceLeDiff, Int.reduceSub, Int.reduceAdd, Int.reduceNeg, Sat.look hs, Sat.lookA hs]
      by_cases hkb : bits ≤ k
      case neg =>
        rw [digs_nil (by omega)] at heq
        (repeat (first | (simp (disch := first | omega | assumption | exact Option.isSome_some | (simp only [adO_isSome]; assumption)) only [↓vcp, vcs, vct, if_true, if_false, Nat.reduceBEq, ↓reduceIte, Nat.reduceEqDiff, Nat.reduceAdd, Nat.reduceMul, Nat.reduceSub, Int.reduceToNat, reduceCtorEq, Nat.reduceLT, Nat.reduceLeDiff, Int.reduceSub, Int.reduceAdd, Int.reduceNeg, Sat.look hs, Sat.lookA hs]) | (refine khK he hs ?_; clear he; intro he) | ((first | refine stK hs ?_ | refine stFK hs ?_ | refine stAK hs ?_ | refine msK hs ?_); clear hs; (try clear w); rintro w hs; try simp only [cls] at hs) | ((first | refine al_ok hs ?_ | refine bx_ok hs ?_ | refine bsvK hs ?_ | refine bs1_ok hs ?_ | refine bs0_ok hs ?_); clear hs; (try clear w); rintro _ w hs; try simp only [cls] at hs)))
        refine ⟨(k, p, ba, bc, out), by rfl, by rfl, by dsimp only; omega, ?_, hp, hnil, by dsimp only; omega, ?_, hs⟩
        · dsimp only
          rw [← hkm, Nat.mod_eq_of_lt (by omega)]
        · simpa [dmap] using heq
      rw [digs_cons hb0 hkb] at heq
      have hsub : (k : Int) - (bits : Int) = ((k - bits : Nat) : Int) := by omega
      have hshr : Shr .i64 (N : Int) ((k - bits : Nat) : Int) = ((N / 2 ^ (k - bits) : Nat) : Int) := Shr_u .i64 _ _ (by rw [bitsi64]; omega)
      have hdN : N / 2 ^ (k - bits) ≤ N := Nat.div_le_self _ _
      have hmask := mask (N / 2 ^ (k - bits)) bits (by omega) (by omega)
      have hdl : N / 2 ^ (k - bits) % 2 ^ bits < ds.length := by rw [hds]; exact Nat.mod_lt _ (by omega)
      generalize N / 2 ^ (k - bits) % 2 ^ bits = dg at *
      have hbt : bt ⟨ds.toArray⟩ dg = ((ds.getD dg 0).toNat : Int) := by
        rw [bt_list ds dg hdl]
        simp [List.getD, List.getElem?_eq_getElem hdl]
      have hdz : dg < (ByteArray.mk ds.toArray).size := by rw [ba_size]; exact hdl
      (repeat (first | (simp (disch := first | omega | assumption | exact Option.isSome_some | (simp only [adO_isSome]; assumption)) only [↓vcp, vcs, vct, if_true, if_false, Nat.reduceBEq, ↓reduceIte, Nat.reduceEqDiff, Nat.reduceAdd, Nat.reduceMul, Nat.reduceSub, Int.reduceToNat, reduceCtorEq, Nat.reduceLT, Nat.reduceLeDiff, Int.reduceSub, Int.reduceAdd, Int.reduceNeg, Sat.look hs, Sat.lookA hs]) | (refine khK he hs ?_; clear he; intro he) | ((first | refine stK hs ?_ | refine stFK hs ?_ | refine stAK hs ?_ | refine msK hs ?_); clear hs; (try clear w); rintro w hs; try simp only [cls] at hs) | ((first | refine al_ok hs ?_ | refine bx_ok hs ?_ | refine bsvK hs ?_ | refine bs1_ok hs ?_ | refine bs0_ok hs ?_); clear hs; (try clear w); rintro _ w hs; try simp only [cls] at hs)))
      refine draw_still 11 (by kernel_rfl) (by kernel_rfl) (by kernel_rfl) ?_
      replace hs := Sat.drew hs; revert hs; generalize World.drew _ = w; intro hs
      (repeat (first | (simp (disch := first | omega | assumption | exact Option.isSome_some | (simp only [adO_isSome]; assumption)) only [↓vcp, vcs, vct, if_true, if_false, Nat.reduceBEq, ↓reduceIte, Nat.reduceEqDiff, Nat.reduceAdd, Nat.reduceMul, Nat.reduceSub, Int.reduceToNat, reduceCtorEq, Nat.reduceLT, Nat.reduceLeDiff, Int.reduceSub, Int.reduceAdd, Int.reduceNeg, Sat.look hs, Sat.lookA hs, hsub, hshr, hone, hwp, hmask, hbt]) | (refine khK he hs ?_; clear he; intro he) | ((first | refine stK hs ?_ | refine stFK hs ?_ | refine stAK hs ?_ | refine msK hs ?_); clear hs; (try clear w); rintro w hs; try simp only [cls] at hs) | ((first | refine al_ok hs ?_ | refine bx_ok hs ?_ | refine bsvK hs ?_ | refine bs1_ok hs ?_ | refine bs0_ok hs ?_); clear hs; (try clear w); rintro _ w hs; try simp only [cls] at hs)))
      refine call_ok (by kernel_rfl) (WriteByte_calls _ w bb p ba bc out (ds.getD dg 0) hs hp (by omega)) ?_; rintro e w2 ⟨a2, c2, rfl, hb⟩; rw [callK_ret]
      clear hs
      have hs := hb
      clear hb
      (try clear w); rename World => w
      (repeat (first | (simp (disch := first | omega | assumption | exact Option.isSome_some | (simp only [adO_isSome]; assumption)) only [↓vcp, vcs, vct, if_true, if_false, Nat.reduceBEq, ↓reduceIte, Nat.reduceEqDiff, Nat.reduceAdd, Nat.reduceMul, Nat.reduceSub, Int.reduceToNat, reduceCtorEq, Nat.reduceLT, Nat.reduceLeDiff, Int.reduceSub, Int.reduceAdd, Int.reduceNeg, Sat.look hs, Sat.lookA hs, hsub]) | (refine khK he hs ?_; clear he; intro he) | ((first | refine stK hs ?_ | refine stFK hs ?_ | refine stAK hs ?_ | refine msK hs ?_); clear hs; (try clear w); rintro w hs; try simp only [cls] at hs) | ((first | refine al_ok hs ?_ | refine bx_ok hs ?_ | refine bsvK hs ?_ | refine bs1_ok hs ?_ | refine bs0_ok hs ?_); clear hs; (try clear w); rintro _ w hs; try simp only [cls] at hs)))
      refine ⟨(k - bits, some ⟨bb, 0, none⟩, a2, c2, out ++ [ds.getD dg 0]), by rfl, by rfl, ⟨by dsimp only; omega, ?_, .inr rfl, (fun h => by simp at h), ?_, ?_, hs⟩, by dsimp only; omega⟩
      · dsimp only
        rw [← hkm]
        exact (Nat.mod_eq_sub_mod hkb).symm
      · dsimp only
        rw [List.length_append, List.length_singleton]
        omega
      · dsimp only
        rw [← heq]
        simp [dmap]
    · clear hs hp hnil hout heq heq2 f0
      rintro e ⟨k, p, ba, bc, out⟩ w ⟨hk, hkm, hp, hnil, hout, heq, hs⟩
      dsimp only at hk hkm hp hnil hout heq hs ⊢
      have hone2 := one_shl k (by omega)
      have hwp2 := wrap_p k (by omega)
      have hmask2 := mask N k (by omega) (by omega)
      (repeat (first | (simp (disch := first | omega | assumption | exact Option.isSome_some | (simp only [adO_isSome]; assumption)) only [↓vcp, vcs, vct, if_true, if_false, Nat.reduceBEq, ↓reduceIte, Nat.reduceEqDiff, Nat.reduceAdd, Nat.reduceMul, Nat.reduceSub, Int.reduceToNat, reduceCtorEq, Nat.reduceLT, Nat.reduceLeDiff, Int.reduceSub, Int.reduceAdd, Int.reduceNeg, Sat.look hs, Sat.lookA hs, hone2, hwp2, hmask2]) | (refine khK he hs ?_; clear he; intro he) | ((first | refine stK hs ?_ | refine stFK hs ?_ | refine stAK hs ?_ | refine msK hs ?_); clear hs; (try clear w); rintro w hs; try simp only [cls] at hs) | ((first | refine al_ok hs ?_ | refine bx_ok hs ?_ | refine bsvK hs ?_ | refine bs1_ok hs ?_ | refine bs0_ok hs ?_); clear hs; (try clear w); rintro _ w hs; try simp only [cls] at hs)))
      refine ⟨(i + 1, N % 2 ^ k, k, p, ba, bc, out), by rfl, by rfl, ⟨by dsimp only; omega, hk, Nat.mod_lt _ (by have := (pow_le8 (b := k) (by omega)).1; omega), hp, hnil, hout, ?_, hs⟩, by dsimp only; omega⟩
      dsimp only
      rw [← hrest, ← hkm] at heq
      exact heq
  · clear hs
    rintro e ⟨n, h, p, ba, bc, out⟩ w ⟨hh, hn, hp, hnil, hout, heq, hs⟩
    dsimp only at hh hn hp hnil hout heq hs ⊢
    by_cases h0 : 0 < h
    · have heq2 : out ++ [ds.getD (n * 2 ^ (bits - h)) 0] = spreadL bits ds b := by
        rw [← heq]
        unfold spgo dmap
        rw [if_pos h0]
        rfl
      have hdl : n * 2 ^ (bits - h) < ds.length := by
        rw [hds]
        have e : 2 ^ bits = 2 ^ h * 2 ^ (bits - h) := by rw [← Nat.pow_add]; congr 1; omega
        rw [e]
        exact Nat.mul_lt_mul_of_pos_right hn (by have := (pow_le8 (b := bits - h) (by omega)).1; omega)
      obtain ⟨hpb1, hpb2⟩ := pow_le8 (b := bits) (by omega)
      have hsub : (bits : Int) - (h : Int) = ((bits - h : Nat) : Int) := by omega
      have hshl := Shl_i n (bits - h) (by omega) (by omega)
      generalize n * 2 ^ (bits - h) = dg at *
      have hbt : bt ⟨ds.toArray⟩ dg = ((ds.getD dg 0).toNat : Int) := by
        rw [bt_list ds dg hdl]
        simp [List.getD, List.getElem?_eq_getElem hdl]
      have hdz : dg < (ByteArray.mk ds.toArray).size := by rw [ba_size]; exact hdl
      (repeat (first | (simp (disch := first | omega | assumption | exact Option.isSome_some | (simp only [adO_isSome]; assumption)) only [↓vcp, vcs, vct, if_true, if_false, Nat.reduceBEq, ↓reduceIte, Nat.reduceEqDiff, Nat.reduceAdd, Nat.reduceMul, Nat.reduceSub, Int.reduceToNat, reduceCtorEq, Nat.reduceLT, Nat.reduceLeDiff, Int.reduceSub, Int.reduceAdd, Int.reduceNeg, Sat.look hs, Sat.lookA hs, hsub, hshl, hbt]) | (refine khK he hs ?_; clear he; intro he) | ((first | refine stK hs ?_ | refine stFK hs ?_ | refine stAK hs ?_ | refine msK hs ?_); clear hs; (try clear w); rintro w hs; try simp only [cls] at hs) | ((first | refine al_ok hs ?_ | refine bx_ok hs ?_ | refine bsvK hs ?_ | refine bs1_ok hs ?_ | refine bs0_ok hs ?_); clear hs; (try clear w); rintro _ w hs; try simp only [cls] at hs)))
      refine call_ok (by kernel_rfl) (WriteByte_calls _ w bb p ba bc out (ds.getD dg 0) hs hp (by omega)) ?_; rintro e w2 ⟨a2, c2, rfl, hb⟩; rw [callK_ret]
      clear hs
      have hs := hb
      clear hb
      (try clear w); rename World => w
      rw [heq2] at hs
      (repeat (first | (simp (disch := first | omega | assumption | exact Option.isSome_some | (simp only [adO_isSome]; assumption)) only [↓vcp, vcs, vct, if_true, if_false, Nat.reduceBEq, ↓reduceIte, Nat.reduceEqDiff, Nat.reduceAdd, Nat.reduceMul, Nat.reduceSub, Int.reduceToNat, reduceCtorEq, Nat.reduceLT, Nat.reduceLeDiff, Int.reduceSub, Int.reduceAdd, Int.reduceNeg, Sat.look hs, Sat.lookA hs]) | (refine khK he hs ?_; clear he; intro he) | ((first | refine stK hs ?_ | refine stFK hs ?_ | refine stAK hs ?_ | refine msK hs ?_); clear hs; (try clear w); rintro w hs; try simp only [cls] at hs) | ((first | refine al_ok hs ?_ | refine bx_ok hs ?_ | refine bsvK hs ?_ | refine bs1_ok hs ?_ | refine bs0_ok hs ?_); clear hs; (try clear w); rintro _ w hs; try simp only [cls] at hs)))
      refine call_ok (by kernel_rfl) (String_calls _ w bb _ a2 c2 (spreadL bits ds b) hs (fun h => by rw [h] at heq2; simp at heq2) (by rw [← heq2, List.length_append, List.length_singleton]; omega)) ?_
      rintro _ w2 ⟨rfl, hb⟩
      rw [callK_ret]
      clear hs
      have hs := hb
      clear hb
      (repeat (first | (simp (disch := first | omega | assumption | exact Option.isSome_some | (simp only [adO_isSome]; assumption)) only [↓vcp, vcs, vct, if_true, if_false, Nat.reduceBEq, ↓reduceIte, Nat.reduceEqDiff, Nat.reduceAdd, Nat.reduceMul, Nat.reduceSub, Int.reduceToNat, reduceCtorEq, Nat.reduceLT, Nat.reduceLeDiff, Int.reduceSub, Int.reduceAdd, Int.reduceNeg, Sat.look hs, Sat.lookA hs]) | (refine khK he hs ?_; clear he; intro he) | ((first | refine stK hs ?_ | refine stFK hs ?_ | refine stAK hs ?_ | refine msK hs ?_); clear hs; (try clear w); rintro w hs; try simp only [cls] at hs) | ((first | refine al_ok hs ?_ | refine bx_ok hs ?_ | refine bsvK hs ?_ | refine bs1_ok hs ?_ | refine bs0_ok hs ?_); clear hs; (try clear w); rintro _ w hs; try simp only [cls] at hs)))
      exact ret_tmp rfl (hR _ _ ⟨rfl, hs.belowAt⟩)
    · have heq2 : out = spreadL bits ds b := by
        rw [← heq]
        unfold spgo dmap
        rw [if_neg h0]
        simp
      rw [heq2] at hs hnil hout
      (repeat (first | (simp (disch := first | omega | assumption | exact Option.isSome_some | (simp only [adO_isSome]; assumption)) only [↓vcp, vcs, vct, if_true, if_false, Nat.reduceBEq, ↓reduceIte, Nat.reduceEqDiff, Nat.reduceAdd, Nat.reduceMul, Nat.reduceSub, Int.reduceToNat, reduceCtorEq, Nat.reduceLT, Nat.reduceLeDiff, Int.reduceSub, Int.reduceAdd, Int.reduceNeg, Sat.look hs, Sat.lookA hs]) | (refine khK he hs ?_; clear he; intro he) | ((first | refine stK hs ?_ | refine stFK hs ?_ | refine stAK hs ?_ | refine msK hs ?_); clear hs; (try clear w); rintro w hs; try simp only [cls] at hs) | ((first | refine al_ok hs ?_ | refine bx_ok hs ?_ | refine bsvK hs ?_ | refine bs1_ok hs ?_ | refine bs0_ok hs ?_); clear hs; (try clear w); rintro _ w hs; try simp only [cls] at hs)))
      refine call_ok (by kernel_rfl) (String_calls _ w bb p ba bc (spreadL bits ds b) hs hnil (by omega)) ?_
      rintro _ w2 ⟨rfl, hb⟩
      rw [callK_ret]
      clear hs
      have hs := hb
      clear hb
      (repeat (first | (simp (disch := first | omega | assumption | exact Option.isSome_some | (simp only [adO_isSome]; assumption)) only [↓vcp, vcs, vct, if_true, if_false, Nat.reduceBEq, ↓reduceIte, Nat.reduceEqDiff, Nat.reduceAdd, Nat.reduceMul, Nat.reduceSub, Int.reduceToNat, reduceCtorEq, Nat.reduceLT, Nat.reduceLeDiff, Int.reduceSub, Int.reduceAdd, Int.reduceNeg, Sat.look hs, Sat.lookA hs]) | (refine khK he hs ?_; clear he; intro he) | ((first | refine stK hs ?_ | refine stFK hs ?_ | refine stAK hs ?_ | refine msK hs ?_); clear hs; (try clear w); rintro w hs; try simp only [cls] at hs) | ((first | refine al_ok hs ?_ | refine bx_ok hs ?_ | refine bsvK hs ?_ | refine bs1_ok hs ?_ | refine bs0_ok hs ?_); clear hs; (try clear w); rintro _ w hs; try simp only [cls] at hs)))
      exact ret_tmp rfl (hR _ _ ⟨rfl, hs.belowAt⟩)
end Go.Proofs.YtokoohdpakhphaaDoor.Lnk
