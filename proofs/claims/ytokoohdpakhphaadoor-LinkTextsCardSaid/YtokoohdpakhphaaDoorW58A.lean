/- Several texts in one. -/
import Derived.Test.YtokoohdpakhphaaDoorStr
import Derived.ArgAppend
import Derived.Test.YtokoohdpakhphaaDoorLnkD
import Derived.Test.YtokoohdpakhphaaDoorB58A
import Derived.Test.YtokoohdpakhphaaDoorLnkGa
namespace Go.Proofs.YtokoohdpakhphaaDoor.VC
open Go Go.RowKit
set_option linter.unusedVariables false
/-- a block of c cells, none of which is frozen; the first hold xs -/
def RwH (w : World) (b c : Nat) (xs : List Value) (el : Nat) : Prop :=
  ∃ (cs : Array Value) (fr : Nat × Nat), w.heap[b]? = some (.cells cs el fr) ∧ (fr = (0, 0) ∨ cs.size ≤ fr.1) ∧ c ≤ maxLen ∧ cs.size = c ∧ xs.length ≤ c ∧ cs.toList.take xs.length = xs
def Ck.rw (b c : Nat) (xs : List Value) (el : Nat) : Ck := .pr (fun k => k = b) (fun w => RwH w b c xs el)
section
variable {q : Md} {S : Cx} {H : List Ck} {w : World} {P : Program} {K : Value → World → Prop} {pan : List PanicEntry → World → Prop} {t el by' : Nat} {z : Value}
theorem RwH.ck {b c : Nat} {xs : List Value} (h : RwH w b c xs el) : (Ck.rw b c xs el).holds w := fun w' hk => by
  obtain ⟨cs, fr, h1, h2⟩ := h
  exact ⟨cs, fr, by rw [hk b rfl, h1], h2⟩
theorem RwH.lt {b c : Nat} {xs : List Value} (h : RwH w b c xs el) : b < w.heap.size := by
  obtain ⟨cs, fr, h1, _⟩ := h
  exact (Array.getElem?_eq_some_iff.1 h1).1
theorem RwH.cell {b c : Nat} {xs : List Value} (h : RwH w b c xs el) (j : Nat) (u : Value) (hu : xs[j]? = some u) : w.cell? ⟨b, j, none⟩ = some u := by
  obtain ⟨cs, fr, h1, h2, h3, h4, h5, h6⟩ := h
  obtain ⟨hj, hju⟩ := List.getElem?_eq_some_iff.1 hu
  have : cs.toList[j]? = some u := by
    rw [← hu, ← h6, List.getElem?_take_of_lt hj]
  have e : cs[j]? = some u := by rw [← this]; simp
  simp [World.cell?, h1, e]
theorem Sat.rw (hs : Sat S H w) {i b c : Nat} {xs : List Value} (hi : H[i]? = some (Ck.rw b c xs el)) : RwH w b c xs el :=
  (hs.holds _ (List.mem_of_getElem? hi)) w fun _ _ => rfl
theorem Sat.rdRw (hs : Sat S H w) {i b c : Nat} {xs : List Value} (hi : H[i]? = some (Ck.rw b c xs el)) : Rd w w.heap.size (some ⟨b, 0, none⟩) xs := fun _ => by
  have h := hs.rw hi
  refine ⟨_, rfl, h.lt, fun j hj => ?_⟩
  have := h.cell j xs[j] (List.getElem?_eq_getElem hj)
  rw [Addr.add_lit, Nat.zero_add]
  exact this
/-- []byte(s) -/
theorem cvr_ok (hs : Sat S H w) {s : Nat} [h : TStr P s] [ht : TSl P t el 1 by'] [he : TInt P el .u8] (b : List UInt8) (hb : b.length ≤ maxLen)
    (hK : ∀ a c w', b.length ≤ c → Sat S (H ++ [Ck.rw a c (b.map u8v) el]) w' → K (.slice (some ⟨a, 0, none⟩) b.length c) w') : runS .ord P (convert s t (.string ⟨b.toArray⟩)) K pan w := by
  rw [runS_ok (run_bytes_of_string w s t el ⟨b.toArray⟩ h.u ht.u he.u)]
  have e : (ByteArray.mk b.toArray).size = b.length := by simp [ByteArray.size]
  have hm := grownCap_le_maxLen w (ByteArray.mk b.toArray).size 0 el (by rw [e]; exact hb)
  have hc := grownCap_ge w (ByteArray.mk b.toArray).size 0 el
  generalize hg : grownCap w (ByteArray.mk b.toArray).size 0 el = c at *
  rw [e] at hc
  have hl : (bytesRow ⟨b.toArray⟩ c) = (b.map u8v ++ List.replicate (c - b.length) (Value.int .u8 0)).toArray := by
    unfold bytesRow
    apply Array.toList_inj.1
    simp [ByteArray.size]
    exact fun _ _ => rfl
  have hsz : (b.map u8v ++ List.replicate (c - b.length) (Value.int .u8 0)).toArray.size = (b.map u8v ++ List.replicate (c - b.length) (Value.int .u8 0) : List Value).length := by simp
  have hlen : (b.map u8v ++ List.replicate (c - b.length) (Value.int .u8 0) : List Value).length = c := by simp; omega
  rw [hl, hsz, e]
  refine hK _ c _ hc (hs.drew.add (local0 rfl rfl rfl (by simp) (fun k hk => Below.heap_alloc w.drew _ k hk) (RwH.ck ⟨_, _, heap_alloc_new w.drew _, .inr ?_, hm, ?_, ?_, ?_⟩) (fun k hk => by have : k = w.drew.heap.size := hk; subst this; simp)))
  · rw [hlen]; simp; omega
  · rw [hsz, hlen]
  · simp; omega
  · show List.take _ (b.map u8v ++ _) = _
    exact List.take_left' rfl
/-- s[:i] -/
theorem m_sliceStrTo [h : TStr P t] (b : List UInt8) (k : IntKind) (i : Int) (h0 : 0 ≤ i) (h1 : i ≤ b.length) : runS q P (Instr.sliceAt t (.string ⟨b.toArray⟩) none (some (.int k i)) none) K pan w = K (.string ⟨(b.take i.toNat).toArray⟩) w := runS_pure fun w => by
  have e : (ByteArray.mk b.toArray).size = b.length := by simp [ByteArray.size]
  have hx : (ByteArray.mk b.toArray).extract 0 i.toNat = ⟨(b.take i.toNat).toArray⟩ := by
    apply ByteArray.ext
    rw [ByteArray.data_extract]
    apply Array.toList_inj.1
    simp [List.extract]
  have := run_slice_string_h (P := P) (w := w) (t := t) (s := ⟨b.toArray⟩) h.u k i h0 (by rw [e]; exact h1)
  rw [hx] at this
  simpa [Instr.sliceAt, run_underlying h.u] using this
/-- append of one to such a row -/
theorem apr_ok (hs : Sat S H w) {ty : Nat} [h : TSl P t el 1 by'] [hz : TZero P el z] {A : Option Addr} {b n cp d B i : Nat} {xs : List Value} {u : Value} (hi : H[i]? = some (Ck.rw b cp xs el)) (hzs : z.cells.size = 1)
    (hn : xs.length = n) (hr : Rd w B A [u]) (h1 : u.oneCell' = true) (hb : (n + 1) * by' ≤ 140737488355328) (h63 : n + 1 ≤ maxLen)
    (hK : ∀ b' c' w', n + 1 ≤ c' → Sat S (H.set i (Ck.rw b' c' (xs ++ [u]) el)) w' → K (.slice (some ⟨b', 0, none⟩) (n + 1) c') w') : runS .ord P (Builtin.append_ #[t, t] ty #[.slice (some ⟨b, 0, none⟩) n cp, .slice A 1 d]) K pan w := by
  have hh := hs.rw hi
  obtain ⟨inf, hinf, hiz, his, hib⟩ := TSl.info h hz
  obtain ⟨ad, rfl, _, hc⟩ := hr (by simp)
  have hnews : ∀ j v, [u][j]? = some v → w.cell? (ad.add j) = some v := by
    intro j v hv
    obtain ⟨hj, hju⟩ := List.getElem?_eq_some_iff.1 hv
    rw [hc j hj, hju]
  have h1' : ∀ v ∈ [u], v.oneCell' = true := fun v hv => by rw [List.mem_singleton.1 hv]; exact h1
  by_cases hroom : n + 1 ≤ cp
  · obtain ⟨cs, fr, g1, g2, g3, g4, g5, g6⟩ := hh
    have hsome : cs[n]? = some cs[n] := Array.getElem?_eq_getElem (by omega)
    have hrun := run_append_room_cells (P := P) w t ty el inf h.u hinf b 0 n cp ad 1 d [u] (by rw [his]; rfl) hnews h1' hroom
      (fun j hj => by
        obtain rfl : j = 0 := by simpa using hj
        rw [his, Nat.zero_add, Nat.mul_one, Nat.add_zero]
        simp [World.cell?, g1, hsome])
      (fun j hj => by
        obtain rfl : j = 0 := by simpa using hj
        rw [his, Nat.zero_add, Nat.mul_one, Nat.add_zero]
        rcases g2 with g2 | g2
        · simp [World.frozen?, g1, g2]
        · simp [World.frozen?, g1]
          omega)
    rw [his, Nat.zero_add, Nat.mul_one] at hrun
    rw [runS_ok hrun]
    have k1 := cells_block w n u g1
    refine hK b cp _ hroom (hs.upd1 i hi (local1 rfl rfl rfl (by simp [World.setCells, World.setCell]) (fun k hk hnf => Below.heap_setCell w ⟨b, n, none⟩ u k (fun e => hnf e)) (RwH.ck ⟨_, fr, k1, ?_, g3, ?_, ?_, ?_⟩) (fun k hk => ?_)))
    · rcases g2 with g2 | g2
      · exact .inl g2
      · right; simp; omega
    · simp; omega
    · simp; omega
    · rw [List.length_append, List.length_singleton, Array.toList_setIfInBounds, List.take_set, hn]
      have e : cs.toList.take (n + 1) = xs ++ [cs[n]] := by
        have g7 : cs.toList.take n = xs := by rw [← hn]; exact g6
        rw [List.take_succ_eq_append_getElem (by simp; omega), g7]
        simp
      rw [e, List.set_append_right _ _ (by omega), hn, Nat.sub_self]
      rfl
    · have : k = b := hk
      subst this
      exact ⟨(Array.getElem?_eq_some_iff.1 k1).1, fun _ => rfl⟩
  · obtain ⟨v', w', hrun, h2, h3⟩ := run_append_arg_grows (P := P) w t ty el inf z 1 by' h.u hinf hiz his hib hzs (by omega) ⟨b, 0, none⟩ n cp xs (by omega) (fun j u hu => by
      have := hh.cell j u hu
      rw [Addr.add_lit, Nat.zero_add]; exact this) ad 1 d [u] (by simp) hnews (by omega) h63 hb
    have hform : ∃ g c', v' = .slice (some ⟨g, 0, none⟩) (n + 1) c' ∧ n + 1 ≤ c' ∧ RwH w' g c' (xs ++ [u]) el ∧ w.heap.size ≤ g := by
      rcases h2.2 with ⟨rfl, hx⟩ | ⟨g, cap, cur, rfl, q1, q2, q3, q4, q5, q6⟩
      · omega
      · refine ⟨g, cap, rfl, q3, ⟨cur, (0, 0), q2, .inl rfl, q4, by rw [q5, Nat.mul_one], by simp; omega, ?_⟩, q1⟩
        rw [List.length_append, List.length_singleton, hn]
        rw [Nat.mul_one] at q6
        exact q6
    obtain ⟨g, c', rfl, f1, f2, f3⟩ := hform
    rw [runS_ok hrun]
    refine hK g c' w' f1 (hs.upd1 i hi (local1 h3.os h3.tape h3.output h3.size (fun k hk hnf => h3.block k hk (by simp)) f2.ck fun k hk => ?_))
    have : k = g := hk
    subst this
    exact ⟨f2.lt, fun hlt => by omega⟩
end
end Go.Proofs.YtokoohdpakhphaaDoor.VC
namespace Go.Proofs.YtokoohdpakhphaaDoor.Lnk
open Go VC Go.RowKit
set_option linter.unusedSimpArgs false
set_option linter.unusedVariables false
set_option maxRecDepth 20000
set_option maxHeartbeats 4000000
/-- a number as a cell -/
def i64n (n : Nat) : Value := .int .i64 n
theorem i64n_get {ps : List Nat} {k p : Nat} (h : ps[k]? = some p) : (ps.map i64n)[k]? = some (.int .i64 (p : Int)) := by rw [List.getElem?_map, h]; rfl
theorem oneN (ps : List Nat) : (ps.map i64n).all (·.oneCell') = true := by simp [i64n, Value.oneCell']
theorem Repeat0_calls (w : World) (s : List UInt8) : Calls Tryd.prog 58 #[.string ⟨s.toArray⟩, .int .i64 0] w fun e w' => e = .returned (.string ⟨[].toArray⟩) ∧ w = w' := by
  refine calls_vc Tryd.func58 rfl (by kernel_rfl) (by kernel_rfl) ?_; intro R hR
  have hs := Sat.start w
  (repeat (first | (simp (disch := first | omega | assumption | exact Option.isSome_some | (simp only [adO_isSome]; assumption)) only [↓vcp, vcs, vct, if_true, if_false, Nat.reduceBEq, ↓reduceIte, Nat.reduceEqDiff, Nat.reduceAdd, Nat.reduceMul, Nat.reduceSub, Int.reduceToNat, reduceCtorEq, Nat.reduceLT, Nat.reduceLeDiff, Int.reduceSub, Int.reduceAdd, Int.reduceNeg, Sat.look hs, Sat.lookA hs]) | (refine khK he hs ?_; clear he; intro he) | ((first | refine stK hs ?_ | refine stFK hs ?_ | refine stAK hs ?_ | refine msK hs ?_); clear hs; (try clear w); rintro w hs; try simp only [cls] at hs) | ((first | refine al_ok hs ?_ | refine bx_ok hs ?_ | refine bsvK hs ?_ | refine bs1_ok hs ?_ | refine bs0_ok hs ?_); clear hs; (try clear w); rintro _ w hs; try simp only [cls] at hs)))
  exact ret_tmp rfl (hR _ _ ⟨rfl, rfl⟩)
theorem adv_set {b m c : Nat} {cur : List Nat} {k p : Nat} (hk : cur[k]? = some p) :
    (cur.set k ((c + p * m) % b)).take (k + 1) ++ adv b m ((cur.set k ((c + p * m) % b)).drop (k + 1)) ((c + p * m) / b) = cur.take k ++ adv b m (cur.drop k) c := by
  obtain ⟨hl, he⟩ := List.getElem?_eq_some_iff.1 hk
  have e1 : cur.drop k = p :: cur.drop (k + 1) := by rw [List.drop_eq_getElem_cons hl, he]
  have e2 : (cur.set k ((c + p * m) % b)).drop (k + 1) = cur.drop (k + 1) := by rw [List.drop_set_of_lt (by omega)]
  have e3 : (cur.set k ((c + p * m) % b)).take (k + 1) = cur.take k ++ [(c + p * m) % b] := by
    rw [List.take_succ_eq_append_getElem (by simpa using hl), List.take_set_of_le (Nat.le_refl k)]
    simp
  rw [e1, e2, e3]
  show _ = cur.take k ++ ((c + p * m) % b :: adv b m (cur.drop (k + 1)) ((c + p * m) / b))
  rw [List.append_assoc]
  rfl
theorem inBase58_calls (w0 : World) (a : Option Addr) (c : Nat) (b : List UInt8) (hx : Ro (.at w0) a (b.map u8v)) (hc : b.length ≤ c) (hl : b.length ≤ 1048576) (h0 : b.head? ≠ some 0) :
    Calls Tryd.prog 35 #[.slice a b.length c] w0 fun e w' => e = .returned (.string ⟨(enc58 b).toArray⟩) ∧ Below w0.heap.size w0 w' := by
  refine calls_vc Tryd.func35 rfl (by kernel_rfl) (by kernel_rfl) ?_; intro R hR
  have hs := Sat.start w0
  (repeat (first | (simp (disch := first | omega | assumption | exact Option.isSome_some | (simp only [adO_isSome]; assumption)) only [↓vcp, vcs, vct, if_true, if_false, Nat.reduceBEq, ↓reduceIte, Nat.reduceEqDiff, Nat.reduceAdd, Nat.reduceMul, Nat.reduceSub, Int.reduceToNat, reduceCtorEq, Nat.reduceLT, Nat.reduceLeDiff, Int.reduceSub, Int.reduceAdd, Int.reduceNeg, Sat.look hs, Sat.lookA hs]) | (refine khK he hs ?_; clear he; intro he) | ((first | refine stK hs ?_ | refine stFK hs ?_ | refine stAK hs ?_ | refine msK hs ?_); clear hs; (try clear w); rintro w hs; try simp only [cls] at hs) | ((first | refine al_ok hs ?_ | refine bx_ok hs ?_ | refine bsvK hs ?_ | refine bs1_ok hs ?_ | refine bs0_ok hs ?_); clear hs; (try clear w); rintro _ w hs; try simp only [cls] at hs)))
  replace hs := Sat.nil hs 3 1; try simp only [cls] at hs
  (repeat (first | (simp (disch := first | omega | assumption | exact Option.isSome_some | (simp only [adO_isSome]; assumption)) only [↓vcp, vcs, vct, if_true, if_false, Nat.reduceBEq, ↓reduceIte, Nat.reduceEqDiff, Nat.reduceAdd, Nat.reduceMul, Nat.reduceSub, Int.reduceToNat, reduceCtorEq, Nat.reduceLT, Nat.reduceLeDiff, Int.reduceSub, Int.reduceAdd, Int.reduceNeg, Sat.look hs, Sat.lookA hs]) | (refine khK he hs ?_; clear he; intro he) | ((first | refine stK hs ?_ | refine stFK hs ?_ | refine stAK hs ?_ | refine msK hs ?_); clear hs; (try clear w); rintro w hs; try simp only [cls] at hs) | ((first | refine al_ok hs ?_ | refine bx_ok hs ?_ | refine bsvK hs ?_ | refine bs1_ok hs ?_ | refine bs0_ok hs ?_); clear hs; (try clear w); rintro _ w hs; try simp only [cls] at hs)))
  refine loop_join (σ := Unit) 0 [] (fun _ => []) [0, 2, 3, 4] (fun _ w' => VC.Sat (.at w0) [.sl none 0 [] 3 1] w') ?_ ?_
  · refine loop_rule (σ := Unit) [] (fun _ => []) [0, 2, 3, 4] (fun _ w' => VC.Sat (.at w0) [.sl none 0 [] 3 1] w') (fun _ _ => 0) () (by kernel_rfl) rfl hs ?_
    clear hs
    rintro e _ w hs
    simp (disch := first | omega | assumption | exact Option.isSome_some | (simp only [adO_isSome]; assumption)) only [↓vcp, vcs, vct, if_true, if_false, Nat.reduceBEq, ↓reduceIte, Nat.reduceEqDiff, Nat.reduceAdd, Nat.reduceMul, Nat.reduceSub, Int.reduceToNat, reduceCtorEq, Nat.reduceLT, Nat.reduceLeDiff, Int.reduceSub, Int.reduceAdd, Int.reduceNeg, Sat.look hs, Sat.lookA hs]
    cases b with
    | nil =>
      (repeat (first | (simp (disch := first | omega | assumption | exact Option.isSome_some | (simp only [adO_isSome]; assumption)) only [↓vcp, vcs, vct, if_true, if_false, Nat.reduceBEq, ↓reduceIte, Nat.reduceEqDiff, Nat.reduceAdd, Nat.reduceMul, Nat.reduceSub, Int.reduceToNat, reduceCtorEq, Nat.reduceLT, Nat.reduceLeDiff, Int.reduceSub, Int.reduceAdd, Int.reduceNeg, Sat.look hs, Sat.lookA hs]) | (refine khK he hs ?_; clear he; intro he) | ((first | refine stK hs ?_ | refine stFK hs ?_ | refine stAK hs ?_ | refine msK hs ?_); clear hs; (try clear w); rintro w hs; try simp only [cls] at hs) | ((first | refine al_ok hs ?_ | refine bx_ok hs ?_ | refine bsvK hs ?_ | refine bs1_ok hs ?_ | refine bs0_ok hs ?_); clear hs; (try clear w); rintro _ w hs; try simp only [cls] at hs)))
      exact ⟨(), by rfl, by rfl, hs⟩
    | cons x xs =>
      have hx0 : x.toNat ≠ 0 := fun e => h0 (by rw [show x = 0 from UInt8.toNat_inj.1 e]; rfl)
      have has : a.isSome = true := hx.isSome (by simp)
      have f0 : oldO (.at w0) (adO a 0) = some (.int .u8 (x.toNat : Int)) := hx 0 _ rfl
      have f0' : oldO (.at w0) a = some (.int .u8 (x.toNat : Int)) := by rw [adO_0] at f0; exact f0
      (repeat (first | (simp (disch := first | omega | assumption | exact Option.isSome_some | (simp only [adO_isSome]; assumption)) only [↓vcp, vcs, vct, if_true, if_false, Nat.reduceBEq, ↓reduceIte, Nat.reduceEqDiff, Nat.reduceAdd, Nat.reduceMul, Nat.reduceSub, Int.reduceToNat, reduceCtorEq, Nat.reduceLT, Nat.reduceLeDiff, Int.reduceSub, Int.reduceAdd, Int.reduceNeg, Sat.look hs, Sat.lookA hs, hs.old f0, hs.old f0']) | (refine khK he hs ?_; clear he; intro he) | ((first | refine stK hs ?_ | refine stFK hs ?_ | refine stAK hs ?_ | refine msK hs ?_); clear hs; (try clear w); rintro w hs; try simp only [cls] at hs) | ((first | refine al_ok hs ?_ | refine bx_ok hs ?_ | refine bsvK hs ?_ | refine bs1_ok hs ?_ | refine bs0_ok hs ?_); clear hs; (try clear w); rintro _ w hs; try simp only [cls] at hs)))
      exact ⟨(), by rfl, by rfl, hs⟩
  · clear hs
    rintro e _ w hs
    have hA : Ro (.at w0) (cutA a 0 c 1) (b.map u8v) := by
      have h := hx.cut1 0 c (by rw [List.length_map]; exact hc)
      rwa [List.drop_zero] at h
    (repeat (first | (simp (disch := first | omega | assumption | exact Option.isSome_some | (simp only [adO_isSome]; assumption)) only [↓vcp, vcs, vct, if_true, if_false, Nat.reduceBEq, ↓reduceIte, Nat.reduceEqDiff, Nat.reduceAdd, Nat.reduceMul, Nat.reduceSub, Int.reduceToNat, reduceCtorEq, Nat.reduceLT, Nat.reduceLeDiff, Int.reduceSub, Int.reduceAdd, Int.reduceNeg, Sat.look hs, Sat.lookA hs]) | (refine khK he hs ?_; clear he; intro he) | ((first | refine stK hs ?_ | refine stFK hs ?_ | refine stAK hs ?_ | refine msK hs ?_); clear hs; (try clear w); rintro w hs; try simp only [cls] at hs) | ((first | refine al_ok hs ?_ | refine bx_ok hs ?_ | refine bsvK hs ?_ | refine bs1_ok hs ?_ | refine bs0_ok hs ?_); clear hs; (try clear w); rintro _ w hs; try simp only [cls] at hs)))
    rw [Nat.sub_zero, Nat.sub_zero]
    generalize cutA a 0 c 1 = A at *
    refine loop_join (σ := Option Addr × Nat) 2 [3] (fun s => [.slice s.1 (digs0 58 (valh 256 (nats b) 0)).length s.2]) [2, 4] (fun s w' => (digs0 58 (valh 256 (nats b) 0)).length ≤ s.2 ∧ VC.Sat (.at w0) [.sl s.1 s.2 ((digs0 58 (valh 256 (nats b) 0)).map i64n) 3 1] w') ?_ ?_
    · refine loop_rule (σ := Nat × Option Addr × Nat) [28, 3] (fun s => [.int .i64 s.1, .slice s.2.1 (digs0 58 (valh 256 (nats (b.take s.1)) 0)).length s.2.2]) [2, 4, 26, 27] (fun s w' => s.1 ≤ b.length ∧ (digs0 58 (valh 256 (nats (b.take s.1)) 0)).length ≤ s.2.2 ∧ VC.Sat (.at w0) [.sl s.2.1 s.2.2 ((digs0 58 (valh 256 (nats (b.take s.1)) 0)).map i64n) 3 1] w') (fun s _ => b.length - s.1) (0, none, 0) (by kernel_rfl) (by rw [List.take_zero, show nats [] = [] from rfl, show valh 256 [] 0 = 0 from rfl, digs0_zero]; rfl) ⟨by omega, by rw [List.take_zero, show nats [] = [] from rfl, show valh 256 [] 0 = 0 from rfl, digs0_zero]; exact Nat.le_refl _, by rw [List.take_zero, show nats [] = [] from rfl, show valh 256 [] 0 = 0 from rfl, digs0_zero]; exact hs⟩ ?_
      clear hs
      rintro e ⟨i, pa, pc⟩ w ⟨hi, hpc, hs⟩
      dsimp only at hi hpc hs ⊢
      simp (disch := first | omega | assumption | exact Option.isSome_some | (simp only [adO_isSome]; assumption)) only [↓vcp, vcs, vct, if_true, if_false, Nat.reduceBEq, ↓reduceIte, Nat.reduceEqDiff, Nat.reduceAdd, Nat.reduceMul, Nat.reduceSub, Int.reduceToNat, reduceCtorEq, Nat.reduceLT, Nat.reduceLeDiff, Int.reduceSub, Int.reduceAdd, Int.reduceNeg, Sat.look hs, Sat.lookA hs]
      by_cases hlt : i < b.length
      case neg =>
        obtain rfl : i = b.length := by omega
        rw [List.take_length] at hpc hs ⊢
        (repeat (first | (simp (disch := first | omega | assumption | exact Option.isSome_some | (simp only [adO_isSome]; assumption)) only [↓vcp, vcs, vct, if_true, if_false, Nat.reduceBEq, ↓reduceIte, Nat.reduceEqDiff, Nat.reduceAdd, Nat.reduceMul, Nat.reduceSub, Int.reduceToNat, reduceCtorEq, Nat.reduceLT, Nat.reduceLeDiff, Int.reduceSub, Int.reduceAdd, Int.reduceNeg, Sat.look hs, Sat.lookA hs]) | (refine khK he hs ?_; clear he; intro he) | ((first | refine stK hs ?_ | refine stFK hs ?_ | refine stAK hs ?_ | refine msK hs ?_); clear hs; (try clear w); rintro w hs; try simp only [cls] at hs) | ((first | refine al_ok hs ?_ | refine bx_ok hs ?_ | refine bsvK hs ?_ | refine bs1_ok hs ?_ | refine bs0_ok hs ?_); clear hs; (try clear w); rintro _ w hs; try simp only [cls] at hs)))
        exact ⟨(pa, pc), by rfl, by rfl, hpc, hs⟩
      obtain ⟨x, hxi⟩ : ∃ x, b[i]? = some x := ⟨_, List.getElem?_eq_getElem hlt⟩
      have hstep : digs0 58 (valh 256 (nats (b.take (i + 1))) 0) = adv 58 256 (digs0 58 (valh 256 (nats (b.take i)) 0)) x.toNat := by
        rw [adv_digs (by decide) (by decide)]
        congr 1
        have e : b.take (i + 1) = b.take i ++ [x] := by
          rw [List.take_add_one, hxi]
          rfl
        unfold nats
        rw [e, List.map_append, valh_app]
        rfl
      have hLl := len58 (b.take (i + 1))
      rw [List.length_take_of_le (by omega)] at hLl
      have hdl := digs0_lt (b := 58) (by decide) (valh 256 (nats (b.take i)) 0)
      have hLl0 := len58 (b.take i)
      rw [List.length_take_of_le (by omega)] at hLl0
      rw [hstep] at hLl
      generalize digs0 58 (valh 256 (nats (b.take i)) 0) = L at *
      have has : A.isSome = true := hA.isSome (by rw [List.length_map]; omega)
      have f0 : oldO (.at w0) (adO A i) = some (.int .u8 (x.toNat : Int)) := hA i _ (by rw [List.getElem?_map, hxi]; rfl)
      have hx256 := x.toNat_lt
      (repeat (first | (simp (disch := first | omega | assumption | exact Option.isSome_some | (simp only [adO_isSome]; assumption)) only [↓vcp, vcs, vct, if_true, if_false, Nat.reduceBEq, ↓reduceIte, Nat.reduceEqDiff, Nat.reduceAdd, Nat.reduceMul, Nat.reduceSub, Int.reduceToNat, reduceCtorEq, Nat.reduceLT, Nat.reduceLeDiff, Int.reduceSub, Int.reduceAdd, Int.reduceNeg, Sat.look hs, Sat.lookA hs, hs.old f0]) | (refine khK he hs ?_; clear he; intro he) | ((first | refine stK hs ?_ | refine stFK hs ?_ | refine stAK hs ?_ | refine msK hs ?_); clear hs; (try clear w); rintro w hs; try simp only [cls] at hs) | ((first | refine al_ok hs ?_ | refine bx_ok hs ?_ | refine bsvK hs ?_ | refine bs1_ok hs ?_ | refine bs0_ok hs ?_); clear hs; (try clear w); rintro _ w hs; try simp only [cls] at hs)))
      generalize hT : adv 58 256 L x.toNat = T at *
      refine loop_join (σ := Nat × List Nat) 4 [7] (fun s => [.int .i64 s.1]) [2, 3, 4, 26, 27, 28] (fun s w' => s.1 ≤ 256 ∧ s.2.length = L.length ∧ s.2 ++ digs0 58 s.1 = T ∧ VC.Sat (.at w0) [.sl pa pc (s.2.map i64n) 3 1] w') ?_ ?_
      · refine loop_rule (σ := Nat × Nat × List Nat) [36, 7] (fun s => [.int .i64 s.1, .int .i64 s.2.1]) [2, 3, 4, 26, 27, 28, 35] (fun s w' => s.1 ≤ L.length ∧ s.2.1 ≤ 256 ∧ s.2.2.length = L.length ∧ (∀ p ∈ s.2.2, p < 58) ∧ s.2.2.take s.1 ++ adv 58 256 (s.2.2.drop s.1) s.2.1 = T ∧ VC.Sat (.at w0) [.sl pa pc (s.2.2.map i64n) 3 1] w') (fun s _ => L.length - s.1) (0, x.toNat, L) (by kernel_rfl) (by rfl) ⟨Nat.zero_le _, by dsimp only; omega, rfl, hdl, hT, hs⟩ ?_
        clear hs
        rintro e ⟨k, cy, cur⟩ w ⟨hk, hcy, hcl, hcd, heq, hs⟩
        dsimp only at hk hcy hcl hcd heq hs ⊢
        simp (disch := first | omega | assumption | exact Option.isSome_some | (simp only [adO_isSome]; assumption)) only [↓vcp, vcs, vct, if_true, if_false, Nat.reduceBEq, ↓reduceIte, Nat.reduceEqDiff, Nat.reduceAdd, Nat.reduceMul, Nat.reduceSub, Int.reduceToNat, reduceCtorEq, Nat.reduceLT, Nat.reduceLeDiff, Int.reduceSub, Int.reduceAdd, Int.reduceNeg, Sat.look hs, Sat.lookA hs]
        by_cases hkl : k < L.length
        case neg =>
          obtain rfl : k = L.length := by omega
          rw [← hcl, List.take_length, List.drop_length] at heq
          (repeat (first | (simp (disch := first | omega | assumption | exact Option.isSome_some | (simp only [adO_isSome]; assumption)) only [↓vcp, vcs, vct, if_true, if_false, Nat.reduceBEq, ↓reduceIte, Nat.reduceEqDiff, Nat.reduceAdd, Nat.reduceMul, Nat.reduceSub, Int.reduceToNat, reduceCtorEq, Nat.reduceLT, Nat.reduceLeDiff, Int.reduceSub, Int.reduceAdd, Int.reduceNeg, Sat.look hs, Sat.lookA hs]) | (refine khK he hs ?_; clear he; intro he) | ((first | refine stK hs ?_ | refine stFK hs ?_ | refine stAK hs ?_ | refine msK hs ?_); clear hs; (try clear w); rintro w hs; try simp only [cls] at hs) | ((first | refine al_ok hs ?_ | refine bx_ok hs ?_ | refine bsvK hs ?_ | refine bs1_ok hs ?_ | refine bs0_ok hs ?_); clear hs; (try clear w); rintro _ w hs; try simp only [cls] at hs)))
          exact ⟨(cy, cur), by rfl, by rfl, hcy, hcl, heq, hs⟩
        obtain ⟨p, hp⟩ : ∃ p, cur[k]? = some p := ⟨_, List.getElem?_eq_getElem (by omega)⟩
        have hp58 := hcd p (List.mem_of_getElem? hp)
        have hg := i64n_get hp
        have hgl : (cur.map i64n).length = L.length := by rw [List.length_map, hcl]
        have hshl : Shl .i64 (p : Int) 8 = ((p * 256 : Nat) : Int) := Shl_i p 8 (by omega) (by omega)
        have hadv := adv_set (b := 58) (m := 256) (c := cy) hp
        have hadd : (cy : Int) + ((p * 256 : Nat) : Int) = ((cy + p * 256 : Nat) : Int) := by omega
        have hN : cy + p * 256 ≤ 15104 := by omega
        generalize cy + p * 256 = N at *
        have hps : pa.isSome = true := hs.isSome (a := pa) (xs := cur.map i64n) (by rw [hgl]; omega)
        (repeat (first | (simp (disch := first | omega | assumption | exact Option.isSome_some | (simp only [adO_isSome]; assumption)) only [↓vcp, vcs, vct, if_true, if_false, Nat.reduceBEq, ↓reduceIte, Nat.reduceEqDiff, Nat.reduceAdd, Nat.reduceMul, Nat.reduceSub, Int.reduceToNat, reduceCtorEq, Nat.reduceLT, Nat.reduceLeDiff, Int.reduceSub, Int.reduceAdd, Int.reduceNeg, Sat.look hs, Sat.lookA hs, hg, hshl, hadd, tmod_lit, tdiv_lit]) | (refine khK he hs ?_; clear he; intro he) | ((first | refine stK hs ?_ | refine stFK hs ?_ | refine stAK hs ?_ | refine msK hs ?_); clear hs; (try clear w); rintro w hs; try simp only [cls] at hs; try simp only [hgl] at hs) | ((first | refine al_ok hs ?_ | refine bx_ok hs ?_ | refine bsvK hs ?_ | refine bs1_ok hs ?_ | refine bs0_ok hs ?_); clear hs; (try clear w); rintro _ w hs; try simp only [cls] at hs; try simp only [hgl] at hs) | ((first | refine stK hs ?_ (by first | omega | (simp only [hgl, cells_bk, cells_sl, List.length_cons, List.length_nil, List.length_set, List.length_append, List.length_map, List.length_replicate, List.length_take, List.length_drop]; omega) | assumption | rfl) | refine stFK hs ?_ (by first | omega | (simp only [hgl, cells_bk, cells_sl, List.length_cons, List.length_nil, List.length_set, List.length_append, List.length_map, List.length_replicate, List.length_take, List.length_drop]; omega) | assumption | rfl) (by first | omega | (simp only [hgl, cells_bk, cells_sl, List.length_cons, List.length_nil, List.length_set, List.length_append, List.length_map, List.length_replicate, List.length_take, List.length_drop]; omega) | assumption | rfl) | refine stAK hs ?_ (by first | omega | (simp only [hgl, cells_bk, cells_sl, List.length_cons, List.length_nil, List.length_set, List.length_append, List.length_map, List.length_replicate, List.length_take, List.length_drop]; omega) | assumption | rfl) (by first | omega | (simp only [hgl, cells_bk, cells_sl, List.length_cons, List.length_nil, List.length_set, List.length_append, List.length_map, List.length_replicate, List.length_take, List.length_drop]; omega) | assumption | rfl) | refine msK hs ?_ (by first | omega | (simp only [hgl, cells_bk, cells_sl, List.length_cons, List.length_nil, List.length_set, List.length_append, List.length_map, List.length_replicate, List.length_take, List.length_drop]; omega) | assumption | rfl)); clear hs; (try clear w); rintro w hs; try simp only [cls] at hs; try simp only [hgl] at hs)))
        rw [show (cur.map i64n).set k (.int .i64 ((N % 58 : Nat) : Int)) = (cur.set k (N % 58)).map i64n by rw [List.map_set]; rfl] at hs
        refine ⟨(k + 1, N / 58, cur.set k (N % 58)), by rfl, by rfl, ⟨by dsimp only; omega, by dsimp only; omega, by dsimp only; rw [List.length_set]; exact hcl, fun q hq => ?_, ?_, hs⟩, by dsimp only; omega⟩
        · dsimp only at hq
          rcases List.mem_or_eq_of_mem_set hq with hq | rfl
          · exact hcd q hq
          · exact Nat.mod_lt _ (by omega)
        · dsimp only
          rw [hadv]
          exact heq
      · clear hs
        rintro e ⟨cy, cur⟩ w ⟨hcy, hcl, heq, hs⟩
        dsimp only at hcy hcl heq hs ⊢
        (repeat (first | (simp (disch := first | omega | assumption | exact Option.isSome_some | (simp only [adO_isSome]; assumption)) only [↓vcp, vcs, vct, if_true, if_false, Nat.reduceBEq, ↓reduceIte, Nat.reduceEqDiff, Nat.reduceAdd, Nat.reduceMul, Nat.reduceSub, Int.reduceToNat, reduceCtorEq, Nat.reduceLT, Nat.reduceLeDiff, Int.reduceSub, Int.reduceAdd, Int.reduceNeg, Sat.look hs, Sat.lookA hs]) | (refine khK he hs ?_; clear he; intro he) | ((first | refine stK hs ?_ | refine stFK hs ?_ | refine stAK hs ?_ | refine msK hs ?_); clear hs; (try clear w); rintro w hs; try simp only [cls] at hs) | ((first | refine al_ok hs ?_ | refine bx_ok hs ?_ | refine bsvK hs ?_ | refine bs1_ok hs ?_ | refine bs0_ok hs ?_); clear hs; (try clear w); rintro _ w hs; try simp only [cls] at hs)))
        refine loop_rule (σ := Nat × Option Addr × Nat × List Nat) [7, 3] (fun s => [.int .i64 s.1, .slice s.2.1 s.2.2.2.length s.2.2.1]) [2, 4, 26, 27, 28] (fun s w' => s.1 ≤ 256 ∧ s.2.2.2.length ≤ s.2.2.1 ∧ s.2.2.2 ++ digs0 58 s.1 = T ∧ VC.Sat (.at w0) [.sl s.2.1 s.2.2.1 (s.2.2.2.map i64n) 3 1] w') (fun s _ => s.1) (cy, pa, pc, cur) (by kernel_rfl) (by rw [← hcl]; rfl) ⟨hcy, by dsimp only; omega, heq, hs⟩ ?_
        clear hs heq hcy hcl hpc
        rintro e ⟨cy, pa, pc, cur⟩ w ⟨hcy, hpc, heq, hs⟩
        dsimp only at hcy hpc heq hs ⊢
        simp (disch := first | omega | assumption | exact Option.isSome_some | (simp only [adO_isSome]; assumption)) only [↓vcp, vcs, vct, if_true, if_false, Nat.reduceBEq, ↓reduceIte, Nat.reduceEqDiff, Nat.reduceAdd, Nat.reduceMul, Nat.reduceSub, Int.reduceToNat, reduceCtorEq, Nat.reduceLT, Nat.reduceLeDiff, Int.reduceSub, Int.reduceAdd, Int.reduceNeg, Sat.look hs, Sat.lookA hs]
        have hTl := congrArg List.length heq
        rw [List.length_append] at hTl
        by_cases hc0 : 0 < cy
        case neg =>
          obtain rfl : cy = 0 := by omega
          rw [digs0_zero, List.append_nil, ← hstep] at heq
          subst heq
          (repeat (first | (simp (disch := first | omega | assumption | exact Option.isSome_some | (simp only [adO_isSome]; assumption)) only [↓vcp, vcs, vct, if_true, if_false, Nat.reduceBEq, ↓reduceIte, Nat.reduceEqDiff, Nat.reduceAdd, Nat.reduceMul, Nat.reduceSub, Int.reduceToNat, reduceCtorEq, Nat.reduceLT, Nat.reduceLeDiff, Int.reduceSub, Int.reduceAdd, Int.reduceNeg, Sat.look hs, Sat.lookA hs]) | (refine khK he hs ?_; clear he; intro he) | ((first | refine stK hs ?_ | refine stFK hs ?_ | refine stAK hs ?_ | refine msK hs ?_); clear hs; (try clear w); rintro w hs; try simp only [cls] at hs) | ((first | refine al_ok hs ?_ | refine bx_ok hs ?_ | refine bsvK hs ?_ | refine bs1_ok hs ?_ | refine bs0_ok hs ?_); clear hs; (try clear w); rintro _ w hs; try simp only [cls] at hs)))
          exact ⟨(i + 1, pa, pc), by rfl, by rfl, ⟨by dsimp only; omega, hpc, hs⟩, by dsimp only; omega⟩
        rw [digs0_pos (by decide) hc0] at heq
        (repeat (first | (simp (disch := first | omega | assumption | exact Option.isSome_some | (simp only [adO_isSome]; assumption)) only [↓vcp, vcs, vct, if_true, if_false, Nat.reduceBEq, ↓reduceIte, Nat.reduceEqDiff, Nat.reduceAdd, Nat.reduceMul, Nat.reduceSub, Int.reduceToNat, reduceCtorEq, Nat.reduceLT, Nat.reduceLeDiff, Int.reduceSub, Int.reduceAdd, Int.reduceNeg, Sat.look hs, Sat.lookA hs, tmod_lit, tdiv_lit]) | (refine khK he hs ?_; clear he; intro he) | ((first | refine stK hs ?_ | refine stFK hs ?_ | refine stAK hs ?_ | refine msK hs ?_); clear hs; (try clear w); rintro w hs; try simp only [cls] at hs) | ((first | refine al_ok hs ?_ | refine bx_ok hs ?_ | refine bsvK hs ?_ | refine bs1_ok hs ?_ | refine bs0_ok hs ?_); clear hs; (try clear w); rintro _ w hs; try simp only [cls] at hs)))
        rename_i l1
        refine apK 1 hs (hs.rd (a := some ⟨l1, 0, none⟩)) ?_; clear hs; (try clear w); rintro a2 c2 w hc2 hs; try simp only [cls] at hs
        have e1 : cur.map i64n ++ [Value.int .i64 ((cy % 58 : Nat) : Int)] = (cur ++ [cy % 58]).map i64n := by simp [i64n]
        rw [e1] at hs
        rw [show cur.length + 1 = (cur ++ [cy % 58]).length by simp] at hc2 ⊢
        (repeat (first | (simp (disch := first | omega | assumption | exact Option.isSome_some | (simp only [adO_isSome]; assumption)) only [↓vcp, vcs, vct, if_true, if_false, Nat.reduceBEq, ↓reduceIte, Nat.reduceEqDiff, Nat.reduceAdd, Nat.reduceMul, Nat.reduceSub, Int.reduceToNat, reduceCtorEq, Nat.reduceLT, Nat.reduceLeDiff, Int.reduceSub, Int.reduceAdd, Int.reduceNeg, Sat.look hs, Sat.lookA hs, tmod_lit, tdiv_lit]) | (refine khK he hs ?_; clear he; intro he) | ((first | refine stK hs ?_ | refine stFK hs ?_ | refine stAK hs ?_ | refine msK hs ?_); clear hs; (try clear w); rintro w hs; try simp only [cls] at hs) | ((first | refine al_ok hs ?_ | refine bx_ok hs ?_ | refine bsvK hs ?_ | refine bs1_ok hs ?_ | refine bs0_ok hs ?_); clear hs; (try clear w); rintro _ w hs; try simp only [cls] at hs)))
        exact ⟨(cy / 58, a2, c2, cur ++ [cy % 58]), by rfl, by rfl, ⟨by dsimp only; omega, hc2, by dsimp only; rw [← heq, List.append_assoc]; rfl, hs.sub (.cons_cons _ (List.nil_sublist _))⟩, by dsimp only; omega⟩
    · clear hs
      rintro e ⟨pa, pc⟩ w ⟨hpc, hs⟩
      dsimp only at hpc hs ⊢
      (repeat (first | (simp (disch := first | omega | assumption | exact Option.isSome_some | (simp only [adO_isSome]; assumption)) only [↓vcp, vcs, vct, if_true, if_false, Nat.reduceBEq, ↓reduceIte, Nat.reduceEqDiff, Nat.reduceAdd, Nat.reduceMul, Nat.reduceSub, Int.reduceToNat, reduceCtorEq, Nat.reduceLT, Nat.reduceLeDiff, Int.reduceSub, Int.reduceAdd, Int.reduceNeg, Sat.look hs, Sat.lookA hs]) | (refine khK he hs ?_; clear he; intro he) | ((first | refine stK hs ?_ | refine stFK hs ?_ | refine stAK hs ?_ | refine msK hs ?_); clear hs; (try clear w); rintro w hs; try simp only [cls] at hs) | ((first | refine al_ok hs ?_ | refine bx_ok hs ?_ | refine bsvK hs ?_ | refine bs1_ok hs ?_ | refine bs0_ok hs ?_); clear hs; (try clear w); rintro _ w hs; try simp only [cls] at hs)))
      rw [m_sliceStrTo d58 .i64 1 (by omega) (by decide), show List.take (Int.toNat 1) d58 = [49] from rfl]
      (repeat (first | (simp (disch := first | omega | assumption | exact Option.isSome_some | (simp only [adO_isSome]; assumption)) only [↓vcp, vcs, vct, if_true, if_false, Nat.reduceBEq, ↓reduceIte, Nat.reduceEqDiff, Nat.reduceAdd, Nat.reduceMul, Nat.reduceSub, Int.reduceToNat, reduceCtorEq, Nat.reduceLT, Nat.reduceLeDiff, Int.reduceSub, Int.reduceAdd, Int.reduceNeg, Sat.look hs, Sat.lookA hs]) | (refine khK he hs ?_; clear he; intro he) | ((first | refine stK hs ?_ | refine stFK hs ?_ | refine stAK hs ?_ | refine msK hs ?_); clear hs; (try clear w); rintro w hs; try simp only [cls] at hs) | ((first | refine al_ok hs ?_ | refine bx_ok hs ?_ | refine bsvK hs ?_ | refine bs1_ok hs ?_ | refine bs0_ok hs ?_); clear hs; (try clear w); rintro _ w hs; try simp only [cls] at hs)))
      refine call_ok (by kernel_rfl) (Repeat0_calls w [49]) ?_; rintro _ _ ⟨rfl, rfl⟩; rw [callK_ret]
      (repeat (first | (simp (disch := first | omega | assumption | exact Option.isSome_some | (simp only [adO_isSome]; assumption)) only [↓vcp, vcs, vct, if_true, if_false, Nat.reduceBEq, ↓reduceIte, Nat.reduceEqDiff, Nat.reduceAdd, Nat.reduceMul, Nat.reduceSub, Int.reduceToNat, reduceCtorEq, Nat.reduceLT, Nat.reduceLeDiff, Int.reduceSub, Int.reduceAdd, Int.reduceNeg, Sat.look hs, Sat.lookA hs]) | (refine khK he hs ?_; clear he; intro he) | ((first | refine stK hs ?_ | refine stFK hs ?_ | refine stAK hs ?_ | refine msK hs ?_); clear hs; (try clear w); rintro w hs; try simp only [cls] at hs) | ((first | refine al_ok hs ?_ | refine bx_ok hs ?_ | refine bsvK hs ?_ | refine bs1_ok hs ?_ | refine bs0_ok hs ?_); clear hs; (try clear w); rintro _ w hs; try simp only [cls] at hs)))
      refine cvr_ok hs [] (by decide) ?_
      clear hs; (try clear w); rintro ob oc w hoc hs
      simp only [List.cons_append, List.nil_append, List.map_nil, List.length_nil] at hs hoc ⊢
      have hD := len58 b
      have hdl := digs0_lt (b := 58) (by decide) (valh 256 (nats b) 0)
      have henc : ((digs0 58 (valh 256 (nats b) 0)).reverse.map fun d => d58.getD d 0) = enc58 b := rfl
      generalize digs0 58 (valh 256 (nats b) 0) = D at *
      (repeat (first | (simp (disch := first | omega | assumption | exact Option.isSome_some | (simp only [adO_isSome]; assumption)) only [↓vcp, vcs, vct, if_true, if_false, Nat.reduceBEq, ↓reduceIte, Nat.reduceEqDiff, Nat.reduceAdd, Nat.reduceMul, Nat.reduceSub, Int.reduceToNat, reduceCtorEq, Nat.reduceLT, Nat.reduceLeDiff, Int.reduceSub, Int.reduceAdd, Int.reduceNeg, Sat.look hs, Sat.lookA hs]) | (refine khK he hs ?_; clear he; intro he) | ((first | refine stK hs ?_ | refine stFK hs ?_ | refine stAK hs ?_ | refine msK hs ?_); clear hs; (try clear w); rintro w hs; try simp only [cls] at hs) | ((first | refine al_ok hs ?_ | refine bx_ok hs ?_ | refine bsvK hs ?_ | refine bs1_ok hs ?_ | refine bs0_ok hs ?_); clear hs; (try clear w); rintro _ w hs; try simp only [cls] at hs)))
      refine loop_rule (σ := Nat × Nat × Nat × List UInt8) [10, 9] (fun s => [.int .i64 ((s.1 : Int) - 1), .slice (some ⟨s.2.1, 0, none⟩) s.2.2.2.length s.2.2.1]) [2, 3] (fun s w' => s.1 ≤ D.length ∧ s.2.2.2.length ≤ s.2.2.1 ∧ s.2.2.2.length + s.1 = D.length ∧ s.2.2.2 ++ ((D.take s.1).reverse.map fun d => d58.getD d 0) = enc58 b ∧ VC.Sat (.at w0) [.sl pa pc (D.map i64n) 3 1, Ck.rw s.2.1 s.2.2.1 (s.2.2.2.map u8v) 5] w') (fun s _ => s.1) (D.length, ob, oc, []) (by kernel_rfl) (by rfl) ⟨Nat.le_refl _, hoc, by simp, by dsimp only; rw [List.take_length, List.nil_append]; exact henc, hs⟩ ?_
      clear hs hoc
      rintro e ⟨j, ob, oc, out⟩ w ⟨hj, hoc, hol, heq, hs⟩
      dsimp only at hj hoc hol heq hs ⊢
      simp (disch := first | omega | assumption | exact Option.isSome_some | (simp only [adO_isSome]; assumption)) only [↓vcp, vcs, vct, if_true, if_false, Nat.reduceBEq, ↓reduceIte, Nat.reduceEqDiff, Nat.reduceAdd, Nat.reduceMul, Nat.reduceSub, Int.reduceToNat, reduceCtorEq, Nat.reduceLT, Nat.reduceLeDiff, Int.reduceSub, Int.reduceAdd, Int.reduceNeg, Sat.look hs, Sat.lookA hs]
      rcases Nat.eq_zero_or_pos j with rfl | hj0
      · rw [List.take_zero] at heq
        have heq : out = enc58 b := by rw [← heq]; simp
        subst heq
        (repeat (first | (simp (disch := first | omega | assumption | exact Option.isSome_some | (simp only [adO_isSome]; assumption)) only [↓vcp, vcs, vct, if_true, if_false, Nat.reduceBEq, ↓reduceIte, Nat.reduceEqDiff, Nat.reduceAdd, Nat.reduceMul, Nat.reduceSub, Int.reduceToNat, reduceCtorEq, Nat.reduceLT, Nat.reduceLeDiff, Int.reduceSub, Int.reduceAdd, Int.reduceNeg, Sat.look hs, Sat.lookA hs]) | (refine khK he hs ?_; clear he; intro he) | ((first | refine stK hs ?_ | refine stFK hs ?_ | refine stAK hs ?_ | refine msK hs ?_); clear hs; (try clear w); rintro w hs; try simp only [cls] at hs) | ((first | refine al_ok hs ?_ | refine bx_ok hs ?_ | refine bsvK hs ?_ | refine bs1_ok hs ?_ | refine bs0_ok hs ?_); clear hs; (try clear w); rintro _ w hs; try simp only [cls] at hs)))
        rw [m_strOfL (xs := enc58 b) 49 9 (hs.rdRw (i := 1) rfl) rfl]
        (repeat (first | (simp (disch := first | omega | assumption | exact Option.isSome_some | (simp only [adO_isSome]; assumption)) only [↓vcp, vcs, vct, if_true, if_false, Nat.reduceBEq, ↓reduceIte, Nat.reduceEqDiff, Nat.reduceAdd, Nat.reduceMul, Nat.reduceSub, Int.reduceToNat, reduceCtorEq, Nat.reduceLT, Nat.reduceLeDiff, Int.reduceSub, Int.reduceAdd, Int.reduceNeg, Sat.look hs, Sat.lookA hs]) | (refine khK he hs ?_; clear he; intro he) | ((first | refine stK hs ?_ | refine stFK hs ?_ | refine stAK hs ?_ | refine msK hs ?_); clear hs; (try clear w); rintro w hs; try simp only [cls] at hs) | ((first | refine al_ok hs ?_ | refine bx_ok hs ?_ | refine bsvK hs ?_ | refine bs1_ok hs ?_ | refine bs0_ok hs ?_); clear hs; (try clear w); rintro _ w hs; try simp only [cls] at hs)))
        exact ret_tmp rfl (hR _ _ ⟨rfl, hs.belowAt⟩)
      obtain ⟨j, rfl⟩ : ∃ m, j = m + 1 := ⟨j - 1, by omega⟩
      obtain ⟨p, hp⟩ : ∃ p, D[j]? = some p := ⟨_, List.getElem?_eq_getElem (by omega)⟩
      have hp58 := hdl p (List.mem_of_getElem? hp)
      have hg := i64n_get hp
      have hgl : (D.map i64n).length = D.length := by rw [List.length_map]
      have hps : pa.isSome = true := hs.isSome (a := pa) (xs := D.map i64n) (by rw [hgl]; omega)
      have hj1 : ((j + 1 : Nat) : Int) - 1 = (j : Int) := by omega
      have hbt : bt ⟨d58.toArray⟩ p = ((d58.getD p 0).toNat : Int) := by
        have hdl : p < d58.length := hp58
        rw [bt_list d58 p hdl]
        simp only [List.getD, List.getElem?_eq_getElem hdl, Option.getD_some]
      have hdz : p < (ByteArray.mk d58.toArray).size := hp58
      have heq2 : (out ++ [d58.getD p 0]) ++ ((D.take j).reverse.map fun d => d58.getD d 0) = enc58 b := by
        rw [← heq, List.take_add_one, hp]
        simp
      generalize d58.getD p 0 = ch at *
      unfold d58 at hbt hdz
      rw [hj1]
      (repeat (first | (simp (disch := first | omega | assumption | exact Option.isSome_some | (simp only [adO_isSome]; assumption)) only [↓vcp, vcs, vct, if_true, if_false, Nat.reduceBEq, ↓reduceIte, Nat.reduceEqDiff, Nat.reduceAdd, Nat.reduceMul, Nat.reduceSub, Int.reduceToNat, reduceCtorEq, Nat.reduceLT, Nat.reduceLeDiff, Int.reduceSub, Int.reduceAdd, Int.reduceNeg, Sat.look hs, Sat.lookA hs, hg, hbt]) | (refine khK he hs ?_; clear he; intro he) | ((first | refine stK hs ?_ | refine stFK hs ?_ | refine stAK hs ?_ | refine msK hs ?_); clear hs; (try clear w); rintro w hs; try simp only [cls] at hs; try simp only [hgl] at hs) | ((first | refine al_ok hs ?_ | refine bx_ok hs ?_ | refine bsvK hs ?_ | refine bs1_ok hs ?_ | refine bs0_ok hs ?_); clear hs; (try clear w); rintro _ w hs; try simp only [cls] at hs; try simp only [hgl] at hs) | ((first | refine stK hs ?_ (by first | omega | (simp only [hgl, cells_bk, cells_sl, List.length_cons, List.length_nil, List.length_set, List.length_append, List.length_map, List.length_replicate, List.length_take, List.length_drop]; omega) | assumption | rfl) | refine stFK hs ?_ (by first | omega | (simp only [hgl, cells_bk, cells_sl, List.length_cons, List.length_nil, List.length_set, List.length_append, List.length_map, List.length_replicate, List.length_take, List.length_drop]; omega) | assumption | rfl) (by first | omega | (simp only [hgl, cells_bk, cells_sl, List.length_cons, List.length_nil, List.length_set, List.length_append, List.length_map, List.length_replicate, List.length_take, List.length_drop]; omega) | assumption | rfl) | refine stAK hs ?_ (by first | omega | (simp only [hgl, cells_bk, cells_sl, List.length_cons, List.length_nil, List.length_set, List.length_append, List.length_map, List.length_replicate, List.length_take, List.length_drop]; omega) | assumption | rfl) (by first | omega | (simp only [hgl, cells_bk, cells_sl, List.length_cons, List.length_nil, List.length_set, List.length_append, List.length_map, List.length_replicate, List.length_take, List.length_drop]; omega) | assumption | rfl) | refine msK hs ?_ (by first | omega | (simp only [hgl, cells_bk, cells_sl, List.length_cons, List.length_nil, List.length_set, List.length_append, List.length_map, List.length_replicate, List.length_take, List.length_drop]; omega) | assumption | rfl)); clear hs; (try clear w); rintro w hs; try simp only [cls] at hs; try simp only [hgl] at hs)))
      rename Nat => l1
      refine apr_ok hs (i := 1) rfl rfl (by rw [List.length_map]) (hs.rd (a := some ⟨l1, 0, none⟩)) rfl (by omega) (by show _ ≤ 9223372036854775807; omega) ?_
      clear hs; (try clear w); rintro ob oc w hoc hs
      simp only [List.set_cons_succ, List.set_cons_zero] at hs
      have e1 : out.map u8v ++ [Value.int .u8 (ch.toNat : Int)] = (out ++ [ch]).map u8v := by simp [u8v]
      rw [e1] at hs
      rw [show out.length + 1 = (out ++ [ch]).length by simp] at hoc ⊢
      (repeat (first | (simp (disch := first | omega | assumption | exact Option.isSome_some | (simp only [adO_isSome]; assumption)) only [↓vcp, vcs, vct, if_true, if_false, Nat.reduceBEq, ↓reduceIte, Nat.reduceEqDiff, Nat.reduceAdd, Nat.reduceMul, Nat.reduceSub, Int.reduceToNat, reduceCtorEq, Nat.reduceLT, Nat.reduceLeDiff, Int.reduceSub, Int.reduceAdd, Int.reduceNeg, Sat.look hs, Sat.lookA hs]) | (refine khK he hs ?_; clear he; intro he) | ((first | refine stK hs ?_ | refine stFK hs ?_ | refine stAK hs ?_ | refine msK hs ?_); clear hs; (try clear w); rintro w hs; try simp only [cls] at hs) | ((first | refine al_ok hs ?_ | refine bx_ok hs ?_ | refine bsvK hs ?_ | refine bs1_ok hs ?_ | refine bs0_ok hs ?_); clear hs; (try clear w); rintro _ w hs; try simp only [cls] at hs)))
      exact ⟨(j, ob, oc, out ++ [ch]), by rfl, by rfl, ⟨by dsimp only; omega, hoc, by dsimp only; rw [List.length_append, List.length_singleton]; omega, heq2, hs.sub (.cons_cons _ (.cons_cons _ (List.nil_sublist _)))⟩, by dsimp only; omega⟩
end Go.Proofs.YtokoohdpakhphaaDoor.Lnk
namespace Go.Proofs.YtokoohdpakhphaaDoor.Lnk
open Go VC Go.RowKit
set_option linter.unusedSimpArgs false
set_option linter.unusedVariables false
set_option maxRecDepth 20000
set_option maxHeartbeats 4000000
theorem madeN (v : Value) (n : Nat) : (madeCells #[v] (n * 1)).toList = List.replicate n v := by
  rw [Nat.mul_one]
  apply List.ext_getElem
  · simp [size_madeCells]
  · intro i h1 h2
    simp [madeCells, Nat.mod_one]
theorem band255 (N : Nat) (h : N < 9223372036854775808) : Band .i64 (N : Int) 255 = ((N % 256 : Nat) : Int) := by
  have := Band_i N 255 h (by omega)
  rw [show N &&& 255 = N % 256 from Nat.and_two_pow_sub_one_eq_mod N 8] at this
  exact this
theorem ones_step {s : List UInt8} {i : Nat} {x : UInt8} (h : s[i]? = some x) : ones (s.drop i) = if x = 49 then ones (s.drop (i + 1)) + 1 else 0 := by
  obtain ⟨hl, he⟩ := List.getElem?_eq_some_iff.1 h
  rw [List.drop_eq_getElem_cons hl, he]
  rfl
theorem fromBase58_calls (w0 : World) (s : List UInt8) (hl : s.length ≤ 1048576) :
    Calls Tryd.prog 40 #[.string ⟨s.toArray⟩] w0 fun e w' => ∃ a' c', e = .returned (.tuple #[.slice a' (dec58 s).1.length c', .bool (dec58 s).2]) ∧ (dec58 s).1.length ≤ c' ∧ Sat (.at w0) [.sl a' c' ((dec58 s).1.map u8v) 5 1] w' := by
  refine calls_vc Tryd.func40 rfl (by kernel_rfl) (by kernel_rfl) ?_; intro R hR
  have hs := Sat.start w0
  have hvl := vals_len d58 256 (by omega)
  have hdlen := dec58_len s
  (repeat (first | (simp (disch := first | omega | assumption | exact Option.isSome_some | (simp only [adO_isSome]; assumption)) only [↓vcp, vcs, vct, if_true, if_false, Nat.reduceBEq, ↓reduceIte, Nat.reduceEqDiff, Nat.reduceAdd, Nat.reduceMul, Nat.reduceSub, Int.reduceToNat, reduceCtorEq, Nat.reduceLT, Nat.reduceLeDiff, Int.reduceSub, Int.reduceAdd, Int.reduceNeg, Sat.look hs, Sat.lookA hs]) | (refine khK he hs ?_; clear he; intro he) | ((first | refine stK hs ?_ | refine stFK hs ?_ | refine stAK hs ?_ | refine msK hs ?_); clear hs; (try clear w); rintro w hs; try simp only [cls] at hs) | ((first | refine al_ok hs ?_ | refine bx_ok hs ?_ | refine bsvK hs ?_ | refine bs1_ok hs ?_ | refine bs0_ok hs ?_); clear hs; (try clear w); rintro _ w hs; try simp only [cls] at hs)))
  refine call_ok (by kernel_rfl) (values_calls w0 d58) ?_; rintro _ w2 ⟨rfl, hb⟩; rw [callK_ret]; replace hs := Sat.add hs (Below.sat hb); clear hb; (try clear w); rename World => w; try simp only [cls] at hs
  (repeat (first | (simp (disch := first | omega | assumption | exact Option.isSome_some | (simp only [adO_isSome]; assumption)) only [↓vcp, vcs, vct, if_true, if_false, Nat.reduceBEq, ↓reduceIte, Nat.reduceEqDiff, Nat.reduceAdd, Nat.reduceMul, Nat.reduceSub, Int.reduceToNat, reduceCtorEq, Nat.reduceLT, Nat.reduceLeDiff, Int.reduceSub, Int.reduceAdd, Int.reduceNeg, Sat.look hs, Sat.lookA hs]) | (refine khK he hs ?_; clear he; intro he) | ((first | refine stK hs ?_ | refine stFK hs ?_ | refine stAK hs ?_ | refine msK hs ?_); clear hs; (try clear w); rintro w hs; try simp only [cls] at hs) | ((first | refine al_ok hs ?_ | refine bx_ok hs ?_ | refine bsvK hs ?_ | refine bs1_ok hs ?_ | refine bs0_ok hs ?_); clear hs; (try clear w); rintro _ w hs; try simp only [cls] at hs)))
  refine al_ok (h := tz99) hs ?_; clear hs; (try clear w); rintro vb w hs
  rw [zeros_eq d58] at hs
  simp only [List.nil_append] at hs
  have hl0 := vals_len d58 0 (by omega)
  (repeat (first | (simp (disch := first | omega | assumption | exact Option.isSome_some | (simp only [adO_isSome]; assumption)) only [↓vcp, vcs, vct, if_true, if_false, Nat.reduceBEq, ↓reduceIte, Nat.reduceEqDiff, Nat.reduceAdd, Nat.reduceMul, Nat.reduceSub, Int.reduceToNat, reduceCtorEq, Nat.reduceLT, Nat.reduceLeDiff, Int.reduceSub, Int.reduceAdd, Int.reduceNeg, Sat.look hs, Sat.lookA hs]) | (refine khK he hs ?_; clear he; intro he) | ((first | refine stK hs ?_ | refine stFK hs ?_ | refine stAK hs ?_ | refine msK hs ?_); clear hs; (try clear w); rintro w hs; try simp only [cls] at hs; try simp only [hl0 hvl] at hs) | ((first | refine al_ok hs ?_ | refine bx_ok hs ?_ | refine bsvK hs ?_ | refine bs1_ok hs ?_ | refine bs0_ok hs ?_); clear hs; (try clear w); rintro _ w hs; try simp only [cls] at hs; try simp only [hl0 hvl] at hs) | ((first | refine stK hs ?_ (by first | omega | (simp only [hl0 hvl, cells_bk, cells_sl, List.length_cons, List.length_nil, List.length_set, List.length_append, List.length_map, List.length_replicate, List.length_take, List.length_drop]; omega) | assumption | rfl) | refine stFK hs ?_ (by first | omega | (simp only [hl0 hvl, cells_bk, cells_sl, List.length_cons, List.length_nil, List.length_set, List.length_append, List.length_map, List.length_replicate, List.length_take, List.length_drop]; omega) | assumption | rfl) (by first | omega | (simp only [hl0 hvl, cells_bk, cells_sl, List.length_cons, List.length_nil, List.length_set, List.length_append, List.length_map, List.length_replicate, List.length_take, List.length_drop]; omega) | assumption | rfl) | refine stAK hs ?_ (by first | omega | (simp only [hl0 hvl, cells_bk, cells_sl, List.length_cons, List.length_nil, List.length_set, List.length_append, List.length_map, List.length_replicate, List.length_take, List.length_drop]; omega) | assumption | rfl) (by first | omega | (simp only [hl0 hvl, cells_bk, cells_sl, List.length_cons, List.length_nil, List.length_set, List.length_append, List.length_map, List.length_replicate, List.length_take, List.length_drop]; omega) | assumption | rfl) | refine msK hs ?_ (by first | omega | (simp only [hl0 hvl, cells_bk, cells_sl, List.length_cons, List.length_nil, List.length_set, List.length_append, List.length_map, List.length_replicate, List.length_take, List.length_drop]; omega) | assumption | rfl)); clear hs; (try clear w); rintro w hs; try simp only [cls] at hs; try simp only [hl0 hvl] at hs)))
  have hss : (ByteArray.mk s.toArray).size = s.length := ba_size s
  unfold dec58 at hR hdlen
  have ho0 : ones s = 0 + ones (s.drop 0) := by rw [List.drop_zero, Nat.zero_add]
  generalize ones s = on at *
  refine loop_join (σ := Unit) 0 [5] (fun _ => [.int .i64 on]) [0, 2, 3, 4] (fun _ w' => on ≤ s.length ∧ VC.Sat (.at w0) [.bk vb (vals d58 256) 99] w') ?_ ?_
  · refine loop_rule (σ := Nat) [5] (fun x => [.int .i64 x]) [0, 2, 3, 4] (fun x w' => x ≤ s.length ∧ on = x + ones (s.drop x) ∧ VC.Sat (.at w0) [.bk vb (vals d58 256) 99] w') (fun x _ => s.length - x) 0 (by kernel_rfl) rfl ⟨Nat.zero_le _, ho0, hs⟩ ?_
    clear hs ho0
    rintro e i w ⟨hi, ho, hs⟩
    simp (disch := first | omega | assumption | exact Option.isSome_some | (simp only [adO_isSome]; assumption)) only [↓vcp, vcs, vct, if_true, if_false, Nat.reduceBEq, ↓reduceIte, Nat.reduceEqDiff, Nat.reduceAdd, Nat.reduceMul, Nat.reduceSub, Int.reduceToNat, reduceCtorEq, Nat.reduceLT, Nat.reduceLeDiff, Int.reduceSub, Int.reduceAdd, Int.reduceNeg, Sat.look hs, Sat.lookA hs]
    by_cases hlt : i < s.length
    case neg =>
      obtain rfl : i = s.length := by omega
      rw [List.drop_length] at ho
      have ho : on = s.length := ho
      subst ho
      (repeat (first | (simp (disch := first | omega | assumption | exact Option.isSome_some | (simp only [adO_isSome]; assumption)) only [↓vcp, vcs, vct, if_true, if_false, Nat.reduceBEq, ↓reduceIte, Nat.reduceEqDiff, Nat.reduceAdd, Nat.reduceMul, Nat.reduceSub, Int.reduceToNat, reduceCtorEq, Nat.reduceLT, Nat.reduceLeDiff, Int.reduceSub, Int.reduceAdd, Int.reduceNeg, Sat.look hs, Sat.lookA hs, hss]) | (refine khK he hs ?_; clear he; intro he) | ((first | refine stK hs ?_ | refine stFK hs ?_ | refine stAK hs ?_ | refine msK hs ?_); clear hs; (try clear w); rintro w hs; try simp only [cls] at hs) | ((first | refine al_ok hs ?_ | refine bx_ok hs ?_ | refine bsvK hs ?_ | refine bs1_ok hs ?_ | refine bs0_ok hs ?_); clear hs; (try clear w); rintro _ w hs; try simp only [cls] at hs)))
      refine draw_still 10 (by kernel_rfl) (by kernel_rfl) (by kernel_rfl) ?_
      replace hs := Sat.drew hs; revert hs; generalize World.drew _ = w; intro hs
      (repeat (first | (simp (disch := first | omega | assumption | exact Option.isSome_some | (simp only [adO_isSome]; assumption)) only [↓vcp, vcs, vct, if_true, if_false, Nat.reduceBEq, ↓reduceIte, Nat.reduceEqDiff, Nat.reduceAdd, Nat.reduceMul, Nat.reduceSub, Int.reduceToNat, reduceCtorEq, Nat.reduceLT, Nat.reduceLeDiff, Int.reduceSub, Int.reduceAdd, Int.reduceNeg, Sat.look hs, Sat.lookA hs, hss]) | (refine khK he hs ?_; clear he; intro he) | ((first | refine stK hs ?_ | refine stFK hs ?_ | refine stAK hs ?_ | refine msK hs ?_); clear hs; (try clear w); rintro w hs; try simp only [cls] at hs) | ((first | refine al_ok hs ?_ | refine bx_ok hs ?_ | refine bsvK hs ?_ | refine bs1_ok hs ?_ | refine bs0_ok hs ?_); clear hs; (try clear w); rintro _ w hs; try simp only [cls] at hs)))
      exact ⟨(), by rfl, by rfl, hs⟩
    obtain ⟨x, hxi⟩ : ∃ x, s[i]? = some x := ⟨_, List.getElem?_eq_getElem hlt⟩
    have hbt : bt ⟨s.toArray⟩ i = (x.toNat : Int) := by
      rw [bt_list s i hlt]
      rw [List.getElem?_eq_getElem hlt] at hxi
      rw [Option.some.inj hxi]
    have hdz : i < (ByteArray.mk s.toArray).size := by rw [ba_size]; exact hlt
    rw [ones_step hxi] at ho
    have hb0 : bt ⟨d58.toArray⟩ 0 = 49 := rfl
    have hs58 : (ByteArray.mk d58.toArray).size = 58 := rfl
    unfold d58 at hb0 hs58
    (repeat (first | (simp (disch := first | omega | assumption | exact Option.isSome_some | (simp only [adO_isSome]; assumption)) only [↓vcp, vcs, vct, if_true, if_false, Nat.reduceBEq, ↓reduceIte, Nat.reduceEqDiff, Nat.reduceAdd, Nat.reduceMul, Nat.reduceSub, Int.reduceToNat, reduceCtorEq, Nat.reduceLT, Nat.reduceLeDiff, Int.reduceSub, Int.reduceAdd, Int.reduceNeg, Sat.look hs, Sat.lookA hs, hbt, hss]) | (refine khK he hs ?_; clear he; intro he) | ((first | refine stK hs ?_ | refine stFK hs ?_ | refine stAK hs ?_ | refine msK hs ?_); clear hs; (try clear w); rintro w hs; try simp only [cls] at hs) | ((first | refine al_ok hs ?_ | refine bx_ok hs ?_ | refine bsvK hs ?_ | refine bs1_ok hs ?_ | refine bs0_ok hs ?_); clear hs; (try clear w); rintro _ w hs; try simp only [cls] at hs)))
    refine draw_still 10 (by kernel_rfl) (by kernel_rfl) (by kernel_rfl) ?_
    replace hs := Sat.drew hs; revert hs; generalize World.drew _ = w; intro hs
    by_cases h49 : x = 49
    · subst h49
      have hx49 : ((49 : UInt8).toNat : Int) = 49 := rfl
      rw [if_pos rfl] at ho
      (repeat (first | (simp (disch := first | omega | assumption | exact Option.isSome_some | (simp only [adO_isSome]; assumption)) only [↓vcp, vcs, vct, if_true, if_false, Nat.reduceBEq, ↓reduceIte, Nat.reduceEqDiff, Nat.reduceAdd, Nat.reduceMul, Nat.reduceSub, Int.reduceToNat, reduceCtorEq, Nat.reduceLT, Nat.reduceLeDiff, Int.reduceSub, Int.reduceAdd, Int.reduceNeg, Sat.look hs, Sat.lookA hs, hbt, hss, hb0, hs58, hx49]) | (refine khK he hs ?_; clear he; intro he) | ((first | refine stK hs ?_ | refine stFK hs ?_ | refine stAK hs ?_ | refine msK hs ?_); clear hs; (try clear w); rintro w hs; try simp only [cls] at hs) | ((first | refine al_ok hs ?_ | refine bx_ok hs ?_ | refine bsvK hs ?_ | refine bs1_ok hs ?_ | refine bs0_ok hs ?_); clear hs; (try clear w); rintro _ w hs; try simp only [cls] at hs)))
      exact ⟨i + 1, by rfl, by rfl, ⟨by omega, by omega, hs⟩, by dsimp only; omega⟩
    · have hx49 : (x.toNat : Int) ≠ 49 := fun h => h49 (UInt8.toNat_inj.1 (by show x.toNat = 49; omega))
      rw [if_neg h49] at ho
      obtain rfl : on = i := by omega
      (repeat (first | (simp (disch := first | omega | assumption | exact Option.isSome_some | (simp only [adO_isSome]; assumption)) only [↓vcp, vcs, vct, if_true, if_false, Nat.reduceBEq, ↓reduceIte, Nat.reduceEqDiff, Nat.reduceAdd, Nat.reduceMul, Nat.reduceSub, Int.reduceToNat, reduceCtorEq, Nat.reduceLT, Nat.reduceLeDiff, Int.reduceSub, Int.reduceAdd, Int.reduceNeg, Sat.look hs, Sat.lookA hs, hbt, hss, hb0, hs58]) | (refine khK he hs ?_; clear he; intro he) | ((first | refine stK hs ?_ | refine stFK hs ?_ | refine stAK hs ?_ | refine msK hs ?_); clear hs; (try clear w); rintro w hs; try simp only [cls] at hs) | ((first | refine al_ok hs ?_ | refine bx_ok hs ?_ | refine bsvK hs ?_ | refine bs1_ok hs ?_ | refine bs0_ok hs ?_); clear hs; (try clear w); rintro _ w hs; try simp only [cls] at hs)))
      exact ⟨(), by rfl, by rfl, hi, hs⟩
  · clear hs
    rintro e _ w ⟨hon, hs⟩
    (repeat (first | (simp (disch := first | omega | assumption | exact Option.isSome_some | (simp only [adO_isSome]; assumption)) only [↓vcp, vcs, vct, if_true, if_false, Nat.reduceBEq, ↓reduceIte, Nat.reduceEqDiff, Nat.reduceAdd, Nat.reduceMul, Nat.reduceSub, Int.reduceToNat, reduceCtorEq, Nat.reduceLT, Nat.reduceLeDiff, Int.reduceSub, Int.reduceAdd, Int.reduceNeg, Sat.look hs, Sat.lookA hs, hss]) | (refine khK he hs ?_; clear he; intro he) | ((first | refine stK hs ?_ | refine stFK hs ?_ | refine stAK hs ?_ | refine msK hs ?_); clear hs; (try clear w); rintro w hs; try simp only [cls] at hs) | ((first | refine al_ok hs ?_ | refine bx_ok hs ?_ | refine bsvK hs ?_ | refine bs1_ok hs ?_ | refine bs0_ok hs ?_); clear hs; (try clear w); rintro _ w hs; try simp only [cls] at hs)))
    generalize hG : dgo (s.drop on) 0 = G at *
    replace hs := Sat.nil hs 3 1; try simp only [cls] at hs
    (repeat (first | (simp (disch := first | omega | assumption | exact Option.isSome_some | (simp only [adO_isSome]; assumption)) only [↓vcp, vcs, vct, if_true, if_false, Nat.reduceBEq, ↓reduceIte, Nat.reduceEqDiff, Nat.reduceAdd, Nat.reduceMul, Nat.reduceSub, Int.reduceToNat, reduceCtorEq, Nat.reduceLT, Nat.reduceLeDiff, Int.reduceSub, Int.reduceAdd, Int.reduceNeg, Sat.look hs, Sat.lookA hs, hss]) | (refine khK he hs ?_; clear he; intro he) | ((first | refine stK hs ?_ | refine stFK hs ?_ | refine stAK hs ?_ | refine msK hs ?_); clear hs; (try clear w); rintro w hs; try simp only [cls] at hs) | ((first | refine al_ok hs ?_ | refine bx_ok hs ?_ | refine bsvK hs ?_ | refine bs1_ok hs ?_ | refine bs0_ok hs ?_); clear hs; (try clear w); rintro _ w hs; try simp only [cls] at hs)))
    refine loop_rule (σ := Nat × Nat × Option Addr × Nat) [7, 6] (fun x => [.int .i64 x.1, .slice x.2.2.1 (digs0 256 x.2.1).length x.2.2.2]) [0, 2, 3, 4, 5] (fun x w' => x.1 ≤ s.length ∧ x.2.1 < 256 ^ x.1 ∧ dgo (s.drop x.1) x.2.1 = G ∧ (digs0 256 x.2.1).length ≤ x.2.2.2 ∧ VC.Sat (.at w0) [.bk vb (vals d58 256) 99, .sl x.2.2.1 x.2.2.2 ((digs0 256 x.2.1).map i64n) 3 1] w') (fun x _ => s.length - x.1) (on, 0, none, 0) (by kernel_rfl) (by rw [digs0_zero]; rfl) ⟨hon, Nat.pow_pos (by decide), hG, by dsimp only; rw [digs0_zero]; exact Nat.le_refl _, by dsimp only; rw [digs0_zero]; exact hs⟩ ?_
    clear hs
    rintro e ⟨i, V, pa, pc⟩ w ⟨hi, hV, hGo, hpc, hs⟩
    dsimp only at hi hV hGo hpc hs ⊢
    have hD := digs0_len (b := 256) (by decide) i V hV
    have hdl := digs0_lt (b := 256) (by decide) V
    simp (disch := first | omega | assumption | exact Option.isSome_some | (simp only [adO_isSome]; assumption)) only [↓vcp, vcs, vct, if_true, if_false, Nat.reduceBEq, ↓reduceIte, Nat.reduceEqDiff, Nat.reduceAdd, Nat.reduceMul, Nat.reduceSub, Int.reduceToNat, reduceCtorEq, Nat.reduceLT, Nat.reduceLeDiff, Int.reduceSub, Int.reduceAdd, Int.reduceNeg, Sat.look hs, Sat.lookA hs]
    by_cases hlt : i < s.length
    case neg =>
      obtain rfl : i = s.length := by omega
      rw [List.drop_length] at hGo
      have hGo : some V = G := hGo
      subst hGo
      dsimp only at hR hdlen
      generalize digs0 256 V = D at *
      (repeat (first | (simp (disch := first | omega | assumption | exact Option.isSome_some | (simp only [adO_isSome]; assumption)) only [↓vcp, vcs, vct, if_true, if_false, Nat.reduceBEq, ↓reduceIte, Nat.reduceEqDiff, Nat.reduceAdd, Nat.reduceMul, Nat.reduceSub, Int.reduceToNat, reduceCtorEq, Nat.reduceLT, Nat.reduceLeDiff, Int.reduceSub, Int.reduceAdd, Int.reduceNeg, Sat.look hs, Sat.lookA hs, hss]) | (refine khK he hs ?_; clear he; intro he) | ((first | refine stK hs ?_ | refine stFK hs ?_ | refine stAK hs ?_ | refine msK hs ?_); clear hs; (try clear w); rintro w hs; try simp only [cls] at hs) | ((first | refine al_ok hs ?_ | refine bx_ok hs ?_ | refine bsvK hs ?_ | refine bs1_ok hs ?_ | refine bs0_ok hs ?_); clear hs; (try clear w); rintro _ w hs; try simp only [cls] at hs)))
      refine mk_ok hs on on rfl rfl (Nat.le_refl _) (by omega) (by unfold maxLen; omega) ?_
      clear hs; (try clear w); intro ob w hs
      simp only [List.cons_append, List.nil_append] at hs
      have hmk : (madeCells (Value.int .u8 0).cells (on * 1)).toList = (List.replicate on (0 : UInt8)).map u8v := by
        rw [List.map_replicate]
        exact madeN _ _
      rw [hmk] at hs
      generalize hres : List.replicate on (0 : UInt8) ++ D.reverse.map UInt8.ofNat = res at *
      have hrl : (List.replicate on (0 : UInt8)).length = on := List.length_replicate
      generalize List.replicate on (0 : UInt8) = out0 at *
      subst hrl
      (repeat (first | (simp (disch := first | omega | assumption | exact Option.isSome_some | (simp only [adO_isSome]; assumption)) only [↓vcp, vcs, vct, if_true, if_false, Nat.reduceBEq, ↓reduceIte, Nat.reduceEqDiff, Nat.reduceAdd, Nat.reduceMul, Nat.reduceSub, Int.reduceToNat, reduceCtorEq, Nat.reduceLT, Nat.reduceLeDiff, Int.reduceSub, Int.reduceAdd, Int.reduceNeg, Sat.look hs, Sat.lookA hs]) | (refine khK he hs ?_; clear he; intro he) | ((first | refine stK hs ?_ | refine stFK hs ?_ | refine stAK hs ?_ | refine msK hs ?_); clear hs; (try clear w); rintro w hs; try simp only [cls] at hs) | ((first | refine al_ok hs ?_ | refine bx_ok hs ?_ | refine bsvK hs ?_ | refine bs1_ok hs ?_ | refine bs0_ok hs ?_); clear hs; (try clear w); rintro _ w hs; try simp only [cls] at hs)))
      refine loop_rule (σ := Nat × Option Addr × Nat × List UInt8) [11, 10] (fun x => [.int .i64 ((x.1 : Int) - 1), .slice x.2.1 x.2.2.2.length x.2.2.1]) [6] (fun x w' => x.1 ≤ D.length ∧ x.2.2.2.length ≤ x.2.2.1 ∧ x.2.2.2 ++ (D.take x.1).reverse.map UInt8.ofNat = res ∧ VC.Sat (.at w0) [.bk vb (vals d58 256) 99, .sl pa pc (D.map i64n) 3 1, .sl x.2.1 x.2.2.1 (x.2.2.2.map u8v) 5 1] w') (fun x _ => x.1) (D.length, some ⟨ob, 0, none⟩, out0.length, out0) (by kernel_rfl) (by rfl) ⟨Nat.le_refl _, Nat.le_refl _, by dsimp only; rw [List.take_length]; exact hres, hs⟩ ?_
      clear hs hres
      rintro e ⟨j, oa, oc, out⟩ w ⟨hj, hoc, heq, hs⟩
      dsimp only at hj hoc heq hs ⊢
      simp (disch := first | omega | assumption | exact Option.isSome_some | (simp only [adO_isSome]; assumption)) only [↓vcp, vcs, vct, if_true, if_false, Nat.reduceBEq, ↓reduceIte, Nat.reduceEqDiff, Nat.reduceAdd, Nat.reduceMul, Nat.reduceSub, Int.reduceToNat, reduceCtorEq, Nat.reduceLT, Nat.reduceLeDiff, Int.reduceSub, Int.reduceAdd, Int.reduceNeg, Sat.look hs, Sat.lookA hs]
      rcases Nat.eq_zero_or_pos j with rfl | hj0
      · rw [List.take_zero] at heq
        have heq : out = res := by rw [← heq]; simp
        subst heq
        (repeat (first | (simp (disch := first | omega | assumption | exact Option.isSome_some | (simp only [adO_isSome]; assumption)) only [↓vcp, vcs, vct, if_true, if_false, Nat.reduceBEq, ↓reduceIte, Nat.reduceEqDiff, Nat.reduceAdd, Nat.reduceMul, Nat.reduceSub, Int.reduceToNat, reduceCtorEq, Nat.reduceLT, Nat.reduceLeDiff, Int.reduceSub, Int.reduceAdd, Int.reduceNeg, Sat.look hs, Sat.lookA hs]) | (refine khK he hs ?_; clear he; intro he) | ((first | refine stK hs ?_ | refine stFK hs ?_ | refine stAK hs ?_ | refine msK hs ?_); clear hs; (try clear w); rintro w hs; try simp only [cls] at hs) | ((first | refine al_ok hs ?_ | refine bx_ok hs ?_ | refine bsvK hs ?_ | refine bs1_ok hs ?_ | refine bs0_ok hs ?_); clear hs; (try clear w); rintro _ w hs; try simp only [cls] at hs)))
        exact ret_tmp2 rfl (hR _ _ ⟨oa, oc, rfl, hoc, hs.sub (.cons _ (.cons _ (List.Sublist.refl _)))⟩)
      obtain ⟨j, rfl⟩ : ∃ m, j = m + 1 := ⟨j - 1, by omega⟩
      obtain ⟨p, hp⟩ : ∃ p, D[j]? = some p := ⟨_, List.getElem?_eq_getElem (by omega)⟩
      have hg := i64n_get hp
      have hgl : (D.map i64n).length = D.length := by rw [List.length_map]
      have hps : pa.isSome = true := hs.isSome (a := pa) (xs := D.map i64n) (by rw [hgl]; omega)
      have hj1 : ((j + 1 : Nat) : Int) - 1 = (j : Int) := by omega
      have hrl := congrArg List.length heq
      rw [List.length_append, List.length_map, List.length_reverse] at hrl
      have heq2 : (out ++ [UInt8.ofNat p]) ++ (D.take j).reverse.map UInt8.ofNat = res := by
        rw [← heq, List.take_add_one, hp]
        simp
      have hw8 := wr8 p
      generalize UInt8.ofNat p = ch at *
      rw [hj1]
      (repeat (first | (simp (disch := first | omega | assumption | exact Option.isSome_some | (simp only [adO_isSome]; assumption)) only [↓vcp, vcs, vct, if_true, if_false, Nat.reduceBEq, ↓reduceIte, Nat.reduceEqDiff, Nat.reduceAdd, Nat.reduceMul, Nat.reduceSub, Int.reduceToNat, reduceCtorEq, Nat.reduceLT, Nat.reduceLeDiff, Int.reduceSub, Int.reduceAdd, Int.reduceNeg, Sat.look hs, Sat.lookA hs, hg, hw8]) | (refine khK he hs ?_; clear he; intro he) | ((first | refine stK hs ?_ | refine stFK hs ?_ | refine stAK hs ?_ | refine msK hs ?_); clear hs; (try clear w); rintro w hs; try simp only [cls] at hs; try simp only [hgl] at hs) | ((first | refine al_ok hs ?_ | refine bx_ok hs ?_ | refine bsvK hs ?_ | refine bs1_ok hs ?_ | refine bs0_ok hs ?_); clear hs; (try clear w); rintro _ w hs; try simp only [cls] at hs; try simp only [hgl] at hs) | ((first | refine stK hs ?_ (by first | omega | (simp only [hgl, cells_bk, cells_sl, List.length_cons, List.length_nil, List.length_set, List.length_append, List.length_map, List.length_replicate, List.length_take, List.length_drop]; omega) | assumption | rfl) | refine stFK hs ?_ (by first | omega | (simp only [hgl, cells_bk, cells_sl, List.length_cons, List.length_nil, List.length_set, List.length_append, List.length_map, List.length_replicate, List.length_take, List.length_drop]; omega) | assumption | rfl) (by first | omega | (simp only [hgl, cells_bk, cells_sl, List.length_cons, List.length_nil, List.length_set, List.length_append, List.length_map, List.length_replicate, List.length_take, List.length_drop]; omega) | assumption | rfl) | refine stAK hs ?_ (by first | omega | (simp only [hgl, cells_bk, cells_sl, List.length_cons, List.length_nil, List.length_set, List.length_append, List.length_map, List.length_replicate, List.length_take, List.length_drop]; omega) | assumption | rfl) (by first | omega | (simp only [hgl, cells_bk, cells_sl, List.length_cons, List.length_nil, List.length_set, List.length_append, List.length_map, List.length_replicate, List.length_take, List.length_drop]; omega) | assumption | rfl) | refine msK hs ?_ (by first | omega | (simp only [hgl, cells_bk, cells_sl, List.length_cons, List.length_nil, List.length_set, List.length_append, List.length_map, List.length_replicate, List.length_take, List.length_drop]; omega) | assumption | rfl)); clear hs; (try clear w); rintro w hs; try simp only [cls] at hs; try simp only [hgl] at hs)))
      rename Nat => l1
      refine apK 1 hs (hs.rd (a := some ⟨l1, 0, none⟩)) ?_; clear hs; (try clear w); rintro a2 c2 w hc2 hs; try simp only [cls] at hs
      have e1 : out.map u8v ++ [Value.int .u8 (ch.toNat : Int)] = (out ++ [ch]).map u8v := by simp [u8v]
      rw [e1] at hs
      rw [show out.length + 1 = (out ++ [ch]).length by simp] at hc2 ⊢
      (repeat (first | (simp (disch := first | omega | assumption | exact Option.isSome_some | (simp only [adO_isSome]; assumption)) only [↓vcp, vcs, vct, if_true, if_false, Nat.reduceBEq, ↓reduceIte, Nat.reduceEqDiff, Nat.reduceAdd, Nat.reduceMul, Nat.reduceSub, Int.reduceToNat, reduceCtorEq, Nat.reduceLT, Nat.reduceLeDiff, Int.reduceSub, Int.reduceAdd, Int.reduceNeg, Sat.look hs, Sat.lookA hs, hw8]) | (refine khK he hs ?_; clear he; intro he) | ((first | refine stK hs ?_ | refine stFK hs ?_ | refine stAK hs ?_ | refine msK hs ?_); clear hs; (try clear w); rintro w hs; try simp only [cls] at hs) | ((first | refine al_ok hs ?_ | refine bx_ok hs ?_ | refine bsvK hs ?_ | refine bs1_ok hs ?_ | refine bs0_ok hs ?_); clear hs; (try clear w); rintro _ w hs; try simp only [cls] at hs)))
      exact ⟨(j, a2, c2, out ++ [ch]), by rfl, by rfl, ⟨by dsimp only; omega, hc2, heq2, hs.sub (.cons_cons _ (.cons_cons _ (.cons_cons _ (List.nil_sublist _))))⟩, by dsimp only; omega⟩
    obtain ⟨x, hxi⟩ : ∃ x, s[i]? = some x := ⟨_, List.getElem?_eq_getElem hlt⟩
    have hbt : bt ⟨s.toArray⟩ i = (x.toNat : Int) := by
      rw [bt_list s i hlt]
      rw [List.getElem?_eq_getElem hlt] at hxi
      rw [Option.some.inj hxi]
    have hdz : i < (ByteArray.mk s.toArray).size := by rw [ba_size]; exact hlt
    have hx256 := x.toNat_lt
    have hvg := vals_get d58 x
    have hil := indexByte_lt d58 x
    have hdrop : s.drop i = x :: s.drop (i + 1) := by
      rw [List.drop_eq_getElem_cons hlt]
      rw [List.getElem?_eq_getElem hlt] at hxi
      rw [Option.some.inj hxi]
    rw [hdrop] at hGo
    unfold dgo at hGo
    have hl58 : d58.length = 58 := rfl
    rw [hl58] at hil
    generalize Lib.indexByte d58 x = dg at *
    (repeat (first | (simp (disch := first | omega | assumption | exact Option.isSome_some | (simp only [adO_isSome]; assumption)) only [↓vcp, vcs, vct, if_true, if_false, Nat.reduceBEq, ↓reduceIte, Nat.reduceEqDiff, Nat.reduceAdd, Nat.reduceMul, Nat.reduceSub, Int.reduceToNat, reduceCtorEq, Nat.reduceLT, Nat.reduceLeDiff, Int.reduceSub, Int.reduceAdd, Int.reduceNeg, Sat.look hs, Sat.lookA hs, hbt, hvg, hss]) | (refine khK he hs ?_; clear he; intro he) | ((first | refine stK hs ?_ | refine stFK hs ?_ | refine stAK hs ?_ | refine msK hs ?_); clear hs; (try clear w); rintro w hs; try simp only [cls] at hs; try simp only [hvl] at hs) | ((first | refine al_ok hs ?_ | refine bx_ok hs ?_ | refine bsvK hs ?_ | refine bs1_ok hs ?_ | refine bs0_ok hs ?_); clear hs; (try clear w); rintro _ w hs; try simp only [cls] at hs; try simp only [hvl] at hs) | ((first | refine stK hs ?_ (by first | omega | (simp only [hvl, cells_bk, cells_sl, List.length_cons, List.length_nil, List.length_set, List.length_append, List.length_map, List.length_replicate, List.length_take, List.length_drop]; omega) | assumption | rfl) | refine stFK hs ?_ (by first | omega | (simp only [hvl, cells_bk, cells_sl, List.length_cons, List.length_nil, List.length_set, List.length_append, List.length_map, List.length_replicate, List.length_take, List.length_drop]; omega) | assumption | rfl) (by first | omega | (simp only [hvl, cells_bk, cells_sl, List.length_cons, List.length_nil, List.length_set, List.length_append, List.length_map, List.length_replicate, List.length_take, List.length_drop]; omega) | assumption | rfl) | refine stAK hs ?_ (by first | omega | (simp only [hvl, cells_bk, cells_sl, List.length_cons, List.length_nil, List.length_set, List.length_append, List.length_map, List.length_replicate, List.length_take, List.length_drop]; omega) | assumption | rfl) (by first | omega | (simp only [hvl, cells_bk, cells_sl, List.length_cons, List.length_nil, List.length_set, List.length_append, List.length_map, List.length_replicate, List.length_take, List.length_drop]; omega) | assumption | rfl) | refine msK hs ?_ (by first | omega | (simp only [hvl, cells_bk, cells_sl, List.length_cons, List.length_nil, List.length_set, List.length_append, List.length_map, List.length_replicate, List.length_take, List.length_drop]; omega) | assumption | rfl)); clear hs; (try clear w); rintro w hs; try simp only [cls] at hs; try simp only [hvl] at hs)))
    by_cases hneg : dg < 0
    · rw [if_pos hneg] at hGo
      subst hGo
      dsimp only at hR hdlen
      (repeat (first | (simp (disch := first | omega | assumption | exact Option.isSome_some | (simp only [adO_isSome]; assumption)) only [↓vcp, vcs, vct, if_true, if_false, Nat.reduceBEq, ↓reduceIte, Nat.reduceEqDiff, Nat.reduceAdd, Nat.reduceMul, Nat.reduceSub, Int.reduceToNat, reduceCtorEq, Nat.reduceLT, Nat.reduceLeDiff, Int.reduceSub, Int.reduceAdd, Int.reduceNeg, Sat.look hs, Sat.lookA hs]) | (refine khK he hs ?_; clear he; intro he) | ((first | refine stK hs ?_ | refine stFK hs ?_ | refine stAK hs ?_ | refine msK hs ?_); clear hs; (try clear w); rintro w hs; try simp only [cls] at hs) | ((first | refine al_ok hs ?_ | refine bx_ok hs ?_ | refine bsvK hs ?_ | refine bs1_ok hs ?_ | refine bs0_ok hs ?_); clear hs; (try clear w); rintro _ w hs; try simp only [cls] at hs)))
      replace hs := Sat.nil hs 5 1; try simp only [cls] at hs
      exact ret_tmp2 rfl (hR _ _ ⟨none, 0, rfl, by simp, hs.sub (.cons _ (.cons _ (List.Sublist.refl _)))⟩)
    rw [if_neg hneg] at hGo
    obtain ⟨d, rfl⟩ := Int.eq_ofNat_of_zero_le (show 0 ≤ dg by omega)
    rw [Int.toNat_natCast] at hGo
    have hT := adv_digs (b := 256) (m := 58) (by decide) (by decide) V d
    have hV2 : 58 * V + d < 256 ^ (i + 1) := by
      rw [Nat.pow_succ]
      omega
    have hTl := digs0_len (b := 256) (by decide) (i + 1) _ hV2
    generalize hVn : 58 * V + d = Vn at *
    generalize hTn : digs0 256 Vn = T at *
    generalize digs0 256 V = L at *
    (repeat (first | (simp (disch := first | omega | assumption | exact Option.isSome_some | (simp only [adO_isSome]; assumption)) only [↓vcp, vcs, vct, if_true, if_false, Nat.reduceBEq, ↓reduceIte, Nat.reduceEqDiff, Nat.reduceAdd, Nat.reduceMul, Nat.reduceSub, Int.reduceToNat, reduceCtorEq, Nat.reduceLT, Nat.reduceLeDiff, Int.reduceSub, Int.reduceAdd, Int.reduceNeg, Sat.look hs, Sat.lookA hs]) | (refine khK he hs ?_; clear he; intro he) | ((first | refine stK hs ?_ | refine stFK hs ?_ | refine stAK hs ?_ | refine msK hs ?_); clear hs; (try clear w); rintro w hs; try simp only [cls] at hs) | ((first | refine al_ok hs ?_ | refine bx_ok hs ?_ | refine bsvK hs ?_ | refine bs1_ok hs ?_ | refine bs0_ok hs ?_); clear hs; (try clear w); rintro _ w hs; try simp only [cls] at hs)))
    refine loop_join (σ := Nat × List Nat) 4 [8] (fun s => [.int .i64 s.1]) [0, 2, 3, 4, 5, 6, 7] (fun s w' => s.1 ≤ 58 ∧ s.2.length = L.length ∧ s.2 ++ digs0 256 s.1 = T ∧ VC.Sat (.at w0) [.bk vb (vals d58 256) 99, .sl pa pc (s.2.map i64n) 3 1] w') ?_ ?_
    · refine loop_rule (σ := Nat × Nat × List Nat) [42, 8] (fun s => [.int .i64 s.1, .int .i64 s.2.1]) [0, 2, 3, 4, 5, 6, 7, 41] (fun s w' => s.1 ≤ L.length ∧ s.2.1 ≤ 58 ∧ s.2.2.length = L.length ∧ (∀ p ∈ s.2.2, p < 256) ∧ s.2.2.take s.1 ++ adv 256 58 (s.2.2.drop s.1) s.2.1 = T ∧ VC.Sat (.at w0) [.bk vb (vals d58 256) 99, .sl pa pc (s.2.2.map i64n) 3 1] w') (fun s _ => L.length - s.1) (0, d, L) (by kernel_rfl) (by rfl) ⟨Nat.zero_le _, by dsimp only; omega, rfl, hdl, hT, hs⟩ ?_
      clear hs
      rintro e ⟨k, cy, cur⟩ w ⟨hk, hcy, hcl, hcd, heq, hs⟩
      dsimp only at hk hcy hcl hcd heq hs ⊢
      simp (disch := first | omega | assumption | exact Option.isSome_some | (simp only [adO_isSome]; assumption)) only [↓vcp, vcs, vct, if_true, if_false, Nat.reduceBEq, ↓reduceIte, Nat.reduceEqDiff, Nat.reduceAdd, Nat.reduceMul, Nat.reduceSub, Int.reduceToNat, reduceCtorEq, Nat.reduceLT, Nat.reduceLeDiff, Int.reduceSub, Int.reduceAdd, Int.reduceNeg, Sat.look hs, Sat.lookA hs]
      by_cases hkl : k < L.length
      case neg =>
        obtain rfl : k = L.length := by omega
        rw [← hcl, List.take_length, List.drop_length] at heq
        (repeat (first | (simp (disch := first | omega | assumption | exact Option.isSome_some | (simp only [adO_isSome]; assumption)) only [↓vcp, vcs, vct, if_true, if_false, Nat.reduceBEq, ↓reduceIte, Nat.reduceEqDiff, Nat.reduceAdd, Nat.reduceMul, Nat.reduceSub, Int.reduceToNat, reduceCtorEq, Nat.reduceLT, Nat.reduceLeDiff, Int.reduceSub, Int.reduceAdd, Int.reduceNeg, Sat.look hs, Sat.lookA hs]) | (refine khK he hs ?_; clear he; intro he) | ((first | refine stK hs ?_ | refine stFK hs ?_ | refine stAK hs ?_ | refine msK hs ?_); clear hs; (try clear w); rintro w hs; try simp only [cls] at hs) | ((first | refine al_ok hs ?_ | refine bx_ok hs ?_ | refine bsvK hs ?_ | refine bs1_ok hs ?_ | refine bs0_ok hs ?_); clear hs; (try clear w); rintro _ w hs; try simp only [cls] at hs)))
        exact ⟨(cy, cur), by rfl, by rfl, hcy, hcl, heq, hs⟩
      obtain ⟨p, hp⟩ : ∃ p, cur[k]? = some p := ⟨_, List.getElem?_eq_getElem (by omega)⟩
      have hp256 := hcd p (List.mem_of_getElem? hp)
      have hg := i64n_get hp
      have hgl : (cur.map i64n).length = L.length := by rw [List.length_map, hcl]
      have hadv := adv_set (b := 256) (m := 58) (c := cy) hp
      have hmul : (p : Int) * 58 = ((p * 58 : Nat) : Int) := by omega
      have hadd : (cy : Int) + ((p * 58 : Nat) : Int) = ((cy + p * 58 : Nat) : Int) := by omega
      have hN : cy + p * 58 ≤ 14848 := by omega
      generalize cy + p * 58 = N at *
      have hband := band255 N (by omega)
      have hshr : Shr .i64 (N : Int) 8 = ((N / 256 : Nat) : Int) := Shr_u .i64 N 8 (by rw [bitsi64]; omega)
      have hps : pa.isSome = true := hs.isSome (a := pa) (xs := cur.map i64n) (by rw [hgl]; omega)
      (repeat (first | (simp (disch := first | omega | assumption | exact Option.isSome_some | (simp only [adO_isSome]; assumption)) only [↓vcp, vcs, vct, if_true, if_false, Nat.reduceBEq, ↓reduceIte, Nat.reduceEqDiff, Nat.reduceAdd, Nat.reduceMul, Nat.reduceSub, Int.reduceToNat, reduceCtorEq, Nat.reduceLT, Nat.reduceLeDiff, Int.reduceSub, Int.reduceAdd, Int.reduceNeg, Sat.look hs, Sat.lookA hs, hg, hmul, hadd, hband, hshr]) | (refine khK he hs ?_; clear he; intro he) | ((first | refine stK hs ?_ | refine stFK hs ?_ | refine stAK hs ?_ | refine msK hs ?_); clear hs; (try clear w); rintro w hs; try simp only [cls] at hs; try simp only [hgl] at hs) | ((first | refine al_ok hs ?_ | refine bx_ok hs ?_ | refine bsvK hs ?_ | refine bs1_ok hs ?_ | refine bs0_ok hs ?_); clear hs; (try clear w); rintro _ w hs; try simp only [cls] at hs; try simp only [hgl] at hs) | ((first | refine stK hs ?_ (by first | omega | (simp only [hgl, cells_bk, cells_sl, List.length_cons, List.length_nil, List.length_set, List.length_append, List.length_map, List.length_replicate, List.length_take, List.length_drop]; omega) | assumption | rfl) | refine stFK hs ?_ (by first | omega | (simp only [hgl, cells_bk, cells_sl, List.length_cons, List.length_nil, List.length_set, List.length_append, List.length_map, List.length_replicate, List.length_take, List.length_drop]; omega) | assumption | rfl) (by first | omega | (simp only [hgl, cells_bk, cells_sl, List.length_cons, List.length_nil, List.length_set, List.length_append, List.length_map, List.length_replicate, List.length_take, List.length_drop]; omega) | assumption | rfl) | refine stAK hs ?_ (by first | omega | (simp only [hgl, cells_bk, cells_sl, List.length_cons, List.length_nil, List.length_set, List.length_append, List.length_map, List.length_replicate, List.length_take, List.length_drop]; omega) | assumption | rfl) (by first | omega | (simp only [hgl, cells_bk, cells_sl, List.length_cons, List.length_nil, List.length_set, List.length_append, List.length_map, List.length_replicate, List.length_take, List.length_drop]; omega) | assumption | rfl) | refine msK hs ?_ (by first | omega | (simp only [hgl, cells_bk, cells_sl, List.length_cons, List.length_nil, List.length_set, List.length_append, List.length_map, List.length_replicate, List.length_take, List.length_drop]; omega) | assumption | rfl)); clear hs; (try clear w); rintro w hs; try simp only [cls] at hs; try simp only [hgl] at hs)))
      rw [show (cur.map i64n).set k (.int .i64 ((N % 256 : Nat) : Int)) = (cur.set k (N % 256)).map i64n by rw [List.map_set]; rfl] at hs
      refine ⟨(k + 1, N / 256, cur.set k (N % 256)), by rfl, by rfl, ⟨by dsimp only; omega, by dsimp only; omega, by dsimp only; rw [List.length_set]; exact hcl, fun q hq => ?_, ?_, hs⟩, by dsimp only; omega⟩
      · dsimp only at hq
        rcases List.mem_or_eq_of_mem_set hq with hq | rfl
        · exact hcd q hq
        · exact Nat.mod_lt _ (by omega)
      · dsimp only
        rw [hadv]
        exact heq
    · clear hs
      rintro e ⟨cy, cur⟩ w ⟨hcy, hcl, heq, hs⟩
      dsimp only at hcy hcl heq hs ⊢
      (repeat (first | (simp (disch := first | omega | assumption | exact Option.isSome_some | (simp only [adO_isSome]; assumption)) only [↓vcp, vcs, vct, if_true, if_false, Nat.reduceBEq, ↓reduceIte, Nat.reduceEqDiff, Nat.reduceAdd, Nat.reduceMul, Nat.reduceSub, Int.reduceToNat, reduceCtorEq, Nat.reduceLT, Nat.reduceLeDiff, Int.reduceSub, Int.reduceAdd, Int.reduceNeg, Sat.look hs, Sat.lookA hs]) | (refine khK he hs ?_; clear he; intro he) | ((first | refine stK hs ?_ | refine stFK hs ?_ | refine stAK hs ?_ | refine msK hs ?_); clear hs; (try clear w); rintro w hs; try simp only [cls] at hs) | ((first | refine al_ok hs ?_ | refine bx_ok hs ?_ | refine bsvK hs ?_ | refine bs1_ok hs ?_ | refine bs0_ok hs ?_); clear hs; (try clear w); rintro _ w hs; try simp only [cls] at hs)))
      refine loop_rule (σ := Nat × Option Addr × Nat × List Nat) [8, 6] (fun s => [.int .i64 s.1, .slice s.2.1 s.2.2.2.length s.2.2.1]) [0, 2, 3, 4, 5, 7] (fun s w' => s.1 ≤ 58 ∧ s.2.2.2.length ≤ s.2.2.1 ∧ s.2.2.2 ++ digs0 256 s.1 = T ∧ VC.Sat (.at w0) [.bk vb (vals d58 256) 99, .sl s.2.1 s.2.2.1 (s.2.2.2.map i64n) 3 1] w') (fun s _ => s.1) (cy, pa, pc, cur) (by kernel_rfl) (by rw [← hcl]; rfl) ⟨hcy, by dsimp only; omega, heq, hs⟩ ?_
      clear hs heq hcy hcl hpc
      rintro e ⟨cy, pa, pc, cur⟩ w ⟨hcy, hpc, heq, hs⟩
      dsimp only at hcy hpc heq hs ⊢
      simp (disch := first | omega | assumption | exact Option.isSome_some | (simp only [adO_isSome]; assumption)) only [↓vcp, vcs, vct, if_true, if_false, Nat.reduceBEq, ↓reduceIte, Nat.reduceEqDiff, Nat.reduceAdd, Nat.reduceMul, Nat.reduceSub, Int.reduceToNat, reduceCtorEq, Nat.reduceLT, Nat.reduceLeDiff, Int.reduceSub, Int.reduceAdd, Int.reduceNeg, Sat.look hs, Sat.lookA hs]
      have hTl2 := congrArg List.length heq
      rw [List.length_append] at hTl2
      by_cases hc0 : 0 < cy
      case neg =>
        obtain rfl : cy = 0 := by omega
        rw [digs0_zero, List.append_nil, ← hTn] at heq
        subst heq
        (repeat (first | (simp (disch := first | omega | assumption | exact Option.isSome_some | (simp only [adO_isSome]; assumption)) only [↓vcp, vcs, vct, if_true, if_false, Nat.reduceBEq, ↓reduceIte, Nat.reduceEqDiff, Nat.reduceAdd, Nat.reduceMul, Nat.reduceSub, Int.reduceToNat, reduceCtorEq, Nat.reduceLT, Nat.reduceLeDiff, Int.reduceSub, Int.reduceAdd, Int.reduceNeg, Sat.look hs, Sat.lookA hs]) | (refine khK he hs ?_; clear he; intro he) | ((first | refine stK hs ?_ | refine stFK hs ?_ | refine stAK hs ?_ | refine msK hs ?_); clear hs; (try clear w); rintro w hs; try simp only [cls] at hs) | ((first | refine al_ok hs ?_ | refine bx_ok hs ?_ | refine bsvK hs ?_ | refine bs1_ok hs ?_ | refine bs0_ok hs ?_); clear hs; (try clear w); rintro _ w hs; try simp only [cls] at hs)))
        exact ⟨(i + 1, Vn, pa, pc), by rfl, by rfl, ⟨by dsimp only; omega, hV2, hGo, hpc, hs⟩, by dsimp only; omega⟩
      rw [digs0_pos (by decide) hc0] at heq
      have hband := band255 cy (by omega)
      have hshr : Shr .i64 (cy : Int) 8 = ((cy / 256 : Nat) : Int) := Shr_u .i64 cy 8 (by rw [bitsi64]; omega)
      (repeat (first | (simp (disch := first | omega | assumption | exact Option.isSome_some | (simp only [adO_isSome]; assumption)) only [↓vcp, vcs, vct, if_true, if_false, Nat.reduceBEq, ↓reduceIte, Nat.reduceEqDiff, Nat.reduceAdd, Nat.reduceMul, Nat.reduceSub, Int.reduceToNat, reduceCtorEq, Nat.reduceLT, Nat.reduceLeDiff, Int.reduceSub, Int.reduceAdd, Int.reduceNeg, Sat.look hs, Sat.lookA hs, hband, hshr]) | (refine khK he hs ?_; clear he; intro he) | ((first | refine stK hs ?_ | refine stFK hs ?_ | refine stAK hs ?_ | refine msK hs ?_); clear hs; (try clear w); rintro w hs; try simp only [cls] at hs) | ((first | refine al_ok hs ?_ | refine bx_ok hs ?_ | refine bsvK hs ?_ | refine bs1_ok hs ?_ | refine bs0_ok hs ?_); clear hs; (try clear w); rintro _ w hs; try simp only [cls] at hs)))
      rename_i l1
      refine apK 1 hs (hs.rd (a := some ⟨l1, 0, none⟩)) ?_; clear hs; (try clear w); rintro a2 c2 w hc2 hs; try simp only [cls] at hs
      have e1 : cur.map i64n ++ [Value.int .i64 ((cy % 256 : Nat) : Int)] = (cur ++ [cy % 256]).map i64n := by simp [i64n]
      rw [e1] at hs
      rw [show cur.length + 1 = (cur ++ [cy % 256]).length by simp] at hc2 ⊢
      (repeat (first | (simp (disch := first | omega | assumption | exact Option.isSome_some | (simp only [adO_isSome]; assumption)) only [↓vcp, vcs, vct, if_true, if_false, Nat.reduceBEq, ↓reduceIte, Nat.reduceEqDiff, Nat.reduceAdd, Nat.reduceMul, Nat.reduceSub, Int.reduceToNat, reduceCtorEq, Nat.reduceLT, Nat.reduceLeDiff, Int.reduceSub, Int.reduceAdd, Int.reduceNeg, Sat.look hs, Sat.lookA hs, hband, hshr]) | (refine khK he hs ?_; clear he; intro he) | ((first | refine stK hs ?_ | refine stFK hs ?_ | refine stAK hs ?_ | refine msK hs ?_); clear hs; (try clear w); rintro w hs; try simp only [cls] at hs) | ((first | refine al_ok hs ?_ | refine bx_ok hs ?_ | refine bsvK hs ?_ | refine bs1_ok hs ?_ | refine bs0_ok hs ?_); clear hs; (try clear w); rintro _ w hs; try simp only [cls] at hs)))
      exact ⟨(cy / 256, a2, c2, cur ++ [cy % 256]), by rfl, by rfl, ⟨by dsimp only; omega, hc2, by dsimp only; rw [← heq, List.append_assoc]; rfl, hs.sub (.cons_cons _ (.cons_cons _ (List.nil_sublist _)))⟩, by dsimp only; omega⟩
end Go.Proofs.YtokoohdpakhphaaDoor.Lnk
