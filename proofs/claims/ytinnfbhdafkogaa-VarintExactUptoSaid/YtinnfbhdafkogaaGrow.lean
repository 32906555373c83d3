/- The book of lists of bytes: what is kept is appended to. -/
import Derived.Test.YtinnfbhdafkogaaBook
namespace Go.Proofs.Ytinnfbhdafkogaa.Book
open Go VC Go.RowKit
set_option linter.unusedSimpArgs false
set_option linter.unusedVariables false
set_option maxRecDepth 20000
set_option maxHeartbeats 4000000
def Kp.ck (k : Kp) : Ck := .sl k.a k.c ((_root_.Go.Proofs.Ytinnfbhdafkogaa.Book.mk k.m k.n).map u8v) 5 1
/-- each list that is kept is the beginning of one of these -/
def covered (ks fs : List Kp) : Prop := ∀ k ∈ ks, ∃ f ∈ fs, f.a = k.a ∧ f.m = k.m ∧ k.n ≤ f.n
theorem covered.more {ks fs : List Kp} (h : covered ks fs) {gs : List Kp} (hg : ∀ f ∈ fs, ∃ g ∈ gs, g.a = f.a ∧ g.m = f.m ∧ f.n ≤ g.n) : covered ks gs := fun k hk => by
  obtain ⟨f, hf, h1, h2, h3⟩ := h k hk
  obtain ⟨g, hg1, h4, h5, h6⟩ := hg f hf
  exact ⟨g, hg1, h4.trans h1, h5.trans h2, by omega⟩
theorem covered_snoc {ks ex : List Kp} {k : Kp} {fs : List Kp} (h : covered (ks ++ ex) (k :: fs)) : covered (ks ++ (ex ++ [k])) (k :: fs) := fun x hx => by
  rw [← List.append_assoc] at hx
  rcases List.mem_append.1 hx with hx | hx
  · exact h x hx
  · obtain rfl := List.mem_singleton.1 hx
    exact ⟨_, List.mem_cons_self, rfl, rfl, Nat.le_refl _⟩
section
variable {S : Cx} {H : List Ck} {w : World} {P : Program} {K : Value → World → Prop} {pan : List PanicEntry → World → Prop} {t sz el by' : Nat} {z : Value}
/-- an append whose two ways meet -/
theorem ap2J (J : Option Addr → Nat → World → Prop) (hs : Sat S H w) {ty : Nat} [h : TSl P t el sz by'] [hz : TZero P el z] {a A : Option Addr} {n cp m d B : Nat} (i : Nat) {xs news : List Value} (hi : H[i]? = some (.sl a cp xs el sz)) (hr : Rd w B A news)
    (hKr : ∀ w', n + m ≤ cp → Sat S (H.set i (.sl a cp (xs ++ news) el sz)) w' → J a cp w')
    (hKg : ∀ a' c' w', cp < n + m → n + m ≤ c' → Sat S (H ++ [.sl a' c' (xs ++ news) el sz]) w' → J a' c' w')
    (hK : ∀ a' c' w', J a' c' w' → K (.slice a' (n + m) c') w') (hzs : z.cells.size = sz) (hsz : 0 < sz)
    (hn : xs.length = n * sz) (hm : 0 < m) (hl : news.length = m * sz) (h1 : news.all (·.oneCell') = true) (hb : (n + m) * by' ≤ 140737488355328) (h63 : n + m ≤ maxLen) : runS .ord P (Builtin.append_ #[t, t] ty #[.slice a n cp, .slice A m d]) K pan w :=
  ap2_ok hs hi hzs hsz hn hr hm hl h1 hb h63 (fun w' h1 h2 => hK _ _ _ (hKr w' h1 h2)) (fun a' c' w' h1 h2 h3 => hK _ _ _ (hKg a' c' w' h1 h2 h3))
end
def bnd (l : List Kp) : Prop := ∀ f ∈ l, f.m ≤ 72057594037927936 ∧ f.n ≤ 1125899906842624
theorem bnd.cons {k : Kp} {l : List Kp} (h : bnd l) (h1 : k.m ≤ 72057594037927936) (h2 : k.n ≤ 1125899906842624) : bnd (k :: l) := fun f hf => by
  rcases List.mem_cons.1 hf with rfl | hf
  · exact ⟨h1, h2⟩
  · exact h f hf
theorem growBytes_calls (S : Cx) (w0 : World) (x : Bk) (old todo fams : List Kp) (hks : x.ks = old ++ todo) (hat : x.at' = old.length) (hcov : covered old fams) (hcap : ∀ k ∈ todo, k.n ≤ 140737488351232 ∧ k.m ≤ 72057594037927936) (hbnd : bnd fams)
    (hlen : x.ks.length + 96 * todo.length ≤ 1099511627776) (hs : Sat S (x.cks ++ (todo ++ fams).map Kp.ck) w0) :
    Calls Try.prog 47 #[.pointer (some ⟨x.b, 0, none⟩)] w0 fun e w' => ∃ (y : Bk) (fs : List Kp), e = .returned (.tuple #[]) ∧ y.b = x.b ∧ y.at' = y.ks.length ∧ y.t = x.t ∧ y.d = x.d ∧ y.u = x.u ∧ y.ks.length ≤ x.ks.length + 96 * todo.length ∧ covered y.ks fs ∧ bnd fs ∧ Sat S (y.cks ++ fs.map Kp.ck) w' := by
  refine calls_vc Try.func47 rfl (by kernel_rfl) (by kernel_rfl) ?_; intro R hR
  obtain ⟨b, ba, bc, oa, oc, ks, at', t, d, u⟩ := x
  unfold Bk.cks Bk.cells at hs
  dsimp only at hs hks hat hlen hR ⊢
  subst hat
  simp only [List.cons_append, List.nil_append] at hs
  (repeat (first | (simp (disch := first | omega | assumption | exact Option.isSome_some | (simp only [adO_isSome]; assumption)) only [↓vcp, vcs, vct, if_true, if_false, Nat.reduceBEq, ↓reduceIte, Nat.reduceEqDiff, Nat.reduceAdd, Nat.reduceMul, Nat.reduceSub, Int.reduceToNat, reduceCtorEq, Nat.reduceLT, Nat.reduceLeDiff, Int.reduceSub, Int.reduceAdd, Int.reduceNeg, Sat.look hs, Sat.lookA hs, bg0, bg2]) | (refine khK he hs ?_; clear he; intro he) | ((first | refine stK hs ?_ | refine stFK hs ?_ | refine stAK hs ?_ | refine msK hs ?_); clear hs; (try clear w); rintro w hs; try simp only [cls] at hs) | ((first | refine al_ok hs ?_ | refine bx_ok hs ?_ | refine bsvK hs ?_ | refine bs1_ok hs ?_ | refine bs0_ok hs ?_); clear hs; (try clear w); rintro _ w hs; try simp only [cls] at hs)))
  generalize hn0 : ks.length = n0 at *
  have hn0' : n0 = old.length + todo.length := by rw [← hn0, hks, List.length_append]
  refine loop_rule (σ := Nat × Option Addr × Nat × Option Addr × Nat × List Kp × List Kp × List Kp) [3] (fun s => [.int .i64 s.1]) [0, 2] (fun s w' => match s with
    | (j, ba, bc, oa, oc, extra, td, fs) => old.length ≤ j ∧ j + td.length = n0 ∧ ks.drop j = td ∧ extra.length ≤ 96 * (j - old.length) ∧ covered (ks ++ extra) (td ++ fs) ∧ bnd fs ∧
      Sat S (.bk b (bcells (.slice ba (n0 + extra.length) bc) (.slice oa (n0 + extra.length) oc) old.length t d u) 55 :: .sl ba bc ((ks ++ extra).map Kp.v) 59 1 :: .sl oa oc ((ks ++ extra).map Kp.mv) 3 1 :: (td ++ fs).map Kp.ck) w')
    (fun s _ => n0 - s.1) (old.length, ba, bc, oa, oc, [], todo, fams) (by kernel_rfl) rfl ⟨Nat.le_refl _, by omega, by rw [hks]; simp, by simp, ?_, hbnd, by simpa using hs⟩ ?_
  · rw [List.append_nil, hks]
    intro k hk
    rcases List.mem_append.1 hk with hk | hk
    · obtain ⟨f, hf, h⟩ := hcov k hk
      exact ⟨f, List.mem_append_right _ hf, h⟩
    · exact ⟨k, List.mem_append_left _ hk, rfl, rfl, Nat.le_refl _⟩
  clear hs
  rintro e ⟨j, ba, bc, oa, oc, extra, td, fs⟩ w ⟨hj, hjt, htd, hex, hcv, hbn, hs⟩
  simp (disch := first | omega | assumption | exact Option.isSome_some | (simp only [adO_isSome]; assumption)) only [↓vcp, vcs, vct, if_true, if_false, Nat.reduceBEq, ↓reduceIte, Nat.reduceEqDiff, Nat.reduceAdd, Nat.reduceMul, Nat.reduceSub, Int.reduceToNat, reduceCtorEq, Nat.reduceLT, Nat.reduceLeDiff, Int.reduceSub, Int.reduceAdd, Int.reduceNeg, Sat.look hs, Sat.lookA hs]
  by_cases hlt : j < n0
  case neg =>
    have htn : td = [] := List.eq_nil_of_length_eq_zero (by omega)
    subst htn
    have bl := blen (.slice ba (n0 + extra.length) bc) (.slice oa (n0 + extra.length) oc) old.length t d u
    have bs : (bcells (.slice ba (n0 + extra.length) bc) (.slice oa (n0 + extra.length) oc) old.length t d u).set 2 (.int .i64 ((n0 + extra.length : Nat) : Int)) = bcells (.slice ba (n0 + extra.length) bc) (.slice oa (n0 + extra.length) oc) ((n0 + extra.length : Nat) : Int) t d u := rfl
    (repeat (first | (simp (disch := first | omega | assumption | exact Option.isSome_some | (simp only [adO_isSome]; assumption)) only [↓vcp, vcs, vct, if_true, if_false, Nat.reduceBEq, ↓reduceIte, Nat.reduceEqDiff, Nat.reduceAdd, Nat.reduceMul, Nat.reduceSub, Int.reduceToNat, reduceCtorEq, Nat.reduceLT, Nat.reduceLeDiff, Int.reduceSub, Int.reduceAdd, Int.reduceNeg, Sat.look hs, Sat.lookA hs, bg0]) | (refine khK he hs ?_; clear he; intro he) | ((first | refine stK hs ?_ | refine stFK hs ?_ | refine stAK hs ?_ | refine msK hs ?_); clear hs; (try clear w); rintro w hs; try simp only [cls] at hs; try simp only [bl, bs] at hs) | ((first | refine al_ok hs ?_ | refine bx_ok hs ?_ | refine bsvK hs ?_ | refine bs1_ok hs ?_ | refine bs0_ok hs ?_); clear hs; (try clear w); rintro _ w hs; try simp only [cls] at hs; try simp only [bl, bs] at hs) | ((first | refine stK hs ?_ (by first | omega | (simp only [bl, bs, cells_bk, cells_sl, List.length_cons, List.length_nil, List.length_set, List.length_append, List.length_map, List.length_replicate, List.length_take, List.length_drop]; omega) | assumption | rfl) | refine stFK hs ?_ (by first | omega | (simp only [bl, bs, cells_bk, cells_sl, List.length_cons, List.length_nil, List.length_set, List.length_append, List.length_map, List.length_replicate, List.length_take, List.length_drop]; omega) | assumption | rfl) (by first | omega | (simp only [bl, bs, cells_bk, cells_sl, List.length_cons, List.length_nil, List.length_set, List.length_append, List.length_map, List.length_replicate, List.length_take, List.length_drop]; omega) | assumption | rfl) | refine stAK hs ?_ (by first | omega | (simp only [bl, bs, cells_bk, cells_sl, List.length_cons, List.length_nil, List.length_set, List.length_append, List.length_map, List.length_replicate, List.length_take, List.length_drop]; omega) | assumption | rfl) (by first | omega | (simp only [bl, bs, cells_bk, cells_sl, List.length_cons, List.length_nil, List.length_set, List.length_append, List.length_map, List.length_replicate, List.length_take, List.length_drop]; omega) | assumption | rfl) | refine msK hs ?_ (by first | omega | (simp only [bl, bs, cells_bk, cells_sl, List.length_cons, List.length_nil, List.length_set, List.length_append, List.length_map, List.length_replicate, List.length_take, List.length_drop]; omega) | assumption | rfl)); clear hs; (try clear w); rintro w hs; try simp only [cls] at hs; try simp only [bl, bs] at hs)))
    have hkl : (ks ++ extra).length = n0 + extra.length := by rw [List.length_append, hn0]
    refine ret_none rfl (hR _ _ ⟨⟨b, ba, bc, oa, oc, ks ++ extra, n0 + extra.length, t, d, u⟩, fs, rfl, rfl, hkl.symm, rfl, rfl, rfl, ?_, hcv, hbn, ?_⟩)
    · dsimp only; rw [hkl]; have : j = n0 := by omega
      subst this; omega
    · unfold Bk.cks Bk.cells
      dsimp only
      rw [hkl]
      exact hs
  case pos =>
    obtain ⟨kp, rest, rfl⟩ : ∃ kp rest, td = kp :: rest := by
      cases td with
      | nil => simp at hjt; omega
      | cons k r => exact ⟨k, r, rfl⟩
    have hkj : (ks ++ extra)[j]? = some kp := by
      rw [List.getElem?_append_left (by omega)]
      have := congrArg (·[0]?) htd
      simpa using this
    have hkt : kp ∈ todo := by
      have h1 : kp ∈ ks.drop j := by rw [htd]; exact List.mem_cons_self
      rw [hks] at h1
      rw [List.drop_append, List.drop_of_length_le hj, List.nil_append] at h1
      exact List.mem_of_mem_drop h1
    obtain ⟨hkn, hkm⟩ := hcap kp hkt
    have g0 : ((ks ++ extra).map Kp.v)[j]? = some (.slice kp.a kp.n kp.c) := by rw [List.getElem?_map, hkj]; rfl
    have g1 : ((ks ++ extra).map Kp.mv)[j]? = some (.int .i64 kp.m) := by rw [List.getElem?_map, hkj]; rfl
    have hl0 : ((ks ++ extra).map Kp.v).length = n0 + extra.length := by rw [List.length_map, List.length_append, hn0]
    have hl1 : ((ks ++ extra).map Kp.mv).length = n0 + extra.length := by rw [List.length_map, List.length_append, hn0]
    have hbs : ba.isSome = true := hs.isSome (a := ba) (xs := (ks ++ extra).map Kp.v) (by rw [hl0]; omega)
    have hos : oa.isSome = true := hs.isSome (a := oa) (xs := (ks ++ extra).map Kp.mv) (by rw [hl1]; omega)
    (repeat (first | (simp (disch := first | omega | assumption | exact Option.isSome_some | (simp only [adO_isSome]; assumption)) only [↓vcp, vcs, vct, if_true, if_false, Nat.reduceBEq, ↓reduceIte, Nat.reduceEqDiff, Nat.reduceAdd, Nat.reduceMul, Nat.reduceSub, Int.reduceToNat, reduceCtorEq, Nat.reduceLT, Nat.reduceLeDiff, Int.reduceSub, Int.reduceAdd, Int.reduceNeg, Sat.look hs, Sat.lookA hs, bg0, bg1, g0, g1]) | (refine khK he hs ?_; clear he; intro he) | ((first | refine stK hs ?_ | refine stFK hs ?_ | refine stAK hs ?_ | refine msK hs ?_); clear hs; (try clear w); rintro w hs; try simp only [cls] at hs) | ((first | refine al_ok hs ?_ | refine bx_ok hs ?_ | refine bsvK hs ?_ | refine bs1_ok hs ?_ | refine bs0_ok hs ?_); clear hs; (try clear w); rintro _ w hs; try simp only [cls] at hs)))
    refine loop_rule (σ := Nat × Option Addr × Nat × Nat × Option Addr × Nat × Option Addr × Nat × List Kp × List Kp) [6, 4] (fun s => [.int .i64 s.1, .slice s.2.1 s.2.2.2.1 s.2.2.1]) [0, 2, 3, 5] (fun s w' => match s with
      | (i, a, c, n, ba, bc, oa, oc, ex, fs) => 1 ≤ i ∧ i ≤ 97 ∧ n + 1 = kp.n + i ∧ ex.length + 1 ≤ 96 * (j - old.length) + i ∧ covered (ks ++ ex) (⟨a, c, n, kp.m⟩ :: (rest ++ fs)) ∧ bnd fs ∧
        Sat S (.bk b (bcells (.slice ba (n0 + ex.length) bc) (.slice oa (n0 + ex.length) oc) old.length t d u) 55 :: .sl ba bc ((ks ++ ex).map Kp.v) 59 1 :: .sl oa oc ((ks ++ ex).map Kp.mv) 3 1 :: .sl a c ((mk kp.m n).map u8v) 5 1 :: (rest ++ fs).map Kp.ck) w')
      (fun s _ => 97 - s.1) (1, kp.a, kp.c, kp.n, ba, bc, oa, oc, extra, fs) (by kernel_rfl) rfl ⟨by omega, by omega, by omega, by omega, by simpa using hcv, hbn, hs⟩ ?_
    clear hs hcv hbn hex hkj g0 g1 hl0 hl1 hbs hos
    rintro e ⟨i, a, c, n, ba, bc, oa, oc, ex, fs⟩ w ⟨hi1, hi2, hn, hex, hcv, hbn, hs⟩
    simp (disch := first | omega | assumption | exact Option.isSome_some | (simp only [adO_isSome]; assumption)) only [↓vcp, vcs, vct, if_true, if_false, Nat.reduceBEq, ↓reduceIte, Nat.reduceEqDiff, Nat.reduceAdd, Nat.reduceMul, Nat.reduceSub, Int.reduceToNat, reduceCtorEq, Nat.reduceLT, Nat.reduceLeDiff, Int.reduceSub, Int.reduceAdd, Int.reduceNeg, Sat.look hs, Sat.lookA hs]
    by_cases hi96 : i ≤ 96
    case neg =>
      (repeat (first | (simp (disch := first | omega | assumption | exact Option.isSome_some | (simp only [adO_isSome]; assumption)) only [↓vcp, vcs, vct, if_true, if_false, Nat.reduceBEq, ↓reduceIte, Nat.reduceEqDiff, Nat.reduceAdd, Nat.reduceMul, Nat.reduceSub, Int.reduceToNat, reduceCtorEq, Nat.reduceLT, Nat.reduceLeDiff, Int.reduceSub, Int.reduceAdd, Int.reduceNeg, Sat.look hs, Sat.lookA hs]) | (refine khK he hs ?_; clear he; intro he) | ((first | refine stK hs ?_ | refine stFK hs ?_ | refine stAK hs ?_ | refine msK hs ?_); clear hs; (try clear w); rintro w hs; try simp only [cls] at hs) | ((first | refine al_ok hs ?_ | refine bx_ok hs ?_ | refine bsvK hs ?_ | refine bs1_ok hs ?_ | refine bs0_ok hs ?_); clear hs; (try clear w); rintro _ w hs; try simp only [cls] at hs)))
      refine ⟨(j + 1, ba, bc, oa, oc, ex, rest, ⟨a, c, n, kp.m⟩ :: fs), by rfl, by rfl, ⟨by omega, by simp at hjt ⊢; omega, ?_, by dsimp only; omega, ?_, hbn.cons hkm (by dsimp only; omega), ?_⟩, by dsimp only; omega⟩
      · rw [← List.drop_drop, htd]; rfl
      · refine hcv.more fun f hf => ⟨f, ?_, rfl, rfl, Nat.le_refl _⟩
        exact (List.perm_middle (a := (⟨a, c, n, kp.m⟩ : Kp)) (l₁ := rest) (l₂ := fs)).mem_iff.2 hf
      · refine hs.perm (List.Perm.cons _ (List.Perm.cons _ (List.Perm.cons _ ?_)))
        exact ((List.perm_middle (a := (⟨a, c, n, kp.m⟩ : Kp)) (l₁ := rest) (l₂ := fs)).map Kp.ck).symm
    case pos =>
      (repeat (first | (simp (disch := first | omega | assumption | exact Option.isSome_some | (simp only [adO_isSome]; assumption)) only [↓vcp, vcs, vct, if_true, if_false, Nat.reduceBEq, ↓reduceIte, Nat.reduceEqDiff, Nat.reduceAdd, Nat.reduceMul, Nat.reduceSub, Int.reduceToNat, reduceCtorEq, Nat.reduceLT, Nat.reduceLeDiff, Int.reduceSub, Int.reduceAdd, Int.reduceNeg, Sat.look hs, Sat.lookA hs]) | (refine khK he hs ?_; clear he; intro he) | ((first | refine stK hs ?_ | refine stFK hs ?_ | refine stAK hs ?_ | refine msK hs ?_); clear hs; (try clear w); rintro w hs; try simp only [cls] at hs) | ((first | refine al_ok hs ?_ | refine bx_ok hs ?_ | refine bsvK hs ?_ | refine bs1_ok hs ?_ | refine bs0_ok hs ?_); clear hs; (try clear w); rintro _ w hs; try simp only [cls] at hs) | (refine call_ok (by kernel_rfl) (at_calls _ kp.m n hkm) ?_; rintro _ _ ⟨rfl, rfl⟩; rw [callK_ret]) | (refine call_still (by kernel_rfl) (at_calls _ kp.m n hkm) ?_)))
      rename_i nb
      have hms : (mk kp.m (n + 1)).map u8v = (mk kp.m n).map u8v ++ [Value.int .u8 ((atB kp.m n).toNat : Int)] := by rw [mk_succ, List.map_append]; rfl
      refine ap2J (m := 1) (fun a' c' w' => n + 1 ≤ c' ∧ ∃ fs', covered (ks ++ ex) (⟨a', c', n + 1, kp.m⟩ :: (rest ++ fs')) ∧ bnd fs' ∧ Sat S (.bk b (bcells (.slice ba (n0 + ex.length) bc) (.slice oa (n0 + ex.length) oc) old.length t d u) 55 :: .sl ba bc ((ks ++ ex).map Kp.v) 59 1 :: .sl oa oc ((ks ++ ex).map Kp.mv) 3 1 :: .sl a' c' ((mk kp.m (n + 1)).map u8v) 5 1 :: (rest ++ fs').map Kp.ck) w')
        hs 3 rfl (hs.rd (a := some ⟨nb, 0, none⟩)) ?_ ?_ ?_ rfl (by omega) (by rw [List.length_map, mk_len]; omega) (by omega) rfl (by simp [Value.oneCell']) (by omega) (by unfold maxLen; omega)
      · intro w' hroom hs'
        refine ⟨hroom, fs, ?_, hbn, ?_⟩
        · refine hcv.more fun f hf => ?_
          rcases List.mem_cons.1 hf with rfl | hf
          · exact ⟨_, List.mem_cons_self, rfl, rfl, Nat.le_succ _⟩
          · exact ⟨f, List.mem_cons_of_mem _ hf, rfl, rfl, Nat.le_refl _⟩
        · have h2 := hs'.sub (H' := _) (.cons_cons _ (.cons_cons _ (.cons_cons _ (.cons_cons _ (List.sublist_append_left _ _)))))
          rw [hms]
          exact h2
      · intro a' c' w' hg hc' hs'
        refine ⟨hc', ⟨a, c, n, kp.m⟩ :: fs, ?_, hbn.cons hkm (by dsimp only; omega), ?_⟩
        · refine hcv.more fun f hf => ⟨f, ?_, rfl, rfl, Nat.le_refl _⟩
          refine List.mem_cons_of_mem _ ?_
          exact (List.perm_middle (a := (⟨a, c, n, kp.m⟩ : Kp)) (l₁ := rest) (l₂ := fs)).mem_iff.2 hf
        · have h2 : Sat S (.bk b (bcells (.slice ba (n0 + ex.length) bc) (.slice oa (n0 + ex.length) oc) old.length t d u) 55 :: .sl ba bc ((ks ++ ex).map Kp.v) 59 1 :: .sl oa oc ((ks ++ ex).map Kp.mv) 3 1 :: .sl a c ((mk kp.m n).map u8v) 5 1 :: ((rest ++ fs).map Kp.ck ++ [.sl a' c' ((mk kp.m (n + 1)).map u8v) 5 1])) w' := by
            rw [hms]
            have hs2 : Sat S (.bk b (bcells (.slice ba (n0 + ex.length) bc) (.slice oa (n0 + ex.length) oc) old.length t d u) 55 :: .sl ba bc ((ks ++ ex).map Kp.v) 59 1 :: .sl oa oc ((ks ++ ex).map Kp.mv) 3 1 :: .sl a c ((mk kp.m n).map u8v) 5 1 :: (((rest ++ fs).map Kp.ck ++ [.sl (some ⟨nb, 0, none⟩) 1 [.int .u8 ((atB kp.m n).toNat : Int)] 5 1]) ++ [.sl a' c' ((mk kp.m n).map u8v ++ [.int .u8 ((atB kp.m n).toNat : Int)]) 5 1])) w' := hs'
            exact hs2.sub (.cons_cons _ (.cons_cons _ (.cons_cons _ (.cons_cons _ (List.Sublist.append_right (List.sublist_append_left _ _) _)))))
          refine h2.perm (List.Perm.cons _ (List.Perm.cons _ (List.Perm.cons _ ?_)))
          refine (List.perm_append_comm (l₁ := .sl a c ((mk kp.m n).map u8v) 5 1 :: (rest ++ fs).map Kp.ck) (l₂ := [.sl a' c' ((mk kp.m (n + 1)).map u8v) 5 1])).trans (List.Perm.cons _ ?_)
          exact ((List.perm_middle (a := (⟨a, c, n, kp.m⟩ : Kp)) (l₁ := rest) (l₂ := fs)).map Kp.ck).symm
      clear hs hcv hbn
      clear w
      rintro a2 c2 w ⟨hc2', fs2, hcv, hbn, hs⟩
      by_cases h4 : i < 4
      case pos =>
        (repeat (first | (simp (disch := first | omega | assumption | exact Option.isSome_some | (simp only [adO_isSome]; assumption)) only [↓vcp, vcs, vct, if_true, if_false, Nat.reduceBEq, ↓reduceIte, Nat.reduceEqDiff, Nat.reduceAdd, Nat.reduceMul, Nat.reduceSub, Int.reduceToNat, reduceCtorEq, Nat.reduceLT, Nat.reduceLeDiff, Int.reduceSub, Int.reduceAdd, Int.reduceNeg, Sat.look hs, Sat.lookA hs, bg0, bg1, tmod_lit]) | (refine khK he hs ?_; clear he; intro he) | ((first | refine stK hs ?_ | refine stFK hs ?_ | refine stAK hs ?_ | refine msK hs ?_); clear hs; (try clear w); rintro w hs; try simp only [cls] at hs) | ((first | refine al_ok hs ?_ | refine bx_ok hs ?_ | refine bsvK hs ?_ | refine bs1_ok hs ?_ | refine bs0_ok hs ?_); clear hs; (try clear w); rintro _ w hs; try simp only [cls] at hs)))
        refine apK 1 hs (hs.rd) ?_; clear hs; (try clear w); rintro ba2 bc2 w hc2 hs; try simp only [cls] at hs
        have bl := blen (.slice ba (n0 + ex.length) bc) (.slice oa (n0 + ex.length) oc) old.length t d u
        have bs0 : (bcells (.slice ba (n0 + ex.length) bc) (.slice oa (n0 + ex.length) oc) old.length t d u).set 0 (.slice ba2 (n0 + ex.length + 1) bc2) = bcells (.slice ba2 (n0 + ex.length + 1) bc2) (.slice oa (n0 + ex.length) oc) old.length t d u := rfl
        (repeat (first | (simp (disch := first | omega | assumption | exact Option.isSome_some | (simp only [adO_isSome]; assumption)) only [↓vcp, vcs, vct, if_true, if_false, Nat.reduceBEq, ↓reduceIte, Nat.reduceEqDiff, Nat.reduceAdd, Nat.reduceMul, Nat.reduceSub, Int.reduceToNat, reduceCtorEq, Nat.reduceLT, Nat.reduceLeDiff, Int.reduceSub, Int.reduceAdd, Int.reduceNeg, Sat.look hs, Sat.lookA hs, bg0, bg1]) | (refine khK he hs ?_; clear he; intro he) | ((first | refine stK hs ?_ | refine stFK hs ?_ | refine stAK hs ?_ | refine msK hs ?_); clear hs; (try clear w); rintro w hs; try simp only [cls] at hs; try simp only [bl, bs0] at hs) | ((first | refine al_ok hs ?_ | refine bx_ok hs ?_ | refine bsvK hs ?_ | refine bs1_ok hs ?_ | refine bs0_ok hs ?_); clear hs; (try clear w); rintro _ w hs; try simp only [cls] at hs; try simp only [bl, bs0] at hs) | ((first | refine stK hs ?_ (by first | omega | (simp only [bl, bs0, cells_bk, cells_sl, List.length_cons, List.length_nil, List.length_set, List.length_append, List.length_map, List.length_replicate, List.length_take, List.length_drop]; omega) | assumption | rfl) | refine stFK hs ?_ (by first | omega | (simp only [bl, bs0, cells_bk, cells_sl, List.length_cons, List.length_nil, List.length_set, List.length_append, List.length_map, List.length_replicate, List.length_take, List.length_drop]; omega) | assumption | rfl) (by first | omega | (simp only [bl, bs0, cells_bk, cells_sl, List.length_cons, List.length_nil, List.length_set, List.length_append, List.length_map, List.length_replicate, List.length_take, List.length_drop]; omega) | assumption | rfl) | refine stAK hs ?_ (by first | omega | (simp only [bl, bs0, cells_bk, cells_sl, List.length_cons, List.length_nil, List.length_set, List.length_append, List.length_map, List.length_replicate, List.length_take, List.length_drop]; omega) | assumption | rfl) (by first | omega | (simp only [bl, bs0, cells_bk, cells_sl, List.length_cons, List.length_nil, List.length_set, List.length_append, List.length_map, List.length_replicate, List.length_take, List.length_drop]; omega) | assumption | rfl) | refine msK hs ?_ (by first | omega | (simp only [bl, bs0, cells_bk, cells_sl, List.length_cons, List.length_nil, List.length_set, List.length_append, List.length_map, List.length_replicate, List.length_take, List.length_drop]; omega) | assumption | rfl)); clear hs; (try clear w); rintro w hs; try simp only [cls] at hs; try simp only [bl, bs0] at hs)))
        refine apK 1 hs (hs.rd) ?_; clear hs; (try clear w); rintro oa2 oc2 w hc3 hs; try simp only [cls] at hs
        have bl2 := blen (.slice ba2 (n0 + ex.length + 1) bc2) (.slice oa (n0 + ex.length) oc) old.length t d u
        have bs1 : (bcells (.slice ba2 (n0 + ex.length + 1) bc2) (.slice oa (n0 + ex.length) oc) old.length t d u).set 1 (.slice oa2 (n0 + ex.length + 1) oc2) = bcells (.slice ba2 (n0 + ex.length + 1) bc2) (.slice oa2 (n0 + ex.length + 1) oc2) old.length t d u := rfl
        (repeat (first | (simp (disch := first | omega | assumption | exact Option.isSome_some | (simp only [adO_isSome]; assumption)) only [↓vcp, vcs, vct, if_true, if_false, Nat.reduceBEq, ↓reduceIte, Nat.reduceEqDiff, Nat.reduceAdd, Nat.reduceMul, Nat.reduceSub, Int.reduceToNat, reduceCtorEq, Nat.reduceLT, Nat.reduceLeDiff, Int.reduceSub, Int.reduceAdd, Int.reduceNeg, Sat.look hs, Sat.lookA hs, bg0, bg1]) | (refine khK he hs ?_; clear he; intro he) | ((first | refine stK hs ?_ | refine stFK hs ?_ | refine stAK hs ?_ | refine msK hs ?_); clear hs; (try clear w); rintro w hs; try simp only [cls] at hs; try simp only [bl2, bs1] at hs) | ((first | refine al_ok hs ?_ | refine bx_ok hs ?_ | refine bsvK hs ?_ | refine bs1_ok hs ?_ | refine bs0_ok hs ?_); clear hs; (try clear w); rintro _ w hs; try simp only [cls] at hs; try simp only [bl2, bs1] at hs) | ((first | refine stK hs ?_ (by first | omega | (simp only [bl2, bs1, cells_bk, cells_sl, List.length_cons, List.length_nil, List.length_set, List.length_append, List.length_map, List.length_replicate, List.length_take, List.length_drop]; omega) | assumption | rfl) | refine stFK hs ?_ (by first | omega | (simp only [bl2, bs1, cells_bk, cells_sl, List.length_cons, List.length_nil, List.length_set, List.length_append, List.length_map, List.length_replicate, List.length_take, List.length_drop]; omega) | assumption | rfl) (by first | omega | (simp only [bl2, bs1, cells_bk, cells_sl, List.length_cons, List.length_nil, List.length_set, List.length_append, List.length_map, List.length_replicate, List.length_take, List.length_drop]; omega) | assumption | rfl) | refine stAK hs ?_ (by first | omega | (simp only [bl2, bs1, cells_bk, cells_sl, List.length_cons, List.length_nil, List.length_set, List.length_append, List.length_map, List.length_replicate, List.length_take, List.length_drop]; omega) | assumption | rfl) (by first | omega | (simp only [bl2, bs1, cells_bk, cells_sl, List.length_cons, List.length_nil, List.length_set, List.length_append, List.length_map, List.length_replicate, List.length_take, List.length_drop]; omega) | assumption | rfl) | refine msK hs ?_ (by first | omega | (simp only [bl2, bs1, cells_bk, cells_sl, List.length_cons, List.length_nil, List.length_set, List.length_append, List.length_map, List.length_replicate, List.length_take, List.length_drop]; omega) | assumption | rfl)); clear hs; (try clear w); rintro w hs; try simp only [cls] at hs; try simp only [bl2, bs1] at hs)))
        replace hs := hs.sub (H' := _) (.cons_cons _ (.cons_cons _ (.cons_cons _ (.cons_cons _ (List.sublist_append_left _ _)))))
        have e1 : n0 + (ex ++ [(⟨a2, c2, n + 1, kp.m⟩ : Kp)]).length = n0 + ex.length + 1 := by rw [List.length_append, List.length_singleton]; omega
        have e2 : (ks ++ (ex ++ [(⟨a2, c2, n + 1, kp.m⟩ : Kp)])).map Kp.v = (ks ++ ex).map Kp.v ++ [.slice a2 (n + 1) c2] := by rw [← List.append_assoc, List.map_append]; rfl
        have e3 : (ks ++ (ex ++ [(⟨a2, c2, n + 1, kp.m⟩ : Kp)])).map Kp.mv = (ks ++ ex).map Kp.mv ++ [.int .i64 kp.m] := by rw [← List.append_assoc, List.map_append]; rfl
        refine ⟨(i + 1, a2, c2, n + 1, ba2, bc2, oa2, oc2, ex ++ [⟨a2, c2, n + 1, kp.m⟩], fs2), by rfl, by rfl, ⟨by dsimp only; omega, by dsimp only; omega, by dsimp only; omega, by dsimp only; rw [List.length_append, List.length_singleton]; omega, covered_snoc hcv, hbn, ?_⟩, by dsimp only; omega⟩
        dsimp only
        rw [e1, e2, e3]
        exact hs
      case neg =>
        by_cases h16 : i % 16 = 0
        case pos =>
          (repeat (first | (simp (disch := first | omega | assumption | exact Option.isSome_some | (simp only [adO_isSome]; assumption)) only [↓vcp, vcs, vct, if_true, if_false, Nat.reduceBEq, ↓reduceIte, Nat.reduceEqDiff, Nat.reduceAdd, Nat.reduceMul, Nat.reduceSub, Int.reduceToNat, reduceCtorEq, Nat.reduceLT, Nat.reduceLeDiff, Int.reduceSub, Int.reduceAdd, Int.reduceNeg, Sat.look hs, Sat.lookA hs, bg0, bg1, tmod_lit]) | (refine khK he hs ?_; clear he; intro he) | ((first | refine stK hs ?_ | refine stFK hs ?_ | refine stAK hs ?_ | refine msK hs ?_); clear hs; (try clear w); rintro w hs; try simp only [cls] at hs) | ((first | refine al_ok hs ?_ | refine bx_ok hs ?_ | refine bsvK hs ?_ | refine bs1_ok hs ?_ | refine bs0_ok hs ?_); clear hs; (try clear w); rintro _ w hs; try simp only [cls] at hs)))
          refine apK 1 hs (hs.rd) ?_; clear hs; (try clear w); rintro ba2 bc2 w hc2 hs; try simp only [cls] at hs
          have bl := blen (.slice ba (n0 + ex.length) bc) (.slice oa (n0 + ex.length) oc) old.length t d u
          have bs0 : (bcells (.slice ba (n0 + ex.length) bc) (.slice oa (n0 + ex.length) oc) old.length t d u).set 0 (.slice ba2 (n0 + ex.length + 1) bc2) = bcells (.slice ba2 (n0 + ex.length + 1) bc2) (.slice oa (n0 + ex.length) oc) old.length t d u := rfl
          (repeat (first | (simp (disch := first | omega | assumption | exact Option.isSome_some | (simp only [adO_isSome]; assumption)) only [↓vcp, vcs, vct, if_true, if_false, Nat.reduceBEq, ↓reduceIte, Nat.reduceEqDiff, Nat.reduceAdd, Nat.reduceMul, Nat.reduceSub, Int.reduceToNat, reduceCtorEq, Nat.reduceLT, Nat.reduceLeDiff, Int.reduceSub, Int.reduceAdd, Int.reduceNeg, Sat.look hs, Sat.lookA hs, bg0, bg1]) | (refine khK he hs ?_; clear he; intro he) | ((first | refine stK hs ?_ | refine stFK hs ?_ | refine stAK hs ?_ | refine msK hs ?_); clear hs; (try clear w); rintro w hs; try simp only [cls] at hs; try simp only [bl, bs0] at hs) | ((first | refine al_ok hs ?_ | refine bx_ok hs ?_ | refine bsvK hs ?_ | refine bs1_ok hs ?_ | refine bs0_ok hs ?_); clear hs; (try clear w); rintro _ w hs; try simp only [cls] at hs; try simp only [bl, bs0] at hs) | ((first | refine stK hs ?_ (by first | omega | (simp only [bl, bs0, cells_bk, cells_sl, List.length_cons, List.length_nil, List.length_set, List.length_append, List.length_map, List.length_replicate, List.length_take, List.length_drop]; omega) | assumption | rfl) | refine stFK hs ?_ (by first | omega | (simp only [bl, bs0, cells_bk, cells_sl, List.length_cons, List.length_nil, List.length_set, List.length_append, List.length_map, List.length_replicate, List.length_take, List.length_drop]; omega) | assumption | rfl) (by first | omega | (simp only [bl, bs0, cells_bk, cells_sl, List.length_cons, List.length_nil, List.length_set, List.length_append, List.length_map, List.length_replicate, List.length_take, List.length_drop]; omega) | assumption | rfl) | refine stAK hs ?_ (by first | omega | (simp only [bl, bs0, cells_bk, cells_sl, List.length_cons, List.length_nil, List.length_set, List.length_append, List.length_map, List.length_replicate, List.length_take, List.length_drop]; omega) | assumption | rfl) (by first | omega | (simp only [bl, bs0, cells_bk, cells_sl, List.length_cons, List.length_nil, List.length_set, List.length_append, List.length_map, List.length_replicate, List.length_take, List.length_drop]; omega) | assumption | rfl) | refine msK hs ?_ (by first | omega | (simp only [bl, bs0, cells_bk, cells_sl, List.length_cons, List.length_nil, List.length_set, List.length_append, List.length_map, List.length_replicate, List.length_take, List.length_drop]; omega) | assumption | rfl)); clear hs; (try clear w); rintro w hs; try simp only [cls] at hs; try simp only [bl, bs0] at hs)))
          refine apK 1 hs (hs.rd) ?_; clear hs; (try clear w); rintro oa2 oc2 w hc3 hs; try simp only [cls] at hs
          have bl2 := blen (.slice ba2 (n0 + ex.length + 1) bc2) (.slice oa (n0 + ex.length) oc) old.length t d u
          have bs1 : (bcells (.slice ba2 (n0 + ex.length + 1) bc2) (.slice oa (n0 + ex.length) oc) old.length t d u).set 1 (.slice oa2 (n0 + ex.length + 1) oc2) = bcells (.slice ba2 (n0 + ex.length + 1) bc2) (.slice oa2 (n0 + ex.length + 1) oc2) old.length t d u := rfl
          (repeat (first | (simp (disch := first | omega | assumption | exact Option.isSome_some | (simp only [adO_isSome]; assumption)) only [↓vcp, vcs, vct, if_true, if_false, Nat.reduceBEq, ↓reduceIte, Nat.reduceEqDiff, Nat.reduceAdd, Nat.reduceMul, Nat.reduceSub, Int.reduceToNat, reduceCtorEq, Nat.reduceLT, Nat.reduceLeDiff, Int.reduceSub, Int.reduceAdd, Int.reduceNeg, Sat.look hs, Sat.lookA hs, bg0, bg1]) | (refine khK he hs ?_; clear he; intro he) | ((first | refine stK hs ?_ | refine stFK hs ?_ | refine stAK hs ?_ | refine msK hs ?_); clear hs; (try clear w); rintro w hs; try simp only [cls] at hs; try simp only [bl2, bs1] at hs) | ((first | refine al_ok hs ?_ | refine bx_ok hs ?_ | refine bsvK hs ?_ | refine bs1_ok hs ?_ | refine bs0_ok hs ?_); clear hs; (try clear w); rintro _ w hs; try simp only [cls] at hs; try simp only [bl2, bs1] at hs) | ((first | refine stK hs ?_ (by first | omega | (simp only [bl2, bs1, cells_bk, cells_sl, List.length_cons, List.length_nil, List.length_set, List.length_append, List.length_map, List.length_replicate, List.length_take, List.length_drop]; omega) | assumption | rfl) | refine stFK hs ?_ (by first | omega | (simp only [bl2, bs1, cells_bk, cells_sl, List.length_cons, List.length_nil, List.length_set, List.length_append, List.length_map, List.length_replicate, List.length_take, List.length_drop]; omega) | assumption | rfl) (by first | omega | (simp only [bl2, bs1, cells_bk, cells_sl, List.length_cons, List.length_nil, List.length_set, List.length_append, List.length_map, List.length_replicate, List.length_take, List.length_drop]; omega) | assumption | rfl) | refine stAK hs ?_ (by first | omega | (simp only [bl2, bs1, cells_bk, cells_sl, List.length_cons, List.length_nil, List.length_set, List.length_append, List.length_map, List.length_replicate, List.length_take, List.length_drop]; omega) | assumption | rfl) (by first | omega | (simp only [bl2, bs1, cells_bk, cells_sl, List.length_cons, List.length_nil, List.length_set, List.length_append, List.length_map, List.length_replicate, List.length_take, List.length_drop]; omega) | assumption | rfl) | refine msK hs ?_ (by first | omega | (simp only [bl2, bs1, cells_bk, cells_sl, List.length_cons, List.length_nil, List.length_set, List.length_append, List.length_map, List.length_replicate, List.length_take, List.length_drop]; omega) | assumption | rfl)); clear hs; (try clear w); rintro w hs; try simp only [cls] at hs; try simp only [bl2, bs1] at hs)))
          replace hs := hs.sub (H' := _) (.cons_cons _ (.cons_cons _ (.cons_cons _ (.cons_cons _ (List.sublist_append_left _ _)))))
          have e1 : n0 + (ex ++ [(⟨a2, c2, n + 1, kp.m⟩ : Kp)]).length = n0 + ex.length + 1 := by rw [List.length_append, List.length_singleton]; omega
          have e2 : (ks ++ (ex ++ [(⟨a2, c2, n + 1, kp.m⟩ : Kp)])).map Kp.v = (ks ++ ex).map Kp.v ++ [.slice a2 (n + 1) c2] := by rw [← List.append_assoc, List.map_append]; rfl
          have e3 : (ks ++ (ex ++ [(⟨a2, c2, n + 1, kp.m⟩ : Kp)])).map Kp.mv = (ks ++ ex).map Kp.mv ++ [.int .i64 kp.m] := by rw [← List.append_assoc, List.map_append]; rfl
          refine ⟨(i + 1, a2, c2, n + 1, ba2, bc2, oa2, oc2, ex ++ [⟨a2, c2, n + 1, kp.m⟩], fs2), by rfl, by rfl, ⟨by dsimp only; omega, by dsimp only; omega, by dsimp only; omega, by dsimp only; rw [List.length_append, List.length_singleton]; omega, covered_snoc hcv, hbn, ?_⟩, by dsimp only; omega⟩
          dsimp only
          rw [e1, e2, e3]
          exact hs
        case neg =>
          (repeat (first | (simp (disch := first | omega | assumption | exact Option.isSome_some | (simp only [adO_isSome]; assumption)) only [↓vcp, vcs, vct, if_true, if_false, Nat.reduceBEq, ↓reduceIte, Nat.reduceEqDiff, Nat.reduceAdd, Nat.reduceMul, Nat.reduceSub, Int.reduceToNat, reduceCtorEq, Nat.reduceLT, Nat.reduceLeDiff, Int.reduceSub, Int.reduceAdd, Int.reduceNeg, Sat.look hs, Sat.lookA hs, tmod_lit]) | (refine khK he hs ?_; clear he; intro he) | ((first | refine stK hs ?_ | refine stFK hs ?_ | refine stAK hs ?_ | refine msK hs ?_); clear hs; (try clear w); rintro w hs; try simp only [cls] at hs) | ((first | refine al_ok hs ?_ | refine bx_ok hs ?_ | refine bsvK hs ?_ | refine bs1_ok hs ?_ | refine bs0_ok hs ?_); clear hs; (try clear w); rintro _ w hs; try simp only [cls] at hs)))
          exact ⟨(i + 1, a2, c2, n + 1, ba, bc, oa, oc, ex, fs2), by rfl, by rfl, ⟨by dsimp only; omega, by dsimp only; omega, by dsimp only; omega, by dsimp only; omega, hcv, hbn, hs⟩, by dsimp only; omega⟩
end Go.Proofs.Ytinnfbhdafkogaa.Book
