/- An append that leaves the old row to be read: in its place where there is room, else in a new row. No statement about the program stands here. -/
import Derived.Test.YtokoohdpakhphaaGreatDoorBun
import Derived.ArgAppend
namespace Go.Proofs.YtokoohdpakhphaaGreatDoor.VC
open Go Go.RowKit
set_option linter.unusedVariables false
section
variable {S : Cx} {H : List Ck} {w : World} {P : Program} {K : Value → World → Prop} {pan : List PanicEntry → World → Prop} {t sz el by' : Nat} {z : Value}
theorem ap2_ok (hs : Sat S H w) {ty : Nat} [h : TSl P t el sz by'] [hz : TZero P el z] {a A : Option Addr} {n cp m d B i : Nat} {xs news : List Value} (hi : H[i]? = some (.sl a cp xs el sz)) (hzs : z.cells.size = sz) (hsz : 0 < sz)
    (hn : xs.length = n * sz) (hr : Rd w B A news) (hm : 0 < m) (hl : news.length = m * sz) (h1 : news.all (·.oneCell') = true) (hb : (n + m) * by' ≤ 140737488355328) (h63 : n + m ≤ maxLen)
    (hKr : ∀ w', n + m ≤ cp → Sat S (H.set i (.sl a cp (xs ++ news) el sz)) w' → K (.slice a (n + m) cp) w')
    (hKg : ∀ a' c' w', cp < n + m → n + m ≤ c' → Sat S (H ++ [.sl a' c' (xs ++ news) el sz]) w' → K (.slice a' (n + m) c') w') : runS .ord P (Builtin.append_ #[t, t] ty #[.slice a n cp, .slice A m d]) K pan w := by
  have hh : SlH w a cp xs el sz := hs.holds _ (List.mem_of_getElem? hi)
  have hown := hh.own hsz hn
  obtain ⟨inf, hinf, hiz, his, hib⟩ := TSl.info h hz
  have hne : news ≠ [] := fun e => by
    subst e
    have := Nat.mul_pos hm hsz
    simp at hl; omega
  obtain ⟨ad, rfl, _, hc⟩ := hr hne
  have hnews : ∀ j u, news[j]? = some u → w.cell? (ad.add j) = some u := by
    intro j u hu
    obtain ⟨hj, hju⟩ := List.getElem?_eq_some_iff.1 hu
    rw [hc j hj, hju]
  by_cases hroom : n + m ≤ cp
  · obtain ⟨v', w', hrun, h2, h3, _, h5⟩ := run_append_own_at (P := P) w 0 t ty el inf z sz by' h.u hinf hiz his hib hzs hsz _ n xs hown ad m d news hl hnews (fun u hu => List.all_eq_true.1 h1 u hu) h63 hb (Nat.zero_le _)
    rcases hown.form with ⟨_, _, h0, _⟩ | ⟨g, cur, rfl, hg0, hg1, hg2, hg3, hg4, hg5⟩
    · omega
    · have hcell : ∀ j, j < news.length → ∃ c, cur[n * sz + j]? = some c := fun j hj => by
        refine ⟨_, Array.getElem?_eq_getElem ?_⟩
        rw [hg4]
        have : (n + m) * sz ≤ cp * sz := Nat.mul_le_mul_right _ hroom
        rw [Nat.add_mul] at this
        omega
      have hrun2 := run_append_room_cells (P := P) w t ty el inf h.u hinf g 0 n cp ad m d news (by rw [his]; exact hl) hnews (fun u hu => List.all_eq_true.1 h1 u hu) hroom
        (fun j hj => by
          obtain ⟨c, hc⟩ := hcell j hj
          rw [his, Nat.zero_add]
          simp [World.cell?, hg1, hc])
        (fun j hj => by
          rw [his, Nat.zero_add]
          simp [World.frozen?, hg1])
      rw [hrun] at hrun2
      injection hrun2 with e1 e2
      subst e1
      rw [runS_ok hrun]
      refine hKr w' hroom (hs.upd1 i hi (local1 h3.os h3.tape h3.output h3.size (fun k hk hnf => h3.block k hk fun e => hnf ?_) (Own.slH (n := n + m) h2) fun k hk => ⟨SlH.lt (Own.slH (n := n + m) h2) hk, fun hlt => ?_⟩))
      · injection e with e; exact ⟨_, rfl, e.symm⟩
      · exact hk
  · have hgrow : ∃ v' w', (Builtin.append_ #[t, t] ty #[.slice a n cp, .slice (some ad) m d]).run P w = .ok v' w' ∧ w'.ownsRow w.heap.size el sz v' (n + m) (xs ++ news) ∧ w.grownBy w' none := by
      rcases hown.form with ⟨rfl, rfl, rfl, rfl⟩ | ⟨g, cur, rfl, hg0, hg1, hg2, hg3, hg4, hg5⟩
      · obtain ⟨v', w', hrun, h2, h3, h4, h5⟩ := run_append_own_at (P := P) w w.heap.size t ty el inf z sz by' h.u hinf hiz his hib hzs hsz _ 0 [] (World.ownsRow_nil w w.heap.size el sz) ad m d news hl hnews (fun u hu => List.all_eq_true.1 h1 u hu) h63 hb (Nat.le_refl _)
        exact ⟨v', w', hrun, h2, h3⟩
      · exact run_append_arg_grows (P := P) w t ty el inf z sz by' h.u hinf hiz his hib hzs hsz ⟨g, 0, none⟩ n cp xs hn (fun j u hu => World.ownsRow.cells (v := .slice (some ⟨g, 0, none⟩) n cp) hown rfl j _ hu) ad m d news hl hnews (by omega) h63 hb
    obtain ⟨v', w', hrun, h2, h3⟩ := hgrow
    have hform : ∃ a' c', v' = .slice a' (n + m) c' := by
      rcases h2.2 with ⟨rfl, hx⟩ | ⟨g, cap, cur, rfl, _⟩
      · omega
      · exact ⟨_, _, rfl⟩
    obtain ⟨a', c', rfl⟩ := hform
    have hown' : Own w' w.heap.size el sz a' (n + m) c' (xs ++ news) := h2
    rw [runS_ok hrun]
    have hnc : n + m ≤ c' := by rcases hown'.form with ⟨_, h, _⟩ | ⟨_, _, _, _, _, h, _⟩ <;> omega
    exact hKg a' c' w' (by omega) hnc (hs.add (local0 h3.os h3.tape h3.output h3.size (fun k hk => h3.block k hk (by simp)) hown'.slH fun k hk => ⟨SlH.lt hown'.slH hk, by
      obtain ⟨ad, rfl, rfl⟩ := hk
      exact (hown'.block ad.block rfl).1⟩))
end
end Go.Proofs.YtokoohdpakhphaaGreatDoor.VC
