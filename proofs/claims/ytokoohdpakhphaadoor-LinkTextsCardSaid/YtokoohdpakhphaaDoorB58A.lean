/- Several texts in one. -/
import Derived.Test.YtokoohdpakhphaaDoorVcOps
import Derived.Test.YtokoohdpakhphaaDoorLnkD
namespace Go.Proofs.YtokoohdpakhphaaDoor.Lnk
open Go VC
set_option linter.unusedVariables false
set_option linter.unusedSimpArgs false
/-- the number that digits are in a base, the lowest first -/
def val (b : Nat) : List Nat → Nat
  | [] => 0
  | p :: ps => p + b * val b ps
/-- the digits of a number, the lowest first, none where it is 0 -/
def digs0 (b n : Nat) : List Nat := if 0 < n ∧ 1 < b then n % b :: digs0 b (n / b) else []
termination_by n
decreasing_by exact Nat.div_lt_self (by omega) (by omega)
theorem digs0_pos {b n : Nat} (hb : 1 < b) (hn : 0 < n) : digs0 b n = n % b :: digs0 b (n / b) := by rw [digs0, if_pos ⟨hn, hb⟩]
theorem digs0_zero (b : Nat) : digs0 b 0 = [] := by rw [digs0, if_neg (by omega)]
/-- what is read as digits and multiplied, a number being added: digit by digit -/
def adv (b m : Nat) : List Nat → Nat → List Nat
  | [], c => digs0 b c
  | p :: ps, c => (c + p * m) % b :: adv b m ps ((c + p * m) / b)
theorem val_digs0 {b : Nat} (hb : 1 < b) : ∀ (f n : Nat), n ≤ f → val b (digs0 b n) = n
  | 0, n, h => by
    obtain rfl : n = 0 := by omega
    rw [digs0_zero]; rfl
  | f + 1, n, h => by
    by_cases hn : 0 < n
    · rw [digs0_pos hb hn]
      have hlt := Nat.div_lt_self hn hb
      show n % b + b * val b (digs0 b (n / b)) = n
      rw [val_digs0 hb f (n / b) (by omega)]
      exact Nat.mod_add_div n b
    · obtain rfl : n = 0 := by omega
      rw [digs0_zero]; rfl
theorem val_adv {b m : Nat} (hb : 1 < b) : ∀ (ps : List Nat) (c : Nat), val b (adv b m ps c) = m * val b ps + c
  | [], c => by
    show val b (digs0 b c) = _
    rw [val_digs0 hb c c (Nat.le_refl _)]
    simp [val]
  | p :: ps, c => by
    show (c + p * m) % b + b * val b (adv b m ps ((c + p * m) / b)) = m * (p + b * val b ps) + c
    rw [val_adv hb ps]
    have h := Nat.mod_add_div (c + p * m) b
    have e1 : b * (m * val b ps + (c + p * m) / b) = m * (b * val b ps) + b * ((c + p * m) / b) := by
      rw [Nat.mul_add, Nat.mul_left_comm]
    have e2 : m * (p + b * val b ps) = p * m + m * (b * val b ps) := by rw [Nat.mul_add, Nat.mul_comm m p]
    omega
/-- digits below the base, the highest no nought -/
def good (b : Nat) : List Nat → Prop
  | [] => True
  | [p] => 0 < p ∧ p < b
  | p :: q :: ps => p < b ∧ good b (q :: ps)
theorem good_cons {b p : Nat} {ps : List Nat} (hp : p < b) (h : good b ps) (h0 : ps = [] → 0 < p) : good b (p :: ps) := by
  cases ps with
  | nil => exact ⟨h0 rfl, hp⟩
  | cons q qs => exact ⟨hp, h⟩
theorem good_tail {b p : Nat} {ps : List Nat} (h : good b (p :: ps)) : good b ps ∧ p < b ∧ (ps = [] → 0 < p) := by
  cases ps with
  | nil => exact ⟨trivial, h.2, fun _ => h.1⟩
  | cons q qs => exact ⟨h.2, h.1, fun e => by cases e⟩
theorem good_digs0 {b : Nat} (hb : 1 < b) : ∀ (f n : Nat), n ≤ f → good b (digs0 b n)
  | 0, n, h => by
    obtain rfl : n = 0 := by omega
    rw [digs0_zero]; trivial
  | f + 1, n, h => by
    by_cases hn : 0 < n
    · rw [digs0_pos hb hn]
      have hlt := Nat.div_lt_self hn hb
      refine good_cons (Nat.mod_lt _ (by omega)) (good_digs0 hb f (n / b) (by omega)) fun e => ?_
      by_cases hq : 0 < n / b
      · rw [digs0_pos hb hq] at e; cases e
      · have h0 : n / b = 0 := Nat.eq_zero_of_not_pos hq
        have := Nat.mod_add_div n b
        rw [h0, Nat.mul_zero] at this
        omega
    · obtain rfl : n = 0 := by omega
      rw [digs0_zero]; trivial
theorem adv_nil {b m : Nat} (hb : 1 < b) : ∀ (ps : List Nat) (c : Nat), adv b m ps c = [] → ps = [] ∧ c = 0
  | [], c, h => by
    refine ⟨rfl, ?_⟩
    by_cases hc : 0 < c
    · have : digs0 b c = [] := h
      rw [digs0_pos hb hc] at this; cases this
    · omega
  | p :: ps, c, h => by cases h
theorem good_adv {b m : Nat} (hb : 1 < b) (hm : 0 < m) : ∀ (ps : List Nat) (c : Nat), good b ps → good b (adv b m ps c)
  | [], c, _ => good_digs0 hb c c (Nat.le_refl _)
  | p :: ps, c, h => by
    obtain ⟨h1, h2, h3⟩ := good_tail h
    refine good_cons (Nat.mod_lt _ (by omega)) (good_adv hb hm ps _ h1) fun e => ?_
    obtain ⟨e1, e2⟩ := adv_nil hb _ _ e
    have hp := h3 e1
    have := Nat.mod_add_div (c + p * m) b
    rw [e2, Nat.mul_zero] at this
    have : 0 < p * m := Nat.mul_pos hp hm
    omega
theorem val_pos {b : Nat} (hb : 1 < b) : ∀ (ps : List Nat), good b ps → ps ≠ [] → 0 < val b ps
  | [p], h, _ => by
    show 0 < p + b * 0
    have := h.1
    omega
  | p :: q :: ps, h, _ => by
    have := val_pos hb (q :: ps) h.2 (by simp)
    show 0 < p + b * val b (q :: ps)
    have := Nat.mul_pos (show 0 < b by omega) this
    omega
/-- two rows of digits that are one number are one row -/
theorem val_inj {b : Nat} (hb : 1 < b) : ∀ (ps qs : List Nat), good b ps → good b qs → val b ps = val b qs → ps = qs
  | [], [], _, _, _ => rfl
  | [], q :: qs, _, h2, h => by
    have := val_pos hb (q :: qs) h2 (by simp)
    rw [← h] at this
    exact absurd this (by simp [val])
  | p :: ps, [], h1, _, h => by
    have := val_pos hb (p :: ps) h1 (by simp)
    rw [h] at this
    exact absurd this (by simp [val])
  | p :: ps, q :: qs, h1, h2, h => by
    obtain ⟨a1, a2, _⟩ := good_tail h1
    obtain ⟨b1, b2, _⟩ := good_tail h2
    have h' : p + b * val b ps = q + b * val b qs := h
    have e1 : (p + b * val b ps) % b = p := by rw [Nat.add_mul_mod_self_left, Nat.mod_eq_of_lt a2]
    have e2 : (q + b * val b qs) % b = q := by rw [Nat.add_mul_mod_self_left, Nat.mod_eq_of_lt b2]
    have e3 : p = q := by rw [← e1, ← e2, h']
    subst e3
    have e4 : val b ps = val b qs := Nat.eq_of_mul_eq_mul_left (show 0 < b by omega) (by omega)
    rw [val_inj hb ps qs a1 b1 e4]
theorem digs_of {b : Nat} (hb : 1 < b) {ps : List Nat} (h : good b ps) : ps = digs0 b (val b ps) :=
  val_inj hb _ _ h (good_digs0 hb _ _ (Nat.le_refl _)) (val_digs0 hb _ _ (Nat.le_refl _)).symm
/-- the number that digits are in a base, the highest first, behind a number -/
def valh (f : Nat) : List Nat → Nat → Nat
  | [], a => a
  | d :: l, a => valh f l (f * a + d)
/-- one long division: the quotient's digits without noughts ahead, and what is left -/
def pass (f t : Nat) : List Nat → Nat → List Nat → List Nat × Nat
  | [], r, nx => (nx, r)
  | d :: l, r, nx => pass f t l ((f * r + d) % t) (if nx ≠ [] ∨ 0 < (f * r + d) / t then nx ++ [(f * r + d) / t] else nx)
theorem valh_app (f : Nat) : ∀ (l m : List Nat) (a : Nat), valh f (l ++ m) a = valh f m (valh f l a)
  | [], m, a => rfl
  | d :: l, m, a => valh_app f l m (f * a + d)
/-- a long division divides -/
theorem pass_val (f t : Nat) (ht : 0 < t) : ∀ (l : List Nat) (r : Nat) (nx : List Nat), r < t →
    valh f l (t * valh f nx 0 + r) = t * valh f (pass f t l r nx).1 0 + (pass f t l r nx).2 ∧ (pass f t l r nx).2 < t
  | [], r, nx, hr => ⟨rfl, hr⟩
  | d :: l, r, nx, hr => by
    have hm := Nat.mod_lt (f * r + d) ht
    have ih := pass_val f t ht l ((f * r + d) % t) (if nx ≠ [] ∨ 0 < (f * r + d) / t then nx ++ [(f * r + d) / t] else nx) hm
    refine ⟨?_, ih.2⟩
    rw [show pass f t (d :: l) r nx = pass f t l ((f * r + d) % t) (if nx ≠ [] ∨ 0 < (f * r + d) / t then nx ++ [(f * r + d) / t] else nx) from rfl, ← ih.1]
    show valh f l (f * (t * valh f nx 0 + r) + d) = _
    congr 1
    have h1 := Nat.mod_add_div (f * r + d) t
    by_cases hc : nx ≠ [] ∨ 0 < (f * r + d) / t
    · rw [if_pos hc, valh_app]
      show f * (t * valh f nx 0 + r) + d = t * (f * valh f nx 0 + (f * r + d) / t) + (f * r + d) % t
      rw [Nat.mul_add, Nat.mul_add, Nat.mul_left_comm f t]
      omega
    · rw [if_neg hc]
      have hn : nx = [] := Classical.byContradiction fun h => hc (.inl h)
      have hq : (f * r + d) / t = 0 := Nat.eq_zero_of_not_pos fun h => hc (.inr h)
      subst hn
      rw [hq, Nat.mul_zero] at h1
      show f * (t * 0 + r) + d = t * 0 + (f * r + d) % t
      rw [Nat.mul_zero, Nat.zero_add, Nat.zero_add]
      omega
/-- no nought ahead -/
def lead (l : List Nat) : Prop := ∀ d, l.head? = some d → 0 < d
theorem pass_lead (f t : Nat) : ∀ (l : List Nat) (r : Nat) (nx : List Nat), lead nx → lead (pass f t l r nx).1
  | [], r, nx, h => h
  | d :: l, r, nx, h => by
    refine pass_lead f t l ((f * r + d) % t) (if nx ≠ [] ∨ 0 < (f * r + d) / t then nx ++ [(f * r + d) / t] else nx) ?_
    by_cases hc : nx ≠ [] ∨ 0 < (f * r + d) / t
    · rw [if_pos hc]
      cases nx with
      | nil =>
        intro x hx
        have : (f * r + d) / t = x := by simpa using hx
        rw [← this]
        rcases hc with hc | hc
        · exact absurd rfl hc
        · exact hc
      | cons y ys => exact fun x hx => h x (by simpa using hx)
    · rw [if_neg hc]; exact h
theorem valh_pos (f : Nat) (hf : 0 < f) : ∀ (l : List Nat) (a : Nat), 0 < a → 0 < valh f l a
  | [], a, h => h
  | d :: l, a, h => valh_pos f hf l (f * a + d) (by have := Nat.mul_pos hf h; omega)
theorem lead_pos (f : Nat) (hf : 0 < f) {l : List Nat} (hl : lead l) (h0 : l ≠ []) : 0 < valh f l 0 := by
  cases l with
  | nil => exact absurd rfl h0
  | cons d l =>
    have : 0 < d := hl d rfl
    exact valh_pos f hf l (f * 0 + d) (by omega)
theorem digs0_step {t V Q R : Nat} (ht : 1 < t) (h : V = t * Q + R) (hR : R < t) (hV : 0 < V) : digs0 t V = R :: digs0 t Q := by
  rw [digs0_pos ht hV]
  have e1 : V % t = R := by rw [h, Nat.mul_add_mod, Nat.mod_eq_of_lt hR]
  have e2 : V / t = Q := by rw [h, Nat.mul_add_div (by omega), Nat.div_eq_of_lt hR, Nat.add_zero]
  rw [e1, e2]
/-- one round of the document's long division: its rest is the lowest digit, the quotient has the others -/
theorem round_digs {f t : Nat} (hf : 0 < f) (ht : 1 < t) {l : List Nat} (hl : lead l) (h0 : l ≠ []) :
    digs0 t (valh f l 0) = (pass f t l 0 []).2 :: digs0 t (valh f (pass f t l 0 []).1 0) ∧ lead (pass f t l 0 []).1 := by
  have h := pass_val f t (by omega) l 0 [] (by omega)
  have e : valh f l (t * valh f [] 0 + 0) = valh f l 0 := by
    congr 1
  rw [e] at h
  exact ⟨digs0_step ht h.1 h.2 (lead_pos f hf hl h0), pass_lead f t l 0 [] (fun d hd => by cases hd)⟩
end Go.Proofs.YtokoohdpakhphaaDoor.Lnk
namespace Go.Proofs.YtokoohdpakhphaaDoor.Lnk
open Go VC
set_option linter.unusedSimpArgs false
set_option linter.unusedVariables false
/-- the lowest w bits of a number, the highest first -/
def bof : Nat → Nat → List Nat
  | 0, _ => []
  | w + 1, n => n / 2 ^ w % 2 :: bof w n
/-- the number behind a number that bits make -/
def bnum : List Nat → Nat → Nat
  | [], a => a
  | b :: l, a => bnum l (2 * a + b)
theorem bof_len : ∀ (w n : Nat), (bof w n).length = w
  | 0, _ => rfl
  | w + 1, n => by simp [bof, bof_len w n]
theorem bnum_bof : ∀ (w n a : Nat), bnum (bof w n) a = a * 2 ^ w + n % 2 ^ w
  | 0, n, a => by simp [bof, bnum, Nat.mod_one]
  | w + 1, n, a => by
    show bnum (bof w n) (2 * a + n / 2 ^ w % 2) = _
    rw [bnum_bof w n, Nat.mod_pow_succ, Nat.pow_succ, Nat.add_mul, Nat.mul_comm (2 ^ w) (n / 2 ^ w % 2), Nat.mul_comm 2 a, Nat.mul_assoc, Nat.mul_comm 2 (2 ^ w)]
    omega
theorem bnum_split : ∀ (l : List Nat) (a : Nat), (∀ b ∈ l, b < 2) → bnum l a = a * 2 ^ l.length + bnum l 0 ∧ bnum l 0 < 2 ^ l.length
  | [], a, _ => by simp [bnum]
  | b :: l, a, h => by
    have hb : b < 2 := h b (List.mem_cons_self ..)
    have hl : ∀ b ∈ l, b < 2 := fun x hx => h x (List.mem_cons_of_mem _ hx)
    obtain ⟨h1, h2⟩ := bnum_split l (2 * a + b) hl
    obtain ⟨h3, _⟩ := bnum_split l (2 * 0 + b) hl
    simp only [bnum, List.length_cons]
    rw [h1, h3, Nat.pow_succ]
    generalize 2 ^ l.length = p at *
    have e1 : (2 * a + b) * p = a * (p * 2) + b * p := by rw [Nat.add_mul, Nat.mul_comm 2 a, Nat.mul_assoc, Nat.mul_comm 2 p]
    have e2 : (2 * 0 + b) * p = b * p := by rw [Nat.mul_zero, Nat.zero_add]
    have e3 : b * p ≤ p := by
      rcases (show b = 0 ∨ b = 1 by omega) with rfl | rfl
      · rw [Nat.zero_mul]; omega
      · rw [Nat.one_mul]; exact Nat.le_refl p
    omega
theorem bof_app : ∀ (a b n : Nat), bof (a + b) n = bof a (n / 2 ^ b) ++ bof b n
  | 0, b, n => by simp [bof]
  | a + 1, b, n => by
    rw [show a + 1 + b = (a + b) + 1 by omega]
    show n / 2 ^ (a + b) % 2 :: bof (a + b) n = n / 2 ^ b / 2 ^ a % 2 :: (bof a (n / 2 ^ b) ++ bof b n)
    rw [bof_app a b n, Nat.div_div_eq_div_mul, ← Nat.pow_add, Nat.add_comm b a]
theorem bof_mod : ∀ (w k n : Nat), w ≤ k → bof w (n % 2 ^ k) = bof w n
  | 0, _, _, _ => rfl
  | w + 1, k, n, h => by
    show n % 2 ^ k / 2 ^ w % 2 :: bof w (n % 2 ^ k) = n / 2 ^ w % 2 :: bof w n
    rw [bof_mod w k n (by omega)]
    congr 1
    have e : 2 ^ k = 2 ^ w * 2 ^ (k - w) := by rw [← Nat.pow_add]; congr 1; omega
    rw [e, Nat.mod_mul_right_div_self]
    refine Nat.mod_mod_of_dvd _ ⟨2 ^ (k - w - 1), ?_⟩
    rw [← Nat.pow_succ']
    congr 1
    omega
theorem bof_cat (h k n d : Nat) (hd : d < 2 ^ k) : bof (h + k) (n * 2 ^ k + d) = bof h n ++ bof k d := by
  have hp : 0 < 2 ^ k := Nat.two_pow_pos k
  rw [bof_app, Nat.add_comm (n * 2 ^ k) d, Nat.add_mul_div_right _ _ hp, Nat.div_eq_of_lt hd, Nat.zero_add, ← bof_mod k k (d + n * 2 ^ k) (Nat.le_refl _), Nat.add_mul_mod_self_right, Nat.mod_eq_of_lt hd]
theorem bof_zero : ∀ (k : Nat), bof k 0 = List.replicate k 0
  | 0 => rfl
  | k + 1 => by
    show 0 / 2 ^ k % 2 :: bof k 0 = _
    rw [bof_zero k, Nat.zero_div]
    rfl
theorem bof_inj {w x y : Nat} (hx : x < 2 ^ w) (hy : y < 2 ^ w) (h : bof w x = bof w y) : x = y := by
  have h1 := bnum_bof w x 0
  rw [h, bnum_bof, Nat.mod_eq_of_lt hx, Nat.mod_eq_of_lt hy] at h1
  omega
/-- the bits of numbers, one behind the other -/
def flat (w : Nat) (l : List Nat) : List Nat := l.flatMap (bof w)
theorem flat_cons (w v : Nat) (l : List Nat) : flat w (v :: l) = bof w v ++ flat w l := rfl
theorem flat_app (w : Nat) (l m : List Nat) : flat w (l ++ m) = flat w l ++ flat w m := by unfold flat; rw [List.flatMap_append]
theorem flat_len (w : Nat) : ∀ (l : List Nat), (flat w l).length = w * l.length
  | [] => by simp [flat]
  | v :: l => by rw [flat_cons, List.length_append, bof_len, flat_len w l, List.length_cons, Nat.mul_succ]; omega
theorem flat_inj (w : Nat) (hw : 0 < w) : ∀ (l m : List Nat), (∀ x ∈ l, x < 2 ^ w) → (∀ x ∈ m, x < 2 ^ w) → flat w l = flat w m → l = m
  | [], [], _, _, _ => rfl
  | [], y :: m, _, _, h => by
    have := congrArg List.length h
    rw [flat_len, flat_len, List.length_nil, List.length_cons, Nat.mul_zero, Nat.mul_succ] at this
    omega
  | x :: l, [], _, _, h => by
    have := congrArg List.length h
    rw [flat_len, flat_len, List.length_nil, List.length_cons, Nat.mul_zero, Nat.mul_succ] at this
    omega
  | x :: l, y :: m, h1, h2, h => by
    rw [flat_cons, flat_cons] at h
    obtain ⟨e1, e2⟩ := List.append_inj h (by rw [bof_len, bof_len])
    have := bof_inj (h1 x (List.mem_cons_self ..)) (h2 y (List.mem_cons_self ..)) e1
    subst this
    rw [flat_inj w hw l m (fun z hz => h1 z (List.mem_cons_of_mem _ hz)) (fun z hz => h2 z (List.mem_cons_of_mem _ hz)) e2]
/-- the digits that a number of bits gives are its highest bits, the rest is its lowest -/
theorem digs_flat (bits N : Nat) (hb : 0 < bits) : ∀ (f h : Nat), h ≤ f → flat bits (digs bits N h) ++ bof (h % bits) N = bof h N ∧ ∀ d ∈ digs bits N h, d < 2 ^ bits
  | 0, h, hf => by
    obtain rfl : h = 0 := by omega
    rw [digs_nil (by omega), Nat.zero_mod]
    exact ⟨rfl, fun d hd => by cases hd⟩
  | f + 1, h, hf => by
    by_cases hh : bits ≤ h
    · obtain ⟨h1, h2⟩ := digs_flat bits N hb f (h - bits) (by omega)
      rw [digs_cons hb hh]
      refine ⟨?_, fun d hd => ?_⟩
      · rw [flat_cons, List.append_assoc, Nat.mod_eq_sub_mod hh, h1, bof_mod bits bits _ (Nat.le_refl _), ← bof_app]
        congr 1
        omega
      · rcases List.mem_cons.1 hd with rfl | hd
        · exact Nat.mod_lt _ (Nat.two_pow_pos _)
        · exact h2 d hd
    · rw [digs_nil (by omega), Nat.mod_eq_of_lt (by omega)]
      exact ⟨rfl, fun d hd => by cases hd⟩
def nats (b : List UInt8) : List Nat := b.map UInt8.toNat
theorem nats_lt (b : List UInt8) : ∀ x ∈ nats b, x < 2 ^ 8 := fun x hx => by
  obtain ⟨u, _, rfl⟩ := List.mem_map.1 hx
  exact u.toNat_lt
theorem nats_inj : ∀ {b c : List UInt8}, nats b = nats c → b = c
  | [], [], _ => rfl
  | [], y :: c, h => by cases h
  | x :: b, [], h => by cases h
  | x :: b, y :: c, h => by
    injection h with h1 h2
    rw [UInt8.toNat_inj.1 h1, nats_inj h2]
/-- the digits of bytes: the bytes' bits, and noughts behind, fewer than a digit has -/
theorem spgo_flat (bits : Nat) (hb : 0 < bits) : ∀ (b : List UInt8) (n h : Nat), h < bits → n < 2 ^ h →
    (∀ d ∈ spgo bits b n h, d < 2 ^ bits) ∧ ∃ k, k < bits ∧ flat bits (spgo bits b n h) = bof h n ++ flat 8 (nats b) ++ List.replicate k 0
  | [], n, h, hh, hn => by
    unfold spgo
    by_cases h0 : 0 < h
    · rw [if_pos h0]
      have hp : 0 < 2 ^ (bits - h) := Nat.two_pow_pos _
      refine ⟨fun d hd => ?_, bits - h, by omega, ?_⟩
      · rw [List.mem_singleton.1 hd, show 2 ^ bits = 2 ^ h * 2 ^ (bits - h) by rw [← Nat.pow_add]; congr 1; omega]
        exact Nat.mul_lt_mul_of_pos_right hn hp
      · have e := bof_cat h (bits - h) n 0 hp
        rw [Nat.add_zero, bof_zero, show h + (bits - h) = bits by omega] at e
        simp [flat, nats, e]
    · obtain rfl : h = 0 := by omega
      rw [if_neg h0]
      exact ⟨fun d hd => (by cases hd), 0, hb, rfl⟩
  | x :: xs, n, h, hh, hn => by
    unfold spgo
    have hx : x.toNat < 2 ^ 8 := x.toNat_lt
    obtain ⟨h1, h2⟩ := digs_flat bits (n * 256 + x.toNat) hb (h + 8) (h + 8) (Nat.le_refl _)
    have hm : (h + 8) % bits < bits := Nat.mod_lt _ hb
    obtain ⟨h3, k, hk, h4⟩ := spgo_flat bits hb xs ((n * 256 + x.toNat) % 2 ^ ((h + 8) % bits)) ((h + 8) % bits) hm (Nat.mod_lt _ (Nat.two_pow_pos _))
    refine ⟨fun d hd => ?_, k, hk, ?_⟩
    · rcases List.mem_append.1 hd with hd | hd
      · exact h2 d hd
      · exact h3 d hd
    · rw [flat_app, h4, bof_mod _ _ _ (Nat.le_refl _), ← List.append_assoc, ← List.append_assoc, h1, show nats (x :: xs) = x.toNat :: nats xs from rfl, flat_cons]
      have e := bof_cat h 8 n x.toNat hx
      rw [show n * 2 ^ 8 = n * 256 from rfl] at e
      rw [e]
      simp only [List.append_assoc]
theorem indexByte_get : ∀ (ds : List UInt8) (x : UInt8), 0 ≤ Lib.indexByte ds x → ds.getD (Lib.indexByte ds x).toNat 0 = x ∧ (Lib.indexByte ds x).toNat < ds.length
  | [], x, h => by simp [Lib.indexByte] at h
  | d :: ds, x, h => by
    unfold Lib.indexByte at h ⊢
    by_cases hd : (d == x) = true
    · rw [if_pos hd]
      exact ⟨by simpa using hd, by simp⟩
    · rw [if_neg hd] at h ⊢
      by_cases h1 : Lib.indexByte ds x = -1
      · rw [h1] at h
        simp at h
      · have := indexByte_lt ds x
        have h2 := indexByte_get ds x (by omega)
        have hne : (Lib.indexByte ds x == -1) = false := by simpa using h1
        rw [hne]
        obtain ⟨j, hj⟩ := Int.eq_ofNat_of_zero_le (show 0 ≤ Lib.indexByte ds x by omega)
        rw [hj] at h2 ⊢
        simpa using h2
/-- what is read of digits: their bits are the bytes' bits, and what is left -/
theorem gago_flat (bits : Nat) (hb : 0 < bits) (hb8 : bits ≤ 8) (ds : List UInt8) (hds : ds.length = 2 ^ bits) : ∀ (s : List UInt8) (n h : Nat) (out : List UInt8) (r : List UInt8 × Nat × Nat), n < 2 ^ h → h < 8 → gago bits ds s n h out = some r →
    ∃ (vs : List Nat) (os : List UInt8), s = vs.map (fun d => ds.getD d 0) ∧ (∀ v ∈ vs, v < 2 ^ bits) ∧ r.1 = out ++ os ∧ flat 8 (nats os) ++ bof r.2.2 r.2.1 = bof h n ++ flat bits vs ∧ r.2.1 < 2 ^ r.2.2 ∧ r.2.2 < 8
  | [], n, h, out, r, hn, hh, hr => by
    unfold gago at hr
    obtain rfl := Option.some.inj hr
    exact ⟨[], [], rfl, fun v hv => (by cases hv), by simp, by simp [flat, nats], hn, hh⟩
  | x :: xs, n, h, out, r, hn, hh, hr => by
    unfold gago at hr
    by_cases hneg : Lib.indexByte ds x < 0
    · rw [if_pos hneg] at hr; cases hr
    rw [if_neg hneg] at hr
    obtain ⟨g1, g2⟩ := indexByte_get ds x (by omega)
    generalize (Lib.indexByte ds x).toNat = d at *
    rw [hds] at g2
    have hcat := bof_cat h bits n d g2
    have hN : n * 2 ^ bits + d < 2 ^ (h + bits) := by
      rw [Nat.pow_add]
      have := Nat.mul_le_mul_right (2 ^ bits) (show n + 1 ≤ 2 ^ h by omega)
      rw [Nat.add_mul, Nat.one_mul] at this
      omega
    generalize n * 2 ^ bits + d = N at *
    by_cases h8 : 8 ≤ h + bits
    · rw [if_pos h8] at hr
      obtain ⟨vs, os, e1, e2, e3, e4, e5, e6⟩ := gago_flat bits hb hb8 ds hds xs _ _ _ r (Nat.mod_lt _ (Nat.two_pow_pos _)) (by omega) hr
      have hq : N / 2 ^ (h + bits - 8) < 2 ^ 8 := by
        rw [Nat.div_lt_iff_lt_mul (Nat.two_pow_pos _), ← Nat.pow_add]
        rw [show 8 + (h + bits - 8) = h + bits by omega]
        exact hN
      refine ⟨d :: vs, UInt8.ofNat (N / 2 ^ (h + bits - 8)) :: os, by rw [List.map_cons, g1, ← e1], fun v hv => ?_, by rw [e3]; simp, ?_, e5, e6⟩
      · rcases List.mem_cons.1 hv with rfl | hv
        · exact g2
        · exact e2 v hv
      · have hqn : (UInt8.ofNat (N / 2 ^ (h + bits - 8))).toNat = N / 2 ^ (h + bits - 8) := by
          rw [UInt8.toNat_ofNat']
          exact Nat.mod_eq_of_lt hq
        rw [show nats (UInt8.ofNat (N / 2 ^ (h + bits - 8)) :: os) = (UInt8.ofNat (N / 2 ^ (h + bits - 8))).toNat :: nats os from rfl, hqn, flat_cons, List.append_assoc, e4, bof_mod _ _ _ (Nat.le_refl _), ← List.append_assoc, ← bof_app, flat_cons, ← List.append_assoc, ← hcat]
        congr 2
        omega
    · rw [if_neg h8] at hr
      obtain ⟨vs, os, e1, e2, e3, e4, e5, e6⟩ := gago_flat bits hb hb8 ds hds xs _ _ _ r hN (by omega) hr
      refine ⟨d :: vs, os, by rw [List.map_cons, g1, ← e1], fun v hv => ?_, e3, ?_, e5, e6⟩
      · rcases List.mem_cons.1 hv with rfl | hv
        · exact g2
        · exact e2 v hv
      · rw [e4, hcat, flat_cons, List.append_assoc]
/-- digits that are told apart -/
def apart (ds : List UInt8) : Prop := ∀ d, d < ds.length → Lib.indexByte ds (ds.getD d 0) = d
theorem gago_some (bits : Nat) (ds : List UInt8) (ha : apart ds) : ∀ (vs : List Nat) (n h : Nat) (out : List UInt8), (∀ v ∈ vs, v < ds.length) → ∃ r, gago bits ds (vs.map (fun d => ds.getD d 0)) n h out = some r
  | [], n, h, out, _ => ⟨_, rfl⟩
  | v :: vs, n, h, out, hv => by
    have e := ha v (hv v (List.mem_cons_self ..))
    rw [List.map_cons]
    unfold gago
    rw [e, if_neg (by omega)]
    split
    · exact gago_some bits ds ha vs _ _ _ fun x hx => hv x (List.mem_cons_of_mem _ hx)
    · exact gago_some bits ds ha vs _ _ _ fun x hx => hv x (List.mem_cons_of_mem _ hx)
theorem map_apart {ds : List UInt8} (ha : apart ds) : ∀ {l m : List Nat}, (∀ v ∈ l, v < ds.length) → (∀ v ∈ m, v < ds.length) → l.map (fun d => ds.getD d 0) = m.map (fun d => ds.getD d 0) → l = m
  | [], [], _, _, _ => rfl
  | [], y :: c, _, _, h => by cases h
  | x :: b, [], _, _, h => by cases h
  | x :: b, y :: c, h1, h2, h => by
    injection h with e1 e2
    have a1 := ha x (h1 x (List.mem_cons_self ..))
    have a2 := ha y (h2 y (List.mem_cons_self ..))
    dsimp only at e1
    rw [e1, a2] at a1
    have : y = x := by omega
    rw [this, map_apart ha (fun v hv => h1 v (List.mem_cons_of_mem _ hv)) (fun v hv => h2 v (List.mem_cons_of_mem _ hv)) e2]
theorem rep_len {k h n : Nat} {l m : List Nat} (hl : l.length = m.length) (h1 : l ++ bof h n = m ++ List.replicate k 0) (hn : n < 2 ^ h) : l = m ∧ h = k ∧ n = 0 := by
  have hlen := congrArg List.length h1
  rw [List.length_append, List.length_append, bof_len, List.length_replicate] at hlen
  obtain ⟨e1, e2⟩ := List.append_inj h1 hl
  have hk : h = k := by omega
  subst hk
  rw [← bof_zero] at e2
  exact ⟨e1, rfl, bof_inj hn (Nat.two_pow_pos _) e2⟩
/-- what is laid in digits is read again -/
theorem gather_spread (bits : Nat) (hb : 0 < bits) (hb8 : bits ≤ 8) (ds : List UInt8) (hds : ds.length = 2 ^ bits) (ha : apart ds) (b : List UInt8) : gatherL bits ds (spreadL bits ds b) = (b, true) := by
  obtain ⟨h1, k, hk, h2⟩ := spgo_flat bits hb b 0 0 hb (by decide)
  obtain ⟨r, hr⟩ := gago_some bits ds ha (spgo bits b 0 0) 0 0 [] (by rw [hds]; exact h1)
  obtain ⟨vs, os, e1, e2, e3, e4, e5, e6⟩ := gago_flat bits hb hb8 ds hds _ 0 0 [] r (by decide) (by omega) hr
  have hv := map_apart ha (by rw [hds]; exact h1) (by rw [hds]; exact e2) e1
  rw [← hv, h2] at e4
  have e4 : flat 8 (nats os) ++ bof r.2.2 r.2.1 = flat 8 (nats b) ++ List.replicate k 0 := by simpa [bof] using e4
  have hlen := congrArg List.length e4
  rw [List.length_append, List.length_append, bof_len, flat_len, flat_len, List.length_replicate] at hlen
  obtain ⟨f1, f2, f3⟩ := rep_len (by rw [flat_len, flat_len]; omega) e4 e5
  have hob := nats_inj (flat_inj 8 (by decide) _ _ (nats_lt os) (nats_lt b) f1)
  unfold gatherL spreadL
  rw [hr]
  obtain ⟨r1, r2, r3⟩ := r
  dsimp only at e3 f2 f3 ⊢
  subst f2 f3
  rw [e3, hob, List.nil_append, decide_eq_true ⟨rfl, hk⟩]
/-- what is read as digits is laid so -/
theorem spread_gather (bits : Nat) (hb : 0 < bits) (hb8 : bits ≤ 8) (ds : List UInt8) (hds : ds.length = 2 ^ bits) (s b : List UInt8) (h : gatherL bits ds s = (b, true)) : spreadL bits ds b = s := by
  unfold gatherL at h
  cases hr : gago bits ds s 0 0 [] with
  | none => rw [hr] at h; cases h
  | some r =>
    obtain ⟨vs, os, e1, e2, e3, e4, e5, e6⟩ := gago_flat bits hb hb8 ds hds s 0 0 [] r (by decide) (by omega) hr
    rw [hr] at h
    obtain ⟨r1, r2, r3⟩ := r
    dsimp only at h e3 e4 e5 e6
    injection h with g1 g2
    obtain ⟨rfl, g3⟩ := of_decide_eq_true g2
    rw [List.nil_append] at e3
    obtain ⟨h1, k, hk, h2⟩ := spgo_flat bits hb os 0 0 hb (by decide)
    have h2 : flat bits (spgo bits os 0 0) = flat 8 (nats os) ++ List.replicate k 0 := by simpa [bof] using h2
    have e4 : flat 8 (nats os) ++ bof r3 0 = flat bits vs := by simpa [bof] using e4
    rw [bof_zero] at e4
    have l1 := congrArg List.length h2
    have l2 := congrArg List.length e4
    rw [flat_len, List.length_append, List.length_replicate] at l1
    rw [flat_len, List.length_append, List.length_replicate] at l2
    have hkr : k = r3 := by
      have m1 := congrArg (· % bits) l1
      have m2 := congrArg (· % bits) l2
      rw [Nat.mul_mod_right] at m1 m2
      generalize (flat 8 (nats os)).length = T at *
      by_cases hlt : k ≤ r3
      · have : (T + r3 - (T + k)) % bits = 0 := by
          have a1 : bits ∣ T + k := Nat.dvd_of_mod_eq_zero m1.symm
          have a2 : bits ∣ T + r3 := Nat.dvd_of_mod_eq_zero m2
          exact Nat.mod_eq_zero_of_dvd (Nat.dvd_sub a2 a1)
        rw [show T + r3 - (T + k) = r3 - k by omega, Nat.mod_eq_of_lt (by omega)] at this
        omega
      · have : (T + k - (T + r3)) % bits = 0 := by
          have a1 : bits ∣ T + k := Nat.dvd_of_mod_eq_zero m1.symm
          have a2 : bits ∣ T + r3 := Nat.dvd_of_mod_eq_zero m2
          exact Nat.mod_eq_zero_of_dvd (Nat.dvd_sub a1 a2)
        rw [show T + k - (T + r3) = k - r3 by omega, Nat.mod_eq_of_lt (by omega)] at this
        omega
    subst hkr
    have hv := flat_inj bits hb _ _ h1 e2 (h2.trans e4)
    unfold spreadL
    rw [← g1, e3, hv]
    exact e1.symm
end Go.Proofs.YtokoohdpakhphaaDoor.Lnk
namespace Go.Proofs.YtokoohdpakhphaaDoor.Lnk
open Go VC
set_option linter.unusedSimpArgs false
set_option linter.unusedVariables false
set_option maxRecDepth 20000
abbrev d16 : List UInt8 := [48, 49, 50, 51, 52, 53, 54, 55, 56, 57, 97, 98, 99, 100, 101, 102]
abbrev d58 : List UInt8 := 49 :: 50 :: 51 :: 52 :: 53 :: 54 :: 55 :: 56 :: 57 :: 65 :: 66 :: 67 :: 68 :: 69 :: 70 :: 71 :: 72 :: 74 :: 75 :: 76 :: 77 :: 78 :: 80 :: 81 :: 82 :: 83 :: 84 :: 85 :: 86 :: 87 :: 88 :: 89 :: 90 :: 97 :: 98 :: 99 :: 100 :: 101 :: 102 :: 103 :: 104 :: 105 :: 106 :: 107 :: 109 :: 110 :: 111 :: 112 :: 113 :: 114 :: 115 :: 116 :: 117 :: 118 :: 119 :: 120 :: 121 :: 122 :: []
theorem apart16 : apart d16 := by unfold apart; decide
theorem apart58 : apart d58 := by unfold apart; decide
theorem adv_digs {b m : Nat} (hb : 1 < b) (hm : 0 < m) (V c : Nat) : adv b m (digs0 b V) c = digs0 b (m * V + c) := by
  have h := good_adv hb hm (digs0 b V) c (good_digs0 hb V V (Nat.le_refl _))
  rw [digs_of hb h, val_adv hb, val_digs0 hb V V (Nat.le_refl _)]
theorem good_all {b : Nat} : ∀ (ps : List Nat), good b ps → ∀ p ∈ ps, p < b
  | [], _, p, h => by cases h
  | q :: ps, h, p, hp => by
    obtain ⟨h1, h2, _⟩ := good_tail h
    rcases List.mem_cons.1 hp with rfl | hp
    · exact h2
    · exact good_all ps h1 p hp
theorem digs0_lt {b : Nat} (hb : 1 < b) (V : Nat) : ∀ p ∈ digs0 b V, p < b := good_all _ (good_digs0 hb V V (Nat.le_refl _))
theorem good_of {b : Nat} : ∀ (ps : List Nat), (∀ p ∈ ps, p < b) → (∀ d, ps.getLast? = some d → 0 < d) → good b ps
  | [], _, _ => trivial
  | [p], h, h0 => ⟨h0 p rfl, h p (List.mem_cons_self ..)⟩
  | p :: q :: ps, h, h0 => ⟨h p (List.mem_cons_self ..), good_of (q :: ps) (fun x hx => h x (List.mem_cons_of_mem _ hx)) fun d hd => h0 d (by rw [List.getLast?_cons_cons]; exact hd)⟩
theorem good_last {b : Nat} : ∀ (ps : List Nat) (d : Nat), good b ps → ps.getLast? = some d → 0 < d
  | [p], d, h, hd => by
    have : p = d := by simpa using hd
    rw [← this]
    exact h.1
  | p :: q :: ps, d, h, hd => good_last (q :: ps) d h.2 (by rw [List.getLast?_cons_cons] at hd; exact hd)
theorem valh_rev (f : Nat) : ∀ (l : List Nat), valh f l.reverse 0 = val f l
  | [] => rfl
  | p :: ps => by
    rw [List.reverse_cons, valh_app, valh_rev f ps]
    show f * val f ps + p = p + f * val f ps
    omega
theorem valh_digs {b : Nat} (hb : 1 < b) (V : Nat) : valh b (digs0 b V).reverse 0 = V := by
  rw [valh_rev, val_digs0 hb V V (Nat.le_refl _)]
theorem lead_digs {b : Nat} (hb : 1 < b) (V : Nat) : lead (digs0 b V).reverse := fun d hd => by
  rw [List.head?_reverse] at hd
  exact good_last _ d (good_digs0 hb V V (Nat.le_refl _)) hd
/-- digits, the highest first and no nought, are those of their number -/
theorem digs_rev {b : Nat} (hb : 1 < b) (l : List Nat) (hl : lead l) (ha : ∀ p ∈ l, p < b) : digs0 b (valh b l 0) = l.reverse := by
  have hg : good b l.reverse := good_of _ (fun p hp => ha p (List.mem_reverse.1 hp)) fun d hd => hl d (by rw [List.getLast?_reverse] at hd; exact hd)
  have := digs_of hb hg
  rw [← valh_rev, List.reverse_reverse] at this
  exact this.symm
theorem digs0_len {b : Nat} (hb : 1 < b) : ∀ (k V : Nat), V < b ^ k → (digs0 b V).length ≤ k
  | 0, V, h => by
    obtain rfl : V = 0 := by simpa using h
    rw [digs0_zero]; simp
  | k + 1, V, h => by
    by_cases hV : 0 < V
    · rw [digs0_pos hb hV, List.length_cons]
      have := digs0_len hb k (V / b) (by rw [Nat.div_lt_iff_lt_mul (by omega), ← Nat.pow_succ]; exact h)
      omega
    · obtain rfl : V = 0 := by omega
      rw [digs0_zero]; simp
theorem valh_lt {f : Nat} (hf : 0 < f) : ∀ (l : List Nat) (a k : Nat), (∀ p ∈ l, p < f) → a < f ^ k → valh f l a < f ^ (k + l.length)
  | [], a, k, _, h => h
  | d :: l, a, k, hl, h => by
    have hd := hl d (List.mem_cons_self ..)
    have := valh_lt hf l (f * a + d) (k + 1) (fun p hp => hl p (List.mem_cons_of_mem _ hp)) (by
      rw [Nat.pow_succ, Nat.mul_comm (f ^ k) f]
      have := Nat.mul_le_mul_left f (show a + 1 ≤ f ^ k by omega)
      rw [Nat.mul_add, Nat.mul_one] at this
      omega)
    rw [List.length_cons, show k + (l.length + 1) = k + 1 + l.length by omega]
    exact this
theorem p256 : ∀ n : Nat, 256 ^ n ≤ 58 ^ (2 * n)
  | 0 => by decide
  | n + 1 => by
    rw [Nat.pow_succ, show 2 * (n + 1) = 2 * n + 2 by omega, Nat.pow_add]
    exact Nat.mul_le_mul (p256 n) (by decide)
theorem p58 (n : Nat) : 58 ^ n ≤ 256 ^ n := Nat.pow_le_pow_left (by decide) n
theorem nats_lt256 (b : List UInt8) : ∀ x ∈ nats b, x < 256 := nats_lt b
theorem nats_len (b : List UInt8) : (nats b).length = b.length := by unfold nats; rw [List.length_map]
theorem len58 (b : List UInt8) : (digs0 58 (valh 256 (nats b) 0)).length ≤ 2 * b.length := by
  have h := valh_lt (f := 256) (by decide) (nats b) 0 0 (nats_lt256 b) (by decide)
  rw [nats_len, Nat.zero_add] at h
  exact digs0_len (by decide) _ _ (Nat.lt_of_lt_of_le h (p256 _))
/-- base 58 of bytes that have no nought ahead -/
def enc58 (b : List UInt8) : List UInt8 := (digs0 58 (valh 256 (nats b) 0)).reverse.map fun d => d58.getD d 0
theorem enc58_len (b : List UInt8) : (enc58 b).length ≤ 2 * b.length := by
  unfold enc58
  rw [List.length_map, List.length_reverse]
  exact len58 b
/-- the number of digits behind a number; none: one is no digit -/
def dgo : List UInt8 → Nat → Option Nat
  | [], V => some V
  | x :: xs, V => if Lib.indexByte d58 x < 0 then none else dgo xs (58 * V + (Lib.indexByte d58 x).toNat)
def ones : List UInt8 → Nat
  | [] => 0
  | x :: xs => if x = 49 then ones xs + 1 else 0
theorem ones_le : ∀ (s : List UInt8), ones s ≤ s.length
  | [] => Nat.le_refl _
  | x :: xs => by
    unfold ones
    split
    · have := ones_le xs
      simp only [List.length_cons]
      omega
    · simp
/-- the bytes of base 58 -/
def dec58 (s : List UInt8) : List UInt8 × Bool :=
  match dgo (s.drop (ones s)) 0 with
  | none => ([], false)
  | some V => (List.replicate (ones s) 0 ++ (digs0 256 V).reverse.map UInt8.ofNat, true)
theorem dgo_map : ∀ (vs : List Nat) (V : Nat), (∀ v ∈ vs, v < 58) → dgo (vs.map fun d => d58.getD d 0) V = some (valh 58 vs V)
  | [], V, _ => rfl
  | v :: vs, V, h => by
    have e := apart58 v (h v (List.mem_cons_self ..))
    rw [List.map_cons]
    unfold dgo
    rw [e, if_neg (by omega), Int.toNat_natCast]
    exact dgo_map vs _ fun x hx => h x (List.mem_cons_of_mem _ hx)
theorem dgo_some : ∀ (s : List UInt8) (V W : Nat), dgo s V = some W → ∃ vs : List Nat, s = vs.map (fun d => d58.getD d 0) ∧ (∀ v ∈ vs, v < 58) ∧ W = valh 58 vs V
  | [], V, W, h => ⟨[], rfl, fun v hv => (by cases hv), (Option.some.inj h).symm⟩
  | x :: xs, V, W, h => by
    unfold dgo at h
    by_cases hneg : Lib.indexByte d58 x < 0
    · rw [if_pos hneg] at h; cases h
    rw [if_neg hneg] at h
    obtain ⟨g1, g2⟩ := indexByte_get d58 x (by omega)
    generalize (Lib.indexByte d58 x).toNat = d at *
    obtain ⟨vs, e1, e2, e3⟩ := dgo_some xs _ W h
    refine ⟨d :: vs, by rw [List.map_cons, g1, ← e1], fun v hv => ?_, e3⟩
    rcases List.mem_cons.1 hv with rfl | hv
    · exact g2
    · exact e2 v hv
theorem d58_one : ∀ d : Nat, d < 58 → d58.getD d 0 = 49 → d = 0 := by decide
theorem nats_of {l : List Nat} (h : ∀ p ∈ l, p < 256) : nats (l.map UInt8.ofNat) = l := by
  unfold nats
  rw [List.map_map]
  conv => rhs; rw [← List.map_id l]
  refine List.map_congr_left fun p hp => ?_
  show (UInt8.ofNat p).toNat = p
  rw [UInt8.toNat_ofNat']
  exact Nat.mod_eq_of_lt (h p hp)
theorem of_nats (b : List UInt8) : (nats b).map UInt8.ofNat = b := nats_inj (nats_of (nats_lt256 b))
theorem ones_lead {vs : List Nat} (hl : lead vs) (h : ∀ v ∈ vs, v < 58) : ones (vs.map fun d => d58.getD d 0) = 0 := by
  cases vs with
  | nil => rfl
  | cons v vs =>
    rw [List.map_cons]
    unfold ones
    rw [if_neg]
    intro e
    have h0 := d58_one v (h v (List.mem_cons_self ..)) e
    have := hl v rfl
    omega
theorem lead_nats {b : List UInt8} (h : b.head? ≠ some 0) : lead (nats b) := fun d hd => by
  cases b with
  | nil => cases hd
  | cons x xs =>
    have e : x.toNat = d := by simpa [nats] using hd
    have : x ≠ 0 := fun e => h (by rw [e]; rfl)
    have : x.toNat ≠ 0 := fun e => this (UInt8.toNat_inj.1 e)
    omega
theorem dec_enc (b : List UInt8) (h : b.head? ≠ some 0) : dec58 (enc58 b) = (b, true) := by
  unfold dec58 enc58
  generalize hV : valh 256 (nats b) 0 = V
  have hlt : ∀ p ∈ (digs0 58 V).reverse, p < 58 := fun p hp => digs0_lt (by decide) V p (List.mem_reverse.1 hp)
  rw [ones_lead (lead_digs (by decide) V) hlt, List.drop_zero, dgo_map _ 0 hlt, valh_digs (by decide)]
  show (List.replicate 0 0 ++ (digs0 256 V).reverse.map UInt8.ofNat, true) = (b, true)
  rw [← hV, digs_rev (by decide) (nats b) (lead_nats h) (nats_lt256 b), List.reverse_reverse, of_nats]
  rfl
theorem enc_dec (s b : List UInt8) (h : dec58 s = (b, true)) (hb : b.head? ≠ some 0) : enc58 b = s := by
  unfold dec58 at h
  cases hd : dgo (s.drop (ones s)) 0 with
  | none => rw [hd] at h; cases h
  | some V =>
    rw [hd] at h
    injection h with h _
    have h1 : ones s = 0 := by
      cases ho : ones s with
      | zero => rfl
      | succ n =>
        rw [ho, List.replicate_succ] at h
        rw [← h] at hb
        exact absurd rfl hb
    rw [h1, List.drop_zero] at hd
    rw [h1] at h
    have h : (digs0 256 V).reverse.map UInt8.ofNat = b := h
    obtain ⟨vs, e1, e2, e3⟩ := dgo_some s 0 V hd
    have hl : lead vs := fun d hd => by
      cases vs with
      | nil => cases hd
      | cons v vs =>
        have : v = d := by simpa using hd
        subst this
        rw [e1, List.map_cons] at h1
        unfold ones at h1
        split at h1
        · omega
        · rename_i hne
          rcases Nat.eq_zero_or_pos v with rfl | h0
          · exact absurd rfl hne
          · exact h0
    have hn : nats b = (digs0 256 V).reverse := by
      rw [← h]
      exact nats_of fun p hp => digs0_lt (by decide) V p (List.mem_reverse.1 hp)
    unfold enc58
    rw [hn, valh_digs (by decide), e3, digs_rev (by decide) vs hl e2, List.reverse_reverse, e1]
theorem dec58_len (s : List UInt8) : (dec58 s).1.length ≤ s.length := by
  unfold dec58
  cases hd : dgo (s.drop (ones s)) 0 with
  | none => simp
  | some V =>
    obtain ⟨vs, e1, e2, e3⟩ := dgo_some _ 0 V hd
    have h1 := valh_lt (f := 58) (by decide) vs 0 0 e2 (by decide)
    rw [← e3, Nat.zero_add] at h1
    have h2 := digs0_len (b := 256) (by decide) _ V (Nat.lt_of_lt_of_le h1 (p58 _))
    have h3 := congrArg List.length e1
    rw [List.length_drop, List.length_map] at h3
    have := ones_le s
    simp only [List.length_append, List.length_replicate, List.length_map, List.length_reverse]
    omega
end Go.Proofs.YtokoohdpakhphaaDoor.Lnk
