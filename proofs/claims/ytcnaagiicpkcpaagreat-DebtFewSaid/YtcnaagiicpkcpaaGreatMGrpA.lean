/- Plain: sets as numbers, the most groups of balances. -/
import Derived.Test.YtcnaagiicpkcpaaGreatMRing
import Derived.Test.YtcnaagiicpkcpaaGreatMGrp3
import Derived.Deep.DeepCutAuto
import Derived.Deep.CutBlock
set_option linter.unusedVariables false
set_option linter.unusedSimpArgs false
namespace Go.Proofs.YtcnaagiicpkcpaaGreat
/-- s holds no other bits than t -/
def Sb (s t : Nat) : Prop := s &&& t = s
theorem Sb.bit {s t i : Nat} (h : Sb s t) (hi : s.testBit i = true) : t.testBit i = true := by
 have e : (s &&& t).testBit i = true := by rw [show s &&& t = s from h]; exact hi
 rw [Nat.testBit_and, hi] at e
 simpa using e
theorem sb_of {s t : Nat} (h : ∀ i, s.testBit i = true → t.testBit i = true) : Sb s t := by
 refine Nat.eq_of_testBit_eq (fun i => ?_)
 rw [Nat.testBit_and]
 rcases hb : s.testBit i with _ | _
 ·rfl
 ·rw [h i hb]; rfl
theorem Sb.refl (s : Nat) : Sb s s := sb_of (fun _ h => h)
theorem Sb.trans {s t u : Nat} (h : Sb s t) (k : Sb t u) : Sb s u := sb_of (fun i hi => k.bit (h.bit hi))
theorem Sb.le {s t : Nat} (h : Sb s t) : s ≤ t := Nat.le_of_testBit (fun i hi => h.bit hi)
theorem sb_zero (t : Nat) : Sb 0 t := sb_of (fun i h => by simp at h)
theorem ext_bit {s t : Nat} (h : ∀ i, s.testBit i = t.testBit i) : s = t := Nat.eq_of_testBit_eq h
/-- the rest of a set: bit by bit -/
theorem xor_rest {s t : Nat} (h : Sb s t) : ∀ i, (t ^^^ s).testBit i = (t.testBit i && !s.testBit i) := fun i => by
 rw [Nat.testBit_xor]
 rcases hb : s.testBit i with _ | _
 ·simp
 ·rw [h.bit hb]; rfl
theorem sub_xor : ∀ (t s : Nat), Sb s t → t - s = t ^^^ s := fun t => by
 induction t using Nat.strongRecOn with
 | _ t ih =>
  intro s h
  by_cases h0 : t = 0
  ·have := h.le
   obtain rfl : s = 0 := by omega
   simp
  ·have h2 : Sb (s / 2) (t / 2) := by
    unfold Sb at h ⊢
    rw [← Nat.and_div_two, h]
   have e := ih (t / 2) (by omega) (s / 2) h2
   have hle := h2.le
   have hx : (t ^^^ s) / 2 = t / 2 ^^^ s / 2 := Nat.xor_div_two
   have hs2 : s % 2 ≤ t % 2 := by
    rcases Nat.mod_two_eq_zero_or_one s with a | a
    ·omega
    ·have := h.bit (i := 0) (by rw [Nat.testBit_zero]; simpa using a)
     rw [Nat.testBit_zero] at this
     have : t % 2 = 1 := by simpa using this
     omega
   have h3 : (t ^^^ s) % 2 = t % 2 - s % 2 := by
    have hx := Nat.xor_mod_two_eq_one (a := t) (b := s)
    rcases Nat.mod_two_eq_zero_or_one (t ^^^ s) with c | c
    ·have : ¬ ¬ (t % 2 = 1 ↔ s % 2 = 1) := fun q => by have := hx.2 q; omega
     have := Classical.not_not.1 this
     omega
    ·have := hx.1 c
     omega
   have d1 := Nat.div_add_mod t 2
   have d2 := Nat.div_add_mod s 2
   have d3 := Nat.div_add_mod (t ^^^ s) 2
   rw [hx, ← e, h3] at d3
   omega
theorem rest_bit {s t : Nat} (h : Sb s t) (i : Nat) : (t - s).testBit i = (t.testBit i && !s.testBit i) := by rw [sub_xor t s h, xor_rest h i]
theorem rest_sb {s t : Nat} (h : Sb s t) : Sb (t - s) t := sb_of (fun i hi => by rw [rest_bit h] at hi; rw [Bool.and_eq_true] at hi; exact hi.1)
theorem rest_rest {s t : Nat} (h : Sb s t) : t - (t - s) = s := by have := h.le; omega
theorem sb_bit {s i : Nat} (h : s.testBit i = true) : Sb (2 ^ i) s := sb_of (fun j hj => by rw [Nat.testBit_two_pow] at hj; have e : i = j := (by simpa using hj); rw [← e]; exact h)
theorem ex_bit {s : Nat} (h : 0 < s) : ∃ i, s.testBit i = true := by
 refine Classical.byContradiction (fun q => ?_)
 have : s = 0 := ext_bit (fun i => by
  rw [Nat.zero_testBit]
  rcases hb : s.testBit i with _ | _
  ·rfl
  ·exact absurd ⟨i, hb⟩ q)
 omega
theorem bit_lt {s n i : Nat} (hs : s < 2 ^ n) (h : s.testBit i = true) : i < n := by
 rcases Nat.lt_or_ge i n with e | e
 ·exact e
 ·rw [Nat.testBit_lt_two_pow (Nat.lt_of_lt_of_le hs (Nat.pow_le_pow_right (by omega) e))] at h; cases h
/-- the next set of m below s is the greatest one -/
theorem next_le : ∀ (m s t : Nat), Sb s m → Sb t m → t < s → t ≤ (s - 1) &&& m := fun m => by
 induction m using Nat.strongRecOn with
 | _ m ih =>
  intro s t hs ht hlt
  have hsm := hs.le
  have h2 : ∀ {a b : Nat}, Sb a b → Sb (a / 2) (b / 2) := fun h => by unfold Sb at h ⊢; rw [← Nat.and_div_two, h]
  have hd : ((s - 1) &&& m) / 2 = (s - 1) / 2 &&& m / 2 := Nat.and_div_two
  have d0 := Nat.div_add_mod ((s - 1) &&& m) 2
  rw [hd] at d0
  rcases Nat.mod_two_eq_zero_or_one s with a | a
  ·have e1 : (s - 1) / 2 = s / 2 - 1 := by omega
   have h3 := ih (m / 2) (by omega) (s / 2) (t / 2) (h2 hs) (h2 ht) (by omega)
   rw [e1] at d0
   have h4 : ((s - 1) &&& m) % 2 = m % 2 := by
    rcases Nat.mod_two_eq_zero_or_one m with b | b
    ·have : ¬ ((s - 1) &&& m) % 2 = 1 := fun q => by have := (Nat.and_mod_two_eq_one.1 q).2; omega
     omega
    ·rw [b]; exact Nat.and_mod_two_eq_one.2 ⟨by omega, b⟩
   have h5 : t % 2 ≤ m % 2 := by
    rcases Nat.mod_two_eq_zero_or_one t with b | b
    ·omega
    ·have := ht.bit (i := 0) (by rw [Nat.testBit_zero]; simpa using b)
     rw [Nat.testBit_zero] at this
     have : m % 2 = 1 := by simpa using this
     omega
   omega
  ·have e1 : (s - 1) / 2 = s / 2 := by omega
   have h3 : s / 2 &&& m / 2 = s / 2 := h2 hs
   rw [e1, h3] at d0
   omega
theorem next_sb (m s : Nat) : Sb ((s - 1) &&& m) m := sb_of (fun i hi => by rw [Nat.testBit_and, Bool.and_eq_true] at hi; exact hi.2)
theorem next_lt {m s : Nat} (h : 0 < s) : (s - 1) &&& m < s := by have := Nat.and_le_left (n := s - 1) (m := m); omega
section
variable (n : Nat) (f : Nat → Int)
/-- the sum of a set's first k numbers -/
def smI (s : Nat) : Nat → Int
 | 0 => 0
 | k + 1 => smI s k + (if s.testBit k = true then f k else 0)
theorem smI_zero (k : Nat) : smI f 0 k = 0 := by
 induction k with
 | zero => rfl
 | succ k ih => simp [smI, ih]
theorem smI_rest {s t : Nat} (h : Sb s t) (k : Nat) : smI f s k + smI f (t - s) k = smI f t k := by
 induction k with
 | zero => rfl
 | succ k ih =>
  simp only [smI, rest_bit h]
  rcases hb : s.testBit k with _ | _
  ·rcases ht : t.testBit k with _ | _ <;> simp <;> omega
  ·rw [h.bit hb]; simp; omega
theorem smI_bit {s i : Nat} (h : s.testBit i = true) (k : Nat) (hk : i < k) : smI f (s - 2 ^ i) k + f i = smI f s k := by
 have h1 := smI_rest f (sb_bit h) k
 have h2 : ∀ k, smI f (2 ^ i) k = if i < k then f i else 0 := fun k => by
  induction k with
  | zero => rfl
  | succ k ih =>
   simp only [smI, ih, Nat.testBit_two_pow]
   by_cases e : i = k
   ·subst e; simp
   ·by_cases e2 : i < k
    ·simp [e, e2, show i < k + 1 by omega]
    ·simp [e, e2, show ¬ i < k + 1 by omega]
 rw [h2, if_pos hk] at h1
 omega
/-- the most of a set's sets with one number less -/
def pmx (v : Nat → Nat) (s : Nat) : Nat → Nat
 | 0 => 0
 | k + 1 => if s.testBit k = true then max (pmx v s k) (v (s - 2 ^ k)) else pmx v s k
theorem pmx_congr {v u : Nat → Nat} {s : Nat} : ∀ k, (∀ i, i < k → s.testBit i = true → v (s - 2 ^ i) = u (s - 2 ^ i)) → pmx v s k = pmx u s k
 | 0, _ => rfl
 | k + 1, h => by
  simp only [pmx]
  rw [pmx_congr k (fun i hi => h i (by omega))]
  by_cases e : s.testBit k = true
  ·rw [if_pos e, if_pos e, h k (by omega) e]
  ·rw [if_neg e, if_neg e]
theorem pmx_ge {v : Nat → Nat} {s i : Nat} (h : s.testBit i = true) : ∀ k, i < k → v (s - 2 ^ i) ≤ pmx v s k
 | 0, hk => by omega
 | k + 1, hk => by
  simp only [pmx]
  by_cases e : i = k
  ·subst e; rw [if_pos h]; omega
  ·have := pmx_ge (v := v) h k (by omega)
   split <;> omega
theorem pmx_at {v : Nat → Nat} {s : Nat} : ∀ k, pmx v s k = 0 ∨ ∃ i, i < k ∧ s.testBit i = true ∧ pmx v s k = v (s - 2 ^ i)
 | 0 => .inl rfl
 | k + 1 => by
  simp only [pmx]
  by_cases e : s.testBit k = true
  ·rw [if_pos e]
   rcases Nat.le_total (pmx v s k) (v (s - 2 ^ k)) with h | h
   ·rw [Nat.max_eq_right h]; exact .inr ⟨k, by omega, e, rfl⟩
   ·rw [Nat.max_eq_left h]
    rcases pmx_at k with q | ⟨i, h1, h2, h3⟩
    ·exact .inl q
    ·exact .inr ⟨i, by omega, h2, h3⟩
  ·rw [if_neg e]
   rcases pmx_at k with q | ⟨i, h1, h2, h3⟩
   ·exact .inl q
   ·exact .inr ⟨i, by omega, h2, h3⟩
def gmF : Nat → Nat → Nat
 | 0, _ => 0
 | k + 1, s => if s = 0 then 0 else pmx (gmF k) s n + (if smI f s n = 0 then 1 else 0)
theorem gmF_same (s : Nat) : ∀ k, s ≤ k → gmF n f k s = gmF n f s s := by
 induction s using Nat.strongRecOn with
 | _ s ih =>
  intro k hk
  rcases s with _ | s
  ·cases k <;> simp [gmF]
  ·rcases k with _ | k
   ·omega
   ·simp only [gmF]
    rw [if_neg (Nat.succ_ne_zero s), if_neg (Nat.succ_ne_zero s), pmx_congr n (v := gmF n f k) (u := gmF n f s) (fun i hi hb => by
     have h1 := (sb_bit hb).le
     have h2 := Nat.one_le_two_pow (n := i)
     rw [ih (s + 1 - 2 ^ i) (by omega) k (by omega), ih (s + 1 - 2 ^ i) (by omega) s (by omega)])]
/-- the most groups in a set -/
def pm (s : Nat) : Nat := gmF n f s s
theorem gm_zero : pm n f 0 = 0 := rfl
theorem pm_eq {s : Nat} (h : 0 < s) : pm n f s = pmx (pm n f) s n + (if smI f s n = 0 then 1 else 0) := by
 obtain ⟨k, rfl⟩ : ∃ k, s = k + 1 := ⟨s - 1, by omega⟩
 show gmF n f (k + 1) (k + 1) = _
 simp only [gmF]
 rw [if_neg (Nat.succ_ne_zero k), pmx_congr n (v := gmF n f k) (u := pm n f) (fun i hi hb => by
  have h1 := (sb_bit hb).le
  have h2 := Nat.one_le_two_pow (n := i)
  exact gmF_same n f _ k (by omega))]
end
section
variable {n : Nat} {f : Nat → Int}
theorem pm_step {s i : Nat} (hi : i < n) (h : s.testBit i = true) : pm n f (s - 2 ^ i) + (if smI f s n = 0 then 1 else 0) ≤ pm n f s := by
 have h1 := (sb_bit h).le
 have h2 := Nat.one_le_two_pow (n := i)
 rw [pm_eq n f (s := s) (by omega)]
 have := pmx_ge (v := pm n f) h n hi
 omega
theorem pm_mono : ∀ (s t : Nat), s < 2 ^ n → Sb t s → pm n f t ≤ pm n f s := fun s => by
 induction s using Nat.strongRecOn with
 | _ s ih =>
  intro t hs ht
  by_cases e : t = s
  ·rw [e]; exact Nat.le_refl _
  ·have hle := ht.le
   obtain ⟨i, hi⟩ := ex_bit (s := s - t) (by omega)
   rw [rest_bit ht, Bool.and_eq_true] at hi
   have h1 := (sb_bit hi.1).le
   have h2 := Nat.one_le_two_pow (n := i)
   have h3 := ih (s - 2 ^ i) (by omega) t (by omega) (sb_of (fun j hj => by
    rw [rest_bit (sb_bit hi.1), ht.bit hj, Nat.testBit_two_pow]
    have : ¬ i = j := fun q => by rw [← q] at hj; rw [hj] at hi; simp at hi
    simp [this]))
   have h4 := pm_step (f := f) (bit_lt hs hi.1) hi.1
   omega
theorem pm_more {s t : Nat} (hs : s < 2 ^ n) (ht : Sb t s) (hne : t ≠ s) (h0 : smI f s n = 0) : pm n f t + 1 ≤ pm n f s := by
 have hle := ht.le
 obtain ⟨i, hi⟩ := ex_bit (s := s - t) (by omega)
 rw [rest_bit ht, Bool.and_eq_true] at hi
 have h1 := (sb_bit hi.1).le
 have h2 := Nat.one_le_two_pow (n := i)
 have h3 := pm_mono (n := n) (f := f) (s - 2 ^ i) t (by omega) (sb_of (fun j hj => by
  rw [rest_bit (sb_bit hi.1), ht.bit hj, Nat.testBit_two_pow]
  have : ¬ i = j := fun q => by rw [← q] at hj; rw [hj] at hi; simp at hi
  simp [this]))
 have h4 := pm_step (f := f) (bit_lt hs hi.1) hi.1
 rw [if_pos h0] at h4
 omega
theorem pm_one {s : Nat} (hs : s < 2 ^ n) (h : 0 < s) (h0 : smI f s n = 0) : 1 ≤ pm n f s := by
 have := pm_more (t := 0) hs (sb_zero s) (by omega) h0
 omega
theorem pm_chain : ∀ u : Nat, u < 2 ^ n → 1 ≤ pm n f u → ∃ t, Sb t u ∧ 0 < t ∧ smI f t n = 0 ∧ pm n f t = pm n f u := fun u => by
 induction u using Nat.strongRecOn with
 | _ u ih =>
  intro hu h
  have hpos : 0 < u := by
   rcases Nat.eq_zero_or_pos u with e | e
   ·subst e; rw [gm_zero] at h; omega
   ·exact e
  by_cases h0 : smI f u n = 0
  ·exact ⟨u, Sb.refl u, hpos, h0, rfl⟩
  ·have e := pm_eq n f hpos
   rw [if_neg h0] at e
   rcases pmx_at (v := pm n f) (s := u) n with q | ⟨i, h1, h2, h3⟩
   ·omega
   ·have hb := sb_bit h2
    have := hb.le
    have p1 := Nat.one_le_two_pow (n := i)
    obtain ⟨t, t1, t2, t3, t4⟩ := ih (u - 2 ^ i) (by omega) (by omega) (by omega)
    exact ⟨t, t1.trans (rest_sb hb), t2, t3, by omega⟩
/-- the lowest number of a set -/
def Low (s i : Nat) : Prop := s.testBit i = true ∧ ∀ j, j < i → s.testBit j = false
theorem Low.of_sb {s t i : Nat} (h : Low s i) (hs : Sb t s) (ht : t.testBit i = true) : Low t i := ⟨ht, fun j hj => by
 rcases hb : t.testBit j with _ | _
 ·rfl
 ·have := hs.bit hb; rw [h.2 j hj] at this; cases this⟩
/-- a set with the sum 0 is one group, or parts into one with the lowest number and a rest -/
theorem pm_split : ∀ s : Nat, s < 2 ^ n → 0 < s → smI f s n = 0 → ∀ b, Low s b → pm n f s = 1 ∨ ∃ p, Sb p s ∧ p ≠ s ∧ p.testBit b = true ∧ smI f p n = 0 ∧ pm n f s = 1 + pm n f (s - p) := fun s => by
 induction s using Nat.strongRecOn with
 | _ s ih =>
  intro hs hpos h0 b hb
  have e := pm_eq n f hpos
  rw [if_pos h0] at e
  rcases pmx_at (v := pm n f) (s := s) n with q | ⟨i, h1, h2, h3⟩
  ·left; omega
  ·have hbi := sb_bit h2
   have hle := hbi.le
   have p1 := Nat.one_le_two_pow (n := i)
   by_cases hu : pm n f (s - 2 ^ i) = 0
   ·left; omega
   ·obtain ⟨t, t1, t2, t3, t4⟩ := pm_chain (n := n) (f := f) (s - 2 ^ i) (by omega) (by omega)
    have hts : Sb t s := t1.trans (rest_sb hbi)
    have hti : t.testBit i = false := by
     rcases hb : t.testBit i with _ | _
     ·rfl
     ·have := t1.bit hb; rw [rest_bit hbi, Nat.testBit_two_pow] at this; simp at this
    have htne : t ≠ s := fun q => by rw [q] at hti; rw [h2] at hti; cases hti
    have htle := hts.le
    have hq0 : smI f (s - t) n = 0 := by have := smI_rest f hts n; omega
    have hqs := rest_sb hts
    have hrr := rest_rest hts
    right
    rcases htb : t.testBit b with _ | _
    ·refine ⟨s - t, hqs, by omega, ?_, hq0, ?_⟩
     ·rw [rest_bit hts, hb.1, htb]; rfl
     ·rw [hrr]; omega
    ·have hlow := hb.of_sb hts htb
     have hq1 := pm_one (f := f) (s := s - t) (by omega) (by omega) hq0
     rcases ih t (by omega) (by omega) t2 t3 b hlow with k | ⟨p, k1, k2, k3, k4, k5⟩
     ·refine ⟨t, hts, htne, htb, t3, ?_⟩
      have hm := pm_more (f := f) (s := s) (t := s - t) hs hqs (by omega) h0
      omega
     ·have hps := k1.trans hts
      have hple := k1.le
      have hp0 : smI f (s - p) n = 0 := by have := smI_rest f hps n; omega
      have hsub : Sb (t - p) (s - p) := sb_of (fun j hj => by
       rw [rest_bit k1, Bool.and_eq_true] at hj
       rw [rest_bit hps, hts.bit hj.1, hj.2]; rfl)
      have hm := pm_more (f := f) (s := s - p) (t := t - p) (by omega) hsub (by omega) hp0
      have hpp : p ≠ 0 := fun q => by subst q; simp at k3
      have hm2 := pm_more (f := f) (s := s) (t := s - p) hs (rest_sb hps) (by omega) h0
      exact ⟨p, hps, by omega, k3, k4, by omega⟩
end
end Go.Proofs.YtcnaagiicpkcpaaGreat

/- Plain: the first of the groupings with the most groups. -/
namespace Go.Proofs.YtcnaagiicpkcpaaGreat
/-- the order of lists -/
def lexN : List Nat → List Nat → Bool
 | [], [] => false
 | [], _ :: _ => true
 | _ :: _, [] => false
 | a :: x, b :: y => if a < b then true else if b < a then false else lexN x y
theorem lexN_asym : ∀ a b : List Nat, lexN a b = true → lexN b a = false
 | [], [], h => by cases h
 | [], _ :: _, _ => rfl
 | _ :: _, [], h => by cases h
 | a :: x, b :: y, h => by
  simp only [lexN] at h ⊢
  by_cases h1 : a < b
  ·rw [if_neg (by omega), if_pos h1]
  ·rw [if_neg h1] at h
   by_cases h2 : b < a
   ·rw [if_pos h2] at h; cases h
   ·rw [if_neg h2] at h
    rw [if_neg h2, if_neg h1]
    exact lexN_asym x y h
theorem lexN_trans : ∀ a b c : List Nat, lexN a b = true → lexN b c = true → lexN a c = true
 | [], [], _, h, _ => by cases h
 | [], _ :: _, [], _, h => by cases h
 | [], _ :: _, _ :: _, _, _ => rfl
 | _ :: _, [], _, h, _ => by cases h
 | _ :: _, _ :: _, [], _, h => by cases h
 | a :: x, b :: y, c :: z, h, k => by
  simp only [lexN] at h k ⊢
  by_cases h1 : a < b
  ·by_cases k1 : b < c
   ·rw [if_pos (by omega)]
   ·rw [if_neg k1] at k
    by_cases k2 : c < b
    ·rw [if_pos k2] at k; cases k
    ·rw [if_pos (by omega)]
  ·rw [if_neg h1] at h
   by_cases h2 : b < a
   ·rw [if_pos h2] at h; cases h
   ·rw [if_neg h2] at h
    by_cases k1 : b < c
    ·rw [if_pos (by omega)]
    ·rw [if_neg k1] at k
     by_cases k2 : c < b
     ·rw [if_pos k2] at k; cases k
     ·rw [if_neg k2] at k
      rw [if_neg (by omega), if_neg (by omega)]
      exact lexN_trans x y z h k
theorem lexN_total : ∀ a b : List Nat, a ≠ b → lexN a b = true ∨ lexN b a = true
 | [], [], h => absurd rfl h
 | [], _ :: _, _ => .inl rfl
 | _ :: _, [], _ => .inr rfl
 | a :: x, b :: y, h => by
  simp only [lexN]
  by_cases h1 : a < b
  ·left; rw [if_pos h1]
  ·by_cases h2 : b < a
   ·right; rw [if_pos h2]
   ·rw [if_neg h1, if_neg h2, if_neg h2, if_neg h1]
    refine lexN_total x y (fun e => h ?_)
    rw [e, show a = b by omega]
/-- a list's numbers -/
def lsF (a : List Nat) (i : Nat) : Int := ((a.getD i 0 : Nat) : Int)
theorem lexC_lex (a b : List Nat) : ∀ u k, u + k = a.length → (lexC (lsF a) (lsF b) a.length b.length u k < 0 ↔ lexN (a.drop k) (b.drop k) = true)
 | 0, k, h => by
  have e : a.drop k = [] := List.drop_eq_nil_of_le (by omega)
  rw [e]
  unfold lexC
  by_cases h1 : a.length < b.length
  ·rw [if_pos h1, List.drop_eq_getElem_cons (show k < b.length by omega)]; simp [lexN]
  ·rw [if_neg h1, List.drop_eq_nil_of_le (show b.length ≤ k by omega)]; simp [lexN]
 | u + 1, k, h => by
  have hk : k < a.length := by omega
  rw [List.drop_eq_getElem_cons hk]
  unfold lexC
  by_cases h1 : b.length ≤ k
  ·rw [if_pos h1, List.drop_eq_nil_of_le h1]; simp [lexN]
  ·have hb : k < b.length := by omega
   rw [if_neg h1, List.drop_eq_getElem_cons hb]
   have ea : lsF a k = ((a[k] : Nat) : Int) := by unfold lsF; rw [List.getD_eq_getElem?_getD, List.getElem?_eq_getElem hk]; rfl
   have eb : lsF b k = ((b[k] : Nat) : Int) := by unfold lsF; rw [List.getD_eq_getElem?_getD, List.getElem?_eq_getElem hb]; rfl
   rw [ea, eb]
   simp only [lexN]
   have hc : cmp3 ((a[k] : Nat) : Int) ((b[k] : Nat) : Int) = if a[k] < b[k] then -1 else if b[k] < a[k] then 1 else 0 := by
    unfold cmp3
    by_cases c1 : a[k] < b[k]
    ·rw [if_pos c1, if_pos (by omega)]
    ·rw [if_neg c1, if_neg (by omega)]
     by_cases c2 : b[k] < a[k]
     ·rw [if_pos c2, if_pos (by omega)]
     ·rw [if_neg c2, if_neg (by omega)]
   rw [hc]
   by_cases c1 : a[k] < b[k]
   ·rw [if_pos c1, if_pos c1]; simp
   ·rw [if_neg c1, if_neg c1]
    by_cases c2 : b[k] < a[k]
    ·rw [if_pos c2, if_pos c2]; simp
    ·rw [if_neg c2, if_neg c2, if_pos rfl]
     exact lexC_lex a b u (k + 1) (by omega)
theorem lex_sets (a b : List Nat) : lexC (lsF a) (lsF b) a.length b.length a.length 0 < 0 ↔ lexN a b = true := by
 have := lexC_lex a b a.length 0 (by omega)
 simpa using this
theorem mem_mem (s n i : Nat) : i ∈ mem s n ↔ i < n ∧ s.testBit i = true := by simp [mem]
theorem mem_inj {s t n : Nat} (hs : s < 2 ^ n) (ht : t < 2 ^ n) (h : mem s n = mem t n) : s = t := ext_bit (fun i => by
 rcases Nat.lt_or_ge i n with e | e
 ·have h1 := mem_mem s n i
  have h2 := mem_mem t n i
  rw [h] at h1
  have h3 := h1.symm.trans h2
  rcases a : s.testBit i with _ | _ <;> rcases b : t.testBit i with _ | _ <;> simp [a, b, e] at h3 ⊢
 ·rw [Nat.testBit_lt_two_pow (Nat.lt_of_lt_of_le hs (Nat.pow_le_pow_right (by omega) e)), Nat.testBit_lt_two_pow (Nat.lt_of_lt_of_le ht (Nat.pow_le_pow_right (by omega) e))])
theorem mem_ten {s n : Nat} (hs : s < 2 ^ n) (hn : n ≤ 10) : mem s 10 = mem s n := by
 have := mem_done s n hs (10 - n)
 rw [show n + (10 - n) = 10 by omega] at this; exact this
section
variable (n : Nat) (f : Nat → Int)
/-- a set that may be the next group -/
structure Cand (left s : Nat) : Prop where
 sub : Sb s left
 pos : 0 < s
 low : ∃ b, Low left b ∧ s.testBit b = true
 sum : smI f s n = 0
 most : 1 + pm n f (left - s) = pm n f left
def Best (left s : Nat) : Prop := Cand n f left s ∧ ∀ c, Cand n f left c → c = s ∨ lexN (mem s n) (mem c n) = true
/-- groups out of a set, and what is left -/
def GrpP : Nat → List Nat → Nat → Prop
 | start, [], left => left = start
 | start, g :: l, left => Best n f start g ∧ GrpP (start - g) l left
end
section
variable {n : Nat} {f : Nat → Int}
theorem low_ex : ∀ {s : Nat}, 0 < s → ∃ b, Low s b := fun {s} h => by
 obtain ⟨i, hi⟩ := ex_bit h
 obtain ⟨m, h1, h2⟩ := (show ∀ k, s.testBit k = true → ∃ m, s.testBit m = true ∧ ∀ j, s.testBit j = true → m ≤ j from fun k => by
  induction k using Nat.strongRecOn with
  | _ k ih =>
   intro h
   by_cases e : ∃ j, j < k ∧ s.testBit j = true
   ·obtain ⟨j, hj, hp⟩ := e
    exact ih j hj hp
   ·exact ⟨k, h, fun j hp => Nat.not_lt.1 (fun q => e ⟨j, q, hp⟩)⟩) i hi
 exact ⟨m, h1, fun j hj => by
  rcases hb : s.testBit j with _ | _
  ·rfl
  ·have := h2 j hb; omega⟩
theorem Low.uniq {s a b : Nat} (ha : Low s a) (hb : Low s b) : a = b := by
 rcases Nat.lt_trichotomy a b with e | e | e
 ·have := hb.2 a e; rw [ha.1] at this; cases this
 ·exact e
 ·have := ha.2 b e; rw [hb.1] at this; cases this
theorem cand_ex {left : Nat} (hl : left < 2 ^ n) (h : 0 < left) (h0 : smI f left n = 0) : ∃ s, Cand n f left s := by
 obtain ⟨b, hb⟩ := low_ex h
 rcases pm_split left hl h h0 b hb with e | ⟨p, h1, h2, h3, h4, h5⟩
 ·refine ⟨left, Sb.refl _, h, ⟨b, hb, hb.1⟩, h0, ?_⟩
  rw [Nat.sub_self, gm_zero]; omega
 ·refine ⟨p, h1, ?_, ⟨b, hb, h3⟩, h4, by omega⟩
  rcases Nat.eq_zero_or_pos p with e | e
  ·subst e; simp at h3
  ·exact e
theorem Best.uniq {left a b : Nat} (ha : Best n f left a) (hb : Best n f left b) : a = b := by
 rcases ha.2 b hb.1 with e | e
 ·exact e.symm
 ·rcases hb.2 a ha.1 with e2 | e2
  ·exact e2
  ·rw [lexN_asym _ _ e] at e2; cases e2
theorem Best.rest {left s : Nat} (h : Best n f left s) (h0 : smI f left n = 0) : smI f (left - s) n = 0 := by
 have := smI_rest f h.1.sub n
 have := h.1.sum
 omega
theorem GrpP.uniq : ∀ {a b : List Nat} {start : Nat}, GrpP n f start a 0 → GrpP n f start b 0 → a = b
 | [], [], _, _, _ => rfl
 | [], g :: l, start, h, k => by
  have h0 : 0 = start := h
  have k1 := k.1.1
  have := k1.sub.le
  have := k1.pos
  omega
 | g :: l, [], start, h, k => by
  have h0 : 0 = start := k
  have k1 := h.1.1
  have := k1.sub.le
  have := k1.pos
  omega
 | g :: l, g' :: l', start, h, k => by
  obtain rfl := h.1.uniq k.1
  rw [GrpP.uniq h.2 k.2]
theorem GrpP.push : ∀ {a : List Nat} {start left g : Nat}, GrpP n f start a left → Best n f left g → GrpP n f start (a ++ [g]) (left - g)
 | [], start, left, g, h, k => by
  obtain rfl : left = start := h
  exact ⟨k, rfl⟩
 | x :: a, start, left, g, h, k => ⟨h.1, GrpP.push h.2 k⟩
end
end Go.Proofs.YtcnaagiicpkcpaaGreat

/- debt.groups: the first of the groupings with the most groups. -/
namespace Go.Proofs.YtcnaagiicpkcpaaGreat
open Go.RowKit
attribute [local go_sem ↓] Go.wp_at_zero Go.wp_at_succ
theorem bv_nat (a : Nat) (h : a < 4611686018427387904) : (BitVec.ofInt 64 (a : Int)).toNat = a := by
 rw [BitVec.toNat_ofInt]; omega
theorem bits_and (a b : Nat) (ha : a < 4611686018427387904) (hb : b < 4611686018427387904) : bits .and .i64 (a : Int) (b : Int) = ((a &&& b : Nat) : Int) := by
 show IntKind.i64.wrap ((BitVec.ofInt 64 (a : Int) &&& BitVec.ofInt 64 (b : Int)).toNat : Nat) = _
 rw [BitVec.toNat_and, bv_nat a ha, bv_nat b hb, IntKind.wrap_i64]
 have := Nat.and_le_left (n := a) (m := b)
 omega
theorem bits_xor (a b : Nat) (h : Sb b a) (ha : a < 4611686018427387904) : bits .xor .i64 (a : Int) (b : Int) = ((a - b : Nat) : Int) := by
 have hb := h.le
 show IntKind.i64.wrap ((BitVec.ofInt 64 (a : Int) ^^^ BitVec.ofInt 64 (b : Int)).toNat : Nat) = _
 rw [BitVec.toNat_xor, bv_nat a ha, bv_nat b (by omega), ← sub_xor a b h, IntKind.wrap_i64]
 omega
theorem bits_not (a b : Nat) (h : Sb b a) (ha : a < 4611686018427387904) : bits .andNot .i64 (a : Int) (b : Int) = ((a - b : Nat) : Int) := by
 have hb := h.le
 show IntKind.i64.wrap ((BitVec.ofInt 64 (a : Int) &&& ~~~BitVec.ofInt 64 (b : Int)).toNat : Nat) = _
 have e : a &&& (2 ^ 64 - 1 - b) = a - b := ext_bit (fun i => by
  rw [rest_bit h, Nat.testBit_and, show 2 ^ 64 - 1 - b = 2 ^ 64 - (b + 1) by omega, Nat.testBit_two_pow_sub_succ (by omega)]
  rcases hi : a.testBit i with _ | _
  ·rfl
  ·have : i < 64 := bit_lt (n := 64) (by omega) hi
   simp [this])
 rw [BitVec.toNat_and, BitVec.toNat_not, bv_nat a ha, bv_nat b (by omega), e, IntKind.wrap_i64]
 omega
/-- the lowest bit of a set -/
def lowb (s : Nat) : Nat := s - ((s - 1) &&& s)
theorem low_facts : ∀ s : Nat, s < 1024 → 0 < s → bits .and .i64 (s : Int) (-(s : Int)) = (lowb s : Int) ∧ lowb s < 1024 := by
 unfold lowb
 decide +kernel
theorem low_bit : ∀ s : Nat, s < 1024 → 0 < s → ∃ i, i < 10 ∧ lowb s = 2 ^ i ∧ s.testBit i = true ∧ ∀ j, j < i → s.testBit j = false := by
 unfold lowb
 decide +kernel
theorem and_pow (s i : Nat) : s &&& 2 ^ i = 0 ↔ s.testBit i = false := by
 constructor
 ·intro h
  have e : (s &&& 2 ^ i).testBit i = false := by rw [h]; exact Nat.zero_testBit i
  rw [Nat.testBit_and, Nat.testBit_two_pow_self] at e
  simpa using e
 ·intro h
  refine ext_bit (fun j => ?_)
  rw [Nat.testBit_and, Nat.testBit_two_pow, Nat.zero_testBit]
  by_cases e : i = j
  ·subst e; simp [h]
  ·simp [e]
theorem pow_wrap2 : ∀ K, K < 11 → IntKind.i64.wrap ((2 : Int) ^ K) = 2 ^ K ∧ RowKit.wrap64 ((2 : Int) ^ K) = 2 ^ K := by decide +kernel
section
variable {n : Nat} {f : Nat → Int}
theorem smI_bound (hf : ∀ i, i < n → -10000 ≤ f i ∧ f i ≤ 10000) (s : Nat) : ∀ k, k ≤ n → -10000 * (k : Int) ≤ smI f s k ∧ smI f s k ≤ 10000 * (k : Int)
 | 0, _ => by simp [smI]
 | k + 1, hk => by
  have ih := smI_bound hf s k (by omega)
  have := hf k (by omega)
  simp only [smI]
  split <;> omega
theorem pm_le (s : Nat) : pm n f s ≤ s := by
 induction s using Nat.strongRecOn with
 | _ s ih =>
  rcases Nat.eq_zero_or_pos s with e | e
  ·subst e; exact Nat.le_refl _
  ·rw [pm_eq n f e]
   rcases pmx_at (v := pm n f) (s := s) n with q | ⟨i, h1, h2, h3⟩
   ·rw [q]; split <;> omega
   ·have hb := (sb_bit h2).le
    have := Nat.one_le_two_pow (n := i)
    have := ih (s - 2 ^ i) (by omega)
    split <;> omega
/-- the greatest of the first j values -/
def pq (n : Nat) (f : Nat → Int) (s j : Nat) : Int := (((mem s 10).take j).map (fun k => ((pm n f (s - 2 ^ k) : Nat) : Int))).foldl max 0
theorem pq_zero (s : Nat) : pq n f s 0 = 0 := by simp [pq]
theorem pq_succ (s j : Nat) (h : j < (mem s 10).length) : pq n f s (j + 1) = max (pq n f s j) ((pm n f (s - 2 ^ ((mem s 10).getD j 0)) : Nat) : Int) := by
 unfold pq
 rw [List.take_add_one, List.getElem?_eq_getElem h, List.map_append, List.foldl_append, List.getD_eq_getElem?_getD, List.getElem?_eq_getElem h]
 rfl
theorem pq_fold (s : Nat) : ∀ k, ((mem s k).map (fun k => ((pm n f (s - 2 ^ k) : Nat) : Int))).foldl max 0 = ((pmx (pm n f) s k : Nat) : Int)
 | 0 => rfl
 | k + 1 => by
  rw [mem_succ, List.map_append, List.foldl_append, pq_fold s k]
  simp only [pmx]
  by_cases e : s.testBit k = true
  ·rw [if_pos e, if_pos e]
   simp only [List.map_cons, List.map_nil, List.foldl_cons, List.foldl_nil]
   omega
  ·rw [if_neg e, if_neg e]; rfl
theorem pq_end (s : Nat) (hs : s < 2 ^ n) (hn : n ≤ 10) : pq n f s (mem s 10).length = ((pmx (pm n f) s n : Nat) : Int) := by
 unfold pq
 rw [List.take_length, mem_ten hs hn, pq_fold]
theorem pq_range (s j : Nat) (hs : s < 1024) : 0 ≤ pq n f s j ∧ pq n f s j ≤ 1024 := by
 induction j with
 | zero => rw [pq_zero]; omega
 | succ j ih =>
  by_cases h : j < (mem s 10).length
  ·rw [pq_succ s j h]
   have h2 := pm_le (n := n) (f := f) (s - 2 ^ ((mem s 10).getD j 0))
   have h3 : pm n f (s - 2 ^ ((mem s 10).getD j 0)) ≤ 1024 := Nat.le_trans h2 (Nat.le_trans (Nat.sub_le _ _) (by omega))
   generalize pm n f (s - 2 ^ ((mem s 10).getD j 0)) = t at h3
   omega
  ·unfold pq at ih ⊢
   rw [List.take_of_length_le (by omega)] at ih ⊢
   exact ih
theorem memb_at (s j : Nat) (h : j < (mem s n).length) : (mem s n).getD j 0 < n ∧ s.testBit ((mem s n).getD j 0) = true := by
 rw [List.getD_eq_getElem?_getD, List.getElem?_eq_getElem h]
 exact (mem_mem s n _).1 (List.getElem_mem h)
theorem mem_some (s : Nat) (hs : s < 2 ^ n) (h : 0 < s) : 0 < (mem s n).length := by
 obtain ⟨i, hi⟩ := ex_bit h
 have := (mem_mem s n i).2 ⟨bit_lt hs hi, hi⟩
 exact List.length_pos_of_mem this
end
/-- the tables while set s is under way -/
structure GT (N : Nat) (F M : Nat → Int) (w0 w : World) (A B s : Nat) (x y : Int) : Prop where
 a : w.rowIs A 3 N (ic (rowF F s x))
 b : w.rowIs B 3 N (ic (rowF M s y))
 below : Below w0.heap.size w0 w
section
variable {N : Nat} {F M : Nat → Int}
theorem GT.drew {w0 w : World} {A B s : Nat} {x y : Int} (h : GT N F M w0 w A B s x y) : GT N F M w0 w.drew A B s x y := ⟨h.a.drew, h.b.drew, h.below.drew⟩
theorem GT.setA {w0 w : World} {A B s : Nat} {x y : Int} (h : GT N F M w0 w A B s x y) (hne : A ≠ B) (hA : w0.heap.size ≤ A) (x' : Int) : GT N F M w0 (w.setCell ⟨A, s, none⟩ (.int .i64 x')) A B s x' y :=
 ⟨(h.a.set _ _).congr fun i hi => by
   simp only [ic, rowF]
   by_cases e : i = s
   ·subst e; simp
   ·simp [e],
  h.b.setOther (by exact hne.symm) _, h.below.setCell (by exact hA) _⟩
theorem GT.setB {w0 w : World} {A B s : Nat} {x y : Int} (h : GT N F M w0 w A B s x y) (hne : A ≠ B) (hB : w0.heap.size ≤ B) (y' : Int) : GT N F M w0 (w.setCell ⟨B, s, none⟩ (.int .i64 y')) A B s x y' :=
 ⟨h.a.setOther (by exact hne) _, (h.b.set _ _).congr fun i hi => by
   simp only [ic, rowF]
   by_cases e : i = s
   ·subst e; simp
   ·simp [e], h.below.setCell (by exact hB) _⟩
theorem GT.next {w0 w : World} {A B s : Nat} (h : GT N F M w0 w A B s (F s) (M s)) : GT N F M w0 w A B (s + 1) 0 0 :=
 ⟨h.a.congr fun i hi => by
   simp only [ic, rowF]
   by_cases e : i = s
   ·subst e; simp
   ·by_cases e2 : i < s
    ·simp [e2, show i < s + 1 by omega]
    ·simp [e, e2, show ¬ i < s + 1 by omega],
  h.b.congr fun i hi => by
   simp only [ic, rowF]
   by_cases e : i = s
   ·subst e; simp
   ·by_cases e2 : i < s
    ·simp [e2, show i < s + 1 by omega]
    ·simp [e, e2, show ¬ i < s + 1 by omega], h.below⟩
theorem GT.below' {w0 w w' : World} {A B s : Nat} {x y : Int} (h : GT N F M w0 w A B s x y) (hb : Below w.heap.size w w') : GT N F M w0 w' A B s x y :=
 ⟨rowIs_below h.a hb h.a.lt, rowIs_below h.b hb h.b.lt, h.below.trans (hb.mono h.below.size)⟩
end
end Go.Proofs.YtcnaagiicpkcpaaGreat
