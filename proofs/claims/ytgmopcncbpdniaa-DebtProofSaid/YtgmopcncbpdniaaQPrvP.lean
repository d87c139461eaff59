/- Plain: a remainder of debts that prices prove least is least; so any two of them have one sum. -/
import Derived.Test.YtgmopcncbpdniaaQCancel2
set_option linter.unusedVariables false
set_option linter.unusedSimpArgs false
namespace Go.Proofs.Ytgmopcncbpdniaa

theorem sumF_mul (c : Int) (f : Nat → Int) (n : Nat) : sumF (fun i => c * f i) n = c * sumF f n := by
  induction n with
  | zero => simp [sumF]
  | succ n ih => simp only [sumF]; rw [ih, Int.mul_add]
theorem sumF_sub (f g : Nat → Int) (n : Nat) : sumF (fun i => f i - g i) n = sumF f n - sumF g n := by
  induction n with
  | zero => rfl
  | succ n ih => simp only [sumF]; rw [ih]; omega
theorem sumF_swap (f : Nat → Nat → Int) (m n : Nat) : sumF (fun i => sumF (fun j => f i j) m) n = sumF (fun j => sumF (fun i => f i j) n) m := by
  induction n with
  | zero => simp only [sumF]; rw [sumF_zero]
  | succ n ih => simp only [sumF]; rw [ih, sumF_add]
theorem sumF_le {f g : Nat → Int} {n : Nat} (h : ∀ i, i < n → f i ≤ g i) : sumF f n ≤ sumF g n := by
  induction n with
  | zero => exact Int.le_refl _
  | succ n ih => simp only [sumF]; have := ih (fun i hi => h i (by omega)); have := h n (by omega); omega
theorem sum2_le {f g : Nat → Nat → Int} {n : Nat} (h : ∀ i j, i < n → j < n → f i j ≤ g i j) : sum2 n f ≤ sum2 n g := sumF_le (fun i hi => sumF_le (fun j hj => h i j hi hj))
theorem sum2_add (f g : Nat → Nat → Int) (n : Nat) : sum2 n (fun i j => f i j + g i j) = sum2 n f + sum2 n g := by
  unfold sum2; rw [← sumF_add]; exact sumF_congr (fun i _ => sumF_add _ _ _)
theorem sum2_sub (f g : Nat → Nat → Int) (n : Nat) : sum2 n (fun i j => f i j - g i j) = sum2 n f - sum2 n g := by
  unfold sum2; rw [← sumF_sub]; exact sumF_congr (fun i _ => sumF_sub _ _ _)
theorem sum2_congr {f g : Nat → Nat → Int} {n : Nat} (h : ∀ i j, i < n → j < n → f i j = g i j) : sum2 n f = sum2 n g := sumF_congr (fun i hi => sumF_congr (fun j hj => h i j hi hj))
theorem bal_sub (f g : Nat → Nat → Int) (n v : Nat) : bal n (fun i j => f i j - g i j) v = bal n f v - bal n g v := by
  have h1 := sumF_sub (fun j => f v j) (fun j => g v j) n
  have h2 := sumF_sub (fun j => f j v) (fun j => g j v) n
  unfold bal; dsimp only; omega

/-- prices along a flow -/
theorem potential (n : Nat) (p : Nat → Int) (s : Nat → Nat → Int) : sum2 n (fun i j => s i j * (p j - p i)) = - sumF (fun v => p v * bal n s v) n := by
  have e1 : sum2 n (fun i j => s i j * (p j - p i)) = sum2 n (fun i j => p j * s i j) - sum2 n (fun i j => p i * s i j) := by
    rw [← sum2_sub]; exact sum2_congr (fun i j _ _ => by rw [Int.mul_sub, Int.mul_comm (s i j), Int.mul_comm (s i j)])
  have e2 : sum2 n (fun i j => p j * s i j) = sumF (fun v => p v * sumF (fun i => s i v) n) n := by
    unfold sum2; rw [sumF_swap]; exact sumF_congr (fun v _ => sumF_mul _ _ _)
  have e3 : sum2 n (fun i j => p i * s i j) = sumF (fun v => p v * sumF (fun j => s v j) n) n := by
    unfold sum2; exact sumF_congr (fun v _ => sumF_mul _ _ _)
  have e4 : sumF (fun v => p v * bal n s v) n = sumF (fun v => p v * sumF (fun j => s v j) n) n - sumF (fun v => p v * sumF (fun i => s i v) n) n := by
    rw [← sumF_sub]; exact sumF_congr (fun v _ => by unfold bal; rw [Int.mul_sub])
  rw [e1, e2, e3, e4]; omega

theorem opt_le {n : Nat} {d r s : Nat → Nat → Int} {p : Nat → Int} (h : Opt n d r p) (hs : CInv n d s) : sum2 n r ≤ sum2 n s := by
  have hb : ∀ v, v < n → bal n (fun i j => s i j - r i j) v = 0 := fun v hv => by rw [bal_sub, hs.bal v hv, h.inv.bal v hv]; omega
  have e1 := potential n p (fun i j => s i j - r i j)
  have e2 : sumF (fun v => p v * bal n (fun i j => s i j - r i j) v) n = 0 := by
    rw [sumF_congr (g := fun _ => 0) (fun v hv => by rw [hb v hv, Int.mul_zero]), sumF_zero]
  have e3 : sum2 n (fun i j => s i j - r i j) = sum2 n (fun i j => (s i j - r i j) * (1 - (p j - p i))) + sum2 n (fun i j => (s i j - r i j) * (p j - p i)) := by
    rw [← sum2_add]; exact sum2_congr (fun i j _ _ => by rw [← Int.mul_add]; have : 1 - (p j - p i) + (p j - p i) = 1 := by omega
                                                         rw [this, Int.mul_one])
  have e4 : 0 ≤ sum2 n (fun i j => (s i j - r i j) * (1 - (p j - p i))) := sum2_nonneg (fun i j hi hj => by
    have a1 := h.inv.range i j hi hj
    have a2 := hs.range i j hi hj
    have a3 := h.up i j hi hj
    have a4 := h.down i j hi hj
    rcases Int.lt_trichotomy (p j) (p i + 1) with q | q | q
    · have : r i j = 0 := by
        rcases Int.lt_or_le 0 (r i j) with t | t
        · have := a4 t; omega
        · omega
      exact Int.mul_nonneg (by omega) (by omega)
    · rw [show 1 - (p j - p i) = 0 by omega, Int.mul_zero]; exact Int.le_refl _
    · have : r i j = d i j := by
        rcases Int.lt_or_le (r i j) (d i j) with t | t
        · have := a3 t; omega
        · omega
      exact Int.mul_nonneg_of_nonpos_of_nonpos (by omega) (by omega))
  rw [sum2_sub] at e3
  omega
theorem opt_same {n : Nat} {d r s : Nat → Nat → Int} {p q : Nat → Int} (h : Opt n d r p) (h2 : Opt n d s q) : sum2 n r = sum2 n s :=
  Int.le_antisymm (opt_le h h2.inv) (opt_le h2 h.inv)
/-- nothing can be cancelled twice -/
theorem opt_again {n : Nat} {d r s : Nat → Nat → Int} {p q : Nat → Int} (h : Opt n d r p) (h2 : Opt n r s q) : sum2 n s = sum2 n r := by
  have hs : CInv n d s := ⟨fun i j hi hj => by have := h2.inv.range i j hi hj; have := h.inv.range i j hi hj; omega, fun v hv => by rw [h2.inv.bal v hv, h.inv.bal v hv]⟩
  have h3 := opt_le h hs
  have h4 : sum2 n s ≤ sum2 n r := sum2_le (fun i j hi hj => (h2.inv.range i j hi hj).2)
  omega

/-- a set of firms that is not empty holds one with the greatest price -/
theorem most_price (p : Nat → Int) (P : Nat → Prop) : ∀ n, (∃ i, i < n ∧ P i) → ∃ i, i < n ∧ P i ∧ ∀ j, j < n → P j → p j ≤ p i := by
  intro n
  induction n with
  | zero => rintro ⟨i, hi, _⟩; omega
  | succ n ih =>
    rintro ⟨i, hi, hp⟩
    by_cases h : ∃ i, i < n ∧ P i
    · obtain ⟨a, ha, pa, ma⟩ := ih h
      by_cases hn : P n ∧ p a < p n
      · refine ⟨n, by omega, hn.1, fun j hj pj => ?_⟩
        by_cases e : j = n
        · subst e; exact Int.le_refl _
        · have := ma j (by omega) pj; omega
      · refine ⟨a, by omega, pa, fun j hj pj => ?_⟩
        by_cases e : j = n
        · subst e
          by_cases q : p a < p j
          · exact absurd ⟨pj, q⟩ hn
          · omega
        · exact ma j (by omega) pj
    · have hin : i = n := by
        by_cases q : i < n
        · exact absurd ⟨i, q, hp⟩ h
        · omega
      subst hin
      refine ⟨i, by omega, hp, fun j hj pj => ?_⟩
      by_cases e : j = i
      · subst e; exact Int.le_refl _
      · exact absurd ⟨j, by omega, pj⟩ h

end Go.Proofs.Ytgmopcncbpdniaa

/- Plain: the balances that debt.Proves reckons. -/
set_option linter.unusedVariables false
set_option linter.unusedSimpArgs false
namespace Go.Proofs.Ytgmopcncbpdniaa

/-- what one debt that is x less does to the balance of v -/
def eC (x : Nat → Nat → Int) (i j v : Nat) : Int := (if v = i then x i j else 0) - (if v = j then x i j else 0)
/-- the balances when rows 0 .. k - 1 are done, and of row k the columns 0 .. l - 1 -/
def gP (x : Nat → Nat → Int) (n k l v : Nat) : Int := sumF (fun i => sumF (fun j => eC x i j v) n) k + sumF (fun j => eC x k j v) l
theorem gP_start (x : Nat → Nat → Int) (n v : Nat) : gP x n 0 0 v = 0 := rfl
theorem gP_step (x : Nat → Nat → Int) (n k l v : Nat) : gP x n k (l + 1) v = gP x n k l v + eC x k l v := by simp only [gP, sumF]; omega
theorem gP_row (x : Nat → Nat → Int) (n k v : Nat) : gP x n k n v = gP x n (k + 1) 0 v := by simp only [gP, sumF]; omega
theorem sumF_if (P : Prop) [Decidable P] (f : Nat → Int) (n : Nat) : sumF (fun j => if P then f j else 0) n = if P then sumF f n else 0 := by
  by_cases h : P
  · simp only [if_pos h]
  · simp only [if_neg h]; exact sumF_zero n
theorem sumF_pick (f : Nat → Int) (v n : Nat) (hv : v < n) : sumF (fun j => if v = j then f j else 0) n = f v := by
  rw [sumF_congr (g := fun j => if j = v then f v else 0) (fun j _ => by
    by_cases h : v = j
    · subst h; simp
    · rw [if_neg h, if_neg (fun e => h e.symm)]), sumF_ind, if_pos hv]
theorem gP_end (x : Nat → Nat → Int) (n v : Nat) (hv : v < n) : gP x n n 0 v = bal n x v := by
  have e1 : ∀ i, sumF (fun j => eC x i j v) n = (if v = i then sumF (fun j => x i j) n else 0) - x i v := fun i => by
    unfold eC
    rw [sumF_sub, sumF_if, sumF_pick (fun j => x i j) v n hv]
  have e2 : gP x n n 0 v = sumF (fun i => (if v = i then sumF (fun j => x i j) n else 0) - x i v) n := by
    unfold gP
    rw [sumF_congr (fun i _ => e1 i)]
    simp [sumF]
  rw [e2, sumF_sub, sumF_pick (fun i => sumF (fun j => x i j) n) v n hv]
  rfl
theorem eC_bound {x : Nat → Nat → Int} {i j : Nat} (v : Nat) (h : 0 ≤ x i j ∧ x i j ≤ 1000) : -(1000 : Int) ≤ eC x i j v ∧ eC x i j v ≤ 1000 := by
  unfold eC; split <;> split <;> omega
theorem gP_bound {x : Nat → Nat → Int} {n k l : Nat} (v : Nat) (hn : n ≤ 8) (hk : k ≤ n) (hl : l ≤ n) (h1 : ∀ i, i < k → ∀ j, j < n → 0 ≤ x i j ∧ x i j ≤ 1000) (h2 : ∀ j, j < l → 0 ≤ x k j ∧ x k j ≤ 1000) : -72000 ≤ gP x n k l v ∧ gP x n k l v ≤ 72000 := by
  have a := sumF_bound (fun i => sumF (fun j => eC x i j v) n) k 8000 (fun i hi => by
    have := sumF_bound (fun j => eC x i j v) n 1000 (fun j hj => eC_bound v (h1 i hi j hj))
    omega)
  have b := sumF_bound (fun j => eC x k j v) l 1000 (fun j hj => eC_bound v (h2 j hj))
  unfold gP
  omega
/-- the two stores -/
theorem eC_stores (x : Nat → Nat → Int) (g : Nat → Int) (k l v : Nat) : setN (setN g k (g k + x k l)) l (setN g k (g k + x k l) l - x k l) v = g v + eC x k l v := by
  unfold eC setN
  by_cases h1 : v = l
  · subst h1
    by_cases h2 : v = k
    · subst h2; simp
    · simp [h2]; omega
  · by_cases h2 : v = k
    · subst h2; simp [h1]
    · simp [h1, h2]
theorem gP_balance (d r : Nat → Nat → Int) (n v : Nat) (hv : v < n) : gP (fun i j => d i j - r i j) n n 0 v = bal n d v - bal n r v := by
  rw [gP_end _ _ _ hv, bal_sub]

end Go.Proofs.Ytgmopcncbpdniaa
