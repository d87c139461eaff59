/- Plain arithmetic: digits in base 2^32. No program in sight. -/
set_option linter.unusedVariables false
set_option linter.unusedSimpArgs false
namespace Go.Proofs.Ytgmopcncbpdniaa

theorem Bpow_pos (n : Nat) : 0 < 4294967296 ^ n := Nat.pow_pos (by omega)

/-- the number with the digits f 0 .. f (n - 1), the least first -/
def valF (f : Nat → Nat) : Nat → Nat
  | 0 => 0
  | n + 1 => valF f n + f n * 4294967296 ^ n
/-- digit i of a number -/
def dig (x i : Nat) : Nat := x / 4294967296 ^ i % 4294967296
/-- how many digits a number has -/
def nl (x : Nat) : Nat := if x = 0 then 0 else x.log2 / 32 + 1

theorem dig_lt (x i : Nat) : dig x i < 4294967296 := Nat.mod_lt _ (by omega)

theorem nl_le (x n : Nat) : nl x ≤ n ↔ x < 4294967296 ^ n := by
  unfold nl
  by_cases h : x = 0
  · subst h; simp [Bpow_pos]
  · rw [if_neg h]
    have e : (4294967296 : Nat) ^ n = 2 ^ (32 * n) := by rw [Nat.pow_mul]
    rw [e, ← Nat.log2_lt h]
    omega

theorem lt_nl (x n : Nat) : n < nl x ↔ 4294967296 ^ n ≤ x := by
  have := nl_le x n
  omega

theorem lt_pow_nl (x : Nat) : x < 4294967296 ^ nl x := (nl_le x (nl x)).1 (Nat.le_refl _)
theorem nl_zero : nl 0 = 0 := rfl
theorem nl_pos (x : Nat) : 0 < nl x ↔ 0 < x := by rw [lt_nl]; simp; omega
theorem nl_eq_zero (x : Nat) : nl x = 0 ↔ x = 0 := by have := nl_pos x; omega
theorem nl_mono {x y : Nat} (h : x ≤ y) : nl x ≤ nl y := (nl_le _ _).2 (Nat.lt_of_le_of_lt h (lt_pow_nl y))

theorem valF_lt (f : Nat → Nat) (n : Nat) (h : ∀ i, i < n → f i < 4294967296) : valF f n < 4294967296 ^ n := by
  induction n with
  | zero => simp [valF]
  | succ n ih =>
    have h1 := ih (fun i hi => h i (by omega))
    have h2 := h n (by omega)
    simp only [valF, Nat.pow_succ]
    have : f n * 4294967296 ^ n + 4294967296 ^ n ≤ 4294967296 * 4294967296 ^ n := by
      rw [← Nat.succ_mul]; exact Nat.mul_le_mul_right _ h2
    rw [Nat.mul_comm (4294967296 ^ n)]
    omega

theorem valF_congr {f g : Nat → Nat} {n : Nat} (h : ∀ i, i < n → f i = g i) : valF f n = valF g n := by
  induction n with
  | zero => rfl
  | succ n ih => simp only [valF]; rw [ih (fun i hi => h i (by omega)), h n (by omega)]

theorem valF_dig (x n : Nat) : valF (dig x) n = x % 4294967296 ^ n := by
  induction n with
  | zero => simp [valF, Nat.mod_one]
  | succ n ih =>
    simp only [valF, ih, dig]
    rw [Nat.pow_succ, Nat.mod_mul, Nat.mul_comm (4294967296 ^ n)]

theorem valF_nl (x : Nat) : valF (dig x) (nl x) = x := by
  rw [valF_dig, Nat.mod_eq_of_lt (lt_pow_nl x)]

theorem dig_valF (f : Nat → Nat) (n : Nat) (h : ∀ i, i < n → f i < 4294967296) (i : Nat) (hi : i < n) : dig (valF f n) i = f i := by
  induction n with
  | zero => omega
  | succ n ih =>
    have hl := valF_lt f n (fun i hi => h i (by omega))
    by_cases e : i = n
    · subst e
      have hb := Bpow_pos i
      simp only [valF, dig]
      rw [Nat.add_mul_div_right _ _ hb, Nat.div_eq_of_lt hl, Nat.zero_add, Nat.mod_eq_of_lt (h i (by omega))]
    · have h1 := ih (fun i hi => h i (by omega)) (by omega)
      rw [← h1]
      obtain ⟨d, rfl⟩ : ∃ d, n = i + 1 + d := ⟨n - i - 1, by omega⟩
      simp only [valF, dig]
      have : f (i + 1 + d) * 4294967296 ^ (i + 1 + d) = (f (i + 1 + d) * 4294967296 ^ d * 4294967296) * 4294967296 ^ i := by
        rw [Nat.pow_add, Nat.pow_add]; simp only [Nat.pow_one]; ac_rfl
      rw [this, Nat.add_mul_div_right _ _ (Bpow_pos i), Nat.add_mul_mod_self_right]

theorem dig_zero_of_lt {x n i : Nat} (h : x < 4294967296 ^ n) (hi : n ≤ i) : dig x i = 0 := by
  unfold dig
  rw [Nat.div_eq_of_lt (Nat.lt_of_lt_of_le h (Nat.pow_le_pow_right (by omega) hi))]

/-- how many of the first n digits are left when zeros at the end are left out -/
def trimN (f : Nat → Nat) : Nat → Nat
  | 0 => 0
  | k + 1 => if f k = 0 then trimN f k else k + 1

theorem trimN_le (f : Nat → Nat) (n : Nat) : trimN f n ≤ n := by
  induction n with
  | zero => exact Nat.le_refl _
  | succ n ih => simp only [trimN]; split <;> omega

theorem valF_trimN (f : Nat → Nat) (n : Nat) : valF f (trimN f n) = valF f n := by
  induction n with
  | zero => rfl
  | succ n ih =>
    simp only [trimN]
    split
    · rename_i h; rw [ih]; simp [valF, h]
    · rfl

theorem nl_valF (f : Nat → Nat) (n : Nat) (h : ∀ i, i < n → f i < 4294967296) : nl (valF f n) = trimN f n := by
  have hle := trimN_le f n
  have h1 : nl (valF f n) ≤ trimN f n := by
    rw [nl_le, ← valF_trimN]
    exact valF_lt f _ (fun i hi => h i (by omega))
  have h2 : trimN f n ≤ nl (valF f n) := by
    by_cases e : trimN f n = 0
    · omega
    · obtain ⟨k, hk⟩ : ∃ k, trimN f n = k + 1 := ⟨trimN f n - 1, by omega⟩
      have hne : f k ≠ 0 := by
        clear h1 hle h e
        induction n with
        | zero => simp [trimN] at hk
        | succ n ih =>
          simp only [trimN] at hk
          split at hk
          · exact ih hk
          · have : n = k := by omega
            subst this; assumption
      rw [hk]
      show k < _
      rw [lt_nl, ← valF_trimN, hk]
      simp only [valF]
      have := Nat.mul_le_mul_right (4294967296 ^ k) (Nat.one_le_iff_ne_zero.2 hne)
      omega
  omega

theorem nl_add (x y m : Nat) (hx : nl x ≤ m) (hy : nl y ≤ m) : nl (x + y) ≤ m + 1 := by
  rw [nl_le] at *
  rw [Nat.pow_succ]
  have := Bpow_pos m
  omega

theorem nl_mul (x y m n : Nat) (hx : nl x ≤ m) (hy : nl y ≤ n) : nl (x * y) ≤ m + n := by
  rw [nl_le] at *
  rw [Nat.pow_add]
  exact Nat.mul_lt_mul'' hx hy

end Go.Proofs.Ytgmopcncbpdniaa
