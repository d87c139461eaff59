/- Plain arithmetic behind the division of sizes (Knuth, algorithm D). -/
import Derived.Test.YtgmopcncbpdniaaQPlain
import Derived.Lib.ItoaNum
set_option linter.unusedVariables false
set_option linter.unusedSimpArgs false
namespace Go.Proofs.Ytgmopcncbpdniaa

/-- A guess of a digit of the quotient is above it, if the test of the next digits says so. P = B^(n-2). -/
theorem guess_high {U y g v1 v2 rest top u2 P q B : Nat} (hP : 0 < P) (hU : U < (top * B + u2 + 1) * P) (hy : (v1 * B + v2) * P ≤ y)
    (htop : g * v1 + rest = top) (htest : rest * B + u2 < g * v2) (hq : q * y ≤ U) : q < g := by
  rcases Nat.lt_or_ge q g with h | h
  · exact h
  · exfalso
    have h1 : g * ((v1 * B + v2) * P) ≤ U := Nat.le_trans (Nat.mul_le_mul_left _ hy) (Nat.le_trans (Nat.mul_le_mul_right _ h) hq)
    have h2 : g * (v1 * B + v2) * P < (top * B + u2 + 1) * P := by
      rw [Nat.mul_assoc]; exact Nat.lt_of_le_of_lt h1 hU
    have h3 := Nat.lt_of_mul_lt_mul_right h2
    have h4 : g * (v1 * B + v2) = (g * v1) * B + g * v2 := by grind
    rw [h4, ← htop] at h3
    have h5 : (g * v1 + rest) * B = g * v1 * B + rest * B := by grind
    omega

/-- A guess that passes the test is at most one too great. -/
theorem guess_low {U y g v1 v2 rest top u2 P q B : Nat} (hP : 0 < P) (hU : (top * B + u2) * P ≤ U) (hy : y < (v1 * B + v2 + 1) * P)
    (hyl : B * P ≤ y) (htop : g * v1 + rest = top) (htest : g * v2 ≤ rest * B + u2) (hg : g < B) (hq : U < (q + 1) * y) : g ≤ q + 1 := by
  rcases Nat.lt_or_ge (q + 1) g with h | h
  · exfalso
    have h1 : (q + 2) * y ≤ g * y := Nat.mul_le_mul_right _ h
    have h2 : g * y ≤ g * ((v1 * B + v2 + 1) * P) := Nat.mul_le_mul_left _ (Nat.le_of_lt hy)
    have h3 : g * ((v1 * B + v2 + 1) * P) = ((g * v1) * B + g * v2) * P + g * P := by grind
    have h4 : (g * v1 * B + g * v2) ≤ top * B + u2 := by
      rw [← htop]
      have : (g * v1 + rest) * B = g * v1 * B + rest * B := by grind
      omega
    have h5 := Nat.mul_le_mul_right P h4
    have h6 : g * P ≤ B * P := Nat.mul_le_mul_right _ (Nat.le_of_lt hg)
    have h7 : (q + 2) * y = (q + 1) * y + y := by grind
    omega
  · exact h

/-- the first guess is not too small -/
theorem guess_first {U y v1 top P q : Nat} (hP : 0 < P) (hv : 0 < v1) (hU : U < (top + 1) * P) (hy : v1 * P ≤ y) (hq : q * y ≤ U) : q ≤ top / v1 := by
  rw [Nat.le_div_iff_mul_le hv]
  have h1 : q * v1 * P < (top + 1) * P := by
    rw [Nat.mul_assoc]; exact Nat.lt_of_le_of_lt (Nat.le_trans (Nat.mul_le_mul_left _ hy) hq) hU
  have := Nat.lt_of_mul_lt_mul_right h1
  omega

/-- one digit of the multiplication and subtraction -/
theorem mulsub_step (w u g y c b v uk l c' wk b' P B : Nat) (h : w + g * y = u + (c + b) * P) (ht : g * v + c = l + c' * B) (hs : wk + l + b = uk + B * b') :
    (w + wk * P) + g * (y + v * P) = (u + uk * P) + (c' + b') * (P * B) := by
  have e1 : g * (y + v * P) = g * y + g * v * P := by grind
  have e2 : (wk + l + b) * P = (uk + B * b') * P := by rw [hs]
  have e3 : (g * v + c) * P = (l + c' * B) * P := by rw [ht]
  grind

/-- splitting off digits from the top -/
theorem valF_split (f : Nat → Nat) (m n : Nat) : valF f (m + n) = valF f m + valF (fun i => f (m + i)) n * 4294967296 ^ m := by
  induction n with
  | zero => simp [valF]
  | succ n ih =>
    rw [← Nat.add_assoc]
    simp only [valF, ih, Nat.add_mul, Nat.pow_add]
    have : f (m + n) * (4294967296 ^ m * 4294967296 ^ n) = f (m + n) * 4294967296 ^ n * 4294967296 ^ m := by ac_rfl
    omega

theorem valF_top2 (f : Nat → Nat) (n : Nat) : valF f (n + 2) = valF f n + (f (n + 1) * 4294967296 + f n) * 4294967296 ^ n := by
  simp only [valF, Nat.pow_succ]
  have : f (n + 1) * (4294967296 ^ n * 4294967296) = f (n + 1) * 4294967296 * 4294967296 ^ n := by ac_rfl
  rw [Nat.add_mul]; omega

theorem valF_top3 (f : Nat → Nat) (n : Nat) : valF f (n + 3) = valF f n + ((f (n + 2) * 4294967296 + f (n + 1)) * 4294967296 + f n) * 4294967296 ^ n := by
  rw [show n + 3 = (n + 1) + 2 from rfl, valF_top2, show n + 1 + 1 = n + 2 from rfl]
  simp only [valF, Nat.pow_succ]
  have : (f (n + 2) * 4294967296 + f (n + 1)) * (4294967296 ^ n * 4294967296) = (f (n + 2) * 4294967296 + f (n + 1)) * 4294967296 * 4294967296 ^ n := by ac_rfl
  rw [this, Nat.add_mul _ _ (4294967296 ^ n)]; omega

/-- what the first digits tell of the whole numbers -/
theorem knuth_facts (F : Nat → Nat) (k y : Nat) (hF : ∀ i, i < k + 3 → F i < 4294967296) (hy : nl y = k + 2) (hU : valF F (k + 3) < y * 4294967296) :
    ((F (k + 2) * 4294967296 + F (k + 1)) * 4294967296 + F k) * 4294967296 ^ k ≤ valF F (k + 3) ∧
    valF F (k + 3) < ((F (k + 2) * 4294967296 + F (k + 1)) * 4294967296 + F k + 1) * 4294967296 ^ k ∧
    (dig y (k + 1) * 4294967296 + dig y k) * 4294967296 ^ k ≤ y ∧ y < (dig y (k + 1) * 4294967296 + dig y k + 1) * 4294967296 ^ k ∧
    4294967296 * 4294967296 ^ k ≤ y ∧
    F (k + 2) * 4294967296 + F (k + 1) ≤ dig y (k + 1) * 4294967296 + dig y k := by
  have e1 := valF_top3 F k
  have h1 := valF_lt F k (fun i hi => hF i (by omega))
  have e2 := valF_nl y
  rw [hy, valF_top2] at e2
  have h2 := valF_lt (dig y) k (fun i hi => dig_lt y i)
  have hp := Bpow_pos k
  have hl : 4294967296 ^ (k + 1) ≤ y := by
    rw [← lt_nl, hy]; omega
  rw [Nat.pow_succ, Nat.mul_comm] at hl
  have a1 : ∀ z : Nat, (z + 1) * 4294967296 ^ k = z * 4294967296 ^ k + 4294967296 ^ k := fun z => by rw [Nat.add_mul, Nat.one_mul]
  have c2 : (dig y (k + 1) * 4294967296 + dig y k) * 4294967296 ^ k ≤ y := by omega
  have c3 : y < (dig y (k + 1) * 4294967296 + dig y k + 1) * 4294967296 ^ k := by rw [a1 (dig y (k + 1) * 4294967296 + dig y k)]; omega
  refine ⟨by rw [e1]; exact Nat.le_add_left _ _, by rw [e1, a1 ((F (k + 2) * 4294967296 + F (k + 1)) * 4294967296 + F k)]; omega, c2, c3, hl, ?_⟩
  rcases Nat.lt_or_ge (dig y (k + 1) * 4294967296 + dig y k) (F (k + 2) * 4294967296 + F (k + 1)) with h | h
  · exfalso
    have q1 : (dig y (k + 1) * 4294967296 + dig y k + 1) * 4294967296 * 4294967296 ^ k ≤ (F (k + 2) * 4294967296 + F (k + 1)) * 4294967296 * 4294967296 ^ k := Nat.mul_le_mul_right _ (Nat.mul_le_mul_right _ h)
    have q2 : (F (k + 2) * 4294967296 + F (k + 1)) * 4294967296 * 4294967296 ^ k ≤ valF F (k + 3) := by
      rw [e1, Nat.add_mul _ (F k)]; exact Nat.le_trans (Nat.le_add_right _ _) (Nat.le_add_left _ _)
    have q3 : (dig y (k + 1) * 4294967296 + dig y k + 1) * 4294967296 * 4294967296 ^ k = (dig y (k + 1) * 4294967296 + dig y k + 1) * 4294967296 ^ k * 4294967296 := by ac_rfl
    have q4 : y * 4294967296 < (dig y (k + 1) * 4294967296 + dig y k + 1) * 4294967296 ^ k * 4294967296 := Nat.mul_lt_mul_of_pos_right c3 (by omega)
    rw [← q3] at q4
    exact Nat.lt_irrefl _ (Nat.lt_of_lt_of_le (Nat.lt_trans hU q4) (Nat.le_trans q1 q2))
  · exact h

end Go.Proofs.Ytgmopcncbpdniaa

/- Plain arithmetic of the loop of part: normalizing, and one digit of the quotient after the other. -/
set_option linter.unusedVariables false
set_option linter.unusedSimpArgs false
namespace Go.Proofs.Ytgmopcncbpdniaa
open Go

/-- the shift that normalizes a divisor -/
theorem shift_facts (y n : Nat) (hn : nl y = n) (h1 : 1 ≤ n) :
    ∃ s : Nat, s < 32 ∧ (32 - (Lib.bitLen (dig y (n - 1)) : Int)) = (s : Int) ∧ nl (y * 2 ^ s) = n ∧ 2147483648 ≤ dig (y * 2 ^ s) (n - 1) := by
  obtain ⟨k, rfl⟩ : ∃ k, n = k + 1 := ⟨n - 1, by omega⟩
  simp only [Nat.add_sub_cancel]
  have hlo : 4294967296 ^ k ≤ y := by rw [← lt_nl, hn]; omega
  have hhi : y < 4294967296 ^ (k + 1) := by have := lt_pow_nl y; rwa [hn] at this
  have hpk := Bpow_pos k
  have htop : dig y k = y / 4294967296 ^ k := by
    unfold dig
    refine Nat.mod_eq_of_lt ?_
    rw [Nat.div_lt_iff_lt_mul hpk, Nat.mul_comm, ← Nat.pow_succ]; exact hhi
  have ht0 : dig y k ≠ 0 := by
    rw [htop]
    have := Nat.div_pos hlo hpk
    omega
  have hb := Lib.bitLenAux_bounds 64 (dig y k) (Nat.lt_of_lt_of_le (dig_lt y k) (by omega)) ht0
  have hb32 := Lib.bitLen_le (dig y k) 32 (by omega) (dig_lt y k)
  have eL : Lib.bitLenAux 64 (dig y k) = Lib.bitLen (dig y k) := rfl
  rw [eL] at hb
  generalize Lib.bitLen (dig y k) = L at *
  obtain ⟨hL1, hL2, hL3⟩ := hb
  refine ⟨32 - L, by omega, by omega, ?_⟩
  have hy := Nat.div_add_mod y (4294967296 ^ k)
  rw [← htop] at hy
  have hm := Nat.mod_lt y hpk
  have hp : (4294967296 : Nat) = 2 ^ L * 2 ^ (32 - L) := by rw [← Nat.pow_add, show L + (32 - L) = 32 from by omega]
  have hp2 : (2147483648 : Nat) = 2 ^ (L - 1) * 2 ^ (32 - L) := by rw [← Nat.pow_add, show L - 1 + (32 - L) = 31 from by omega]
  have hup : y * 2 ^ (32 - L) < 4294967296 ^ (k + 1) := by
    have h2 : y < (dig y k + 1) * 4294967296 ^ k := by rw [Nat.add_mul, Nat.one_mul, Nat.mul_comm]; omega
    have h3 : (dig y k + 1) * 4294967296 ^ k ≤ 2 ^ L * 4294967296 ^ k := Nat.mul_le_mul_right _ hL3
    have h4 := Nat.mul_lt_mul_of_pos_right (Nat.lt_of_lt_of_le h2 h3) (Nat.two_pow_pos (32 - L))
    have h5 : 2 ^ L * 4294967296 ^ k * 2 ^ (32 - L) = (2 ^ L * 2 ^ (32 - L)) * 4294967296 ^ k := by ac_rfl
    rw [h5, ← hp] at h4
    rw [Nat.pow_succ, Nat.mul_comm (4294967296 ^ k)]; exact h4
  have hlow : 2147483648 * 4294967296 ^ k ≤ y * 2 ^ (32 - L) := by
    have h2 : dig y k * 4294967296 ^ k ≤ y := by rw [Nat.mul_comm]; omega
    have h3 := Nat.mul_le_mul_right (2 ^ (32 - L)) (Nat.le_trans (Nat.mul_le_mul_right _ hL2) h2)
    have h5 : 2 ^ (L - 1) * 4294967296 ^ k * 2 ^ (32 - L) = (2 ^ (L - 1) * 2 ^ (32 - L)) * 4294967296 ^ k := by ac_rfl
    rw [h5, ← hp2] at h3
    exact h3
  constructor
  · have a1 : nl (y * 2 ^ (32 - L)) ≤ k + 1 := (nl_le _ _).2 hup
    have a2 : k < nl (y * 2 ^ (32 - L)) := (lt_nl _ _).2 (Nat.le_trans (Nat.le_mul_of_pos_left _ (by omega)) hlow)
    omega
  · have : dig (y * 2 ^ (32 - L)) k = y * 2 ^ (32 - L) / 4294967296 ^ k := by
      unfold dig
      refine Nat.mod_eq_of_lt ?_
      rw [Nat.div_lt_iff_lt_mul hpk, Nat.mul_comm 4294967296, ← Nat.pow_succ]; exact hup
    rw [this, Nat.le_div_iff_mul_le hpk]
    exact hlow

/-- the digits from j on of a number below a bound -/
theorem win_lt (f : Nat → Nat) (j n X Y : Nat) (h : valF f (j + (n + 1)) = X % (Y * 4294967296 ^ (j + 1))) (hY : 0 < Y) : valF (fun i => f (j + i)) (n + 1) < Y * 4294967296 := by
  have hs := valF_split f j (n + 1)
  have hlt := Nat.mod_lt X (Nat.mul_pos hY (Bpow_pos (j + 1)))
  rw [← h, hs] at hlt
  have h2 : valF (fun i => f (j + i)) (n + 1) * 4294967296 ^ j < (Y * 4294967296) * 4294967296 ^ j := by
    have : Y * 4294967296 ^ (j + 1) = (Y * 4294967296) * 4294967296 ^ j := by rw [Nat.pow_succ]; ac_rfl
    omega
  exact Nat.lt_of_mul_lt_mul_right h2

theorem small_sum (v P r Y : Nat) (h1 : v < P) (h2 : r < Y) : v + r * P < Y * P := by
  have h3 : (r + 1) * P ≤ Y * P := Nat.mul_le_mul_right _ h2
  rw [Nat.add_mul, Nat.one_mul] at h3
  omega

/-- one digit of the quotient -/
theorem quo_step (f f' : Nat → Nat) (j n X Y : Nat) (hf : ∀ i, i < j → f i < 4294967296) (hf' : ∀ i, i ≤ n → f' (j + i) < 4294967296) (hY : 0 < Y) (hYn : Y ≤ 4294967296 ^ n)
    (h : valF f (j + (n + 1)) = X % (Y * 4294967296 ^ (j + 1))) (hsame : ∀ t, t < j → f' t = f t)
    (hw : valF (fun i => f' (j + i)) (n + 1) = valF (fun i => f (j + i)) (n + 1) % Y) :
    valF f' (j + n) = X % (Y * 4294967296 ^ j) ∧ valF (fun i => f (j + i)) (n + 1) / Y = dig (X / Y) j := by
  have hs := valF_split f j (n + 1)
  have hs' := valF_split f' j n
  have hl := valF_lt f j hf
  have hc : valF f' j = valF f j := valF_congr hsame
  generalize hU : valF (fun i => f (j + i)) (n + 1) = U at *
  have hmod := Nat.mod_lt U hY
  have hbj := Bpow_pos j
  have htop : valF (fun i => f' (j + i)) n = U % Y := by
    simp only [valF] at hw
    have : f' (j + n) = 0 := by
      rcases Nat.eq_zero_or_pos (f' (j + n)) with e | e
      · exact e
      · have := Nat.mul_le_mul_right (4294967296 ^ n) e
        omega
    rw [this] at hw
    omega
  rw [hs] at h
  constructor
  · rw [hs', hc, htop]
    have e1 : X % (Y * 4294967296 ^ j) = (X % (Y * 4294967296 ^ (j + 1))) % (Y * 4294967296 ^ j) := by
      rw [Nat.pow_succ, ← Nat.mul_assoc, Nat.mod_mul_right_mod]
    rw [e1, ← h]
    have hd := Nat.div_add_mod U Y
    have e2 : valF f j + U * 4294967296 ^ j = (valF f j + U % Y * 4294967296 ^ j) + Y * 4294967296 ^ j * (U / Y) := by
      have : U * 4294967296 ^ j = (Y * (U / Y) + U % Y) * 4294967296 ^ j := by rw [hd]
      rw [this, Nat.add_mul]
      have : Y * (U / Y) * 4294967296 ^ j = Y * 4294967296 ^ j * (U / Y) := by ac_rfl
      omega
    rw [e2, Nat.add_mul_mod_self_left]
    exact (Nat.mod_eq_of_lt (small_sum _ _ _ _ hl hmod)).symm
  · have e1 : dig (X / Y) j = (X % (Y * 4294967296 ^ (j + 1))) / (Y * 4294967296 ^ j) := by
      unfold dig
      rw [Nat.div_div_eq_div_mul, Nat.pow_succ, ← Nat.mul_assoc, Nat.mod_mul_right_div_self]
    rw [e1, ← h, Nat.mul_comm Y, ← Nat.div_div_eq_div_mul, Nat.add_mul_div_right _ _ hbj, Nat.div_eq_of_lt hl, Nat.zero_add]

theorem start_small (x y n m p : Nat) (hy : nl y = n) (hx : nl x = m) (h1 : 1 ≤ n) (hnm : n ≤ m) (hp : 0 < p) : x * p < y * p * 4294967296 ^ (m - n + 1) := by
  have h2 : 4294967296 ^ (n - 1) ≤ y := by rw [← lt_nl]; omega
  have h3 : x < 4294967296 ^ m := by have := lt_pow_nl x; rwa [hx] at this
  have h4 : 4294967296 ^ m ≤ y * 4294967296 ^ (m - n + 1) := by
    have : (4294967296 : Nat) ^ m = 4294967296 ^ (n - 1) * 4294967296 ^ (m - n + 1) := by rw [← Nat.pow_add]; congr 1; omega
    rw [this]; exact Nat.mul_le_mul_right _ h2
  have h5 : y * p * 4294967296 ^ (m - n + 1) = y * 4294967296 ^ (m - n + 1) * p := by ac_rfl
  rw [h5]
  exact Nat.mul_lt_mul_of_pos_right (Nat.lt_of_lt_of_le h3 h4) hp

end Go.Proofs.Ytgmopcncbpdniaa
