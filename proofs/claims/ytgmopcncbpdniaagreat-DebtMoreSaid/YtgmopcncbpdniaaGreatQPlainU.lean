/- slices.Reverse at bytes, any number of them, in memory of the call's own. -/
import Derived.Test.YtgmopcncbpdniaaGreatQNum2
import Derived.Deep.OwnRows
import Derived.RegionTactic
import Derived.ChangeAlike
import Derived.Test.YtgmopcncbpdniaaGreatQBase
set_option linter.unusedVariables false
set_option linter.unusedSimpArgs false
namespace Go.Proofs.YtgmopcncbpdniaaGreat
open Go.RowKit

theorem b8s : Tryz.prog.underlying 176 = some (.slice (Tryz.prog.elem 176)) := by kernel_rfl
theorem b8z (W : World) : (sizeOf (Tryz.prog.elem 176)).run Tryz.prog W = .ok 1 W := by kernel_rfl
theorem ix8 (g n c i : Nat) (hi : i < n) (W : World) :
    (Instr.indexAt 176 (.slice (some ⟨g, 0, none⟩) n c) (.int .i64 (i : Int))).run Tryz.prog W = .ok (.pointer (some ⟨g, i, none⟩)) W := by
  have h := run_indexAt_opt 176 b8s b8z (some ⟨g, 0, none⟩) g 0 n c (fun _ => rfl) .i64 i (by omega) (by omega) W
  simpa using h

/-- the first k and the last k exchanged -/
def revF (F : Nat → Value) (n k : Nat) (i : Nat) : Value := if i < n ∧ (i < k ∨ n < i + 1 + k) then F (n - 1 - i) else F i

set_option maxHeartbeats 2000000 in
theorem reverse_any (g c n cap T : Nat) (F : Nat → Value) (w : World) (G : Nat → Int) (h : w.rowIs g T c F) (hG : ∀ i, i < n → F i = .int .u8 (G i)) (hn : n ≤ c) (hm : n ≤ 4611686018427387904) :
    Calls Tryz.prog 136 #[.slice (some ⟨g, 0, none⟩) n cap] w fun e w' => e = .returned (.tuple #[]) ∧ w'.rowIs g T c (fun i => if i < n then F (n - 1 - i) else F i) ∧ Below g w w' := by
  have HR := Lib.hid h
  have HB := Lib.hid (Below.refl g w)
  have HG := Lib.hid hG
  clear h hG
  go_enter Tryz.func136, Tryz.ntmps136
  go_wp2
  go_loopw [2, 3] (fun v2 v3 wr => ∃ k : Nat, 2 * k ≤ n + 1 ∧ v2 = .int .i64 (k : Nat) ∧ v3 = .int .i64 ((n : Int) - 1 - k) ∧ Hid (wr.rowIs g T c (revF F n k)) ∧ Hid (Below g w wr)) (fun v2 _ _ => n - (intOf v2).toNat)
  case atStart => exact ⟨0, by omega, rfl, by simp, Lib.hid (HR.out.congr (fun i hi => by unfold revF; rw [if_neg (by omega)])), HB⟩
  case round =>
    obtain ⟨k, hk, rfl, rfl, OR, KW⟩ := hrel
    by_cases h : 2 * k + 1 < n
    · obtain ⟨m, hm2⟩ : ∃ m : Nat, m + k + 1 = n := ⟨n - 1 - k, by omega⟩
      have e3 : (n : Int) - 1 - k = (m : Int) := by omega
      rw [e3]
      have hkm : k < m := by omega
      have i1 := fun W => ix8 g n cap k (by omega) W
      have i2 := fun W => ix8 g n cap m (by omega) W
      have c1 := OR.out.cell (i := k) (by omega)
      have c2 := OR.out.cell (i := m) (by omega)
      have f1 := OR.out.frozen k
      have f2 := OR.out.frozen m
      have e1 : revF F n k k = .int .u8 (G k) := by unfold revF; rw [if_neg (by omega), HG.out k (by omega)]
      have e2 : revF F n k m = .int .u8 (G m) := by unfold revF; rw [if_neg (by omega), HG.out m (by omega)]
      rw [e1] at c1
      rw [e2] at c2
      have ne1 : ¬ k = m := by omega
      have ne2 : ¬ m = k := by omega
      clear e1 e2 e3
      go_wp2
      go_region
      all_goals go_wp2
      all_goals
        go_roundw
        case rel =>
          refine ⟨k + 1, by omega, by go_num, by congr 1; omega, Lib.hid ?_, Lib.hid (by first | exact ((KW.out.setCell (Nat.le_refl _) _).setCell (Nat.le_refl _) _).drew | exact ((KW.out.drew.setCell (Nat.le_refl _) _).setCell (Nat.le_refl _) _))⟩
          refine World.rowIs.congr (((OR.out.set _ _).set _ _).drew) (fun i hi => ?_)
          have q1 : n - 1 - k = m := by omega
          have q2 : n - 1 - m = k := by omega
          have g1 := HG.out k (by omega)
          have g2 := HG.out m (by omega)
          unfold revF
          rcases Nat.lt_trichotomy i k with h | h | h
          · rw [if_neg (by omega), if_neg (by omega), if_pos (by omega), if_pos (by omega)]
          · subst h; rw [if_neg (by omega), if_pos rfl, if_pos (by omega), q1, g2]
          · by_cases h2 : i = m
            · subst h2; rw [if_pos rfl, if_pos (by omega), q2, g1]
            · rw [if_neg h2, if_neg (by omega)]
              by_cases h3 : i < n ∧ n < i + 1 + k
              · rw [if_pos (by omega), if_pos (by omega)]
              · rw [if_neg (by omega), if_neg (by omega)]
        case measure => simp [intOf]; omega
    · have hd : decide ((k : Int) < (n : Int) - 1 - k) = false := by simp; omega
      go_wp2
      go_end0
      refine ⟨rfl, OR.out.congr (fun i hi => ?_), KW.out⟩
      unfold revF
      by_cases h1 : i < n
      · rw [if_pos h1]
        by_cases h2 : i < k ∨ n < i + 1 + k
        · rw [if_pos ⟨h1, h2⟩]
        · rw [if_neg (fun q => h2 q.2)]; congr 1; omega
      · rw [if_neg h1, if_neg (fun q => h1 q.1)]

end Go.Proofs.YtgmopcncbpdniaaGreat

/- Plain arithmetic: digits in base 10000. No program in sight. (Printed by gen_plaind.py.) -/
set_option linter.unusedVariables false
set_option linter.unusedSimpArgs false
namespace Go.Proofs.YtgmopcncbpdniaaGreat

theorem Dpow_pos (n : Nat) : 0 < 10000 ^ n := Nat.pow_pos (by omega)

/-- the number with the digits f 0 .. f (n - 1), the least first -/
def valD (f : Nat → Nat) : Nat → Nat
  | 0 => 0
  | n + 1 => valD f n + f n * 10000 ^ n
/-- digit i of a number -/
def dg (x i : Nat) : Nat := x / 10000 ^ i % 10000
/-- how many digits a number has -/
def nd (x : Nat) : Nat := if h : x = 0 then 0 else nd (x / 10000) + 1
termination_by x
decreasing_by omega

theorem dg_lt (x i : Nat) : dg x i < 10000 := Nat.mod_lt _ (by omega)

theorem nd_le (x n : Nat) : nd x ≤ n ↔ x < 10000 ^ n := by
  induction n generalizing x with
  | zero =>
    rw [nd]
    by_cases h : x = 0
    · simp [h]
    · simp [h]
  | succ n ih =>
    rw [nd]
    by_cases h : x = 0
    · subst h; simp [Dpow_pos]
    · rw [dif_neg h, Nat.pow_succ, Nat.add_le_add_iff_right, ih, Nat.div_lt_iff_lt_mul (by omega)]

theorem lt_nd (x n : Nat) : n < nd x ↔ 10000 ^ n ≤ x := by
  have := nd_le x n
  omega

theorem lt_pow_nd (x : Nat) : x < 10000 ^ nd x := (nd_le x (nd x)).1 (Nat.le_refl _)
theorem nd_zero : nd 0 = 0 := by rw [nd]; simp
theorem nd_pos (x : Nat) : 0 < nd x ↔ 0 < x := by rw [lt_nd]; simp; omega
theorem nd_eq_zero (x : Nat) : nd x = 0 ↔ x = 0 := by have := nd_pos x; omega
theorem nd_mono {x y : Nat} (h : x ≤ y) : nd x ≤ nd y := (nd_le _ _).2 (Nat.lt_of_le_of_lt h (lt_pow_nd y))

theorem valD_lt (f : Nat → Nat) (n : Nat) (h : ∀ i, i < n → f i < 10000) : valD f n < 10000 ^ n := by
  induction n with
  | zero => simp [valD]
  | succ n ih =>
    have h1 := ih (fun i hi => h i (by omega))
    have h2 := h n (by omega)
    simp only [valD, Nat.pow_succ]
    have : f n * 10000 ^ n + 10000 ^ n ≤ 10000 * 10000 ^ n := by
      rw [← Nat.succ_mul]; exact Nat.mul_le_mul_right _ h2
    rw [Nat.mul_comm (10000 ^ n)]
    omega

theorem valD_congr {f g : Nat → Nat} {n : Nat} (h : ∀ i, i < n → f i = g i) : valD f n = valD g n := by
  induction n with
  | zero => rfl
  | succ n ih => simp only [valD]; rw [ih (fun i hi => h i (by omega)), h n (by omega)]

theorem valD_dg (x n : Nat) : valD (dg x) n = x % 10000 ^ n := by
  induction n with
  | zero => simp [valD, Nat.mod_one]
  | succ n ih =>
    simp only [valD, ih, dg]
    rw [Nat.pow_succ, Nat.mod_mul, Nat.mul_comm (10000 ^ n)]

theorem valD_nd (x : Nat) : valD (dg x) (nd x) = x := by
  rw [valD_dg, Nat.mod_eq_of_lt (lt_pow_nd x)]

theorem dg_valD (f : Nat → Nat) (n : Nat) (h : ∀ i, i < n → f i < 10000) (i : Nat) (hi : i < n) : dg (valD f n) i = f i := by
  induction n with
  | zero => omega
  | succ n ih =>
    have hl := valD_lt f n (fun i hi => h i (by omega))
    by_cases e : i = n
    · subst e
      have hb := Dpow_pos i
      simp only [valD, dg]
      rw [Nat.add_mul_div_right _ _ hb, Nat.div_eq_of_lt hl, Nat.zero_add, Nat.mod_eq_of_lt (h i (by omega))]
    · have h1 := ih (fun i hi => h i (by omega)) (by omega)
      rw [← h1]
      obtain ⟨d, rfl⟩ : ∃ d, n = i + 1 + d := ⟨n - i - 1, by omega⟩
      simp only [valD, dg]
      have : f (i + 1 + d) * 10000 ^ (i + 1 + d) = (f (i + 1 + d) * 10000 ^ d * 10000) * 10000 ^ i := by
        rw [Nat.pow_add, Nat.pow_add]; simp only [Nat.pow_one]; ac_rfl
      rw [this, Nat.add_mul_div_right _ _ (Dpow_pos i), Nat.add_mul_mod_self_right]

theorem dg_zero_of_lt {x n i : Nat} (h : x < 10000 ^ n) (hi : n ≤ i) : dg x i = 0 := by
  unfold dg
  rw [Nat.div_eq_of_lt (Nat.lt_of_lt_of_le h (Nat.pow_le_pow_right (by omega) hi))]

theorem valD_trimN (f : Nat → Nat) (n : Nat) : valD f (trimN f n) = valD f n := by
  induction n with
  | zero => rfl
  | succ n ih =>
    simp only [trimN]
    split
    · rename_i h; rw [ih]; simp [valD, h]
    · rfl

theorem nd_valD (f : Nat → Nat) (n : Nat) (h : ∀ i, i < n → f i < 10000) : nd (valD f n) = trimN f n := by
  have hle := trimN_le f n
  have h1 : nd (valD f n) ≤ trimN f n := by
    rw [nd_le, ← valD_trimN]
    exact valD_lt f _ (fun i hi => h i (by omega))
  have h2 : trimN f n ≤ nd (valD f n) := by
    by_cases e : trimN f n = 0
    · omega
    · obtain ⟨k, hk⟩ : ∃ k, trimN f n = k + 1 := ⟨trimN f n - 1, by omega⟩
      have hne : f k ≠ 0 := by
        clear h1 hle h e
        induction n with
        | zero => simp [trimN] at hk
        | succ n ih =>
          simp only [trimN] at hk
          split at hk
          · exact ih hk
          · have : n = k := by omega
            subst this; assumption
      rw [hk]
      show k < _
      rw [lt_nd, ← valD_trimN, hk]
      simp only [valD]
      have := Nat.mul_le_mul_right (10000 ^ k) (Nat.one_le_iff_ne_zero.2 hne)
      omega
  omega

theorem nd_add (x y m : Nat) (hx : nd x ≤ m) (hy : nd y ≤ m) : nd (x + y) ≤ m + 1 := by
  rw [nd_le] at *
  rw [Nat.pow_succ]
  have := Dpow_pos m
  omega

theorem nd_mul (x y m n : Nat) (hx : nd x ≤ m) (hy : nd y ≤ n) : nd (x * y) ≤ m + n := by
  rw [nd_le] at *
  rw [Nat.pow_add]
  exact Nat.mul_lt_mul'' hx hy

end Go.Proofs.YtgmopcncbpdniaaGreat

/- Plain: decimal texts. -/
set_option linter.unusedVariables false
set_option linter.unusedSimpArgs false
namespace Go.Proofs.YtgmopcncbpdniaaGreat

/-- the value of a byte as a decimal digit -/
def dv (c : Nat) : Nat := if 48 ≤ c ∧ c ≤ 57 then c - 48 else 0
theorem dv_lt (c : Nat) : dv c < 10 := by unfold dv; split <;> omega
/-- the number with the decimal digits g 0, g 1 .., the greatest first -/
def valT (g : Nat → Nat) : Nat → Nat
  | 0 => 0
  | n + 1 => 10 * valT g n + g n
theorem valT_congr {g h : Nat → Nat} : ∀ n, (∀ i, i < n → g i = h i) → valT g n = valT h n
  | 0, _ => rfl
  | n + 1, e => by simp only [valT]; rw [valT_congr n (fun i hi => e i (by omega)), e n (by omega)]
theorem valT_lt {g : Nat → Nat} (h : ∀ i, g i < 10) : ∀ n, valT g n < 10 ^ n
  | 0 => by simp [valT]
  | n + 1 => by
    have h1 := valT_lt h n
    have h2 := h n
    simp only [valT, Nat.pow_succ]
    omega
theorem valT_split (g : Nat → Nat) (lo : Nat) : ∀ d, valT g (lo + d) = valT g lo * 10 ^ d + valT (fun i => g (lo + i)) d
  | 0 => by simp [valT]
  | d + 1 => by
    show 10 * valT g (lo + d) + g (lo + d) = _
    rw [valT_split g lo d]
    simp only [valT, Nat.pow_succ]
    rw [Nat.mul_add, ← Nat.mul_assoc, Nat.mul_comm 10, Nat.mul_assoc, Nat.mul_comm 10]
    omega
theorem valT_div {g : Nat → Nat} (h : ∀ i, g i < 10) (lo d : Nat) : valT g (lo + d) / 10 ^ d = valT g lo := by
  rw [valT_split, Nat.mul_comm, Nat.mul_add_div (Nat.pow_pos (by omega)), Nat.div_eq_of_lt (valT_lt (fun i => h (lo + i)) d)]
  omega
/-- a block of four digits, from the end -/
theorem valT_block {g : Nat → Nat} (h : ∀ i, g i < 10) (L k at' lo d : Nat) (h1 : L = at' + 4 * k) (h2 : at' = lo + d) (h3 : d = 4 ∨ (d < 4 ∧ lo = 0)) : valT (fun i => g (lo + i)) d = dg (valT g L) k := by
  unfold dg
  have e : (10000 : Nat) ^ k = 10 ^ (4 * k) := by rw [Nat.pow_mul]
  rw [e, h1, valT_div h at' (4 * k), h2, valT_split]
  have hl := valT_lt (g := fun i => g (lo + i)) (fun i => h (lo + i)) d
  rcases h3 with rfl | ⟨h3, rfl⟩
  · omega
  · simp only [valT, Nat.zero_mul, Nat.zero_add] at hl ⊢
    have : (10 : Nat) ^ d ≤ 10 ^ 4 := Nat.pow_le_pow_right (by omega) (by omega)
    rw [Nat.mod_eq_of_lt (by omega)]
theorem valT_nd {g : Nat → Nat} (h : ∀ i, g i < 10) (L K : Nat) (hK : L ≤ 4 * K) : nd (valT g L) ≤ K := by
  rw [nd_le]
  have e : (10000 : Nat) ^ K = 10 ^ (4 * K) := by rw [Nat.pow_mul]
  rw [e]
  exact Nat.lt_of_lt_of_le (valT_lt h L) (Nat.pow_le_pow_right (by omega) hK)

/-- a text of decimal digits, without a zero ahead, of at most 4000 -/
def okD (L : Nat) (f : Nat → Nat) : Prop := 1 ≤ L ∧ L ≤ 4000 ∧ ¬ (f 0 = 48 ∧ 1 < L) ∧ ∀ i, i < L → 48 ≤ f i ∧ f i ≤ 57
/-- its value -/
def numD (L : Nat) (f : Nat → Nat) : Nat := valT (fun i => dv (f i)) L

end Go.Proofs.YtgmopcncbpdniaaGreat

/- Plain: the decimal text of a number, of a fraction. -/
set_option linter.unusedVariables false
set_option linter.unusedSimpArgs false
namespace Go.Proofs.YtgmopcncbpdniaaGreat

/-- decimal digit i of x, the least first -/
def d10 (x i : Nat) : Nat := x / 10 ^ i % 10
theorem d10_lt (x i : Nat) : d10 x i < 10 := Nat.mod_lt _ (by omega)
/-- L is the number of decimal digits of x (1 for 0) -/
structure Len10 (x L : Nat) : Prop where
  lt : x < 10 ^ L
  zero : x = 0 → L = 1
  ge : 0 < x → 0 < L ∧ 10 ^ (L - 1) ≤ x
theorem Len10.pos {x L : Nat} (h : Len10 x L) : 1 ≤ L := by
  rcases Nat.eq_zero_or_pos x with e | e
  · rw [h.zero e]; omega
  · exact (h.ge e).1
theorem Len10.le {x L K : Nat} (h : Len10 x L) (hK : 1 ≤ K) (hx : x < 10 ^ K) : L ≤ K := by
  rcases Nat.eq_zero_or_pos x with e | e
  · rw [h.zero e]; omega
  · obtain ⟨h1, h2⟩ := h.ge e
    rcases Nat.lt_or_ge K L with hlt | hge
    · exfalso
      have : 10 ^ K ≤ 10 ^ (L - 1) := Nat.pow_le_pow_right (by omega) (by omega)
      omega
    · exact hge
theorem valT_d10 (x L : Nat) (h : x < 10 ^ L) : valT (fun i => d10 x (L - 1 - i)) L = x := by
  have key : ∀ k, k ≤ L → valT (fun i => d10 x (L - 1 - i)) k = x / 10 ^ (L - k) := by
    intro k
    induction k with
    | zero => intro _; simp only [valT]; rw [Nat.sub_zero, Nat.div_eq_of_lt h]
    | succ k ih =>
      intro hk
      simp only [valT]
      rw [ih (by omega)]
      unfold d10
      have e : L - k = (L - (k + 1)) + 1 := by omega
      rw [e, Nat.pow_succ, ← Nat.div_div_eq_div_mul, show L - 1 - k = L - (k + 1) by omega]
      omega
  rw [key L (Nat.le_refl _), Nat.sub_self, Nat.pow_zero, Nat.div_one]

/-- s is the decimal text of x -/
def IsTxt (s : ByteArray) (x : Nat) : Prop := ∃ L, Len10 x L ∧ s.size = L ∧ ∀ (i : Nat) (h : i < s.size), s[i].toNat = 48 + d10 x (L - 1 - i)
theorem okD_txt {x L : Nat} (h : Len10 x L) (hx : x < 10 ^ 4000) : okD L (fun i => 48 + d10 x (L - 1 - i)) := by
  refine ⟨h.pos, h.le (by omega) hx, ?_, fun i _ => ?_⟩
  · rintro ⟨h1, h2⟩
    have h0 : 0 < x := by
      rcases Nat.eq_zero_or_pos x with e | e
      · have := h.zero e; omega
      · exact e
    obtain ⟨_, h3⟩ := h.ge h0
    have h4 : 1 ≤ x / 10 ^ (L - 1) := (Nat.le_div_iff_mul_le (Nat.pow_pos (by omega))).2 (by omega)
    have h5 : x / 10 ^ (L - 1) < 10 := by
      rw [Nat.div_lt_iff_lt_mul (Nat.pow_pos (by omega))]
      have h6 := h.lt
      rw [show L = (L - 1) + 1 by omega, Nat.pow_succ] at h6
      omega
    simp only [d10, Nat.sub_zero] at h1
    rw [Nat.mod_eq_of_lt h5] at h1
    omega
  · have := d10_lt x (L - 1 - i)
    dsimp only
    omega
theorem numD_txt {x L : Nat} (h : Len10 x L) : numD L (fun i => 48 + d10 x (L - 1 - i)) = x := by
  unfold numD
  rw [valT_congr L (h := fun i => d10 x (L - 1 - i)) (fun i _ => ?_), valT_d10 x L h.lt]
  have := d10_lt x (L - 1 - i)
  simp only [dv]
  rw [if_pos (by omega)]; omega
theorem txt_no (x L i : Nat) : 48 + d10 x (L - 1 - i) ≠ 47 ∧ 48 + d10 x (L - 1 - i) ≠ 45 := by omega

/-- s is the text of the number p / d (in lowest terms) -/
def FracTxt (s : ByteArray) (p : Int) (d : Nat) : Prop :=
  ∃ t, IsTxt t p.natAbs ∧ ((d = 1 ∧ s = (if p < 0 then ⟨#[45]⟩ ++ t else t)) ∨ (d ≠ 1 ∧ ∃ u, IsTxt u d ∧ s = (if p < 0 then ⟨#[45]⟩ ++ t else t) ++ (⟨#[47]⟩ ++ u)))

end Go.Proofs.YtgmopcncbpdniaaGreat
