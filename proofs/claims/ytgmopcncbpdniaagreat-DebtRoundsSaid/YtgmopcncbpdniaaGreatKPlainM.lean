/- The rounds of failing firms: who pays less than its total; how the rounds are told. -/
import Derived.Test.YtgmopcncbpdniaaGreatKQV
set_option linter.unusedVariables false
set_option linter.unusedSimpArgs false
namespace Go.Proofs.YtgmopcncbpdniaaGreat
variable {n : Nat} {cash : Nat → Int} {d : Nat → Nat → Int} {ps : (Nat → Bool) → Nat → Rat}
theorem last_uniq {q r : Nat} (h : Last n cash d ps q) (h' : Last n cash d ps r) : q = r := by
  rcases Nat.lt_trichotomy q r with e | e | e
  · have := h'.pos q e; have := h.zero; omega
  · exact e
  · have := h.pos r e; have := h'.zero; omega
theorem hasP_le {c : Nat → Rat} {S : Nat → Nat → Rat} {x y : Nat → Rat} (hS : ∀ j i, 0 ≤ S j i) (h : ∀ j, j < n → x j ≤ y j) (i : Nat) : hasP n c S x i ≤ hasP n c S y i := by
  unfold hasP
  have := sumQ_le n (f := fun j => x j * S j i) (g := fun j => y j * S j i) (fun j hj => by
    have h1 := Rat.mul_nonneg (show 0 ≤ y j - x j by have := h j hj; grind) (hS j i)
    have h2 : (y j - x j) * S j i = y j * S j i - x j * S j i := by grind
    rw [h2] at h1
    show x j * S j i ≤ y j * S j i
    grind)
  grind
/-- who has failed did so in some round -/
theorem fs_round {i : Nat} : ∀ q, FS n cash d ps q i = true → ∃ r, r < q ∧ NW n cash d ps r i = true
  | 0, h => by cases h
  | q + 1, h => by
    rw [fs_succ, Bool.or_eq_true] at h
    rcases h with h | h
    · obtain ⟨r, hr, h2⟩ := fs_round q h
      exact ⟨r, by omega, h2⟩
    · exact ⟨q, by omega, h⟩
theorem fs_less (hR : Rng n cash d) (hd : ∀ i j, 0 ≤ d i j) (hps : PsOK n cash d ps) {q : Nat} (hl : Last n cash d ps q) (i : Nat) (hi : i < n) : FS n cash d ps q i = decide (PS n cash d ps q i < totQ n d i) := by
  have hP := pays_of hR hd hps hl
  rcases hF : FS n cash d ps q i with _ | _
  · have h1 := hP.sol.no i hi hF
    rw [h1]
    simp [Rat.lt_irrefl]
  · have h1 := hP.sol.on i hi hF
    obtain ⟨r, hr, hN⟩ := fs_round q hF
    obtain ⟨x, hx⟩ := ps_rdy hps hR hd r
    have h2 := sol_ge (mktQ_of hR hd) (rnd_all hps hR hd r) hx.sol (PS n cash d ps q) hP.clr.tot hP.clr.has
    have h3 := hasP_le (c := cashQ cash) (shQ_pos (n := n) hd) h2 i
    rw [nw_iff, Bool.and_eq_true, decide_eq_true_eq] at hN
    have h4 : PS n cash d ps q i < totQ n d i := by
      rw [h1]
      have h5 := hN.2
      grind
    simp [h4]
theorem first_round (hR : Rng n cash d) (hd : ∀ i j, 0 ≤ d i j) (hps : PsOK n cash d ps) (i : Nat) : decide (hasP n (cashQ cash) (shQ n d) (totQ n d) i < totQ n d i) = NW n cash d ps 0 i := by
  obtain ⟨x, hx⟩ := ps_rdy hps hR hd 0
  have h : ∀ j, j < n → PS n cash d ps 0 j = totQ n d j := fun j hj => hx.sol.no j hj rfl
  rw [nw_iff, hasP_congr h i]
  rfl
theorem rankF_mono (G : Nat → Bool) {a b : Nat} (h : a ≤ b) : rankF G a ≤ rankF G b := by
  induction h with
  | refl => exact Nat.le_refl _
  | step _ ih => rw [rankF_succ]; omega
theorem row_inc (G : Nat → Bool) (n k : Nat) (h : k + 1 < rankF G n) : frN G n k < frN G n (k + 1) := by
  obtain ⟨-, -, a⟩ := frL_spec G n k (by omega)
  obtain ⟨-, -, b⟩ := frL_spec G n (k + 1) h
  refine Nat.lt_of_not_le (fun hle => ?_)
  have := rankF_mono G hle
  unfold frN at this
  rw [a, b] at this
  omega
/-- is i among the first k of a row -/
def isB (G : Nat → Bool) (n i : Nat) : Nat → Bool
  | 0 => false
  | k + 1 => isB G n i k || decide (frN G n k = i)
theorem isB_iff (G : Nat → Bool) (n i : Nat) : ∀ k, isB G n i k = true ↔ ∃ j, j < k ∧ frN G n j = i
  | 0 => by simp [isB]
  | k + 1 => by
    simp only [isB, Bool.or_eq_true, decide_eq_true_eq, isB_iff G n i k]
    constructor
    · rintro (⟨j, hj, h⟩ | h)
      · exact ⟨j, by omega, h⟩
      · exact ⟨k, by omega, h⟩
    · rintro ⟨j, hj, h⟩
      by_cases e : j = k
      · right; rw [← e]; exact h
      · left; exact ⟨j, by omega, h⟩
theorem isB_all (G : Nat → Bool) (n i : Nat) (hi : i < n) : isB G n i (rankF G n) = G i := by
  rcases hG : G i with _ | _
  · rcases hb : isB G n i (rankF G n) with _ | _
    · rfl
    · obtain ⟨j, hj, h⟩ := (isB_iff G n i _).1 hb
      have := (frL_spec G n j hj).1
      unfold frN at h
      rw [h, hG] at this
      cases this
  · have := frL_rank G n i hi hG
    exact (isB_iff G n i _).2 ⟨rankF G i, this.1, this.2⟩
theorem cmpR_lt (a b : Rat) : decide (cmpR a b < 0) = decide (a < b) := by
  unfold cmpR
  by_cases h : a < b
  · rw [if_pos h]; simp [h]
  · rw [if_neg h]
    split <;> simp [h]
end Go.Proofs.YtgmopcncbpdniaaGreat
