/- Prices of one least remainder prove each other one; Sum of the reference. -/
import Derived.Test.YtgmopcncbpdniaaQPrvP
import Derived.Test.YtgmopcncbpdniaaQRefQ
set_option linter.unusedVariables false
set_option linter.unusedSimpArgs false
namespace Go.Proofs.Ytgmopcncbpdniaa
open Go.RowKit

theorem sumF_zero_each {f : Nat → Int} : ∀ {n : Nat}, (∀ i, i < n → 0 ≤ f i) → sumF f n = 0 → ∀ i, i < n → f i = 0
  | 0, _, _, i, hi => by omega
  | n + 1, h, e, i, hi => by
    simp only [sumF] at e
    have h1 := sumF_nonneg (n := n) (f := f) (fun i hi => h i (by omega))
    have h2 := h n (by omega)
    by_cases q : i = n
    · subst q; omega
    · have e0 : sumF f n = 0 := by omega
      exact sumF_zero_each (f := f) (n := n) (fun i hi => h i (Nat.lt_succ_of_lt hi)) e0 i (by omega)
theorem opt_term {n : Nat} {d r s : Nat → Nat → Int} {p : Nat → Int} (h : Opt n d r p) (hs : CInv n d s) : (∀ i j, i < n → j < n → 0 ≤ (s i j - r i j) * (1 - (p j - p i))) ∧ sum2 n s - sum2 n r = sum2 n (fun i j => (s i j - r i j) * (1 - (p j - p i))) := by
  have hb : ∀ v, v < n → bal n (fun i j => s i j - r i j) v = 0 := fun v hv => by rw [bal_sub, hs.bal v hv, h.inv.bal v hv]; omega
  have e1 := potential n p (fun i j => s i j - r i j)
  have e2 : sumF (fun v => p v * bal n (fun i j => s i j - r i j) v) n = 0 := by
    rw [sumF_congr (g := fun _ => 0) (fun v hv => by rw [hb v hv, Int.mul_zero]), sumF_zero]
  have e3 : sum2 n (fun i j => s i j - r i j) = sum2 n (fun i j => (s i j - r i j) * (1 - (p j - p i))) + sum2 n (fun i j => (s i j - r i j) * (p j - p i)) := by
    rw [← sum2_add]; exact sum2_congr (fun i j _ _ => by
      rw [← Int.mul_add]
      have : 1 - (p j - p i) + (p j - p i) = 1 := by omega
      rw [this, Int.mul_one])
  refine ⟨fun i j hi hj => ?_, ?_⟩
  · have a1 := h.inv.range i j hi hj
    have a2 := hs.range i j hi hj
    have a3 := h.up i j hi hj
    have a4 := h.down i j hi hj
    rcases Int.lt_trichotomy (p j) (p i + 1) with q | q | q
    · have : r i j = 0 := by
        rcases Int.lt_or_le 0 (r i j) with t | t
        · have := a4 t; omega
        · omega
      exact Int.mul_nonneg (by omega) (by omega)
    · rw [show 1 - (p j - p i) = 0 by omega, Int.mul_zero]; exact Int.le_refl _
    · have : r i j = d i j := by
        rcases Int.lt_or_le (r i j) (d i j) with t | t
        · have := a3 t; omega
        · omega
      exact Int.mul_nonneg_of_nonpos_of_nonpos (by omega) (by omega)
  · rw [sum2_sub] at e3
    omega
/-- prices that prove one remainder prove each that is as small -/
theorem opt_cross {n : Nat} {d r s : Nat → Nat → Int} {p q : Nat → Int} (h : Opt n d r p) (h2 : Opt n d s q) : Opt n d s p := by
  have e := opt_same h h2
  obtain ⟨t1, t2⟩ := opt_term h h2.inv
  have t3 : sum2 n (fun i j => (s i j - r i j) * (1 - (p j - p i))) = 0 := by omega
  have t4 : ∀ i j, i < n → j < n → (s i j - r i j) * (1 - (p j - p i)) = 0 := fun i j hi hj =>
    sumF_zero_each (fun j hj => t1 i j hi hj) (sumF_zero_each (f := fun i => sumF (fun j => (s i j - r i j) * (1 - (p j - p i))) n) (fun i hi => sumF_nonneg (fun j hj => t1 i j hi hj)) t3 i hi) j hj
  have t5 : ∀ i j, i < n → j < n → s i j = r i j ∨ p j = p i + 1 := fun i j hi hj => by
    rcases Int.mul_eq_zero.1 (t4 i j hi hj) with x | x
    · left; omega
    · right; omega
  refine ⟨h2.inv, fun i j hi hj hlt => ?_, fun i j hi hj hlt => ?_⟩
  · rcases t5 i j hi hj with x | x
    · exact h.up i j hi hj (by omega)
    · omega
  · rcases t5 i j hi hj with x | x
    · exact h.down i j hi hj (by omega)
    · omega
theorem opt_PP {n : Nat} {d r : Nat → Nat → Int} {p : Nat → Int} (h : Opt n d r p) : PP n d r p :=
  ⟨fun i hi j hj => ⟨(h.inv.range i j hi hj).1, (h.inv.range i j hi hj).2, fun _ => ⟨fun q => by have := h.down i j hi hj q; omega, fun q => by have := h.up i j hi hj q; omega⟩⟩, h.inv.bal⟩
theorem PP_opt {n : Nat} {d r : Nat → Nat → Int} {p : Nat → Int} (hd : ∀ i, i < n → d i i = 0) (h : PP n d r p) : Opt n d r p where
  inv := ⟨fun i j hi hj => ⟨(h.1 i hi j hj).1, (h.1 i hi j hj).2.1⟩, h.2⟩
  up := fun i j hi hj q => by
    by_cases e : i = j
    · subst e; omega
    · have := ((h.1 i hi j hj).2.2 e).2 q; omega
  down := fun i j hi hj q => by
    by_cases e : i = j
    · subst e; have := (h.1 i hi i hi).2.1; have := hd i hi; omega
    · have := ((h.1 i hi j hj).2.2 e).1 q; omega

set_option maxHeartbeats 2000000 in
set_option maxRecDepth 100000 in
theorem refSum_any (v : Value) (n : Nat) (f : Nat → Nat → Int) (w : World) (hv : Mat w v n (fun _ => n) f) (hn : n ≤ 8) (hf : ∀ i j, i < n → j < n → 0 ≤ f i j ∧ f i j ≤ 1000) :
    Calls Try.prog 11 #[v] w fun e w' => e = .returned (.int .i64 (sum2 n f)) ∧ Drawn w w' := by
  obtain ⟨a, b, o, c, ra, rb, ro, rc, rfl, hs⟩ := hv
  have HF := Lib.hid hf
  have HS := Lib.hid hs
  have HRB : Hid (∀ k, k < n → 0 ≤ sumF (f k) n ∧ sumF (f k) n ≤ 8000) := Lib.hid (fun k hk => by
    have h1 := sumF_nonneg (n := n) (f := f k) (fun i hi => (HF.out k i hk (by omega)).1)
    have h2 := sumF_bound (f k) n 1000 (fun i hi => by have := HF.out k i hk (by omega); omega)
    omega)
  have HTB : Hid (∀ k, k ≤ n → 0 ≤ sumF (fun i => sumF (f i) n) k ∧ sumF (fun i => sumF (f i) n) k ≤ 64000) := Lib.hid (fun k hk => by
    have h1 := sumF_nonneg (n := k) (f := fun i => sumF (f i) n) (fun i hi => (HRB.out i (by omega)).1)
    have h2 := sumF_bound (fun i => sumF (f i) n) k 8000 (fun i hi => by have := HRB.out i (by omega); omega)
    omega)
  clear hf hs
  go_enter Try.func11, Try.ntmps11
  go_wp2
  go_loopw [3, 4] (fun s i wr => ∃ k : Nat, k ≤ n ∧ i = .int .i64 (k : Nat) ∧ s = .int .i64 (sumF (fun i => sumF (f i) n) k) ∧ Hid (Drawn w wr)) (fun _ i _ => n - (intOf i).toNat)
  case atStart => exact ⟨0, by omega, rfl, rfl, Lib.hid (Drawn.refl _)⟩
  case round =>
    obtain ⟨k, hk, rfl, rfl, hd⟩ := hrel
    by_cases h : k < n
    · have e1 : decide ((k : Int) < (n : Int)) = true := by simpa using h
      have hix := fun W => ixM HS.out.top k c h W
      have hcr := (HS.out.top.drawn hd.out).cell k h
      have HROW : Hid (Ints wr (.slice (ra k) n (rc k)) n (f k)) := Lib.hid ⟨_, _, _, _, rfl, (HS.out.row k h).drawn hd.out⟩
      have HB : Hid (∀ i, i < n → -(1099511627776 : Int) ≤ f k i ∧ f k i ≤ 1099511627776) := Lib.hid (fun i hi => by have := HF.out k i h hi; omega)
      have b1 := HRB.out k h
      have b2 := HTB.out k hk
      have hw : IntKind.i64.wrap (sumF (fun i => sumF (f i) n) k + sumF (f k) n) = sumF (fun i => sumF (f i) n) k + sumF (f k) n := by rw [IntKind.wrap_i64]; omega
      clear b1 b2
      go_wp2_with (go_at_call 23; (with_reducible refine (total_any _ n (f k) _ HROW.out (by omega) HB.out).mono ?_); rintro e w1 ⟨rfl, hd1⟩; have HD := Lib.hid (hd.out.trans hd1); clear hd1)
      go_roundw
      case rel => exact ⟨k + 1, by omega, by go_num, rfl, HD⟩
      case measure => simp [intOf]; omega
    · obtain rfl : k = n := by omega
      have e1 : decide ((k : Int) < (k : Int)) = false := by simp
      go_wp2
      go_ret
      exact ⟨rfl, hd.out⟩

end Go.Proofs.Ytgmopcncbpdniaa
