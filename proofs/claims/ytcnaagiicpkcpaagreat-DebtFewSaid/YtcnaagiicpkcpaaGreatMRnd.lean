/- A market in integers: its shares, and how great payments can be. -/
import Derived.Test.YtcnaagiicpkcpaaGreatMSol
import Derived.Test.YtcnaagiicpkcpaaGreatMFun
import Derived.Test.YtcnaagiicpkcpaaGreatMRing
set_option linter.unusedVariables false
set_option linter.unusedSimpArgs false
namespace Go.Proofs.YtcnaagiicpkcpaaGreat
variable {n : Nat} {cash : Nat → Int} {d : Nat → Nat → Int}
/-- totals -/
def totQ (n : Nat) (d : Nat → Nat → Int) (i : Nat) : Rat := ((sumF (d i) n : Int) : Rat)
theorem totG_none (n : Nat) (d : Nat → Nat → Int) : totG (fun _ => false) n d = totQ n d := by funext i; simp [totG, totQ]
theorem sumF_cast (f : Nat → Int) : ∀ n, ((sumF f n : Int) : Rat) = sumQ (fun i => (f i : Rat)) n
 | 0 => by simp [sumF, sumQ]
 | n + 1 => by simp only [sumF, sumQ]; rw [Rat.intCast_add, sumF_cast f n]
theorem sumF_nn {f : Nat → Int} (h : ∀ i, 0 ≤ f i) : ∀ n, 0 ≤ sumF f n
 | 0 => Int.le_refl _
 | n + 1 => by simp only [sumF]; have := sumF_nn h n; have := h n; omega
/-- the divisor of shares -/
def tI (n : Nat) (d : Nat → Nat → Int) (j : Nat) : Int := if sumF (d j) n = 0 then 1 else sumF (d j) n
/-- what is divided -/
def eI (n : Nat) (d : Nat → Nat → Int) (j i : Nat) : Int := if sumF (d j) n = 0 then 0 else d j i
theorem tI_pos (hd : ∀ i j, 0 ≤ d i j) (j : Nat) : 0 < tI n d j := by
 unfold tI; split
 ·omega
 ·have := sumF_nn (hd j) n; omega
theorem tI_ne (hd : ∀ i j, 0 ≤ d i j) (j : Nat) : ((tI n d j : Int) : Rat) ≠ 0 := fun e => by
 have h1 := tI_pos (n := n) hd j
 have h2 : ((tI n d j : Int) : Rat) = ((0 : Int) : Rat) := e
 have := Rat.intCast_inj.1 h2
 omega
theorem shQ_eq (j i : Nat) : shQ n d j i = ((eI n d j i : Int) : Rat) / ((tI n d j : Int) : Rat) := by
 unfold shQ shareQ eI tI
 split
 ·rw [Rat.div_def]; simp
 ·rfl
theorem eI_nn (hd : ∀ i j, 0 ≤ d i j) (j i : Nat) : 0 ≤ eI n d j i := by
 unfold eI; split
 ·omega
 ·exact hd j i
theorem shQ_pos (hd : ∀ i j, 0 ≤ d i j) (j i : Nat) : 0 ≤ shQ n d j i := by
 rw [shQ_eq, Rat.div_def]
 exact Rat.mul_nonneg (Rat.intCast_nonneg.2 (eI_nn hd j i)) (Rat.le_of_lt (inv_pos' (Rat.intCast_pos.2 (tI_pos hd j))))
theorem shQ_one (hd : ∀ i j, 0 ≤ d i j) (j : Nat) : sumQ (fun i => shQ n d j i) n ≤ 1 := by
 rw [sumQ_congr n (g := fun i => ((tI n d j : Int) : Rat)⁻¹ * ((eI n d j i : Int) : Rat)) (fun i _ => by rw [shQ_eq, Rat.div_def, Rat.mul_comm]), sumQ_mul]
 have h1 := tI_ne (n := n) hd j
 unfold tI eI at *
 split
 ·rename_i h
  simp only [h, if_true] at h1 ⊢
  rw [sumQ_eq_zero n (fun i _ => by simp)]
  rw [Rat.mul_zero]
  decide
 ·rename_i h
  simp only [h, if_false] at h1 ⊢
  rw [← sumF_cast, Rat.inv_mul_cancel _ h1]
  exact Rat.le_refl
theorem mktQ_of (hR : Rng n cash d) (hd : ∀ i j, 0 ≤ d i j) : MktQ n (cashQ cash) (totQ n d) (shQ n d) :=
 ⟨⟨shQ_pos hd, fun j _ => shQ_one hd j⟩, fun i hi => Rat.intCast_nonneg.2 (hR.csh i hi).1, fun i _ => Rat.intCast_nonneg.2 (sumF_nn (hd i) n)⟩
/-- the equations of payments, in integers: the unknowns are the payments, each divided by the divisor of its firm's shares -/
def payI (n : Nat) (cash : Nat → Int) (d : Nat → Nat → Int) (F : Nat → Bool) (r j : Nat) : Int :=
 if j < n then (if j = r then tI n d r else 0) - (if F r then eI n d j r else 0) else (if F r then cash r else sumF (d r) n)
theorem payI_sum (hd : ∀ i j, 0 ≤ d i j) (F : Nat → Bool) (z : Nat → Rat) (r : Nat) (hr : r < n) :
  sumQ (fun j => (payI n cash d F r j : Rat) * z j) n = ((tI n d r : Int) : Rat) * z r - (if F r then sumQ (fun j => ((tI n d j : Int) : Rat) * z j * shQ n d j r) n else 0) := by
 have e1 : sumQ (fun j => (payI n cash d F r j : Rat) * z j) n = sumQ (fun j => (if j = r then ((tI n d r : Int) : Rat) * z r else 0)) n - sumQ (fun j => if F r then ((tI n d j : Int) : Rat) * z j * shQ n d j r else 0) n := by
  rw [← sumQ_sub]
  refine sumQ_congr n (fun j hj => ?_)
  unfold payI
  rw [if_pos hj, Rat.intCast_sub]
  have e2 : ((tI n d j : Int) : Rat) * z j * shQ n d j r = ((eI n d j r : Int) : Rat) * z j := by
   rw [shQ_eq, Rat.div_def]
   have := tI_ne (n := n) hd j
   have h2 := Rat.mul_inv_cancel _ this
   grind
  rw [e2]
  by_cases e : j = r
  ·subst e
   by_cases hF : F j = true
   ·simp [hF]; grind
   ·simp [hF]; grind
  ·by_cases hF : F r = true
   ·simp [e, hF]; grind
   ·simp [e, hF]; grind
 rw [e1, sumQ_one _ r n hr (fun i _ hn => if_neg hn), if_pos rfl]
 congr 1
 by_cases hF : F r = true
 ·simp [hF]
 ·simp only [hF, if_false]; exact sumQ_eq_zero n (fun i _ => by simp)
theorem payI_sys (hR : Rng n cash d) (hn : n ≤ 8) (hd : ∀ i j, 0 ≤ d i j) {F : Nat → Bool} (hF : NoClosed n (shQ n d) (fun i => F i = true)) {p : Nat → Rat} (hp : SolF n (cashQ cash) (totQ n d) (shQ n d) F p) :
  SysI n n (fun _ => False) (payI n cash d F) 200000 (fun j => p j / ((tI n d j : Int) : Rat)) := by
 have hq : ∀ j, ((tI n d j : Int) : Rat) * (p j / ((tI n d j : Int) : Rat)) = p j := fun j => by
  have h1 := tI_ne (n := n) hd j
  have h2 := Rat.mul_inv_cancel _ h1
  rw [Rat.div_def]; grind
 refine ⟨fun r j hr hj => ?_, fun _ _ _ _ h => h.elim, fun r hr => ?_, fun z _ hz => ?_⟩
 ·have t1 := hR.tot r hr
  have c1 := hR.csh r hr
  have et : tI n d r ≤ 100000 ∧ 0 < tI n d r := ⟨by unfold tI; split <;> omega, tI_pos hd r⟩
  unfold payI
  by_cases hjn : j < n
  ·rw [if_pos hjn]
   have ee : 0 ≤ eI n d j r ∧ eI n d j r ≤ 1000 := ⟨eI_nn hd j r, by unfold eI; have := (hR.deb j r hjn hr).2; split <;> omega⟩
   split <;> split <;> omega
  ·rw [if_neg hjn]
   split <;> omega
 ·rw [payI_sum hd F _ r hr, hq r]
  have e : sumQ (fun j => ((tI n d j : Int) : Rat) * (p j / ((tI n d j : Int) : Rat)) * shQ n d j r) n = sumQ (fun j => p j * shQ n d j r) n := sumQ_congr n (fun j _ => by rw [hq j])
  rw [e]
  unfold payI
  rw [if_neg (Nat.lt_irrefl _)]
  by_cases hFr : F r = true
  ·have h1 := hp.on r hr hFr
   unfold hasP cashQ at h1
   simp only [hFr, if_true]
   grind
  ·have hf : F r = false := by simpa using hFr
   have h1 := hp.no r hr hf
   simp only [hf, Bool.false_eq_true, if_false]
   rw [h1]
   unfold totQ
   grind
 ·have hu : ∀ r, r < n → ((tI n d r : Int) : Rat) * z r = if F r then sumQ (fun j => ((tI n d j : Int) : Rat) * z j * shQ n d j r) n else 0 := fun r hr => by
   have h1 := hz r hr
   rw [payI_sum hd F z r hr] at h1
   grind
  have hm := mktQ_of hR hd
  have b1 := below_zero hm.sh hF (fun j => ((tI n d j : Int) : Rat) * z j) (fun i hi hn => by
   have h1 := hu i hi
   rw [if_neg hn] at h1
   rw [h1]; exact Rat.le_refl) (fun i hi hf => by
   have h1 := hu i hi
   rw [if_pos hf] at h1
   rw [h1]; exact Rat.le_refl)
  have b2 := below_zero hm.sh hF (fun j => - (((tI n d j : Int) : Rat) * z j)) (fun i hi hn => by
   have h1 := hu i hi
   rw [if_neg hn] at h1
   rw [h1]; simp) (fun i hi hf => by
   have h1 := hu i hi
   rw [if_pos hf] at h1
   have e3 : sumQ (fun j => - (((tI n d j : Int) : Rat) * z j) * shQ n d j i) n = - sumQ (fun j => ((tI n d j : Int) : Rat) * z j * shQ n d j i) n := by
    have := sumQ_mul (-1) (fun j => ((tI n d j : Int) : Rat) * z j * shQ n d j i) n
    rw [sumQ_congr n (g := fun j => (-1) * (((tI n d j : Int) : Rat) * z j * shQ n d j i)) (fun j _ => by grind), this]; grind
   rw [e3, h1]; exact Rat.le_refl)
  intro j hj
  have h1 := b1 j hj
  have h2 := b2 j hj
  have h3 := tI_ne (n := n) hd j
  have h4 : ((tI n d j : Int) : Rat) * z j = 0 := by grind
  rcases Rat.mul_eq_zero.1 h4 with h | h
  ·exact absurd h h3
  ·exact h
theorem bdI_mono (B : Nat) : ∀ c c', c ≤ c' → bdI B c ≤ bdI B c' := fun c c' h => by
 obtain ⟨k, rfl⟩ := Nat.exists_eq_add_of_le h
 induction k with
 | zero => exact Nat.le_refl _
 | succ k ih => exact Nat.le_trans (ih (by omega)) (bdI_le B (c + k))
theorem bd_num : 100000 * bdI 200000 8 < 4294967296 ^ 200 := by decide +kernel
theorem bd_ten : 100000 * bdI 200000 8 < 10 ^ 4000 := by decide +kernel
/-- payments are of few digits -/
theorem pay_small (hR : Rng n cash d) (hn : n ≤ 8) (hd : ∀ i j, 0 ≤ d i j) {F : Nat → Bool} (hF : NoClosed n (shQ n d) (fun i => F i = true)) {p : Nat → Rat} (hp : SolF n (cashQ cash) (totQ n d) (shQ n d) F p) (i : Nat) (hi : i < n) :
  szQ (p i) ≤ 200 ∧ (p i).num.natAbs ≤ 100000 * bdI 200000 8 ∧ (p i).den ≤ 100000 * bdI 200000 8 := by
 obtain ⟨P, Q, h1, h2, h3, h4⟩ := (payI_sys hR hn hd hF hp).bound i hi
 have hb := bdI_mono 200000 n 8 hn
 have t1 := hR.tot i hi
 have et : (tI n d i).natAbs ≤ 100000 := by have := tI_pos (n := n) hd i; unfold tI at *; split <;> split at this <;> omega
 have e : (Q : Rat) * p i = ((tI n d i * P : Int) : Rat) := by
  have h5 := tI_ne (n := n) hd i
  have h6 := Rat.mul_inv_cancel _ h5
  rw [Rat.intCast_mul, ← h4, Rat.div_def]
  grind
 obtain ⟨k1, k2⟩ := lowest_le h1 e
 have m1 : (tI n d i * P).natAbs ≤ 100000 * bdI 200000 8 := by
  rw [Int.natAbs_mul]
  exact Nat.mul_le_mul et (Nat.le_trans h2 hb)
 have m2 : Q.natAbs ≤ 100000 * bdI 200000 8 := Nat.le_trans (Nat.le_trans h3 hb) (Nat.le_mul_of_pos_left _ (by decide))
 have a1 := Nat.le_trans k1 m1
 have a2 := Nat.le_trans k2 m2
 exact ⟨szQ_le ((nl_le _ _).2 (Nat.lt_of_le_of_lt a1 bd_num)) ((nl_le _ _).2 (Nat.lt_of_le_of_lt a2 bd_num)), a1, a2⟩
end Go.Proofs.YtcnaagiicpkcpaaGreat

/- A market whose failing firms hold no closed set: the equations of their payments are solved by elimination, in numbers of few limbs. -/
namespace Go.Proofs.YtcnaagiicpkcpaaGreat
variable {n : Nat} {cash : Nat → Int} {d : Nat → Nat → Int}
theorem szQ_sum {a : Nat} {f : Nat → Rat} : ∀ n, (∀ j, j < n → szQ (f j) ≤ a) → szQ (sumQ f n) ≤ 2 + n * (a + 1)
 | 0, _ => by simp only [sumQ]; have := szQ_zero; omega
 | n + 1, h => by
  simp only [sumQ]
  have h1 := szQ_sum n (fun j hj => h j (by omega))
  have h2 := h n (by omega)
  have h3 := szQ_add (sumQ f n) (f n)
  rw [Nat.add_mul, Nat.one_mul]
  omega
theorem szQ_small (z : Int) (h : z.natAbs ≤ 1000000) : szQ (z : Rat) ≤ 2 := szQ_int z (Nat.lt_of_le_of_lt h (by decide))
theorem szQ_sh (hR : Rng n cash d) (hd : ∀ i j, 0 ≤ d i j) (j i : Nat) (hj : j < n) (hi : i < n) : szQ (shQ n d j i) ≤ 4 := by
 rw [shQ_eq]
 have h1 := szQ_div ((eI n d j i : Int) : Rat) ((tI n d j : Int) : Rat) (tI_ne hd j)
 have t1 := hR.tot j hj
 have e1 := hR.deb j i hj hi
 have h2 := szQ_small (eI n d j i) (by unfold eI; split <;> omega)
 have h3 := szQ_small (tI n d j) (by unfold tI; split <;> omega)
 omega
theorem szQ_tot (hR : Rng n cash d) (i : Nat) (hi : i < n) : szQ (totQ n d i) ≤ 2 := szQ_small _ (by have := hR.tot i hi; omega)
theorem szQ_A (hR : Rng n cash d) (hn : n ≤ 8) (hd : ∀ i j, 0 ≤ d i j) (F : Nat → Bool) (i j : Nat) (hi : i < rankF F n) (hj : j < rankF F n + 1) : szQ (solA n (cashQ cash) (totQ n d) (shQ n d) F i j) ≤ 64 := by
 have f1 := (frL_spec F n i hi).2.1
 unfold solA
 split
 ·rename_i h
  have f2 := (frL_spec F n j h).2.1
  have h1 := szQ_sub (if j = i then (1 : Rat) else 0) (shQ n d ((frL F n).getD j 0) ((frL F n).getD i 0))
  have h2 := szQ_sh hR hd _ _ f2 f1
  have h3 : szQ (if j = i then (1 : Rat) else 0) ≤ 2 := by split; exact szQ_one; exact szQ_zero
  omega
 ·show szQ (cashQ cash ((frL F n).getD i 0) + sumQ (fun l => (if F l = true then 0 else totQ n d l) * shQ n d l ((frL F n).getD i 0)) n) ≤ 64
  have h1 := szQ_sum (a := 6) (f := fun l => (if F l = true then 0 else totQ n d l) * shQ n d l ((frL F n).getD i 0)) n (fun l hl => by
   have h1 := szQ_mul (if F l = true then 0 else totQ n d l) (shQ n d l ((frL F n).getD i 0))
   have h2 := szQ_sh hR hd l _ hl f1
   have h3 : szQ (if F l = true then 0 else totQ n d l) ≤ 2 := by split; exact szQ_zero; exact szQ_tot hR l hl
   omega)
  have h2 := szQ_add (cashQ cash ((frL F n).getD i 0)) (sumQ (fun l => (if F l = true then 0 else totQ n d l) * shQ n d l ((frL F n).getD i 0)) n)
  have h3 : szQ (cashQ cash ((frL F n).getD i 0)) ≤ 2 := szQ_small _ (by have := hR.csh _ f1; omega)
  have h4 : n * (6 + 1) ≤ 56 := by omega
  omega
/-- what solve wants to know of its equations -/
structure Rdy (n : Nat) (cash : Nat → Int) (d : Nat → Nat → Int) (F : Nat → Bool) (x p : Nat → Rat) : Prop where
 piv : ∀ c, c < rankF F n → 0 < triQ (solA n (cashQ cash) (totG (fun _ => false) n d) (shQ n d) F) c c c
 siz : ∀ c, c ≤ rankF F n → ∀ i j, i < rankF F n → j < rankF F n + 1 → szQ (triQ (solA n (cashQ cash) (totG (fun _ => false) n d) (shQ n d) F) c i j) ≤ 25000000
 res : ∀ i, i < rankF F n → resid (rankF F n) i (triQ (solA n (cashQ cash) (totG (fun _ => false) n d) (shQ n d) F) (rankF F n)) x i = 0
 small : ∀ i, i < rankF F n → szQ (x i) ≤ 200
 pay : ∀ i, p i = if F i then x (rankF F i) else totG (fun _ => false) n d i
 sol : SolF n (cashQ cash) (totQ n d) (shQ n d) F p
theorem rdy_of (hR : Rng n cash d) (hn : n ≤ 8) (hd : ∀ i j, 0 ≤ d i j) {F : Nat → Bool} (hF : NoClosed n (shQ n d) (fun i => F i = true)) : ∃ x p, Rdy n cash d F x p := by
 have hm := mktQ_of hR hd
 have hmm := solA_mm hm F hF
 have hpv : ∀ c, c < rankF F n → 0 < triQ (solA n (cashQ cash) (totQ n d) (shQ n d) F) c c c := fun c hc => (hmm.tri c (Nat.le_of_lt hc)).pivot hc
 have hne : ∀ c, c < rankF F n → triQ (solA n (cashQ cash) (totQ n d) (shQ n d) F) c c c ≠ 0 := fun c hc e => by have := hpv c hc; rw [e] at this; exact absurd this Rat.lt_irrefl
 have hkn := rankF_le F n
 have hsz : ∀ c, c ≤ rankF F n → ∀ i j, i < rankF F n → j < rankF F n + 1 → szQ (triQ (solA n (cashQ cash) (totQ n d) (shQ n d) F) c i j) ≤ 25000000 := fun c hc i j hi hj => by
  have h1 := szQ_tri (K := 64) (n := rankF F n) (m := rankF F n + 1) (by omega) (by omega) (fun i j hi hj => szQ_A hR hn hd F i j hi hj) hne c hc i j hi hj
  have h2 : 5 ^ c ≤ 5 ^ 8 := Nat.pow_le_pow_right (by omega) (by omega)
  have h3 : 5 ^ c * 64 ≤ 5 ^ 8 * 64 := Nat.mul_le_mul_right _ h2
  have h4 : (5 : Nat) ^ 8 * 64 = 25000000 := by decide
  omega
 obtain ⟨x, hx⟩ := tri_solution (rankF F n) (triQ (solA n (cashQ cash) (totQ n d) (shQ n d) F) (rankF F n)) (fun i hi => by
  have h1 := triQ_row (solA n (cashQ cash) (totQ n d) (shQ n d) F) i i (rankF F n - i) i (Nat.le_refl _)
  rw [show i + (rankF F n - i) = rankF F n by omega] at h1
  rw [h1]; exact hne i hi)
 have hs := sol_of hm F hF x (fun i => if F i then x (rankF F i) else totQ n d i) hx (fun i _ => rfl)
 refine ⟨x, fun i => if F i then x (rankF F i) else totQ n d i, ?_, ?_, ?_, fun i hi => ?_, fun i => by rw [totG_none], hs⟩
 ·rw [totG_none]; exact hpv
 ·rw [totG_none]; exact hsz
 ·rw [totG_none]; exact hx
 ·have h1 := frL_spec F n i hi
  have h2 := (pay_small hR hn hd hF hs ((frL F n).getD i 0) h1.2.1).1
  simp only [h1.1, h1.2.2, if_true] at h2
  exact h2
end Go.Proofs.YtcnaagiicpkcpaaGreat

/- The rounds of failing firms, one after the other. -/
namespace Go.Proofs.YtcnaagiicpkcpaaGreat
variable {n : Nat} {cash : Nat → Int} {d : Nat → Nat → Int} {ps : (Nat → Bool) → Nat → Rat}
/-- ps tells the payments, of those that have failed -/
def PsOK (n : Nat) (cash : Nat → Int) (d : Nat → Nat → Int) (ps : (Nat → Bool) → Nat → Rat) : Prop := ∀ F : Nat → Bool, NoClosed n (shQ n d) (fun i => F i = true) → ∃ x, Rdy n cash d F x (ps F)
theorem ps_ex (hR : Rng n cash d) (hn : n ≤ 8) (hd : ∀ i j, 0 ≤ d i j) : ∃ ps, PsOK n cash d ps := by
 have h : ∀ F : Nat → Bool, ∃ p : Nat → Rat, NoClosed n (shQ n d) (fun i => F i = true) → ∃ x, Rdy n cash d F x p := fun F => by
  by_cases hF : NoClosed n (shQ n d) (fun i => F i = true)
  ·obtain ⟨x, p, h⟩ := rdy_of hR hn hd hF
   exact ⟨p, fun _ => ⟨x, h⟩⟩
  ·exact ⟨fun _ => 0, fun h => absurd h hF⟩
 exact ⟨fun F => Classical.choose (h F), fun F => Classical.choose_spec (h F)⟩
/-- who fails now -/
def newF (n : Nat) (cash : Nat → Int) (d : Nat → Nat → Int) (ps : (Nat → Bool) → Nat → Rat) (F : Nat → Bool) (i : Nat) : Bool := !F i && decide (hasP n (cashQ cash) (shQ n d) (ps F) i < totQ n d i)
/-- who has failed before round q -/
def FS (n : Nat) (cash : Nat → Int) (d : Nat → Nat → Int) (ps : (Nat → Bool) → Nat → Rat) : Nat → Nat → Bool
 | 0 => fun _ => false
 | q + 1 => fun i => FS n cash d ps q i || newF n cash d ps (FS n cash d ps q) i
/-- who fails in round q -/
def NW (n : Nat) (cash : Nat → Int) (d : Nat → Nat → Int) (ps : (Nat → Bool) → Nat → Rat) (q : Nat) : Nat → Bool := newF n cash d ps (FS n cash d ps q)
def PS (n : Nat) (cash : Nat → Int) (d : Nat → Nat → Int) (ps : (Nat → Bool) → Nat → Rat) (q : Nat) : Nat → Rat := ps (FS n cash d ps q)
theorem rnd_all (hps : PsOK n cash d ps) (hR : Rng n cash d) (hd : ∀ i j, 0 ≤ d i j) : ∀ q, RndJ n (cashQ cash) (totQ n d) (shQ n d) (FS n cash d ps q)
 | 0 => rndJ_zero _ _ _ _ _ (fun _ => rfl)
 | q + 1 => by
  have ih := rnd_all hps hR hd q
  obtain ⟨x, hx⟩ := hps _ ih.nc
  refine rndJ_next (mktQ_of hR hd) ih hx.sol (fun i hi => ?_)
  simp only [FS, newF]
  by_cases h : FS n cash d ps q i = true
  ·simp [h]
  ·simp [h]
theorem ps_rdy (hps : PsOK n cash d ps) (hR : Rng n cash d) (hd : ∀ i j, 0 ≤ d i j) (q : Nat) : ∃ x, Rdy n cash d (FS n cash d ps q) x (PS n cash d ps q) := hps _ (rnd_all hps hR hd q).nc
theorem nw_not {q i : Nat} (h : NW n cash d ps q i = true) : FS n cash d ps q i = false := by
 unfold NW newF at h
 cases hF : FS n cash d ps q i
 ·rfl
 ·rw [hF] at h; simp at h
theorem nw_iff (q i : Nat) : NW n cash d ps q i = (!FS n cash d ps q i && decide (hasP n (cashQ cash) (shQ n d) (PS n cash d ps q) i < totQ n d i)) := rfl
theorem fs_succ (q i : Nat) : FS n cash d ps (q + 1) i = (FS n cash d ps q i || NW n cash d ps q i) := rfl
theorem rankF_or {F G : Nat → Bool} (h : ∀ i, G i = true → F i = false) : ∀ n, rankF (fun i => F i || G i) n = rankF F n + rankF G n
 | 0 => rfl
 | n + 1 => by
  rw [rankF_succ, rankF_succ, rankF_succ, rankF_or h n]
  cases hg : G n
  ·simp; omega
  ·rw [h n hg]; simp; omega
theorem fs_rank (q : Nat) : rankF (FS n cash d ps (q + 1)) n = rankF (FS n cash d ps q) n + rankF (NW n cash d ps q) n := rankF_or (fun i h => nw_not h) n
/-- an order on fractions, by Cmp -/
theorem cmpQ_lt (a b : Rat) : decide (cmpQ a b < 0) = decide (a < b) := by
 have h : (cmpQ a b < 0) ↔ a < b := by
  have h1 : cmpQ a b < 0 ↔ a.num * (b.den : Int) - b.num * (a.den : Int) < 0 := by
   unfold cmpQ sgnZ
   split
   ·omega
   ·split <;> omega
  rw [h1, Rat.lt_iff]
  omega
 exact decide_eq_decide.2 h
end Go.Proofs.YtcnaagiicpkcpaaGreat

/- A matrix gathered by append, kept; one row more. -/
namespace Go.Proofs.YtcnaagiicpkcpaaGreat
open Go.RowKit
section
variable {B : Nat} {w w' : World} {q : Nat} {v : Value} {ra : Nat → Option Addr} {rc m : Nat → Nat} {f : Nat → Nat → Int}
theorem RowsIn.below (G : RowsIn B w q v ra rc m f) (hb : Below w.heap.size w w') : RowsIn B w' q v ra rc m f :=
 ⟨own_kept G.own hb, fun i hi => own_kept (G.row i hi) hb, G.far, G.apart⟩
end
end Go.Proofs.YtcnaagiicpkcpaaGreat

/- rounds of package debt at any market. -/
namespace Go.Proofs.YtcnaagiicpkcpaaGreat
open Go.RowKit
attribute [local go_sem ↓] Go.wp_at_zero Go.wp_at_succ
theorem mkBn (n : Nat) (hn : n ≤ 1000) (W : World) : (Instr.makeSlice 38 (.int .i64 (n : Nat)) (.int .i64 (n : Nat))).run Tryz.prog W = .ok (.slice (some ⟨W.heap.size, 0, none⟩) n n) (W.alloc (.cells (madeCells #[.bool false] n) 4)) :=
 run_make_row' (P := Tryz.prog) 38 4 (.bool false) 1 Tryz.underlying38 infoB rfl .i64 .i64 n (by omega) (by omega) W
def bF (F : Nat → Bool) (i : Nat) : Value := .bool (F i)
theorem bls_of {w : World} {b n : Nat} {F : Nat → Bool} (h : w.rowIs b 4 n (bF F)) : Bls w b n F := ⟨fun i hi => h.cell hi, h.lt⟩
/-- row q of the rounds: who fails -/
def rwF (n : Nat) (cash : Nat → Int) (d : Nat → Nat → Int) (ps : (Nat → Bool) → Nat → Rat) (q r : Nat) : Int := ((frN (NW n cash d ps q) n r : Nat) : Int)
def rwM (n : Nat) (cash : Nat → Int) (d : Nat → Nat → Int) (ps : (Nat → Bool) → Nat → Rat) (q : Nat) : Nat := rankF (NW n cash d ps q) n
theorem RowsIn.setFar {B : Nat} {w : World} {q : Nat} {v : Value} {ra : Nat → Option Addr} {rc m : Nat → Nat} {f : Nat → Nat → Int} (G : RowsIn B w q v ra rc m f) {b o : Nat} (hb : b < B) (u : Value) : RowsIn B (w.setCell ⟨b, o, none⟩ u) q v ra rc m f := by
 have hg : w.grownBy (w.setCell ⟨b, o, none⟩ u) (some b) := ⟨rfl, rfl, rfl, by simp [World.setCell], fun k _ hk => Below.heap_setCell _ _ _ _ (fun e => hk (by rw [e]))⟩
 exact ⟨G.own.kept hg (.inr (fun e => by have := (G.own.lt b e).1; omega)), fun i hi => (G.row i hi).kept hg (.inr (fun e => by have := ((G.row i hi).lt b e).1; omega)), G.far, G.apart⟩
/-- one row more, which lies above all others -/
theorem RowsIn.pushR {B base : Nat} {w w5 : World} {q : Nat} {v v' : Value} {ra : Nat → Option Addr} {rc m : Nat → Nat} {f : Nat → Nat → Int} (G : RowsIn B w q v ra rc m f) {a : Option Addr} {c : Nat} (hB : B ≤ base)
  (hs : w.ownsRow base 3 1 (.slice a (m q) c) (m q) (ics (f q) (m q))) (hlv : ∀ g, v.ownBlock = some g → g < base) (hlr : ∀ i g, i < q → blk (ra i) = some g → g < base) (ob : Obj) (hgrow : (w.alloc ob).grownBy w5 v.ownBlock)
  (hbk : v'.ownBlock = v.ownBlock ∨ v'.ownBlock = some (w.alloc ob).heap.size) (hown : w5.ownsRow B 22 1 v' (q + 1) (rowCells ra m rc q ++ [.slice a (m q) c])) :
  RowsIn B w5 (q + 1) v' (setN ra q a) (setN rc q c) m f := by
 have hnew : ∀ g, blk a = some g → base ≤ g ∧ g < w.heap.size := fun g e => hs.lt g (by rw [ownBlock_blk]; exact e)
 have hal : (w.alloc ob).heap.size = w.heap.size + 1 := by simp
 have hltr : ∀ i g, i < q → blk (ra i) = some g → g < w.heap.size := fun i g hi e => ((G.row i hi).lt g (by rw [ownBlock_blk]; exact e)).2
 have hv' : ∀ g, v'.ownBlock = some g → v.ownBlock = some g ∨ g = w.heap.size + 1 := fun g e => by
  rcases hbk with h | h
  ·left; rw [← h]; exact e
  ·right; rw [h, hal] at e; exact (Option.some.inj e).symm
 refine ⟨by rw [← rowCells_succ]; exact hown, fun i hi => ?_, fun i g hi e e2 => ?_, fun i j g hij hj e e2 => ?_⟩
 ·by_cases h : i = q
  ·subst h
   rw [setN_self, setN_self]
   refine ((own_base hs hB).alloc ob).kept hgrow ?_
   rw [ownBlock_blk]
   rcases hbb : blk a with _ | g
   ·exact .inl rfl
   ·right; intro e; have := hlv g e.symm; have := hnew g hbb; omega
  ·rw [setN_ne _ _ h, setN_ne _ _ h]
   have hi' : i < q := by omega
   refine ((G.row i hi').alloc ob).kept hgrow ?_
   rw [ownBlock_blk]
   rcases hbb : blk (ra i) with _ | g
   ·exact .inl rfl
   ·right; intro e; exact G.far i g hi' hbb e.symm
 ·by_cases h : i = q
  ·subst h
   rw [setN_self] at e
   have h1 := hnew g e
   rcases hv' g e2 with h2 | h2
   ·have := hlv g h2; omega
   ·omega
  ·rw [setN_ne _ _ h] at e
   have hi' : i < q := by omega
   have h1 := hltr i g hi' e
   rcases hv' g e2 with h2 | h2
   ·exact G.far i g hi' e h2
   ·omega
 ·have hi : i < q := by omega
  rw [setN_ne _ _ (by omega)] at e
  by_cases h : j = q
  ·subst h
   rw [setN_self] at e2
   have h1 := hlr i g hi e
   have h2 := hnew g e2
   omega
  ·rw [setN_ne _ _ h] at e2
   exact G.apart i j g hij (by omega) e e2
theorem own_setFar {w : World} {base e s n : Nat} {v : Value} {xs : List Value} (h : w.ownsRow base e s v n xs) {b o : Nat} (hb : b < base) (u : Value) : (w.setCell ⟨b, o, none⟩ u).ownsRow base e s v n xs :=
 h.kept (row := some b) ⟨rfl, rfl, rfl, by simp [World.setCell], fun k _ hk => Below.heap_setCell _ _ _ _ (fun e => hk (by rw [e]))⟩ (.inr (fun e => by have := (h.lt b e).1; omega))
theorem RowsIn.base {B B' : Nat} {w : World} {q : Nat} {v : Value} {ra : Nat → Option Addr} {rc m : Nat → Nat} {f : Nat → Nat → Int} (G : RowsIn B' w q v ra rc m f) (h : B ≤ B') : RowsIn B w q v ra rc m f :=
 ⟨own_base G.own h, fun i hi => own_base (G.row i hi) h, G.far, G.apart⟩
theorem own_some {w : World} {base e n : Nat} {a : Option Addr} {c : Nat} {xs : List Value} (h : w.ownsRow base e 1 (.slice a n c) n xs) (hn : 0 < n) : ∃ g, a = some ⟨g, 0, none⟩ ∧ base ≤ g ∧ ∀ j u, xs[j]? = some u → w.cell? ⟨g, j, none⟩ = some u := by
 rcases h.2 with ⟨_, e⟩ | ⟨g, cap, cur, hv, hbg, _⟩
 ·omega
 ·injection hv with e1 e2 e3
  subst e1
  refine ⟨g, rfl, hbg, fun j u hu => ?_⟩
  have := h.cells (g := g) rfl j u hu
  rw [add_at, Nat.zero_add] at this; exact this
/-- who has failed while round q is marked -/
def mkF (n : Nat) (F G : Nat → Bool) (r i : Nat) : Bool := F i || (G i && decide (rankF G i < r))
end Go.Proofs.YtcnaagiicpkcpaaGreat
