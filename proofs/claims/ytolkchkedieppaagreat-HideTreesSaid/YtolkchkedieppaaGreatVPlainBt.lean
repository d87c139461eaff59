/- A cut whose sides have no common divisor: its width is at most the number of its network's trees. -/
import Derived.Test.YtolkchkedieppaaGreatVPlainTn
import Derived.Test.YtolkchkedieppaaGreatVTurN
set_option linter.unusedVariables false
set_option linter.unusedSimpArgs false
namespace Go.Proofs.YtolkchkedieppaaGreat
open Go.RowKit
/-- currents x that obey the equations, along the falls of u -/
theorem kcl_pair {n : Nat} {W : List (Int × Int)} (h2 : 2 ≤ n) (hok : WiresOK n W) (x u : Nat → Rat) (hx : x (n - 1) = 0) (hu : u (n - 1) = 0)
  (hq : ∀ i, i < n - 1 → sumQ (fun j => castM (hMat n W W.length) i j * x j) (n - 1) = if i = 0 then 1 else 0) :
  sumQ (fun k => (u (wA W k) - u (wB W k)) * (x (wA W k) - x (wB W k))) W.length = u 0 := by
 have pick : ∀ (a : Nat) (v : Rat), a < n → sumQ (fun i => u i * (if i = a then v else 0)) (n - 1) = u a * v := fun a v ha => by
  by_cases e : a = n - 1
  ·rw [e, hu, sumQ_eq_zero _ (fun i hi => by rw [if_neg (by omega)]; grind)]; grind
  ·rw [sumQ_one _ a (n - 1) (by omega) (fun i _ hn => by rw [if_neg hn]; grind), if_pos rfl]
 have h1 : sumQ (fun i => u i * rowS (n - 1) (hMat n W W.length) x i) (n - 1) = u 0 := by
  rw [sumQ_one _ 0 (n - 1) (by omega) (fun i hi hn => by unfold rowS; rw [hq i hi, if_neg hn]; grind)]
  unfold rowS
  rw [hq 0 (by omega), if_pos rfl]; grind
 rw [← h1, sumQ_congr (n - 1) (g := fun i => sumQ (fun m => u i * ((if i = wA W m then x (wA W m) - x (wB W m) else 0) + (if i = wB W m then x (wB W m) - x (wA W m) else 0))) W.length) (fun i hi => by
  rw [hMat_row h2 hok x hx i hi W.length (Nat.le_refl _), sumQ_mul]), sumQ_swap]
 refine sumQ_congr _ (fun k hk => ?_)
 rw [sumQ_congr (n - 1) (g := fun i => u i * (if i = wA W k then x (wA W k) - x (wB W k) else 0) + u i * (if i = wB W k then x (wB W k) - x (wA W k) else 0)) (fun i _ => by grind), sumQ_add, pick _ _ (hok.a hk).2, pick _ _ (hok.b hk).2]
 grind
theorem trees_ge {S J : List Tr} {W H : Nat} (h : NetP S J W H) (hg : Nat.gcd W H = 1) : W ≤ cntM J.length S.length (wA (netW S J)) (wB (netW S J)) (2 ^ S.length) := by
 have h2 := h.last.1
 have hl : (netW S J).length = S.length := netF_len S J S.length
 have hG := gra_of h2 h.ok
 have hpos := nT_pos hG (conn_con h.con)
 rw [hl] at hG hpos
 have e1 := nF_flow hG h2 (show J.length - 1 < J.length by omega) (potH J W H)
 have e2 := kcl_pair h2 h.ok (potH J W H) (nF J.length S.length (wA (netW S J)) (wB (netW S J)) (J.length - 1)) h.pot_last (nF_s _ _ _ _ _) (fun i hi => h.eqs hi)
 rw [hl] at e2
 rw [sumQ_congr S.length (g := fun k => (nF J.length S.length (wA (netW S J)) (wB (netW S J)) (J.length - 1) (wA (netW S J) k) - nF J.length S.length (wA (netW S J)) (wB (netW S J)) (J.length - 1) (wB (netW S J) k)) * (potH J W H (wA (netW S J) k) - potH J W H (wB (netW S J) k))) (fun k _ => Rat.mul_comm _ _), e2, h.pot_last] at e1
 have hx0 : potH J W H 0 = ((H : Nat) : Rat) / ((W : Nat) : Rat) := by
  unfold potH
  rw [h.first.2, Int.sub_zero]
  rfl
 obtain ⟨c, hc, _⟩ := nF_nat J.length S.length (wA (netW S J)) (wB (netW S J)) (J.length - 1) 0
 have hd := cntM_nT J.length S.length (wA (netW S J)) (wB (netW S J))
 obtain ⟨D, hD⟩ : ∃ D, D = cntM J.length S.length (wA (netW S J)) (wB (netW S J)) (2 ^ S.length) := ⟨_, rfl⟩
 rw [← hD] at hd ⊢
 rw [← hd] at hpos e1
 have hD1 : 1 ≤ D := by
  rcases Nat.eq_zero_or_pos D with e | e
  ·rw [e] at hpos; exact absurd hpos (by decide)
  ·exact e
 have e3 : ((c * W : Nat) : Rat) = ((D * H : Nat) : Rat) := by
  rw [Rat.natCast_mul, Rat.natCast_mul, ← hc, e1, hx0, Rat.div_def]
  have := Rat.inv_mul_cancel _ (natQ_ne h.m.w1)
  grind
 have e4 : c * W = D * H := natQ_inj e3
 have e5 : W ∣ D := Nat.Coprime.dvd_of_dvd_mul_right hg ⟨c, by rw [← e4, Nat.mul_comm]⟩
 exact Nat.le_of_dvd hD1 e5
/-- a ring stays one -/
theorem mcn_lt (a b : Nat → Nat) (S : Nat → Bool) {k : Nat} (h : mcn a b S k < crd S k) : ∀ m, k ≤ m → mcn a b S m < crd S m
 | 0, hm => by rw [show k = 0 by omega] at h; exact h
 | m + 1, hm => by
  by_cases e : k = m + 1
  ·rw [← e]; exact h
  ·have ih := mcn_lt a b S h m (by omega)
   simp only [mcn, crd]
   by_cases q : S m = true
   ·rw [if_pos q]; split <;> omega
   ·rw [if_neg q, if_neg (fun z => q z.1)]; exact ih
theorem isT_ring {n m : Nat} {a b : Nat → Nat} {S : Nat → Bool} {k : Nat} (h : mcn a b S k < crd S k) (hk : k ≤ m) : isT n m a b S = false := by
 have := mcn_lt a b S h m hk
 unfold isT
 rw [decide_eq_false_iff_not]
 omega
theorem isT_no {n m : Nat} {a b : Nat → Nat} {S : Nat → Bool} (h : mcn a b S m = crd S m) : isT n m a b S = decide (crd S m = n - 1) := by
 unfold isT
 rw [h]
 exact decide_eq_decide.2 ⟨fun q => q.1, fun q => ⟨q, q⟩⟩
theorem cntM_le (n m : Nat) (a b : Nat → Nat) : ∀ t, cntM n m a b t ≤ t
 | 0 => Nat.le_refl _
 | t + 1 => by have := cntM_le n m a b t; simp only [cntM]; split <;> omega
end Go.Proofs.YtolkchkedieppaaGreat

/- bits of a number as the walk meets them. -/
namespace Go.Proofs.YtolkchkedieppaaGreat
open Go.RowKit
theorem wrap_pow (n : Nat) (h : 2 ^ n ≤ 1048576) : wrap64 (2 ^ n) = ((2 ^ n : Nat) : Int) := by
 have e : (2 : Int) ^ n = ((2 ^ n : Nat) : Int) := by simp
 rw [e]
 generalize 2 ^ n = N at h
 exact IntWalk.wrap64_in _ ⟨by omega, by omega⟩
end Go.Proofs.YtolkchkedieppaaGreat
