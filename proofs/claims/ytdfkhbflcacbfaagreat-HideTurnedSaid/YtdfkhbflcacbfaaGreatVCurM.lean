/- The equations of a network: connected networks have pivots above 0. -/
import Derived.Test.YtdfkhbflcacbfaaGreatVHtB
import Derived.Test.YtdfkhbflcacbfaaGreatVCurA
import Derived.Test.YtdfkhbflcacbfaaGreatVPlainTz
import Derived.Test.YtdfkhbflcacbfaaGreatVLivH
import Derived.Test.YtdfkhbflcacbfaaGreatVCurB
set_option linter.unusedVariables false
set_option linter.unusedSimpArgs false
namespace Go.Proofs.YtdfkhbflcacbfaaGreat
open Go.RowKit
theorem cast_add (M : Nat → Nat → Int) (p q : Nat) (x : Int) (i j : Nat) : castM (addI M p q x) i j = castM M i j + (if i = p ∧ j = q then (x : Rat) else 0) := by
 unfold castM addI
 by_cases h : i = p ∧ j = q
 ·rw [if_pos h, if_pos h, Rat.intCast_add]
 ·rw [if_neg h, if_neg h]; grind
theorem sumQ_at (f : Nat → Rat) (k N : Nat) (x : Rat) : sumQ (fun i => f i + (if i = k then x else 0)) N = sumQ f N + (if k < N then x else 0) := by
 rw [sumQ_add]
 by_cases h : k < N
 ·rw [if_pos h, sumQ_one _ k N h (fun i _ hn => if_neg hn), if_pos rfl]
 ·rw [if_neg h, sumQ_eq_zero N (fun i hi => if_neg (by omega))]
/-- a column's sum -/
def colS (N : Nat) (M : Nat → Nat → Int) (j : Nat) : Rat := sumQ (fun i => castM M i j) N
theorem colS_add (N : Nat) (M : Nat → Nat → Int) (p q : Nat) (x : Int) (j : Nat) (hp : p < N) : colS N (addI M p q x) j = colS N M j + (if j = q then (x : Rat) else 0) := by
 unfold colS
 by_cases h : j = q
 ·rw [if_pos h, sumQ_congr N (g := fun i => castM M i j + (if i = p then (x : Rat) else 0)) (fun i _ => by rw [cast_add]; congr 1; by_cases e : i = p <;> simp [e, h]), sumQ_at, if_pos hp]
 ·rw [if_neg h, sumQ_congr N (g := fun i => castM M i j) (fun i _ => by rw [cast_add, if_neg (fun e => h e.2)]; grind)]
  grind
/-- the form of a matrix at z -/
def frm (N : Nat) (M : Nat → Nat → Int) (z : Nat → Rat) : Rat := sumQ (fun i => z i * sumQ (fun j => castM M i j * z j) N) N
theorem frm_add (N : Nat) (M : Nat → Nat → Int) (p q : Nat) (x : Int) (z : Nat → Rat) (hp : p < N) (hq : q < N) : frm N (addI M p q x) z = frm N M z + (x : Rat) * z p * z q := by
 unfold frm
 have h1 : ∀ i, sumQ (fun j => castM (addI M p q x) i j * z j) N = sumQ (fun j => castM M i j * z j) N + (if i = p then (x : Rat) * z q else 0) := fun i => by
  by_cases e : i = p
  ·rw [if_pos e, sumQ_congr N (g := fun j => castM M i j * z j + (if j = q then (x : Rat) * z q else 0)) (fun j _ => by
    rw [cast_add]
    by_cases e2 : j = q
    ·rw [if_pos ⟨e, e2⟩, if_pos e2, e2]; grind
    ·rw [if_neg (fun h => e2 h.2), if_neg e2]; grind), sumQ_at, if_pos hq]
  ·rw [if_neg e, sumQ_congr N (g := fun j => castM M i j * z j) (fun j _ => by rw [cast_add, if_neg (fun h => e h.1)]; grind)]
   grind
 rw [sumQ_congr N (g := fun i => z i * sumQ (fun j => castM M i j * z j) N + (if i = p then (x : Rat) * z p * z q else 0)) (fun i _ => by
  rw [h1 i]
  by_cases e : i = p
  ·rw [if_pos e, if_pos e, e]; grind
  ·rw [if_neg e, if_neg e]; grind), sumQ_at, if_pos hp]
theorem hStep_off (n : Nat) {M : Nat → Nat → Int} (h : ∀ i j, i ≠ j → M i j ≤ 0) (p q : Nat) : ∀ i j, i ≠ j → hStep n M p q i j ≤ 0 := fun i j hij => by
 have := h i j hij
 unfold hStep
 split
 ·exact this
 ·split
  ·unfold addI; split <;> split <;> omega
  ·unfold addI; split <;> omega
theorem hMat_off (n : Nat) (W : List (Int × Int)) : ∀ k i j, i ≠ j → hMat n W k i j ≤ 0
 | 0, i, j, _ => Int.le_refl _
 | k + 1, i, j, h => hStep_off n (hStep_off n (hMat_off n W k) _ _) _ _ i j h
theorem icast1 : ((1 : Int) : Rat) = 1 := rfl
theorem icastm : ((-1 : Int) : Rat) = -1 := rfl
/-- both steps of a wire -/
theorem wire_col (n : Nat) (M : Nat → Nat → Int) (a b : Nat) (h2 : 2 ≤ n) (ha : a < n) (hb : b < n) (hab : a ≠ b) (j : Nat) (hj : j < n - 1) : colS (n - 1) M j ≤ colS (n - 1) (hStep n (hStep n M a b) b a) j := by
 by_cases e1 : a = n - 1
 ·have e2 : b < n - 1 := by omega
  have s1 : hStep n M a b = M := by unfold hStep; rw [if_pos e1]
  have s2 : hStep n M b a = addI M b b 1 := by unfold hStep; rw [if_neg (by omega), if_neg (by omega)]
  rw [s1, s2, colS_add _ _ _ _ _ _ e2, icast1]
  split <;> grind
 ·have e3 : a < n - 1 := by omega
  by_cases e2 : b = n - 1
  ·have s1 : hStep n M a b = addI M a a 1 := by unfold hStep; rw [if_neg e1, if_neg (by omega)]
   have s2 : ∀ M, hStep n M b a = M := fun M => by unfold hStep; rw [if_pos e2]
   rw [s2, s1, colS_add _ _ _ _ _ _ e3, icast1]
   split <;> grind
  ·have e4 : b < n - 1 := by omega
   have s1 : hStep n M a b = addI (addI M a a 1) a b (-1) := by unfold hStep; rw [if_neg e1, if_pos e4]
   have s2 : ∀ M, hStep n M b a = addI (addI M b b 1) b a (-1) := fun M => by unfold hStep; rw [if_neg e2, if_pos e3]
   rw [s2, s1, colS_add _ _ _ _ _ _ e4, colS_add _ _ _ _ _ _ e4, colS_add _ _ _ _ _ _ e3, colS_add _ _ _ _ _ _ e3, icast1, icastm]
   by_cases q1 : j = a
   ·rw [if_pos q1, if_neg (by omega), if_neg (by omega), if_pos q1]; grind
   ·by_cases q2 : j = b
    ·rw [if_neg q1, if_pos q2, if_pos q2, if_neg q1]; grind
    ·rw [if_neg q1, if_neg q2, if_neg q2, if_neg q1]; grind
theorem wire_frm (n : Nat) (M : Nat → Nat → Int) (a b : Nat) (h2 : 2 ≤ n) (ha : a < n) (hb : b < n) (hab : a ≠ b) (z : Nat → Rat) (hz : z (n - 1) = 0) : frm (n - 1) (hStep n (hStep n M a b) b a) z = frm (n - 1) M z + (z a - z b) * (z a - z b) := by
 by_cases e1 : a = n - 1
 ·have e2 : b < n - 1 := by omega
  have s1 : hStep n M a b = M := by unfold hStep; rw [if_pos e1]
  have s2 : hStep n M b a = addI M b b 1 := by unfold hStep; rw [if_neg (by omega), if_neg (by omega)]
  rw [s1, s2, frm_add _ _ _ _ _ _ e2 e2, icast1, e1, hz]
  grind
 ·have e3 : a < n - 1 := by omega
  by_cases e2 : b = n - 1
  ·have s1 : hStep n M a b = addI M a a 1 := by unfold hStep; rw [if_neg e1, if_neg (by omega)]
   have s2 : ∀ M, hStep n M b a = M := fun M => by unfold hStep; rw [if_pos e2]
   rw [s2, s1, frm_add _ _ _ _ _ _ e3 e3, icast1, e2, hz]
   grind
  ·have e4 : b < n - 1 := by omega
   have s1 : hStep n M a b = addI (addI M a a 1) a b (-1) := by unfold hStep; rw [if_neg e1, if_pos e4]
   have s2 : ∀ M, hStep n M b a = addI (addI M b b 1) b a (-1) := fun M => by unfold hStep; rw [if_neg e2, if_pos e3]
   rw [s2, s1, frm_add _ _ _ _ _ _ e4 e3, frm_add _ _ _ _ _ _ e4 e4, frm_add _ _ _ _ _ _ e3 e4, frm_add _ _ _ _ _ _ e3 e3, icast1, icastm]
   grind
/-- the energy of the first k wires -/
def enQ (W : List (Int × Int)) (z : Nat → Rat) : Nat → Rat := sumQ (fun m => (z (wA W m) - z (wB W m)) * (z (wA W m) - z (wB W m)))
theorem sq_nn (x : Rat) : 0 ≤ x * x := by
 rcases Rat.le_total (a := 0) (b := x) with h | h
 ·exact Rat.mul_nonneg h h
 ·have h1 : 0 ≤ -x := by grind
  have := Rat.mul_nonneg h1 h1
  grind
section
variable {n : Nat} {W : List (Int × Int)} (h2 : 2 ≤ n) (hok : WiresOK n W) (hne : ∀ k, k < W.length → wA W k ≠ wB W k)
include h2 hok hne
theorem hMat_frm (z : Nat → Rat) (hz : z (n - 1) = 0) : ∀ k, k ≤ W.length → frm (n - 1) (hMat n W k) z = enQ W z k
 | 0, _ => by
  unfold frm enQ
  rw [sumQ_eq_zero (n - 1) (fun i hi => by rw [sumQ_eq_zero (n - 1) (fun j hj => by show ((0 : Int) : Rat) * z j = 0; grind)]; grind)]
  rfl
 | k + 1, hk => by
  have ih := hMat_frm z hz k (by omega)
  show frm (n - 1) (hStep n (hStep n (hMat n W k) (wA W k) (wB W k)) (wB W k) (wA W k)) z = _
  rw [wire_frm n _ _ _ h2 (hok.a (by omega)).2 (hok.b (by omega)).2 (hne k (by omega)) z hz, ih]
  rfl
theorem hMat_col (j : Nat) (hj : j < n - 1) : ∀ k, k ≤ W.length → 0 ≤ colS (n - 1) (hMat n W k) j
 | 0, _ => by
  unfold colS
  rw [show sumQ (fun i => castM (hMat n W 0) i j) (n - 1) = 0 from sumQ_eq_zero (n - 1) (fun i hi => rfl)]
  exact Rat.le_refl
 | k + 1, hk => Rat.le_trans (hMat_col j hj k (by omega)) (wire_col n _ _ _ h2 (hok.a (by omega)).2 (hok.b (by omega)).2 (hne k (by omega)) j hj)
theorem lap_mm (hcon : ConOK n W) (b : Nat → Rat) : MMat (n - 1) 0 (augQ (n - 1) (castM (hMat n W W.length)) b) := by
 refine ⟨fun i j _ hi _ hj hij => ?_, fun j _ hj => ?_, fun z hz i _ hi => ?_⟩
 ·unfold augQ castM
  rw [if_pos hj]
  have h1 := hMat_off n W W.length i j hij
  have : (((hMat n W W.length i j : Int)) : Rat) ≤ ((0 : Int) : Rat) := Rat.intCast_le_intCast.2 h1
  exact this
 ·have := hMat_col h2 hok hne j hj W.length (Nat.le_refl _)
  unfold colS at this
  rw [sumQ_congr (n - 1) (g := fun i => castM (hMat n W W.length) i j) (fun i _ => by rw [if_pos (Nat.zero_le i)]; unfold augQ; rw [if_pos hj])]
  exact this
 ·obtain ⟨u, hu⟩ : ∃ u : Nat → Rat, u = fun i => if i < n - 1 then z i else 0 := ⟨_, rfl⟩
  have u0 : u (n - 1) = 0 := by rw [hu]; simp
  have he : frm (n - 1) (hMat n W W.length) u = 0 := by
   unfold frm
   refine sumQ_eq_zero _ (fun i hi => ?_)
   have h3 := hz i (Nat.zero_le _) hi
   rw [sumQ_congr (n - 1) (g := fun j => castM (hMat n W W.length) i j * u j) (fun j hj => by rw [if_pos (Nat.zero_le j)]; unfold augQ; rw [if_pos hj, hu]; simp [hj])] at h3
   rw [h3]; grind
  rw [hMat_frm h2 hok hne u u0 W.length (Nat.le_refl _)] at he
  have hw : ∀ k, k < W.length → u (wA W k) = u (wB W k) := fun k hk => by
   refine Classical.byContradiction (fun hn => ?_)
   have h4 : (u (wA W k) - u (wB W k)) * (u (wA W k) - u (wB W k)) ≠ 0 := fun e => by
    rcases Rat.mul_eq_zero.1 e with q | q <;> exact hn (by grind)
   have h5 := sq_nn (u (wA W k) - u (wB W k))
   have h6 := sumQ_pos (f := fun m => (u (wA W m) - u (wB W m)) * (u (wA W m) - u (wB W m))) W.length k hk (fun m _ => sq_nn _) (Rat.lt_of_le_of_ne h5 (fun e => h4 e.symm))
   unfold enQ at he
   rw [he] at h6
   exact Rat.lt_irrefl h6
  have hr : ∀ i, i < n → u i = u 0 := fun i hi => by
   have := rea_closed (f := fun i => decide (u i = u 0)) (by simp) (fun k hk => by rw [hw k hk]) (hcon i hi)
   simpa using this
  have h7 := hr i (by omega)
  have h8 := hr (n - 1) (by omega)
  rw [u0] at h8
  rw [← h8, hu] at h7
  simpa [hi] using h7
/-- all that heights wants, of a connected network whose potentials are known -/
theorem ht_ok (hn : n ≤ 25) (hl : W.length ≤ 24) (hcon : ConOK n W) (x : Nat → Rat) (KX : Nat) (hx : ∀ i, i < n - 1 → sumQ (fun j => castM (hMat n W W.length) i j * x j) (n - 1) = if i = 0 then 1 else 0) (hxs : ∀ i, i < n - 1 → szQ (x i) ≤ KX) (k1 : 2 ≤ KX) (k2 : KX ≤ 100000000) : HtOK n W x 33554432 KX := by
 obtain ⟨a, ha⟩ : ∃ a : Nat → Nat → Rat, a = augQ (n - 1) (castM (hMat n W W.length)) (fun i => if i = 0 then 1 else 0) := ⟨_, rfl⟩
 have mm : MMat (n - 1) 0 a := by rw [ha]; exact lap_mm h2 hok hne hcon _
 obtain ⟨A, hA⟩ : ∃ A : Nat → Nat → Int, A = fun i j => if j < n - 1 then hMat n W W.length i j else if i = 0 then 1 else 0 := ⟨_, rfl⟩
 have haA : a = fun i j => ((A i j : Int) : Rat) := by
  rw [ha, hA]
  funext i j
  unfold augQ castM
  by_cases e : j < n - 1
  ·simp only [if_pos e]
  ·simp only [if_neg e]
   by_cases e2 : i = 0
   ·rw [if_pos e2, if_pos e2]; rfl
   ·rw [if_neg e2, if_neg e2]; rfl
 have hpv : ∀ c, c < n - 1 → 0 < triQ a c c c := fun c hc => (mm.tri c (by omega)).pivot hc
 have hpn : ∀ c, c < n - 1 → triQ a c c c ≠ 0 := fun c hc e => by
  have := hpv c hc
  rw [e] at this
  exact Rat.lt_irrefl this
 have hdiag : ∀ i, i < n - 1 → triQ a (n - 1) i i ≠ 0 := fun i hi => by
  have := triQ_row a i i (n - 1 - i) i (Nat.le_refl _)
  rw [show i + (n - 1 - i) = n - 1 by omega] at this
  rw [this]; exact hpn i hi
 obtain ⟨x0, h0⟩ := tri_solution (n - 1) (triQ a (n - 1)) hdiag
 have h1 := solved mm x0 h0
 have hsol : ∀ i, i < n - 1 → sumQ (fun j => a i j * x j) (n - 1) = a i (n - 1) := fun i hi => by
  have h3 := hx i hi
  rw [sumQ_congr (n - 1) (g := fun j => a i j * x j) (fun j hj => by rw [ha]; unfold augQ; rw [if_pos hj])] at h3
  rw [h3, ha]
  unfold augQ
  rw [if_neg (Nat.lt_irrefl _)]
 have heq : ∀ i, i < n - 1 → x i = x0 i := fun i hi => by
  have h5 := mm.ker (fun j => x j - x0 j) (fun r _ hr => by
   have e1 := h1 r hr
   unfold resid at e1
   rw [sumQ_congr (n - 1) (g := fun j => a r j * x0 j) (fun j _ => if_pos (Nat.zero_le j))] at e1
   rw [sumQ_congr (n - 1) (g := fun j => a r j * x j - a r j * x0 j) (fun j _ => by rw [if_pos (Nat.zero_le j)]; grind), sumQ_sub, hsol r hr]
   grind) i (Nat.zero_le _) hi
  grind
 have bd : ∀ i j, (A i j).natAbs ≤ 96 := fun i j => by
  have := hMat_bd n W W.length i j
  rw [hA]
  simp only
  split
  ·omega
  ·split <;> simp
 refine ⟨fun c hc => by rw [← ha]; exact hpv c hc, fun c _ i j hi _ => ?_, by decide, by decide, fun i hi => ?_, hxs, k2, k1⟩
 ·rw [← ha]
  rw [haA] at hpn ⊢
  exact tri_sz (n - 1) (by omega) A bd (by decide) (by decide) hpn c i j hi
 ·rw [← ha]
  have h6 := h0 i hi
  unfold resid at h6 ⊢
  rw [sumQ_congr (n - 1) (g := fun j => if i ≤ j then triQ a (n - 1) i j * x0 j else 0) (fun j hj => by rw [heq j hj])]
  exact h6
end
end Go.Proofs.YtdfkhbflcacbfaaGreat

/- The network of a cut: its potentials are the heights, divided by the width. -/
namespace Go.Proofs.YtdfkhbflcacbfaaGreat
open Go.RowKit
theorem ind_sum (p c : Nat) : ∀ N, sumQ (fun x => if p ≤ x ∧ x < p + c then (1 : Rat) else 0) N = ((min N (p + c) - p : Nat) : Rat)
 | 0 => by simp only [sumQ]; rw [show min 0 (p + c) - p = 0 by omega]; rfl
 | N + 1 => by
  simp only [sumQ]
  rw [ind_sum p c N]
  by_cases e : p ≤ N ∧ N < p + c
  ·rw [if_pos e, show min (N + 1) (p + c) - p = (min N (p + c) - p) + 1 by omega]
   have : (((min N (p + c) - p) + 1 : Nat) : Rat) = ((min N (p + c) - p : Nat) : Rat) + 1 := by rw [Rat.natCast_add]; rfl
   rw [this]
  ·rw [if_neg e, show min (N + 1) (p + c) - p = min N (p + c) - p by omega]
   grind
/-- pieces that cover an interval, each cell once, are as long as it -/
theorem tile_sum (m : Nat) (f t : Int) (on : Nat → Prop) [DecidablePred on] (a c : Nat → Int) (hft : f ≤ t) (hin : ∀ k, k < m → on k → f ≤ a k ∧ a k + c k ≤ t ∧ 0 ≤ c k)
  (hcov : ∀ x, f ≤ x → x < t → ∃ k, k < m ∧ on k ∧ a k ≤ x ∧ x < a k + c k)
  (huni : ∀ x k l, k < m → l < m → on k → on l → a k ≤ x → x < a k + c k → a l ≤ x → x < a l + c l → k = l) :
  sumQ (fun k => if on k then ((c k : Int) : Rat) else 0) m = (((t - f : Int)) : Rat) := by
 obtain ⟨N, hN⟩ := Int.eq_ofNat_of_zero_le (show 0 ≤ t - f by omega)
 have h1 : ∀ k, k < m → (if on k then ((c k : Int) : Rat) else 0) = sumQ (fun x => if on k ∧ a k ≤ f + (x : Int) ∧ f + (x : Int) < a k + c k then (1 : Rat) else 0) N := fun k hk => by
  by_cases e : on k
  ·obtain ⟨e1, e2, e3⟩ := hin k hk e
   obtain ⟨p, hp⟩ := Int.eq_ofNat_of_zero_le (show 0 ≤ a k - f by omega)
   obtain ⟨d, hd⟩ := Int.eq_ofNat_of_zero_le e3
   rw [if_pos e, sumQ_congr N (g := fun x => if p ≤ x ∧ x < p + d then (1 : Rat) else 0) (fun x _ => by
    by_cases q : p ≤ x ∧ x < p + d
    ·rw [if_pos q, if_pos ⟨e, by omega, by omega⟩]
    ·rw [if_neg q, if_neg (fun w => q (by omega))]), ind_sum, show min N (p + d) - p = d by omega, hd]
   rfl
  ·rw [if_neg e, sumQ_eq_zero N (fun x _ => if_neg (fun w => e w.1))]
 rw [sumQ_congr m h1, sumQ_swap]
 rw [sumQ_congr N (g := fun x => if 0 ≤ x ∧ x < 0 + N then (1 : Rat) else 0) (fun x hx => by
  rw [if_pos ⟨Nat.zero_le _, by omega⟩]
  obtain ⟨k, hk, ho, ha, hb⟩ := hcov (f + (x : Int)) (by omega) (by omega)
  rw [sumQ_one _ k m hk (fun l hl hn => if_neg (fun w => hn (huni (f + (x : Int)) l k hl hk w.1 ho w.2.1 w.2.2 ha hb))), if_pos ⟨ho, ha, hb⟩]), ind_sum, show min N (0 + N) - 0 = N by omega, hN]
 rfl
/-- row i of a matrix times x -/
def rowS (N : Nat) (M : Nat → Nat → Int) (x : Nat → Rat) (i : Nat) : Rat := sumQ (fun j => castM M i j * x j) N
theorem rowS_add (N : Nat) (M : Nat → Nat → Int) (p q : Nat) (v : Int) (x : Nat → Rat) (i : Nat) (hq : q < N) : rowS N (addI M p q v) x i = rowS N M x i + (if i = p then (v : Rat) * x q else 0) := by
 unfold rowS
 by_cases e : i = p
 ·rw [if_pos e, sumQ_congr N (g := fun j => castM M i j * x j + (if j = q then (v : Rat) * x q else 0)) (fun j _ => by
   rw [cast_add]
   by_cases e2 : j = q
   ·rw [if_pos ⟨e, e2⟩, if_pos e2, e2]; grind
   ·rw [if_neg (fun h => e2 h.2), if_neg e2]; grind), sumQ_at, if_pos hq]
 ·rw [if_neg e, sumQ_congr N (g := fun j => castM M i j * x j) (fun j _ => by rw [cast_add, if_neg (fun h => e h.1)]; grind)]
  grind
theorem wire_row (n : Nat) (M : Nat → Nat → Int) (a b : Nat) (h2 : 2 ≤ n) (ha : a < n) (hb : b < n) (x : Nat → Rat) (hx : x (n - 1) = 0) (i : Nat) (hi : i < n - 1) :
  rowS (n - 1) (hStep n M a b) x i = rowS (n - 1) M x i + (if i = a then x a - x b else 0) := by
 by_cases e1 : a = n - 1
 ·have s1 : hStep n M a b = M := by unfold hStep; rw [if_pos e1]
  rw [s1, if_neg (by omega)]
  grind
 ·have e3 : a < n - 1 := by omega
  by_cases e2 : b = n - 1
  ·have s1 : hStep n M a b = addI M a a 1 := by unfold hStep; rw [if_neg e1, if_neg (by omega)]
   rw [s1, rowS_add _ _ _ _ _ _ _ e3, icast1, e2, hx]
   split <;> grind
  ·have e4 : b < n - 1 := by omega
   have s1 : hStep n M a b = addI (addI M a a 1) a b (-1) := by unfold hStep; rw [if_neg e1, if_pos e4]
   rw [s1, rowS_add _ _ _ _ _ _ _ e4, rowS_add _ _ _ _ _ _ _ e3, icast1, icastm]
   split <;> grind
theorem hMat_row {n : Nat} {W : List (Int × Int)} (h2 : 2 ≤ n) (hok : WiresOK n W) (x : Nat → Rat) (hx : x (n - 1) = 0) (i : Nat) (hi : i < n - 1) : ∀ k, k ≤ W.length →
  rowS (n - 1) (hMat n W k) x i = sumQ (fun m => (if i = wA W m then x (wA W m) - x (wB W m) else 0) + (if i = wB W m then x (wB W m) - x (wA W m) else 0)) k
 | 0, _ => by
  unfold rowS
  rw [sumQ_eq_zero (n - 1) (fun j hj => by show ((0 : Int) : Rat) * x j = 0; grind)]
  rfl
 | k + 1, hk => by
  have ih := hMat_row h2 hok x hx i hi k (by omega)
  show rowS (n - 1) (hStep n (hStep n (hMat n W k) (wA W k) (wB W k)) (wB W k) (wA W k)) x i = _
  rw [wire_row n _ _ _ h2 (hok.b (by omega)).2 (hok.a (by omega)).2 x hx i hi, wire_row n _ _ _ h2 (hok.a (by omega)).2 (hok.b (by omega)).2 x hx i hi, ih]
  simp only [sumQ]
  grind
/-- the wires of a cut's network -/
abbrev netW (S J : List Tr) : List (Int × Int) := netF S J S.length
/-- height over the bottom, divided by the width -/
def potH (J : List Tr) (W H : Nat) (i : Nat) : Rat := (((H : Int) - (J.getD i default).a : Int) : Rat) / ((W : Nat) : Rat)
theorem pige : ∀ (N : Nat) (l : List Nat), (∀ i, 1 ≤ i → i ≤ N → i ∈ l) → N ≤ l.length
 | 0, l, _ => Nat.zero_le _
 | N + 1, l, h => by
  have hm := h (N + 1) (by omega) (Nat.le_refl _)
  have := pige N (l.erase (N + 1)) (fun i h1 h2 => (List.mem_erase_of_ne (by omega)).2 (h i h1 (by omega)))
  rw [List.length_erase_of_mem hm] at this
  have := List.length_pos_of_mem hm
  omega
section
variable {S J : List Tr} {W H : Nat} (h : NetP S J W H)
include h
theorem NetP.wA {k : Nat} (hk : k < S.length) : ((netW S J).getD k (0, 0)).1 = (nwA S J k : Int) ∧ wA (netW S J) k = nwA S J k := by
 have e := netF_get S J S.length k hk
 have e1 := (h.top hk).2.1
 have : ((netW S J).getD k (0, 0)).1 = (nwA S J k : Int) := by rw [e]; exact e1
 exact ⟨this, by unfold Go.Proofs.YtdfkhbflcacbfaaGreat.wA; rw [this]; simp⟩
theorem NetP.wB {k : Nat} (hk : k < S.length) : ((netW S J).getD k (0, 0)).2 = (nwB S J k : Int) ∧ wB (netW S J) k = nwB S J k := by
 have e := netF_get S J S.length k hk
 have e1 := (h.bot hk).2.1
 have : ((netW S J).getD k (0, 0)).2 = (nwB S J k : Int) := by rw [e]; exact e1
 exact ⟨this, by unfold Go.Proofs.YtdfkhbflcacbfaaGreat.wB; rw [this]; simp⟩
theorem NetP.ok : WiresOK J.length (netW S J) := fun k hk => by
 rw [netF_len] at hk
 have a := (h.top hk).1
 have b := (h.bot hk).1
 rw [(h.wA hk).1, (h.wB hk).1]
 omega
theorem NetP.ne {k : Nat} (hk : k < (netW S J).length) : Go.Proofs.YtdfkhbflcacbfaaGreat.wA (netW S J) k ≠ Go.Proofs.YtdfkhbflcacbfaaGreat.wB (netW S J) k := by
 rw [netF_len] at hk
 rw [(h.wA hk).2, (h.wB hk).2]
 intro e
 have a := (h.top hk).2.2.1
 have b := (h.bot hk).2.2.1
 have r := h.rg hk
 rw [e] at a
 omega
/-- each line can be reached from the top -/
theorem NetP.con : ConOK J.length (netW S J) := by
 have key : ∀ (n : Nat) (i : Nat), i < J.length → (J.getD i default).a ≤ (n : Int) → Rea (netW S J) i := fun n => by
  induction n with
  | zero =>
   intro i hi hn
   have e : i = 0 := by
    rcases Nat.eq_zero_or_pos i with q | q
    ·exact q
    ·have := h.mid0 q hi; omega
   rw [e]; exact Rea.zero
  | succ n ih =>
   intro i hi hn
   rcases Nat.eq_zero_or_pos i with q | q
   ·rw [q]; exact Rea.zero
   ·have h0 := h.mid0 q hi
    obtain ⟨k, hk, e, _, _⟩ := h.above hi h0 (x := (J.getD i default).b) ⟨Int.le_refl _, (h.ln hi).1⟩
    obtain ⟨t1, _, t3, _, _⟩ := h.top hk
    obtain ⟨b1, _, b3, _, _⟩ := h.bot hk
    have hr := h.rg hk
    rw [e] at b3
    have := ih (nwA S J k) t1 (by omega)
    have h5 := Rea.fw (W := netW S J) k (by rw [netF_len]; exact hk) (by rw [(h.wA hk).2]; exact this)
    rw [(h.wB hk).2, e] at h5
    exact h5
 exact fun i hi => key H i hi (h.ln hi).2.2.2.2
/-- no more lines than squares, and one -/
theorem NetP.many : J.length ≤ S.length + 1 := by
 have := pige (J.length - 1) ((List.range S.length).map (nwB S J)) (fun i h1 h2 => by
  have hi : i < J.length := by have := h.last.1; omega
  obtain ⟨k, hk, e, _, _⟩ := h.above hi (h.mid0 h1 hi) (x := (J.getD i default).b) ⟨Int.le_refl _, (h.ln hi).1⟩
  exact List.mem_map.2 ⟨k, List.mem_range.2 hk, e⟩)
 rw [List.length_map, List.length_range] at this
 omega
theorem NetP.sumB {i : Nat} (hi : i < J.length) (h0 : 0 < i) : sumQ (fun k => if nwB S J k = i then (((S.getD k default).c : Int) : Rat) else 0) S.length = ((((J.getD i default).c - (J.getD i default).b : Int)) : Rat) := by
 refine tile_sum S.length _ _ (fun k => nwB S J k = i) (fun k => (S.getD k default).a) (fun k => (S.getD k default).c) (by have := (h.ln hi).1; omega) (fun k hk e => ?_) (fun x a b => ?_) (fun x k l hk hl e1 e2 a1 a2 b1 b2 => h.above_uniq hk hl e1 e2 a1 a2 b1 b2)
 ·have hb := h.bot hk
  have hr := h.rg hk
  have e : nwB S J k = i := e
  rw [e] at hb
  show (J.getD i default).b ≤ (S.getD k default).a ∧ (S.getD k default).a + (S.getD k default).c ≤ (J.getD i default).c ∧ 0 ≤ (S.getD k default).c
  omega
 ·exact h.above hi (h.mid0 h0 hi) ⟨a, b⟩
theorem NetP.sumA {i : Nat} (hi : i < J.length - 1) : sumQ (fun k => if nwA S J k = i then (((S.getD k default).c : Int) : Rat) else 0) S.length = ((((J.getD i default).c - (J.getD i default).b : Int)) : Rat) := by
 have hi2 : i < J.length := by omega
 refine tile_sum S.length _ _ (fun k => nwA S J k = i) (fun k => (S.getD k default).a) (fun k => (S.getD k default).c) (by have := (h.ln hi2).1; omega) (fun k hk e => ?_) (fun x a b => ?_) (fun x k l hk hl e1 e2 a1 a2 b1 b2 => h.below_uniq hk hl e1 e2 a1 a2 b1 b2)
 ·have hb := h.top hk
  have hr := h.rg hk
  have e : nwA S J k = i := e
  rw [e] at hb
  show (J.getD i default).b ≤ (S.getD k default).a ∧ (S.getD k default).a + (S.getD k default).c ≤ (J.getD i default).c ∧ 0 ≤ (S.getD k default).c
  omega
 ·exact h.below hi2 (h.mid hi) ⟨a, b⟩
theorem NetP.pot_last : potH J W H (J.length - 1) = 0 := by
 unfold potH
 rw [h.last.2, Int.sub_self, Rat.div_def]
 have : ((0 : Int) : Rat) = 0 := rfl
 rw [this]; grind
/-- the current of a square is its size, divided by the width -/
theorem NetP.cur {k : Nat} (hk : k < S.length) : potH J W H (nwA S J k) - potH J W H (nwB S J k) = (((S.getD k default).c : Int) : Rat) / ((W : Nat) : Rat) := by
 have a := (h.top hk).2.2.1
 have b := (h.bot hk).2.2.1
 unfold potH
 rw [a, b, show (S.getD k default).c = ((H : Int) - (S.getD k default).b) - ((H : Int) - ((S.getD k default).b + (S.getD k default).c)) by omega, Rat.intCast_sub ((H : Int) - (S.getD k default).b), Rat.div_def, Rat.div_def, Rat.div_def, show (H : Int) - ((S.getD k default).b + ((H : Int) - (S.getD k default).b - ((H : Int) - ((S.getD k default).b + (S.getD k default).c)))) = (H : Int) - ((S.getD k default).b + (S.getD k default).c) by omega]
 grind
theorem NetP.eqs {i : Nat} (hi : i < J.length - 1) : sumQ (fun j => castM (hMat J.length (netW S J) (netW S J).length) i j * potH J W H j) (J.length - 1) = if i = 0 then 1 else 0 := by
 have hrow := hMat_row (n := J.length) (W := netW S J) (by have := h.last.1; omega) h.ok (potH J W H) h.pot_last i hi (netW S J).length (Nat.le_refl _)
 unfold rowS at hrow
 rw [hrow, netF_len]
 have hw : ((W : Nat) : Rat) ≠ 0 := by
  have := h.m.w1
  intro e
  have e2 : W = 0 := by exact_mod_cast e
  omega
 rw [sumQ_congr S.length (g := fun k => ((W : Nat) : Rat)⁻¹ * (if nwA S J k = i then (((S.getD k default).c : Int) : Rat) else 0) - ((W : Nat) : Rat)⁻¹ * (if nwB S J k = i then (((S.getD k default).c : Int) : Rat) else 0)) (fun k hk => by
  have hc := h.cur hk
  rw [Rat.div_def] at hc
  rw [(h.wA hk).2, (h.wB hk).2]
  by_cases e1 : i = nwA S J k
  ·rw [if_pos e1, if_pos e1.symm, hc]
   by_cases e2 : i = nwB S J k
   ·rw [if_pos e2, if_pos e2.symm]; grind
   ·rw [if_neg e2, if_neg (show ¬ nwB S J k = i from fun q => e2 q.symm)]; grind
  ·rw [if_neg e1, if_neg (show ¬ nwA S J k = i from fun q => e1 q.symm)]
   by_cases e2 : i = nwB S J k
   ·rw [if_pos e2, if_pos e2.symm]; grind
   ·rw [if_neg e2, if_neg (show ¬ nwB S J k = i from fun q => e2 q.symm)]; grind), sumQ_sub, sumQ_mul, sumQ_mul, h.sumA hi]
 by_cases e : i = 0
 ·subst e
  have hf := h.full h.first.1 (.inl h.first.2)
  rw [hf.1, hf.2, if_pos rfl, sumQ_eq_zero S.length (fun k hk => if_neg (fun q => by
   have b := (h.bot hk).2.2.1
   have r := h.rg hk
   rw [q, h.first.2] at b
   omega)), Int.sub_zero]
  have h1 := Rat.inv_mul_cancel _ hw
  have h2 : (((W : Nat) : Int) : Rat) = ((W : Nat) : Rat) := rfl
  rw [h2]
  grind
 ·rw [if_neg e, h.sumB (by omega) (by omega)]
  grind
end
end Go.Proofs.YtdfkhbflcacbfaaGreat

/- The currents of a cut's network: the sizes of its squares, divided by their greatest common divisor. -/
namespace Go.Proofs.YtdfkhbflcacbfaaGreat
open Go.RowKit
/-- quotients of bounded whole numbers by one -/
structure FrcP (m : Nat) (q : Nat → Rat) (c : Nat → Nat) (W : Nat) : Prop where
 w1 : 1 ≤ W
 w2 : W ≤ 1000
 c1 : ∀ k, k < m → 1 ≤ c k ∧ c k ≤ 1000
 e : ∀ k, k < m → q k = ((c k : Nat) : Rat) / ((W : Nat) : Rat)
theorem natQ_inj {a b : Nat} (h : ((a : Nat) : Rat) = ((b : Nat) : Rat)) : a = b := by exact_mod_cast h
theorem natQ_ne {a : Nat} (h : 1 ≤ a) : ((a : Nat) : Rat) ≠ 0 := fun e => by
 have : a = 0 := natQ_inj (b := 0) e
 omega
section
variable {m : Nat} {q : Nat → Rat} {c : Nat → Nat} {W : Nat} (h : FrcP m q c W)
include h
omit h in
theorem nl_small {x : Nat} (h : x < 4294967296) : nl x ≤ 1 := (nl_le x 1).2 (by simpa using h)
end
section
variable {S J : List Tr} {W H : Nat} (h : NetP S J W H)
include h
theorem NetP.ht : HtOK J.length (netW S J) (potH J W H) 33554432 2 := by
 have h2 := h.last.1
 have hmany := h.many
 have hf := h.few
 refine ht_ok (by omega) h.ok (fun k hk => h.ne hk) (by omega) (by rw [netF_len]; exact hf) h.con _ 2 (fun i hi => h.eqs hi) (fun i hi => ?_) (by decide) (by decide)
 have hl := h.ln (show i < J.length by omega)
 have hw1 := h.m.w1
 have hwb := h.m.wb
 have hhb := h.m.hb
 refine Nat.le_trans (szQ_quot (p := (H : Int) - (J.getD i default).a) (q := (W : Int)) (k := 1) (by omega) ?_ (nl_small (by omega)) (by rw [Int.natAbs_natCast]; exact nl_small (by omega))) (by decide)
 unfold potH
 have := Rat.inv_mul_cancel _ (natQ_ne hw1)
 have e1 : (((W : Nat) : Int) : Rat) = ((W : Nat) : Rat) := rfl
 rw [e1, Rat.div_def]
 grind
end
end Go.Proofs.YtdfkhbflcacbfaaGreat

/- Currents and Resistance of a cut's network. -/
namespace Go.Proofs.YtdfkhbflcacbfaaGreat
open Go.RowKit
attribute [local go_sem ↓] Go.wp_at_zero Go.wp_at_succ
set_option maxHeartbeats 4000000 in
set_option maxRecDepth 100000 in
theorem resistance_mk (S J : List Tr) (W H g c : Nat) (w : World) (h : NetP S J W H) (hW : PrR w g 0 (netW S J)) (hg : g < w.heap.size) :
  Calls Tryz.prog 9 #[.int .i64 (J.length : Nat), .slice (some ⟨g, 0, none⟩) S.length c] w fun e w' => ∃ s, e = .returned (.tuple #[.string s, .int .i64 0]) ∧
   FracTxt s (((H : Nat) : Rat) / ((W : Nat) : Rat)).num (((H : Nat) : Rat) / ((W : Nat) : Rat)).den ∧ Below w.heap.size w w' := by
 have h2 := h.last.1
 have hmany := h.many
 have hf := h.few
 have hl : (netW S J).length = S.length := netF_len S J S.length
 have hht := heights_any g c J.length (netW S J) (potH J W H) 33554432 2 w hW hg (by omega) (by omega) (by omega) h.ok (fun k hk => h.ne hk) h.con h.ht
 rw [hl] at hht
 have hx0 : potH J W H 0 = ((H : Nat) : Rat) / ((W : Nat) : Rat) := by
  unfold potH
  rw [h.first.2, Int.sub_zero]
  rfl
 have hlow := lowest_le (w := ((H : Nat) : Rat) / ((W : Nat) : Rat)) (p := (H : Int)) (q := (W : Int)) (by have := h.m.w1; omega) (by
  have := Rat.inv_mul_cancel _ (natQ_ne h.m.w1)
  have e1 : (((W : Nat) : Int) : Rat) = ((W : Nat) : Rat) := rfl
  have e2 : (((H : Nat) : Int) : Rat) = ((H : Nat) : Rat) := rfl
  rw [e1, e2, Rat.div_def]; grind)
 obtain ⟨x, hx⟩ : ∃ x : Rat, x = ((H : Nat) : Rat) / ((W : Nat) : Rat) := ⟨_, rfl⟩
 rw [← hx] at hx0 hlow ⊢
 have HN : Hid (MaxD x.num.natAbs ∧ MaxD x.den) := Lib.hid ⟨maxD_of (e := 4) (by have := h.m.hb; omega) (by decide), maxD_of (e := 4) (by have := h.m.wb; omega) (by decide)⟩
 have HX0 := Lib.hid hx0
 obtain ⟨n, hn⟩ : ∃ n, n = J.length := ⟨_, rfl⟩
 rw [← hn] at hht h2 ⊢
 have HHT := Lib.hid hht
 clear hht hlow hx0 hx hmany hf hl hn h hW
 go_enter Tryz.func9, Tryz.ntmps9
 go_wp2_with (first
  | (go_at_call 27; go_loud ((with_reducible refine HHT.out.mono ?_); rintro e w1 ⟨g1, c1, rfl, _, hr, hb⟩; obtain ⟨s1, a1, n1, c2, b1, m1, d1, P1, R1⟩ := hr.cell 0 (by omega); have y0 := P1.c0; have y1 := P1.c1; have y2 := P1.c2; have y3 := P1.c3; have RA := Lib.hid (R1 trivial); have KB := Lib.hid hb; have ix0 := fun X => rowIx g1 n c1 0 (by omega) X; simp only [Nat.zero_mul, Nat.zero_add, Int.natCast_zero] at y0 y1 y2 y3 ix0; rw [if_pos (show 0 < n - 1 by omega), HX0.out] at RA; clear hr hb P1 R1))
  | (go_at_call 28; go_loud ((with_reducible refine (rat_num_any _ x 2 _ RA.out (by omega) HN.out.1 HN.out.2).mono ?_); rintro e w2 ⟨s, rfl, ht, hb⟩; have HT := Lib.hid ht; have KB := Lib.hid (KB.out.trans (hb.mono KB.out.size)); clear ht hb)))
 go_ret2
 exact ⟨_, rfl, HT.out, KB.out⟩
end Go.Proofs.YtdfkhbflcacbfaaGreat
