/- A connected network's potentials by its trees, and what Currents answers of them: quotients of integers by one number. -/
import Derived.Test.YtolkchkedieppaaGreatZPlainTr
import Derived.Test.YtolkchkedieppaaGreatZCmpI
set_option linter.unusedVariables false
set_option linter.unusedSimpArgs false
namespace Go.Proofs.YtolkchkedieppaaGreat
open Go.RowKit
theorem gra_of {n : Nat} {W : List (Int × Int)} (h2 : 2 ≤ n) (hok : WiresOK n W) : Gra n W.length (wA W) (wB W) := ⟨by omega, fun k hk => (hok.a hk).2, fun k hk => (hok.b hk).2⟩
theorem conn_con {n : Nat} {W : List (Int × Int)} (hcon : ConOK n W) : Conn n W.length (wA W) (wB W) (fun k => decide (k < W.length)) := fun u hu => by
 have key : ∀ i, i < n → u i = u 0 := fun i hi => by
  have := rea_closed (f := fun i => decide (u i = u 0)) (by simp) (fun k hk => by rw [hu k hk (by simpa using hk)]) (hcon i hi)
  simpa using this
 intro i j hi hj
 rw [key i hi, key j hj]
/-- the potentials -/
def potT (n : Nat) (W : List (Int × Int)) (i : Nat) : Rat := nF n W.length (wA W) (wB W) (n - 1) i / nT n W.length (wA W) (wB W)
theorem potT_last (n : Nat) (W : List (Int × Int)) : potT n W (n - 1) = 0 := by
 unfold potT; rw [nF_s, Rat.div_def]; grind
section
variable {n : Nat} {W : List (Int × Int)} (h2 : 2 ≤ n) (hok : WiresOK n W) (hcon : ConOK n W)
include h2 hok hcon
theorem nT_ne : nT n W.length (wA W) (wB W) ≠ 0 := fun e => by
 have := nT_pos (gra_of h2 hok) (conn_con hcon)
 rw [e] at this
 exact Rat.lt_irrefl this
theorem potT_flow (u : Nat → Rat) : sumQ (fun k => (u (wA W k) - u (wB W k)) * (potT n W (wA W k) - potT n W (wB W k))) W.length = u 0 - u (n - 1) := by
 have hne := nT_ne h2 hok hcon
 have hf := nF_flow (gra_of h2 hok) h2 (show n - 1 < n by omega) u
 obtain ⟨D, hD⟩ : ∃ D, D = nT n W.length (wA W) (wB W) := ⟨_, rfl⟩
 have e : ∀ i, potT n W i = D⁻¹ * nF n W.length (wA W) (wB W) (n - 1) i := fun i => by unfold potT; rw [Rat.div_def, hD, Rat.mul_comm]
 rw [sumQ_congr W.length (g := fun k => D⁻¹ * ((u (wA W k) - u (wB W k)) * (nF n W.length (wA W) (wB W) (n - 1) (wA W k) - nF n W.length (wA W) (wB W) (n - 1) (wB W k)))) (fun k _ => by rw [e, e]; grind), sumQ_mul, hf, ← hD]
 rw [← hD] at hne
 have := Rat.inv_mul_cancel _ hne
 grind
theorem potT_eqs {i : Nat} (hi : i < n - 1) : sumQ (fun j => castM (hMat n W W.length) i j * potT n W j) (n - 1) = if i = 0 then 1 else 0 := by
 have r := hMat_row h2 hok (potT n W) (potT_last n W) i hi W.length (Nat.le_refl _)
 unfold rowS at r
 rw [r]
 have f := potT_flow h2 hok hcon (fun j => if j = i then 1 else 0)
 rw [sumQ_congr W.length (g := fun k => ((if wA W k = i then (1 : Rat) else 0) - (if wB W k = i then 1 else 0)) * (potT n W (wA W k) - potT n W (wB W k))) (fun k _ => by
  by_cases e1 : i = wA W k <;> by_cases e2 : i = wB W k
  ·rw [if_pos e1, if_pos e2, if_pos e1.symm, if_pos e2.symm]; grind
  ·rw [if_pos e1, if_neg e2, if_pos e1.symm, if_neg (fun z => e2 z.symm)]; grind
  ·rw [if_neg e1, if_pos e2, if_neg (fun z => e1 z.symm), if_pos e2.symm]; grind
  ·rw [if_neg e1, if_neg e2, if_neg (fun z => e1 z.symm), if_neg (fun z => e2 z.symm)]; grind)]
 rw [f, if_neg (show ¬ n - 1 = i by omega)]
 by_cases e : i = 0
 ·rw [if_pos e, if_pos e.symm]; grind
 ·rw [if_neg e, if_neg (fun z => e z.symm)]; grind
end
/-- quotients of integers by one number -/
structure FrcZ (m : Nat) (q : Nat → Rat) (c : Nat → Int) (D : Nat) : Prop where
 d1 : 1 ≤ D
 d2 : D ≤ 16777216
 cb : ∀ k, k < m → (c k).natAbs ≤ 16777216
 nz : ∃ k, k < m ∧ c k ≠ 0
 e : ∀ k, k < m → q k = ((c k : Int) : Rat) / ((D : Nat) : Rat)
theorem gC_pos' {c : Nat → Nat} {m : Nat} (h : ∃ k, k < m ∧ c k ≠ 0) : 0 < gC c m := by
 obtain ⟨k, hk, hc⟩ := h
 have := gC_dvd c m k hk
 rcases Nat.eq_zero_or_pos (gC c m) with e | e
 ·rw [e] at this
  exact absurd (Nat.eq_zero_of_zero_dvd this) hc
 ·exact e
theorem gC_div {c : Nat → Nat} {m g : Nat} (hg : 0 < g) (h : ∀ k, k < m → g ∣ c k) : ∀ k, k ≤ m → gC (fun k => c k / g) k * g = gC c k
 | 0, _ => by simp [gC]
 | k + 1, hk => by
  have ih := gC_div hg h k (by omega)
  show Nat.gcd (gC (fun k => c k / g) k) (c k / g) * g = Nat.gcd (gC c k) (c k)
  rw [← Nat.gcd_mul_right, ih, Nat.div_mul_cancel (h k (by omega))]
section
variable {m : Nat} {q : Nat → Rat} {c : Nat → Int} {D : Nat} (h : FrcZ m q c D)
include h
theorem FrcZ.mul {k : Nat} (hk : k < m) : q k * ((D : Nat) : Rat) = ((c k : Int) : Rat) := by
 rw [h.e k hk, Rat.div_def]
 have := Rat.inv_mul_cancel _ (natQ_ne h.d1)
 grind
theorem FrcZ.num {k : Nat} (hk : k < m) : (q k).num * (D : Int) = (c k : Int) * ((q k).den : Int) := by
 have h1 := h.mul hk
 have h2 := mul_den_num (q k)
 apply intQ_inj
 rw [Rat.intCast_mul, Rat.intCast_mul, ← h2]
 have e1 : (((D : Nat) : Int) : Rat) = ((D : Nat) : Rat) := rfl
 have e3 : ((((q k).den : Nat) : Int) : Rat) = (((q k).den : Nat) : Rat) := rfl
 rw [e1, e3, ← h1]
 grind
theorem FrcZ.numN {k : Nat} (hk : k < m) : (q k).num.natAbs * D = (c k).natAbs * (q k).den := by
 have := congrArg Int.natAbs (h.num hk)
 rw [Int.natAbs_mul, Int.natAbs_mul] at this
 simpa using this
theorem FrcZ.den {k : Nat} (hk : k < m) : (q k).den ∣ D := by
 have h1 : (q k).den ∣ (q k).num.natAbs * D := ⟨(c k).natAbs, by rw [h.numN hk, Nat.mul_comm]⟩
 exact (Nat.Coprime.symm (q k).reduced).dvd_of_dvd_mul_left h1
theorem FrcZ.uK : ∀ k, k ≤ m → Go.Proofs.YtolkchkedieppaaGreat.uK q k ∣ D ∧ ∀ j, j < k → (q j).den ∣ Go.Proofs.YtolkchkedieppaaGreat.uK q k
 | 0, _ => ⟨Nat.one_dvd _, fun j hj => by omega⟩
 | k + 1, hk => by
  obtain ⟨a, b⟩ := FrcZ.uK k (by omega)
  have e : Go.Proofs.YtolkchkedieppaaGreat.uK q (k + 1) = Nat.lcm (Go.Proofs.YtolkchkedieppaaGreat.uK q k) (q k).den := by
   show Go.Proofs.YtolkchkedieppaaGreat.uK q k * ((q k).den / Nat.gcd (Go.Proofs.YtolkchkedieppaaGreat.uK q k) (q k).den) = _
   unfold Nat.lcm
   rw [Nat.mul_div_assoc _ (Nat.gcd_dvd_right _ _)]
  rw [e]
  refine ⟨Nat.lcm_dvd a (h.den (by omega)), fun j hj => ?_⟩
  by_cases e2 : j = k
  ·rw [e2]; exact Nat.dvd_lcm_right _ _
  ·exact Nat.dvd_trans (b j (by omega)) (Nat.dvd_lcm_left _ _)
/-- a current, made whole -/
theorem FrcZ.whole {k : Nat} (hk : k < m) : ∃ V : Int, q k * (((Go.Proofs.YtolkchkedieppaaGreat.uK q m : Nat) : Int) : Rat) = ((V : Int) : Rat) ∧ V * D = c k * Go.Proofs.YtolkchkedieppaaGreat.uK q m ∧ V.natAbs ≤ 16777216 := by
 obtain ⟨u1, u2⟩ := h.uK m (Nat.le_refl _)
 obtain ⟨d, hd⟩ := u2 k hk
 have hle : Go.Proofs.YtolkchkedieppaaGreat.uK q m ≤ D := Nat.le_of_dvd h.d1 u1
 have hc := h.cb k hk
 have hn := h.num hk
 have hV : ((q k).num * d) * D = c k * Go.Proofs.YtolkchkedieppaaGreat.uK q m := by
  rw [hd, Int.natCast_mul, Int.mul_right_comm, hn, Int.mul_assoc]
 refine ⟨(q k).num * d, ?_, hV, ?_⟩
 ·rw [hd]
  have h2 := mul_den_num (q k)
  have e1 : ((((q k).den * d : Nat) : Int) : Rat) = (((q k).den : Nat) : Rat) * ((d : Nat) : Rat) := by
   rw [Int.natCast_mul, Rat.intCast_mul]; rfl
  have e2 : (((q k).num * (d : Int) : Int) : Rat) = ((q k).num : Rat) * ((d : Nat) : Rat) := by
   rw [Rat.intCast_mul]; rfl
  rw [e1, e2, ← h2]
  grind
 ·have h5 := congrArg Int.natAbs hV
  rw [Int.natAbs_mul ((q k).num * (d : Int)), Int.natAbs_mul (c k), Int.natAbs_natCast, Int.natAbs_natCast] at h5
  have h6 : (c k).natAbs * Go.Proofs.YtolkchkedieppaaGreat.uK q m ≤ (c k).natAbs * D := Nat.mul_le_mul_left _ hle
  rw [← h5] at h6
  exact Nat.le_trans (Nat.le_of_mul_le_mul_right h6 h.d1) hc
theorem FrcZ.gK : ∀ k, k ≤ m → Go.Proofs.YtolkchkedieppaaGreat.gK q (Go.Proofs.YtolkchkedieppaaGreat.uK q m) k * D = gC (fun k => (c k).natAbs) k * Go.Proofs.YtolkchkedieppaaGreat.uK q m
 | 0, _ => by simp [Go.Proofs.YtolkchkedieppaaGreat.gK, gC]
 | k + 1, hk => by
  have ih := FrcZ.gK k (by omega)
  obtain ⟨V, h1, h2, _⟩ := h.whole (show k < m by omega)
  have h3 := congrArg Int.natAbs h2
  rw [Int.natAbs_mul, Int.natAbs_mul, Int.natAbs_natCast, Int.natAbs_natCast] at h3
  show Nat.gcd (Go.Proofs.YtolkchkedieppaaGreat.gK q (Go.Proofs.YtolkchkedieppaaGreat.uK q m) k) (q k * (((Go.Proofs.YtolkchkedieppaaGreat.uK q m : Nat) : Int) : Rat)).num.natAbs * D = Nat.gcd (gC (fun k => (c k).natAbs) k) (c k).natAbs * Go.Proofs.YtolkchkedieppaaGreat.uK q m
  rw [h1, Rat.num_intCast, ← Nat.gcd_mul_right, ih, h3, Nat.gcd_mul_right]
theorem FrcZ.gpos : 0 < gC (fun k => (c k).natAbs) m := gC_pos' (by obtain ⟨k, h1, h2⟩ := h.nz; exact ⟨k, h1, by omega⟩)
theorem FrcZ.upos : 1 ≤ Go.Proofs.YtolkchkedieppaaGreat.uK q m := Nat.pos_of_dvd_of_pos (h.uK m (Nat.le_refl _)).1 h.d1
theorem FrcZ.g0 : 0 < Go.Proofs.YtolkchkedieppaaGreat.gK q (Go.Proofs.YtolkchkedieppaaGreat.uK q m) m := by
 have h5 := h.gK m (Nat.le_refl _)
 rcases Nat.eq_zero_or_pos (Go.Proofs.YtolkchkedieppaaGreat.gK q (Go.Proofs.YtolkchkedieppaaGreat.uK q m) m) with e | e
 ·rw [e, Nat.zero_mul] at h5
  have := Nat.mul_pos h.gpos h.upos
  omega
 ·exact e
/-- what Currents answers -/
theorem FrcZ.ans {k : Nat} (hk : k < m) : q k * ((Go.Proofs.YtolkchkedieppaaGreat.uK q m : Nat) : Int) / ((Go.Proofs.YtolkchkedieppaaGreat.gK q (Go.Proofs.YtolkchkedieppaaGreat.uK q m) m : Nat) : Int) = (((c k / ((gC (fun k => (c k).natAbs) m : Nat) : Int) : Int)) : Rat) := by
 obtain ⟨V, h1, h2, h4⟩ := h.whole hk
 have h5 := h.gK m (Nat.le_refl _)
 have hg := h.gpos
 have hG0 := h.g0
 have hd1 := h.d1
 obtain ⟨U, hU⟩ : ∃ U, U = Go.Proofs.YtolkchkedieppaaGreat.uK q m := ⟨_, rfl⟩
 obtain ⟨G, hG⟩ : ∃ G, G = Go.Proofs.YtolkchkedieppaaGreat.gK q (Go.Proofs.YtolkchkedieppaaGreat.uK q m) m := ⟨_, rfl⟩
 rw [← hG] at h5 hG0 ⊢
 rw [h1]
 rw [← hU] at h2 h5
 obtain ⟨g, hgg⟩ : ∃ g, g = gC (fun k => (c k).natAbs) m := ⟨_, rfl⟩
 have hd : (g : Int) ∣ c k := by rw [hgg]; exact Int.ofNat_dvd_left.2 (gC_dvd (fun k => (c k).natAbs) m k hk)
 rw [← hgg] at h5 hg ⊢
 obtain ⟨r, hr⟩ := hd
 have h5' : (G : Int) * D = g * U := by exact_mod_cast h5
 have hv : V = G * r := by
  have h6 : V * D * g = G * r * D * g := by
   rw [h2, hr]
   calc (g : Int) * r * U * g = r * g * (g * U) := by grind
    _ = r * g * (G * D) := by rw [h5']
    _ = G * r * D * g := by grind
  exact Int.eq_of_mul_eq_mul_right (by omega) (Int.eq_of_mul_eq_mul_right (by omega) h6)
 rw [hr, Int.mul_ediv_cancel_left _ (by omega), hv, Rat.intCast_mul, Rat.div_def]
 have := Rat.inv_mul_cancel _ (natQ_ne hG0)
 have e1 : (((G : Nat) : Int) : Rat) = ((G : Nat) : Rat) := rfl
 rw [e1]
 grind
theorem FrcZ.zb {k : Nat} (hk : k < m) : (c k / ((gC (fun k => (c k).natAbs) m : Nat) : Int)).natAbs ≤ 16777216 := by
 have hd : ((gC (fun k => (c k).natAbs) m : Nat) : Int) ∣ c k := Int.ofNat_dvd_left.2 (gC_dvd (fun k => (c k).natAbs) m k hk)
 rw [Int.natAbs_ediv_of_dvd hd, Int.natAbs_natCast]
 exact Nat.le_trans (Nat.div_le_self _ _) (h.cb k hk)
theorem FrcZ.coprime : gC (fun k => (c k / ((gC (fun k => (c k).natAbs) m : Nat) : Int)).natAbs) m = 1 := by
 have hg := h.gpos
 obtain ⟨g, hgg⟩ : ∃ g, g = gC (fun k => (c k).natAbs) m := ⟨_, rfl⟩
 have e : ∀ k, k ≤ m → gC (fun k => (c k / (g : Int)).natAbs) k = gC (fun k => (c k).natAbs / g) k := fun k => by
  induction k with
  | zero => intro _; rfl
  | succ k ih =>
   intro hk
   have hd : (g : Int) ∣ c k := by rw [hgg]; exact Int.ofNat_dvd_left.2 (gC_dvd (fun k => (c k).natAbs) m k (by omega))
   show Nat.gcd (gC (fun k => (c k / (g : Int)).natAbs) k) (c k / (g : Int)).natAbs = Nat.gcd (gC (fun k => (c k).natAbs / g) k) ((c k).natAbs / g)
   rw [ih (by omega), Int.natAbs_ediv_of_dvd hd, Int.natAbs_natCast]
 rw [← hgg] at hg ⊢
 rw [e m (Nat.le_refl _)]
 have h1 := gC_div (c := fun k => (c k).natAbs) (m := m) hg (fun k hk => by rw [hgg]; exact gC_dvd (fun k => (c k).natAbs) m k hk) m (Nat.le_refl _)
 rw [← hgg] at h1
 exact Nat.eq_of_mul_eq_mul_right hg (by omega)
omit h in
theorem szQ_zz {x : Int} (h : x.natAbs < 4294967296) : szQ ((x : Int) : Rat) ≤ 1 := by
 refine szQ_le ?_ ?_
 ·rw [Rat.num_intCast]; exact nl_small h
 ·rw [Rat.den_intCast]; decide
theorem FrcZ.curOK : CurOK m q 2 := by
 have hd1 := h.d1
 have hd2 := h.d2
 have hu : ∀ k, k ≤ m → nl (Go.Proofs.YtolkchkedieppaaGreat.uK q k) ≤ 1 := fun k hk => nl_small (by
  have := Nat.le_of_dvd h.d1 (h.uK k hk).1
  omega)
 refine ⟨fun k hk => ?_, fun k hk => Nat.le_trans (hu k hk) (by decide), fun k hk => ?_, h.g0, fun k hk => ?_, fun k hk => ?_⟩
 ·refine Nat.le_trans (szQ_quot (p := c k) (q := (D : Int)) (k := 1) (by omega) ?_ ?_ ?_) (by decide)
  ·have := h.mul hk
   have e1 : (((D : Nat) : Int) : Rat) = ((D : Nat) : Rat) := rfl
   rw [e1, ← this]; grind
  ·exact nl_small (by have := h.cb k hk; omega)
  ·rw [Int.natAbs_natCast]; exact nl_small (by omega)
 ·obtain ⟨V, h1, _, h4⟩ := h.whole hk
  rw [h1]
  exact Nat.le_trans (szQ_zz (by omega)) (by decide)
 ·rw [h.ans hk]
  exact Nat.le_trans (szQ_zz (by have := h.zb hk; omega)) (by decide)
 ·rw [h.ans hk, Rat.num_intCast, Rat.den_intCast]
  exact ⟨maxD_of (e := 8) (by have := h.zb hk; omega) (by decide), maxD_1⟩
end
theorem potQT {n : Nat} {W : List (Int × Int)} {i : Nat} (hi : i < n) : potQ n (potT n W) i = potT n W i := by
 unfold potQ
 by_cases e : i < n - 1
 ·rw [if_pos e]
 ·rw [if_neg e, show i = n - 1 by omega, potT_last]
section
variable {n : Nat} {W : List (Int × Int)} (h2 : 2 ≤ n) (hn : n ≤ 25) (hl : W.length ≤ 24) (hok : WiresOK n W) (hcon : ConOK n W)
include h2 hok hcon
/-- some current is not 0 -/
theorem cur_nz : ∃ k, k < W.length ∧ curQ W (potQ n (potT n W)) k ≠ 0 := by
 refine Classical.byContradiction (fun hn => ?_)
 have h0 : ∀ k, k < W.length → potT n W (wA W k) - potT n W (wB W k) = 0 := fun k hk => Classical.byContradiction (fun z => hn ⟨k, hk, by
  unfold curQ
  rw [potQT (hok.a hk).2, potQT (hok.b hk).2]; exact z⟩)
 have f := potT_flow h2 hok hcon (fun j => if j = 0 then 1 else 0)
 rw [sumQ_eq_zero W.length (fun k hk => by rw [h0 k hk]; grind)] at f
 simp only [if_true, if_neg (show ¬ n - 1 = 0 by omega)] at f
 grind
include hl
theorem net_frc : ∃ (c : Nat → Int) (D : Nat), FrcZ W.length (curQ W (potQ n (potT n W))) c D ∧ nT n W.length (wA W) (wB W) = ((D : Nat) : Rat) := by
 obtain ⟨D, e1, hD⟩ := nT_nat n W.length (wA W) (wB W)
 have hN : ∀ i, ∃ c : Nat, nF n W.length (wA W) (wB W) (n - 1) i = (c : Rat) ∧ c ≤ 2 ^ W.length := fun i => nF_nat n W.length (wA W) (wB W) (n - 1) i
 have hp : 2 ^ W.length ≤ 16777216 := Nat.le_trans (Nat.pow_le_pow_right (by decide) hl) (by decide)
 have hpos := nT_pos (gra_of h2 hok) (conn_con hcon)
 have hD1 : 1 ≤ D := by
  rcases Nat.eq_zero_or_pos D with e | e
  ·rw [e1, e] at hpos; exact absurd hpos (by decide)
  ·exact e
 have hq : ∀ k, k < W.length → curQ W (potQ n (potT n W)) k = (nF n W.length (wA W) (wB W) (n - 1) (wA W k) - nF n W.length (wA W) (wB W) (n - 1) (wB W k)) / ((D : Nat) : Rat) := fun k hk => by
  unfold curQ
  rw [potQT (hok.a hk).2, potQT (hok.b hk).2]
  unfold potT
  rw [e1, Rat.div_def, Rat.div_def, Rat.div_def]
  grind
 have hc : ∀ k, ∃ c : Int, ((c : Int) : Rat) = nF n W.length (wA W) (wB W) (n - 1) (wA W k) - nF n W.length (wA W) (wB W) (n - 1) (wB W k) ∧ c.natAbs ≤ 16777216 := fun k => by
  obtain ⟨x, x1, x2⟩ := hN (wA W k)
  obtain ⟨y, y1, y2⟩ := hN (wB W k)
  refine ⟨(x : Int) - (y : Int), ?_, by omega⟩
  rw [x1, y1, Rat.intCast_sub]
  rfl
 obtain ⟨c, hc⟩ := Classical.axiomOfChoice hc
 refine ⟨c, D, ⟨hD1, by omega, fun k _ => (hc k).2, ?_, fun k hk => by rw [hq k hk, (hc k).1]⟩, e1⟩
 obtain ⟨k, hk, hz⟩ := cur_nz h2 hok hcon
 refine ⟨k, hk, fun e => hz ?_⟩
 rw [hq k hk, ← (hc k).1, e, Rat.div_def]
 show (0 : Rat) * _ = 0
 grind
include hn
theorem net_ht (hne : ∀ k, k < W.length → wA W k ≠ wB W k) : HtOK n W (potT n W) 33554432 2 := by
 refine ht_ok h2 hok hne hn hl hcon _ 2 (fun i hi => potT_eqs h2 hok hcon hi) (fun i hi => ?_) (by decide) (by decide)
 obtain ⟨D, e1, hD⟩ := nT_nat n W.length (wA W) (wB W)
 obtain ⟨c, x1, x2⟩ := nF_nat n W.length (wA W) (wB W) (n - 1) i
 have hp : 2 ^ W.length ≤ 16777216 := Nat.le_trans (Nat.pow_le_pow_right (by decide) hl) (by decide)
 have hpos := nT_pos (gra_of h2 hok) (conn_con hcon)
 have hD1 : 1 ≤ D := by
  rcases Nat.eq_zero_or_pos D with e | e
  ·rw [e1, e] at hpos; exact absurd hpos (by decide)
  ·exact e
 refine Nat.le_trans (szQ_quot (p := (c : Int)) (q := (D : Int)) (k := 1) (by omega) ?_ (by rw [Int.natAbs_natCast]; exact nl_small (by omega)) (by rw [Int.natAbs_natCast]; exact nl_small (by omega))) (by decide)
 unfold potT
 rw [e1, x1, Rat.div_def]
 have := Rat.inv_mul_cancel _ (natQ_ne hD1)
 have e2 : (((D : Nat) : Int) : Rat) = ((D : Nat) : Rat) := rfl
 have e3 : (((c : Nat) : Int) : Rat) = ((c : Nat) : Rat) := rfl
 rw [e2, e3]
 grind
end
end Go.Proofs.YtolkchkedieppaaGreat

/- What Flows of the reference wants of currents; plain law. -/
namespace Go.Proofs.YtolkchkedieppaaGreat
open Go.RowKit
/-- what the first k wires bring away from node i -/
def netK (W : List (Int × Int)) (z : Nat → Rat) (i : Nat) (k : Nat) : Rat := sumQ (fun j => (if wA W j = i then z j else 0) - (if wB W j = i then z j else 0)) k
/-- how the digits grow -/
def kB : Nat → Nat
 | 0 => 1000
 | k + 1 => 2 * kB k + 1
theorem kB_mono : ∀ {a b : Nat}, a ≤ b → kB a ≤ kB b
 | a, 0, h => by rw [show a = 0 by omega]; exact Nat.le_refl _
 | a, b + 1, h => by
  by_cases e : a = b + 1
  ·rw [e]; exact Nat.le_refl _
  ·have := kB_mono (show a ≤ b by omega)
   simp only [kB]; omega
theorem kB_le {a : Nat} (h : a ≤ 24) : kB a ≤ 20000000000 := Nat.le_trans (kB_mono h) (by decide)
theorem kB_ge (a : Nat) : 1000 ≤ kB a := kB_mono (Nat.zero_le a)
/-- currents z that fall along potentials x -/
structure FloP (N : Nat) (W : List (Int × Int)) (z x : Nat → Rat) (T : Rat) (c : Nat → Int) : Prop where
 zc : ∀ k, k < W.length → z k = ((c k : Int) : Rat)
 fall : ∀ k, k < W.length → z k = x (wA W k) - x (wB W k)
 x0 : x 0 = 0
 xb : ∀ i, i < N → nd (x i).num.natAbs ≤ 1000 ∧ nd (x i).den ≤ 1000
 net : ∀ i, i < N - 1 → netK W z i W.length = if i = 0 then T else 0
 pos : 0 < T
 one : gC (fun k => (c k).natAbs) W.length = 1
theorem gC_int (c : Nat → Int) (k : Nat) : Int.gcd ((gC (fun k => (c k).natAbs) k : Nat) : Int) (((c k).natAbs : Nat) : Int) = gC (fun k => (c k).natAbs) (k + 1) := by
 show Int.gcd _ _ = Nat.gcd (gC (fun k => (c k).natAbs) k) (c k).natAbs
 rw [Int.gcd_natCast_natCast]
/-- currents in proportion to a network's -/
theorem flo_of {N : Nat} {W : List (Int × Int)} {q : Nat → Rat} {c : Nat → Int} {D : Nat} (h2 : 2 ≤ N) (hN : N ≤ 25) (hl : W.length ≤ 24) (hok : WiresOK N W) (hcon : ConOK N W) (hf : FrcZ W.length q c D)
  (hq : ∀ k, k < W.length → q k = potT N W (wA W k) - potT N W (wB W k)) :
  ∃ T : Rat, FloP N W (fun k => (((c k / ((gC (fun k => (c k).natAbs) W.length : Nat) : Int) : Int)) : Rat)) (fun i => T * (potT N W i - potT N W 0)) T (fun k => c k / ((gC (fun k => (c k).natAbs) W.length : Nat) : Int)) := by
 have hg := hf.gpos
 have hd := hf.d1
 obtain ⟨g, hgg⟩ : ∃ g, g = gC (fun k => (c k).natAbs) W.length := ⟨_, rfl⟩
 have hdv : ∀ k, k < W.length → (g : Int) ∣ c k := fun k hk => by rw [hgg]; exact Int.ofNat_dvd_left.2 (gC_dvd (fun k => (c k).natAbs) W.length k hk)
 have hone := hf.coprime
 have hzb := fun k hk => hf.zb (k := k) hk
 rw [← hgg] at hg hone hzb ⊢
 have hgq := natQ_ne hg
 have hdq := natQ_ne hd
 obtain ⟨T, hT⟩ : ∃ T : Rat, T = ((D : Nat) : Rat) / ((g : Nat) : Rat) := ⟨_, rfl⟩
 have hTg : T * ((g : Nat) : Rat) = ((D : Nat) : Rat) := by
  rw [hT, Rat.div_def]
  have := Rat.inv_mul_cancel _ hgq
  grind
 have hgp : (0 : Rat) < ((g : Nat) : Rat) := by
  have : ((0 : Nat) : Rat) < ((g : Nat) : Rat) := by exact_mod_cast hg
  exact this
 have hdp : (0 : Rat) < ((D : Nat) : Rat) := by
  have : ((0 : Nat) : Rat) < ((D : Nat) : Rat) := by exact_mod_cast hd
  exact this
 have hTp : 0 < T := by
  refine Classical.byContradiction (fun hn => ?_)
  have h1 : T ≤ 0 := Rat.not_lt.1 hn
  have h3 := Rat.mul_nonneg (a := -T) (b := ((g : Nat) : Rat)) (by grind) (Rat.le_of_lt hgp)
  have h2 : T * ((g : Nat) : Rat) ≤ 0 := by grind
  rw [hTg] at h2
  exact absurd hdp (Rat.not_lt.2 h2)
 have hz : ∀ k, k < W.length → (((c k / (g : Int) : Int)) : Rat) = T * q k := fun k hk => by
  obtain ⟨r, hr⟩ := hdv k hk
  have e1 := hf.mul hk
  rw [hr, Int.mul_ediv_cancel_left _ (by omega)]
  rw [hr, Rat.intCast_mul] at e1
  have e2 : (((g : Nat) : Int) : Rat) = ((g : Nat) : Rat) := rfl
  rw [e2] at e1
  have e3 : ((g : Nat) : Rat) * ((r : Int) : Rat) = ((g : Nat) : Rat) * (T * q k) := by
   rw [← e1, ← hTg]; grind
  have e4 := Rat.inv_mul_cancel _ hgq
  calc ((r : Int) : Rat) = (((g : Nat) : Rat))⁻¹ * (((g : Nat) : Rat) * ((r : Int) : Rat)) := by grind
   _ = (((g : Nat) : Rat))⁻¹ * (((g : Nat) : Rat) * (T * q k)) := by rw [e3]
   _ = T * q k := by grind
 have hfall : ∀ k, k < W.length → (((c k / (g : Int) : Int)) : Rat) = T * (potT N W (wA W k) - potT N W 0) - T * (potT N W (wB W k) - potT N W 0) := fun k hk => by
  rw [hz k hk, hq k hk]; grind
 -- the potentials are whole numbers, and bounded by what lies on the way
 have hint : ∀ i, i < N → ∃ m : Int, T * (potT N W i - potT N W 0) = ((m : Int) : Rat) := fun i hi => by
  have key := hcon i hi
  clear hi
  induction key with
  | zero => exact ⟨0, by grind⟩
  | fw k hk _ ih =>
   obtain ⟨m, e⟩ := ih
   refine ⟨m - c k / (g : Int), ?_⟩
   have := hfall k hk
   rw [Rat.intCast_sub, this, ← e]; grind
  | bw k hk _ ih =>
   obtain ⟨m, e⟩ := ih
   refine ⟨m + c k / (g : Int), ?_⟩
   have := hfall k hk
   rw [Rat.intCast_add, this, ← e]; grind
 refine ⟨T, ⟨fun k _ => rfl, hfall, by grind, fun i hi => ?_, fun i hi => ?_, hTp, hone⟩⟩
 ·obtain ⟨m, e⟩ := hint i hi
  rw [e, Rat.num_intCast, Rat.den_intCast]
  refine ⟨?_, Nat.le_trans ((nd_le 1 1).2 (by decide)) (by decide)⟩
  -- |T (p i - p 0)| <= D * 2 ^ 24 / 1
  obtain ⟨Dn, e1, hD⟩ := nT_nat N W.length (wA W) (wB W)
  obtain ⟨ni, e2, hni⟩ := nF_nat N W.length (wA W) (wB W) (N - 1) i
  obtain ⟨n0, e3, hn0⟩ := nF_nat N W.length (wA W) (wB W) (N - 1) 0
  have hp : 2 ^ W.length ≤ 16777216 := Nat.le_trans (Nat.pow_le_pow_right (by decide) hl) (by decide)
  have hpos := nT_pos (gra_of h2 hok) (conn_con hcon)
  have hDn : 1 ≤ Dn := by
   rcases Nat.eq_zero_or_pos Dn with q | q
   ·rw [e1, q] at hpos; exact absurd hpos (by decide)
   ·exact q
  have hDq := natQ_ne hDn
  have e4 : ((m : Int) : Rat) * (((g * Dn : Nat) : Nat) : Rat) = (((D : Int) * ((ni : Int) - (n0 : Int)) : Int) : Rat) := by
   rw [← e]
   unfold potT
   rw [e1, e2, e3, Rat.natCast_mul, Rat.intCast_mul, Rat.intCast_sub]
   have q1 : (((D : Nat) : Int) : Rat) = ((D : Nat) : Rat) := rfl
   have q2 : (((ni : Nat) : Int) : Rat) = ((ni : Nat) : Rat) := rfl
   have q3 : (((n0 : Nat) : Int) : Rat) = ((n0 : Nat) : Rat) := rfl
   rw [q1, q2, q3, Rat.div_def, Rat.div_def, ← hTg]
   have := Rat.inv_mul_cancel _ hDq
   grind
  have e5 : m * ((g * Dn : Nat) : Int) = (D : Int) * ((ni : Int) - (n0 : Int)) := by
   apply intQ_inj
   rw [Rat.intCast_mul]
   exact e4
  have e6 := congrArg Int.natAbs e5
  rw [Int.natAbs_mul, Int.natAbs_mul, Int.natAbs_natCast, Int.natAbs_natCast] at e6
  have e7 : m.natAbs ≤ m.natAbs * (g * Dn) := Nat.le_mul_of_pos_right _ (Nat.mul_pos hg hDn)
  have e8 : D * ((ni : Int) - (n0 : Int)).natAbs ≤ 16777216 * 16777216 := Nat.mul_le_mul hf.d2 (by omega)
  refine Nat.le_trans ((nd_le _ 4).2 ?_) (by decide)
  show m.natAbs < 10000 ^ 4
  rw [e6] at e7
  exact Nat.lt_of_le_of_lt (Nat.le_trans e7 e8) (by decide)
 ·have f := potT_flow h2 hok hcon (fun j => if j = i then 1 else 0)
  unfold netK
  rw [sumQ_congr W.length (g := fun k => T * (((if wA W k = i then (1 : Rat) else 0) - (if wB W k = i then 1 else 0)) * (potT N W (wA W k) - potT N W (wB W k)))) (fun k hk => by
   show ((if wA W k = i then (((c k / (g : Int) : Int)) : Rat) else 0) - (if wB W k = i then (((c k / (g : Int) : Int)) : Rat) else 0)) = _
   rw [hz k hk, hq k hk]
   by_cases e1 : wA W k = i <;> by_cases e2 : wB W k = i
   ·rw [if_pos e1, if_pos e2, if_pos e1, if_pos e2]; grind
   ·rw [if_pos e1, if_neg e2, if_pos e1, if_neg e2]; grind
   ·rw [if_neg e1, if_pos e2, if_neg e1, if_pos e2]; grind
   ·rw [if_neg e1, if_neg e2, if_neg e1, if_neg e2]; grind), sumQ_mul, f, if_neg (show ¬ N - 1 = i by omega)]
  by_cases e : i = 0
  ·rw [if_pos e, if_pos e.symm]; grind
  ·rw [if_neg e, if_neg (fun q => e q.symm)]; grind
end Go.Proofs.YtolkchkedieppaaGreat

/- sets as numbers, their members; the order of lists. -/
namespace Go.Proofs.YtolkchkedieppaaGreat
open Go.RowKit
/-- the bits of s below i -/
def mem (s i : Nat) : List Nat := (List.range i).filter (fun t => s.testBit t)
end Go.Proofs.YtolkchkedieppaaGreat
