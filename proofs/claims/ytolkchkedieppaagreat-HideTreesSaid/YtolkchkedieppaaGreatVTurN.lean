/- The currents of a cut's network: the sizes of its squares, divided by their greatest common divisor. -/
import Derived.Test.YtolkchkedieppaaGreatVPlainKi
import Derived.Test.YtolkchkedieppaaGreatVLivH
import Derived.Test.YtolkchkedieppaaGreatVCurB
import Derived.Test.YtolkchkedieppaaGreatVRdA
import Derived.Test.YtolkchkedieppaaGreatVLayB
import Derived.Test.YtolkchkedieppaaGreatVHSame
import Derived.Test.YtolkchkedieppaaGreatVBefA
import Derived.Test.YtolkchkedieppaaGreatVCurA
import Derived.Maps.AppendAt
import Derived.Deep.RegionHeld3
import Derived.Test.YtolkchkedieppaaGreatVPlainTz
import Derived.Test.YtolkchkedieppaaGreatVRdC
import Derived.Test.YtolkchkedieppaaGreatVOrd
set_option linter.unusedVariables false
set_option linter.unusedSimpArgs false
namespace Go.Proofs.YtolkchkedieppaaGreat
open Go.RowKit
/-- the greatest common divisor of the first k -/
def gC (c : Nat → Nat) : Nat → Nat
 | 0 => 0
 | k + 1 => Nat.gcd (gC c k) (c k)
theorem gC_dvd (c : Nat → Nat) : ∀ m k, k < m → gC c m ∣ c k
 | 0, k, h => by omega
 | m + 1, k, h => by
  show Nat.gcd (gC c m) (c m) ∣ c k
  by_cases e : k = m
  ·rw [e]; exact Nat.gcd_dvd_right _ _
  ·exact Nat.dvd_trans (Nat.gcd_dvd_left _ _) (gC_dvd c m k (by omega))
theorem gC_pos {c : Nat → Nat} {m : Nat} (hm : 0 < m) (h : ∀ k, k < m → 1 ≤ c k) : 0 < gC c m := by
 have := gC_dvd c m 0 hm
 have := h 0 hm
 rcases Nat.eq_zero_or_pos (gC c m) with e | e
 ·rename_i h1
  rw [e] at h1
  have := Nat.eq_zero_of_zero_dvd h1
  omega
 ·exact e
/-- quotients of bounded whole numbers by one -/
structure FrcP (m : Nat) (q : Nat → Rat) (c : Nat → Nat) (W : Nat) : Prop where
 w1 : 1 ≤ W
 w2 : W ≤ 1000
 c1 : ∀ k, k < m → 1 ≤ c k ∧ c k ≤ 1000
 e : ∀ k, k < m → q k = ((c k : Nat) : Rat) / ((W : Nat) : Rat)
theorem natQ_inj {a b : Nat} (h : ((a : Nat) : Rat) = ((b : Nat) : Rat)) : a = b := by exact_mod_cast h
theorem natQ_ne {a : Nat} (h : 1 ≤ a) : ((a : Nat) : Rat) ≠ 0 := fun e => by
 have : a = 0 := natQ_inj (b := 0) e
 omega
theorem intQ_inj {a b : Int} (h : ((a : Int) : Rat) = ((b : Int) : Rat)) : a = b := by exact_mod_cast h
section
variable {m : Nat} {q : Nat → Rat} {c : Nat → Nat} {W : Nat} (h : FrcP m q c W)
include h
theorem FrcP.mul {k : Nat} (hk : k < m) : q k * ((W : Nat) : Rat) = ((c k : Nat) : Rat) := by
 rw [h.e k hk, Rat.div_def]
 have := Rat.inv_mul_cancel _ (natQ_ne h.w1)
 grind
theorem FrcP.num {k : Nat} (hk : k < m) : (q k).num * (W : Int) = (c k : Int) * ((q k).den : Int) := by
 have h1 := h.mul hk
 have h2 := mul_den_num (q k)
 apply intQ_inj
 rw [Rat.intCast_mul, Rat.intCast_mul, ← h2]
 have e1 : (((W : Nat) : Int) : Rat) = ((W : Nat) : Rat) := rfl
 have e2 : (((c k : Nat) : Int) : Rat) = ((c k : Nat) : Rat) := rfl
 have e3 : ((((q k).den : Nat) : Int) : Rat) = (((q k).den : Nat) : Rat) := rfl
 rw [e1, e2, e3, ← h1]
 grind
theorem FrcP.numN {k : Nat} (hk : k < m) : (q k).num.natAbs * W = c k * (q k).den := by
 have := congrArg Int.natAbs (h.num hk)
 rw [Int.natAbs_mul, Int.natAbs_mul] at this
 simpa using this
theorem FrcP.den {k : Nat} (hk : k < m) : (q k).den ∣ W := by
 have h1 : (q k).den ∣ (q k).num.natAbs * W := ⟨c k, by rw [h.numN hk, Nat.mul_comm]⟩
 exact (Nat.Coprime.symm (q k).reduced).dvd_of_dvd_mul_left h1
theorem FrcP.uK : ∀ k, k ≤ m → Go.Proofs.YtolkchkedieppaaGreat.uK q k ∣ W ∧ ∀ j, j < k → (q j).den ∣ Go.Proofs.YtolkchkedieppaaGreat.uK q k
 | 0, _ => ⟨Nat.one_dvd _, fun j hj => by omega⟩
 | k + 1, hk => by
  obtain ⟨a, b⟩ := FrcP.uK k (by omega)
  have e : Go.Proofs.YtolkchkedieppaaGreat.uK q (k + 1) = Nat.lcm (Go.Proofs.YtolkchkedieppaaGreat.uK q k) (q k).den := by
   show Go.Proofs.YtolkchkedieppaaGreat.uK q k * ((q k).den / Nat.gcd (Go.Proofs.YtolkchkedieppaaGreat.uK q k) (q k).den) = _
   unfold Nat.lcm
   rw [Nat.mul_div_assoc _ (Nat.gcd_dvd_right _ _)]
  rw [e]
  refine ⟨Nat.lcm_dvd a (h.den (by omega)), fun j hj => ?_⟩
  by_cases e2 : j = k
  ·rw [e2]; exact Nat.dvd_lcm_right _ _
  ·exact Nat.dvd_trans (b j (by omega)) (Nat.dvd_lcm_left _ _)
/-- a current, made whole -/
theorem FrcP.whole {k : Nat} (hk : k < m) : ∃ V : Nat, q k * (((Go.Proofs.YtolkchkedieppaaGreat.uK q m : Nat) : Int) : Rat) = (((V : Nat) : Int) : Rat) ∧ V * W = c k * Go.Proofs.YtolkchkedieppaaGreat.uK q m ∧ 1 ≤ V ∧ V ≤ 1000000 := by
 obtain ⟨u1, u2⟩ := h.uK m (Nat.le_refl _)
 obtain ⟨d, hd⟩ := u2 k hk
 have hpos : 1 ≤ Go.Proofs.YtolkchkedieppaaGreat.uK q m := Nat.pos_of_dvd_of_pos u1 h.w1
 have hle : Go.Proofs.YtolkchkedieppaaGreat.uK q m ≤ W := Nat.le_of_dvd h.w1 u1
 have hw2 := h.w2
 have hc := h.c1 k hk
 have hn := h.numN hk
 have hnum : 0 ≤ (q k).num := by
  have := h.num hk
  refine Classical.byContradiction (fun hneg => ?_)
  have h3 : (q k).num * (W : Int) < 0 := Int.mul_neg_of_neg_of_pos (by omega) (by have := h.w1; omega)
  have h4 : 0 ≤ (c k : Int) * ((q k).den : Int) := Int.mul_nonneg (by omega) (by omega)
  omega
 have hV : ((q k).num.natAbs * d) * W = c k * Go.Proofs.YtolkchkedieppaaGreat.uK q m := by
  rw [hd, Nat.mul_right_comm, hn, Nat.mul_assoc]
 refine ⟨(q k).num.natAbs * d, ?_, hV, ?_, ?_⟩
 ·rw [hd]
  have h2 := mul_den_num (q k)
  have e1 : ((((q k).den * d : Nat) : Int) : Rat) = (((q k).den : Nat) : Rat) * ((d : Nat) : Rat) := by
   rw [Int.natCast_mul, Rat.intCast_mul]; rfl
  have e2 : ((((q k).num.natAbs * d : Nat) : Int) : Rat) = ((q k).num : Rat) * ((d : Nat) : Rat) := by
   rw [Int.natCast_mul, Int.natAbs_of_nonneg hnum, Rat.intCast_mul]; rfl
  rw [e1, e2, ← h2]
  grind
 ·rcases Nat.eq_zero_or_pos ((q k).num.natAbs * d) with e | e
  ·rw [e, Nat.zero_mul] at hV
   have := Nat.mul_pos (show 0 < c k by omega) hpos
   omega
  ·exact e
 ·have h5 : (q k).num.natAbs * d ≤ ((q k).num.natAbs * d) * W := Nat.le_mul_of_pos_right _ h.w1
  have h6 : c k * Go.Proofs.YtolkchkedieppaaGreat.uK q m ≤ 1000 * 1000 := Nat.mul_le_mul hc.2 (by omega)
  omega
theorem FrcP.gK : ∀ k, k ≤ m → Go.Proofs.YtolkchkedieppaaGreat.gK q (Go.Proofs.YtolkchkedieppaaGreat.uK q m) k * W = gC c k * Go.Proofs.YtolkchkedieppaaGreat.uK q m
 | 0, _ => by simp [Go.Proofs.YtolkchkedieppaaGreat.gK, gC]
 | k + 1, hk => by
  have ih := FrcP.gK k (by omega)
  obtain ⟨V, h1, h2, _, _⟩ := h.whole (show k < m by omega)
  show Nat.gcd (Go.Proofs.YtolkchkedieppaaGreat.gK q (Go.Proofs.YtolkchkedieppaaGreat.uK q m) k) (q k * (((Go.Proofs.YtolkchkedieppaaGreat.uK q m : Nat) : Int) : Rat)).num.natAbs * W = Nat.gcd (gC c k) (c k) * Go.Proofs.YtolkchkedieppaaGreat.uK q m
  rw [h1, Rat.num_intCast, Int.natAbs_natCast, ← Nat.gcd_mul_right, ih, h2, Nat.gcd_mul_right]
/-- what Currents answers -/
theorem FrcP.ans (hm : 0 < m) {k : Nat} (hk : k < m) : q k * ((Go.Proofs.YtolkchkedieppaaGreat.uK q m : Nat) : Int) / ((Go.Proofs.YtolkchkedieppaaGreat.gK q (Go.Proofs.YtolkchkedieppaaGreat.uK q m) m : Nat) : Int) = (((c k / gC c m : Nat) : Int) : Rat) := by
 obtain ⟨V, h1, h2, h3, h4⟩ := h.whole hk
 have h5 := h.gK m (Nat.le_refl _)
 have hg := gC_pos (c := c) hm (fun k hk => (h.c1 k hk).1)
 obtain ⟨u1, _⟩ := h.uK m (Nat.le_refl _)
 have hpos : 1 ≤ Go.Proofs.YtolkchkedieppaaGreat.uK q m := Nat.pos_of_dvd_of_pos u1 h.w1
 obtain ⟨U, hU⟩ : ∃ U, U = Go.Proofs.YtolkchkedieppaaGreat.uK q m := ⟨_, rfl⟩
 obtain ⟨G, hG⟩ : ∃ G, G = Go.Proofs.YtolkchkedieppaaGreat.gK q (Go.Proofs.YtolkchkedieppaaGreat.uK q m) m := ⟨_, rfl⟩
 rw [← hG] at h5 ⊢
 rw [h1]
 rw [← hU] at h2 h5 hpos
 obtain ⟨g, hgg⟩ : ∃ g, g = gC c m := ⟨_, rfl⟩
 have hd : g ∣ c k := by rw [hgg]; exact gC_dvd c m k hk
 rw [← hgg] at h5 hg ⊢
 obtain ⟨r, hr⟩ := hd
 have hG0 : 1 ≤ G := by
  rcases Nat.eq_zero_or_pos G with e | e
  ·rw [e, Nat.zero_mul] at h5
   have := Nat.mul_pos hg hpos
   omega
  ·exact e
 have hv : V = G * r := by
  have h6 : V * W * g = G * r * W * g := by
   rw [h2, hr]
   calc g * r * U * g = r * g * (g * U) := by rw [Nat.mul_comm g r, Nat.mul_assoc (r * g), Nat.mul_comm U g]
    _ = r * g * (G * W) := by rw [h5]
    _ = G * r * W * g := by rw [Nat.mul_comm r g, Nat.mul_comm G r, Nat.mul_assoc g r, ← Nat.mul_assoc r G W, Nat.mul_comm g]
  exact Nat.mul_right_cancel h.w1 (Nat.mul_right_cancel hg h6)
 rw [hr, Nat.mul_div_cancel_left _ hg, hv, Int.natCast_mul, Rat.intCast_mul, Rat.div_def]
 have := Rat.inv_mul_cancel _ (natQ_ne hG0)
 have e1 : (((G : Nat) : Int) : Rat) = ((G : Nat) : Rat) := rfl
 rw [e1]
 grind
omit h in
theorem nl_small {x : Nat} (h : x < 4294967296) : nl x ≤ 1 := (nl_le x 1).2 (by simpa using h)
omit h in
theorem szQ_nat {x : Nat} (h : x < 4294967296) : szQ (((x : Nat) : Int) : Rat) ≤ 1 := by
 refine szQ_le ?_ ?_
 ·rw [Rat.num_intCast, Int.natAbs_natCast]; exact nl_small h
 ·rw [Rat.den_intCast]; decide
theorem FrcP.curOK (hm : 0 < m) : CurOK m q 2 := by
 have hw1 := h.w1
 have hw2 := h.w2
 have hu : ∀ k, k ≤ m → nl (Go.Proofs.YtolkchkedieppaaGreat.uK q k) ≤ 1 := fun k hk => nl_small (by
  have := Nat.le_of_dvd h.w1 (h.uK k hk).1
  omega)
 have hdiv : ∀ k, k < m → c k / gC c m ≤ 1000 := fun k hk => Nat.le_trans (Nat.div_le_self _ _) (h.c1 k hk).2
 have hg : 0 < Go.Proofs.YtolkchkedieppaaGreat.gK q (Go.Proofs.YtolkchkedieppaaGreat.uK q m) m := by
  have h5 := h.gK m (Nat.le_refl _)
  have hg := gC_pos (c := c) hm (fun k hk => (h.c1 k hk).1)
  have hpos : 1 ≤ Go.Proofs.YtolkchkedieppaaGreat.uK q m := Nat.pos_of_dvd_of_pos (h.uK m (Nat.le_refl _)).1 h.w1
  rcases Nat.eq_zero_or_pos (Go.Proofs.YtolkchkedieppaaGreat.gK q (Go.Proofs.YtolkchkedieppaaGreat.uK q m) m) with e | e
  ·rw [e, Nat.zero_mul] at h5
   have := Nat.mul_pos hg hpos
   omega
  ·exact e
 refine ⟨fun k hk => ?_, fun k hk => Nat.le_trans (hu k hk) (by decide), fun k hk => ?_, hg, fun k hk => ?_, fun k hk => ?_⟩
 ·refine Nat.le_trans (szQ_quot (p := (c k : Int)) (q := (W : Int)) (k := 1) (by omega) ?_ ?_ ?_) (by decide)
  ·have := h.mul hk
   have e1 : (((W : Nat) : Int) : Rat) = ((W : Nat) : Rat) := rfl
   have e2 : (((c k : Nat) : Int) : Rat) = ((c k : Nat) : Rat) := rfl
   rw [e1, e2, ← this]; grind
  ·rw [Int.natAbs_natCast]; exact nl_small (by have := h.c1 k hk; omega)
  ·rw [Int.natAbs_natCast]; exact nl_small (by omega)
 ·obtain ⟨V, h1, _, _, h4⟩ := h.whole hk
  rw [h1]
  exact Nat.le_trans (szQ_nat (by omega)) (by decide)
 ·rw [h.ans hm hk]
  exact Nat.le_trans (szQ_nat (by have := hdiv k hk; omega)) (by decide)
 ·rw [h.ans hm hk, Rat.num_intCast, Int.natAbs_natCast, Rat.den_intCast]
  exact ⟨maxD_of (e := 4) (by have := hdiv k hk; omega) (by decide), maxD_1⟩
end
section
variable {S J : List Tr} {W H : Nat} (h : NetP S J W H)
include h
theorem NetP.pot {i : Nat} (hi : i < J.length) : potQ J.length (potH J W H) i = potH J W H i := by
 unfold potQ
 by_cases e : i < J.length - 1
 ·rw [if_pos e]
 ·rw [if_neg e, show i = J.length - 1 by omega, h.pot_last]
theorem NetP.frc : FrcP S.length (curQ (netW S J) (potQ J.length (potH J W H))) (fun k => (S.getD k default).c.toNat) W := by
 refine ⟨h.m.w1, h.m.wb, fun k hk => ?_, fun k hk => ?_⟩
 ·have := h.rg hk
  have := h.m.wb
  show 1 ≤ (S.getD k default).c.toNat ∧ (S.getD k default).c.toNat ≤ 1000
  omega
 ·unfold curQ
  rw [(h.wA hk).2, (h.wB hk).2, h.pot (h.top hk).1, h.pot (h.bot hk).1, h.cur hk]
  have hr := h.rg hk
  have e : (((S.getD k default).c : Int) : Rat) = ((((S.getD k default).c.toNat : Nat) : Int) : Rat) := by rw [Int.toNat_of_nonneg (by omega)]
  rw [e]
  rfl
theorem NetP.ht : HtOK J.length (netW S J) (potH J W H) 33554432 2 := by
 have h2 := h.last.1
 have hmany := h.many
 have hf := h.few
 refine ht_ok (by omega) h.ok (fun k hk => h.ne hk) (by omega) (by rw [netF_len]; exact hf) h.con _ 2 (fun i hi => h.eqs hi) (fun i hi => ?_) (by decide) (by decide)
 have hl := h.ln (show i < J.length by omega)
 have hw1 := h.m.w1
 have hwb := h.m.wb
 have hhb := h.m.hb
 refine Nat.le_trans (szQ_quot (p := (H : Int) - (J.getD i default).a) (q := (W : Int)) (k := 1) (by omega) ?_ (nl_small (by omega)) (by rw [Int.natAbs_natCast]; exact nl_small (by omega))) (by decide)
 unfold potH
 have := Rat.inv_mul_cancel _ (natQ_ne hw1)
 have e1 : (((W : Nat) : Int) : Rat) = ((W : Nat) : Rat) := rfl
 rw [e1, Rat.div_def]
 grind
end
end Go.Proofs.YtolkchkedieppaaGreat

/- Currents and Resistance of a cut's network. -/
namespace Go.Proofs.YtolkchkedieppaaGreat
open Go.RowKit
attribute [local go_sem ↓] Go.wp_at_zero Go.wp_at_succ
/-- a cut's sizes, divided by their greatest common divisor -/
def tutQ (S : List Tr) (k : Nat) : Rat := ((((S.getD k default).c.toNat / gC (fun k => (S.getD k default).c.toNat) S.length : Nat) : Int) : Rat)
theorem currents_mk (S J : List Tr) (W H g c : Nat) (w : World) (h : NetP S J W H) (hW : PrR w g 0 (netW S J)) (hg : g < w.heap.size) :
  Calls Tryz.prog 25 #[.int .i64 (J.length : Nat), .slice (some ⟨g, 0, none⟩) S.length c] w fun e w' => ∃ va vk ss, e = .returned (.tuple #[.slice va S.length vk, .int .i64 0]) ∧
   TxtsOf S.length (tutQ S) ss ∧ w'.ownsRow w.heap.size 52 1 (.slice va S.length vk) S.length (strL ss S.length) ∧ Below w.heap.size w w' := by
 have h2 := h.last.1
 have hmany := h.many
 have hf := h.few
 have hp := h.m.pos
 have hl : (netW S J).length = S.length := netF_len S J S.length
 have hfr := h.frc
 have hc := currents_any g c J.length (netW S J) (potH J W H) 33554432 2 2 w hW hg (by omega) (by omega) (by omega) (by omega) h.ok (fun k hk => h.ne hk) h.con h.ht (by decide) (by decide) (by decide) (by rw [hl]; exact hfr.curOK hp)
 rw [hl] at hc
 refine hc.mono ?_
 rintro e w' ⟨va, vk, ss, rfl, ht, ho, hb⟩
 refine ⟨va, vk, ss, rfl, ⟨fun j hj => ?_⟩, ho, hb⟩
 have := ht.txt j hj
 rw [hfr.ans hp hj] at this
 exact this
set_option maxHeartbeats 4000000 in
set_option maxRecDepth 100000 in
theorem resistance_mk (S J : List Tr) (W H g c : Nat) (w : World) (h : NetP S J W H) (hW : PrR w g 0 (netW S J)) (hg : g < w.heap.size) :
  Calls Tryz.prog 26 #[.int .i64 (J.length : Nat), .slice (some ⟨g, 0, none⟩) S.length c] w fun e w' => ∃ s, e = .returned (.tuple #[.string s, .int .i64 0]) ∧
   FracTxt s (((H : Nat) : Rat) / ((W : Nat) : Rat)).num (((H : Nat) : Rat) / ((W : Nat) : Rat)).den ∧ Below w.heap.size w w' := by
 have h2 := h.last.1
 have hmany := h.many
 have hf := h.few
 have hl : (netW S J).length = S.length := netF_len S J S.length
 have hht := heights_any g c J.length (netW S J) (potH J W H) 33554432 2 w hW hg (by omega) (by omega) (by omega) h.ok (fun k hk => h.ne hk) h.con h.ht
 rw [hl] at hht
 have hx0 : potH J W H 0 = ((H : Nat) : Rat) / ((W : Nat) : Rat) := by
  unfold potH
  rw [h.first.2, Int.sub_zero]
  rfl
 have hlow := lowest_le (w := ((H : Nat) : Rat) / ((W : Nat) : Rat)) (p := (H : Int)) (q := (W : Int)) (by have := h.m.w1; omega) (by
  have := Rat.inv_mul_cancel _ (natQ_ne h.m.w1)
  have e1 : (((W : Nat) : Int) : Rat) = ((W : Nat) : Rat) := rfl
  have e2 : (((H : Nat) : Int) : Rat) = ((H : Nat) : Rat) := rfl
  rw [e1, e2, Rat.div_def]; grind)
 obtain ⟨x, hx⟩ : ∃ x : Rat, x = ((H : Nat) : Rat) / ((W : Nat) : Rat) := ⟨_, rfl⟩
 rw [← hx] at hx0 hlow ⊢
 have HN : Hid (MaxD x.num.natAbs ∧ MaxD x.den) := Lib.hid ⟨maxD_of (e := 4) (by have := h.m.hb; omega) (by decide), maxD_of (e := 4) (by have := h.m.wb; omega) (by decide)⟩
 have HX0 := Lib.hid hx0
 obtain ⟨n, hn⟩ : ∃ n, n = J.length := ⟨_, rfl⟩
 rw [← hn] at hht h2 ⊢
 have HHT := Lib.hid hht
 clear hht hlow hx0 hx hmany hf hl hn h hW
 go_enter Tryz.func26, Tryz.ntmps26
 go_wp2_with (first
  | (go_at_call 62; go_loud ((with_reducible refine HHT.out.mono ?_); rintro e w1 ⟨g1, c1, rfl, _, hr, hb⟩; obtain ⟨s1, a1, n1, c2, b1, m1, d1, P1, R1⟩ := hr.cell 0 (by omega); have y0 := P1.c0; have y1 := P1.c1; have y2 := P1.c2; have y3 := P1.c3; have RA := Lib.hid (R1 trivial); have KB := Lib.hid hb; have ix0 := fun X => rowIx g1 n c1 0 (by omega) X; simp only [Nat.zero_mul, Nat.zero_add, Int.natCast_zero] at y0 y1 y2 y3 ix0; rw [if_pos (show 0 < n - 1 by omega), HX0.out] at RA; clear hr hb P1 R1))
  | (go_at_call 74; go_loud ((with_reducible refine (rat_num_any _ x 2 _ RA.out (by omega) HN.out.1 HN.out.2).mono ?_); rintro e w2 ⟨s, rfl, ht, hb⟩; have HT := Lib.hid ht; have KB := Lib.hid (KB.out.trans (hb.mono KB.out.size)); clear ht hb)))
 go_ret2
 exact ⟨_, rfl, HT.out, KB.out⟩
end Go.Proofs.YtolkchkedieppaaGreat

/- sets as numbers, their members; the order of lists. -/
namespace Go.Proofs.YtolkchkedieppaaGreat
open Go.RowKit
/-- the bits of s below i -/
def mem (s i : Nat) : List Nat := (List.range i).filter (fun t => s.testBit t)
theorem i64_and1 (n : Int) : bits .and .i64 n 1 = n % 2 := by
 have h1 : (BitVec.ofInt 64 1).toNat = 2 ^ 1 - 1 := by decide
 have key : (BitVec.ofInt 64 n &&& BitVec.ofInt 64 1).toNat = (n % ((2 ^ 64 : Nat) : Int)).toNat % 2 ^ 1 := by
  rw [BitVec.toNat_and, BitVec.toNat_ofInt, h1, Nat.and_two_pow_sub_one_eq_mod]
 show IntKind.i64.wrap ((BitVec.ofInt 64 n &&& BitVec.ofInt 64 1).toNat : Nat) = n % 2
 rw [key, IntKind.wrap_i64]
 omega
end Go.Proofs.YtolkchkedieppaaGreat

/- Cuts and codes that level a floor; exchanged sides; Euclid's cut. -/
namespace Go.Proofs.YtolkchkedieppaaGreat
open Go.RowKit
/-- sides exchanged -/
def swT (t : Tr) : Tr := ⟨t.b, t.a, t.c⟩
theorem sumC_sw : ∀ L, sumC (L.map swT) = sumC L
 | [] => rfl
 | t :: l => by simp only [List.map_cons, sumC, sumC_sw l, swT]
theorem MkC.swap {L : List Tr} {W H : Nat} (h : MkC L W H) : MkC (L.map swT) H W := by
 refine ⟨by rw [List.length_map]; exact h.pos, h.h1, h.w1, h.hb, h.wb, fun t ht => ?_, ?_, ?_, ?_, ?_⟩
 ·obtain ⟨u, hu, rfl⟩ := List.mem_map.1 ht
  obtain ⟨h1, h2, h3, h4, h5⟩ := h.rg u hu
  exact ⟨h2, h1, h3, h5, h4⟩
 ·rw [List.pairwise_map]
  refine h.ap.imp (fun e => ?_)
  unfold ApT at *
  simp only [swT]
  omega
 ·rw [sumC_sw, h.ar, Int.mul_comm]
 ·obtain ⟨t, ht, e⟩ := h.mh
  exact ⟨swT t, List.mem_map_of_mem ht, e⟩
 ·obtain ⟨t, ht, e⟩ := h.mw
  exact ⟨swT t, List.mem_map_of_mem ht, e⟩
end Go.Proofs.YtolkchkedieppaaGreat

/- two rows gathered side by side by append, in regions that draw. -/
namespace Go.Proofs.YtolkchkedieppaaGreat
open Go.RowKit
/-- append at a step of a region that draws, and where the row then lies -/
theorem step_append_own_at {P : Program} {w : World} {ops : Array Oper} {o : Oper} {a : Act} {K : Act → World → Prop} {Q : Exit → Act → World → Prop} {E : Prop} (hgd : o.guard = none) (s x : Operand) (t : TypeId)
  (ho : o.op = .call { callee := .builtin .append, args := #[s, x], argTypes := #[t, t] })
  (base : Nat) (e : TypeId) (i : TypeInfo) (z : Value) (size bytes : Nat) (ht : P.underlying t = some (.slice e)) (hi : P.info? e = some i) (hz : i.zero = some z)
  (hsize : i.size = size) (hby : i.bytes = bytes) (hzs : z.cells.size = size) (hsz : 0 < size)
  (v : Value) (n : Nat) (xs : List Value) (hs : a.eval s = v) (hown : w.ownsRow base e size v n xs)
  (ad : Addr) (m c : Nat) (news : List Value) (hx : a.eval x = .slice (some ad) m c) (hl : news.length = m * size) (hnews : ∀ j u, news[j]? = some u → w.cell? (ad.add j) = some u) (h1 : ∀ u ∈ news, u.oneCell' = true)
  (h63 : n + m ≤ maxLen) (hbytes : (n + m) * bytes ≤ 140737488355328) (hbase : base ≤ w.heap.size)
  (h : ∀ v' w', w'.ownsRow base e size v' (n + m) (xs ++ news) → w.grownBy w' v.ownBlock → (v'.ownBlock = v.ownBlock ∨ v'.ownBlock = some w.heap.size) → K (a.put o.dst v') w') :
  if Region.wanted o (yielded ops a.tmps) = true then Oper.wp P o a w K Q else E := by
 have hw : Region.wanted o (yielded ops a.tmps) = true := by simp [Region.wanted, hgd]
 rw [if_pos hw]
 obtain ⟨v', w', hr, h2, h3, h4, h5⟩ := run_append_own_at (P := P) w base t o.type e i z size bytes ht hi hz hsize hby hzs hsz v n xs hown ad m c news hl hnews h1 h63 hbytes hbase
 unfold Oper.wp execOp
 simp only [ho, resolve, invoke, builtin, Sem.run_bind, Sem.run_pure, Result.andThen_ok, List.map_toArray, List.map_cons, List.map_nil, hs, hx, hr]
 exact h v' w' h2 h3 h5
end Go.Proofs.YtolkchkedieppaaGreat

/- turned of the laws of hide: sides exchanged. (Printed by gen_turn.py.) -/
namespace Go.Proofs.YtolkchkedieppaaGreat
open Go.RowKit
attribute [local go_sem ↓] Go.wp_at_zero Go.wp_at_succ
set_option maxHeartbeats 4000000 in
set_option maxRecDepth 100000 in
theorem turned_mk {B : Nat} (v : Value) (L : List Tr) (w : World) (hv : OwS B w v L) (h0 : 0 < L.length) (hn : L.length ≤ 24) :
  Calls Tryz.prog 33 #[v] w fun e w' => ∃ va vk, e = .returned (.slice va L.length vk) ∧ OwS w.heap.size w' (.slice va L.length vk) (L.map swT) ∧ Below w.heap.size w w' := by
 obtain ⟨i0, hinf, hz0, hz1, hz2⟩ := info_parts infoSq
 obtain ⟨go, co, hvo, _, hgo2, _, TR0⟩ := hv.ex
 subst hvo
 have R0 : Hid ((w.alloc (.cells #[] 47)).ownsRow w.heap.size 47 3 (.slice (some ⟨w.heap.size, 0, none⟩) 0 0) 0 (trL ((L.take 0).map swT))) := Lib.hid (World.ownsRow_made w #[] 0 (Nat.le_refl _) (by unfold maxLen; omega) rfl)
 have K0 := Lib.hid ((Below.refl w.heap.size w).alloc (Nat.le_refl _) (.cells #[] 47))
 have TRH := Lib.hid (TR0.below ((Below.refl w.heap.size w).alloc (Nat.le_refl _) (.cells #[] 47)) hgo2)
 have HG0 : Hid (go < (w.alloc (.cells #[] 47)).heap.size) := Lib.hid (by simp; omega)
 have NE0 : Hid (some go ≠ (Value.slice (some ⟨w.heap.size, 0, none⟩) 0 0).ownBlock) := Lib.hid (fun e => by
  have : go = w.heap.size := Option.some.inj e
  omega)
 obtain ⟨n, hN⟩ : ∃ n, n = L.length := ⟨_, rfl⟩
 rw [← hN] at hn h0 ⊢
 have HN := Lib.hid hN
 clear hv hN TR0 hgo2
 go_enter Tryz.func33, Tryz.ntmps33
 go_wp2
 go_loopw [3, 4] (fun v3 v5 wr => ∃ (k : Nat) (va : Option Addr) (vk : Nat), k ≤ n ∧ v5 = .int .i64 (k : Nat) ∧ v3 = .slice va k vk ∧ Hid (wr.ownsRow w.heap.size 47 3 (.slice va k vk) k (trL ((L.take k).map swT))) ∧ Hid (some go ≠ (Value.slice va k vk).ownBlock) ∧ Hid (TrR wr go 0 L) ∧ Hid (go < wr.heap.size) ∧ Hid (Below w.heap.size w wr)) (fun _ v5 _ => n - (intOf v5).toNat)
 case atStart => exact ⟨0, _, _, by omega, rfl, rfl, R0, NE0, TRH, HG0, K0⟩
 case round =>
  clear R0 NE0 TRH HG0 K0
  obtain ⟨k, va, vk, hk, rfl, rfl, OW, NE, TR, HG, KB⟩ := hrel
  by_cases h : k < n
  ·have e1 : decide ((k : Int) < (n : Int)) = true := by simpa using h
   have e1n : decide (k < n) = true := by simpa using h
   have hk2 : k < L.length := by have := HN.out; omega
   have ixk : ∀ X, (Instr.indexAt 23 (.slice (some ⟨go, 0, none⟩) n co) (.int .i64 (k : Int))).run Tryz.prog X = .ok (.pointer (some ⟨go, k * 3, none⟩)) X := fun X => by
    have := ixSqo go 0 n co k h X
    rw [Nat.zero_add] at this
    exact this
   have x0 := TR.out.c0 k hk2
   have x1 := TR.out.c1 k hk2
   have x2 := TR.out.c2 k hk2
   rw [Nat.zero_add] at x0 x1 x2
   obtain ⟨t, ht⟩ : ∃ t, t = L.getD k default := ⟨_, rfl⟩
   rw [← ht] at x0 x1 x2
   have HQ : Hid (trL ((L.take k).map swT) ++ trC ⟨t.b, t.a, t.c⟩ = trL ((L.take (k + 1)).map swT)) := Lib.hid (by
    rw [List.take_add_one, List.map_append, trL_app, ht]
    simp [hk2, trL, swT])
   have HSZ := Lib.hid KB.out.size
   have HT := Lib.hid ht
   have HK2 := Lib.hid hk2
   clear ht hk2 x0 x1 x2
   go_upto_region 5 with (fail)
   obtain ⟨wO, hwO⟩ : ∃ x : World, x = wr.drew := ⟨_, rfl⟩
   have HWO := Lib.hid hwO
   have VD := Lib.hid (show Below wr.heap.size wr wO by rw [hwO]; exact (Below.refl _ _).drew)
   clear hwO
   have keepR : Hid (∀ w', Below wO.heap.size wO w' → w'.cell? ⟨go, k * 3, none⟩ = some (.int .i64 t.a) ∧ w'.cell? ⟨go, k * 3 + 1, none⟩ = some (.int .i64 t.b) ∧ w'.cell? ⟨go, k * 3 + 2, none⟩ = some (.int .i64 t.c)) := Lib.hid (fun w' hb => by
    have h9 := TR.out.below (VD.out.trans (hb.mono VD.out.size)) HG.out
    have y0 := h9.c0 k HK2.out
    have y1 := h9.c1 k HK2.out
    have y2 := h9.c2 k HK2.out
    rw [Nat.zero_add] at y0 y1 y2
    rw [← HT.out] at y0 y1 y2
    exact ⟨y0, y1, y2⟩)
   have VL := Lib.hid (Below.refl wO.heap.size wO)
   have OWN := Lib.hid (own_kept OW.out VD.out)
   have TRO := Lib.hid (TR.out.below VD.out HG.out)
   have HGO := Lib.hid (Nat.lt_of_lt_of_le HG.out VD.out.size)
   have KO := Lib.hid (KB.out.trans (VD.out.mono KB.out.size))
   refine wp_region_held_drew (S := fun w' => w'.cell? ⟨go, k * 3, none⟩ = some (.int .i64 t.a) ∧ w'.cell? ⟨go, k * 3 + 1, none⟩ = some (.int .i64 t.b) ∧ w'.cell? ⟨go, k * 3 + 2, none⟩ = some (.int .i64 t.c)) (by kernel_rfl) (by rw [← HWO.out]; exact keepR.out _ VL.out) (fun hHeld => ?_)
   rw [← HWO.out] at hHeld ⊢
   refine wpAnyH_take (i := 0) (v := ?_) rfl (by kernel_rfl) (by kernel_rfl) (by kernel_rfl) (fun _ _ _ h => h) (Or.inl ⟨by kernel_rfl, ?_⟩) (by assumption) ?_
   rotate_left
   ·(intro w0 hSw; (try dsimp only at hSw); go_simp; all_goals (with_reducible rfl))
   simp only [Act.put, List.setIfInBounds_toArray, List.set_cons_zero, List.set_cons_succ]
   refine wpAnyH_take (i := 1) (v := ?_) rfl (by kernel_rfl) (by kernel_rfl) (by kernel_rfl) (fun _ _ _ h => h) (Or.inl ⟨by kernel_rfl, ?_⟩) (by assumption) ?_
   rotate_left
   ·(intro w0 hSw; (try dsimp only at hSw); go_simp; all_goals (with_reducible rfl))
   simp only [Act.put, List.setIfInBounds_toArray, List.set_cons_zero, List.set_cons_succ]
   refine wpAnyH_take (i := 2) (v := ?_) rfl (by kernel_rfl) (by kernel_rfl) (by kernel_rfl) (fun _ _ _ h => h) (Or.inl ⟨by kernel_rfl, ?_⟩) (by assumption) ?_
   rotate_left
   ·(intro w0 hSw; (try dsimp only at hSw); go_simp; all_goals (with_reducible rfl))
   simp only [Act.put, List.setIfInBounds_toArray, List.set_cons_zero, List.set_cons_succ]
   refine wpAnyH_take (i := 3) (v := ?_) rfl (by kernel_rfl) (by kernel_rfl) (by kernel_rfl) (fun _ _ _ h => h) (Or.inl ⟨by kernel_rfl, ?_⟩) (by assumption) ?_
   rotate_left
   ·(intro w0 hSw; (try dsimp only at hSw); go_simp; all_goals (with_reducible rfl))
   simp only [Act.put, List.setIfInBounds_toArray, List.set_cons_zero, List.set_cons_succ]
   refine wpAnyH_take (i := 4) (v := ?_) rfl (by kernel_rfl) (by kernel_rfl) (by kernel_rfl) (fun _ _ _ h => h) (Or.inl ⟨by kernel_rfl, ?_⟩) (by assumption) ?_
   rotate_left
   ·(intro w0 hSw; (try dsimp only at hSw); go_simp; all_goals (with_reducible rfl))
   simp only [Act.put, List.setIfInBounds_toArray, List.set_cons_zero, List.set_cons_succ]
   refine wpAnyH_take (i := 5) (v := ?_) rfl (by kernel_rfl) (by kernel_rfl) (by kernel_rfl) (fun _ _ _ h => h) (Or.inl ⟨by kernel_rfl, ?_⟩) (by assumption) ?_
   rotate_left
   ·(intro w0 hSw; (try dsimp only at hSw); go_simp; all_goals (with_reducible rfl))
   simp only [Act.put, List.setIfInBounds_toArray, List.set_cons_zero, List.set_cons_succ]
   refine wpAnyH_take (i := 6) (v := ?_) rfl (by kernel_rfl) (by kernel_rfl) (by kernel_rfl) (fun _ _ _ h => h) (Or.inl ⟨by kernel_rfl, ?_⟩) (by assumption) ?_
   rotate_left
   ·(intro w0 hSw; (try dsimp only at hSw); go_simp; all_goals (with_reducible rfl))
   simp only [Act.put, List.setIfInBounds_toArray, List.set_cons_zero, List.set_cons_succ]
   refine wpAnyH_take (i := 7) (v := ?_) rfl (by kernel_rfl) (by kernel_rfl) (by kernel_rfl) (fun _ _ _ h => h) (Or.inl ⟨by kernel_rfl, ?_⟩) (by assumption) ?_
   rotate_left
   ·(intro w0 hSw; (try dsimp only at hSw); go_simp; all_goals (with_reducible rfl))
   simp only [Act.put, List.setIfInBounds_toArray, List.set_cons_zero, List.set_cons_succ]
   refine wpAnyH_take (i := 8) (v := ?_) rfl (by kernel_rfl) (by kernel_rfl) (by kernel_rfl) (fun _ _ _ h => h) (Or.inl ⟨by kernel_rfl, ?_⟩) (by assumption) ?_
   rotate_left
   ·(intro w0 hSw; (try dsimp only at hSw); go_simp; all_goals (with_reducible rfl))
   simp only [Act.put, List.setIfInBounds_toArray, List.set_cons_zero, List.set_cons_succ]
   refine wpAnyH_take (i := 9) (v := ?_) rfl (by kernel_rfl) (by kernel_rfl) (by kernel_rfl) (fun _ _ _ h => h) (Or.inl ⟨by kernel_rfl, ?_⟩) (by assumption) ?_
   rotate_left
   ·(intro w0 hSw; (try dsimp only at hSw); go_simp; all_goals (with_reducible rfl))
   simp only [Act.put, List.setIfInBounds_toArray, List.set_cons_zero, List.set_cons_succ]
   refine wpAnyH_take (i := 10) (v := ?_) rfl (by kernel_rfl) (by kernel_rfl) (by kernel_rfl) (fun _ _ _ h => h) (Or.inl ⟨by kernel_rfl, ?_⟩) (by assumption) ?_
   rotate_left
   ·(intro w0 hSw; (try dsimp only at hSw); go_simp; all_goals (with_reducible rfl))
   simp only [Act.put, List.setIfInBounds_toArray, List.set_cons_zero, List.set_cons_succ]
   refine wpAnyH_take (i := 11) (v := ?_) rfl (by kernel_rfl) (by kernel_rfl) (by kernel_rfl) (fun _ _ _ h => h) (Or.inl ⟨by kernel_rfl, ?_⟩) (by assumption) ?_
   rotate_left
   ·(intro w0 hSw; (try dsimp only at hSw); go_simp; all_goals (with_reducible rfl))
   simp only [Act.put, List.setIfInBounds_toArray, List.set_cons_zero, List.set_cons_succ]
   refine wpAnyH_take (i := 12) (v := ?_) rfl (by kernel_rfl) (by kernel_rfl) (by kernel_rfl) (fun _ _ _ h => h) (Or.inl ⟨by kernel_rfl, ?_⟩) (by assumption) ?_
   rotate_left
   ·(intro w0 hSw; (try dsimp only at hSw); go_simp; all_goals (with_reducible rfl))
   simp only [Act.put, List.setIfInBounds_toArray, List.set_cons_zero, List.set_cons_succ]
   refine wpAnyH_take (i := 13) (v := ?_) rfl (by kernel_rfl) (by kernel_rfl) (by kernel_rfl) (fun _ _ _ h => h) (Or.inl ⟨by kernel_rfl, ?_⟩) (by assumption) ?_
   rotate_left
   ·(intro w0 hSw; (try dsimp only at hSw); go_simp; all_goals (with_reducible rfl))
   simp only [Act.put, List.setIfInBounds_toArray, List.set_cons_zero, List.set_cons_succ]
   refine wpAnyH_take (i := 14) (v := ?_) rfl (by kernel_rfl) (by kernel_rfl) (by kernel_rfl) (fun _ _ _ h => h) (Or.inl ⟨by kernel_rfl, ?_⟩) (by assumption) ?_
   rotate_left
   ·(intro w0 hSw; (try dsimp only at hSw); go_simp; all_goals (with_reducible rfl))
   simp only [Act.put, List.setIfInBounds_toArray, List.set_cons_zero, List.set_cons_succ]
   refine wpAnyH_take (i := 15) (v := ?_) rfl (by kernel_rfl) (by kernel_rfl) (by kernel_rfl) (fun _ _ _ h => h) (Or.inl ⟨by kernel_rfl, ?_⟩) (by assumption) ?_
   rotate_left
   ·(intro w0 hSw; (try dsimp only at hSw); go_simp; all_goals (with_reducible rfl))
   simp only [Act.put, List.setIfInBounds_toArray, List.set_cons_zero, List.set_cons_succ]
   refine wpAnyH_take (i := 16) (v := ?_) rfl (by kernel_rfl) (by kernel_rfl) (by kernel_rfl) (fun _ _ _ h => h) (Or.inl ⟨by kernel_rfl, ?_⟩) (by assumption) ?_
   rotate_left
   ·(intro w0 hSw; (try dsimp only at hSw); go_simp; all_goals (with_reducible rfl))
   simp only [Act.put, List.setIfInBounds_toArray, List.set_cons_zero, List.set_cons_succ]
   refine wpAnyH_ready (rs := [17]) (by kernel_rfl) (by simp) ?_
   refine AllReadyH.cons rfl (fun Kn hKn => ?_) AllReadyH.nil
   go_simp
   have BX := Lib.hid (box3_new wO (.int .i64 t.b) (.int .i64 t.a) (.int .i64 t.c) 47)
   have OWN := Lib.hid (OWN.out.alloc (.cells #[.int .i64 t.b, .int .i64 t.a, .int .i64 t.c] 47))
   have TRO := Lib.hid (TRO.out.below (boxes1 wO (.cells #[.int .i64 t.b, .int .i64 t.a, .int .i64 t.c] 47)) HGO.out)
   have HGO : Hid (go < (wO.alloc (.cells #[.int .i64 t.b, .int .i64 t.a, .int .i64 t.c] 47)).heap.size) := Lib.hid (Nat.lt_of_lt_of_le HGO.out (by simp))
   have VL := Lib.hid (VL.out.alloc VL.out.size (.cells #[.int .i64 t.b, .int .i64 t.a, .int .i64 t.c] 47))
   refine hKn.out _ _ ?_ (fun hHeld => ?_)
   ·(try dsimp only); exact keepR.out _ VL.out
   clear hKn Kn
   (try simp only [Act.put, List.setIfInBounds_toArray, List.set_cons_zero, List.set_cons_succ])
   obtain ⟨b9, hb9⟩ : ∃ b9, b9 = wO.heap.size := ⟨_, rfl⟩
   rw [← hb9] at BX ⊢
   clear hb9
   generalize hwN : wO.alloc (.cells #[.int .i64 t.b, .int .i64 t.a, .int .i64 t.c] 47) = wN at BX VL OWN TRO HGO hHeld ⊢
   clear hwN
   refine wpAnyH_ready (rs := [18]) (by kernel_rfl) (by simp) ?_
   refine AllReadyH.cons rfl (fun Kn hKn => ?_) AllReadyH.nil
   refine step_append_own_at (by rfl) _ _ _ (by rfl) w.heap.size 47 i0 _ 3 24 Tryz.underlying23 hinf hz0 hz1 hz2 rfl (by decide) (.slice va k vk) k (trL ((L.take k).map swT)) (by rfl) OWN.out ⟨b9, 0, none⟩ 1 1 (trC ⟨t.b, t.a, t.c⟩) (by rfl) (by rfl) (box3_cells BX.out) (trC_one ⟨t.b, t.a, t.c⟩) (by unfold maxLen; omega) (by omega) (by have := KO.out.size; have := VL.out.size; omega) ?_
   intro v5 w5 hown hgrow hbk
   rw [HQ.out] at hown
   have TR5 := Lib.hid (TRO.out.grown hgrow HGO.out NE.out)
   have HG5 := Lib.hid (Nat.lt_of_lt_of_le HGO.out hgrow.size)
   have NE5 : Hid (some go ≠ v5.ownBlock) := Lib.hid (fun e => by rcases hbk with q | q <;> rw [q] at e; exact NE.out e; exact absurd (Option.some.inj e) (Nat.ne_of_lt HGO.out))
   have KB5 := Lib.hid ((KO.out.trans (VL.out.mono KO.out.size)).grown hgrow (Nat.le_trans KO.out.size VL.out.size) (fun kk e => (OWN.out.lt kk e).1))
   have OW5 := Lib.hid hown
   obtain ⟨va5, vk5, rfl⟩ := own_shape hown
   clear hown hgrow hbk
   refine hKn.out _ _ ?_ (fun hHeld => ?_)
   ·(try dsimp only)
    have y0 := TR5.out.c0 k HK2.out
    have y1 := TR5.out.c1 k HK2.out
    have y2 := TR5.out.c2 k HK2.out
    rw [Nat.zero_add] at y0 y1 y2
    rw [← HT.out] at y0 y1 y2
    exact ⟨y0, y1, y2⟩
   clear hKn Kn
   (try simp only [Act.put, List.setIfInBounds_toArray, List.set_cons_zero, List.set_cons_succ])
   refine wpAnyH_take (i := 19) (v := ?_) rfl (by kernel_rfl) (by kernel_rfl) (by kernel_rfl) (fun _ _ _ h => h) (Or.inl ⟨by kernel_rfl, ?_⟩) (by assumption) ?_
   rotate_left
   ·(intro w0 hSw; (try dsimp only at hSw); go_simp; all_goals (with_reducible rfl))
   simp only [List.getElem_toArray, List.getElem_cons_succ, List.getElem_cons_zero, Act.put, List.setIfInBounds_toArray, List.set_cons_zero, List.set_cons_succ]
   refine wpAnyH_done (by kernel_rfl) ?_ _
   go_wp2
   go_roundw
   case rel => exact ⟨k + 1, va5, vk5, by omega, by go_num, rfl, OW5, NE5, TR5, HG5, KB5⟩
   case measure => simp [intOf]; omega
  ·obtain rfl : k = n := by omega
   have e1 : decide ((k : Int) < (k : Int)) = false := by simp
   go_wp2
   go_ret
   have h1 := OW.out
   rw [HN.out, List.take_length] at h1
   have hl : L.length = (L.map swT).length := by simp
   refine ⟨va, vk, rfl, ?_, KB.out⟩
   have h2 := HN.out
   subst h2
   refine ows_of ?_ (by simpa using h0)
   rw [← hl]
   exact h1
end Go.Proofs.YtolkchkedieppaaGreat
