/- Settle, plainly: the payments of one group. -/
import Derived.Test.YtcnaagiicpkcpaaGreatMGrpA
import Derived.Test.YtcnaagiicpkcpaaGreatMGrpB
import Derived.Test.YtcnaagiicpkcpaaGreatMFun
import Derived.Maps.AppendAt
set_option linter.unusedVariables false
set_option linter.unusedSimpArgs false
namespace Go.Proofs.YtcnaagiicpkcpaaGreat
/-- how many of the first k numbers a set has -/
def cd (s : Nat) : Nat → Nat
 | 0 => 0
 | k + 1 => cd s k + (if s.testBit k = true then 1 else 0)
theorem mem_cd (s : Nat) : ∀ k, (mem s k).length = cd s k
 | 0 => rfl
 | k + 1 => by
  have := mem_cd s k
  simp only [mem, List.range_succ, List.filter_append, List.length_append, cd] at this ⊢
  rw [this]
  rcases h : s.testBit k with _ | _ <;> simp [h]
theorem or_bit (u r i : Nat) : (u ||| 2 ^ r).testBit i = (u.testBit i || decide (r = i)) := by rw [Nat.testBit_or, Nat.testBit_two_pow]
theorem cd_or {u r : Nat} (h : u.testBit r = false) : ∀ k, cd (u ||| 2 ^ r) k = cd u k + (if r < k then 1 else 0)
 | 0 => rfl
 | k + 1 => by
  simp only [cd, cd_or h k, or_bit]
  by_cases e : r = k
  ·subst e; simp [h]
  ·by_cases e2 : r < k
   ·simp [e, e2, show r < k + 1 by omega]; omega
   ·simp [e, e2, show ¬ r < k + 1 by omega]
theorem cd_zero (k : Nat) : cd 0 k = 0 := by
 induction k with
 | zero => rfl
 | succ k ih => simp [cd, ih]
theorem cd_le (s : Nat) : ∀ k, cd s k ≤ k
 | 0 => Nat.le_refl _
 | k + 1 => by have := cd_le s k; simp only [cd]; split <;> omega
theorem smI_or (v : Nat → Int) {u r : Nat} (h : u.testBit r = false) : ∀ k, smI v (u ||| 2 ^ r) k = smI v u k + (if r < k then v r else 0)
 | 0 => rfl
 | k + 1 => by
  simp only [smI, smI_or v h k, or_bit]
  by_cases e : r = k
  ·subst e; simp [h]
  ·by_cases e2 : r < k
   ·simp [e, e2, show r < k + 1 by omega]; omega
   ·simp [e, e2, show ¬ r < k + 1 by omega]
theorem smI_congr {f g : Nat → Int} {s : Nat} : ∀ k, (∀ i, i < k → s.testBit i = true → f i = g i) → smI f s k = smI g s k
 | 0, _ => rfl
 | k + 1, h => by
  simp only [smI, smI_congr k (fun i hi => h i (by omega))]
  split
  ·rename_i hb; rw [h k (by omega) hb]
  ·rfl
theorem smI_none {v : Nat → Int} {s : Nat} (k : Nat) (h : ∀ i, i < k → s.testBit i = true → v i = 0) : smI v s k = 0 := by
 have e := smI_congr (g := fun _ => 0) k h
 rw [e]
 clear e h
 induction k with
 | zero => rfl
 | succ k ih => simp [smI, ih]
theorem smI_nn {v : Nat → Int} {s : Nat} : ∀ k, (∀ i, i < k → s.testBit i = true → 0 ≤ v i) → 0 ≤ smI v s k
 | 0, _ => Int.le_refl _
 | k + 1, h => by
  have h1 := smI_nn k (fun i hi => h i (by omega))
  simp only [smI]
  split
  ·rename_i hb; have := h k (by omega) hb; omega
  ·omega
theorem smI_nn_zero {v : Nat → Int} {s : Nat} : ∀ k, (∀ i, i < k → s.testBit i = true → 0 ≤ v i) → smI v s k = 0 → ∀ i, i < k → s.testBit i = true → v i = 0
 | 0, _, _ => fun i hi => by omega
 | k + 1, h, h0 => fun i hi hb => by
  have h1 := smI_nn k (fun i hi => h i (by omega))
  simp only [smI] at h0
  by_cases e : s.testBit k = true
  ·rw [if_pos e] at h0
   have h2 := h k (by omega) e
   rcases Nat.lt_or_ge i k with q | q
   ·exact smI_nn_zero k (fun i hi => h i (by omega)) (by omega) i q hb
   ·obtain rfl : i = k := by omega
    omega
  ·rw [if_neg e] at h0
   rcases Nat.lt_or_ge i k with q | q
   ·exact smI_nn_zero k (fun i hi => h i (by omega)) (by omega) i q hb
   ·obtain rfl : i = k := by omega
    exact absurd hb e
theorem smI_set (v : Nat → Int) (s i : Nat) (x : Int) (h : s.testBit i = true) : ∀ k, smI (fun j => if j = i then x else v j) s k = smI v s k + (if i < k then x - v i else 0)
 | 0 => rfl
 | k + 1 => by
  simp only [smI, smI_set v s i x h k]
  by_cases e : k = i
  ·subst e; simp [h]; omega
  ·by_cases e2 : i < k
   ·simp [e, e2, show i < k + 1 by omega]; split <;> omega
   ·simp [e, e2, show ¬ i < k + 1 by omega]
theorem smI_pow (v : Nat → Int) (i : Nat) (n : Nat) (h : i < n) : smI v (2 ^ i) n = v i := by
 have := smI_or v (u := 0) (r := i) (by simp) n
 rw [Nat.zero_or, smI_zero, if_pos h] at this
 omega
theorem cd_pow (i n : Nat) (h : i < n) : cd (2 ^ i) n = 1 := by
 have := cd_or (u := 0) (r := i) (by simp) n
 rw [Nat.zero_or, cd_zero, if_pos h] at this
 omega
/-- a group: no smaller set of it has the sum 0 -/
structure MinG (n : Nat) (f : Nat → Int) (s : Nat) : Prop where
 lt : s < 2 ^ n
 pos : 0 < s
 sum : smI f s n = 0
 least : ∀ p, Sb p s → 0 < p → smI f p n = 0 → p = s
theorem Cand.min {n : Nat} {f : Nat → Int} {left s : Nat} (h : Cand n f left s) (hl : left < 2 ^ n) (h0 : smI f left n = 0) : MinG n f s := by
 refine ⟨Nat.lt_of_le_of_lt h.sub.le hl, h.pos, h.sum, fun p hp hp0 hps => ?_⟩
 by_cases e : p = s
 ·exact e
 ·exfalso
  have hpl := hp.trans h.sub
  have a1 := smI_rest f hpl n
  have a2 : smI f (left - p) n = 0 := by omega
  have le1 := hp.le
  have le2 := h.sub.le
  have hlt : left - p < 2 ^ n := by omega
  have hsub : Sb (left - s) (left - p) := sb_of (fun i hi => by
   rw [rest_bit h.sub, Bool.and_eq_true] at hi
   rw [rest_bit hpl, hi.1]
   rcases hb : p.testBit i with _ | _
   ·rfl
   ·have := hp.bit hb; rw [this] at hi; simp at hi)
  have hne : left - s ≠ left - p := by omega
  have b1 := pm_more (n := n) (f := f) hlt hsub hne a2
  have b2 := pm_more (n := n) (f := f) hl (rest_sb hpl) (by omega) h0
  have b3 := h.most
  omega
/-- two cells changed by a payment -/
def payV (v : Nat → Int) (p r : Nat) (a : Int) : Nat → Int := fun i => if i = r then v r - a else if i = p then v p + a else v i
theorem smI_pay {v : Nat → Int} {s p r n : Nat} {a : Int} (hp : s.testBit p = true) (hr : s.testBit r = true) (hpn : p < n) (hrn : r < n) (hne : p ≠ r) : smI (payV v p r a) s n = smI v s n := by
 have h1 := smI_set (fun i => if i = p then v p + a else v i) s r (v r - a) hr n
 have h2 := smI_set v s p (v p + a) hp n
 rw [if_pos hrn] at h1
 rw [if_pos hpn] at h2
 unfold payV
 rw [h1, h2, if_neg (Ne.symm hne)]
 omega
/-- the state within a group s: k payments are made, the firms of u took part, v is what is left -/
structure StG (n : Nat) (f : Nat → Int) (s : Nat) (v : Nat → Int) (k u : Nat) : Prop where
 sb : Sb u s
 out : ∀ i, u.testBit i = false → v i = f i
 tot : smI v u n = smI f u n
 all : smI v s n = 0
 cnt : (u = 0 ∧ k = 0) ∨ (0 < u ∧ cd u n = k + 1)
 one : 0 < u → ∃ o, u.testBit o = true ∧ (∀ i, u.testBit i = true → i ≠ o → v i = 0) ∧ (v o = 0 → u = s) ∧ (v o < 0 → ∀ i, s.testBit i = true → v i < 0 → o ≤ i) ∧ (0 < v o → ∀ i, s.testBit i = true → 0 < v i → o ≤ i)
theorem StG.start {n : Nat} {f : Nat → Int} {s : Nat} (h : MinG n f s) : StG n f s f 0 0 :=
 ⟨sb_zero _, fun _ _ => rfl, rfl, h.sum, .inl ⟨rfl, rfl⟩, fun h => absurd h (by omega)⟩
theorem StG.step {n : Nat} {f : Nat → Int} {s : Nat} {v : Nat → Int} {k u p r : Nat} {a : Int} (h : StG n f s v k u) (hm : MinG n f s) (hp : s.testBit p = true) (hr : s.testBit r = true)
  (p0 : v p < 0) (r0 : 0 < v r) (pf : ∀ i, s.testBit i = true → v i < 0 → p ≤ i) (rf : ∀ i, s.testBit i = true → 0 < v i → r ≤ i) (ha : a = min (-v p) (v r)) :
  ∃ u', StG n f s (payV v p r a) (k + 1) u' := by
 have hne : p ≠ r := fun e => by subst e; omega
 have hpn := bit_lt hm.lt hp
 have hrn := bit_lt hm.lt hr
 -- the firms that take part from now on
 have hu : ∃ u', Sb u' s ∧ u'.testBit p = true ∧ u'.testBit r = true ∧ (∀ i, u'.testBit i = true → i ≠ p → i ≠ r → v i = 0) ∧ (∀ i, u'.testBit i = false → v i = f i) ∧ smI v u' n = smI f u' n ∧ cd u' n = k + 2 := by
  rcases h.cnt with ⟨hu0, hk⟩ | ⟨hu0, hk⟩
  ·have e1 : (2 ^ p ||| 2 ^ r : Nat).testBit p = true := by rw [or_bit]; simp
   have e2 : (2 ^ p ||| 2 ^ r : Nat).testBit r = true := by rw [or_bit]; simp
   have e3 : (2 ^ p : Nat).testBit r = false := by rw [Nat.testBit_two_pow]; simpa using hne
   have hv : ∀ i, v i = f i := fun i => h.out i (by rw [hu0]; simp)
   refine ⟨2 ^ p ||| 2 ^ r, sb_of (fun i hi => ?_), e1, e2, fun i hi h1 h2 => ?_, fun i _ => hv i, smI_congr n (fun i _ _ => hv i), ?_⟩
   ·rw [or_bit, Nat.testBit_two_pow] at hi
    simp at hi
    rcases hi with e | e
    ·rw [← e]; exact hp
    ·rw [← e]; exact hr
   ·rw [or_bit, Nat.testBit_two_pow] at hi
    simp at hi
    rcases hi with e | e
    ·exact absurd e.symm h1
    ·exact absurd e.symm h2
   ·rw [cd_or e3, cd_pow p n hpn, if_pos hrn, hk]
  ·obtain ⟨o, ho, oz, oe, on, op⟩ := h.one hu0
   have ov : v o ≠ 0 := fun e => by
    have es := oe e
    subst es
    by_cases q : p = o
    ·subst q; omega
    ·have := oz p hp q; omega
   rcases Int.lt_or_lt_of_ne ov with q | q
   ·-- the open firm pays
    obtain rfl : p = o := Nat.le_antisymm (pf o (h.sb.bit ho) q) (on q p hp p0)
    have hru : u.testBit r = false := by
     rcases hb : u.testBit r with _ | _
     ·rfl
     ·have := oz r hb (Ne.symm hne); omega
    refine ⟨u ||| 2 ^ r, sb_of (fun i hi => ?_), by rw [or_bit, ho]; rfl, by rw [or_bit]; simp, fun i hi h1 h2 => ?_, fun i hi => ?_, ?_, ?_⟩
    ·rw [or_bit] at hi; simp at hi
     rcases hi with e | e
     ·exact h.sb.bit e
     ·rw [← e]; exact hr
    ·rw [or_bit] at hi; simp at hi
     rcases hi with e | e
     ·exact oz i e h1
     ·exact absurd e.symm h2
    ·rw [or_bit] at hi; simp at hi
     exact h.out i hi.1
    ·rw [smI_or v hru, smI_or f hru, h.tot, h.out r hru]
    ·rw [cd_or hru, if_pos hrn, hk]
   ·obtain rfl : r = o := Nat.le_antisymm (rf o (h.sb.bit ho) q) (op q r hr r0)
    have hpu : u.testBit p = false := by
     rcases hb : u.testBit p with _ | _
     ·rfl
     ·have := oz p hb hne; omega
    refine ⟨u ||| 2 ^ p, sb_of (fun i hi => ?_), by rw [or_bit]; simp, by rw [or_bit, ho]; rfl, fun i hi h1 h2 => ?_, fun i hi => ?_, ?_, ?_⟩
    ·rw [or_bit] at hi; simp at hi
     rcases hi with e | e
     ·exact h.sb.bit e
     ·rw [← e]; exact hp
    ·rw [or_bit] at hi; simp at hi
     rcases hi with e | e
     ·exact oz i e h2
     ·exact absurd e.symm h1
    ·rw [or_bit] at hi; simp at hi
     exact h.out i hi.1
    ·rw [smI_or v hpu, smI_or f hpu, h.tot, h.out p hpu]
    ·rw [cd_or hpu, if_pos hpn, hk]
 obtain ⟨u', u1, u2, u3, u4, u5, u6, u7⟩ := hu
 have hu'0 : 0 < u' := by
  rcases Nat.eq_zero_or_pos u' with e | e
  ·subst e; simp at u2
  ·exact e
 have vp : payV v p r a p = v p + a := by unfold payV; rw [if_neg hne, if_pos rfl]
 have vr : payV v p r a r = v r - a := by unfold payV; rw [if_pos rfl]
 have vo : ∀ i, i ≠ p → i ≠ r → payV v p r a i = v i := fun i h1 h2 => by unfold payV; rw [if_neg h2, if_neg h1]
 refine ⟨u', u1, fun i hi => ?_, ?_, ?_, .inr ⟨hu'0, u7⟩, fun _ => ?_⟩
 ·rw [vo i (fun e => by subst e; rw [u2] at hi; cases hi) (fun e => by subst e; rw [u3] at hi; cases hi)]
  exact u5 i hi
 ·rw [smI_pay u2 u3 hpn hrn hne, u6]
 ·rw [smI_pay hp hr hpn hrn hne, h.all]
 ·by_cases hc : -v p ≤ v r
  ·have e : a = -v p := by rw [ha]; omega
   refine ⟨r, u3, fun i hi hir => ?_, fun e0 => ?_, fun e0 => ?_, fun e0 i hi hv => ?_⟩
   ·by_cases q : i = p
    ·subst q; rw [vp]; omega
    ·rw [vo i q hir]; exact u4 i hi q hir
   ·refine hm.least u' u1 hu'0 ?_
    rw [← u6, ← smI_pay (a := a) u2 u3 hpn hrn hne]
    refine smI_none n (fun i _ hi => ?_)
    by_cases q : i = p
    ·subst q; rw [vp]; omega
    ·by_cases q2 : i = r
     ·subst q2; exact e0
     ·rw [vo i q q2]; exact u4 i hi q q2
   ·rw [vr] at e0; omega
   ·by_cases q : i = p
    ·subst q; rw [vp] at hv; omega
    ·by_cases q2 : i = r
     ·omega
     ·rw [vo i q q2] at hv; exact rf i hi hv
  ·have e : a = v r := by rw [ha]; omega
   refine ⟨p, u2, fun i hi hip => ?_, fun e0 => ?_, fun e0 i hi hv => ?_, fun e0 => ?_⟩
   ·by_cases q : i = r
    ·subst q; rw [vr]; omega
    ·rw [vo i hip q]; exact u4 i hi hip q
   ·rw [vp] at e0; omega
   ·by_cases q : i = p
    ·omega
    ·by_cases q2 : i = r
     ·subst q2; rw [vr] at hv; omega
     ·rw [vo i q q2] at hv; exact pf i hi hv
   ·rw [vp] at e0; omega
theorem StG.done {n : Nat} {f : Nat → Int} {s : Nat} {v : Nat → Int} {k u : Nat} (h : StG n f s v k u) (hm : MinG n f s) (hn : ∀ i, s.testBit i = true → 0 ≤ v i) :
  (∀ i, s.testBit i = true → v i = 0) ∧ cd s n = k + 1 := by
 have hz : ∀ i, s.testBit i = true → v i = 0 := fun i hi => smI_nn_zero n (fun i _ hi => hn i hi) h.all i (bit_lt hm.lt hi) hi
 refine ⟨hz, ?_⟩
 rcases h.cnt with ⟨hu0, hk⟩ | ⟨hu0, hk⟩
 ·obtain ⟨i, hi⟩ := ex_bit hm.pos
  have hin := bit_lt hm.lt hi
  have hv : f i = 0 := by rw [← h.out i (by rw [hu0]; simp)]; exact hz i hi
  have := hm.least (2 ^ i) (sb_bit hi) (Nat.two_pow_pos i) (by rw [smI_pow f i n hin, hv])
  rw [← this, cd_pow i n hin, hk]
 ·obtain ⟨o, ho, oz, oe, on, op⟩ := h.one hu0
  rw [← oe (hz o (h.sb.bit ho)), hk]
/-- where a firm receives, another pays -/
theorem StG.both {n : Nat} {f : Nat → Int} {s : Nat} {v : Nat → Int} {k u : Nat} (h : StG n f s v k u) (hm : MinG n f s) {p : Nat} (hp : s.testBit p = true) (p0 : v p < 0) : ∃ r, s.testBit r = true ∧ 0 < v r := by
 refine Classical.byContradiction (fun hx => ?_)
 have hle : ∀ i, i < n → s.testBit i = true → 0 ≤ -v i := fun i _ hi => by
  have : ¬ 0 < v i := fun q => hx ⟨i, hi, q⟩
  omega
 have hneg : ∀ k, smI (fun i => -v i) s k = -smI v s k := fun k => by
  induction k with
  | zero => rfl
  | succ k ih => simp only [smI, ih]; split <;> omega
 have h0 : smI (fun i => -v i) s n = 0 := by rw [hneg, h.all]; rfl
 have := smI_nn_zero n hle h0 p (bit_lt hm.lt hp) hp
 omega
/-- the members that are not 0 -/
def nzC (f : Nat → Int) (s : Nat) : Nat → Nat
 | 0 => 0
 | k + 1 => nzC f s k + (if s.testBit k = true ∧ f k ≠ 0 then 1 else 0)
theorem nzC_all {f : Nat → Int} {s : Nat} : ∀ k, (∀ i, i < k → s.testBit i = true → f i ≠ 0) → nzC f s k = cd s k
 | 0, _ => rfl
 | k + 1, h => by
  simp only [nzC, cd, nzC_all k (fun i hi => h i (by omega))]
  by_cases e : s.testBit k = true
  ·rw [if_pos ⟨e, h k (by omega) e⟩, if_pos e]
  ·rw [if_neg (fun q => e q.1), if_neg e]
theorem nzC_none {f : Nat → Int} {s : Nat} : ∀ k, (∀ i, i < k → s.testBit i = true → f i = 0) → nzC f s k = 0
 | 0, _ => rfl
 | k + 1, h => by
  simp only [nzC, nzC_none k (fun i hi => h i (by omega))]
  rw [if_neg (fun q => q.2 (h k (by omega) q.1))]
theorem nzC_rest {f : Nat → Int} {s t : Nat} (h : Sb s t) : ∀ k, nzC f s k + nzC f (t - s) k = nzC f t k
 | 0 => rfl
 | k + 1 => by
  have ih := nzC_rest (f := f) h k
  simp only [nzC, rest_bit h]
  rcases hb : s.testBit k with _ | _
  ·rcases ht : t.testBit k with _ | _ <;> simp <;> omega
  ·rw [h.bit hb]; simp; omega
theorem MinG.count {n : Nat} {f : Nat → Int} {s : Nat} (h : MinG n f s) : nzC f s n + 1 = cd s n + (if 1 < cd s n then 1 else 0) := by
 by_cases e : ∃ i, s.testBit i = true ∧ f i = 0
 ·obtain ⟨i, hi, h0⟩ := e
  have hin := bit_lt h.lt hi
  have es := h.least (2 ^ i) (sb_bit hi) (Nat.two_pow_pos i) (by rw [smI_pow f i n hin, h0])
  have hc : cd s n = 1 := by rw [← es, cd_pow i n hin]
  rw [hc, nzC_none n (fun j _ hj => ?_)]
  ·rfl
  ·rw [← es, Nat.testBit_two_pow] at hj
   have : i = j := by simpa using hj
   rw [← this, h0]
 ·have hx : ∀ i, s.testBit i = true → f i ≠ 0 := fun i hi h0 => e ⟨i, hi, h0⟩
  rw [nzC_all n (fun i _ hi => hx i hi)]
  rw [if_pos ?_]
  refine Classical.byContradiction (fun hc => ?_)
  obtain ⟨i, hi⟩ := ex_bit h.pos
  have hin := bit_lt h.lt hi
  -- one firm alone: its number would be the sum
  have h1 : ∀ j, s.testBit j = true → j = i := fun j hj => Classical.byContradiction (fun q => by
   have hjn := bit_lt h.lt hj
   have a1 := nzC_rest (f := fun _ => 1) (sb_bit hi) n
   have a2 := nzC_all (f := fun _ => 1) (s := 2 ^ i) n (fun _ _ _ => by decide)
   have a3 := nzC_all (f := fun _ => 1) (s := s - 2 ^ i) n (fun _ _ _ => by decide)
   have a4 := nzC_all (f := fun _ => 1) (s := s) n (fun _ _ _ => by decide)
   have hj2 : (s - 2 ^ i).testBit j = true := by
    rw [rest_bit (sb_bit hi), hj, Nat.testBit_two_pow]
    simp; omega
   have b1 := nzC_rest (f := fun _ => 1) (sb_bit hj2) n
   have b2 := nzC_all (f := fun _ => 1) (s := 2 ^ j) n (fun _ _ _ => by decide)
   have c1 := cd_pow i n hin
   have c2 := cd_pow j n hjn
   omega)
  have h2 : s = 2 ^ i := ext_bit (fun j => by
   rw [Nat.testBit_two_pow]
   rcases hb : s.testBit j with _ | _
   ·by_cases q : i = j
    ·subst q; rw [hi] at hb; cases hb
    ·simp [q]
   ·have := h1 j hb; simp [this])
  have := h.sum
  rw [h2, smI_pow f i n hin] at this
  exact hx i hi this
end Go.Proofs.YtcnaagiicpkcpaaGreat

/- Settle, plainly: all payments, and how many there are. -/
namespace Go.Proofs.YtcnaagiicpkcpaaGreat
/-- a payment -/
structure Pmt where
 fr : Nat
 rc : Nat
 am : Int
/-- what a firm pays, and what it receives -/
def outS : List Pmt → Nat → Int
 | [], _ => 0
 | q :: l, i => (if q.fr = i then q.am else 0) + outS l i
def inS : List Pmt → Nat → Int
 | [], _ => 0
 | q :: l, i => (if q.rc = i then q.am else 0) + inS l i
theorem outS_push (l : List Pmt) (q : Pmt) (i : Nat) : outS (l ++ [q]) i = outS l i + (if q.fr = i then q.am else 0) := by
 induction l with
 | nil => simp [outS]
 | cons x l ih => simp only [List.cons_append, outS, ih]; omega
theorem inS_push (l : List Pmt) (q : Pmt) (i : Nat) : inS (l ++ [q]) i = inS l i + (if q.rc = i then q.am else 0) := by
 induction l with
 | nil => simp [inS]
 | cons x l ih => simp only [List.cons_append, inS, ih]; omega
theorem outS_perm {a b : List Pmt} (h : a.Perm b) (i : Nat) : outS a i = outS b i := by
 induction h with
 | nil => rfl
 | cons x _ ih => simp only [outS, ih]
 | swap x y l => simp only [outS]; omega
 | trans _ _ h1 h2 => exact h1.trans h2
theorem inS_perm {a b : List Pmt} (h : a.Perm b) (i : Nat) : inS a i = inS b i := by
 induction h with
 | nil => rfl
 | cons x _ ih => simp only [inS, ih]
 | swap x y l => simp only [inS]; omega
 | trans _ _ h1 h2 => exact h1.trans h2
structure PayOK (n : Nat) (q : Pmt) : Prop where
 fr : q.fr < n
 rc : q.rc < n
 ne : q.fr ≠ q.rc
 low : 1 ≤ q.am
 high : q.am ≤ 10000
def ltK (a b : Pmt) : Prop := a.fr < b.fr ∨ (a.fr = b.fr ∧ a.rc < b.rc)
instance (a b : Pmt) : Decidable (ltK a b) := by unfold ltK; infer_instance
/-- what Settle has done so far -/
structure SetS (n : Nat) (f v : Nat → Int) (P : List Pmt) : Prop where
 ok : ∀ q ∈ P, PayOK n q
 bal : ∀ i, v i = f i + outS P i - inS P i
 zero : ∀ q ∈ P, v q.fr = 0 ∨ v q.rc = 0
 nd : P.Pairwise (fun a b => ¬ (a.fr = b.fr ∧ a.rc = b.rc))
 bnd : ∀ i, i < n → -10000 ≤ v i ∧ v i ≤ 10000
theorem SetS.start {n : Nat} {f : Nat → Int} (h : ∀ i, i < n → -10000 ≤ f i ∧ f i ≤ 10000) : SetS n f f [] :=
 ⟨fun _ h => (by cases h), fun i => (by simp [outS, inS]), fun _ h => (by cases h), List.Pairwise.nil, h⟩
theorem SetS.step {n : Nat} {f v : Nat → Int} {P : List Pmt} {p r : Nat} {a : Int} (h : SetS n f v P) (hp : p < n) (hr : r < n) (p0 : v p < 0) (r0 : 0 < v r) (ha : a = min (-v p) (v r)) :
  SetS n f (payV v p r a) (P ++ [⟨p, r, a⟩]) := by
 have hne : p ≠ r := fun e => by subst e; omega
 have b1 := h.bnd p hp
 have b2 := h.bnd r hr
 have vp : payV v p r a p = v p + a := by unfold payV; rw [if_neg hne, if_pos rfl]
 have vr : payV v p r a r = v r - a := by unfold payV; rw [if_pos rfl]
 have vo : ∀ i, i ≠ p → i ≠ r → payV v p r a i = v i := fun i h1 h2 => by unfold payV; rw [if_neg h2, if_neg h1]
 have vz : ∀ i, v i = 0 → payV v p r a i = 0 := fun i hi => by
  rw [vo i (fun e => by subst e; omega) (fun e => by subst e; omega), hi]
 refine ⟨fun q hq => ?_, fun i => ?_, fun q hq => ?_, ?_, fun i hi => ?_⟩
 ·rcases List.mem_append.1 hq with e | e
  ·exact h.ok q e
  ·obtain rfl : q = ⟨p, r, a⟩ := by simpa using e
   exact ⟨hp, hr, hne, by show 1 ≤ a; omega, by show a ≤ 10000; omega⟩
 ·rw [outS_push, inS_push]
  have hb := h.bal i
  show _ = f i + (outS P i + (if p = i then a else 0)) - (inS P i + (if r = i then a else 0))
  by_cases e1 : i = p
  ·subst e1; rw [vp, if_pos rfl, if_neg (Ne.symm hne)]; omega
  ·by_cases e2 : i = r
   ·subst e2; rw [vr, if_neg hne, if_pos rfl]; omega
   ·rw [vo i e1 e2, if_neg (Ne.symm e1), if_neg (Ne.symm e2)]; omega
 ·rcases List.mem_append.1 hq with e | e
  ·rcases h.zero q e with z | z
   ·exact .inl (vz _ z)
   ·exact .inr (vz _ z)
  ·obtain rfl : q = ⟨p, r, a⟩ := by simpa using e
   by_cases q : -v p ≤ v r
   ·exact .inl (by show payV v p r a p = 0; rw [vp]; omega)
   ·exact .inr (by show payV v p r a r = 0; rw [vr]; omega)
 ·refine List.pairwise_append.2 ⟨h.nd, List.pairwise_singleton _ _, fun x hx y hy => ?_⟩
  obtain rfl : y = ⟨p, r, a⟩ := by simpa using hy
  rintro ⟨e1, e2⟩
  have e1 : x.fr = p := e1
  have e2 : x.rc = r := e2
  rcases h.zero x hx with z | z
  ·rw [e1] at z; omega
  ·rw [e2] at z; omega
 ·by_cases e1 : i = p
  ·subst e1; rw [vp]; omega
  ·by_cases e2 : i = r
   ·subst e2; rw [vr]; omega
   ·rw [vo i e1 e2]; exact h.bnd i hi
theorem pw_both {R S T : Pmt → Pmt → Prop} (h : ∀ a b, R a b → S a b → T a b) : ∀ {l : List Pmt}, l.Pairwise R → l.Pairwise S → l.Pairwise T
 | [], _, _ => List.Pairwise.nil
 | x :: l, h1, h2 => List.pairwise_cons.2 ⟨fun y hy => h x y ((List.pairwise_cons.1 h1).1 y hy) ((List.pairwise_cons.1 h2).1 y hy), pw_both h (List.pairwise_cons.1 h1).2 (List.pairwise_cons.1 h2).2⟩
/-- what the reference asks of payments -/
structure SetOK (n : Nat) (f : Nat → Int) (P : List Pmt) : Prop where
 ok : ∀ q ∈ P, PayOK n q
 sorted : P.Pairwise ltK
 bal : ∀ i, i < n → f i + outS P i - inS P i = 0
theorem SetS.done {n : Nat} {f v : Nat → Int} {P P' : List Pmt} (h : SetS n f v P) (h0 : ∀ i, i < n → v i = 0) (hp : P.Perm P') (hs : P'.Pairwise (fun a b => ¬ ltK b a)) : SetOK n f P' := by
 refine ⟨fun q hq => h.ok q (hp.mem_iff.2 hq), ?_, fun i hi => ?_⟩
 ·have hnd : P'.Pairwise (fun a b => ¬ (a.fr = b.fr ∧ a.rc = b.rc)) := hp.pairwise_iff (fun {a b} q e => q ⟨e.1.symm, e.2.symm⟩) |>.1 h.nd
  exact pw_both (fun a b q1 q2 => by unfold ltK at q1 ⊢; omega) hs hnd
 ·rw [← outS_perm hp, ← inS_perm hp, ← h.bal i, h0 i hi]
theorem cd_rest {s t : Nat} (h : Sb s t) : ∀ k, cd s k + cd (t - s) k = cd t k
 | 0 => rfl
 | k + 1 => by
  have ih := cd_rest h k
  simp only [cd, rest_bit h]
  rcases hb : s.testBit k with _ | _
  ·rcases ht : t.testBit k with _ | _ <;> simp <;> omega
  ·rw [h.bit hb]; simp; omega
theorem all_bit {n i : Nat} : (2 ^ n - 1).testBit i = decide (i < n) := Nat.testBit_two_pow_sub_one n i
theorem cd_all (n : Nat) : ∀ k, k ≤ n → cd (2 ^ n - 1) k = k
 | 0, _ => rfl
 | k + 1, h => by simp only [cd, cd_all n k (by omega), all_bit]; rw [if_pos (by simp; omega)]
theorem MinG.congr {n : Nat} {f g : Nat → Int} {s : Nat} (h : MinG n f s) (e : ∀ i, s.testBit i = true → g i = f i) : MinG n g s :=
 ⟨h.lt, h.pos, by rw [smI_congr n (fun i _ hi => e i hi)]; exact h.sum, fun p hp h0 hs => h.least p hp h0 (by rw [← smI_congr n (fun i _ hi => e i (hp.bit hi))]; exact hs)⟩
/-- Settle behind some groups -/
structure GrS (n : Nat) (f : Nat → Int) (left G : Nat) (v : Nat → Int) (P : List Pmt) : Prop where
 set : SetS n f v P
 lt : left < 2 ^ n
 sum : smI f left n = 0
 out : ∀ i, i < n → left.testBit i = false → v i = 0
 ins : ∀ i, left.testBit i = true → v i = f i
 cnt : P.length + G + cd left n = n
theorem GrS.start {n : Nat} {f : Nat → Int} (hb : ∀ i, i < n → -10000 ≤ f i ∧ f i ≤ 10000) (h0 : smI f (2 ^ n - 1) n = 0) : GrS n f (2 ^ n - 1) 0 f [] :=
 ⟨SetS.start hb, by have := Nat.two_pow_pos n; omega, h0, fun i hi h => (by rw [all_bit] at h; simp at h; omega), fun _ _ => rfl, by rw [cd_all n n (Nat.le_refl _)]; simp⟩
theorem GrS.min {n : Nat} {f v : Nat → Int} {left G g : Nat} {P : List Pmt} (h : GrS n f left G v P) (hg : Cand n f left g) : MinG n v g :=
 (hg.min h.lt h.sum).congr (fun i hi => h.ins i (hg.sub.bit hi))
theorem GrS.next {n : Nat} {f v0 v : Nat → Int} {left G g k u : Nat} {P0 P : List Pmt} (h : GrS n f left G v0 P0) (hg : Cand n f left g) (hs : SetS n f v P) (hu : StG n v0 g v k u) (hn : ∀ i, g.testBit i = true → 0 ≤ v i) (hk : P.length = P0.length + k) :
  GrS n f (left - g) (G + 1) v P := by
 obtain ⟨d1, d2⟩ := hu.done (h.min hg) hn
 have hle := hg.sub.le
 have hnu : ∀ i, g.testBit i = false → v i = v0 i := fun i hi => hu.out i (by
  rcases hb : u.testBit i with _ | _
  ·rfl
  ·rw [hu.sb.bit hb] at hi; cases hi)
 refine ⟨hs, by have := h.lt; omega, ?_, fun i hi hb => ?_, fun i hb => ?_, ?_⟩
 ·have := smI_rest f hg.sub n
  have := h.sum
  have := hg.sum
  omega
 ·rcases hg1 : g.testBit i with _ | _
  ·rw [hnu i hg1]
   refine h.out i hi ?_
   rw [rest_bit hg.sub, hg1] at hb
   simpa using hb
  ·exact d1 i hg1
 ·rw [rest_bit hg.sub, Bool.and_eq_true] at hb
  rw [hnu i (by simpa using hb.2)]
  exact h.ins i hb.1
 ·have := cd_rest hg.sub n
  have := h.cnt
  omega
/-- the groups with more than one member -/
def bigC (n : Nat) : List Nat → Nat
 | [] => 0
 | g :: l => (if 1 < (mem g n).length then 1 else 0) + bigC n l
theorem few_count {n : Nat} {f : Nat → Int} : ∀ {L : List Nat} {start : Nat}, start < 2 ^ n → smI f start n = 0 → GrpP n f start L 0 → nzC f start n + L.length = cd start n + bigC n L
 | [], start, _, _, h => by
  obtain rfl : 0 = start := h
  rw [nzC_none n (fun i _ hi => by simp at hi), cd_zero]; rfl
 | g :: l, start, hl, h0, h => by
  obtain ⟨hb, hr⟩ := h
  have hm := (hb.1.min hl h0).count
  have ih := few_count (start := start - g) (by have := hb.1.sub.le; omega) (hb.rest h0) hr
  have a := nzC_rest (f := f) hb.1.sub n
  have b := cd_rest hb.1.sub n
  simp only [List.length_cons, bigC, mem_cd]
  omega
/-- how many payments Settle makes -/
theorem few_ok {n : Nat} {f v : Nat → Int} {L : List Nat} {P : List Pmt} (h0 : smI f (2 ^ n - 1) n = 0) (hL : GrpP n f (2 ^ n - 1) L 0) (h : GrS n f 0 L.length v P) : P.length + bigC n L = nzC f (2 ^ n - 1) n := by
 have a := few_count (by have := Nat.two_pow_pos n; omega) h0 hL
 rw [cd_all n n (Nat.le_refl _)] at a
 have b := h.cnt
 rw [cd_zero] at b
 omega
theorem GrS.end {n : Nat} {f v : Nat → Int} {G : Nat} {P P' : List Pmt} (h : GrS n f 0 G v P) (hp : P.Perm P') (hs : P'.Pairwise (fun a b => ¬ ltK b a)) : SetOK n f P' :=
 h.set.done (fun i hi => h.out i hi (by simp)) hp hs
end Go.Proofs.YtcnaagiicpkcpaaGreat

/- Balances with all signs reversed; a grouping is a partition. -/
namespace Go.Proofs.YtcnaagiicpkcpaaGreat
section
variable {n : Nat} {f : Nat → Int}
theorem smI_neg (s : Nat) : ∀ k, smI (fun i => -f i) s k = -smI f s k
 | 0 => rfl
 | k + 1 => by
  simp only [smI, smI_neg s k]
  split <;> omega
theorem smI_neg0 (s k : Nat) : smI (fun i => -f i) s k = 0 ↔ smI f s k = 0 := by rw [smI_neg]; omega
theorem gmF_neg : ∀ k s, gmF n (fun i => -f i) k s = gmF n f k s
 | 0, _ => rfl
 | k + 1, s => by
  have e : gmF n (fun i => -f i) k = gmF n f k := funext (gmF_neg k)
  simp only [gmF, e, smI_neg0]
theorem pm_neg (s : Nat) : pm n (fun i => -f i) s = pm n f s := gmF_neg s s
theorem Cand.neg {left s : Nat} (h : Cand n f left s) : Cand n (fun i => -f i) left s := ⟨h.sub, h.pos, h.low, by rw [smI_neg0]; exact h.sum, by rw [pm_neg, pm_neg]; exact h.most⟩
theorem Cand.neg' {left s : Nat} (h : Cand n (fun i => -f i) left s) : Cand n f left s := ⟨h.sub, h.pos, h.low, by rw [← smI_neg0]; exact h.sum, by have := h.most; rw [pm_neg, pm_neg] at this; exact this⟩
theorem Best.neg {left s : Nat} (h : Best n f left s) : Best n (fun i => -f i) left s := ⟨h.1.neg, fun c hc => h.2 c hc.neg'⟩
theorem GrpP.neg : ∀ {L : List Nat} {start : Nat}, GrpP n f start L 0 → GrpP n (fun i => -f i) start L 0
 | [], _, h => h
 | g :: l, start, h => ⟨h.1.neg, GrpP.neg h.2⟩
theorem nzC_neg (s : Nat) : ∀ k, nzC (fun i => -f i) s k = nzC f s k
 | 0 => rfl
 | k + 1 => by
  simp only [nzC, nzC_neg s k]
  have : (-f k ≠ 0) ↔ (f k ≠ 0) := by omega
  simp only [this]
theorem GrpP.sub : ∀ {L : List Nat} {start g : Nat}, GrpP n f start L 0 → g ∈ L → Sb g start
 | [], _, _, _, h => by cases h
 | x :: l, start, g, h, hg => by
  rcases List.mem_cons.1 hg with e | e
  ·subst e; exact h.1.1.sub
  ·exact (GrpP.sub h.2 e).trans (rest_sb h.1.1.sub)
end
end Go.Proofs.YtcnaagiicpkcpaaGreat

/- debt.Groups at any balances. -/
namespace Go.Proofs.YtcnaagiicpkcpaaGreat
open Go.RowKit
attribute [local go_sem ↓] Go.wp_at_zero Go.wp_at_succ
/-- the lengths and the members of sets -/
def mlen (L : List Nat) (i : Nat) : Nat := (mem (L.getD i 0) 10).length
def mF (L : List Nat) (i : Nat) : Nat → Int := lsF (mem (L.getD i 0) 10)
theorem GrpP.lt {n : Nat} {f : Nat → Int} {L : List Nat} (h : GrpP n f (2 ^ n - 1) L 0) (hn : n ≤ 10) (i : Nat) (hi : i < L.length) : L.getD i 0 < 1024 := by
 have e : L.getD i 0 = L[i] := by simp [hi]
 have h1 := (GrpP.sub h (List.getElem_mem hi)).le
 have h2 : 2 ^ n ≤ 2 ^ 10 := Nat.pow_le_pow_right (by omega) hn
 rw [e]; have := Nat.two_pow_pos n; omega
theorem members_at (L : List Nat) (q s : Nat) (hs : s = L.getD q 0) (w : World) (h : s < 1024) :
  Calls Tryz.prog 15 #[.int .i64 (s : Nat)] w fun e w' => ∃ va vk, e = .returned (.slice va (mlen L q) vk) ∧ w'.ownsRow w.heap.size 3 1 (.slice va (mlen L q) vk) (mlen L q) (ics (mF L q) (mlen L q)) ∧ Below w.heap.size w w' := by
 refine (members_any s w h).mono ?_
 rintro e w' ⟨va, vk, rfl, ho, hb⟩
 rw [intC_ics] at ho
 subst hs
 exact ⟨va, vk, rfl, ho, hb⟩
set_option maxHeartbeats 4000000 in
set_option maxRecDepth 100000 in
theorem Groups_any (v : Value) (n : Nat) (f : Nat → Int) (w : World) (hv : Ints w v n f) (hB : Balances n f) :
  Calls Tryz.prog 6 #[v] w fun e w' => ∃ va vk L, e = .returned (.tuple #[.slice va L.length vk, .int .i64 0]) ∧ GrpP n f (2 ^ n - 1) L 0 ∧ L.length ≤ 1023 ∧ Mat w' (.slice va L.length vk) L.length (mlen L) (mF L) ∧ Below w.heap.size w w' := by
 have HV := Lib.hid hv
 have HB := Lib.hid hB
 have hn10 : n ≤ 10 := hB.2.1
 obtain ⟨i0, hinf, hz0, hz1, hz2⟩ := info_parts infoM
 clear hv hB
 go_enter Tryz.func6, Tryz.ntmps6
 go_wp2_with (first
  | (go_at_call 13; (with_reducible refine (balanced_any v n f true ⟨fun _ => HB.out, fun _ => rfl⟩ _ HV.out (by omega)).mono ?_); rintro e w1 ⟨rfl, rfl⟩)
  | (go_at_call 14; (with_reducible refine (groups_any v n f _ HV.out HB.out).mono ?_); rintro e w1 ⟨va, vk, L, rfl, hG, hL, ⟨a, b, o, c, hvv, hs⟩, hb⟩; cases hvv; have HS := Lib.hid hs; have KW := Lib.hid hb; have HG := Lib.hid hG; clear hs hb hG))
 obtain ⟨N, hN⟩ : ∃ N, N = L.length := ⟨_, rfl⟩
 have HN := Lib.hid hN
 have HLT : Hid (∀ i, i < N → L.getD i 0 < 1024) := Lib.hid (fun i hi => HG.out.lt hn10 i (by rw [← hN]; exact hi))
 rw [← hN] at HS hL ⊢
 clear hN
 have KW0 := Lib.hid (Below.refl w1.heap.size w1)
 have G0 := Lib.hid (RowsIn.start (m := mlen L) (f := mF L) (World.ownsRow_nil w1 w1.heap.size 22 1))
 go_loopw [4, 13] (fun v4 v13 wr => ∃ q : Nat, q ≤ N ∧ v13 = .int .i64 (q : Nat) ∧ ∃ va4 vk4 ra rc, v4 = .slice va4 q vk4 ∧ Hid (RowsIn w1.heap.size wr q (.slice va4 q vk4) ra rc (mlen L) (mF L)) ∧ Hid (Below w1.heap.size w1 wr)) (fun _ v13 _ => N - (intOf v13).toNat)
 case atStart => exact ⟨0, by omega, rfl, none, 0, _, _, rfl, G0, KW0⟩
 case round =>
  clear G0 KW0
  obtain ⟨q, hq, rfl, va4, vk4, ra, rc, rfl, G, KQ⟩ := hrel
  by_cases h : q < N
  ·have e1 : decide ((q : Int) < (N : Int)) = true := by simpa using h
   have e1n : decide (q < N) = true := by simpa using h
   have hix := fun W => ixI HS.out q vk h W
   have hc := (HS.out.mono KQ.out (Nat.le_refl _)).cell q h
   simp only [ic, lsF] at hc
   have HQ := Lib.hid (HLT.out q h)
   obtain ⟨s, hsq⟩ : ∃ s, s = L.getD q 0 := ⟨_, rfl⟩
   rw [← hsq] at hc HQ
   have HSQ := Lib.hid hsq
   clear hsq
   go_wp2_with (first
    | (go_at_call 15; (with_reducible refine (members_at L q s HSQ.out _ HQ.out).mono ?_); rintro e w2 ⟨va2, vk2, rfl, ho2, hb2⟩; have OW2 : Hid (w2.ownsRow wr.heap.size 3 1 (.slice va2 (mlen L q) vk2) (mlen L q) (ics (mF L q) (mlen L q))) := Lib.hid ho2; have HB2 := Lib.hid hb2; have KW2 := Lib.hid (KQ.out.trans (hb2.mono KQ.out.size)); have OW := Lib.hid (own_kept G.out.own hb2); clear ho2 hb2)
    | (at_builtin; refine wpList_append_own_at _ rfl (.tmp 17) (.tmp 20) 24 rfl w1.heap.size 22 i0 (.slice none 0 0) 1 24 Tryz.underlying24 hinf hz0 hz1 hz2 rfl (by decide) (.slice va4 q vk4) q (rowCells ra (mlen L) rc q) rfl (OW.out.alloc _) ⟨w2.heap.size, 0, none⟩ 1 1 [.slice va2 (mlen L q) vk2] rfl rfl (new1 w2 (.slice va2 (mlen L q) vk2) 22) (one1 _ rfl) (by unfold maxLen; omega) (by omega) (by have := KW2.out.size; simp; omega) ?_; intro v' w5 hown hgrow _ hbk; have HOWN := Lib.hid hown; have HGROW := Lib.hid hgrow; have HBK := Lib.hid hbk; obtain ⟨va5, vk5, rfl⟩ := own_shape hown; clear hown hgrow hbk))
   go_roundw
   case rel =>
    have G2 := G.out.push KQ.out.size HB2.out OW2.out _ HGROW.out HBK.out HOWN.out
    exact ⟨q + 1, by omega, by go_num, va5, vk5, _, _, rfl, Lib.hid G2, Lib.hid ((KW2.out.alloc KW2.out.size _).grown HGROW.out (by have := KW2.out.size; simp; omega) (fun kk e => (G.out.own.lt kk e).1))⟩
   case measure => simp [intOf]; omega
  ·obtain rfl : q = N := by omega
   have e1 : decide ((q : Int) < (q : Int)) = false := by simp
   go_wp2
   go_ret2
   have e := HN.out
   subst e
   exact ⟨_, _, L, rfl, HG.out, hL, G.out.mat, KW.out.trans (KQ.out.mono KW.out.size)⟩
end Go.Proofs.YtcnaagiicpkcpaaGreat
