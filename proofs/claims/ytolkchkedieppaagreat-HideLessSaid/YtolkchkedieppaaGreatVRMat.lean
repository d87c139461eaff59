/- Plain: how great the solution of equations in integers can be. -/
import Derived.Test.YtolkchkedieppaaGreatVPlainE
import Derived.Test.YtolkchkedieppaaGreatVPlainLy
import Derived.Test.YtolkchkedieppaaGreatVOwnI
set_option linter.unusedVariables false
set_option linter.unusedSimpArgs false
namespace Go.Proofs.YtolkchkedieppaaGreat
theorem int_divInt (a : Int) : (a : Rat) = Rat.divInt a 1 := by
  apply Rat.ext
  · rw [Rat.num_intCast, Rat.num_divInt]; simp
  · rw [Rat.den_intCast, Rat.den_divInt]; simp
theorem mul_den_num (w : Rat) : w * (w.den : Rat) = (w.num : Rat) := by
  have a1 : (w.den : Rat) = Rat.divInt (w.den : Int) 1 := int_divInt (w.den : Int)
  have a3 : ((w.den : Nat) : Int) ≠ 0 := by have := w.den_pos; omega
  have a4 : w = Rat.divInt w.num w.den := (Rat.num_divInt_den w).symm
  rw [a1, int_divInt w.num]
  conv => lhs; arg 1; rw [a4]
  rw [Rat.divInt_mul_divInt, Int.mul_comm (w.den : Int) 1, Rat.divInt_mul_right a3]
/-- the parts of a number in lowest terms are at most those of any quotient that it is -/
theorem lowest_le {w : Rat} {p q : Int} (hq : q ≠ 0) (h : (q : Rat) * w = (p : Rat)) : w.num.natAbs ≤ p.natAbs ∧ w.den ≤ q.natAbs := by
  have e1 : w.num * q = p * w.den := by
    have e2 : w = mkRat w.num w.den := (Rat.mkRat_self w).symm
    have hd : (w.den : Rat) ≠ 0 := by
      intro e
      have : ((w.den : Int) : Rat) = ((0 : Int) : Rat) := e
      have := Rat.intCast_inj.1 this
      have := w.den_pos
      omega
    have e3 : w * (w.den : Rat) = (w.num : Rat) := mul_den_num w
    have e4 : ((w.num * q : Int) : Rat) = ((p * w.den : Int) : Rat) := by
      rw [Rat.intCast_mul, Rat.intCast_mul, ← e3, ← h]
      have : ((w.den : Int) : Rat) = (w.den : Rat) := rfl
      rw [this]; grind
    exact Rat.intCast_inj.1 e4
  have e2 : w.num.natAbs * q.natAbs = p.natAbs * w.den := by
    have := congrArg Int.natAbs e1
    simpa [Int.natAbs_mul] using this
  have hc : Nat.Coprime w.num.natAbs w.den := w.reduced
  constructor
  · by_cases hp : p.natAbs = 0
    · rw [hp] at e2
      have : 0 < q.natAbs := by omega
      have : w.num.natAbs = 0 := by
        rcases Nat.eq_zero_or_pos w.num.natAbs with h | h
        · exact h
        · have := Nat.mul_pos h this; omega
      omega
    · exact Nat.le_of_dvd (by omega) (hc.dvd_of_dvd_mul_right ⟨_, e2.symm⟩)
  · exact Nat.le_of_dvd (by omega) (hc.symm.dvd_of_dvd_mul_left ⟨p.natAbs, by rw [e2, Nat.mul_comm]⟩)
end Go.Proofs.YtolkchkedieppaaGreat

/- Plain: how many limbs sums, products and quotients of rational numbers have; the solution of a triangle. -/
namespace Go.Proofs.YtolkchkedieppaaGreat
theorem nl_lt (x : Nat) : x < 4294967296 ^ nl x := (nl_le x (nl x)).1 (Nat.le_refl _)
theorem nl_mul_le (x y : Nat) : nl (x * y) ≤ nl x + nl y := by
  rw [nl_le, Nat.pow_add]
  exact Nat.mul_lt_mul'' (nl_lt x) (nl_lt y)
theorem nl_add_le {x y k : Nat} (hx : nl x ≤ k) (hy : nl y ≤ k) : nl (x + y) ≤ k + 1 := by
  rw [nl_le] at hx hy ⊢
  rw [Nat.pow_succ]; omega
/-- limbs of the greater part -/
def szQ (q : Rat) : Nat := max (nl q.num.natAbs) (nl q.den)
theorem szQ_num (q : Rat) : nl q.num.natAbs ≤ szQ q := Nat.le_max_left _ _
theorem szQ_den (q : Rat) : nl q.den ≤ szQ q := Nat.le_max_right _ _
theorem szQ_le {q : Rat} {k : Nat} (h1 : nl q.num.natAbs ≤ k) (h2 : nl q.den ≤ k) : szQ q ≤ k := Nat.max_le.2 ⟨h1, h2⟩
theorem szQ_quot {w : Rat} {p q : Int} {k : Nat} (hq : q ≠ 0) (h : (q : Rat) * w = (p : Rat)) (h1 : nl p.natAbs ≤ k) (h2 : nl q.natAbs ≤ k) : szQ w ≤ k := by
  obtain ⟨e1, e2⟩ := lowest_le hq h
  exact szQ_le (Nat.le_trans (nl_mono e1) h1) (Nat.le_trans (nl_mono e2) h2)
theorem den_ne (q : Rat) : (q.den : Int) ≠ 0 := by have := q.den_pos; omega
theorem den_mul (q : Rat) : ((q.den : Int) : Rat) * q = (q.num : Rat) := by
  have := mul_den_num q
  have e : ((q.den : Int) : Rat) = (q.den : Rat) := rfl
  rw [e]; grind
theorem szQ_mul (a b : Rat) : szQ (a * b) ≤ szQ a + szQ b := by
  refine szQ_quot (p := a.num * b.num) (q := (a.den : Int) * (b.den : Int)) (Int.mul_ne_zero (den_ne a) (den_ne b)) ?_ ?_ ?_
  · rw [Rat.intCast_mul, Rat.intCast_mul, ← den_mul a, ← den_mul b]; grind
  · rw [Int.natAbs_mul]
    have := nl_mul_le a.num.natAbs b.num.natAbs
    have := szQ_num a; have := szQ_num b; omega
  · rw [Int.natAbs_mul, Int.natAbs_natCast, Int.natAbs_natCast]
    have := nl_mul_le a.den b.den
    have := szQ_den a; have := szQ_den b; omega
theorem szQ_add (a b : Rat) : szQ (a + b) ≤ szQ a + szQ b + 1 := by
  refine szQ_quot (p := a.num * (b.den : Int) + b.num * (a.den : Int)) (q := (a.den : Int) * (b.den : Int)) (Int.mul_ne_zero (den_ne a) (den_ne b)) ?_ ?_ ?_
  · rw [Rat.intCast_add, Rat.intCast_mul, Rat.intCast_mul, Rat.intCast_mul, ← den_mul a, ← den_mul b]; grind
  · refine Nat.le_trans (nl_mono (Int.natAbs_add_le _ _)) ?_
    rw [Int.natAbs_mul, Int.natAbs_mul, Int.natAbs_natCast, Int.natAbs_natCast]
    have h1 := nl_mul_le a.num.natAbs b.den
    have h2 := nl_mul_le b.num.natAbs a.den
    have := szQ_num a; have := szQ_num b
    have := szQ_den a; have := szQ_den b
    exact nl_add_le (by omega) (by omega)
  · rw [Int.natAbs_mul, Int.natAbs_natCast, Int.natAbs_natCast]
    have := nl_mul_le a.den b.den
    have := szQ_den a; have := szQ_den b; omega
theorem szQ_neg (a : Rat) : szQ (-a) = szQ a := by
  unfold szQ; rw [Rat.neg_num, Rat.neg_den, Int.natAbs_neg]
theorem szQ_sub (a b : Rat) : szQ (a - b) ≤ szQ a + szQ b + 1 := by
  rw [Rat.sub_eq_add_neg]
  have := szQ_add a (-b)
  rwa [szQ_neg] at this
theorem szQ_int (n : Int) (h : n.natAbs < 4294967296 ^ 2) : szQ (n : Rat) ≤ 2 := by
  refine szQ_le ?_ ?_
  · rw [Rat.num_intCast, nl_le]; exact h
  · rw [Rat.den_intCast, nl_le]; decide
/-- row i of a triangle, its sum taken from the right side one by one -/
def backS (t : Nat → Nat → Rat) (x : Nat → Rat) (n i : Nat) : Nat → Rat
  | 0 => t i n
  | d + 1 => backS t x n i d - t i (i + 1 + d) * x (i + 1 + d)
theorem backS_sum (t : Nat → Nat → Rat) (x : Nat → Rat) (n i : Nat) : ∀ d, backS t x n i d = t i n - sumQ (fun j => if i + 1 ≤ j then t i j * x j else 0) (i + 1 + d)
  | 0 => by
    rw [sumQ_eq_zero _ (fun j hj => if_neg (by omega))]
    simp only [backS]; grind
  | d + 1 => by
    simp only [backS]
    rw [backS_sum t x n i d, show i + 1 + (d + 1) = i + 1 + d + 1 by omega]
    simp only [sumQ]
    rw [if_pos (by omega)]; grind
theorem back_div (t : Nat → Nat → Rat) (x : Nat → Rat) (n i : Nat) (hi : i < n) (hp : t i i ≠ 0) (h : resid n i t x i = 0) : backS t x n i (n - (i + 1)) / t i i = x i := by
  rw [backS_sum, show i + 1 + (n - (i + 1)) = n by omega]
  unfold resid at h
  rw [sumQ_split (fun j => t i j * x j) i n hi] at h
  rw [Rat.div_def]
  have h2 : t i n - sumQ (fun j => if i + 1 ≤ j then t i j * x j else 0) n = t i i * x i := by grind
  rw [h2]; grind
theorem szQ_back {A X : Nat} (t : Nat → Nat → Rat) (x : Nat → Rat) (n i : Nat) (hA : ∀ j, j ≤ n → szQ (t i j) ≤ A) (hX : ∀ j, j < n → szQ (x j) ≤ X) : ∀ d, i + 1 + d ≤ n → szQ (backS t x n i d) ≤ A + d * (A + X + 1)
  | 0, h => by simp only [backS]; have := hA n (Nat.le_refl _); omega
  | d + 1, h => by
    have h1 := szQ_back t x n i hA hX d (by omega)
    have h2 := hA (i + 1 + d) (by omega)
    have h3 := hX (i + 1 + d) (by omega)
    have h4 := szQ_sub (backS t x n i d) (t i (i + 1 + d) * x (i + 1 + d))
    have h5 := szQ_mul (t i (i + 1 + d)) (x (i + 1 + d))
    simp only [backS]
    rw [Nat.add_mul, Nat.one_mul]
    omega
end Go.Proofs.YtolkchkedieppaaGreat

/- A matrix of Rats in memory of a call's own; Zero of package linear. -/
namespace Go.Proofs.YtolkchkedieppaaGreat
open Go.RowKit
attribute [local go_sem ↓] Go.wp_at_zero Go.wp_at_succ
theorem RatIs.tight {w : World} {v : Value} {q : Rat} {m n : Nat} (h : RatIs w v q m) (hn : szQ q ≤ n) : RatIs w v q n := by
  obtain ⟨u, d, rfl, h1, h2, _, _⟩ := h
  exact ⟨u, d, rfl, h1, h2, Nat.le_trans (szQ_num q) hn, Nat.le_trans (szQ_den q) hn⟩
theorem RatIs.sz {w : World} {v : Value} {q : Rat} {m : Nat} (h : RatIs w v q m) : szQ q ≤ m := by
  obtain ⟨u, d, rfl, _, _, h3, h4⟩ := h
  exact szQ_le h3 h4
/-- a store of a Rat into another block, over a Rat -/
theorem RowP.far4 {w : World} {g n K b o : Nat} {P : Nat → Prop} {q : Nat → Rat} {s t : Bool} {a a2 : Option Addr} {m c m2 c2 : Nat} (h : RowP w g n P q K) (u0 u1 u2 u3 : Value)
    (hr : Rd4 w b o (.bool s) (.slice a m c) (.bool t) (.slice a2 m2 c2)) (hne : b ≠ g) : RowP (st4 w b o u0 u1 u2 u3) g n P q K :=
  ⟨fun j hj => by
    obtain ⟨s', a', m', c', a2', m2', c2', h1, h2⟩ := h.cell j hj
    exact ⟨s', a', m', c', a2', m2', c2', h1.far _ _ _ _ hne, fun p => (h2 p).at4 _ _ _ _ hr⟩,
   fun o' => by rw [frozen_st4]; exact h.f o', by rw [size_st4]; exact h.lt⟩
/-- a matrix of k rows: their headers in block g, row i in block rb i; all of it at or above block B -/
structure RMat (w : World) (B g k cols : Nat) (rb rc : Nat → Nat) (Q : Nat → Nat → Rat) (K : Nat) : Prop where
  hdr : ∀ i, i < k → w.cell? ⟨g, i, none⟩ = some (.slice (some ⟨rb i, 0, none⟩) cols (rc i))
  hf : ∀ o, w.frozen? ⟨g, o, none⟩ = false
  gB : B ≤ g
  gl : g < w.heap.size
  row : ∀ i, i < k → RatRow w (rb i) cols (Q i) K
  rB : ∀ i, i < k → B ≤ rb i
  ne : ∀ i, i < k → rb i ≠ g
  apart : ∀ i j, i < k → j < k → i ≠ j → rb i ≠ rb j
section
variable {w w' : World} {B g k cols K B' : Nat} {rb rc : Nat → Nat} {Q : Nat → Nat → Rat}
theorem RMat.below (h : RMat w B g k cols rb rc Q K) (hb : Below B' w w') (hB : w.heap.size ≤ B') : RMat w' B g k cols rb rc Q K :=
  ⟨fun i hi => bel1 hb (h.hdr i hi) (Nat.lt_of_lt_of_le h.gl hB), fun o => (hb.frozen (p := ⟨g, o, none⟩) (Nat.lt_of_lt_of_le h.gl hB)).trans (h.hf o), h.gB, Nat.lt_of_lt_of_le h.gl hb.size,
   fun i hi => (h.row i hi).below hb hB, h.rB, h.ne, h.apart⟩
theorem RMat.alloc (h : RMat w B g k cols rb rc Q K) (o : Obj) : RMat (w.alloc o) B g k cols rb rc Q K := h.below ((Below.refl w.heap.size w).alloc (Nat.le_refl _) o) (Nat.le_refl _)
theorem RMat.le {K' : Nat} (h : RMat w B g k cols rb rc Q K) (hK : K ≤ K') : RMat w B g k cols rb rc Q K' := ⟨h.hdr, h.hf, h.gB, h.gl, fun i hi => (h.row i hi).le hK, h.rB, h.ne, h.apart⟩
theorem RMat.congr {Q' : Nat → Nat → Rat} (h : RMat w B g k cols rb rc Q K) (e : ∀ i j, i < k → j < cols → Q i j = Q' i j) : RMat w B g k cols rb rc Q' K :=
  ⟨h.hdr, h.hf, h.gB, h.gl, fun i hi => (h.row i hi).congr (fun j hj _ => ⟨trivial, e i j hi hj⟩), h.rB, h.ne, h.apart⟩
/-- element (i, j) turned -/
def updM (Q : Nat → Nat → Rat) (i j : Nat) (x : Rat) (r c : Nat) : Rat := if r = i ∧ c = j then x else Q r c
theorem RMat.set {i j : Nat} {x : Rat} {s : Bool} {a a2 : Option Addr} {m c m2 c2 : Nat} (h : RMat w B g k cols rb rc Q K) (hi : i < k) (hj : j < cols)
    (hx : RatIs w (.agg #[.bool s, .slice a m c, .bool false, .slice a2 m2 c2]) x K) :
    RMat (st4 w (rb i) (j * 4) (.bool s) (.slice a m c) (.bool false) (.slice a2 m2 c2)) B g k cols rb rc (updM Q i j x) K := by
  obtain ⟨s', a', m', c', a2', m2', c2', hr, _⟩ := (h.row i hi).cell j hj
  refine ⟨fun r hr2 => (far4 _ _ _ _ (h.ne i hi)).trans (h.hdr r hr2), fun o => by rw [frozen_st4]; exact h.hf o, h.gB, by rw [size_st4]; exact h.gl, fun r hr2 => ?_, h.rB, h.ne, h.apart⟩
  by_cases e : r = i
  · subst e
    refine ((h.row r hi).set hj rfl hx).congr (fun l hl _ => ?_)
    by_cases e2 : l = j
    · exact ⟨.inl e2, by simp [updQ, updM, e2]⟩
    · exact ⟨.inr trivial, by simp [updQ, updM, e2]⟩
  · refine ((h.row r hr2).far4 _ _ _ _ hr (h.apart i r hi hr2 (fun q => e q.symm))).congr (fun l hl _ => ⟨trivial, ?_⟩)
    simp [updM, e]
/-- a store of a Rat into a block beside the matrix -/
theorem RMat.far {b o : Nat} {s t : Bool} {a a2 : Option Addr} {m c m2 c2 : Nat} (h : RMat w B g k cols rb rc Q K) (u0 u1 u2 u3 : Value)
    (hr : Rd4 w b o (.bool s) (.slice a m c) (.bool t) (.slice a2 m2 c2)) (hg : b ≠ g) (hb : ∀ i, i < k → b ≠ rb i) : RMat (st4 w b o u0 u1 u2 u3) B g k cols rb rc Q K :=
  ⟨fun r hr2 => (far4 _ _ _ _ hg).trans (h.hdr r hr2), fun o => by rw [frozen_st4]; exact h.hf o, h.gB, by rw [size_st4]; exact h.gl, fun r hr2 => (h.row r hr2).far4 _ _ _ _ hr (hb r hr2), h.rB, h.ne, h.apart⟩
end
theorem rat_zero (w : World) : Calls Tryz.prog 112 #[.int .i64 0] w fun e w' => ∃ s a n c a2 n2 c2, e = .returned (.agg #[.bool s, .slice a n c, .bool false, .slice a2 n2 c2]) ∧ Hid (RatIs w' (.agg #[.bool s, .slice a n c, .bool false, .slice a2 n2 c2]) 0 2) ∧ Below w.heap.size w w' := by
  refine (rat_whole 0 (by omega) (by omega) w).mono ?_
  rintro e w' ⟨r, rfl, hr, hb⟩
  obtain ⟨s, a, n, c, a2, n2, c2, rfl, H⟩ := hr.shape
  exact ⟨s, a, n, c, a2, n2, c2, rfl, H, hb⟩
/-- the headers, k of them laid -/
def hdrV (rb : Nat → Nat) (n k i : Nat) : Value := if i < k then .slice (some ⟨rb i, 0, none⟩) n n else .slice none 0 0
set_option maxHeartbeats 2000000 in
theorem zero_any (n : Nat) (h0 : 0 < n) (hn : n ≤ 24) (w : World) :
    Calls Tryz.prog 110 #[.int .i64 (n : Nat), .int .i64 (n : Nat)] w fun e w' => ∃ g rb, e = .returned (.slice (some ⟨g, 0, none⟩) n n) ∧ RMat w' w.heap.size g n n rb (fun _ => n) (fun _ _ => 0) 2 ∧ Below w.heap.size w w' := by
  have hmk := mkMn n (by omega)
  have HROW : Hid ((w.alloc (.cells (madeCells #[.slice none 0 0] n) 107)).rowIs w.heap.size 107 n (hdrV (fun _ => 0) n 0)) := Lib.hid ((World.rowIs_made w (.slice none 0 0) n 107).congr (fun i hi => by unfold hdrV; rw [if_neg (by omega)]))
  have KW0 := Lib.hid ((Below.refl w.heap.size w).alloc (Nat.le_refl _) (.cells (madeCells #[.slice none 0 0] n) 107))
  go_enter Tryz.func110, Tryz.ntmps110
  go_wp2
  go_loopw [6, 11] (fun v6 v11 wr => ∃ k : Nat, k ≤ n ∧ v11 = .int .i64 (k : Nat) ∧ ∃ rb, Hid (wr.rowIs w.heap.size 107 n (hdrV rb n k)) ∧ Hid (∀ i, i < k → RatRow wr (rb i) n (fun _ => 0) 2 ∧ w.heap.size < rb i) ∧ Hid (∀ i j, i < j → j < k → rb i ≠ rb j) ∧ Hid (Below w.heap.size w wr)) (fun _ v11 _ => n - (intOf v11).toNat)
  case atStart => exact ⟨0, by omega, rfl, _, HROW, Lib.hid (fun i hi => by omega), Lib.hid (fun i j h1 h2 => by omega), KW0⟩
  case round =>
    clear HROW KW0
    obtain ⟨k, hk, rfl, rb, HROW, HR, HA, KW⟩ := hrel
    by_cases h : k < n
    · have ix1 := fun W => ixL w.heap.size 0 n n k h W
      simp only [Nat.zero_add] at ix1
      have HWL := Lib.hid HROW.out.lt
      go_wp2_with (first
        | (go_at_call 112; (with_reducible refine (rat_zero _).mono ?_); rintro e w1 ⟨s1, a1, n1, c1, b1, m1, d1, rfl, K1, hb1⟩; have HB1 := Lib.hid hb1; clear hb1)
        | (go_at_call 113; go_loud ((with_reducible refine (repeat_rat _ _ n 0 2 _ _ _ _ _ _ _ _ h0 hn (own4_new _ _ rfl _ _ _ _ _) (K1.out.mono (boxes1 _ _) (Nat.le_refl _))).mono ?_); rintro e w2 ⟨R, rfl, PR, hRg, hb2⟩; have HB2 := Lib.hid (HB1.out.trans (((boxes1 w1 (.cells #[.bool s1, .slice a1 n1 c1, .bool false, .slice b1 m1 d1] 115)).trans (hb2.mono (by simp))).mono HB1.out.size)); have KW := Lib.hid (KW.out.trans (HB2.out.mono KW.out.size)); have HRG : Hid (wr.heap.size ≤ R) := Lib.hid (by have := HB1.out.size; simp at hRg; omega); have PR := Lib.hid PR; have HROW := Lib.hid (rowIs_below HROW.out HB2.out HROW.out.lt); have hc := HROW.out.cell h; have hfz := HROW.out.frozen k; clear hb2 hRg; have hc0 : hdrV rb n k k = .slice none 0 0 := (by unfold hdrV; rw [if_neg (by omega)]); rw [hc0] at hc; clear hc0)))
      go_roundw
      case rel =>
        have hlt : ∀ i, i < k → rb i < wr.heap.size := fun i hi => (HR.out i hi).1.lt
        refine ⟨k + 1, by omega, by go_num, setN rb k R, Lib.hid ((HROW.out.set k _).congr (fun i hi => ?_)), Lib.hid (fun i hi => ?_), Lib.hid (fun i j h1 h2 => ?_), Lib.hid (KW.out.setCell (Nat.le_refl _) _)⟩
        · unfold hdrV
          by_cases e : i = k
          · subst e; rw [if_pos rfl, if_pos (by omega), setN_self]
          · rw [if_neg e, setN_ne _ _ e]
            by_cases e2 : i < k
            · rw [if_pos e2, if_pos (by omega)]
            · rw [if_neg e2, if_neg (by omega)]
        · have hsz := HROW.out.lt
          by_cases e : i = k
          · subst e; rw [setN_self]
            have h1 := HRG.out
            have h2 := HWL.out
            exact ⟨RowP.storeFar PR.out _ hc (noInt_slice _ _ _) (by omega), by omega⟩
          · rw [setN_ne _ _ e]
            have h3 := HR.out i (by omega)
            exact ⟨RowP.storeFar (h3.1.below HB2.out (Nat.le_refl _)) _ hc (noInt_slice _ _ _) (by omega), h3.2⟩
        · by_cases e : j = k
          · subst e; rw [setN_self, setN_ne _ _ (by omega)]
            have h1 := hlt i h1; have := HRG.out; omega
          · rw [setN_ne _ _ e, setN_ne _ _ (by omega)]; exact HA.out i j h1 (by omega)
      case measure => simp [intOf]; omega
    · obtain rfl : k = n := by omega
      go_wp2
      go_ret
      refine ⟨w.heap.size, rb, rfl, ⟨fun i hi => ?_, fun o => HROW.out.frozen o, Nat.le_refl _, HROW.out.lt, fun i hi => (HR.out i hi).1, fun i hi => Nat.le_of_lt (HR.out i hi).2, fun i hi => by have := (HR.out i hi).2; omega, fun i j hi hj hij => ?_⟩, KW.out⟩
      · rw [HROW.out.cell hi]; unfold hdrV; rw [if_pos hi]
      · rcases Nat.lt_or_gt_of_ne hij with h1 | h1
        · exact HA.out i j h1 hj
        · exact fun e => HA.out j i h1 hi e.symm
end Go.Proofs.YtolkchkedieppaaGreat
