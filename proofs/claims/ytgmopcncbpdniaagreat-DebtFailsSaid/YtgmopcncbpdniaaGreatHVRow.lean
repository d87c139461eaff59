/- The reference's fractions as rational numbers: Lowest, Over, DivQ, Make. -/
import Derived.Test.YtgmopcncbpdniaaGreatHBig18
import Derived.Test.YtgmopcncbpdniaaGreatHFig
import Derived.Test.YtgmopcncbpdniaaGreatHPlainB
import Derived.Test.YtgmopcncbpdniaaGreatHKeep
import Derived.Test.YtgmopcncbpdniaaGreatHPlainL
import Derived.Test.YtgmopcncbpdniaaGreatHPlainC
import Derived.Test.YtgmopcncbpdniaaGreatHSol
set_option linter.unusedVariables false
set_option linter.unusedSimpArgs false
namespace Go.Proofs.YtgmopcncbpdniaaGreat
open Go.RowKit
attribute [local go_sem ↓] Go.wp_at_zero Go.wp_at_succ
/-- v is the fraction q, with at most m digits in each part -/
def QV (w : World) (v : Value) (q : Rat) (m : Nat) : Prop := ∃ p d : Int, QIs w v p d m ∧ (p : Rat) = q * (d : Rat)
theorem QIs.le {w : World} {v : Value} {p d : Int} {m k : Nat} (h : QIs w v p d m) (hk : m ≤ k) : QIs w v p d k := by
  obtain ⟨s1, u1, s2, u2, h0, h1, h2, h3⟩ := h
  exact ⟨s1, u1, s2, u2, h0, h1.le hk, h2.le hk, h3⟩
theorem QIs.pos {w : World} {v : Value} {p d : Int} {m : Nat} (h : QIs w v p d m) : 0 < d := by
  obtain ⟨s1, u1, s2, u2, h0, h1, h2, h3⟩ := h
  exact h3
theorem QV.mono {w w' : World} {v : Value} {q : Rat} {m B : Nat} (h : QV w v q m) (hb : Below B w w') (hB : w.heap.size ≤ B) : QV w' v q m := by
  obtain ⟨p, d, h1, h2⟩ := h
  exact ⟨p, d, h1.mono hb hB, h2⟩
theorem QV.le {w : World} {v : Value} {q : Rat} {m k : Nat} (h : QV w v q m) (hk : m ≤ k) : QV w v q k := by
  obtain ⟨p, d, h1, h2⟩ := h
  exact ⟨p, d, h1.le hk, h2⟩
theorem QV.of {w : World} {v : Value} {q : Rat} {m : Nat} (h : QIs w v q.num ((q.den : Nat) : Int) m) : QV w v q m :=
  ⟨_, _, h, (mul_den_num q).symm⟩
theorem QV.shape {w : World} {v : Value} {q : Rat} {m : Nat} (h : QV w v q m) : ∃ s a n c t b l e, v = .agg #[.bool s, .slice a n c, .bool t, .slice b l e] ∧ Hid (QV w (.agg #[.bool s, .slice a n c, .bool t, .slice b l e]) q m) := by
  obtain ⟨p, d, h1, h2⟩ := h
  obtain ⟨s, a, n, c, t, b, l, e, rfl, -, -, -⟩ := h1.shape
  exact ⟨s, a, n, c, t, b, l, e, rfl, p, d, h1, h2⟩
theorem rat_ne {d : Int} (h : 0 < d) : (d : Rat) ≠ 0 := fun e => by
  have : ((d : Int) : Rat) = ((0 : Int) : Rat) := e
  have := Rat.intCast_inj.1 this
  omega
theorem rat_pos {d : Int} (h : 0 < d) : (0 : Rat) < (d : Rat) := Rat.intCast_pos.2 h
theorem mul_pos_iff {a d : Rat} (h : 0 < d) : 0 < a * d ↔ 0 < a := by
  constructor
  · intro h1
    refine Rat.not_le.1 (fun h2 => ?_)
    have h3 := Rat.mul_nonneg (show 0 ≤ -a by grind) (Rat.le_of_lt h)
    have h4 : -a * d = -(a * d) := by grind
    rw [h4] at h3
    grind
  · exact fun h1 => Rat.mul_pos h1 h
/-- how the reference compares -/
def cmpR (a b : Rat) : Int := if a < b then -1 else if a = b then 0 else 1
theorem sgZ_cmp {p q : Int} {d e : Int} {a b : Rat} (hd : 0 < d) (he : 0 < e) (hp : (p : Rat) = a * (d : Rat)) (hq : (q : Rat) = b * (e : Rat)) : sgZ (p * e - q * d) = cmpR a b := by
  have hde := Rat.mul_pos (rat_pos hd) (rat_pos he)
  have e1 : ((p * e - q * d : Int) : Rat) = (a - b) * ((d : Rat) * (e : Rat)) := by
    rw [Rat.intCast_sub, Rat.intCast_mul, Rat.intCast_mul, hp, hq]; grind
  generalize p * e - q * d = z at e1
  have h1 : 0 < z ↔ b < a := by
    have h2 := mul_pos_iff (a := a - b) hde
    rw [← e1, Rat.intCast_pos] at h2
    rw [h2]; constructor <;> intro h <;> grind
  have h2 : z < 0 ↔ a < b := by
    have h2 := mul_pos_iff (a := b - a) hde
    have e2 : (b - a) * ((d : Rat) * (e : Rat)) = ((-z : Int) : Rat) := by rw [Rat.intCast_neg, e1]; grind
    rw [e2, Rat.intCast_pos] at h2
    rw [show z < 0 ↔ 0 < -z by omega, h2]; constructor <;> intro h <;> grind
  unfold sgZ cmpR
  by_cases c1 : z < 0
  · rw [if_pos c1, if_pos (h2.1 c1)]
  · rw [if_neg c1, if_neg (fun h => c1 (h2.2 h))]
    by_cases c2 : z = 0
    · have c3 : a = b := by
        have n1 : ¬ a < b := fun h => c1 (h2.2 h)
        have n2 : ¬ b < a := fun h => by have := h1.2 h; omega
        have := Rat.not_lt.1 n1
        have := Rat.not_lt.1 n2
        grind
      rw [if_pos c2, if_pos c3]
    · have c3 : ¬ a = b := fun h => by
        have : b < a := h1.1 (by omega)
        rw [h] at this; exact absurd this Rat.lt_irrefl
      rw [if_neg c2, if_neg c3]
theorem sgZ_cmp0 {p d : Int} {a : Rat} (hd : 0 < d) (hp : (p : Rat) = a * (d : Rat)) : sgZ p = cmpR a 0 := by
  have h := sgZ_cmp (p := p) (q := 0) (d := d) (e := 1) (a := a) (b := 0) hd (by omega) hp (by simp)
  simpa using h
theorem qv_whole (v : Int) (w : World) (h1 : -9223372036854775808 ≤ v) (h2 : v < 9223372036854775808) :
    Calls Tryz.prog 16 #[.int .i64 v] w fun ex w' => ∃ r, ex = .returned r ∧ QV w' r (v : Rat) 5 ∧ Below w.heap.size w w' := by
  refine (whole_any v h1 h2 w).mono ?_
  rintro e w' ⟨r, rfl, hr, hb⟩
  exact ⟨r, rfl, ⟨v, 1, hr, by simp⟩, hb⟩
theorem qv_mul (x y : Value) (a b : Rat) (k : Nat) (w : World) (hx : QV w x a k) (hy : QV w y b k) (hk : k ≤ 274877906940) :
    Calls Tryz.prog 48 #[x, y] w fun ex w' => ∃ r, ex = .returned r ∧ QV w' r (a * b) (2 * k) ∧ Below w.heap.size w w' := by
  obtain ⟨p, d, h1, e1⟩ := hx
  obtain ⟨q, e, h2, e2⟩ := hy
  refine (qmul_any x y p d q e k w h1 h2 hk).mono ?_
  rintro ex w' ⟨r, rfl, hr, hb⟩
  exact ⟨r, rfl, ⟨_, _, hr, by rw [Rat.intCast_mul, Rat.intCast_mul, e1, e2]; grind⟩, hb⟩
theorem qv_add (x y : Value) (a b : Rat) (k : Nat) (w : World) (hx : QV w x a k) (hy : QV w y b k) (hk : k ≤ 274877906940) :
    Calls Tryz.prog 18 #[x, y] w fun ex w' => ∃ r, ex = .returned r ∧ QV w' r (a + b) (2 * k + 1) ∧ Below w.heap.size w w' := by
  obtain ⟨p, d, h1, e1⟩ := hx
  obtain ⟨q, e, h2, e2⟩ := hy
  refine (qadd_any x y p d q e k w h1 h2 hk).mono ?_
  rintro ex w' ⟨r, rfl, hr, hb⟩
  exact ⟨r, rfl, ⟨_, _, hr, by rw [Rat.intCast_add, Rat.intCast_mul, Rat.intCast_mul, Rat.intCast_mul, e1, e2]; grind⟩, hb⟩
theorem qv_sub (x y : Value) (a b : Rat) (k : Nat) (w : World) (hx : QV w x a k) (hy : QV w y b k) (hk : k ≤ 274877906940) :
    Calls Tryz.prog 28 #[x, y] w fun ex w' => ∃ r, ex = .returned r ∧ QV w' r (a - b) (2 * k + 1) ∧ Below w.heap.size w w' := by
  obtain ⟨p, d, h1, e1⟩ := hx
  obtain ⟨q, e, h2, e2⟩ := hy
  refine (qsub_any x y p d q e k w h1 h2 hk).mono ?_
  rintro ex w' ⟨r, rfl, hr, hb⟩
  exact ⟨r, rfl, ⟨_, _, hr, by rw [Rat.intCast_sub, Rat.intCast_mul, Rat.intCast_mul, Rat.intCast_mul, e1, e2]; grind⟩, hb⟩
theorem qv_cmp (x y : Value) (a b : Rat) (k : Nat) (w : World) (hx : QV w x a k) (hy : QV w y b k) (hk : k ≤ 274877906940) :
    Calls Tryz.prog 14 #[x, y] w fun ex w' => ex = .returned (.int .i64 (cmpR a b)) ∧ Below w.heap.size w w' := by
  obtain ⟨p, d, h1, e1⟩ := hx
  obtain ⟨q, e, h2, e2⟩ := hy
  have g1 := h1.pos
  have g2 := h2.pos
  refine (qcmp_any x y p d q e k w h1 h2 hk).mono ?_
  rintro ex w' ⟨rfl, hb⟩
  exact ⟨by rw [sgZ_cmp g1 g2 e1 e2], hb⟩
/-- Sign of the numerator -/
theorem qv_sign {s t : Bool} {u u2 : Value} (a : Rat) (k : Nat) (w : World) (h : QV w (.agg #[.bool s, u, .bool t, u2]) a k) :
    Calls Tryz.prog 29 #[.agg #[.bool s, u]] w fun ex w' => ex = .returned (.int .i64 (cmpR a 0)) ∧ Below w.heap.size w w' := by
  obtain ⟨p, d, h1, e1⟩ := h
  obtain ⟨s1, u1, s2, u2', h0, g1, g2, g3⟩ := h1
  injection h0 with h0
  injection h0 with h0
  simp only [List.cons.injEq, and_true] at h0
  obtain ⟨h0, h00, -, -⟩ := h0
  injection h0 with h0
  subst h0 h00
  refine (bsign_any _ p k w g1).mono ?_
  rintro ex w' ⟨rfl, hb⟩
  exact ⟨by rw [sgZ_cmp0 g3 e1], hb⟩
set_option maxHeartbeats 4000000 in
theorem qlow_any (x : Value) (p d : Int) (k : Nat) (w : World) (hx : QIs w x p d k) (hk : k ≤ 274877906940) :
    Calls Tryz.prog 50 #[x] w fun ex w' => ∃ r, ex = .returned r ∧ QIs w' r (p / ((Int.gcd p d : Nat) : Int)) (d / ((Int.gcd p d : Nat) : Int)) k ∧ Below w.heap.size w w' := by
  obtain ⟨s1, a1, n1, c1, t1, a2, n2, c2, rfl, HN, HD, hd⟩ := hx.shape
  have bn := HN.out.digits
  have bd := HD.out.digits
  clear hx
  obtain ⟨G, hG⟩ : ∃ G, G = Int.gcd p d := ⟨_, rfl⟩
  have hGp : 0 < G := by rw [hG]; exact Int.gcd_pos_of_ne_zero_right p (by omega)
  have hGn : ((G : Nat) : Int) ∣ p := by rw [hG]; exact Int.gcd_dvd_left p d
  have hGd : ((G : Nat) : Int) ∣ d := by rw [hG]; exact Int.gcd_dvd_right p d
  have m1 : p % ((G : Nat) : Int) = 0 := Int.emod_eq_zero_of_dvd hGn
  have l1 : nd (p / ((G : Nat) : Int)).natAbs ≤ k := Nat.le_trans (nd_mono (by
    rw [Int.natAbs_ediv_of_dvd hGn]; exact Nat.div_le_self _ _)) bn
  have l2 : nd (d / ((G : Nat) : Int)).natAbs ≤ k := Nat.le_trans (nd_mono (by
    rw [Int.natAbs_ediv_of_dvd hGd]; exact Nat.div_le_self _ _)) bd
  have dp : 0 < d / ((G : Nat) : Int) := by
    obtain ⟨c, hc⟩ := hGd
    rw [hc, Int.mul_ediv_cancel_left _ (by omega)]
    refine Int.lt_of_not_ge (fun h => ?_)
    have : ((G : Nat) : Int) * c ≤ 0 := Int.mul_nonpos_of_nonneg_of_nonpos (by omega) h
    omega
  rw [← hG]
  have HG0 := Lib.hid hG
  have HL := Lib.hid (And.intro l1 l2)
  have HM := Lib.hid (Or.inr m1 : 0 ≤ p ∨ p % ((G : Nat) : Int) = 0)
  have HDP := Lib.hid dp
  have HD0 := Lib.hid hd
  have HGP : Hid ((0 : Int) < ((G : Nat) : Int)) := Lib.hid (by omega)
  clear hG hGn hGd m1 l1 l2 dp bn bd hd hGp
  have KW := Lib.hid (boxes2 w (Obj.cells #[.bool s1, .slice a1 n1 c1, .bool t1, .slice a2 n2 c2] 40) (Obj.cells #[.bool false, .slice none 0 0, .bool false, .slice none 0 0] 40))
  have HN := Lib.hid (HN.out.mono KW.out (Nat.le_refl _))
  have HD := Lib.hid (HD.out.mono KW.out (Nat.le_refl _))
  have P1 := Lib.hid ((own4_new w w.heap.size rfl (.bool s1) (.slice a1 n1 c1) (.bool t1) (.slice a2 n2 c2) 40).alloc (Obj.cells #[.bool false, .slice none 0 0, .bool false, .slice none 0 0] 40))
  have P2 := Lib.hid (own4_new (w.alloc (Obj.cells #[.bool s1, .slice a1 n1 c1, .bool t1, .slice a2 n2 c2] 40)) (w.heap.size + 1) (by simp) (.bool false) (.slice none 0 0) (.bool false) (.slice none 0 0) 40)
  obtain ⟨x10, x11, x12, x13, _, xl1⟩ := P1.out
  go_enter Tryz.func50, Tryz.ntmps50
  go_wp2_with fail
  refine (zgcd_any _ _ p d k _ HN.out HD.out (by omega)).mono ?_
  rintro e w1 ⟨g, rfl, hg, hb1⟩
  obtain ⟨sg, ag, ng, cg, rfl, HG⟩ := hg.shape
  rw [← HG0.out] at HG
  have hba := hb1.trans ((Below.refl w1.heap.size w1).alloc (Nat.le_refl _) (Obj.cells #[.bool sg, .slice ag ng cg] 38) |>.mono hb1.size)
  have KW := Lib.hid (KW.out.trans (hba.mono KW.out.size))
  have HN := Lib.hid (HN.out.mono hba (Nat.le_refl _))
  have HD := Lib.hid (HD.out.mono hba (Nat.le_refl _))
  have P1 := Lib.hid (P1.out.below hba P1.out.lt)
  have P2 := Lib.hid (P2.out.below hba P2.out.lt)
  have GB := Lib.hid (own2_new w1 w1.heap.size rfl (.bool sg) (.slice ag ng cg) 38)
  have HG := Lib.hid (HG.out.mono (boxes1 w1 (Obj.cells #[.bool sg, .slice ag ng cg] 38)) (Nat.le_refl _))
  clear hg hb1 hba x10 x11 x12 x13 xl1
  obtain ⟨x10, x11, x12, x13, _, xl1⟩ := P1.out
  obtain ⟨y0, y1, _, yl⟩ := GB.out
  go_wp2_with fail
  refine (zdivmod_any _ _ p ((G : Nat) : Int) k k _ HN.out HG.out HGP.out HM.out (by omega) (by omega)).mono ?_
  rintro e w2 ⟨u2, v2, rfl, hu, hv, hb2⟩
  obtain ⟨s3, a3, n3, c3, rfl, HU⟩ := (hu.tight HL.out.1).shape
  obtain ⟨s4, a4, n4, c4, rfl, -⟩ := hv.shape
  have hbb := boxes2 w2 (Obj.cells #[.bool s3, .slice a3 n3 c3] 38) (Obj.cells #[.bool s4, .slice a4 n4 c4] 38)
  have hba := hb2.trans (hbb.mono hb2.size)
  have KW := Lib.hid (KW.out.trans (hba.mono KW.out.size))
  have HD := Lib.hid (HD.out.mono hba (Nat.le_refl _))
  have P1 := Lib.hid (P1.out.below hba P1.out.lt)
  have P2 := Lib.hid (P2.out.below hba P2.out.lt)
  have GB := Lib.hid (GB.out.below hba GB.out.lt)
  have HG := Lib.hid (HG.out.mono hba (Nat.le_refl _))
  have HU := Lib.hid (HU.out.mono hbb (Nat.le_refl _))
  have NB := Lib.hid ((own2_new w2 w2.heap.size rfl (.bool s3) (.slice a3 n3 c3) 38).alloc (Obj.cells #[.bool s4, .slice a4 n4 c4] 38))
  clear hu hv hb2 hbb hba x10 x11 x12 x13 xl1 y0 y1 yl
  obtain ⟨x10, x11, x12, x13, _, xl1⟩ := P1.out
  obtain ⟨y0, y1, _, yl⟩ := GB.out
  go_wp2_with fail
  refine (zdivmod_any _ _ d ((G : Nat) : Int) k k _ HD.out HG.out HGP.out (.inl (by have := HD0.out; omega)) (by omega) (by omega)).mono ?_
  rintro e w3 ⟨u3, v3, rfl, hu, hv, hb3⟩
  obtain ⟨s5, a5, n5, c5, rfl, HV⟩ := (hu.tight HL.out.2).shape
  obtain ⟨s6, a6, n6, c6, rfl, -⟩ := hv.shape
  have hbb := boxes2 w3 (Obj.cells #[.bool s5, .slice a5 n5 c5] 38) (Obj.cells #[.bool s6, .slice a6 n6 c6] 38)
  have hba := hb3.trans (hbb.mono hb3.size)
  have KW := Lib.hid (KW.out.trans (hba.mono KW.out.size))
  have P2 := Lib.hid (P2.out.below hba P2.out.lt)
  have HU := Lib.hid (HU.out.mono hba (Nat.le_refl _))
  have NB := Lib.hid (NB.out.below hba NB.out.lt)
  have HV := Lib.hid (HV.out.mono hbb (Nat.le_refl _))
  have MB := Lib.hid ((own2_new w3 w3.heap.size rfl (.bool s5) (.slice a5 n5 c5) 38).alloc (Obj.cells #[.bool s6, .slice a6 n6 c6] 38))
  clear hu hv hb3 hbb hba x10 x11 x12 x13 xl1 y0 y1 yl HG GB HD P1
  obtain ⟨x0, x1, x2, x3, xf, xl⟩ := P2.out
  obtain ⟨y0, y1, _, yl⟩ := NB.out
  obtain ⟨z0, z1, _, zl⟩ := MB.out
  go_wp2_with fail
  refine bodyPost_ret (v := .agg #[.bool s3, .slice a3 n3 c3, .bool s5, .slice a5 n5 c5]) (by simp [results, Tryz.results50, go_sem, x0, x1, x2, x3, xf, xl]) rfl ?_
  exact ⟨_, rfl, ⟨_, _, _, _, rfl, HU.out.store4 P2.out _ _ _ _, HV.out.store4 P2.out _ _ _ _, HDP.out⟩, below_set4q KW.out (by omega) _ _ _ _⟩
end Go.Proofs.YtgmopcncbpdniaaGreat

/- The reference's reading of the texts of numbers: Valid, Of, Nums, Qs; nums of the laws. -/
namespace Go.Proofs.YtgmopcncbpdniaaGreat
open Go.RowKit
attribute [local go_sem ↓] Go.wp_at_zero Go.wp_at_succ
/-- a text of the number q, of at most 4000 digits in each part -/
structure TxtQ (s : ByteArray) (q : Rat) : Prop where
  txt : FracTxt s q.num q.den
  mn : MaxD q.num.natAbs
  md : MaxD q.den
/-- texts of n numbers in memory -/
def Strs (w : World) (v : Value) (n : Nat) (ss : Nat → ByteArray) : Prop := Sl w v n (fun j => .string (ss j))
theorem num_s : Tryz.prog.underlying 28 = some (.slice (Tryz.prog.elem 28)) := by kernel_rfl
theorem num_z (W : World) : (sizeOf (Tryz.prog.elem 28)).run Tryz.prog W = .ok 1 W := by kernel_rfl
theorem ixN {w : World} {a : Option Addr} {b o c n : Nat} {g : Nat → Value} (h : IsSl w a b o c n g) (i d : Nat) (hi : i < n) (W : World) :
   (Instr.indexAt 28 (.slice a n d) (.int .i64 (i : Int))).run Tryz.prog W = .ok (.pointer (some ⟨b, o + i, none⟩)) W :=
  run_indexAt_opt 28 num_s num_z a b o n d (fun q => h.at_ q) .i64 i (by omega) (by omega) W
structure TxtQs (n : Nat) (q : Nat → Rat) (ss : Nat → ByteArray) : Prop where
  txt : ∀ j, j < n → TxtQ (ss j) (q j)
end Go.Proofs.YtgmopcncbpdniaaGreat

/- Qs of the reference, nums of the laws. -/
namespace Go.Proofs.YtgmopcncbpdniaaGreat
open Go.RowKit
attribute [local go_sem ↓] Go.wp_at_zero Go.wp_at_succ
theorem infoZQ : (Tryz.prog.info? 40).map (fun i => (i.zero, i.size, i.bytes)) = some (some (.agg #[.bool false, .slice none 0 0, .bool false, .slice none 0 0]), 4, 64) := by kernel_rfl
theorem kindz_made (w : World) (t : TypeId) (n c : Nat) : KindZ (w.alloc (.cells #[] t)) (.slice (some ⟨w.heap.size, 0, none⟩) n c) := fun g hg o x hx => by
  have : w.heap.size = g := Option.some.inj hg
  subst this
  rw [cell_of (t := t) (fr := (0, 0)) (heap_alloc_new w _)] at hx
  simp at hx
theorem qrow_start (w : World) (p d : Nat → Int) (K : Nat) : QRow (w.alloc (.cells #[] 40)) w.heap.size (.slice (some ⟨w.heap.size, 0, none⟩) 0 0) 0 p d K [] :=
  QRow.nil _ _ _ _ _ _ (World.ownsRow_made (e := 40) (base := w.heap.size) (size := 4) w #[] 0 (Nat.le_refl _) (by unfold maxLen; omega) rfl) (kindz_made _ _ _ _)
def qN (q : Nat → Rat) (j : Nat) : Int := (q j).num
def qD (q : Nat → Rat) (j : Nat) : Int := ((q j).den : Nat)
theorem Strs.mono {w w' : World} {v : Value} {n B : Nat} {ss : Nat → ByteArray} (h : Strs w v n ss) (hb : Below B w w') (hB : w.heap.size ≤ B) : Strs w' v n ss := Sl.mono h hb hB
end Go.Proofs.YtgmopcncbpdniaaGreat

/- Rows of the reference's fractions, as rational numbers. -/
namespace Go.Proofs.YtgmopcncbpdniaaGreat
open Go.RowKit
theorem QV.keep {w w' : World} {u v : Value} {q : Rat} {m : Nat} (h : QV w u q m) (hk : KindZ w v) (hg : w.grownBy w' v.ownBlock) : QV w' u q m := by
  obtain ⟨p, d, h1, h2⟩ := h
  exact ⟨p, d, h1.keep hk hg, h2⟩
/-- r fractions gathered by append -/
structure VRow (w : World) (base : Nat) (v : Value) (r : Nat) (q : Nat → Rat) (K : Nat) (xs : List Value) : Prop where
  kind : KindZ w v
  own : w.ownsRow base 40 4 v r xs
  val : ∀ j, j < r → ∃ s a m c t a2 m2 c2, xs[j * 4]? = some (.bool s) ∧ xs[j * 4 + 1]? = some (.slice a m c) ∧ xs[j * 4 + 2]? = some (.bool t) ∧ xs[j * 4 + 3]? = some (.slice a2 m2 c2) ∧ QV w (.agg #[.bool s, .slice a m c, .bool t, .slice a2 m2 c2]) (q j) K
/-- a slice of n fractions, as read -/
structure VSl (w : World) (v : Value) (n : Nat) (q : Nat → Rat) (K : Nat) : Prop where
  val : ∃ g cap, v = .slice (some ⟨g, 0, none⟩) n cap ∧ n ≤ cap ∧ g < w.heap.size ∧ ∀ j, j < n → ∃ s a m c t a2 m2 c2, w.cell? ⟨g, j * 4, none⟩ = some (.bool s) ∧ w.cell? ⟨g, j * 4 + 1, none⟩ = some (.slice a m c) ∧ w.cell? ⟨g, j * 4 + 2, none⟩ = some (.bool t) ∧ w.cell? ⟨g, j * 4 + 3, none⟩ = some (.slice a2 m2 c2) ∧ QV w (.agg #[.bool s, .slice a m c, .bool t, .slice a2 m2 c2]) (q j) K
variable {w w' : World} {base r K : Nat} {v : Value} {q : Nat → Rat} {xs : List Value}
theorem VRow.nil (w : World) (base : Nat) (q : Nat → Rat) (K : Nat) (v : Value) (h : w.ownsRow base 40 4 v 0 []) (hk : KindZ w v) : VRow w base v 0 q K [] := ⟨hk, h, fun j hj => by omega⟩
theorem VRow.below (h : VRow w base v r q K xs) (hb : Below w.heap.size w w') : VRow w' base v r q K xs :=
  ⟨h.kind.below hb (fun g hg => (h.own.lt g hg).2), own_kept h.own hb, fun j hj => by
    obtain ⟨s, a, m, c, t, a2, m2, c2, h1, h2, h3, h4, h5⟩ := h.val j hj
    exact ⟨s, a, m, c, t, a2, m2, c2, h1, h2, h3, h4, h5.mono hb (Nat.le_refl _)⟩⟩
theorem VRow.push {v' : Value} {x : Rat} {s t : Bool} {a a2 : Option Addr} {m c m2 c2 : Nat} (h : VRow w base v r q K xs) (hx : QV w (.agg #[.bool s, .slice a m c, .bool t, .slice a2 m2 c2]) x K) (hq : q r = x)
    (hgrow : w.grownBy w' v.ownBlock) (hown : w'.ownsRow base 40 4 v' (r + 1) (xs ++ [.bool s, .slice a m c, .bool t, .slice a2 m2 c2])) (hkind : KindZ w' v') : VRow w' base v' (r + 1) q K (xs ++ [.bool s, .slice a m c, .bool t, .slice a2 m2 c2]) := by
  have hl := h.own.1
  refine ⟨hkind, hown, fun j hj => ?_⟩
  by_cases e : j < r
  · obtain ⟨s', a', m', c', t', a2', m2', c2', h1, h2, h3, h4, h5⟩ := h.val j e
    exact ⟨s', a', m', c', t', a2', m2', c2', by rw [List.getElem?_append_left (by omega)]; exact h1, by rw [List.getElem?_append_left (by omega)]; exact h2, by rw [List.getElem?_append_left (by omega)]; exact h3, by rw [List.getElem?_append_left (by omega)]; exact h4, h5.keep h.kind hgrow⟩
  · obtain rfl : j = r := by omega
    refine ⟨s, a, m, c, t, a2, m2, c2, ?_, ?_, ?_, ?_, by rw [hq]; exact hx.keep h.kind hgrow⟩
    · rw [List.getElem?_append_right (by omega), hl, Nat.sub_self]; rfl
    · rw [List.getElem?_append_right (by omega), hl, show j * 4 + 1 - j * 4 = 1 by omega]; rfl
    · rw [List.getElem?_append_right (by omega), hl, show j * 4 + 2 - j * 4 = 2 by omega]; rfl
    · rw [List.getElem?_append_right (by omega), hl, show j * 4 + 3 - j * 4 = 3 by omega]; rfl
theorem VRow.alloc (h : VRow w base v r q K xs) (o : Obj) : VRow (w.alloc o) base v r q K xs := h.below ((Below.refl w.heap.size w).alloc (Nat.le_refl _) o)
theorem VRow.drew (h : VRow w base v r q K xs) : VRow w.drew base v r q K xs := h.below (Below.refl w.heap.size w).drew
theorem VRow.sl (h : VRow w base v r q K xs) (h0 : 0 < r) : VSl w v r q K := by
  have h1 := h.own
  rcases h1.2 with ⟨_, e⟩ | ⟨g, cap, cur, hv, hbg, hg, hcap, hml, hsz, htk⟩
  · omega
  · subst hv
    have hlt : g < w.heap.size := (Array.getElem?_eq_some_iff.1 hg).1
    have hc := h1.cells (g := g) rfl
    refine ⟨g, cap, rfl, by omega, hlt, fun j hj => ?_⟩
    obtain ⟨s', a', m', c', t', a2', m2', c2', k1, k2, k3, k4, k5⟩ := h.val j hj
    have k : ∀ i u, xs[i]? = some u → w.cell? ⟨g, i, none⟩ = some u := fun i u hu => by
      have := hc i u hu
      rw [add_at, Nat.zero_add] at this; exact this
    exact ⟨s', a', m', c', t', a2', m2', c2', k _ _ k1, k _ _ k2, k _ _ k3, k _ _ k4, k5⟩
theorem vrow_start (w : World) (q : Nat → Rat) (K : Nat) : VRow (w.alloc (.cells #[] 40)) w.heap.size (.slice (some ⟨w.heap.size, 0, none⟩) 0 0) 0 q K [] :=
  VRow.nil _ _ _ _ _ (World.ownsRow_made (e := 40) (base := w.heap.size) (size := 4) w #[] 0 (Nat.le_refl _) (by unfold maxLen; omega) rfl) (kindz_made _ _ _ _)
variable {n : Nat}
theorem VSl.mono {B : Nat} (h : VSl w v n q K) (hb : Below B w w') (hB : w.heap.size ≤ B) : VSl w' v n q K := by
  obtain ⟨g, cap, rfl, h1, h2, h3⟩ := h.val
  refine ⟨g, cap, rfl, h1, Nat.lt_of_lt_of_le h2 hb.size, fun j hj => ?_⟩
  obtain ⟨s, a, m, c, t, a2, m2, c2, k1, k2, k3, k4, k5⟩ := h3 j hj
  have k : ∀ i, w'.cell? ⟨g, i, none⟩ = w.cell? ⟨g, i, none⟩ := fun i => hb.cell (p := ⟨g, i, none⟩) (Nat.lt_of_lt_of_le h2 hB)
  exact ⟨s, a, m, c, t, a2, m2, c2, (k _).trans k1, (k _).trans k2, (k _).trans k3, (k _).trans k4, k5.mono hb hB⟩
theorem VSl.of (h : QSl w v n (qN q) (qD q) K) : VSl w v n q K := by
  obtain ⟨g, cap, rfl, h1, h2, h3⟩ := h.val
  refine ⟨g, cap, rfl, h1, h2, fun j hj => ?_⟩
  obtain ⟨s, a, m, c, t, a2, m2, c2, k1, k2, k3, k4, k5⟩ := h3 j hj
  exact ⟨s, a, m, c, t, a2, m2, c2, k1, k2, k3, k4, QV.of k5⟩
theorem VSl.congr {q' : Nat → Rat} (h : VSl w v n q K) (e : ∀ j, j < n → q j = q' j) : VSl w v n q' K := by
  obtain ⟨g, cap, rfl, h1, h2, h3⟩ := h.val
  refine ⟨g, cap, rfl, h1, h2, fun j hj => ?_⟩
  rw [← e j hj]; exact h3 j hj
end Go.Proofs.YtgmopcncbpdniaaGreat
