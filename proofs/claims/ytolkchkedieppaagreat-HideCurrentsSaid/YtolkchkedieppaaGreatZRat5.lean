/- The methods of Rat of package num: Mul, Add, Div, Sub, Cmp. (Printed by gen_rat.py.) -/
import Derived.Test.YtolkchkedieppaaGreatZRat4
set_option linter.unusedVariables false
set_option linter.unusedSimpArgs false
namespace Go.Proofs.YtolkchkedieppaaGreat
open Go.RowKit
attribute [local go_sem ↓] Go.wp_at_zero Go.wp_at_succ
theorem ratio_any (x y : Value) (p : Int) (d : Nat) (k : Nat) (w : World) (hx : IntIs w x p k) (hy : IntIs w y (d : Int) k) (hd : 0 < d) (hk2 : 2 ≤ k) (hk : k ≤ 549755813888) :
  Calls Tryz.prog 124 #[x, y] w fun e w' => ∃ r, e = .returned r ∧ RatIs w' r (mkRat p d) k ∧ Below w.heap.size w w' := by
 by_cases h1 : Nat.gcd p.natAbs d = 1
 ·exact ratio_one x y p d k w hx hy hd hk2 hk h1
 ·exact ratio_other x y p d k w hx hy hd hk2 hk h1
/-- the same, the denominator given as an integer -/
theorem ratio_int (x y : Value) (p d : Int) (k : Nat) (q : Rat) (w : World) (hx : IntIs w x p k) (hy : IntIs w y d k) (hd : 0 < d) (hk2 : 2 ≤ k) (hk : k ≤ 549755813888) (hq : q = mkRat p d.toNat) :
  Calls Tryz.prog 124 #[x, y] w fun e w' => ∃ r, e = .returned r ∧ RatIs w' r q k ∧ Below w.heap.size w w' := by
 obtain ⟨D, rfl⟩ := Int.eq_ofNat_of_zero_le (Int.le_of_lt hd)
 subst hq
 exact ratio_any x y p D k w hx hy (by omega) hk2 hk
theorem int_den_pos (q : Rat) : 0 < (q.den : Int) := by have := q.den_pos; omega
theorem den_toNat (a b : Rat) : ((a.den : Int) * (b.den : Int)).toNat = a.den * b.den := by rw [← Int.natCast_mul, Int.toNat_natCast]
theorem rat_of_den_one (q : Rat) (h : q.den = 1) : ((q.num : Int) : Rat) = q := Rat.ext (Rat.num_intCast _) (by rw [Rat.den_intCast, h])
theorem div_eq_mk (a b : Rat) (hb : 0 < b.num) : a / b = mkRat (a.num * (b.den : Int)) ((a.den : Int) * b.num).toNat := by
 rw [← Rat.divInt_ofNat, Int.toNat_of_nonneg (Int.le_of_lt (Int.mul_pos (int_den_pos a) hb)), ← Rat.divInt_mul_divInt, Rat.num_divInt_den, Rat.div_def]
 congr 1
 conv => lhs; rw [← Rat.num_divInt_den b]
 rw [Rat.inv_divInt]
set_option maxHeartbeats 4000000 in
theorem rat_div (x y : Value) (a b : Rat) (k : Nat) (w : World) (hx : RatIs w x a k) (hy : RatIs w y b k) (hb : 0 < b.num) (hk1 : 1 ≤ k) (hk : 2 * k ≤ 549755813888) :
  Calls Tryz.prog 72 #[x, y] w fun e w' => ∃ r, e = .returned r ∧ RatIs w' r (a / b) (2 * k) ∧ Below w.heap.size w w' := by
 obtain ⟨s1, a1, n1, c1, a2, n2, c2, rfl, H1⟩ := hx.shape
 obtain ⟨s2, a3, n3, c3, a4, n4, c4, rfl, H2⟩ := hy.shape
 clear hx hy
 have KW : Hid (Below w.heap.size w (((w.alloc (Obj.cells #[.bool s1, .slice a1 n1 c1, .bool false, .slice a2 n2 c2] 115)).alloc (Obj.cells #[.bool s2, .slice a3 n3 c3, .bool false, .slice a4 n4 c4] 115)).alloc (Obj.cells #[.bool false, .slice none 0 0, .bool false, .slice none 0 0] 115))) := boxes3 w _ _ _
 have KX := Lib.hid (H1.out.mono KW.out (Nat.le_refl _))
 have KY := Lib.hid (H2.out.mono KW.out (Nat.le_refl _))
 have PO1 : Hid (Own4 (((w.alloc (Obj.cells #[.bool s1, .slice a1 n1 c1, .bool false, .slice a2 n2 c2] 115)).alloc (Obj.cells #[.bool s2, .slice a3 n3 c3, .bool false, .slice a4 n4 c4] 115)).alloc (Obj.cells #[.bool false, .slice none 0 0, .bool false, .slice none 0 0] 115)) w.heap.size (.bool s1) (.slice a1 n1 c1) (.bool false) (.slice a2 n2 c2)) := ((own4_new _ _ rfl _ _ _ _ _).alloc _).alloc _
 have PO2 : Hid (Own4 (((w.alloc (Obj.cells #[.bool s1, .slice a1 n1 c1, .bool false, .slice a2 n2 c2] 115)).alloc (Obj.cells #[.bool s2, .slice a3 n3 c3, .bool false, .slice a4 n4 c4] 115)).alloc (Obj.cells #[.bool false, .slice none 0 0, .bool false, .slice none 0 0] 115)) (w.heap.size + 1) (.bool s2) (.slice a3 n3 c3) (.bool false) (.slice a4 n4 c4)) := (own4_new _ _ (by simp) _ _ _ _ _).alloc _
 have PO3 : Hid (Own4 (((w.alloc (Obj.cells #[.bool s1, .slice a1 n1 c1, .bool false, .slice a2 n2 c2] 115)).alloc (Obj.cells #[.bool s2, .slice a3 n3 c3, .bool false, .slice a4 n4 c4] 115)).alloc (Obj.cells #[.bool false, .slice none 0 0, .bool false, .slice none 0 0] 115)) (w.heap.size + 1 + 1) (.bool false) (.slice none 0 0) (.bool false) (.slice none 0 0)) := own4_new _ _ (by simp) _ _ _ _ _
 obtain ⟨x10, x11, x12, x13, _, xl1⟩ := PO1.out
 obtain ⟨x20, x21, x22, x23, _, xl2⟩ := PO2.out
 obtain ⟨x30, x31, x32, x33, xf3, xl3⟩ := PO3.out
 have HQ := Lib.hid (div_eq_mk a b hb)
 have HP := Lib.hid (Int.mul_pos (int_den_pos a) hb)
 clear hb
 go_enter Tryz.func72, Tryz.ntmps72
 go_wp2
 have PI1 := PO1
 have PI2 := PO2
 have KW := Lib.hid KW.out.drew
 have KX := Lib.hid KX.out.drew
 have KY := Lib.hid KY.out.drew
 have PO1 := Lib.hid PO1.out.drew
 have PO2 := Lib.hid PO2.out.drew
 have PO3 := Lib.hid PO3.out.drew
 go_region_held3 (fun wq => wq.cell? ⟨w.heap.size, 0, none⟩ = some (.bool s1) ∧ wq.cell? ⟨w.heap.size, 1, none⟩ = some (.slice a1 n1 c1) ∧ wq.cell? ⟨w.heap.size, 2, none⟩ = some (.bool false) ∧ wq.cell? ⟨w.heap.size, 3, none⟩ = some (.slice a2 n2 c2) ∧ wq.cell? ⟨w.heap.size + 1, 0, none⟩ = some (.bool s2) ∧ wq.cell? ⟨w.heap.size + 1, 1, none⟩ = some (.slice a3 n3 c3) ∧ wq.cell? ⟨w.heap.size + 1, 2, none⟩ = some (.bool false) ∧ wq.cell? ⟨w.heap.size + 1, 3, none⟩ = some (.slice a4 n4 c4)) (first | (with_reducible exact ⟨PI1.out.c0, PI1.out.c1, PI1.out.c2, PI1.out.c3, PI2.out.c0, PI2.out.c1, PI2.out.c2, PI2.out.c3⟩) | (with_reducible exact ⟨PO1.out.c0, PO1.out.c1, PO1.out.c2, PO1.out.c3, PO2.out.c0, PO2.out.c1, PO2.out.c2, PO2.out.c3⟩) | (with_reducible exact ⟨(PO1.out.set4 (w.heap.size + 1 + 1) _ _ _ _ (by omega)).c0, (PO1.out.set4 (w.heap.size + 1 + 1) _ _ _ _ (by omega)).c1, (PO1.out.set4 (w.heap.size + 1 + 1) _ _ _ _ (by omega)).c2, (PO1.out.set4 (w.heap.size + 1 + 1) _ _ _ _ (by omega)).c3, (PO2.out.set4 (w.heap.size + 1 + 1) _ _ _ _ (by omega)).c0, (PO2.out.set4 (w.heap.size + 1 + 1) _ _ _ _ (by omega)).c1, (PO2.out.set4 (w.heap.size + 1 + 1) _ _ _ _ (by omega)).c2, (PO2.out.set4 (w.heap.size + 1 + 1) _ _ _ _ (by omega)).c3⟩))
  (first
  | (go_at_call 68; (with_reducible refine (int_mul _ _ (a.num) (b.den) k k _ (RatIs.num KX.out) (RatIs.den KY.out) (by omega)).mono ?_); rintro e w5 ⟨r5, rfl, hr5, hb5⟩; have KX := Lib.hid (KX.out.mono hb5 (Nat.le_refl _)); have KY := Lib.hid (KY.out.mono hb5 (Nat.le_refl _)); (try have KB := Lib.hid (KB.out.mono hb5 (Nat.le_refl _))); have PO1 := Lib.hid (PO1.out.below hb5 PO1.out.lt); have PO2 := Lib.hid (PO2.out.below hb5 PO2.out.lt); have PO3 := Lib.hid (PO3.out.below hb5 PO3.out.lt); have KW := Lib.hid (KW.out.trans (hb5.mono KW.out.size)); clear x10 x11 x12 x13 xl1 x20 x21 x22 x23 xl2 x30 x31 x32 x33 xf3 xl3; obtain ⟨x10, x11, x12, x13, _, xl1⟩ := PO1.out; obtain ⟨x20, x21, x22, x23, _, xl2⟩ := PO2.out; obtain ⟨x30, x31, x32, x33, xf3, xl3⟩ := PO3.out; obtain ⟨s5, a5, n5, c5, rfl, KA⟩ := hr5.shape; clear hr5)
  | (go_at_call 68; (with_reducible refine (int_mul _ _ (a.den) (b.num) k k _ (RatIs.den KX.out) (RatIs.num KY.out) (by omega)).mono ?_); rintro e w6 ⟨r6, rfl, hr6, hb6⟩; have KX := Lib.hid (KX.out.mono hb6 (Nat.le_refl _)); have KY := Lib.hid (KY.out.mono hb6 (Nat.le_refl _)); (try have KA := Lib.hid (KA.out.mono hb6 (Nat.le_refl _))); have PO1 := Lib.hid (PO1.out.below hb6 PO1.out.lt); have PO2 := Lib.hid (PO2.out.below hb6 PO2.out.lt); have PO3 := Lib.hid (PO3.out.below hb6 PO3.out.lt); have KW := Lib.hid (KW.out.trans (hb6.mono KW.out.size)); clear x10 x11 x12 x13 xl1 x20 x21 x22 x23 xl2 x30 x31 x32 x33 xf3 xl3; obtain ⟨x10, x11, x12, x13, _, xl1⟩ := PO1.out; obtain ⟨x20, x21, x22, x23, _, xl2⟩ := PO2.out; obtain ⟨x30, x31, x32, x33, xf3, xl3⟩ := PO3.out; obtain ⟨s6, a6, n6, c6, rfl, KB⟩ := hr6.shape; clear hr6)
  | (go_at_call 124; (with_reducible refine (ratio_int _ _ (a.num * (b.den : Int)) ((a.den : Int) * b.num) (2 * k) (a / b) _ (KA.out.le (by omega)) (KB.out.le (by omega)) HP.out (by omega) hk HQ.out).mono ?_); rintro e w9 ⟨r9, rfl, hr9, hb9⟩; have PO1 := Lib.hid (PO1.out.below hb9 PO1.out.lt); have PO2 := Lib.hid (PO2.out.below hb9 PO2.out.lt); have PO3 := Lib.hid (PO3.out.below hb9 PO3.out.lt); have KW := Lib.hid (KW.out.trans (hb9.mono KW.out.size)); clear x10 x11 x12 x13 xl1 x20 x21 x22 x23 xl2 x30 x31 x32 x33 xf3 xl3; obtain ⟨x10, x11, x12, x13, _, xl1⟩ := PO1.out; obtain ⟨x20, x21, x22, x23, _, xl2⟩ := PO2.out; obtain ⟨x30, x31, x32, x33, xf3, xl3⟩ := PO3.out; obtain ⟨s9, a9, n9, c9, b9, m9, d9, rfl, KR⟩ := hr9.shape; clear hr9))
 all_goals (try go_wp2)
 all_goals
  refine bodyPost_ret (v := .agg #[.bool s9, .slice a9 n9 c9, .bool false, .slice b9 m9 d9]) (by simp [results, Tryz.results72, go_sem, x30, x31, x32, x33, xf3]) rfl ?_
  exact ⟨_, rfl, RatIs.into KR.out _ _ _ _ PO3.out, below_set4 KW.out (by omega) _ _ _ _⟩
theorem mul_eq_mk (a b : Rat) : a * b = mkRat (a.num * b.num) ((a.den : Int) * (b.den : Int)).toNat := by rw [den_toNat, Rat.mul_def']
theorem add_eq_mk (a b : Rat) : a + b = mkRat (a.num * (b.den : Int) + b.num * (a.den : Int)) ((a.den : Int) * (b.den : Int)).toNat := by rw [den_toNat, Rat.add_def']
set_option maxHeartbeats 4000000 in
theorem rat_mul (x y : Value) (a b : Rat) (k : Nat) (w : World) (hx : RatIs w x a k) (hy : RatIs w y b k) (hk1 : 1 ≤ k) (hk : 2 * k ≤ 549755813888) :
  Calls Tryz.prog 69 #[x, y] w fun e w' => ∃ r, e = .returned r ∧ RatIs w' r (a * b) (2 * k) ∧ Below w.heap.size w w' := by
 obtain ⟨s1, a1, n1, c1, a2, n2, c2, rfl, H1⟩ := hx.shape
 obtain ⟨s2, a3, n3, c3, a4, n4, c4, rfl, H2⟩ := hy.shape
 clear hx hy
 have KW : Hid (Below w.heap.size w (((w.alloc (Obj.cells #[.bool s1, .slice a1 n1 c1, .bool false, .slice a2 n2 c2] 115)).alloc (Obj.cells #[.bool s2, .slice a3 n3 c3, .bool false, .slice a4 n4 c4] 115)).alloc (Obj.cells #[.bool false, .slice none 0 0, .bool false, .slice none 0 0] 115))) := boxes3 w _ _ _
 have KX := Lib.hid (H1.out.mono KW.out (Nat.le_refl _))
 have KY := Lib.hid (H2.out.mono KW.out (Nat.le_refl _))
 have PO1 : Hid (Own4 (((w.alloc (Obj.cells #[.bool s1, .slice a1 n1 c1, .bool false, .slice a2 n2 c2] 115)).alloc (Obj.cells #[.bool s2, .slice a3 n3 c3, .bool false, .slice a4 n4 c4] 115)).alloc (Obj.cells #[.bool false, .slice none 0 0, .bool false, .slice none 0 0] 115)) w.heap.size (.bool s1) (.slice a1 n1 c1) (.bool false) (.slice a2 n2 c2)) := ((own4_new _ _ rfl _ _ _ _ _).alloc _).alloc _
 have PO2 : Hid (Own4 (((w.alloc (Obj.cells #[.bool s1, .slice a1 n1 c1, .bool false, .slice a2 n2 c2] 115)).alloc (Obj.cells #[.bool s2, .slice a3 n3 c3, .bool false, .slice a4 n4 c4] 115)).alloc (Obj.cells #[.bool false, .slice none 0 0, .bool false, .slice none 0 0] 115)) (w.heap.size + 1) (.bool s2) (.slice a3 n3 c3) (.bool false) (.slice a4 n4 c4)) := (own4_new _ _ (by simp) _ _ _ _ _).alloc _
 have PO3 : Hid (Own4 (((w.alloc (Obj.cells #[.bool s1, .slice a1 n1 c1, .bool false, .slice a2 n2 c2] 115)).alloc (Obj.cells #[.bool s2, .slice a3 n3 c3, .bool false, .slice a4 n4 c4] 115)).alloc (Obj.cells #[.bool false, .slice none 0 0, .bool false, .slice none 0 0] 115)) (w.heap.size + 1 + 1) (.bool false) (.slice none 0 0) (.bool false) (.slice none 0 0)) := own4_new _ _ (by simp) _ _ _ _ _
 obtain ⟨x10, x11, x12, x13, _, xl1⟩ := PO1.out
 obtain ⟨x20, x21, x22, x23, _, xl2⟩ := PO2.out
 obtain ⟨x30, x31, x32, x33, xf3, xl3⟩ := PO3.out
 have CS : (a.den = 1 ∧ b.den = 1) ∨ (a.den = 1 ∧ ¬ b.den = 1) ∨ ¬ a.den = 1 := by omega
 rcases CS with ⟨ia, ib⟩ | ⟨ia, ib⟩ | ia
 ·have ha : decide (a.den = 1) = true := by simpa using ia
  have hb : decide (b.den = 1) = true := by simpa using ib
  have HQ : Hid (((a.num * b.num : Int) : Rat) = a * b) := by have h1 := rat_of_den_one a ia; have h2 := rat_of_den_one b ib; have : ((a.num * b.num : Int) : Rat) = (a.num : Rat) * (b.num : Rat) := Rat.intCast_mul _ _; show _ = _; rw [this, h1, h2]
  clear ia ib
  have HA := Lib.hid ha
  have HBB := Lib.hid hb
  clear ha hb
  go_enter Tryz.func69, Tryz.ntmps69
  go_wp2_with (first
   | (go_at_call 123; (with_reducible refine (rat_integer _ a k _ true HA.out KX.out).mono ?_); rintro e w7 ⟨rfl, hb7⟩; have KX := Lib.hid (KX.out.mono hb7 (Nat.le_refl _)); have KY := Lib.hid (KY.out.mono hb7 (Nat.le_refl _)); have PO1 := Lib.hid (PO1.out.below hb7 PO1.out.lt); have PO2 := Lib.hid (PO2.out.below hb7 PO2.out.lt); have PO3 := Lib.hid (PO3.out.below hb7 PO3.out.lt); have KW := Lib.hid (KW.out.trans (hb7.mono KW.out.size)); clear x10 x11 x12 x13 xl1 x20 x21 x22 x23 xl2 x30 x31 x32 x33 xf3 xl3; obtain ⟨x10, x11, x12, x13, _, xl1⟩ := PO1.out; obtain ⟨x20, x21, x22, x23, _, xl2⟩ := PO2.out; obtain ⟨x30, x31, x32, x33, xf3, xl3⟩ := PO3.out)
   | (go_at_call 123; (with_reducible refine (rat_integer _ b k _ true HBB.out KY.out).mono ?_); rintro e w8 ⟨rfl, hb8⟩; have KX := Lib.hid (KX.out.mono hb8 (Nat.le_refl _)); have KY := Lib.hid (KY.out.mono hb8 (Nat.le_refl _)); have PO1 := Lib.hid (PO1.out.below hb8 PO1.out.lt); have PO2 := Lib.hid (PO2.out.below hb8 PO2.out.lt); have PO3 := Lib.hid (PO3.out.below hb8 PO3.out.lt); have KW := Lib.hid (KW.out.trans (hb8.mono KW.out.size)); clear x10 x11 x12 x13 xl1 x20 x21 x22 x23 xl2 x30 x31 x32 x33 xf3 xl3; obtain ⟨x10, x11, x12, x13, _, xl1⟩ := PO1.out; obtain ⟨x20, x21, x22, x23, _, xl2⟩ := PO2.out; obtain ⟨x30, x31, x32, x33, xf3, xl3⟩ := PO3.out)
   | (go_at_call 68; (with_reducible refine (int_mul _ _ (a.num) (b.num) k k _ (RatIs.num KX.out) (RatIs.num KY.out) (by omega)).mono ?_); rintro e w5 ⟨r5, rfl, hr5, hb5⟩; have KX := Lib.hid (KX.out.mono hb5 (Nat.le_refl _)); have KY := Lib.hid (KY.out.mono hb5 (Nat.le_refl _)); (try have KB := Lib.hid (KB.out.mono hb5 (Nat.le_refl _))); have PO1 := Lib.hid (PO1.out.below hb5 PO1.out.lt); have PO2 := Lib.hid (PO2.out.below hb5 PO2.out.lt); have PO3 := Lib.hid (PO3.out.below hb5 PO3.out.lt); have KW := Lib.hid (KW.out.trans (hb5.mono KW.out.size)); clear x10 x11 x12 x13 xl1 x20 x21 x22 x23 xl2 x30 x31 x32 x33 xf3 xl3; obtain ⟨x10, x11, x12, x13, _, xl1⟩ := PO1.out; obtain ⟨x20, x21, x22, x23, _, xl2⟩ := PO2.out; obtain ⟨x30, x31, x32, x33, xf3, xl3⟩ := PO3.out; obtain ⟨s5, a5, n5, c5, rfl, KA⟩ := hr5.shape; clear hr5)
   | (go_at_call 70; (with_reducible refine (rat_fromInt _ _ (2 * k) _ (KA.out.le (by omega)) (by omega)).mono ?_); rintro e w9 ⟨r9, rfl, hr9, hb9⟩; have PO1 := Lib.hid (PO1.out.below hb9 PO1.out.lt); have PO2 := Lib.hid (PO2.out.below hb9 PO2.out.lt); have PO3 := Lib.hid (PO3.out.below hb9 PO3.out.lt); have KW := Lib.hid (KW.out.trans (hb9.mono KW.out.size)); clear x10 x11 x12 x13 xl1 x20 x21 x22 x23 xl2 x30 x31 x32 x33 xf3 xl3; obtain ⟨x10, x11, x12, x13, _, xl1⟩ := PO1.out; obtain ⟨x20, x21, x22, x23, _, xl2⟩ := PO2.out; obtain ⟨x30, x31, x32, x33, xf3, xl3⟩ := PO3.out; obtain ⟨s9, a9, n9, c9, b9, m9, d9, rfl, KR⟩ := hr9.shape; clear hr9))
  rw [HQ.out] at KR
  all_goals (try go_wp2)
  all_goals
   refine bodyPost_ret (v := .agg #[.bool s9, .slice a9 n9 c9, .bool false, .slice b9 m9 d9]) (by simp [results, Tryz.results69, go_sem, x30, x31, x32, x33, xf3]) rfl ?_
   exact ⟨_, rfl, RatIs.into KR.out _ _ _ _ PO3.out, below_set4 KW.out (by omega) _ _ _ _⟩
 focus
  have ha : decide (a.den = 1) = true := by simpa using ia
  have hb : decide (b.den = 1) = false := by simpa using ib
  clear ia ib
  have HA := Lib.hid ha
  have HBB := Lib.hid hb
  clear ha hb
  go_enter Tryz.func69, Tryz.ntmps69
  go_wp2_with (first
   | (go_at_call 123; (with_reducible refine (rat_integer _ a k _ true HA.out KX.out).mono ?_); rintro e w7 ⟨rfl, hb7⟩; have KX := Lib.hid (KX.out.mono hb7 (Nat.le_refl _)); have KY := Lib.hid (KY.out.mono hb7 (Nat.le_refl _)); have PO1 := Lib.hid (PO1.out.below hb7 PO1.out.lt); have PO2 := Lib.hid (PO2.out.below hb7 PO2.out.lt); have PO3 := Lib.hid (PO3.out.below hb7 PO3.out.lt); have KW := Lib.hid (KW.out.trans (hb7.mono KW.out.size)); clear x10 x11 x12 x13 xl1 x20 x21 x22 x23 xl2 x30 x31 x32 x33 xf3 xl3; obtain ⟨x10, x11, x12, x13, _, xl1⟩ := PO1.out; obtain ⟨x20, x21, x22, x23, _, xl2⟩ := PO2.out; obtain ⟨x30, x31, x32, x33, xf3, xl3⟩ := PO3.out)
   | (go_at_call 123; (with_reducible refine (rat_integer _ b k _ false HBB.out KY.out).mono ?_); rintro e w8 ⟨rfl, hb8⟩; have KX := Lib.hid (KX.out.mono hb8 (Nat.le_refl _)); have KY := Lib.hid (KY.out.mono hb8 (Nat.le_refl _)); have PO1 := Lib.hid (PO1.out.below hb8 PO1.out.lt); have PO2 := Lib.hid (PO2.out.below hb8 PO2.out.lt); have PO3 := Lib.hid (PO3.out.below hb8 PO3.out.lt); have KW := Lib.hid (KW.out.trans (hb8.mono KW.out.size)); clear x10 x11 x12 x13 xl1 x20 x21 x22 x23 xl2 x30 x31 x32 x33 xf3 xl3; obtain ⟨x10, x11, x12, x13, _, xl1⟩ := PO1.out; obtain ⟨x20, x21, x22, x23, _, xl2⟩ := PO2.out; obtain ⟨x30, x31, x32, x33, xf3, xl3⟩ := PO3.out))
 rotate_left
 focus
  have ha : decide (a.den = 1) = false := by simpa using ia
  clear ia
  have HA := Lib.hid ha
  clear ha
  go_enter Tryz.func69, Tryz.ntmps69
  go_wp2_with (first
   | (go_at_call 123; (with_reducible refine (rat_integer _ a k _ false HA.out KX.out).mono ?_); rintro e w7 ⟨rfl, hb7⟩; have KX := Lib.hid (KX.out.mono hb7 (Nat.le_refl _)); have KY := Lib.hid (KY.out.mono hb7 (Nat.le_refl _)); have PO1 := Lib.hid (PO1.out.below hb7 PO1.out.lt); have PO2 := Lib.hid (PO2.out.below hb7 PO2.out.lt); have PO3 := Lib.hid (PO3.out.below hb7 PO3.out.lt); have KW := Lib.hid (KW.out.trans (hb7.mono KW.out.size)); clear x10 x11 x12 x13 xl1 x20 x21 x22 x23 xl2 x30 x31 x32 x33 xf3 xl3; obtain ⟨x10, x11, x12, x13, _, xl1⟩ := PO1.out; obtain ⟨x20, x21, x22, x23, _, xl2⟩ := PO2.out; obtain ⟨x30, x31, x32, x33, xf3, xl3⟩ := PO3.out))
 all_goals
  have HQ := Lib.hid (mul_eq_mk a b)
  have HP := Lib.hid (Int.mul_pos (int_den_pos a) (int_den_pos b))
  have PI1 := PO1
  have PI2 := PO2
  have KW := Lib.hid KW.out.drew
  have KX := Lib.hid KX.out.drew
  have KY := Lib.hid KY.out.drew
  have PO1 := Lib.hid PO1.out.drew
  have PO2 := Lib.hid PO2.out.drew
  have PO3 := Lib.hid PO3.out.drew
  go_region_held3 (fun wq => wq.cell? ⟨w.heap.size, 0, none⟩ = some (.bool s1) ∧ wq.cell? ⟨w.heap.size, 1, none⟩ = some (.slice a1 n1 c1) ∧ wq.cell? ⟨w.heap.size, 2, none⟩ = some (.bool false) ∧ wq.cell? ⟨w.heap.size, 3, none⟩ = some (.slice a2 n2 c2) ∧ wq.cell? ⟨w.heap.size + 1, 0, none⟩ = some (.bool s2) ∧ wq.cell? ⟨w.heap.size + 1, 1, none⟩ = some (.slice a3 n3 c3) ∧ wq.cell? ⟨w.heap.size + 1, 2, none⟩ = some (.bool false) ∧ wq.cell? ⟨w.heap.size + 1, 3, none⟩ = some (.slice a4 n4 c4)) (first | (with_reducible exact ⟨PI1.out.c0, PI1.out.c1, PI1.out.c2, PI1.out.c3, PI2.out.c0, PI2.out.c1, PI2.out.c2, PI2.out.c3⟩) | (with_reducible exact ⟨PO1.out.c0, PO1.out.c1, PO1.out.c2, PO1.out.c3, PO2.out.c0, PO2.out.c1, PO2.out.c2, PO2.out.c3⟩) | (with_reducible exact ⟨(PO1.out.set4 (w.heap.size + 1 + 1) _ _ _ _ (by omega)).c0, (PO1.out.set4 (w.heap.size + 1 + 1) _ _ _ _ (by omega)).c1, (PO1.out.set4 (w.heap.size + 1 + 1) _ _ _ _ (by omega)).c2, (PO1.out.set4 (w.heap.size + 1 + 1) _ _ _ _ (by omega)).c3, (PO2.out.set4 (w.heap.size + 1 + 1) _ _ _ _ (by omega)).c0, (PO2.out.set4 (w.heap.size + 1 + 1) _ _ _ _ (by omega)).c1, (PO2.out.set4 (w.heap.size + 1 + 1) _ _ _ _ (by omega)).c2, (PO2.out.set4 (w.heap.size + 1 + 1) _ _ _ _ (by omega)).c3⟩))
   (first
   | (go_at_call 68; (with_reducible refine (int_mul _ _ (a.num) (b.num) k k _ (RatIs.num KX.out) (RatIs.num KY.out) (by omega)).mono ?_); rintro e w5 ⟨r5, rfl, hr5, hb5⟩; have KX := Lib.hid (KX.out.mono hb5 (Nat.le_refl _)); have KY := Lib.hid (KY.out.mono hb5 (Nat.le_refl _)); (try have KB := Lib.hid (KB.out.mono hb5 (Nat.le_refl _))); have PO1 := Lib.hid (PO1.out.below hb5 PO1.out.lt); have PO2 := Lib.hid (PO2.out.below hb5 PO2.out.lt); have PO3 := Lib.hid (PO3.out.below hb5 PO3.out.lt); have KW := Lib.hid (KW.out.trans (hb5.mono KW.out.size)); clear x10 x11 x12 x13 xl1 x20 x21 x22 x23 xl2 x30 x31 x32 x33 xf3 xl3; obtain ⟨x10, x11, x12, x13, _, xl1⟩ := PO1.out; obtain ⟨x20, x21, x22, x23, _, xl2⟩ := PO2.out; obtain ⟨x30, x31, x32, x33, xf3, xl3⟩ := PO3.out; obtain ⟨s5, a5, n5, c5, rfl, KA⟩ := hr5.shape; clear hr5)
   | (go_at_call 68; (with_reducible refine (int_mul _ _ (a.den) (b.den) k k _ (RatIs.den KX.out) (RatIs.den KY.out) (by omega)).mono ?_); rintro e w6 ⟨r6, rfl, hr6, hb6⟩; have KX := Lib.hid (KX.out.mono hb6 (Nat.le_refl _)); have KY := Lib.hid (KY.out.mono hb6 (Nat.le_refl _)); (try have KA := Lib.hid (KA.out.mono hb6 (Nat.le_refl _))); have PO1 := Lib.hid (PO1.out.below hb6 PO1.out.lt); have PO2 := Lib.hid (PO2.out.below hb6 PO2.out.lt); have PO3 := Lib.hid (PO3.out.below hb6 PO3.out.lt); have KW := Lib.hid (KW.out.trans (hb6.mono KW.out.size)); clear x10 x11 x12 x13 xl1 x20 x21 x22 x23 xl2 x30 x31 x32 x33 xf3 xl3; obtain ⟨x10, x11, x12, x13, _, xl1⟩ := PO1.out; obtain ⟨x20, x21, x22, x23, _, xl2⟩ := PO2.out; obtain ⟨x30, x31, x32, x33, xf3, xl3⟩ := PO3.out; obtain ⟨s6, a6, n6, c6, rfl, KB⟩ := hr6.shape; clear hr6)
   | (go_at_call 124; (with_reducible refine (ratio_int _ _ (a.num * b.num) ((a.den : Int) * (b.den : Int)) (2 * k) (a * b) _ (KA.out.le (by omega)) (KB.out.le (by omega)) HP.out (by omega) (by omega) HQ.out).mono ?_); rintro e w9 ⟨r9, rfl, hr9, hb9⟩; have PO1 := Lib.hid (PO1.out.below hb9 PO1.out.lt); have PO2 := Lib.hid (PO2.out.below hb9 PO2.out.lt); have PO3 := Lib.hid (PO3.out.below hb9 PO3.out.lt); have KW := Lib.hid (KW.out.trans (hb9.mono KW.out.size)); clear x10 x11 x12 x13 xl1 x20 x21 x22 x23 xl2 x30 x31 x32 x33 xf3 xl3; obtain ⟨x10, x11, x12, x13, _, xl1⟩ := PO1.out; obtain ⟨x20, x21, x22, x23, _, xl2⟩ := PO2.out; obtain ⟨x30, x31, x32, x33, xf3, xl3⟩ := PO3.out; obtain ⟨s9, a9, n9, c9, b9, m9, d9, rfl, KR⟩ := hr9.shape; clear hr9))
  all_goals (try go_wp2)
  all_goals
   refine bodyPost_ret (v := .agg #[.bool s9, .slice a9 n9 c9, .bool false, .slice b9 m9 d9]) (by simp [results, Tryz.results69, go_sem, x30, x31, x32, x33, xf3]) rfl ?_
   exact ⟨_, rfl, RatIs.into KR.out _ _ _ _ PO3.out, below_set4 KW.out (by omega) _ _ _ _⟩
set_option maxHeartbeats 4000000 in
theorem rat_add (x y : Value) (a b : Rat) (k : Nat) (w : World) (hx : RatIs w x a k) (hy : RatIs w y b k) (hk1 : 1 ≤ k) (hk : 2 * k + 1 ≤ 549755813888) :
  Calls Tryz.prog 117 #[x, y] w fun e w' => ∃ r, e = .returned r ∧ RatIs w' r (a + b) (2 * k + 1) ∧ Below w.heap.size w w' := by
 obtain ⟨s1, a1, n1, c1, a2, n2, c2, rfl, H1⟩ := hx.shape
 obtain ⟨s2, a3, n3, c3, a4, n4, c4, rfl, H2⟩ := hy.shape
 clear hx hy
 have KW : Hid (Below w.heap.size w (((w.alloc (Obj.cells #[.bool s1, .slice a1 n1 c1, .bool false, .slice a2 n2 c2] 115)).alloc (Obj.cells #[.bool s2, .slice a3 n3 c3, .bool false, .slice a4 n4 c4] 115)).alloc (Obj.cells #[.bool false, .slice none 0 0, .bool false, .slice none 0 0] 115))) := boxes3 w _ _ _
 have KX := Lib.hid (H1.out.mono KW.out (Nat.le_refl _))
 have KY := Lib.hid (H2.out.mono KW.out (Nat.le_refl _))
 have PO1 : Hid (Own4 (((w.alloc (Obj.cells #[.bool s1, .slice a1 n1 c1, .bool false, .slice a2 n2 c2] 115)).alloc (Obj.cells #[.bool s2, .slice a3 n3 c3, .bool false, .slice a4 n4 c4] 115)).alloc (Obj.cells #[.bool false, .slice none 0 0, .bool false, .slice none 0 0] 115)) w.heap.size (.bool s1) (.slice a1 n1 c1) (.bool false) (.slice a2 n2 c2)) := ((own4_new _ _ rfl _ _ _ _ _).alloc _).alloc _
 have PO2 : Hid (Own4 (((w.alloc (Obj.cells #[.bool s1, .slice a1 n1 c1, .bool false, .slice a2 n2 c2] 115)).alloc (Obj.cells #[.bool s2, .slice a3 n3 c3, .bool false, .slice a4 n4 c4] 115)).alloc (Obj.cells #[.bool false, .slice none 0 0, .bool false, .slice none 0 0] 115)) (w.heap.size + 1) (.bool s2) (.slice a3 n3 c3) (.bool false) (.slice a4 n4 c4)) := (own4_new _ _ (by simp) _ _ _ _ _).alloc _
 have PO3 : Hid (Own4 (((w.alloc (Obj.cells #[.bool s1, .slice a1 n1 c1, .bool false, .slice a2 n2 c2] 115)).alloc (Obj.cells #[.bool s2, .slice a3 n3 c3, .bool false, .slice a4 n4 c4] 115)).alloc (Obj.cells #[.bool false, .slice none 0 0, .bool false, .slice none 0 0] 115)) (w.heap.size + 1 + 1) (.bool false) (.slice none 0 0) (.bool false) (.slice none 0 0)) := own4_new _ _ (by simp) _ _ _ _ _
 obtain ⟨x10, x11, x12, x13, _, xl1⟩ := PO1.out
 obtain ⟨x20, x21, x22, x23, _, xl2⟩ := PO2.out
 obtain ⟨x30, x31, x32, x33, xf3, xl3⟩ := PO3.out
 have CS : (a.den = 1 ∧ b.den = 1) ∨ (a.den = 1 ∧ ¬ b.den = 1) ∨ ¬ a.den = 1 := by omega
 rcases CS with ⟨ia, ib⟩ | ⟨ia, ib⟩ | ia
 ·have ha : decide (a.den = 1) = true := by simpa using ia
  have hb : decide (b.den = 1) = true := by simpa using ib
  have HQ : Hid (((a.num + b.num : Int) : Rat) = a + b) := by have h1 := rat_of_den_one a ia; have h2 := rat_of_den_one b ib; have : ((a.num + b.num : Int) : Rat) = (a.num : Rat) + (b.num : Rat) := Rat.intCast_add _ _; show _ = _; rw [this, h1, h2]
  clear ia ib
  have HA := Lib.hid ha
  have HBB := Lib.hid hb
  clear ha hb
  go_enter Tryz.func117, Tryz.ntmps117
  go_wp2_with (first
   | (go_at_call 123; (with_reducible refine (rat_integer _ a k _ true HA.out KX.out).mono ?_); rintro e w7 ⟨rfl, hb7⟩; have KX := Lib.hid (KX.out.mono hb7 (Nat.le_refl _)); have KY := Lib.hid (KY.out.mono hb7 (Nat.le_refl _)); have PO1 := Lib.hid (PO1.out.below hb7 PO1.out.lt); have PO2 := Lib.hid (PO2.out.below hb7 PO2.out.lt); have PO3 := Lib.hid (PO3.out.below hb7 PO3.out.lt); have KW := Lib.hid (KW.out.trans (hb7.mono KW.out.size)); clear x10 x11 x12 x13 xl1 x20 x21 x22 x23 xl2 x30 x31 x32 x33 xf3 xl3; obtain ⟨x10, x11, x12, x13, _, xl1⟩ := PO1.out; obtain ⟨x20, x21, x22, x23, _, xl2⟩ := PO2.out; obtain ⟨x30, x31, x32, x33, xf3, xl3⟩ := PO3.out)
   | (go_at_call 123; (with_reducible refine (rat_integer _ b k _ true HBB.out KY.out).mono ?_); rintro e w8 ⟨rfl, hb8⟩; have KX := Lib.hid (KX.out.mono hb8 (Nat.le_refl _)); have KY := Lib.hid (KY.out.mono hb8 (Nat.le_refl _)); have PO1 := Lib.hid (PO1.out.below hb8 PO1.out.lt); have PO2 := Lib.hid (PO2.out.below hb8 PO2.out.lt); have PO3 := Lib.hid (PO3.out.below hb8 PO3.out.lt); have KW := Lib.hid (KW.out.trans (hb8.mono KW.out.size)); clear x10 x11 x12 x13 xl1 x20 x21 x22 x23 xl2 x30 x31 x32 x33 xf3 xl3; obtain ⟨x10, x11, x12, x13, _, xl1⟩ := PO1.out; obtain ⟨x20, x21, x22, x23, _, xl2⟩ := PO2.out; obtain ⟨x30, x31, x32, x33, xf3, xl3⟩ := PO3.out)
   | (go_at_call 121; (with_reducible refine (int_add _ _ (a.num) (b.num) (k) _ ((RatIs.num KX.out).le (by omega)) ((RatIs.num KY.out).le (by omega)) (by omega)).mono ?_); rintro e w5 ⟨r5, rfl, hr5, hb5⟩; have KX := Lib.hid (KX.out.mono hb5 (Nat.le_refl _)); have KY := Lib.hid (KY.out.mono hb5 (Nat.le_refl _)); (try have KB := Lib.hid (KB.out.mono hb5 (Nat.le_refl _))); (try have KC := Lib.hid (KC.out.mono hb5 (Nat.le_refl _))); (try have KE := Lib.hid (KE.out.mono hb5 (Nat.le_refl _))); have PO1 := Lib.hid (PO1.out.below hb5 PO1.out.lt); have PO2 := Lib.hid (PO2.out.below hb5 PO2.out.lt); have PO3 := Lib.hid (PO3.out.below hb5 PO3.out.lt); have KW := Lib.hid (KW.out.trans (hb5.mono KW.out.size)); clear x10 x11 x12 x13 xl1 x20 x21 x22 x23 xl2 x30 x31 x32 x33 xf3 xl3; obtain ⟨x10, x11, x12, x13, _, xl1⟩ := PO1.out; obtain ⟨x20, x21, x22, x23, _, xl2⟩ := PO2.out; obtain ⟨x30, x31, x32, x33, xf3, xl3⟩ := PO3.out; obtain ⟨s5, a5, n5, c5, rfl, KA⟩ := hr5.shape; clear hr5)
   | (go_at_call 70; (with_reducible refine (rat_fromInt _ _ (2 * k + 1) _ (KA.out.le (by omega)) (by omega)).mono ?_); rintro e w9 ⟨r9, rfl, hr9, hb9⟩; have PO1 := Lib.hid (PO1.out.below hb9 PO1.out.lt); have PO2 := Lib.hid (PO2.out.below hb9 PO2.out.lt); have PO3 := Lib.hid (PO3.out.below hb9 PO3.out.lt); have KW := Lib.hid (KW.out.trans (hb9.mono KW.out.size)); clear x10 x11 x12 x13 xl1 x20 x21 x22 x23 xl2 x30 x31 x32 x33 xf3 xl3; obtain ⟨x10, x11, x12, x13, _, xl1⟩ := PO1.out; obtain ⟨x20, x21, x22, x23, _, xl2⟩ := PO2.out; obtain ⟨x30, x31, x32, x33, xf3, xl3⟩ := PO3.out; obtain ⟨s9, a9, n9, c9, b9, m9, d9, rfl, KR⟩ := hr9.shape; clear hr9))
  rw [HQ.out] at KR
  all_goals (try go_wp2)
  all_goals
   refine bodyPost_ret (v := .agg #[.bool s9, .slice a9 n9 c9, .bool false, .slice b9 m9 d9]) (by simp [results, Tryz.results117, go_sem, x30, x31, x32, x33, xf3]) rfl ?_
   exact ⟨_, rfl, RatIs.into KR.out _ _ _ _ PO3.out, below_set4 KW.out (by omega) _ _ _ _⟩
 focus
  have ha : decide (a.den = 1) = true := by simpa using ia
  have hb : decide (b.den = 1) = false := by simpa using ib
  clear ia ib
  have HA := Lib.hid ha
  have HBB := Lib.hid hb
  clear ha hb
  go_enter Tryz.func117, Tryz.ntmps117
  go_wp2_with (first
   | (go_at_call 123; (with_reducible refine (rat_integer _ a k _ true HA.out KX.out).mono ?_); rintro e w7 ⟨rfl, hb7⟩; have KX := Lib.hid (KX.out.mono hb7 (Nat.le_refl _)); have KY := Lib.hid (KY.out.mono hb7 (Nat.le_refl _)); have PO1 := Lib.hid (PO1.out.below hb7 PO1.out.lt); have PO2 := Lib.hid (PO2.out.below hb7 PO2.out.lt); have PO3 := Lib.hid (PO3.out.below hb7 PO3.out.lt); have KW := Lib.hid (KW.out.trans (hb7.mono KW.out.size)); clear x10 x11 x12 x13 xl1 x20 x21 x22 x23 xl2 x30 x31 x32 x33 xf3 xl3; obtain ⟨x10, x11, x12, x13, _, xl1⟩ := PO1.out; obtain ⟨x20, x21, x22, x23, _, xl2⟩ := PO2.out; obtain ⟨x30, x31, x32, x33, xf3, xl3⟩ := PO3.out)
   | (go_at_call 123; (with_reducible refine (rat_integer _ b k _ false HBB.out KY.out).mono ?_); rintro e w8 ⟨rfl, hb8⟩; have KX := Lib.hid (KX.out.mono hb8 (Nat.le_refl _)); have KY := Lib.hid (KY.out.mono hb8 (Nat.le_refl _)); have PO1 := Lib.hid (PO1.out.below hb8 PO1.out.lt); have PO2 := Lib.hid (PO2.out.below hb8 PO2.out.lt); have PO3 := Lib.hid (PO3.out.below hb8 PO3.out.lt); have KW := Lib.hid (KW.out.trans (hb8.mono KW.out.size)); clear x10 x11 x12 x13 xl1 x20 x21 x22 x23 xl2 x30 x31 x32 x33 xf3 xl3; obtain ⟨x10, x11, x12, x13, _, xl1⟩ := PO1.out; obtain ⟨x20, x21, x22, x23, _, xl2⟩ := PO2.out; obtain ⟨x30, x31, x32, x33, xf3, xl3⟩ := PO3.out))
 rotate_left
 focus
  have ha : decide (a.den = 1) = false := by simpa using ia
  clear ia
  have HA := Lib.hid ha
  clear ha
  go_enter Tryz.func117, Tryz.ntmps117
  go_wp2_with (first
   | (go_at_call 123; (with_reducible refine (rat_integer _ a k _ false HA.out KX.out).mono ?_); rintro e w7 ⟨rfl, hb7⟩; have KX := Lib.hid (KX.out.mono hb7 (Nat.le_refl _)); have KY := Lib.hid (KY.out.mono hb7 (Nat.le_refl _)); have PO1 := Lib.hid (PO1.out.below hb7 PO1.out.lt); have PO2 := Lib.hid (PO2.out.below hb7 PO2.out.lt); have PO3 := Lib.hid (PO3.out.below hb7 PO3.out.lt); have KW := Lib.hid (KW.out.trans (hb7.mono KW.out.size)); clear x10 x11 x12 x13 xl1 x20 x21 x22 x23 xl2 x30 x31 x32 x33 xf3 xl3; obtain ⟨x10, x11, x12, x13, _, xl1⟩ := PO1.out; obtain ⟨x20, x21, x22, x23, _, xl2⟩ := PO2.out; obtain ⟨x30, x31, x32, x33, xf3, xl3⟩ := PO3.out))
 all_goals
  have HQ := Lib.hid (add_eq_mk a b)
  have HP := Lib.hid (Int.mul_pos (int_den_pos a) (int_den_pos b))
  have PI1 := PO1
  have PI2 := PO2
  have KW := Lib.hid KW.out.drew
  have KX := Lib.hid KX.out.drew
  have KY := Lib.hid KY.out.drew
  have PO1 := Lib.hid PO1.out.drew
  have PO2 := Lib.hid PO2.out.drew
  have PO3 := Lib.hid PO3.out.drew
  go_region_held3 (fun wq => wq.cell? ⟨w.heap.size, 0, none⟩ = some (.bool s1) ∧ wq.cell? ⟨w.heap.size, 1, none⟩ = some (.slice a1 n1 c1) ∧ wq.cell? ⟨w.heap.size, 2, none⟩ = some (.bool false) ∧ wq.cell? ⟨w.heap.size, 3, none⟩ = some (.slice a2 n2 c2) ∧ wq.cell? ⟨w.heap.size + 1, 0, none⟩ = some (.bool s2) ∧ wq.cell? ⟨w.heap.size + 1, 1, none⟩ = some (.slice a3 n3 c3) ∧ wq.cell? ⟨w.heap.size + 1, 2, none⟩ = some (.bool false) ∧ wq.cell? ⟨w.heap.size + 1, 3, none⟩ = some (.slice a4 n4 c4)) (first | (with_reducible exact ⟨PI1.out.c0, PI1.out.c1, PI1.out.c2, PI1.out.c3, PI2.out.c0, PI2.out.c1, PI2.out.c2, PI2.out.c3⟩) | (with_reducible exact ⟨PO1.out.c0, PO1.out.c1, PO1.out.c2, PO1.out.c3, PO2.out.c0, PO2.out.c1, PO2.out.c2, PO2.out.c3⟩) | (with_reducible exact ⟨(PO1.out.set4 (w.heap.size + 1 + 1) _ _ _ _ (by omega)).c0, (PO1.out.set4 (w.heap.size + 1 + 1) _ _ _ _ (by omega)).c1, (PO1.out.set4 (w.heap.size + 1 + 1) _ _ _ _ (by omega)).c2, (PO1.out.set4 (w.heap.size + 1 + 1) _ _ _ _ (by omega)).c3, (PO2.out.set4 (w.heap.size + 1 + 1) _ _ _ _ (by omega)).c0, (PO2.out.set4 (w.heap.size + 1 + 1) _ _ _ _ (by omega)).c1, (PO2.out.set4 (w.heap.size + 1 + 1) _ _ _ _ (by omega)).c2, (PO2.out.set4 (w.heap.size + 1 + 1) _ _ _ _ (by omega)).c3⟩))
   (first
   | (go_at_call 68; (with_reducible refine (int_mul _ _ (a.num) (b.den) k k _ (RatIs.num KX.out) (RatIs.den KY.out) (by omega)).mono ?_); rintro e w5 ⟨r5, rfl, hr5, hb5⟩; have KX := Lib.hid (KX.out.mono hb5 (Nat.le_refl _)); have KY := Lib.hid (KY.out.mono hb5 (Nat.le_refl _)); (try have KB := Lib.hid (KB.out.mono hb5 (Nat.le_refl _))); (try have KC := Lib.hid (KC.out.mono hb5 (Nat.le_refl _))); (try have KE := Lib.hid (KE.out.mono hb5 (Nat.le_refl _))); have PO1 := Lib.hid (PO1.out.below hb5 PO1.out.lt); have PO2 := Lib.hid (PO2.out.below hb5 PO2.out.lt); have PO3 := Lib.hid (PO3.out.below hb5 PO3.out.lt); have KW := Lib.hid (KW.out.trans (hb5.mono KW.out.size)); clear x10 x11 x12 x13 xl1 x20 x21 x22 x23 xl2 x30 x31 x32 x33 xf3 xl3; obtain ⟨x10, x11, x12, x13, _, xl1⟩ := PO1.out; obtain ⟨x20, x21, x22, x23, _, xl2⟩ := PO2.out; obtain ⟨x30, x31, x32, x33, xf3, xl3⟩ := PO3.out; obtain ⟨s5, a5, n5, c5, rfl, KA⟩ := hr5.shape; clear hr5)
   | (go_at_call 68; (with_reducible refine (int_mul _ _ (b.num) (a.den) k k _ (RatIs.num KY.out) (RatIs.den KX.out) (by omega)).mono ?_); rintro e w6 ⟨r6, rfl, hr6, hb6⟩; have KX := Lib.hid (KX.out.mono hb6 (Nat.le_refl _)); have KY := Lib.hid (KY.out.mono hb6 (Nat.le_refl _)); (try have KA := Lib.hid (KA.out.mono hb6 (Nat.le_refl _))); (try have KC := Lib.hid (KC.out.mono hb6 (Nat.le_refl _))); (try have KE := Lib.hid (KE.out.mono hb6 (Nat.le_refl _))); have PO1 := Lib.hid (PO1.out.below hb6 PO1.out.lt); have PO2 := Lib.hid (PO2.out.below hb6 PO2.out.lt); have PO3 := Lib.hid (PO3.out.below hb6 PO3.out.lt); have KW := Lib.hid (KW.out.trans (hb6.mono KW.out.size)); clear x10 x11 x12 x13 xl1 x20 x21 x22 x23 xl2 x30 x31 x32 x33 xf3 xl3; obtain ⟨x10, x11, x12, x13, _, xl1⟩ := PO1.out; obtain ⟨x20, x21, x22, x23, _, xl2⟩ := PO2.out; obtain ⟨x30, x31, x32, x33, xf3, xl3⟩ := PO3.out; obtain ⟨s6, a6, n6, c6, rfl, KB⟩ := hr6.shape; clear hr6)
   | (go_at_call 68; (with_reducible refine (int_mul _ _ (a.den) (b.den) k k _ (RatIs.den KX.out) (RatIs.den KY.out) (by omega)).mono ?_); rintro e w4 ⟨r4, rfl, hr4, hb4⟩; have KX := Lib.hid (KX.out.mono hb4 (Nat.le_refl _)); have KY := Lib.hid (KY.out.mono hb4 (Nat.le_refl _)); (try have KA := Lib.hid (KA.out.mono hb4 (Nat.le_refl _))); (try have KB := Lib.hid (KB.out.mono hb4 (Nat.le_refl _))); (try have KE := Lib.hid (KE.out.mono hb4 (Nat.le_refl _))); have PO1 := Lib.hid (PO1.out.below hb4 PO1.out.lt); have PO2 := Lib.hid (PO2.out.below hb4 PO2.out.lt); have PO3 := Lib.hid (PO3.out.below hb4 PO3.out.lt); have KW := Lib.hid (KW.out.trans (hb4.mono KW.out.size)); clear x10 x11 x12 x13 xl1 x20 x21 x22 x23 xl2 x30 x31 x32 x33 xf3 xl3; obtain ⟨x10, x11, x12, x13, _, xl1⟩ := PO1.out; obtain ⟨x20, x21, x22, x23, _, xl2⟩ := PO2.out; obtain ⟨x30, x31, x32, x33, xf3, xl3⟩ := PO3.out; obtain ⟨s4, a4, n4, c4, rfl, KC⟩ := hr4.shape; clear hr4)
   | (go_at_call 121; (with_reducible refine (int_add _ _ (a.num * (b.den : Int)) (b.num * (a.den : Int)) (2 * k) _ (KA.out.le (by omega)) (KB.out.le (by omega)) (by omega)).mono ?_); rintro e w3 ⟨r3, rfl, hr3, hb3⟩; have KX := Lib.hid (KX.out.mono hb3 (Nat.le_refl _)); have KY := Lib.hid (KY.out.mono hb3 (Nat.le_refl _)); (try have KA := Lib.hid (KA.out.mono hb3 (Nat.le_refl _))); (try have KB := Lib.hid (KB.out.mono hb3 (Nat.le_refl _))); (try have KC := Lib.hid (KC.out.mono hb3 (Nat.le_refl _))); have PO1 := Lib.hid (PO1.out.below hb3 PO1.out.lt); have PO2 := Lib.hid (PO2.out.below hb3 PO2.out.lt); have PO3 := Lib.hid (PO3.out.below hb3 PO3.out.lt); have KW := Lib.hid (KW.out.trans (hb3.mono KW.out.size)); clear x10 x11 x12 x13 xl1 x20 x21 x22 x23 xl2 x30 x31 x32 x33 xf3 xl3; obtain ⟨x10, x11, x12, x13, _, xl1⟩ := PO1.out; obtain ⟨x20, x21, x22, x23, _, xl2⟩ := PO2.out; obtain ⟨x30, x31, x32, x33, xf3, xl3⟩ := PO3.out; obtain ⟨s3, a3, n3, c3, rfl, KE⟩ := hr3.shape; clear hr3)
   | (go_at_call 124; (with_reducible refine (ratio_int _ _ (a.num * (b.den : Int) + b.num * (a.den : Int)) ((a.den : Int) * (b.den : Int)) (2 * k + 1) (a + b) _ (KE.out.le (by omega)) (KC.out.le (by omega)) HP.out (by omega) (by omega) HQ.out).mono ?_); rintro e w9 ⟨r9, rfl, hr9, hb9⟩; have PO1 := Lib.hid (PO1.out.below hb9 PO1.out.lt); have PO2 := Lib.hid (PO2.out.below hb9 PO2.out.lt); have PO3 := Lib.hid (PO3.out.below hb9 PO3.out.lt); have KW := Lib.hid (KW.out.trans (hb9.mono KW.out.size)); clear x10 x11 x12 x13 xl1 x20 x21 x22 x23 xl2 x30 x31 x32 x33 xf3 xl3; obtain ⟨x10, x11, x12, x13, _, xl1⟩ := PO1.out; obtain ⟨x20, x21, x22, x23, _, xl2⟩ := PO2.out; obtain ⟨x30, x31, x32, x33, xf3, xl3⟩ := PO3.out; obtain ⟨s9, a9, n9, c9, b9, m9, d9, rfl, KR⟩ := hr9.shape; clear hr9))
  all_goals (try go_wp2)
  all_goals
   refine bodyPost_ret (v := .agg #[.bool s9, .slice a9 n9 c9, .bool false, .slice b9 m9 d9]) (by simp [results, Tryz.results117, go_sem, x30, x31, x32, x33, xf3]) rfl ?_
   exact ⟨_, rfl, RatIs.into KR.out _ _ _ _ PO3.out, below_set4 KW.out (by omega) _ _ _ _⟩
set_option maxHeartbeats 4000000 in
theorem rat_sub (x y : Value) (a b : Rat) (k : Nat) (w : World) (hx : RatIs w x a k) (hy : RatIs w y b k) (hk1 : 1 ≤ k) (hk : 2 * k + 1 ≤ 549755813888) :
  Calls Tryz.prog 64 #[x, y] w fun e w' => ∃ r, e = .returned r ∧ RatIs w' r (a - b) (2 * k + 1) ∧ Below w.heap.size w w' := by
 obtain ⟨s1, a1, n1, c1, a2, n2, c2, rfl, H1⟩ := hx.shape
 obtain ⟨s2, a3, n3, c3, a4, n4, c4, rfl, H2⟩ := hy.shape
 clear hx hy
 have KW : Hid (Below w.heap.size w (((w.alloc (Obj.cells #[.bool s1, .slice a1 n1 c1, .bool false, .slice a2 n2 c2] 115)).alloc (Obj.cells #[.bool s2, .slice a3 n3 c3, .bool false, .slice a4 n4 c4] 115)).alloc (Obj.cells #[.bool false, .slice none 0 0, .bool false, .slice none 0 0] 115))) := boxes3 w _ _ _
 have KX := Lib.hid (H1.out.mono KW.out (Nat.le_refl _))
 have KY := Lib.hid (H2.out.mono KW.out (Nat.le_refl _))
 have PO1 : Hid (Own4 (((w.alloc (Obj.cells #[.bool s1, .slice a1 n1 c1, .bool false, .slice a2 n2 c2] 115)).alloc (Obj.cells #[.bool s2, .slice a3 n3 c3, .bool false, .slice a4 n4 c4] 115)).alloc (Obj.cells #[.bool false, .slice none 0 0, .bool false, .slice none 0 0] 115)) w.heap.size (.bool s1) (.slice a1 n1 c1) (.bool false) (.slice a2 n2 c2)) := ((own4_new _ _ rfl _ _ _ _ _).alloc _).alloc _
 have PO2 : Hid (Own4 (((w.alloc (Obj.cells #[.bool s1, .slice a1 n1 c1, .bool false, .slice a2 n2 c2] 115)).alloc (Obj.cells #[.bool s2, .slice a3 n3 c3, .bool false, .slice a4 n4 c4] 115)).alloc (Obj.cells #[.bool false, .slice none 0 0, .bool false, .slice none 0 0] 115)) (w.heap.size + 1) (.bool s2) (.slice a3 n3 c3) (.bool false) (.slice a4 n4 c4)) := (own4_new _ _ (by simp) _ _ _ _ _).alloc _
 have PO3 : Hid (Own4 (((w.alloc (Obj.cells #[.bool s1, .slice a1 n1 c1, .bool false, .slice a2 n2 c2] 115)).alloc (Obj.cells #[.bool s2, .slice a3 n3 c3, .bool false, .slice a4 n4 c4] 115)).alloc (Obj.cells #[.bool false, .slice none 0 0, .bool false, .slice none 0 0] 115)) (w.heap.size + 1 + 1) (.bool false) (.slice none 0 0) (.bool false) (.slice none 0 0)) := own4_new _ _ (by simp) _ _ _ _ _
 obtain ⟨x10, x11, x12, x13, _, xl1⟩ := PO1.out
 obtain ⟨x20, x21, x22, x23, _, xl2⟩ := PO2.out
 obtain ⟨x30, x31, x32, x33, xf3, xl3⟩ := PO3.out
 go_enter Tryz.func64, Tryz.ntmps64
 go_wp2
 have PI1 := PO1
 have PI2 := PO2
 have KW := Lib.hid KW.out.drew
 have KX := Lib.hid KX.out.drew
 have KY := Lib.hid KY.out.drew
 have PO1 := Lib.hid PO1.out.drew
 have PO2 := Lib.hid PO2.out.drew
 have PO3 := Lib.hid PO3.out.drew
 go_region_held3 (fun wq => wq.cell? ⟨w.heap.size, 0, none⟩ = some (.bool s1) ∧ wq.cell? ⟨w.heap.size, 1, none⟩ = some (.slice a1 n1 c1) ∧ wq.cell? ⟨w.heap.size, 2, none⟩ = some (.bool false) ∧ wq.cell? ⟨w.heap.size, 3, none⟩ = some (.slice a2 n2 c2) ∧ wq.cell? ⟨w.heap.size + 1, 0, none⟩ = some (.bool s2) ∧ wq.cell? ⟨w.heap.size + 1, 1, none⟩ = some (.slice a3 n3 c3) ∧ wq.cell? ⟨w.heap.size + 1, 2, none⟩ = some (.bool false) ∧ wq.cell? ⟨w.heap.size + 1, 3, none⟩ = some (.slice a4 n4 c4)) (first | (with_reducible exact ⟨PI1.out.c0, PI1.out.c1, PI1.out.c2, PI1.out.c3, PI2.out.c0, PI2.out.c1, PI2.out.c2, PI2.out.c3⟩) | (with_reducible exact ⟨PO1.out.c0, PO1.out.c1, PO1.out.c2, PO1.out.c3, PO2.out.c0, PO2.out.c1, PO2.out.c2, PO2.out.c3⟩) | (with_reducible exact ⟨(PO1.out.set4 (w.heap.size + 1 + 1) _ _ _ _ (by omega)).c0, (PO1.out.set4 (w.heap.size + 1 + 1) _ _ _ _ (by omega)).c1, (PO1.out.set4 (w.heap.size + 1 + 1) _ _ _ _ (by omega)).c2, (PO1.out.set4 (w.heap.size + 1 + 1) _ _ _ _ (by omega)).c3, (PO2.out.set4 (w.heap.size + 1 + 1) _ _ _ _ (by omega)).c0, (PO2.out.set4 (w.heap.size + 1 + 1) _ _ _ _ (by omega)).c1, (PO2.out.set4 (w.heap.size + 1 + 1) _ _ _ _ (by omega)).c2, (PO2.out.set4 (w.heap.size + 1 + 1) _ _ _ _ (by omega)).c3⟩))
  (first
  | (go_at_call 118; (with_reducible refine (rat_neg _ b k _ KY.out).mono ?_); rintro e w5 ⟨r5, rfl, hr5, hb5⟩; have KX := Lib.hid (KX.out.mono hb5 (Nat.le_refl _)); have PO1 := Lib.hid (PO1.out.below hb5 PO1.out.lt); have PO2 := Lib.hid (PO2.out.below hb5 PO2.out.lt); have PO3 := Lib.hid (PO3.out.below hb5 PO3.out.lt); have KW := Lib.hid (KW.out.trans (hb5.mono KW.out.size)); clear x10 x11 x12 x13 xl1 x20 x21 x22 x23 xl2 x30 x31 x32 x33 xf3 xl3; obtain ⟨x10, x11, x12, x13, _, xl1⟩ := PO1.out; obtain ⟨x20, x21, x22, x23, _, xl2⟩ := PO2.out; obtain ⟨x30, x31, x32, x33, xf3, xl3⟩ := PO3.out; obtain ⟨s5, a5, n5, c5, b5, m5, d5, rfl, KA⟩ := hr5.shape; clear hr5)
  | (go_at_call 117; (with_reducible refine (rat_add _ _ a (-b) k _ KX.out KA.out hk1 hk).mono ?_); rintro e w9 ⟨r9, rfl, hr9, hb9⟩; have PO1 := Lib.hid (PO1.out.below hb9 PO1.out.lt); have PO2 := Lib.hid (PO2.out.below hb9 PO2.out.lt); have PO3 := Lib.hid (PO3.out.below hb9 PO3.out.lt); have KW := Lib.hid (KW.out.trans (hb9.mono KW.out.size)); clear x10 x11 x12 x13 xl1 x20 x21 x22 x23 xl2 x30 x31 x32 x33 xf3 xl3; obtain ⟨x10, x11, x12, x13, _, xl1⟩ := PO1.out; obtain ⟨x20, x21, x22, x23, _, xl2⟩ := PO2.out; obtain ⟨x30, x31, x32, x33, xf3, xl3⟩ := PO3.out; obtain ⟨s9, a9, n9, c9, b9, m9, d9, rfl, KR⟩ := hr9.shape; clear hr9))
 rw [← Rat.sub_eq_add_neg] at KR
 all_goals (try go_wp2)
 all_goals
  refine bodyPost_ret (v := .agg #[.bool s9, .slice a9 n9 c9, .bool false, .slice b9 m9 d9]) (by simp [results, Tryz.results64, go_sem, x30, x31, x32, x33, xf3]) rfl ?_
  exact ⟨_, rfl, RatIs.into KR.out _ _ _ _ PO3.out, below_set4 KW.out (by omega) _ _ _ _⟩
end Go.Proofs.YtolkchkedieppaaGreat
