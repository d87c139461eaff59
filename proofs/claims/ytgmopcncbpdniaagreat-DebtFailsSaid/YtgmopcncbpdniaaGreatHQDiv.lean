/- The reference's fractions: Over, DivQ, Make, Lowest. (Printed by gen_qdiv.py.) -/
import Derived.Test.YtgmopcncbpdniaaGreatHVRow
set_option linter.unusedVariables false
set_option linter.unusedSimpArgs false
namespace Go.Proofs.YtgmopcncbpdniaaGreat
open Go.RowKit
attribute [local go_sem ↓] Go.wp_at_zero Go.wp_at_succ
theorem low_parts {p d : Int} {q : Rat} (hd : 0 < d) (h : (p : Rat) = q * (d : Rat)) : p / ((Int.gcd p d : Nat) : Int) = q.num ∧ d / ((Int.gcd p d : Nat) : Int) = ((q.den : Nat) : Int) := by
 have e : q = Rat.divInt p d := by
  rw [Rat.divInt_eq_div, h, Rat.div_def, Rat.mul_assoc, Rat.mul_inv_cancel _ (rat_ne hd), Rat.mul_one]
 rw [e, Rat.num_divInt, Rat.den_divInt, Int.gcd_comm d p]
 have hs : d.sign = 1 := Int.sign_eq_one_of_pos hd
 refine ⟨by rw [hs, Int.one_mul], ?_⟩
 rw [if_neg (by omega)]
 obtain ⟨D, rfl⟩ := Int.eq_ofNat_of_zero_le (Int.le_of_lt hd)
 rw [Int.natAbs_natCast, ← Int.natCast_ediv]
theorem qv_low (x : Value) (q : Rat) (k : Nat) (w : World) (hx : QV w x q k) (hk : k ≤ 274877906940) :
  Calls Tryz.prog 50 #[x] w fun ex w' => ∃ r, ex = .returned r ∧ QIs w' r q.num ((q.den : Nat) : Int) k ∧ Below w.heap.size w w' := by
 obtain ⟨p, d, h, e⟩ := hx
 have hd := h.pos
 refine (qlow_any x p d k w h hk).mono ?_
 rintro ex w' ⟨r, rfl, hr, hb⟩
 obtain ⟨e1, e2⟩ := low_parts hd e
 rw [e1, e2] at hr
 exact ⟨r, rfl, hr, hb⟩
theorem ZIs.sign {w : World} {s : Bool} {u : Value} {z : Int} {m : Nat} (h : ZIs w (.agg #[.bool s, u]) z m) : s = decide (z < 0) := by
 obtain ⟨u', e, _⟩ := h
 injection e with e
 injection e with e
 simp only [List.cons.injEq, and_true] at e
 obtain ⟨e, _⟩ := e
 injection e
set_option maxHeartbeats 2000000 in
theorem over_pos (x y : Value) (p d : Int) (k : Nat) (w : World) (hx : ZIs w x p k) (hy : ZIs w y d k) (hd : 0 < d) :
  Calls Tryz.prog 82 #[x, y] w fun ex w' => ∃ r, ex = .returned r ∧ QIs w' r p d k ∧ Below w.heap.size w w' := by
 obtain ⟨s1, a1, n1, c1, rfl, HA⟩ := hx.shape
 obtain ⟨s2, a2, n2, c2, rfl, HB⟩ := hy.shape
 clear hx hy
 obtain rfl : s2 = false := by rw [HB.out.sign]; simp; omega
 have HD := Lib.hid hd
 clear hd
 have KW := Lib.hid (boxes3 w (Obj.cells #[.bool s1, .slice a1 n1 c1] 38) (Obj.cells #[.bool false, .slice a2 n2 c2] 38) (Obj.cells #[.bool false, .slice none 0 0, .bool false, .slice none 0 0] 40))
 go_enter Tryz.func82, Tryz.ntmps82
 go_wp2_with fail
 refine bodyPost_ret (v := .agg #[.bool s1, .slice a1 n1 c1, .bool false, .slice a2 n2 c2]) (by simp [results, Tryz.results82, go_sem]) rfl ?_
 exact ⟨_, rfl, ⟨_, _, _, _, rfl, HA.out.mono (boxes3 w _ _ _) (Nat.le_refl _), HB.out.mono (boxes3 w _ _ _) (Nat.le_refl _), HD.out⟩, boxes3 w _ _ _⟩
set_option maxHeartbeats 2000000 in
theorem over_neg (x y : Value) (p d : Int) (k : Nat) (w : World) (hx : ZIs w x p k) (hy : ZIs w y d k) (hd : d < 0) :
  Calls Tryz.prog 82 #[x, y] w fun ex w' => ∃ r, ex = .returned r ∧ QIs w' r (-p) (-d) k ∧ Below w.heap.size w w' := by
 obtain ⟨s1, a1, n1, c1, rfl, HA⟩ := hx.shape
 obtain ⟨s2, a2, n2, c2, rfl, HB⟩ := hy.shape
 clear hx hy
 obtain rfl : s2 = true := by rw [HB.out.sign]; simp; omega
 have HD : Hid (0 < -d) := Lib.hid (by omega)
 clear hd
 have KW : Hid (Below w.heap.size w (((w.alloc (Obj.cells #[.bool s1, .slice a1 n1 c1] 38)).alloc (Obj.cells #[.bool true, .slice a2 n2 c2] 38)).alloc (Obj.cells #[.bool false, .slice none 0 0, .bool false, .slice none 0 0] 40))) := boxes3 w _ _ _
 have KA := Lib.hid (HA.out.mono KW.out (Nat.le_refl _))
 have KB := Lib.hid (HB.out.mono KW.out (Nat.le_refl _))
 have O1 : Hid (Own2 (((w.alloc (Obj.cells #[.bool s1, .slice a1 n1 c1] 38)).alloc (Obj.cells #[.bool true, .slice a2 n2 c2] 38)).alloc (Obj.cells #[.bool false, .slice none 0 0, .bool false, .slice none 0 0] 40)) w.heap.size (.bool s1) (.slice a1 n1 c1)) := ((own2_new _ _ rfl _ _ _).alloc _).alloc _
 have O2 : Hid (Own2 (((w.alloc (Obj.cells #[.bool s1, .slice a1 n1 c1] 38)).alloc (Obj.cells #[.bool true, .slice a2 n2 c2] 38)).alloc (Obj.cells #[.bool false, .slice none 0 0, .bool false, .slice none 0 0] 40)) (w.heap.size + 1) (.bool true) (.slice a2 n2 c2)) := (own2_new _ _ (by simp) _ _ _).alloc _
 have O3 : Hid (Own4 (((w.alloc (Obj.cells #[.bool s1, .slice a1 n1 c1] 38)).alloc (Obj.cells #[.bool true, .slice a2 n2 c2] 38)).alloc (Obj.cells #[.bool false, .slice none 0 0, .bool false, .slice none 0 0] 40)) (w.heap.size + 1 + 1) (.bool false) (.slice none 0 0) (.bool false) (.slice none 0 0)) := own4_new _ _ (by simp) _ _ _ _ _
 clear HA HB
 go_enter Tryz.func82, Tryz.ntmps82
 go_wp2
 have KW := Lib.hid KW.out.drew
 have KA := Lib.hid KA.out.drew
 have KB := Lib.hid KB.out.drew
 have O1 := Lib.hid O1.out.drew
 have O2 := Lib.hid O2.out.drew
 have O3 := Lib.hid O3.out.drew
 have x10 := O1.out.c0; have x11 := O1.out.c1; have xl1 := O1.out.lt; have xf1 := O1.out.f
 have x20 := O2.out.c0; have x21 := O2.out.c1; have xl2 := O2.out.lt; have xf2 := O2.out.f
 go_region_with (first
  | (go_at_call 93; have X1 := KA.out; clear KA; (with_reducible refine (zneg_any _ p k _ X1).mono ?_); clear X1; rintro e w3 ⟨r3, rfl, hr3, hb3⟩; obtain ⟨s3, a3, n3, c3, rfl, KA2⟩ := hr3.shape; clear hr3; have KB := Lib.hid (KB.out.mono hb3 (Nat.le_refl _)); have O1 := Lib.hid (O1.out.below hb3 O1.out.lt); have O2 := Lib.hid (O2.out.below hb3 O2.out.lt); have O3 := Lib.hid (O3.out.below hb3 O3.out.lt); have KW := Lib.hid (KW.out.trans (hb3.mono KW.out.size)); clear x10 x11 xl1 xf1 x20 x21 xl2 xf2; have x10 := O1.out.c0; have x11 := O1.out.c1; have xl1 := O1.out.lt; have xf1 := O1.out.f; have x20 := O2.out.c0; have x21 := O2.out.c1; have xl2 := O2.out.lt; have xf2 := O2.out.f)
  | (go_at_call 93; have X1 := KB.out; clear KB; (with_reducible refine (zneg_any _ d k _ X1).mono ?_); clear X1; rintro e w4 ⟨r4, rfl, hr4, hb4⟩; obtain ⟨s4, a4, n4, c4, rfl, KB2⟩ := hr4.shape; clear hr4; have KA2 := Lib.hid (KA2.out.mono hb4 (Nat.le_refl _)); have O1 := Lib.hid (O1.out.below hb4 O1.out.lt); have O2 := Lib.hid (O2.out.below hb4 O2.out.lt); have O3 := Lib.hid (O3.out.below hb4 O3.out.lt); have KW := Lib.hid (KW.out.trans (hb4.mono KW.out.size)); clear x10 x11 xl1 xf1 x20 x21 xl2 xf2; have x10 := O1.out.c0; have x11 := O1.out.c1; have xl1 := O1.out.lt; have xf1 := O1.out.f; have x20 := O2.out.c0; have x21 := O2.out.c1; have xl2 := O2.out.lt; have xf2 := O2.out.f))
 all_goals
  have O2' := O2.out.off2 (b' := w.heap.size) (by omega) (.bool s3) (.slice a3 n3 c3)
  have NA := Lib.hid ((KA2.out.off2 O1.out (noInt_bool _) (noInt_slice _ _ _) (.bool s3) (.slice a3 n3 c3)).off2 O2' (noInt_bool _) (noInt_slice _ _ _) (.bool s4) (.slice a4 n4 c4))
  have NB := Lib.hid ((KB2.out.off2 O1.out (noInt_bool _) (noInt_slice _ _ _) (.bool s3) (.slice a3 n3 c3)).off2 O2' (noInt_bool _) (noInt_slice _ _ _) (.bool s4) (.slice a4 n4 c4))
  have Q1 := Lib.hid ((O1.out.anew2 (.bool s3) (.slice a3 n3 c3)).off2 (b' := w.heap.size + 1) (by omega) (.bool s4) (.slice a4 n4 c4))
  have Q2 := Lib.hid (O2'.anew2 (.bool s4) (.slice a4 n4 c4))
  have Q3 := Lib.hid ((((O3.out.setCell w.heap.size 0 (.bool s3) (by omega)).setCell w.heap.size 1 (.slice a3 n3 c3) (by omega)).setCell (w.heap.size + 1) 0 (.bool s4) (by omega)).setCell (w.heap.size + 1) 1 (.slice a4 n4 c4) (by omega))
  have KV := Lib.hid ((((KW.out.setCell (p := ⟨w.heap.size, 0, none⟩) (Nat.le_refl _) (.bool s3)).setCell (p := ⟨w.heap.size, 1, none⟩) (Nat.le_refl _) (.slice a3 n3 c3)).setCell (p := ⟨w.heap.size + 1, 0, none⟩) (Nat.le_succ _) (.bool s4)).setCell (p := ⟨w.heap.size + 1, 1, none⟩) (Nat.le_succ _) (.slice a4 n4 c4))
  clear KA2 KB2 KW O1 O2 O3 O2' x10 x11 xl1 xf1 x20 x21 xl2 xf2 hb3 hb4
  generalize ((((w4.setCell ⟨w.heap.size, 0, none⟩ (.bool s3)).setCell ⟨w.heap.size, 1, none⟩ (.slice a3 n3 c3)).setCell ⟨w.heap.size + 1, 0, none⟩ (.bool s4)).setCell ⟨w.heap.size + 1, 1, none⟩ (.slice a4 n4 c4)) = w5 at *
  obtain ⟨x10, x11, _, xl1⟩ := Q1.out
  obtain ⟨x20, x21, _, xl2⟩ := Q2.out
  obtain ⟨x30, x31, x32, x33, xf3, xl3⟩ := Q3.out
  go_wp2_with fail
  refine bodyPost_ret (v := .agg #[.bool s3, .slice a3 n3 c3, .bool s4, .slice a4 n4 c4]) (by simp [results, Tryz.results82, go_sem, x30, x31, x32, x33, xf3, xl3]) rfl ?_
  exact ⟨_, rfl, ⟨_, _, _, _, rfl, NA.out.store4 Q3.out _ _ _ _, NB.out.store4 Q3.out _ _ _ _, HD.out⟩, below_set4q KV.out (by omega) _ _ _ _⟩
theorem over_any (x y : Value) (p d : Int) (k : Nat) (w : World) (hx : ZIs w x p k) (hy : ZIs w y d k) (hd : d ≠ 0) :
  Calls Tryz.prog 82 #[x, y] w fun ex w' => ∃ r P D, ex = .returned r ∧ QIs w' r P D k ∧ P * d = p * D ∧ Below w.heap.size w w' := by
 rcases Int.lt_or_gt_of_ne hd with h | h
 ·refine (over_neg x y p d k w hx hy h).mono ?_
  rintro ex w' ⟨r, rfl, hr, hb⟩
  exact ⟨r, _, _, rfl, hr, by rw [Int.neg_mul, Int.mul_neg], hb⟩
 ·refine (over_pos x y p d k w hx hy h).mono ?_
  rintro ex w' ⟨r, rfl, hr, hb⟩
  exact ⟨r, _, _, rfl, hr, rfl, hb⟩
set_option maxHeartbeats 4000000 in
theorem qdiv_any (x y : Value) (p d q e : Int) (k : Nat) (w : World) (hx : QIs w x p d k) (hy : QIs w y q e k) (hq : q ≠ 0) (hk : k ≤ 274877906940) :
  Calls Tryz.prog 90 #[x, y] w fun ex w' => ∃ r P D, ex = .returned r ∧ QIs w' r P D (2 * k) ∧ P * (d * q) = p * e * D ∧ Below w.heap.size w w' := by
 have HQ0 : Hid (d * q ≠ 0) := Lib.hid (Int.mul_ne_zero (by have := hx.pos; omega) hq)
 clear hq
 obtain ⟨s1, a1, n1, c1, t1, a2, n2, c2, rfl, HN1, HD1, hd1⟩ := hx.shape
 obtain ⟨s2, a3, n3, c3, t2, a4, n4, c4, rfl, HN2, HD2, hd2⟩ := hy.shape
 clear hx hy
 have KW : Hid (Below w.heap.size w (((w.alloc (Obj.cells #[.bool s1, .slice a1 n1 c1, .bool t1, .slice a2 n2 c2] 40)).alloc (Obj.cells #[.bool s2, .slice a3 n3 c3, .bool t2, .slice a4 n4 c4] 40)).alloc (Obj.cells #[.bool false, .slice none 0 0, .bool false, .slice none 0 0] 40))) := boxes3 w _ _ _
 have KN1 := Lib.hid (HN1.out.mono KW.out (Nat.le_refl _))
 have KD1 := Lib.hid (HD1.out.mono KW.out (Nat.le_refl _))
 have KN2 := Lib.hid (HN2.out.mono KW.out (Nat.le_refl _))
 have KD2 := Lib.hid (HD2.out.mono KW.out (Nat.le_refl _))
 have PO1 : Hid (Own4 (((w.alloc (Obj.cells #[.bool s1, .slice a1 n1 c1, .bool t1, .slice a2 n2 c2] 40)).alloc (Obj.cells #[.bool s2, .slice a3 n3 c3, .bool t2, .slice a4 n4 c4] 40)).alloc (Obj.cells #[.bool false, .slice none 0 0, .bool false, .slice none 0 0] 40)) w.heap.size (.bool s1) (.slice a1 n1 c1) (.bool t1) (.slice a2 n2 c2)) := ((own4_new _ _ rfl _ _ _ _ _).alloc _).alloc _
 have PO2 : Hid (Own4 (((w.alloc (Obj.cells #[.bool s1, .slice a1 n1 c1, .bool t1, .slice a2 n2 c2] 40)).alloc (Obj.cells #[.bool s2, .slice a3 n3 c3, .bool t2, .slice a4 n4 c4] 40)).alloc (Obj.cells #[.bool false, .slice none 0 0, .bool false, .slice none 0 0] 40)) (w.heap.size + 1) (.bool s2) (.slice a3 n3 c3) (.bool t2) (.slice a4 n4 c4)) := (own4_new _ _ (by simp) _ _ _ _ _).alloc _
 have PO3 : Hid (Own4 (((w.alloc (Obj.cells #[.bool s1, .slice a1 n1 c1, .bool t1, .slice a2 n2 c2] 40)).alloc (Obj.cells #[.bool s2, .slice a3 n3 c3, .bool t2, .slice a4 n4 c4] 40)).alloc (Obj.cells #[.bool false, .slice none 0 0, .bool false, .slice none 0 0] 40)) (w.heap.size + 1 + 1) (.bool false) (.slice none 0 0) (.bool false) (.slice none 0 0)) := own4_new _ _ (by simp) _ _ _ _ _
 obtain ⟨x10, x11, x12, x13, _, xl1⟩ := PO1.out
 obtain ⟨x20, x21, x22, x23, _, xl2⟩ := PO2.out
 obtain ⟨x30, x31, x32, x33, xf3, xl3⟩ := PO3.out
 have HP := Lib.hid (Int.mul_pos hd1 hd2)
 clear hd1 hd2 HN1 HD1 HN2 HD2
 go_enter Tryz.func90, Tryz.ntmps90
 go_wp2
 have PI1 := PO1
 have PI2 := PO2
 have KW := Lib.hid KW.out.drew
 have KN1 := Lib.hid KN1.out.drew
 have KD1 := Lib.hid KD1.out.drew
 have KN2 := Lib.hid KN2.out.drew
 have KD2 := Lib.hid KD2.out.drew
 have PO1 := Lib.hid PO1.out.drew
 have PO2 := Lib.hid PO2.out.drew
 have PO3 := Lib.hid PO3.out.drew
 go_region_held3 (fun wq => wq.cell? ⟨w.heap.size, 0, none⟩ = some (.bool s1) ∧ wq.cell? ⟨w.heap.size, 1, none⟩ = some (.slice a1 n1 c1) ∧ wq.cell? ⟨w.heap.size, 2, none⟩ = some (.bool t1) ∧ wq.cell? ⟨w.heap.size, 3, none⟩ = some (.slice a2 n2 c2) ∧ wq.cell? ⟨w.heap.size + 1, 0, none⟩ = some (.bool s2) ∧ wq.cell? ⟨w.heap.size + 1, 1, none⟩ = some (.slice a3 n3 c3) ∧ wq.cell? ⟨w.heap.size + 1, 2, none⟩ = some (.bool t2) ∧ wq.cell? ⟨w.heap.size + 1, 3, none⟩ = some (.slice a4 n4 c4)) (first | (with_reducible exact ⟨PI1.out.c0, PI1.out.c1, PI1.out.c2, PI1.out.c3, PI2.out.c0, PI2.out.c1, PI2.out.c2, PI2.out.c3⟩) | (with_reducible exact ⟨PO1.out.c0, PO1.out.c1, PO1.out.c2, PO1.out.c3, PO2.out.c0, PO2.out.c1, PO2.out.c2, PO2.out.c3⟩) | (with_reducible exact ⟨(PO1.out.set4 (w.heap.size + 1 + 1) _ _ _ _ (by omega)).c0, (PO1.out.set4 (w.heap.size + 1 + 1) _ _ _ _ (by omega)).c1, (PO1.out.set4 (w.heap.size + 1 + 1) _ _ _ _ (by omega)).c2, (PO1.out.set4 (w.heap.size + 1 + 1) _ _ _ _ (by omega)).c3, (PO2.out.set4 (w.heap.size + 1 + 1) _ _ _ _ (by omega)).c0, (PO2.out.set4 (w.heap.size + 1 + 1) _ _ _ _ (by omega)).c1, (PO2.out.set4 (w.heap.size + 1 + 1) _ _ _ _ (by omega)).c2, (PO2.out.set4 (w.heap.size + 1 + 1) _ _ _ _ (by omega)).c3⟩))
  (first
  | (go_at_call 45; (with_reducible refine (zmul_any _ _ (p) (e) k k _ KN1.out KD2.out (by omega)).mono ?_); rintro e w5 ⟨r5, rfl, hr5, hb5⟩; (try have KN1 := Lib.hid (KN1.out.mono hb5 (Nat.le_refl _))); (try have KD1 := Lib.hid (KD1.out.mono hb5 (Nat.le_refl _))); (try have KN2 := Lib.hid (KN2.out.mono hb5 (Nat.le_refl _))); (try have KD2 := Lib.hid (KD2.out.mono hb5 (Nat.le_refl _))); (try have KB := Lib.hid (KB.out.mono hb5 (Nat.le_refl _))); (try have KC := Lib.hid (KC.out.mono hb5 (Nat.le_refl _))); (try have KE := Lib.hid (KE.out.mono hb5 (Nat.le_refl _))); have PO1 := Lib.hid (PO1.out.below hb5 PO1.out.lt); have PO2 := Lib.hid (PO2.out.below hb5 PO2.out.lt); have PO3 := Lib.hid (PO3.out.below hb5 PO3.out.lt); have KW := Lib.hid (KW.out.trans (hb5.mono KW.out.size)); clear x10 x11 x12 x13 xl1 x20 x21 x22 x23 xl2 x30 x31 x32 x33 xf3 xl3; obtain ⟨x10, x11, x12, x13, _, xl1⟩ := PO1.out; obtain ⟨x20, x21, x22, x23, _, xl2⟩ := PO2.out; obtain ⟨x30, x31, x32, x33, xf3, xl3⟩ := PO3.out; obtain ⟨s5, a5, n5, c5, rfl, KA⟩ := hr5.shape; clear hr5)
  | (go_at_call 45; (with_reducible refine (zmul_any _ _ (d) (q) k k _ KD1.out KN2.out (by omega)).mono ?_); rintro e w6 ⟨r6, rfl, hr6, hb6⟩; (try have KN1 := Lib.hid (KN1.out.mono hb6 (Nat.le_refl _))); (try have KD1 := Lib.hid (KD1.out.mono hb6 (Nat.le_refl _))); (try have KN2 := Lib.hid (KN2.out.mono hb6 (Nat.le_refl _))); (try have KD2 := Lib.hid (KD2.out.mono hb6 (Nat.le_refl _))); (try have KA := Lib.hid (KA.out.mono hb6 (Nat.le_refl _))); (try have KC := Lib.hid (KC.out.mono hb6 (Nat.le_refl _))); (try have KE := Lib.hid (KE.out.mono hb6 (Nat.le_refl _))); have PO1 := Lib.hid (PO1.out.below hb6 PO1.out.lt); have PO2 := Lib.hid (PO2.out.below hb6 PO2.out.lt); have PO3 := Lib.hid (PO3.out.below hb6 PO3.out.lt); have KW := Lib.hid (KW.out.trans (hb6.mono KW.out.size)); clear x10 x11 x12 x13 xl1 x20 x21 x22 x23 xl2 x30 x31 x32 x33 xf3 xl3; obtain ⟨x10, x11, x12, x13, _, xl1⟩ := PO1.out; obtain ⟨x20, x21, x22, x23, _, xl2⟩ := PO2.out; obtain ⟨x30, x31, x32, x33, xf3, xl3⟩ := PO3.out; obtain ⟨s6, a6, n6, c6, rfl, KB⟩ := hr6.shape; clear hr6)
  | (go_at_call 82; (with_reducible refine (over_any _ _ (p * e) (d * q) (k + k) _ KA.out KB.out HQ0.out).mono ?_); rintro e9 w9 ⟨r9, P9, D9, rfl, hr9, hv9, hb9⟩; have HV9 := Lib.hid hv9; obtain ⟨s9, a9, n9, c9, t9, a8, n8, c8, rfl, HN9, HD9, hd9⟩ := hr9.shape; have HD0 := Lib.hid hd9; clear hv9 hd9 hr9; (try have KN1 := Lib.hid (KN1.out.mono hb9 (Nat.le_refl _))); (try have KD1 := Lib.hid (KD1.out.mono hb9 (Nat.le_refl _))); (try have KN2 := Lib.hid (KN2.out.mono hb9 (Nat.le_refl _))); (try have KD2 := Lib.hid (KD2.out.mono hb9 (Nat.le_refl _))); have PO1 := Lib.hid (PO1.out.below hb9 PO1.out.lt); have PO2 := Lib.hid (PO2.out.below hb9 PO2.out.lt); have PO3 := Lib.hid (PO3.out.below hb9 PO3.out.lt); have KW := Lib.hid (KW.out.trans (hb9.mono KW.out.size)); clear x10 x11 x12 x13 xl1 x20 x21 x22 x23 xl2 x30 x31 x32 x33 xf3 xl3; obtain ⟨x10, x11, x12, x13, _, xl1⟩ := PO1.out; obtain ⟨x20, x21, x22, x23, _, xl2⟩ := PO2.out; obtain ⟨x30, x31, x32, x33, xf3, xl3⟩ := PO3.out))
 all_goals (try go_wp2)
 all_goals
  refine bodyPost_ret (v := .agg #[.bool s9, .slice a9 n9 c9, .bool t9, .slice a8 n8 c8]) (by simp [results, Tryz.results90, go_sem, x30, x31, x32, x33, xf3]) rfl ?_
  exact ⟨_, P9, D9, rfl, ⟨_, _, _, _, rfl, (HN9.out.le (by omega)).store4 PO3.out _ _ _ _, (HD9.out.le (by omega)).store4 PO3.out _ _ _ _, HD0.out⟩, HV9.out, below_set4q KW.out (by omega) _ _ _ _⟩
theorem qv_div (x y : Value) (a b : Rat) (k : Nat) (w : World) (hx : QV w x a k) (hy : QV w y b k) (hb : b ≠ 0) (hk : k ≤ 274877906940) :
  Calls Tryz.prog 90 #[x, y] w fun ex w' => ∃ r, ex = .returned r ∧ QV w' r (a / b) (2 * k) ∧ Below w.heap.size w w' := by
 obtain ⟨p, d, h1, e1⟩ := hx
 obtain ⟨q, e, h2, e2⟩ := hy
 have g1 := h1.pos
 have g2 := h2.pos
 have hq : q ≠ 0 := fun e0 => by
  subst e0
  rcases Rat.mul_eq_zero.1 (show b * (e : Rat) = 0 from e2.symm) with h | h
  ·exact hb h
  ·exact rat_ne g2 h
 refine (qdiv_any x y p d q e k w h1 h2 hq hk).mono ?_
 rintro ex w' ⟨r, P, D, rfl, hr, hv, hbb⟩
 refine ⟨r, rfl, ⟨P, D, hr, ?_⟩, hbb⟩
 have h3 : ((P * (d * q) : Int) : Rat) = ((p * e * D : Int) : Rat) := by rw [hv]
 rw [Rat.intCast_mul, Rat.intCast_mul, Rat.intCast_mul, Rat.intCast_mul, e1, e2] at h3
 have n1 := rat_ne g1
 have n2 := rat_ne g2
 have h4 := Rat.mul_inv_cancel _ hb
 have h5 := Rat.mul_inv_cancel _ n1
 have h6 := Rat.mul_inv_cancel _ n2
 rw [Rat.div_def]
 have h7 : (P : Rat) * ((d : Rat) * (b * (e : Rat))) * ((d : Rat)⁻¹ * b⁻¹ * (e : Rat)⁻¹) = (P : Rat) := by
  have : (P : Rat) * ((d : Rat) * (b * (e : Rat))) * ((d : Rat)⁻¹ * b⁻¹ * (e : Rat)⁻¹) = (P : Rat) * ((d : Rat) * (d : Rat)⁻¹) * (b * b⁻¹) * ((e : Rat) * (e : Rat)⁻¹) := by grind
  rw [this, h4, h5, h6]; grind
 rw [← h7, h3]
 have : a * (d : Rat) * (e : Rat) * (D : Rat) * ((d : Rat)⁻¹ * b⁻¹ * (e : Rat)⁻¹) = a * b⁻¹ * (D : Rat) * ((d : Rat) * (d : Rat)⁻¹) * ((e : Rat) * (e : Rat)⁻¹) := by grind
 rw [this, h5, h6]; grind
set_option maxHeartbeats 1000000 in
theorem make_any (v u : Int) (w : World) (h1 : -9223372036854775808 ≤ v) (h2 : v < 9223372036854775808) (h3 : -9223372036854775808 ≤ u) (h4 : u < 9223372036854775808) (hu : u ≠ 0) :
  Calls Tryz.prog 49 #[.int .i64 v, .int .i64 u] w fun ex w' => ∃ r, ex = .returned r ∧ QIs w' r ((v : Rat) / (u : Rat)).num ((((v : Rat) / (u : Rat)).den : Nat) : Int) 5 ∧ Below w.heap.size w w' := by
 have H12 := Lib.hid (And.intro h1 h2)
 have H34 := Lib.hid (And.intro h3 h4)
 have HU := Lib.hid hu
 have O4 := Lib.hid (own4_new w w.heap.size rfl (.bool false) (.slice none 0 0) (.bool false) (.slice none 0 0) 40)
 have KW := Lib.hid (boxes1 w (.cells #[.bool false, .slice none 0 0, .bool false, .slice none 0 0] 40))
 clear h1 h2 h3 h4 hu
 go_enter Tryz.func49, Tryz.ntmps49
 go_wp2_with fail
 refine (zint_any v H12.out.1 H12.out.2 _).mono ?_
 rintro e w1 ⟨r1, rfl, hr1, hb1⟩
 obtain ⟨s1, a1, n1, c1, rfl, K1⟩ := hr1.shape
 have O4 := Lib.hid (O4.out.below hb1 O4.out.lt)
 have KW := Lib.hid (KW.out.trans (hb1.mono KW.out.size))
 clear hr1 hb1
 go_wp2_with fail
 refine (zint_any u H34.out.1 H34.out.2 _).mono ?_
 rintro e w2 ⟨r2, rfl, hr2, hb2⟩
 obtain ⟨s2, a2, n2, c2, rfl, K2⟩ := hr2.shape
 have K1 := Lib.hid (K1.out.mono hb2 (Nat.le_refl _))
 have O4 := Lib.hid (O4.out.below hb2 O4.out.lt)
 have KW := Lib.hid (KW.out.trans (hb2.mono KW.out.size))
 clear hr2 hb2
 go_wp2_with fail
 refine (over_any _ _ v u 5 _ K1.out K2.out HU.out).mono ?_
 rintro e w3 ⟨r3, P, D, rfl, hr3, hv3, hb3⟩
 have hD := hr3.pos
 have HV : Hid (QV w3 r3 ((v : Rat) / (u : Rat)) 5) := Lib.hid ⟨P, D, hr3, by
  have h3 : ((P * u : Int) : Rat) = ((v * D : Int) : Rat) := by rw [hv3]
  rw [Rat.intCast_mul, Rat.intCast_mul] at h3
  have n1 : (u : Rat) ≠ 0 := fun e => by
   have : ((u : Int) : Rat) = ((0 : Int) : Rat) := e
   exact HU.out (Rat.intCast_inj.1 this)
  have h4 := Rat.mul_inv_cancel _ n1
  rw [Rat.div_def]
  have h5 : (P : Rat) = (P : Rat) * (u : Rat) * (u : Rat)⁻¹ := by rw [Rat.mul_assoc, h4]; grind
  rw [h5, h3]; grind⟩
 obtain ⟨s3, a3, n3, c3, t3, a4, n4, c4, rfl, HV⟩ := HV.out.shape
 have O4 := Lib.hid (O4.out.below hb3 O4.out.lt)
 have KW := Lib.hid (KW.out.trans (hb3.mono KW.out.size))
 clear hr3 hv3 hb3 hD K1 K2
 go_wp2_with fail
 refine (qv_low _ _ 5 _ HV.out (by omega)).mono ?_
 rintro e w4 ⟨r4, rfl, hr4, hb4⟩
 obtain ⟨s5, a5, n5, c5, t5, a6, n6, c6, rfl, HN, HD, hd⟩ := hr4.shape
 have hd := Lib.hid hd
 have O4 := Lib.hid (O4.out.below hb4 O4.out.lt)
 have KW := Lib.hid (KW.out.trans (hb4.mono KW.out.size))
 clear hr4 hb4
 obtain ⟨x0, x1, x2, x3, xf, xl⟩ := O4.out
 go_wp2_with fail
 refine bodyPost_ret (v := .agg #[.bool s5, .slice a5 n5 c5, .bool t5, .slice a6 n6 c6]) (by simp [results, Tryz.results49, go_sem, x0, x1, x2, x3, xf, xl]) rfl ?_
 exact ⟨_, rfl, ⟨_, _, _, _, rfl, HN.out.store4 O4.out _ _ _ _, HD.out.store4 O4.out _ _ _ _, hd.out⟩, below_set4q KW.out (by omega) _ _ _ _⟩
end Go.Proofs.YtgmopcncbpdniaaGreat
