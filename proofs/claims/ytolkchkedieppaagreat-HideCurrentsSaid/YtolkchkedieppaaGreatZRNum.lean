/- The reference's fractions: Over, DivQ, Make, Lowest. (Printed by gen_qdiv.py.) -/
import Derived.Test.YtolkchkedieppaaGreatZQVa
import Derived.Test.YtolkchkedieppaaGreatZFig
import Derived.Test.YtolkchkedieppaaGreatZLivH
set_option linter.unusedVariables false
set_option linter.unusedSimpArgs false
namespace Go.Proofs.YtolkchkedieppaaGreat
open Go.RowKit
attribute [local go_sem ↓] Go.wp_at_zero Go.wp_at_succ
theorem low_parts {p d : Int} {q : Rat} (hd : 0 < d) (h : (p : Rat) = q * (d : Rat)) : p / ((Int.gcd p d : Nat) : Int) = q.num ∧ d / ((Int.gcd p d : Nat) : Int) = ((q.den : Nat) : Int) := by
 have e : q = Rat.divInt p d := by
  rw [Rat.divInt_eq_div, h, Rat.div_def, Rat.mul_assoc, Rat.mul_inv_cancel _ (rat_ne hd), Rat.mul_one]
 rw [e, Rat.num_divInt, Rat.den_divInt, Int.gcd_comm d p]
 have hs : d.sign = 1 := Int.sign_eq_one_of_pos hd
 refine ⟨by rw [hs, Int.one_mul], ?_⟩
 rw [if_neg (by omega)]
 obtain ⟨D, rfl⟩ := Int.eq_ofNat_of_zero_le (Int.le_of_lt hd)
 rw [Int.natAbs_natCast, ← Int.natCast_ediv]
theorem qv_low (x : Value) (q : Rat) (k : Nat) (w : World) (hx : QV w x q k) (hk : k ≤ 274877906940) :
  Calls Tryz.prog 87 #[x] w fun ex w' => ∃ r, ex = .returned r ∧ QIs w' r q.num ((q.den : Nat) : Int) k ∧ Below w.heap.size w w' := by
 obtain ⟨p, d, h, e⟩ := hx
 have hd := h.pos
 refine (qlow_any x p d k w h hk).mono ?_
 rintro ex w' ⟨r, rfl, hr, hb⟩
 obtain ⟨e1, e2⟩ := low_parts hd e
 rw [e1, e2] at hr
 exact ⟨r, rfl, hr, hb⟩
theorem ZIs.sign {w : World} {s : Bool} {u : Value} {z : Int} {m : Nat} (h : ZIs w (.agg #[.bool s, u]) z m) : s = decide (z < 0) := by
 obtain ⟨u', e, _⟩ := h
 injection e with e
 injection e with e
 simp only [List.cons.injEq, and_true] at e
 obtain ⟨e, _⟩ := e
 injection e
set_option maxHeartbeats 2000000 in
theorem over_pos (x y : Value) (p d : Int) (k : Nat) (w : World) (hx : ZIs w x p k) (hy : ZIs w y d k) (hd : 0 < d) :
  Calls Tryz.prog 92 #[x, y] w fun ex w' => ∃ r, ex = .returned r ∧ QIs w' r p d k ∧ Below w.heap.size w w' := by
 obtain ⟨s1, a1, n1, c1, rfl, HA⟩ := hx.shape
 obtain ⟨s2, a2, n2, c2, rfl, HB⟩ := hy.shape
 clear hx hy
 obtain rfl : s2 = false := by rw [HB.out.sign]; simp; omega
 have HD := Lib.hid hd
 clear hd
 have KW := Lib.hid (boxes3 w (Obj.cells #[.bool s1, .slice a1 n1 c1] 57) (Obj.cells #[.bool false, .slice a2 n2 c2] 57) (Obj.cells #[.bool false, .slice none 0 0, .bool false, .slice none 0 0] 59))
 go_enter Tryz.func92, Tryz.ntmps92
 go_wp2_with fail
 refine bodyPost_ret (v := .agg #[.bool s1, .slice a1 n1 c1, .bool false, .slice a2 n2 c2]) (by simp [results, Tryz.results92, go_sem]) rfl ?_
 exact ⟨_, rfl, ⟨_, _, _, _, rfl, HA.out.mono (boxes3 w _ _ _) (Nat.le_refl _), HB.out.mono (boxes3 w _ _ _) (Nat.le_refl _), HD.out⟩, boxes3 w _ _ _⟩
set_option maxHeartbeats 2000000 in
theorem over_neg (x y : Value) (p d : Int) (k : Nat) (w : World) (hx : ZIs w x p k) (hy : ZIs w y d k) (hd : d < 0) :
  Calls Tryz.prog 92 #[x, y] w fun ex w' => ∃ r, ex = .returned r ∧ QIs w' r (-p) (-d) k ∧ Below w.heap.size w w' := by
 obtain ⟨s1, a1, n1, c1, rfl, HA⟩ := hx.shape
 obtain ⟨s2, a2, n2, c2, rfl, HB⟩ := hy.shape
 clear hx hy
 obtain rfl : s2 = true := by rw [HB.out.sign]; simp; omega
 have HD : Hid (0 < -d) := Lib.hid (by omega)
 clear hd
 have KW : Hid (Below w.heap.size w (((w.alloc (Obj.cells #[.bool s1, .slice a1 n1 c1] 57)).alloc (Obj.cells #[.bool true, .slice a2 n2 c2] 57)).alloc (Obj.cells #[.bool false, .slice none 0 0, .bool false, .slice none 0 0] 59))) := boxes3 w _ _ _
 have KA := Lib.hid (HA.out.mono KW.out (Nat.le_refl _))
 have KB := Lib.hid (HB.out.mono KW.out (Nat.le_refl _))
 have O1 : Hid (Own2 (((w.alloc (Obj.cells #[.bool s1, .slice a1 n1 c1] 57)).alloc (Obj.cells #[.bool true, .slice a2 n2 c2] 57)).alloc (Obj.cells #[.bool false, .slice none 0 0, .bool false, .slice none 0 0] 59)) w.heap.size (.bool s1) (.slice a1 n1 c1)) := ((own2_new _ _ rfl _ _ _).alloc _).alloc _
 have O2 : Hid (Own2 (((w.alloc (Obj.cells #[.bool s1, .slice a1 n1 c1] 57)).alloc (Obj.cells #[.bool true, .slice a2 n2 c2] 57)).alloc (Obj.cells #[.bool false, .slice none 0 0, .bool false, .slice none 0 0] 59)) (w.heap.size + 1) (.bool true) (.slice a2 n2 c2)) := (own2_new _ _ (by simp) _ _ _).alloc _
 have O3 : Hid (Own4 (((w.alloc (Obj.cells #[.bool s1, .slice a1 n1 c1] 57)).alloc (Obj.cells #[.bool true, .slice a2 n2 c2] 57)).alloc (Obj.cells #[.bool false, .slice none 0 0, .bool false, .slice none 0 0] 59)) (w.heap.size + 1 + 1) (.bool false) (.slice none 0 0) (.bool false) (.slice none 0 0)) := own4_new _ _ (by simp) _ _ _ _ _
 clear HA HB
 go_enter Tryz.func92, Tryz.ntmps92
 go_wp2
 have KW := Lib.hid KW.out.drew
 have KA := Lib.hid KA.out.drew
 have KB := Lib.hid KB.out.drew
 have O1 := Lib.hid O1.out.drew
 have O2 := Lib.hid O2.out.drew
 have O3 := Lib.hid O3.out.drew
 have x10 := O1.out.c0; have x11 := O1.out.c1; have xl1 := O1.out.lt; have xf1 := O1.out.f
 have x20 := O2.out.c0; have x21 := O2.out.c1; have xl2 := O2.out.lt; have xf2 := O2.out.f
 go_region_with (first
  | (go_at_call 132; have X1 := KA.out; clear KA; (with_reducible refine (zneg_any _ p k _ X1).mono ?_); clear X1; rintro e w3 ⟨r3, rfl, hr3, hb3⟩; obtain ⟨s3, a3, n3, c3, rfl, KA2⟩ := hr3.shape; clear hr3; have KB := Lib.hid (KB.out.mono hb3 (Nat.le_refl _)); have O1 := Lib.hid (O1.out.below hb3 O1.out.lt); have O2 := Lib.hid (O2.out.below hb3 O2.out.lt); have O3 := Lib.hid (O3.out.below hb3 O3.out.lt); have KW := Lib.hid (KW.out.trans (hb3.mono KW.out.size)); clear x10 x11 xl1 xf1 x20 x21 xl2 xf2; have x10 := O1.out.c0; have x11 := O1.out.c1; have xl1 := O1.out.lt; have xf1 := O1.out.f; have x20 := O2.out.c0; have x21 := O2.out.c1; have xl2 := O2.out.lt; have xf2 := O2.out.f)
  | (go_at_call 132; have X1 := KB.out; clear KB; (with_reducible refine (zneg_any _ d k _ X1).mono ?_); clear X1; rintro e w4 ⟨r4, rfl, hr4, hb4⟩; obtain ⟨s4, a4, n4, c4, rfl, KB2⟩ := hr4.shape; clear hr4; have KA2 := Lib.hid (KA2.out.mono hb4 (Nat.le_refl _)); have O1 := Lib.hid (O1.out.below hb4 O1.out.lt); have O2 := Lib.hid (O2.out.below hb4 O2.out.lt); have O3 := Lib.hid (O3.out.below hb4 O3.out.lt); have KW := Lib.hid (KW.out.trans (hb4.mono KW.out.size)); clear x10 x11 xl1 xf1 x20 x21 xl2 xf2; have x10 := O1.out.c0; have x11 := O1.out.c1; have xl1 := O1.out.lt; have xf1 := O1.out.f; have x20 := O2.out.c0; have x21 := O2.out.c1; have xl2 := O2.out.lt; have xf2 := O2.out.f))
 all_goals
  have O2' := O2.out.off2 (b' := w.heap.size) (by omega) (.bool s3) (.slice a3 n3 c3)
  have NA := Lib.hid ((KA2.out.off2 O1.out (noInt_bool _) (noInt_slice _ _ _) (.bool s3) (.slice a3 n3 c3)).off2 O2' (noInt_bool _) (noInt_slice _ _ _) (.bool s4) (.slice a4 n4 c4))
  have NB := Lib.hid ((KB2.out.off2 O1.out (noInt_bool _) (noInt_slice _ _ _) (.bool s3) (.slice a3 n3 c3)).off2 O2' (noInt_bool _) (noInt_slice _ _ _) (.bool s4) (.slice a4 n4 c4))
  have Q1 := Lib.hid ((O1.out.anew2 (.bool s3) (.slice a3 n3 c3)).off2 (b' := w.heap.size + 1) (by omega) (.bool s4) (.slice a4 n4 c4))
  have Q2 := Lib.hid (O2'.anew2 (.bool s4) (.slice a4 n4 c4))
  have Q3 := Lib.hid ((((O3.out.setCell w.heap.size 0 (.bool s3) (by omega)).setCell w.heap.size 1 (.slice a3 n3 c3) (by omega)).setCell (w.heap.size + 1) 0 (.bool s4) (by omega)).setCell (w.heap.size + 1) 1 (.slice a4 n4 c4) (by omega))
  have KV := Lib.hid ((((KW.out.setCell (p := ⟨w.heap.size, 0, none⟩) (Nat.le_refl _) (.bool s3)).setCell (p := ⟨w.heap.size, 1, none⟩) (Nat.le_refl _) (.slice a3 n3 c3)).setCell (p := ⟨w.heap.size + 1, 0, none⟩) (Nat.le_succ _) (.bool s4)).setCell (p := ⟨w.heap.size + 1, 1, none⟩) (Nat.le_succ _) (.slice a4 n4 c4))
  clear KA2 KB2 KW O1 O2 O3 O2' x10 x11 xl1 xf1 x20 x21 xl2 xf2 hb3 hb4
  generalize ((((w4.setCell ⟨w.heap.size, 0, none⟩ (.bool s3)).setCell ⟨w.heap.size, 1, none⟩ (.slice a3 n3 c3)).setCell ⟨w.heap.size + 1, 0, none⟩ (.bool s4)).setCell ⟨w.heap.size + 1, 1, none⟩ (.slice a4 n4 c4)) = w5 at *
  obtain ⟨x10, x11, _, xl1⟩ := Q1.out
  obtain ⟨x20, x21, _, xl2⟩ := Q2.out
  obtain ⟨x30, x31, x32, x33, xf3, xl3⟩ := Q3.out
  go_wp2_with fail
  refine bodyPost_ret (v := .agg #[.bool s3, .slice a3 n3 c3, .bool s4, .slice a4 n4 c4]) (by simp [results, Tryz.results92, go_sem, x30, x31, x32, x33, xf3, xl3]) rfl ?_
  exact ⟨_, rfl, ⟨_, _, _, _, rfl, NA.out.store4 Q3.out _ _ _ _, NB.out.store4 Q3.out _ _ _ _, HD.out⟩, below_set4q KV.out (by omega) _ _ _ _⟩
theorem over_any (x y : Value) (p d : Int) (k : Nat) (w : World) (hx : ZIs w x p k) (hy : ZIs w y d k) (hd : d ≠ 0) :
  Calls Tryz.prog 92 #[x, y] w fun ex w' => ∃ r P D, ex = .returned r ∧ QIs w' r P D k ∧ P * d = p * D ∧ Below w.heap.size w w' := by
 rcases Int.lt_or_gt_of_ne hd with h | h
 ·refine (over_neg x y p d k w hx hy h).mono ?_
  rintro ex w' ⟨r, rfl, hr, hb⟩
  exact ⟨r, _, _, rfl, hr, by rw [Int.neg_mul, Int.mul_neg], hb⟩
 ·refine (over_pos x y p d k w hx hy h).mono ?_
  rintro ex w' ⟨r, rfl, hr, hb⟩
  exact ⟨r, _, _, rfl, hr, rfl, hb⟩
set_option maxHeartbeats 4000000 in
theorem qdiv_any (x y : Value) (p d q e : Int) (k : Nat) (w : World) (hx : QIs w x p d k) (hy : QIs w y q e k) (hq : q ≠ 0) (hk : k ≤ 274877906940) :
  Calls Tryz.prog 88 #[x, y] w fun ex w' => ∃ r P D, ex = .returned r ∧ QIs w' r P D (2 * k) ∧ P * (d * q) = p * e * D ∧ Below w.heap.size w w' := by
 have HQ0 : Hid (d * q ≠ 0) := Lib.hid (Int.mul_ne_zero (by have := hx.pos; omega) hq)
 clear hq
 obtain ⟨s1, a1, n1, c1, t1, a2, n2, c2, rfl, HN1, HD1, hd1⟩ := hx.shape
 obtain ⟨s2, a3, n3, c3, t2, a4, n4, c4, rfl, HN2, HD2, hd2⟩ := hy.shape
 clear hx hy
 have KW : Hid (Below w.heap.size w (((w.alloc (Obj.cells #[.bool s1, .slice a1 n1 c1, .bool t1, .slice a2 n2 c2] 59)).alloc (Obj.cells #[.bool s2, .slice a3 n3 c3, .bool t2, .slice a4 n4 c4] 59)).alloc (Obj.cells #[.bool false, .slice none 0 0, .bool false, .slice none 0 0] 59))) := boxes3 w _ _ _
 have KN1 := Lib.hid (HN1.out.mono KW.out (Nat.le_refl _))
 have KD1 := Lib.hid (HD1.out.mono KW.out (Nat.le_refl _))
 have KN2 := Lib.hid (HN2.out.mono KW.out (Nat.le_refl _))
 have KD2 := Lib.hid (HD2.out.mono KW.out (Nat.le_refl _))
 have PO1 : Hid (Own4 (((w.alloc (Obj.cells #[.bool s1, .slice a1 n1 c1, .bool t1, .slice a2 n2 c2] 59)).alloc (Obj.cells #[.bool s2, .slice a3 n3 c3, .bool t2, .slice a4 n4 c4] 59)).alloc (Obj.cells #[.bool false, .slice none 0 0, .bool false, .slice none 0 0] 59)) w.heap.size (.bool s1) (.slice a1 n1 c1) (.bool t1) (.slice a2 n2 c2)) := ((own4_new _ _ rfl _ _ _ _ _).alloc _).alloc _
 have PO2 : Hid (Own4 (((w.alloc (Obj.cells #[.bool s1, .slice a1 n1 c1, .bool t1, .slice a2 n2 c2] 59)).alloc (Obj.cells #[.bool s2, .slice a3 n3 c3, .bool t2, .slice a4 n4 c4] 59)).alloc (Obj.cells #[.bool false, .slice none 0 0, .bool false, .slice none 0 0] 59)) (w.heap.size + 1) (.bool s2) (.slice a3 n3 c3) (.bool t2) (.slice a4 n4 c4)) := (own4_new _ _ (by simp) _ _ _ _ _).alloc _
 have PO3 : Hid (Own4 (((w.alloc (Obj.cells #[.bool s1, .slice a1 n1 c1, .bool t1, .slice a2 n2 c2] 59)).alloc (Obj.cells #[.bool s2, .slice a3 n3 c3, .bool t2, .slice a4 n4 c4] 59)).alloc (Obj.cells #[.bool false, .slice none 0 0, .bool false, .slice none 0 0] 59)) (w.heap.size + 1 + 1) (.bool false) (.slice none 0 0) (.bool false) (.slice none 0 0)) := own4_new _ _ (by simp) _ _ _ _ _
 obtain ⟨x10, x11, x12, x13, _, xl1⟩ := PO1.out
 obtain ⟨x20, x21, x22, x23, _, xl2⟩ := PO2.out
 obtain ⟨x30, x31, x32, x33, xf3, xl3⟩ := PO3.out
 have HP := Lib.hid (Int.mul_pos hd1 hd2)
 clear hd1 hd2 HN1 HD1 HN2 HD2
 go_enter Tryz.func88, Tryz.ntmps88
 go_wp2
 have PI1 := PO1
 have PI2 := PO2
 have KW := Lib.hid KW.out.drew
 have KN1 := Lib.hid KN1.out.drew
 have KD1 := Lib.hid KD1.out.drew
 have KN2 := Lib.hid KN2.out.drew
 have KD2 := Lib.hid KD2.out.drew
 have PO1 := Lib.hid PO1.out.drew
 have PO2 := Lib.hid PO2.out.drew
 have PO3 := Lib.hid PO3.out.drew
 go_region_held3 (fun wq => wq.cell? ⟨w.heap.size, 0, none⟩ = some (.bool s1) ∧ wq.cell? ⟨w.heap.size, 1, none⟩ = some (.slice a1 n1 c1) ∧ wq.cell? ⟨w.heap.size, 2, none⟩ = some (.bool t1) ∧ wq.cell? ⟨w.heap.size, 3, none⟩ = some (.slice a2 n2 c2) ∧ wq.cell? ⟨w.heap.size + 1, 0, none⟩ = some (.bool s2) ∧ wq.cell? ⟨w.heap.size + 1, 1, none⟩ = some (.slice a3 n3 c3) ∧ wq.cell? ⟨w.heap.size + 1, 2, none⟩ = some (.bool t2) ∧ wq.cell? ⟨w.heap.size + 1, 3, none⟩ = some (.slice a4 n4 c4)) (first | (with_reducible exact ⟨PI1.out.c0, PI1.out.c1, PI1.out.c2, PI1.out.c3, PI2.out.c0, PI2.out.c1, PI2.out.c2, PI2.out.c3⟩) | (with_reducible exact ⟨PO1.out.c0, PO1.out.c1, PO1.out.c2, PO1.out.c3, PO2.out.c0, PO2.out.c1, PO2.out.c2, PO2.out.c3⟩) | (with_reducible exact ⟨(PO1.out.set4 (w.heap.size + 1 + 1) _ _ _ _ (by omega)).c0, (PO1.out.set4 (w.heap.size + 1 + 1) _ _ _ _ (by omega)).c1, (PO1.out.set4 (w.heap.size + 1 + 1) _ _ _ _ (by omega)).c2, (PO1.out.set4 (w.heap.size + 1 + 1) _ _ _ _ (by omega)).c3, (PO2.out.set4 (w.heap.size + 1 + 1) _ _ _ _ (by omega)).c0, (PO2.out.set4 (w.heap.size + 1 + 1) _ _ _ _ (by omega)).c1, (PO2.out.set4 (w.heap.size + 1 + 1) _ _ _ _ (by omega)).c2, (PO2.out.set4 (w.heap.size + 1 + 1) _ _ _ _ (by omega)).c3⟩))
  (first
  | (go_at_call 129; (with_reducible refine (zmul_any _ _ (p) (e) k k _ KN1.out KD2.out (by omega)).mono ?_); rintro e w5 ⟨r5, rfl, hr5, hb5⟩; (try have KN1 := Lib.hid (KN1.out.mono hb5 (Nat.le_refl _))); (try have KD1 := Lib.hid (KD1.out.mono hb5 (Nat.le_refl _))); (try have KN2 := Lib.hid (KN2.out.mono hb5 (Nat.le_refl _))); (try have KD2 := Lib.hid (KD2.out.mono hb5 (Nat.le_refl _))); (try have KB := Lib.hid (KB.out.mono hb5 (Nat.le_refl _))); (try have KC := Lib.hid (KC.out.mono hb5 (Nat.le_refl _))); (try have KE := Lib.hid (KE.out.mono hb5 (Nat.le_refl _))); have PO1 := Lib.hid (PO1.out.below hb5 PO1.out.lt); have PO2 := Lib.hid (PO2.out.below hb5 PO2.out.lt); have PO3 := Lib.hid (PO3.out.below hb5 PO3.out.lt); have KW := Lib.hid (KW.out.trans (hb5.mono KW.out.size)); clear x10 x11 x12 x13 xl1 x20 x21 x22 x23 xl2 x30 x31 x32 x33 xf3 xl3; obtain ⟨x10, x11, x12, x13, _, xl1⟩ := PO1.out; obtain ⟨x20, x21, x22, x23, _, xl2⟩ := PO2.out; obtain ⟨x30, x31, x32, x33, xf3, xl3⟩ := PO3.out; obtain ⟨s5, a5, n5, c5, rfl, KA⟩ := hr5.shape; clear hr5)
  | (go_at_call 129; (with_reducible refine (zmul_any _ _ (d) (q) k k _ KD1.out KN2.out (by omega)).mono ?_); rintro e w6 ⟨r6, rfl, hr6, hb6⟩; (try have KN1 := Lib.hid (KN1.out.mono hb6 (Nat.le_refl _))); (try have KD1 := Lib.hid (KD1.out.mono hb6 (Nat.le_refl _))); (try have KN2 := Lib.hid (KN2.out.mono hb6 (Nat.le_refl _))); (try have KD2 := Lib.hid (KD2.out.mono hb6 (Nat.le_refl _))); (try have KA := Lib.hid (KA.out.mono hb6 (Nat.le_refl _))); (try have KC := Lib.hid (KC.out.mono hb6 (Nat.le_refl _))); (try have KE := Lib.hid (KE.out.mono hb6 (Nat.le_refl _))); have PO1 := Lib.hid (PO1.out.below hb6 PO1.out.lt); have PO2 := Lib.hid (PO2.out.below hb6 PO2.out.lt); have PO3 := Lib.hid (PO3.out.below hb6 PO3.out.lt); have KW := Lib.hid (KW.out.trans (hb6.mono KW.out.size)); clear x10 x11 x12 x13 xl1 x20 x21 x22 x23 xl2 x30 x31 x32 x33 xf3 xl3; obtain ⟨x10, x11, x12, x13, _, xl1⟩ := PO1.out; obtain ⟨x20, x21, x22, x23, _, xl2⟩ := PO2.out; obtain ⟨x30, x31, x32, x33, xf3, xl3⟩ := PO3.out; obtain ⟨s6, a6, n6, c6, rfl, KB⟩ := hr6.shape; clear hr6)
  | (go_at_call 92; (with_reducible refine (over_any _ _ (p * e) (d * q) (k + k) _ KA.out KB.out HQ0.out).mono ?_); rintro e9 w9 ⟨r9, P9, D9, rfl, hr9, hv9, hb9⟩; have HV9 := Lib.hid hv9; obtain ⟨s9, a9, n9, c9, t9, a8, n8, c8, rfl, HN9, HD9, hd9⟩ := hr9.shape; have HD0 := Lib.hid hd9; clear hv9 hd9 hr9; (try have KN1 := Lib.hid (KN1.out.mono hb9 (Nat.le_refl _))); (try have KD1 := Lib.hid (KD1.out.mono hb9 (Nat.le_refl _))); (try have KN2 := Lib.hid (KN2.out.mono hb9 (Nat.le_refl _))); (try have KD2 := Lib.hid (KD2.out.mono hb9 (Nat.le_refl _))); have PO1 := Lib.hid (PO1.out.below hb9 PO1.out.lt); have PO2 := Lib.hid (PO2.out.below hb9 PO2.out.lt); have PO3 := Lib.hid (PO3.out.below hb9 PO3.out.lt); have KW := Lib.hid (KW.out.trans (hb9.mono KW.out.size)); clear x10 x11 x12 x13 xl1 x20 x21 x22 x23 xl2 x30 x31 x32 x33 xf3 xl3; obtain ⟨x10, x11, x12, x13, _, xl1⟩ := PO1.out; obtain ⟨x20, x21, x22, x23, _, xl2⟩ := PO2.out; obtain ⟨x30, x31, x32, x33, xf3, xl3⟩ := PO3.out))
 all_goals (try go_wp2)
 all_goals
  refine bodyPost_ret (v := .agg #[.bool s9, .slice a9 n9 c9, .bool t9, .slice a8 n8 c8]) (by simp [results, Tryz.results88, go_sem, x30, x31, x32, x33, xf3]) rfl ?_
  exact ⟨_, P9, D9, rfl, ⟨_, _, _, _, rfl, (HN9.out.le (by omega)).store4 PO3.out _ _ _ _, (HD9.out.le (by omega)).store4 PO3.out _ _ _ _, HD0.out⟩, HV9.out, below_set4q KW.out (by omega) _ _ _ _⟩
theorem qv_div (x y : Value) (a b : Rat) (k : Nat) (w : World) (hx : QV w x a k) (hy : QV w y b k) (hb : b ≠ 0) (hk : k ≤ 274877906940) :
  Calls Tryz.prog 88 #[x, y] w fun ex w' => ∃ r, ex = .returned r ∧ QV w' r (a / b) (2 * k) ∧ Below w.heap.size w w' := by
 obtain ⟨p, d, h1, e1⟩ := hx
 obtain ⟨q, e, h2, e2⟩ := hy
 have g1 := h1.pos
 have g2 := h2.pos
 have hq : q ≠ 0 := fun e0 => by
  subst e0
  rcases Rat.mul_eq_zero.1 (show b * (e : Rat) = 0 from e2.symm) with h | h
  ·exact hb h
  ·exact rat_ne g2 h
 refine (qdiv_any x y p d q e k w h1 h2 hq hk).mono ?_
 rintro ex w' ⟨r, P, D, rfl, hr, hv, hbb⟩
 refine ⟨r, rfl, ⟨P, D, hr, ?_⟩, hbb⟩
 have h3 : ((P * (d * q) : Int) : Rat) = ((p * e * D : Int) : Rat) := by rw [hv]
 rw [Rat.intCast_mul, Rat.intCast_mul, Rat.intCast_mul, Rat.intCast_mul, e1, e2] at h3
 have n1 := rat_ne g1
 have n2 := rat_ne g2
 have h4 := Rat.mul_inv_cancel _ hb
 have h5 := Rat.mul_inv_cancel _ n1
 have h6 := Rat.mul_inv_cancel _ n2
 rw [Rat.div_def]
 have h7 : (P : Rat) * ((d : Rat) * (b * (e : Rat))) * ((d : Rat)⁻¹ * b⁻¹ * (e : Rat)⁻¹) = (P : Rat) := by
  have : (P : Rat) * ((d : Rat) * (b * (e : Rat))) * ((d : Rat)⁻¹ * b⁻¹ * (e : Rat)⁻¹) = (P : Rat) * ((d : Rat) * (d : Rat)⁻¹) * (b * b⁻¹) * ((e : Rat) * (e : Rat)⁻¹) := by grind
  rw [this, h4, h5, h6]; grind
 rw [← h7, h3]
 have : a * (d : Rat) * (e : Rat) * (D : Rat) * ((d : Rat)⁻¹ * b⁻¹ * (e : Rat)⁻¹) = a * b⁻¹ * (D : Rat) * ((d : Rat) * (d : Rat)⁻¹) * ((e : Rat) * (e : Rat)⁻¹) := by grind
 rw [this, h5, h6]; grind
end Go.Proofs.YtolkchkedieppaaGreat

/- Fractions of the reference behind a store into a box. -/
namespace Go.Proofs.YtolkchkedieppaaGreat
open Go.RowKit
/-- numbers are kept by a store into a box that holds another one -/
theorem ZIs.at4 {w : World} {v : Value} {z : Int} {m b : Nat} {s t : Bool} {a a2 : Option Addr} {n c n2 c2 : Nat} (h : ZIs w v z m) (O : Own4 w b (.bool s) (.slice a n c) (.bool t) (.slice a2 n2 c2)) (u0 u1 u2 u3 : Value) :
  ZIs ((((w.setCell ⟨b, 0, none⟩ u0).setCell ⟨b, 1, none⟩ u1).setCell ⟨b, 2, none⟩ u2).setCell ⟨b, 3, none⟩ u3) v z m :=
 (((h.setCell u0 O.c0 (noInt_bool _)).setCell u1 (off_set (by decide) O.c1) (noInt_slice _ _ _)).setCell u2 (off_set (by decide) (off_set (by decide) O.c2)) (noInt_bool _)).setCell u3 (off_set (by decide) (off_set (by decide) (off_set (by decide) O.c3))) (noInt_slice _ _ _)
theorem QIs.at4 {w : World} {v : Value} {p d : Int} {m b : Nat} {s t : Bool} {a a2 : Option Addr} {n c n2 c2 : Nat} (h : QIs w v p d m) (O : Own4 w b (.bool s) (.slice a n c) (.bool t) (.slice a2 n2 c2)) (u0 u1 u2 u3 : Value) :
  QIs ((((w.setCell ⟨b, 0, none⟩ u0).setCell ⟨b, 1, none⟩ u1).setCell ⟨b, 2, none⟩ u2).setCell ⟨b, 3, none⟩ u3) v p d m := by
 obtain ⟨s1, v1, s2, v2, h0, h1, h2, h3⟩ := h
 exact ⟨s1, v1, s2, v2, h0, h1.at4 O _ _ _ _, h2.at4 O _ _ _ _, h3⟩
theorem QV.at4 {w : World} {v : Value} {q : Rat} {m b : Nat} {s t : Bool} {a a2 : Option Addr} {n c n2 c2 : Nat} (h : QV w v q m) (O : Own4 w b (.bool s) (.slice a n c) (.bool t) (.slice a2 n2 c2)) (u0 u1 u2 u3 : Value) :
  QV ((((w.setCell ⟨b, 0, none⟩ u0).setCell ⟨b, 1, none⟩ u1).setCell ⟨b, 2, none⟩ u2).setCell ⟨b, 3, none⟩ u3) v q m := by
 obtain ⟨p, d, h1, h2⟩ := h
 exact ⟨p, d, h1.at4 O _ _ _ _, h2⟩
end Go.Proofs.YtolkchkedieppaaGreat

/- Num and Is of the reference: the text of a fraction. -/
namespace Go.Proofs.YtolkchkedieppaaGreat
open Go.RowKit
attribute [local go_sem ↓] Go.wp_at_zero Go.wp_at_succ
theorem bytes_loop (bs : ByteArray) : ∀ (n i : Nat) (r : List UInt8), bs.size - i = n → ByteArray.toList.loop bs i r = r.reverse ++ bs.data.toList.drop i := by
 intro n
 induction n with
 | zero =>
  intro i r h
  unfold ByteArray.toList.loop
  have : ¬ i < bs.size := by omega
  rw [if_neg this]
  have : bs.data.toList.drop i = [] := by
   apply List.drop_eq_nil_of_le
   have h2 : bs.data.toList.length = bs.size := rfl
   omega
  rw [this]; simp
 | succ n ih =>
  intro i r h
  unfold ByteArray.toList.loop
  have hi : i < bs.size := by omega
  rw [if_pos hi, ih (i+1) _ (by omega)]
  have h2 : i < bs.data.toList.length := hi
  rw [List.drop_eq_getElem_cons h2]
  simp
  show bs.get! i = _
  unfold ByteArray.get!
  exact getElem!_pos bs.data i hi
theorem bytes_list (s : ByteArray) : s.toList = s.data.toList := by
 unfold ByteArray.toList
 rw [bytes_loop s _ 0 [] rfl]; simp
theorem bytes_ne {s : ByteArray} {l : List UInt8} (h : s ≠ ⟨l.toArray⟩) : (s.toList == l) = false := by
 rw [bytes_list]
 apply beq_false_of_ne
 intro e
 apply h
 cases s
 simp at e
 subst e
 simp
theorem isTxt_one : IsTxt ⟨#[49]⟩ 1 := ⟨1, ⟨by decide, fun h => by omega, fun _ => ⟨by omega, by decide⟩⟩, rfl, fun i h => by
 have : i = 0 := by have : i < 1 := h; omega
 subst this; rfl⟩
theorem isTxt_ne {s : ByteArray} {x : Nat} (h : IsTxt s x) (hx : x ≠ 1) : s ≠ ⟨#[49]⟩ := fun e => by
 obtain ⟨L, h1, h2, h3⟩ := h
 subst e
 have hL : L = 1 := h2.symm
 subst hL
 have h4 := h3 0 (by decide)
 have h5 := h1.lt
 have h6 : (48 : Nat) + d10 x (1 - 1 - 0) = 49 := by rw [← h4]; rfl
 unfold d10 at h6
 simp at h6
 omega
set_option maxHeartbeats 4000000 in
theorem rnum_any (x : Value) (q : Rat) (k : Nat) (w : World) (hx : QV w x q k) (hk : k ≤ 100000000) (hN : MaxD q.num.natAbs) (hD : MaxD q.den) :
  Calls Tryz.prog 89 #[x] w fun e w' => ∃ t, e = .returned (.tuple #[.string t, .bool true]) ∧ FracTxt t q.num q.den ∧ Below w.heap.size w w' := by
 obtain ⟨s1, a1, n1, c1, t1, a2, n2, c2, rfl, HQ⟩ := hx.shape
 have KW0 := Lib.hid (boxes1 w (.cells #[.bool s1, .slice a1 n1 c1, .bool t1, .slice a2 n2 c2] 59))
 have HQ := Lib.hid (HQ.out.mono KW0.out (Nat.le_refl _))
 have O1 := Lib.hid (own4_new w w.heap.size rfl (.bool s1) (.slice a1 n1 c1) (.bool t1) (.slice a2 n2 c2) 59)
 have HND := Lib.hid (And.intro hN hD)
 clear hx hN hD
 obtain ⟨x0, x1, x2, x3, xf, xl⟩ := O1.out
 go_enter Tryz.func89, Tryz.ntmps89
 go_wp2_with fail
 refine (qv_low _ q k _ HQ.out (by omega)).mono ?_
 rintro e w2 ⟨r2, rfl, hr2, hb2⟩
 obtain ⟨s3, a3, n3, c3, t3, a4, n4, c4, rfl, HZN, HZD, -⟩ := hr2.shape
 have O1 := Lib.hid (O1.out.below hb2 O1.out.lt)
 have KW := Lib.hid (KW0.out.trans (hb2.mono KW0.out.size))
 clear x0 x1 x2 x3 xf xl hb2 hr2 KW0 HQ
 obtain ⟨x0, x1, x2, x3, xf, xl⟩ := O1.out
 go_wp2_with fail
 have O2 := Lib.hid (O1.out.anew (.bool s3) (.slice a3 n3 c3) (.bool t3) (.slice a4 n4 c4))
 have HZN := Lib.hid (HZN.out.at4 O1.out (.bool s3) (.slice a3 n3 c3) (.bool t3) (.slice a4 n4 c4))
 have HZD := Lib.hid (HZD.out.at4 O1.out (.bool s3) (.slice a3 n3 c3) (.bool t3) (.slice a4 n4 c4))
 have KW := Lib.hid (below_set4q KW.out (Nat.le_refl _) (.bool s3) (.slice a3 n3 c3) (.bool t3) (.slice a4 n4 c4))
 clear x0 x1 x2 x3 xf xl O1
 generalize ((((w2.setCell ⟨w.heap.size, 0, none⟩ (.bool s3)).setCell ⟨w.heap.size, 1, none⟩ (.slice a3 n3 c3)).setCell ⟨w.heap.size, 2, none⟩ (.bool t3)).setCell ⟨w.heap.size, 3, none⟩ (.slice a4 n4 c4)) = w3 at *
 have HSG : Hid (s3 = decide (q.num < 0)) := Lib.hid HZN.out.sign
 have HB1 := Lib.hid HZN.out.digits
 have HB2 := Lib.hid HZD.out.digits
 have keepR : Hid (∀ w', Below w3.heap.size w3 w' → w'.cell? ⟨w.heap.size, 0, none⟩ = some (.bool s3) ∧ w'.cell? ⟨w.heap.size, 1, none⟩ = some (.slice a3 n3 c3) ∧ w'.cell? ⟨w.heap.size, 2, none⟩ = some (.bool t3) ∧ w'.cell? ⟨w.heap.size, 3, none⟩ = some (.slice a4 n4 c4)) :=
  Lib.hid (fun w' hb => ⟨bel1 hb O2.out.c0 O2.out.lt, bel1 hb O2.out.c1 O2.out.lt, bel1 hb O2.out.c2 O2.out.lt, bel1 hb O2.out.c3 O2.out.lt⟩)
 have VL0 := Lib.hid (Below.refl w3.heap.size w3)
 have VL := Lib.hid VL0.out.drew
 have HDG : Hid (∃ u2, Value.slice a4 n4 c4 = u2 ∧ Dg w3 u2 q.den) := Lib.hid (by
  obtain ⟨u, e, h1, h2⟩ := HZD.out
  injection e with e
  injection e with e
  simp only [List.cons.injEq, and_true] at e
  obtain ⟨-, e⟩ := e
  exact ⟨u, e, by simpa using h1⟩)
 obtain ⟨u2, e2, hd2⟩ := HDG.out
 subst e2
 have HD2 := Lib.hid hd2
 clear hd2 HDG
 go_region_held3 (fun w' => w'.cell? ⟨w.heap.size, 0, none⟩ = some (.bool s3) ∧ w'.cell? ⟨w.heap.size, 1, none⟩ = some (.slice a3 n3 c3) ∧ w'.cell? ⟨w.heap.size, 2, none⟩ = some (.bool t3) ∧ w'.cell? ⟨w.heap.size, 3, none⟩ = some (.slice a4 n4 c4))
  (first | (with_reducible exact keepR.out _ VL0.out) | (with_reducible exact keepR.out _ VL.out))
  (first
  | (go_at_call 80; (with_reducible refine (zabs_any _ q.num k _ (HZN.out.mono VL.out (Nat.le_refl _))).mono ?_); rintro e w4 ⟨r4, rfl, hr4, hb4⟩; obtain ⟨u4, rfl, hd4, -⟩ := hr4; have HD4 := Lib.hid hd4; clear hd4; have VL := Lib.hid (VL.out.trans (hb4.mono VL.out.size)))
  | (go_at_call 131; have X1 := HD4.out; clear HD4; (with_reducible refine (figures_any _ _ _ _ X1 (by have := HB1.out; simp; omega)).mono ?_); clear X1; rintro e w5 ⟨f5, rfl, hf5, hb5⟩; have HF5 := Lib.hid hf5; clear hf5; have VL := Lib.hid (VL.out.trans (hb5.mono VL.out.size)))
  | (go_at_call 131; (with_reducible refine (figures_any _ _ _ _ (HD2.out.mono VL.out (Nat.le_refl _)) (by have := HB2.out; simp at this; omega)).mono ?_); rintro e w6 ⟨f6, rfl, hf6, hb6⟩; have HF6 := Lib.hid hf6; clear hf6; have VL := Lib.hid (VL.out.trans (hb6.mono VL.out.size))))
 have HF5 : Hid (IsTxt f5 q.num.natAbs) := Lib.hid (by have h := HF5.out; rw [Int.natAbs_natCast] at h; exact h)
 have O3 := Lib.hid (O2.out.below VL.out O2.out.lt)
 have KW := Lib.hid (KW.out.trans (VL.out.mono KW.out.size))
 have Z1 : f5.size ≤ 4000 := HF5.out.size (by omega) HND.out.1.lt
 have Z2 : f6.size ≤ 4000 := HF6.out.size (by omega) HND.out.2.lt
 have ha1 := nb1 Z1
 have ha2 := nb2 Z1
 have ha3 := nb3 Z1
 have ha4 := nb4 Z1 Z2
 have ha5 := nb5 Z1 Z2
 have d1 : decide ((4000 : Int) < (f5.size : Int)) = false := by simp; omega
 have d2 : decide ((4000 : Int) < (f6.size : Int)) = false := by simp; omega
 have HFT : Hid (∀ r, r = (if s3 = true then ⟨#[45]⟩ ++ f5 else f5) → (q.den = 1 → FracTxt r q.num q.den) ∧ (q.den ≠ 1 → FracTxt (r ++ (⟨#[47]⟩ ++ f6)) q.num q.den)) := Lib.hid (by
  intro r hr
  have e : r = (if q.num < 0 then ⟨#[45]⟩ ++ f5 else f5) := by
   rw [hr, HSG.out]; by_cases h : q.num < 0 <;> simp [h]
  subst e
  exact ⟨fun h => ⟨f5, HF5.out, .inl ⟨h, rfl⟩⟩, fun h => ⟨f5, HF5.out, .inr ⟨h, f6, HF6.out, rfl⟩⟩⟩)
 obtain ⟨x0, x1, x2, x3, xf, xl⟩ := O3.out
 clear keepR VL VL0 HZN HZD HD2 HB1 HB2 O2 HSG
 by_cases hd : q.den = 1
 ·have hf6 : f6 = ⟨#[49]⟩ := by
   have h1 := HF6.out
   rw [hd] at h1
   exact h1.uniq isTxt_one
  subst hf6
  have HD1 := Lib.hid hd
  clear hd
  cases s3
  ·go_wp2
   go_ret2
   exact ⟨_, rfl, (HFT.out f5 (by simp)).1 HD1.out, KW.out⟩
  ·go_wp2
   go_ret2
   exact ⟨_, rfl, (HFT.out (⟨#[45]⟩ ++ f5) (by simp)).1 HD1.out, KW.out⟩
 ·have hf6 : f6 ≠ ⟨#[49]⟩ := isTxt_ne HF6.out hd
  have e1 : (f6.toList == [49]) = false := bytes_ne hf6
  have HD1 := Lib.hid hd
  clear hd
  cases s3
  ·go_wp2
   go_ret2
   exact ⟨_, rfl, by first | exact (HFT.out f5 (by simp)).2 HD1.out | (rw [ByteArray.append_assoc]; exact (HFT.out f5 (by simp)).2 HD1.out), KW.out⟩
  ·go_wp2
   go_ret2
   exact ⟨_, rfl, by first | exact (HFT.out (⟨#[45]⟩ ++ f5) (by simp)).2 HD1.out | (rw [ByteArray.append_assoc]; exact (HFT.out (⟨#[45]⟩ ++ f5) (by simp)).2 HD1.out), KW.out⟩
set_option maxHeartbeats 1000000 in
theorem is_any (s : ByteArray) (x : Value) (q : Rat) (k : Nat) (w : World) (hs : FracTxt s q.num q.den) (hx : QV w x q k) (hk : k ≤ 100000000) (hN : MaxD q.num.natAbs) (hD : MaxD q.den) :
  Calls Tryz.prog 29 #[.string s, x] w fun e w' => e = .returned (.bool true) ∧ Below w.heap.size w w' := by
 obtain ⟨s1, a1, n1, c1, t1, a2, n2, c2, rfl, HQ⟩ := hx.shape
 have KW0 := Lib.hid (boxes1 w (.cells #[.bool s1, .slice a1 n1 c1, .bool t1, .slice a2 n2 c2] 59))
 have HQ := Lib.hid (HQ.out.mono KW0.out (Nat.le_refl _))
 have HS := Lib.hid hs
 have HND := Lib.hid (And.intro hN hD)
 clear hx hs hN hD
 go_enter Tryz.func29, Tryz.ntmps29
 go_wp2_with fail
 refine (rnum_any _ q k _ HQ.out hk HND.out.1 HND.out.2).mono ?_
 rintro e w2 ⟨t, rfl, ht, hb⟩
 obtain rfl := HS.out.uniq ht
 have KW0 := Lib.hid (KW0.out.trans (hb.mono KW0.out.size))
 clear hb ht
 go_wp2
 go_ret
 exact ⟨rfl, KW0.out⟩
end Go.Proofs.YtolkchkedieppaaGreat
