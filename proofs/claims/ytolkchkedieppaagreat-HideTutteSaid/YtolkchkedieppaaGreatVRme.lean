/- The reference's fractions as rational numbers: Lowest, Over, DivQ, Make. -/
import Derived.Test.YtolkchkedieppaaGreatVQShp
import Derived.Test.YtolkchkedieppaaGreatVBig17
import Derived.Test.YtolkchkedieppaaGreatVRMat
import Derived.Test.YtolkchkedieppaaGreatVPlainD
import Derived.Test.YtolkchkedieppaaGreatVFig
import Derived.Test.YtolkchkedieppaaGreatVLivH
import Derived.Test.YtolkchkedieppaaGreatVRdC
import Derived.Test.YtolkchkedieppaaGreatVRdB
import Derived.BigQuiet
import Derived.Test.YtolkchkedieppaaGreatVHSame
import Derived.BigRegion
import Derived.Test.YtolkchkedieppaaGreatVNetB
import Derived.Deep.RegionHeld3
import Derived.Deep.DeepCutAuto
import Derived.Deep.CutBlock
set_option linter.unusedVariables false
set_option linter.unusedSimpArgs false
namespace Go.Proofs.YtolkchkedieppaaGreat
open Go.RowKit
attribute [local go_sem ↓] Go.wp_at_zero Go.wp_at_succ
/-- v is the fraction q, with at most m digits in each part -/
def QV (w : World) (v : Value) (q : Rat) (m : Nat) : Prop := ∃ p d : Int, QIs w v p d m ∧ (p : Rat) = q * (d : Rat)
theorem QIs.pos {w : World} {v : Value} {p d : Int} {m : Nat} (h : QIs w v p d m) : 0 < d := by
 obtain ⟨s1, u1, s2, u2, h0, h1, h2, h3⟩ := h
 exact h3
theorem QV.mono {w w' : World} {v : Value} {q : Rat} {m B : Nat} (h : QV w v q m) (hb : Below B w w') (hB : w.heap.size ≤ B) : QV w' v q m := by
 obtain ⟨p, d, h1, h2⟩ := h
 exact ⟨p, d, h1.mono hb hB, h2⟩
theorem QV.of {w : World} {v : Value} {q : Rat} {m : Nat} (h : QIs w v q.num ((q.den : Nat) : Int) m) : QV w v q m :=
 ⟨_, _, h, (mul_den_num q).symm⟩
theorem QV.shape {w : World} {v : Value} {q : Rat} {m : Nat} (h : QV w v q m) : ∃ s a n c t b l e, v = .agg #[.bool s, .slice a n c, .bool t, .slice b l e] ∧ Hid (QV w (.agg #[.bool s, .slice a n c, .bool t, .slice b l e]) q m) := by
 obtain ⟨p, d, h1, h2⟩ := h
 obtain ⟨s, a, n, c, t, b, l, e, rfl, -, -, -⟩ := h1.shape
 exact ⟨s, a, n, c, t, b, l, e, rfl, p, d, h1, h2⟩
theorem rat_ne {d : Int} (h : 0 < d) : (d : Rat) ≠ 0 := fun e => by
 have : ((d : Int) : Rat) = ((0 : Int) : Rat) := e
 have := Rat.intCast_inj.1 this
 omega
theorem qv_whole (v : Int) (w : World) (h1 : -9223372036854775808 ≤ v) (h2 : v < 9223372036854775808) :
  Calls Tryz.prog 36 #[.int .i64 v] w fun ex w' => ∃ r, ex = .returned r ∧ QV w' r (v : Rat) 5 ∧ Below w.heap.size w w' := by
 refine (whole_any v h1 h2 w).mono ?_
 rintro e w' ⟨r, rfl, hr, hb⟩
 exact ⟨r, rfl, ⟨v, 1, hr, by simp⟩, hb⟩
set_option maxHeartbeats 4000000 in
theorem qlow_any (x : Value) (p d : Int) (k : Nat) (w : World) (hx : QIs w x p d k) (hk : k ≤ 274877906940) :
  Calls Tryz.prog 87 #[x] w fun ex w' => ∃ r, ex = .returned r ∧ QIs w' r (p / ((Int.gcd p d : Nat) : Int)) (d / ((Int.gcd p d : Nat) : Int)) k ∧ Below w.heap.size w w' := by
 obtain ⟨s1, a1, n1, c1, t1, a2, n2, c2, rfl, HN, HD, hd⟩ := hx.shape
 have bn := HN.out.digits
 have bd := HD.out.digits
 clear hx
 obtain ⟨G, hG⟩ : ∃ G, G = Int.gcd p d := ⟨_, rfl⟩
 have hGp : 0 < G := by rw [hG]; exact Int.gcd_pos_of_ne_zero_right p (by omega)
 have hGn : ((G : Nat) : Int) ∣ p := by rw [hG]; exact Int.gcd_dvd_left p d
 have hGd : ((G : Nat) : Int) ∣ d := by rw [hG]; exact Int.gcd_dvd_right p d
 have m1 : p % ((G : Nat) : Int) = 0 := Int.emod_eq_zero_of_dvd hGn
 have l1 : nd (p / ((G : Nat) : Int)).natAbs ≤ k := Nat.le_trans (nd_mono (by
  rw [Int.natAbs_ediv_of_dvd hGn]; exact Nat.div_le_self _ _)) bn
 have l2 : nd (d / ((G : Nat) : Int)).natAbs ≤ k := Nat.le_trans (nd_mono (by
  rw [Int.natAbs_ediv_of_dvd hGd]; exact Nat.div_le_self _ _)) bd
 have dp : 0 < d / ((G : Nat) : Int) := by
  obtain ⟨c, hc⟩ := hGd
  rw [hc, Int.mul_ediv_cancel_left _ (by omega)]
  refine Int.lt_of_not_ge (fun h => ?_)
  have : ((G : Nat) : Int) * c ≤ 0 := Int.mul_nonpos_of_nonneg_of_nonpos (by omega) h
  omega
 rw [← hG]
 have HG0 := Lib.hid hG
 have HL := Lib.hid (And.intro l1 l2)
 have HM := Lib.hid (Or.inr m1 : 0 ≤ p ∨ p % ((G : Nat) : Int) = 0)
 have HDP := Lib.hid dp
 have HD0 := Lib.hid hd
 have HGP : Hid ((0 : Int) < ((G : Nat) : Int)) := Lib.hid (by omega)
 clear hG hGn hGd m1 l1 l2 dp bn bd hd hGp
 have KW := Lib.hid (boxes2 w (Obj.cells #[.bool s1, .slice a1 n1 c1, .bool t1, .slice a2 n2 c2] 59) (Obj.cells #[.bool false, .slice none 0 0, .bool false, .slice none 0 0] 59))
 have HN := Lib.hid (HN.out.mono KW.out (Nat.le_refl _))
 have HD := Lib.hid (HD.out.mono KW.out (Nat.le_refl _))
 have P1 := Lib.hid ((own4_new w w.heap.size rfl (.bool s1) (.slice a1 n1 c1) (.bool t1) (.slice a2 n2 c2) 59).alloc (Obj.cells #[.bool false, .slice none 0 0, .bool false, .slice none 0 0] 59))
 have P2 := Lib.hid (own4_new (w.alloc (Obj.cells #[.bool s1, .slice a1 n1 c1, .bool t1, .slice a2 n2 c2] 59)) (w.heap.size + 1) (by simp) (.bool false) (.slice none 0 0) (.bool false) (.slice none 0 0) 59)
 obtain ⟨x10, x11, x12, x13, _, xl1⟩ := P1.out
 go_enter Tryz.func87, Tryz.ntmps87
 go_wp2_with fail
 refine (zgcd_any _ _ p d k _ HN.out HD.out (by omega)).mono ?_
 rintro e w1 ⟨g, rfl, hg, hb1⟩
 obtain ⟨sg, ag, ng, cg, rfl, HG⟩ := hg.shape
 rw [← HG0.out] at HG
 have hba := hb1.trans ((Below.refl w1.heap.size w1).alloc (Nat.le_refl _) (Obj.cells #[.bool sg, .slice ag ng cg] 57) |>.mono hb1.size)
 have KW := Lib.hid (KW.out.trans (hba.mono KW.out.size))
 have HN := Lib.hid (HN.out.mono hba (Nat.le_refl _))
 have HD := Lib.hid (HD.out.mono hba (Nat.le_refl _))
 have P1 := Lib.hid (P1.out.below hba P1.out.lt)
 have P2 := Lib.hid (P2.out.below hba P2.out.lt)
 have GB := Lib.hid (own2_new w1 w1.heap.size rfl (.bool sg) (.slice ag ng cg) 57)
 have HG := Lib.hid (HG.out.mono (boxes1 w1 (Obj.cells #[.bool sg, .slice ag ng cg] 57)) (Nat.le_refl _))
 clear hg hb1 hba x10 x11 x12 x13 xl1
 obtain ⟨x10, x11, x12, x13, _, xl1⟩ := P1.out
 obtain ⟨y0, y1, _, yl⟩ := GB.out
 go_wp2_with fail
 refine (zdivmod_any _ _ p ((G : Nat) : Int) k k _ HN.out HG.out HGP.out HM.out (by omega) (by omega)).mono ?_
 rintro e w2 ⟨u2, v2, rfl, hu, hv, hb2⟩
 obtain ⟨s3, a3, n3, c3, rfl, HU⟩ := (hu.tight HL.out.1).shape
 obtain ⟨s4, a4, n4, c4, rfl, -⟩ := hv.shape
 have hbb := boxes2 w2 (Obj.cells #[.bool s3, .slice a3 n3 c3] 57) (Obj.cells #[.bool s4, .slice a4 n4 c4] 57)
 have hba := hb2.trans (hbb.mono hb2.size)
 have KW := Lib.hid (KW.out.trans (hba.mono KW.out.size))
 have HD := Lib.hid (HD.out.mono hba (Nat.le_refl _))
 have P1 := Lib.hid (P1.out.below hba P1.out.lt)
 have P2 := Lib.hid (P2.out.below hba P2.out.lt)
 have GB := Lib.hid (GB.out.below hba GB.out.lt)
 have HG := Lib.hid (HG.out.mono hba (Nat.le_refl _))
 have HU := Lib.hid (HU.out.mono hbb (Nat.le_refl _))
 have NB := Lib.hid ((own2_new w2 w2.heap.size rfl (.bool s3) (.slice a3 n3 c3) 57).alloc (Obj.cells #[.bool s4, .slice a4 n4 c4] 57))
 clear hu hv hb2 hbb hba x10 x11 x12 x13 xl1 y0 y1 yl
 obtain ⟨x10, x11, x12, x13, _, xl1⟩ := P1.out
 obtain ⟨y0, y1, _, yl⟩ := GB.out
 go_wp2_with fail
 refine (zdivmod_any _ _ d ((G : Nat) : Int) k k _ HD.out HG.out HGP.out (.inl (by have := HD0.out; omega)) (by omega) (by omega)).mono ?_
 rintro e w3 ⟨u3, v3, rfl, hu, hv, hb3⟩
 obtain ⟨s5, a5, n5, c5, rfl, HV⟩ := (hu.tight HL.out.2).shape
 obtain ⟨s6, a6, n6, c6, rfl, -⟩ := hv.shape
 have hbb := boxes2 w3 (Obj.cells #[.bool s5, .slice a5 n5 c5] 57) (Obj.cells #[.bool s6, .slice a6 n6 c6] 57)
 have hba := hb3.trans (hbb.mono hb3.size)
 have KW := Lib.hid (KW.out.trans (hba.mono KW.out.size))
 have P2 := Lib.hid (P2.out.below hba P2.out.lt)
 have HU := Lib.hid (HU.out.mono hba (Nat.le_refl _))
 have NB := Lib.hid (NB.out.below hba NB.out.lt)
 have HV := Lib.hid (HV.out.mono hbb (Nat.le_refl _))
 have MB := Lib.hid ((own2_new w3 w3.heap.size rfl (.bool s5) (.slice a5 n5 c5) 57).alloc (Obj.cells #[.bool s6, .slice a6 n6 c6] 57))
 clear hu hv hb3 hbb hba x10 x11 x12 x13 xl1 y0 y1 yl HG GB HD P1
 obtain ⟨x0, x1, x2, x3, xf, xl⟩ := P2.out
 obtain ⟨y0, y1, _, yl⟩ := NB.out
 obtain ⟨z0, z1, _, zl⟩ := MB.out
 go_wp2_with fail
 refine bodyPost_ret (v := .agg #[.bool s3, .slice a3 n3 c3, .bool s5, .slice a5 n5 c5]) (by simp [results, Tryz.results87, go_sem, x0, x1, x2, x3, xf, xl]) rfl ?_
 exact ⟨_, rfl, ⟨_, _, _, _, rfl, HU.out.store4 P2.out _ _ _ _, HV.out.store4 P2.out _ _ _ _, HDP.out⟩, below_set4q KW.out (by omega) _ _ _ _⟩
end Go.Proofs.YtolkchkedieppaaGreat

/- The reference's fractions: Over, DivQ, Make, Lowest. (Printed by gen_qdiv.py.) -/
namespace Go.Proofs.YtolkchkedieppaaGreat
open Go.RowKit
attribute [local go_sem ↓] Go.wp_at_zero Go.wp_at_succ
theorem low_parts {p d : Int} {q : Rat} (hd : 0 < d) (h : (p : Rat) = q * (d : Rat)) : p / ((Int.gcd p d : Nat) : Int) = q.num ∧ d / ((Int.gcd p d : Nat) : Int) = ((q.den : Nat) : Int) := by
 have e : q = Rat.divInt p d := by
  rw [Rat.divInt_eq_div, h, Rat.div_def, Rat.mul_assoc, Rat.mul_inv_cancel _ (rat_ne hd), Rat.mul_one]
 rw [e, Rat.num_divInt, Rat.den_divInt, Int.gcd_comm d p]
 have hs : d.sign = 1 := Int.sign_eq_one_of_pos hd
 refine ⟨by rw [hs, Int.one_mul], ?_⟩
 rw [if_neg (by omega)]
 obtain ⟨D, rfl⟩ := Int.eq_ofNat_of_zero_le (Int.le_of_lt hd)
 rw [Int.natAbs_natCast, ← Int.natCast_ediv]
theorem qv_low (x : Value) (q : Rat) (k : Nat) (w : World) (hx : QV w x q k) (hk : k ≤ 274877906940) :
  Calls Tryz.prog 87 #[x] w fun ex w' => ∃ r, ex = .returned r ∧ QIs w' r q.num ((q.den : Nat) : Int) k ∧ Below w.heap.size w w' := by
 obtain ⟨p, d, h, e⟩ := hx
 have hd := h.pos
 refine (qlow_any x p d k w h hk).mono ?_
 rintro ex w' ⟨r, rfl, hr, hb⟩
 obtain ⟨e1, e2⟩ := low_parts hd e
 rw [e1, e2] at hr
 exact ⟨r, rfl, hr, hb⟩
theorem ZIs.sign {w : World} {s : Bool} {u : Value} {z : Int} {m : Nat} (h : ZIs w (.agg #[.bool s, u]) z m) : s = decide (z < 0) := by
 obtain ⟨u', e, _⟩ := h
 injection e with e
 injection e with e
 simp only [List.cons.injEq, and_true] at e
 obtain ⟨e, _⟩ := e
 injection e
set_option maxHeartbeats 2000000 in
theorem over_pos (x y : Value) (p d : Int) (k : Nat) (w : World) (hx : ZIs w x p k) (hy : ZIs w y d k) (hd : 0 < d) :
  Calls Tryz.prog 92 #[x, y] w fun ex w' => ∃ r, ex = .returned r ∧ QIs w' r p d k ∧ Below w.heap.size w w' := by
 obtain ⟨s1, a1, n1, c1, rfl, HA⟩ := hx.shape
 obtain ⟨s2, a2, n2, c2, rfl, HB⟩ := hy.shape
 clear hx hy
 obtain rfl : s2 = false := by rw [HB.out.sign]; simp; omega
 have HD := Lib.hid hd
 clear hd
 have KW := Lib.hid (boxes3 w (Obj.cells #[.bool s1, .slice a1 n1 c1] 57) (Obj.cells #[.bool false, .slice a2 n2 c2] 57) (Obj.cells #[.bool false, .slice none 0 0, .bool false, .slice none 0 0] 59))
 go_enter Tryz.func92, Tryz.ntmps92
 go_wp2_with fail
 refine bodyPost_ret (v := .agg #[.bool s1, .slice a1 n1 c1, .bool false, .slice a2 n2 c2]) (by simp [results, Tryz.results92, go_sem]) rfl ?_
 exact ⟨_, rfl, ⟨_, _, _, _, rfl, HA.out.mono (boxes3 w _ _ _) (Nat.le_refl _), HB.out.mono (boxes3 w _ _ _) (Nat.le_refl _), HD.out⟩, boxes3 w _ _ _⟩
set_option maxHeartbeats 2000000 in
theorem over_neg (x y : Value) (p d : Int) (k : Nat) (w : World) (hx : ZIs w x p k) (hy : ZIs w y d k) (hd : d < 0) :
  Calls Tryz.prog 92 #[x, y] w fun ex w' => ∃ r, ex = .returned r ∧ QIs w' r (-p) (-d) k ∧ Below w.heap.size w w' := by
 obtain ⟨s1, a1, n1, c1, rfl, HA⟩ := hx.shape
 obtain ⟨s2, a2, n2, c2, rfl, HB⟩ := hy.shape
 clear hx hy
 obtain rfl : s2 = true := by rw [HB.out.sign]; simp; omega
 have HD : Hid (0 < -d) := Lib.hid (by omega)
 clear hd
 have KW : Hid (Below w.heap.size w (((w.alloc (Obj.cells #[.bool s1, .slice a1 n1 c1] 57)).alloc (Obj.cells #[.bool true, .slice a2 n2 c2] 57)).alloc (Obj.cells #[.bool false, .slice none 0 0, .bool false, .slice none 0 0] 59))) := boxes3 w _ _ _
 have KA := Lib.hid (HA.out.mono KW.out (Nat.le_refl _))
 have KB := Lib.hid (HB.out.mono KW.out (Nat.le_refl _))
 have O1 : Hid (Own2 (((w.alloc (Obj.cells #[.bool s1, .slice a1 n1 c1] 57)).alloc (Obj.cells #[.bool true, .slice a2 n2 c2] 57)).alloc (Obj.cells #[.bool false, .slice none 0 0, .bool false, .slice none 0 0] 59)) w.heap.size (.bool s1) (.slice a1 n1 c1)) := ((own2_new _ _ rfl _ _ _).alloc _).alloc _
 have O2 : Hid (Own2 (((w.alloc (Obj.cells #[.bool s1, .slice a1 n1 c1] 57)).alloc (Obj.cells #[.bool true, .slice a2 n2 c2] 57)).alloc (Obj.cells #[.bool false, .slice none 0 0, .bool false, .slice none 0 0] 59)) (w.heap.size + 1) (.bool true) (.slice a2 n2 c2)) := (own2_new _ _ (by simp) _ _ _).alloc _
 have O3 : Hid (Own4 (((w.alloc (Obj.cells #[.bool s1, .slice a1 n1 c1] 57)).alloc (Obj.cells #[.bool true, .slice a2 n2 c2] 57)).alloc (Obj.cells #[.bool false, .slice none 0 0, .bool false, .slice none 0 0] 59)) (w.heap.size + 1 + 1) (.bool false) (.slice none 0 0) (.bool false) (.slice none 0 0)) := own4_new _ _ (by simp) _ _ _ _ _
 clear HA HB
 go_enter Tryz.func92, Tryz.ntmps92
 go_wp2
 have KW := Lib.hid KW.out.drew
 have KA := Lib.hid KA.out.drew
 have KB := Lib.hid KB.out.drew
 have O1 := Lib.hid O1.out.drew
 have O2 := Lib.hid O2.out.drew
 have O3 := Lib.hid O3.out.drew
 have x10 := O1.out.c0; have x11 := O1.out.c1; have xl1 := O1.out.lt; have xf1 := O1.out.f
 have x20 := O2.out.c0; have x21 := O2.out.c1; have xl2 := O2.out.lt; have xf2 := O2.out.f
 go_region_with (first
  | (go_at_call 132; have X1 := KA.out; clear KA; (with_reducible refine (zneg_any _ p k _ X1).mono ?_); clear X1; rintro e w3 ⟨r3, rfl, hr3, hb3⟩; obtain ⟨s3, a3, n3, c3, rfl, KA2⟩ := hr3.shape; clear hr3; have KB := Lib.hid (KB.out.mono hb3 (Nat.le_refl _)); have O1 := Lib.hid (O1.out.below hb3 O1.out.lt); have O2 := Lib.hid (O2.out.below hb3 O2.out.lt); have O3 := Lib.hid (O3.out.below hb3 O3.out.lt); have KW := Lib.hid (KW.out.trans (hb3.mono KW.out.size)); clear x10 x11 xl1 xf1 x20 x21 xl2 xf2; have x10 := O1.out.c0; have x11 := O1.out.c1; have xl1 := O1.out.lt; have xf1 := O1.out.f; have x20 := O2.out.c0; have x21 := O2.out.c1; have xl2 := O2.out.lt; have xf2 := O2.out.f)
  | (go_at_call 132; have X1 := KB.out; clear KB; (with_reducible refine (zneg_any _ d k _ X1).mono ?_); clear X1; rintro e w4 ⟨r4, rfl, hr4, hb4⟩; obtain ⟨s4, a4, n4, c4, rfl, KB2⟩ := hr4.shape; clear hr4; have KA2 := Lib.hid (KA2.out.mono hb4 (Nat.le_refl _)); have O1 := Lib.hid (O1.out.below hb4 O1.out.lt); have O2 := Lib.hid (O2.out.below hb4 O2.out.lt); have O3 := Lib.hid (O3.out.below hb4 O3.out.lt); have KW := Lib.hid (KW.out.trans (hb4.mono KW.out.size)); clear x10 x11 xl1 xf1 x20 x21 xl2 xf2; have x10 := O1.out.c0; have x11 := O1.out.c1; have xl1 := O1.out.lt; have xf1 := O1.out.f; have x20 := O2.out.c0; have x21 := O2.out.c1; have xl2 := O2.out.lt; have xf2 := O2.out.f))
 all_goals
  have O2' := O2.out.off2 (b' := w.heap.size) (by omega) (.bool s3) (.slice a3 n3 c3)
  have NA := Lib.hid ((KA2.out.off2 O1.out (noInt_bool _) (noInt_slice _ _ _) (.bool s3) (.slice a3 n3 c3)).off2 O2' (noInt_bool _) (noInt_slice _ _ _) (.bool s4) (.slice a4 n4 c4))
  have NB := Lib.hid ((KB2.out.off2 O1.out (noInt_bool _) (noInt_slice _ _ _) (.bool s3) (.slice a3 n3 c3)).off2 O2' (noInt_bool _) (noInt_slice _ _ _) (.bool s4) (.slice a4 n4 c4))
  have Q1 := Lib.hid ((O1.out.anew2 (.bool s3) (.slice a3 n3 c3)).off2 (b' := w.heap.size + 1) (by omega) (.bool s4) (.slice a4 n4 c4))
  have Q2 := Lib.hid (O2'.anew2 (.bool s4) (.slice a4 n4 c4))
  have Q3 := Lib.hid ((((O3.out.setCell w.heap.size 0 (.bool s3) (by omega)).setCell w.heap.size 1 (.slice a3 n3 c3) (by omega)).setCell (w.heap.size + 1) 0 (.bool s4) (by omega)).setCell (w.heap.size + 1) 1 (.slice a4 n4 c4) (by omega))
  have KV := Lib.hid ((((KW.out.setCell (p := ⟨w.heap.size, 0, none⟩) (Nat.le_refl _) (.bool s3)).setCell (p := ⟨w.heap.size, 1, none⟩) (Nat.le_refl _) (.slice a3 n3 c3)).setCell (p := ⟨w.heap.size + 1, 0, none⟩) (Nat.le_succ _) (.bool s4)).setCell (p := ⟨w.heap.size + 1, 1, none⟩) (Nat.le_succ _) (.slice a4 n4 c4))
  clear KA2 KB2 KW O1 O2 O3 O2' x10 x11 xl1 xf1 x20 x21 xl2 xf2 hb3 hb4
  generalize ((((w4.setCell ⟨w.heap.size, 0, none⟩ (.bool s3)).setCell ⟨w.heap.size, 1, none⟩ (.slice a3 n3 c3)).setCell ⟨w.heap.size + 1, 0, none⟩ (.bool s4)).setCell ⟨w.heap.size + 1, 1, none⟩ (.slice a4 n4 c4)) = w5 at *
  obtain ⟨x10, x11, _, xl1⟩ := Q1.out
  obtain ⟨x20, x21, _, xl2⟩ := Q2.out
  obtain ⟨x30, x31, x32, x33, xf3, xl3⟩ := Q3.out
  go_wp2_with fail
  refine bodyPost_ret (v := .agg #[.bool s3, .slice a3 n3 c3, .bool s4, .slice a4 n4 c4]) (by simp [results, Tryz.results92, go_sem, x30, x31, x32, x33, xf3, xl3]) rfl ?_
  exact ⟨_, rfl, ⟨_, _, _, _, rfl, NA.out.store4 Q3.out _ _ _ _, NB.out.store4 Q3.out _ _ _ _, HD.out⟩, below_set4q KV.out (by omega) _ _ _ _⟩
theorem over_any (x y : Value) (p d : Int) (k : Nat) (w : World) (hx : ZIs w x p k) (hy : ZIs w y d k) (hd : d ≠ 0) :
  Calls Tryz.prog 92 #[x, y] w fun ex w' => ∃ r P D, ex = .returned r ∧ QIs w' r P D k ∧ P * d = p * D ∧ Below w.heap.size w w' := by
 rcases Int.lt_or_gt_of_ne hd with h | h
 ·refine (over_neg x y p d k w hx hy h).mono ?_
  rintro ex w' ⟨r, rfl, hr, hb⟩
  exact ⟨r, _, _, rfl, hr, by rw [Int.neg_mul, Int.mul_neg], hb⟩
 ·refine (over_pos x y p d k w hx hy h).mono ?_
  rintro ex w' ⟨r, rfl, hr, hb⟩
  exact ⟨r, _, _, rfl, hr, rfl, hb⟩
set_option maxHeartbeats 1000000 in
theorem make_any (v u : Int) (w : World) (h1 : -9223372036854775808 ≤ v) (h2 : v < 9223372036854775808) (h3 : -9223372036854775808 ≤ u) (h4 : u < 9223372036854775808) (hu : u ≠ 0) :
  Calls Tryz.prog 37 #[.int .i64 v, .int .i64 u] w fun ex w' => ∃ r, ex = .returned r ∧ QIs w' r ((v : Rat) / (u : Rat)).num ((((v : Rat) / (u : Rat)).den : Nat) : Int) 5 ∧ Below w.heap.size w w' := by
 have H12 := Lib.hid (And.intro h1 h2)
 have H34 := Lib.hid (And.intro h3 h4)
 have HU := Lib.hid hu
 have O4 := Lib.hid (own4_new w w.heap.size rfl (.bool false) (.slice none 0 0) (.bool false) (.slice none 0 0) 59)
 have KW := Lib.hid (boxes1 w (.cells #[.bool false, .slice none 0 0, .bool false, .slice none 0 0] 59))
 clear h1 h2 h3 h4 hu
 go_enter Tryz.func37, Tryz.ntmps37
 go_wp2_with fail
 refine (zint_any v H12.out.1 H12.out.2 _).mono ?_
 rintro e w1 ⟨r1, rfl, hr1, hb1⟩
 obtain ⟨s1, a1, n1, c1, rfl, K1⟩ := hr1.shape
 have O4 := Lib.hid (O4.out.below hb1 O4.out.lt)
 have KW := Lib.hid (KW.out.trans (hb1.mono KW.out.size))
 clear hr1 hb1
 go_wp2_with fail
 refine (zint_any u H34.out.1 H34.out.2 _).mono ?_
 rintro e w2 ⟨r2, rfl, hr2, hb2⟩
 obtain ⟨s2, a2, n2, c2, rfl, K2⟩ := hr2.shape
 have K1 := Lib.hid (K1.out.mono hb2 (Nat.le_refl _))
 have O4 := Lib.hid (O4.out.below hb2 O4.out.lt)
 have KW := Lib.hid (KW.out.trans (hb2.mono KW.out.size))
 clear hr2 hb2
 go_wp2_with fail
 refine (over_any _ _ v u 5 _ K1.out K2.out HU.out).mono ?_
 rintro e w3 ⟨r3, P, D, rfl, hr3, hv3, hb3⟩
 have hD := hr3.pos
 have HV : Hid (QV w3 r3 ((v : Rat) / (u : Rat)) 5) := Lib.hid ⟨P, D, hr3, by
  have h3 : ((P * u : Int) : Rat) = ((v * D : Int) : Rat) := by rw [hv3]
  rw [Rat.intCast_mul, Rat.intCast_mul] at h3
  have n1 : (u : Rat) ≠ 0 := fun e => by
   have : ((u : Int) : Rat) = ((0 : Int) : Rat) := e
   exact HU.out (Rat.intCast_inj.1 this)
  have h4 := Rat.mul_inv_cancel _ n1
  rw [Rat.div_def]
  have h5 : (P : Rat) = (P : Rat) * (u : Rat) * (u : Rat)⁻¹ := by rw [Rat.mul_assoc, h4]; grind
  rw [h5, h3]; grind⟩
 obtain ⟨s3, a3, n3, c3, t3, a4, n4, c4, rfl, HV⟩ := HV.out.shape
 have O4 := Lib.hid (O4.out.below hb3 O4.out.lt)
 have KW := Lib.hid (KW.out.trans (hb3.mono KW.out.size))
 clear hr3 hv3 hb3 hD K1 K2
 go_wp2_with fail
 refine (qv_low _ _ 5 _ HV.out (by omega)).mono ?_
 rintro e w4 ⟨r4, rfl, hr4, hb4⟩
 obtain ⟨s5, a5, n5, c5, t5, a6, n6, c6, rfl, HN, HD, hd⟩ := hr4.shape
 have hd := Lib.hid hd
 have O4 := Lib.hid (O4.out.below hb4 O4.out.lt)
 have KW := Lib.hid (KW.out.trans (hb4.mono KW.out.size))
 clear hr4 hb4
 obtain ⟨x0, x1, x2, x3, xf, xl⟩ := O4.out
 go_wp2_with fail
 refine bodyPost_ret (v := .agg #[.bool s5, .slice a5 n5 c5, .bool t5, .slice a6 n6 c6]) (by simp [results, Tryz.results37, go_sem, x0, x1, x2, x3, xf, xl]) rfl ?_
 exact ⟨_, rfl, ⟨_, _, _, _, rfl, HN.out.store4 O4.out _ _ _ _, HD.out.store4 O4.out _ _ _ _, hd.out⟩, below_set4q KW.out (by omega) _ _ _ _⟩
end Go.Proofs.YtolkchkedieppaaGreat

/- Fractions of the reference behind a store into a box. -/
namespace Go.Proofs.YtolkchkedieppaaGreat
open Go.RowKit
/-- numbers are kept by a store into a box that holds another one -/
theorem ZIs.at4 {w : World} {v : Value} {z : Int} {m b : Nat} {s t : Bool} {a a2 : Option Addr} {n c n2 c2 : Nat} (h : ZIs w v z m) (O : Own4 w b (.bool s) (.slice a n c) (.bool t) (.slice a2 n2 c2)) (u0 u1 u2 u3 : Value) :
  ZIs ((((w.setCell ⟨b, 0, none⟩ u0).setCell ⟨b, 1, none⟩ u1).setCell ⟨b, 2, none⟩ u2).setCell ⟨b, 3, none⟩ u3) v z m :=
 (((h.setCell u0 O.c0 (noInt_bool _)).setCell u1 (off_set (by decide) O.c1) (noInt_slice _ _ _)).setCell u2 (off_set (by decide) (off_set (by decide) O.c2)) (noInt_bool _)).setCell u3 (off_set (by decide) (off_set (by decide) (off_set (by decide) O.c3))) (noInt_slice _ _ _)
end Go.Proofs.YtolkchkedieppaaGreat

/- Num and Is of the reference: the text of a fraction. -/
namespace Go.Proofs.YtolkchkedieppaaGreat
open Go.RowKit
attribute [local go_sem ↓] Go.wp_at_zero Go.wp_at_succ
theorem bytes_loop (bs : ByteArray) : ∀ (n i : Nat) (r : List UInt8), bs.size - i = n → ByteArray.toList.loop bs i r = r.reverse ++ bs.data.toList.drop i := by
 intro n
 induction n with
 | zero =>
  intro i r h
  unfold ByteArray.toList.loop
  have : ¬ i < bs.size := by omega
  rw [if_neg this]
  have : bs.data.toList.drop i = [] := by
   apply List.drop_eq_nil_of_le
   have h2 : bs.data.toList.length = bs.size := rfl
   omega
  rw [this]; simp
 | succ n ih =>
  intro i r h
  unfold ByteArray.toList.loop
  have hi : i < bs.size := by omega
  rw [if_pos hi, ih (i+1) _ (by omega)]
  have h2 : i < bs.data.toList.length := hi
  rw [List.drop_eq_getElem_cons h2]
  simp
  show bs.get! i = _
  unfold ByteArray.get!
  exact getElem!_pos bs.data i hi
theorem bytes_list (s : ByteArray) : s.toList = s.data.toList := by
 unfold ByteArray.toList
 rw [bytes_loop s _ 0 [] rfl]; simp
theorem bytes_ne {s : ByteArray} {l : List UInt8} (h : s ≠ ⟨l.toArray⟩) : (s.toList == l) = false := by
 rw [bytes_list]
 apply beq_false_of_ne
 intro e
 apply h
 cases s
 simp at e
 subst e
 simp
theorem isTxt_one : IsTxt ⟨#[49]⟩ 1 := ⟨1, ⟨by decide, fun h => by omega, fun _ => ⟨by omega, by decide⟩⟩, rfl, fun i h => by
 have : i = 0 := by have : i < 1 := h; omega
 subst this; rfl⟩
theorem isTxt_ne {s : ByteArray} {x : Nat} (h : IsTxt s x) (hx : x ≠ 1) : s ≠ ⟨#[49]⟩ := fun e => by
 obtain ⟨L, h1, h2, h3⟩ := h
 subst e
 have hL : L = 1 := h2.symm
 subst hL
 have h4 := h3 0 (by decide)
 have h5 := h1.lt
 have h6 : (48 : Nat) + d10 x (1 - 1 - 0) = 49 := by rw [← h4]; rfl
 unfold d10 at h6
 simp at h6
 omega
set_option maxHeartbeats 4000000 in
theorem rnum_any (x : Value) (q : Rat) (k : Nat) (w : World) (hx : QV w x q k) (hk : k ≤ 100000000) (hN : MaxD q.num.natAbs) (hD : MaxD q.den) :
  Calls Tryz.prog 89 #[x] w fun e w' => ∃ t, e = .returned (.tuple #[.string t, .bool true]) ∧ FracTxt t q.num q.den ∧ Below w.heap.size w w' := by
 obtain ⟨s1, a1, n1, c1, t1, a2, n2, c2, rfl, HQ⟩ := hx.shape
 have KW0 := Lib.hid (boxes1 w (.cells #[.bool s1, .slice a1 n1 c1, .bool t1, .slice a2 n2 c2] 59))
 have HQ := Lib.hid (HQ.out.mono KW0.out (Nat.le_refl _))
 have O1 := Lib.hid (own4_new w w.heap.size rfl (.bool s1) (.slice a1 n1 c1) (.bool t1) (.slice a2 n2 c2) 59)
 have HND := Lib.hid (And.intro hN hD)
 clear hx hN hD
 obtain ⟨x0, x1, x2, x3, xf, xl⟩ := O1.out
 go_enter Tryz.func89, Tryz.ntmps89
 go_wp2_with fail
 refine (qv_low _ q k _ HQ.out (by omega)).mono ?_
 rintro e w2 ⟨r2, rfl, hr2, hb2⟩
 obtain ⟨s3, a3, n3, c3, t3, a4, n4, c4, rfl, HZN, HZD, -⟩ := hr2.shape
 have O1 := Lib.hid (O1.out.below hb2 O1.out.lt)
 have KW := Lib.hid (KW0.out.trans (hb2.mono KW0.out.size))
 clear x0 x1 x2 x3 xf xl hb2 hr2 KW0 HQ
 obtain ⟨x0, x1, x2, x3, xf, xl⟩ := O1.out
 go_wp2_with fail
 have O2 := Lib.hid (O1.out.anew (.bool s3) (.slice a3 n3 c3) (.bool t3) (.slice a4 n4 c4))
 have HZN := Lib.hid (HZN.out.at4 O1.out (.bool s3) (.slice a3 n3 c3) (.bool t3) (.slice a4 n4 c4))
 have HZD := Lib.hid (HZD.out.at4 O1.out (.bool s3) (.slice a3 n3 c3) (.bool t3) (.slice a4 n4 c4))
 have KW := Lib.hid (below_set4q KW.out (Nat.le_refl _) (.bool s3) (.slice a3 n3 c3) (.bool t3) (.slice a4 n4 c4))
 clear x0 x1 x2 x3 xf xl O1
 generalize ((((w2.setCell ⟨w.heap.size, 0, none⟩ (.bool s3)).setCell ⟨w.heap.size, 1, none⟩ (.slice a3 n3 c3)).setCell ⟨w.heap.size, 2, none⟩ (.bool t3)).setCell ⟨w.heap.size, 3, none⟩ (.slice a4 n4 c4)) = w3 at *
 have HSG : Hid (s3 = decide (q.num < 0)) := Lib.hid HZN.out.sign
 have HB1 := Lib.hid HZN.out.digits
 have HB2 := Lib.hid HZD.out.digits
 have keepR : Hid (∀ w', Below w3.heap.size w3 w' → w'.cell? ⟨w.heap.size, 0, none⟩ = some (.bool s3) ∧ w'.cell? ⟨w.heap.size, 1, none⟩ = some (.slice a3 n3 c3) ∧ w'.cell? ⟨w.heap.size, 2, none⟩ = some (.bool t3) ∧ w'.cell? ⟨w.heap.size, 3, none⟩ = some (.slice a4 n4 c4)) :=
  Lib.hid (fun w' hb => ⟨bel1 hb O2.out.c0 O2.out.lt, bel1 hb O2.out.c1 O2.out.lt, bel1 hb O2.out.c2 O2.out.lt, bel1 hb O2.out.c3 O2.out.lt⟩)
 have VL0 := Lib.hid (Below.refl w3.heap.size w3)
 have VL := Lib.hid VL0.out.drew
 have HDG : Hid (∃ u2, Value.slice a4 n4 c4 = u2 ∧ Dg w3 u2 q.den) := Lib.hid (by
  obtain ⟨u, e, h1, h2⟩ := HZD.out
  injection e with e
  injection e with e
  simp only [List.cons.injEq, and_true] at e
  obtain ⟨-, e⟩ := e
  exact ⟨u, e, by simpa using h1⟩)
 obtain ⟨u2, e2, hd2⟩ := HDG.out
 subst e2
 have HD2 := Lib.hid hd2
 clear hd2 HDG
 go_region_held3 (fun w' => w'.cell? ⟨w.heap.size, 0, none⟩ = some (.bool s3) ∧ w'.cell? ⟨w.heap.size, 1, none⟩ = some (.slice a3 n3 c3) ∧ w'.cell? ⟨w.heap.size, 2, none⟩ = some (.bool t3) ∧ w'.cell? ⟨w.heap.size, 3, none⟩ = some (.slice a4 n4 c4))
  (first | (with_reducible exact keepR.out _ VL0.out) | (with_reducible exact keepR.out _ VL.out))
  (first
  | (go_at_call 80; (with_reducible refine (zabs_any _ q.num k _ (HZN.out.mono VL.out (Nat.le_refl _))).mono ?_); rintro e w4 ⟨r4, rfl, hr4, hb4⟩; obtain ⟨u4, rfl, hd4, -⟩ := hr4; have HD4 := Lib.hid hd4; clear hd4; have VL := Lib.hid (VL.out.trans (hb4.mono VL.out.size)))
  | (go_at_call 131; have X1 := HD4.out; clear HD4; (with_reducible refine (figures_any _ _ _ _ X1 (by have := HB1.out; simp; omega)).mono ?_); clear X1; rintro e w5 ⟨f5, rfl, hf5, hb5⟩; have HF5 := Lib.hid hf5; clear hf5; have VL := Lib.hid (VL.out.trans (hb5.mono VL.out.size)))
  | (go_at_call 131; (with_reducible refine (figures_any _ _ _ _ (HD2.out.mono VL.out (Nat.le_refl _)) (by have := HB2.out; simp at this; omega)).mono ?_); rintro e w6 ⟨f6, rfl, hf6, hb6⟩; have HF6 := Lib.hid hf6; clear hf6; have VL := Lib.hid (VL.out.trans (hb6.mono VL.out.size))))
 have HF5 : Hid (IsTxt f5 q.num.natAbs) := Lib.hid (by have h := HF5.out; rw [Int.natAbs_natCast] at h; exact h)
 have O3 := Lib.hid (O2.out.below VL.out O2.out.lt)
 have KW := Lib.hid (KW.out.trans (VL.out.mono KW.out.size))
 have Z1 : f5.size ≤ 4000 := HF5.out.size (by omega) HND.out.1.lt
 have Z2 : f6.size ≤ 4000 := HF6.out.size (by omega) HND.out.2.lt
 have ha1 := nb1 Z1
 have ha2 := nb2 Z1
 have ha3 := nb3 Z1
 have ha4 := nb4 Z1 Z2
 have ha5 := nb5 Z1 Z2
 have d1 : decide ((4000 : Int) < (f5.size : Int)) = false := by simp; omega
 have d2 : decide ((4000 : Int) < (f6.size : Int)) = false := by simp; omega
 have HFT : Hid (∀ r, r = (if s3 = true then ⟨#[45]⟩ ++ f5 else f5) → (q.den = 1 → FracTxt r q.num q.den) ∧ (q.den ≠ 1 → FracTxt (r ++ (⟨#[47]⟩ ++ f6)) q.num q.den)) := Lib.hid (by
  intro r hr
  have e : r = (if q.num < 0 then ⟨#[45]⟩ ++ f5 else f5) := by
   rw [hr, HSG.out]; by_cases h : q.num < 0 <;> simp [h]
  subst e
  exact ⟨fun h => ⟨f5, HF5.out, .inl ⟨h, rfl⟩⟩, fun h => ⟨f5, HF5.out, .inr ⟨h, f6, HF6.out, rfl⟩⟩⟩)
 obtain ⟨x0, x1, x2, x3, xf, xl⟩ := O3.out
 clear keepR VL VL0 HZN HZD HD2 HB1 HB2 O2 HSG
 by_cases hd : q.den = 1
 ·have hf6 : f6 = ⟨#[49]⟩ := by
   have h1 := HF6.out
   rw [hd] at h1
   exact h1.uniq isTxt_one
  subst hf6
  have HD1 := Lib.hid hd
  clear hd
  cases s3
  ·go_wp2
   go_ret2
   exact ⟨_, rfl, (HFT.out f5 (by simp)).1 HD1.out, KW.out⟩
  ·go_wp2
   go_ret2
   exact ⟨_, rfl, (HFT.out (⟨#[45]⟩ ++ f5) (by simp)).1 HD1.out, KW.out⟩
 ·have hf6 : f6 ≠ ⟨#[49]⟩ := isTxt_ne HF6.out hd
  have e1 : (f6.toList == [49]) = false := bytes_ne hf6
  have HD1 := Lib.hid hd
  clear hd
  cases s3
  ·go_wp2
   go_ret2
   exact ⟨_, rfl, by first | exact (HFT.out f5 (by simp)).2 HD1.out | (rw [ByteArray.append_assoc]; exact (HFT.out f5 (by simp)).2 HD1.out), KW.out⟩
  ·go_wp2
   go_ret2
   exact ⟨_, rfl, by first | exact (HFT.out (⟨#[45]⟩ ++ f5) (by simp)).2 HD1.out | (rw [ByteArray.append_assoc]; exact (HFT.out (⟨#[45]⟩ ++ f5) (by simp)).2 HD1.out), KW.out⟩
set_option maxHeartbeats 1000000 in
theorem is_any (s : ByteArray) (x : Value) (q : Rat) (k : Nat) (w : World) (hs : FracTxt s q.num q.den) (hx : QV w x q k) (hk : k ≤ 100000000) (hN : MaxD q.num.natAbs) (hD : MaxD q.den) :
  Calls Tryz.prog 29 #[.string s, x] w fun e w' => e = .returned (.bool true) ∧ Below w.heap.size w w' := by
 obtain ⟨s1, a1, n1, c1, t1, a2, n2, c2, rfl, HQ⟩ := hx.shape
 have KW0 := Lib.hid (boxes1 w (.cells #[.bool s1, .slice a1 n1 c1, .bool t1, .slice a2 n2 c2] 59))
 have HQ := Lib.hid (HQ.out.mono KW0.out (Nat.le_refl _))
 have HS := Lib.hid hs
 have HND := Lib.hid (And.intro hN hD)
 clear hx hs hN hD
 go_enter Tryz.func29, Tryz.ntmps29
 go_wp2_with fail
 refine (rnum_any _ q k _ HQ.out hk HND.out.1 HND.out.2).mono ?_
 rintro e w2 ⟨t, rfl, ht, hb⟩
 obtain rfl := HS.out.uniq ht
 have KW0 := Lib.hid (KW0.out.trans (hb.mono KW0.out.size))
 clear hb ht
 go_wp2
 go_ret
 exact ⟨rfl, KW0.out⟩
end Go.Proofs.YtolkchkedieppaaGreat

/- Measure of the reference of hide. -/
namespace Go.Proofs.YtolkchkedieppaaGreat
open Go.RowKit
attribute [local go_sem ↓] Go.wp_at_zero Go.wp_at_succ
set_option maxHeartbeats 8000000 in
set_option maxRecDepth 100000 in
theorem rmeas_any (v : Value) (S : List Tr) (w : World) (hv : SqV w v S) (hrg : ∀ i, i < S.length → RgT (S.getD i default)) (hn : S.length ≤ 1000) :
  Calls Tryz.prog 24 #[v] w fun e w' => e = .returned (.tuple #[.int .i64 (wdT S S.length), .int .i64 (htT S S.length)]) ∧ Below w.heap.size w w' := by
 obtain ⟨a1, c1, rfl, k1⟩ := hv.ex
 have K1 := Lib.hid k1
 clear hv k1
 obtain ⟨n, hN⟩ : ∃ n, n = S.length := ⟨_, rfl⟩
 rw [← hN] at K1 hn hrg ⊢
 have HN := Lib.hid hN
 have HRG := Lib.hid hrg
 clear hN hrg
 go_enter Tryz.func24, Tryz.ntmps24
 go_wp2
 have KB0 := Lib.hid (Below.refl w.heap.size w)
 go_loopw [4, 5, 6] (fun v4 v5 v6 wr => ∃ i : Nat, i ≤ n ∧ v6 = .int .i64 (i : Nat) ∧ v4 = .int .i64 (wdT S i) ∧ v5 = .int .i64 (htT S i) ∧ Hid (Below w.heap.size w wr)) (fun _ _ v6 _ => n - (intOf v6).toNat)
 case atStart => exact ⟨0, by omega, rfl, rfl, rfl, KB0⟩
 case round =>
  clear KB0
  obtain ⟨i, hi, rfl, rfl, rfl, KB⟩ := hrel
  by_cases h : i < n
  ·have e1 : decide ((i : Int) < (n : Int)) = true := by simpa using h
   have e1n : decide (i < n) = true := by simpa using h
   obtain ⟨g1, o1, rfl, r1, l1⟩ := K1.out (by omega)
   have ixi := fun X => ixSqo g1 o1 n c1 i h X
   have hi2 : i < S.length := by have := HN.out; omega
   have T := r1.below KB.out l1
   have x0 := T.c0 i hi2
   have x1 := T.c1 i hi2
   have x2 := T.c2 i hi2
   have hmb := meas_boundN HRG.out i hi
   have hrp := HRG.out i h
   obtain ⟨p, hp⟩ : ∃ p, p = S.getD i default := ⟨_, rfl⟩
   rw [← hp] at hrp x0 x1 x2
   have hWn : wdT S (i + 1) = (if wdT S i < p.a + p.c then p.a + p.c else wdT S i) := by rw [hp]; rfl
   have hHn : htT S (i + 1) = (if htT S i < p.b + p.c then p.b + p.c else htT S i) := by rw [hp]; rfl
   clear hp r1 l1 T hi2
   obtain ⟨Wi, hWi⟩ : ∃ W, W = wdT S i := ⟨_, rfl⟩
   obtain ⟨Hi, hHi⟩ : ∃ H, H = htT S i := ⟨_, rfl⟩
   rw [← hWi] at hWn hmb ⊢
   rw [← hHi] at hHn hmb ⊢
   clear hWi hHi
   have q0 := hrp.a0; have q1 := hrp.b0; have q2 := hrp.c0; have q3 := hrp.c1; have q4 := hrp.a1; have q5 := hrp.b1
   have w6 : IntKind.i64.wrap (p.a + p.c) = p.a + p.c := by rw [IntKind.wrap_i64]; omega
   have w7 : IntKind.i64.wrap (p.b + p.c) = p.b + p.c := by rw [IntKind.wrap_i64]; omega
   have hW : (if Wi < p.a + p.c then p.a + p.c else Wi) = wdT S (i + 1) := hWn.symm
   have hH : (if Hi < p.b + p.c then p.b + p.c else Hi) = htT S (i + 1) := hHn.symm
   have hWm : max Wi (p.a + p.c) = wdT S (i + 1) := by rw [← hW]; split <;> omega
   have hHm : max Hi (p.b + p.c) = htT S (i + 1) := by rw [← hH]; split <;> omega
   clear hrp hmb q0 q1 q2 q3 q4 q5 hWn hHn
   go_upto_region 5 with (fail)
   go_quiet (fail)
   go_wp2
   go_roundw
   case rel => exact ⟨i + 1, by omega, by go_num, rfl, rfl, Lib.hid (KB.out.trans ((Drawn.of _ _).below _))⟩
   case measure => simp [intOf]; omega
  ·obtain rfl : i = n := by omega
   have e1 : decide ((i : Int) < (i : Int)) = false := by simp
   go_wp2
   go_ret2
   exact ⟨rfl, KB.out⟩
end Go.Proofs.YtolkchkedieppaaGreat
