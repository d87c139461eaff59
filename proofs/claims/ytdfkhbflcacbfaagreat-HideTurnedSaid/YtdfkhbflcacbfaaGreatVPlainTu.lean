/- The reference's fractions: MulQ, AddQ, SubQ, CmpQ. (Printed by gen_big18.py.) -/
import Derived.Test.YtdfkhbflcacbfaaGreatVQShp
import Derived.Test.YtdfkhbflcacbfaaGreatVBig16
import Derived.Test.YtdfkhbflcacbfaaGreatVRat4
import Derived.Test.YtdfkhbflcacbfaaGreatVBig17
import Derived.Test.YtdfkhbflcacbfaaGreatVRMat
import Derived.Test.YtdfkhbflcacbfaaGreatVPlainD
import Derived.Test.YtdfkhbflcacbfaaGreatVPlainCp
import Derived.Test.YtdfkhbflcacbfaaGreatVTurN
import Derived.Test.YtdfkhbflcacbfaaGreatVBefA
import Derived.Test.YtdfkhbflcacbfaaGreatVPfA
set_option linter.unusedVariables false
set_option linter.unusedSimpArgs false
namespace Go.Proofs.YtdfkhbflcacbfaaGreat
open Go.RowKit
attribute [local go_sem ↓] Go.wp_at_zero Go.wp_at_succ
set_option maxHeartbeats 4000000 in
theorem qcmp_any (x y : Value) (p d q e : Int) (k : Nat) (w : World) (hx : QIs w x p d k) (hy : QIs w y q e k) (hk : k ≤ 274877906940) :
  Calls Tryz.prog 13 #[x, y] w fun ex w' => ex = .returned (.int .i64 (sgZ (p * e - q * d))) ∧ Below w.heap.size w w' := by
 obtain ⟨s1, a1, n1, c1, t1, a2, n2, c2, rfl, HN1, HD1, hd1⟩ := hx.shape
 obtain ⟨s2, a3, n3, c3, t2, a4, n4, c4, rfl, HN2, HD2, hd2⟩ := hy.shape
 clear hx hy
 have KW : Hid (Below w.heap.size w ((w.alloc (Obj.cells #[.bool s1, .slice a1 n1 c1, .bool t1, .slice a2 n2 c2] 46)).alloc (Obj.cells #[.bool s2, .slice a3 n3 c3, .bool t2, .slice a4 n4 c4] 46))) := boxes2 w _ _
 have KN1 := Lib.hid (HN1.out.mono KW.out (Nat.le_refl _))
 have KD1 := Lib.hid (HD1.out.mono KW.out (Nat.le_refl _))
 have KN2 := Lib.hid (HN2.out.mono KW.out (Nat.le_refl _))
 have KD2 := Lib.hid (HD2.out.mono KW.out (Nat.le_refl _))
 have PO1 : Hid (Own4 ((w.alloc (Obj.cells #[.bool s1, .slice a1 n1 c1, .bool t1, .slice a2 n2 c2] 46)).alloc (Obj.cells #[.bool s2, .slice a3 n3 c3, .bool t2, .slice a4 n4 c4] 46)) w.heap.size (.bool s1) (.slice a1 n1 c1) (.bool t1) (.slice a2 n2 c2)) := (own4_new _ _ rfl _ _ _ _ _).alloc _
 have PO2 : Hid (Own4 ((w.alloc (Obj.cells #[.bool s1, .slice a1 n1 c1, .bool t1, .slice a2 n2 c2] 46)).alloc (Obj.cells #[.bool s2, .slice a3 n3 c3, .bool t2, .slice a4 n4 c4] 46)) (w.heap.size + 1) (.bool s2) (.slice a3 n3 c3) (.bool t2) (.slice a4 n4 c4)) := own4_new _ _ (by simp) _ _ _ _ _
 obtain ⟨x10, x11, x12, x13, _, xl1⟩ := PO1.out
 obtain ⟨x20, x21, x22, x23, _, xl2⟩ := PO2.out
 have HP := Lib.hid (Int.mul_pos hd1 hd2)
 clear hd1 hd2 HN1 HD1 HN2 HD2
 go_enter Tryz.func13, Tryz.ntmps13
 go_wp2
 have PI1 := PO1
 have PI2 := PO2
 have KW := Lib.hid KW.out.drew
 have KN1 := Lib.hid KN1.out.drew
 have KD1 := Lib.hid KD1.out.drew
 have KN2 := Lib.hid KN2.out.drew
 have KD2 := Lib.hid KD2.out.drew
 have PO1 := Lib.hid PO1.out.drew
 have PO2 := Lib.hid PO2.out.drew
 go_region_held3 (fun wq => wq.cell? ⟨w.heap.size, 0, none⟩ = some (.bool s1) ∧ wq.cell? ⟨w.heap.size, 1, none⟩ = some (.slice a1 n1 c1) ∧ wq.cell? ⟨w.heap.size, 2, none⟩ = some (.bool t1) ∧ wq.cell? ⟨w.heap.size, 3, none⟩ = some (.slice a2 n2 c2) ∧ wq.cell? ⟨w.heap.size + 1, 0, none⟩ = some (.bool s2) ∧ wq.cell? ⟨w.heap.size + 1, 1, none⟩ = some (.slice a3 n3 c3) ∧ wq.cell? ⟨w.heap.size + 1, 2, none⟩ = some (.bool t2) ∧ wq.cell? ⟨w.heap.size + 1, 3, none⟩ = some (.slice a4 n4 c4)) (first | (with_reducible exact ⟨PI1.out.c0, PI1.out.c1, PI1.out.c2, PI1.out.c3, PI2.out.c0, PI2.out.c1, PI2.out.c2, PI2.out.c3⟩) | (with_reducible exact ⟨PO1.out.c0, PO1.out.c1, PO1.out.c2, PO1.out.c3, PO2.out.c0, PO2.out.c1, PO2.out.c2, PO2.out.c3⟩) | (with_reducible exact ⟨(PO1.out.set4 (w.heap.size + 1 + 1) _ _ _ _ (by omega)).c0, (PO1.out.set4 (w.heap.size + 1 + 1) _ _ _ _ (by omega)).c1, (PO1.out.set4 (w.heap.size + 1 + 1) _ _ _ _ (by omega)).c2, (PO1.out.set4 (w.heap.size + 1 + 1) _ _ _ _ (by omega)).c3, (PO2.out.set4 (w.heap.size + 1 + 1) _ _ _ _ (by omega)).c0, (PO2.out.set4 (w.heap.size + 1 + 1) _ _ _ _ (by omega)).c1, (PO2.out.set4 (w.heap.size + 1 + 1) _ _ _ _ (by omega)).c2, (PO2.out.set4 (w.heap.size + 1 + 1) _ _ _ _ (by omega)).c3⟩))
  (first
  | (go_at_call 34; (with_reducible refine (zmul_any _ _ (p) (e) k k _ KN1.out KD2.out (by omega)).mono ?_); rintro e w5 ⟨r5, rfl, hr5, hb5⟩; (try have KN1 := Lib.hid (KN1.out.mono hb5 (Nat.le_refl _))); (try have KD1 := Lib.hid (KD1.out.mono hb5 (Nat.le_refl _))); (try have KN2 := Lib.hid (KN2.out.mono hb5 (Nat.le_refl _))); (try have KD2 := Lib.hid (KD2.out.mono hb5 (Nat.le_refl _))); (try have KB := Lib.hid (KB.out.mono hb5 (Nat.le_refl _))); (try have KC := Lib.hid (KC.out.mono hb5 (Nat.le_refl _))); (try have KE := Lib.hid (KE.out.mono hb5 (Nat.le_refl _))); have PO1 := Lib.hid (PO1.out.below hb5 PO1.out.lt); have PO2 := Lib.hid (PO2.out.below hb5 PO2.out.lt); have KW := Lib.hid (KW.out.trans (hb5.mono KW.out.size)); clear x10 x11 x12 x13 xl1 x20 x21 x22 x23 xl2; obtain ⟨x10, x11, x12, x13, _, xl1⟩ := PO1.out; obtain ⟨x20, x21, x22, x23, _, xl2⟩ := PO2.out; obtain ⟨s5, a5, n5, c5, rfl, KA⟩ := hr5.shape; clear hr5)
  | (go_at_call 34; (with_reducible refine (zmul_any _ _ (q) (d) k k _ KN2.out KD1.out (by omega)).mono ?_); rintro e w6 ⟨r6, rfl, hr6, hb6⟩; (try have KN1 := Lib.hid (KN1.out.mono hb6 (Nat.le_refl _))); (try have KD1 := Lib.hid (KD1.out.mono hb6 (Nat.le_refl _))); (try have KN2 := Lib.hid (KN2.out.mono hb6 (Nat.le_refl _))); (try have KD2 := Lib.hid (KD2.out.mono hb6 (Nat.le_refl _))); (try have KA := Lib.hid (KA.out.mono hb6 (Nat.le_refl _))); (try have KC := Lib.hid (KC.out.mono hb6 (Nat.le_refl _))); (try have KE := Lib.hid (KE.out.mono hb6 (Nat.le_refl _))); have PO1 := Lib.hid (PO1.out.below hb6 PO1.out.lt); have PO2 := Lib.hid (PO2.out.below hb6 PO2.out.lt); have KW := Lib.hid (KW.out.trans (hb6.mono KW.out.size)); clear x10 x11 x12 x13 xl1 x20 x21 x22 x23 xl2; obtain ⟨x10, x11, x12, x13, _, xl1⟩ := PO1.out; obtain ⟨x20, x21, x22, x23, _, xl2⟩ := PO2.out; obtain ⟨s6, a6, n6, c6, rfl, KB⟩ := hr6.shape; clear hr6)
  | (go_at_call 33; (with_reducible refine (zcmp_any _ _ (p * e) (q * d) (k + k) _ KA.out KB.out (by omega)).mono ?_); rintro ex w9 ⟨rfl, hb9⟩; (try have KN1 := Lib.hid (KN1.out.mono hb9 (Nat.le_refl _))); (try have KD1 := Lib.hid (KD1.out.mono hb9 (Nat.le_refl _))); (try have KN2 := Lib.hid (KN2.out.mono hb9 (Nat.le_refl _))); (try have KD2 := Lib.hid (KD2.out.mono hb9 (Nat.le_refl _))); (try have KA := Lib.hid (KA.out.mono hb9 (Nat.le_refl _))); (try have KB := Lib.hid (KB.out.mono hb9 (Nat.le_refl _))); (try have KC := Lib.hid (KC.out.mono hb9 (Nat.le_refl _))); (try have KE := Lib.hid (KE.out.mono hb9 (Nat.le_refl _))); have PO1 := Lib.hid (PO1.out.below hb9 PO1.out.lt); have PO2 := Lib.hid (PO2.out.below hb9 PO2.out.lt); have KW := Lib.hid (KW.out.trans (hb9.mono KW.out.size)); clear x10 x11 x12 x13 xl1 x20 x21 x22 x23 xl2; obtain ⟨x10, x11, x12, x13, _, xl1⟩ := PO1.out; obtain ⟨x20, x21, x22, x23, _, xl2⟩ := PO2.out))
 all_goals (try go_wp2)
 all_goals
  go_ret
  exact ⟨rfl, KW.out⟩
end Go.Proofs.YtdfkhbflcacbfaaGreat

/- The reference's fractions: MulQ, AddQ, SubQ, CmpQ. (Printed by gen_big18.py.) -/
namespace Go.Proofs.YtdfkhbflcacbfaaGreat
open Go.RowKit
attribute [local go_sem ↓] Go.wp_at_zero Go.wp_at_succ
set_option maxHeartbeats 4000000 in
theorem qmul_any (x y : Value) (p d q e : Int) (k : Nat) (w : World) (hx : QIs w x p d k) (hy : QIs w y q e k) (hk : k ≤ 274877906940) :
  Calls Tryz.prog 14 #[x, y] w fun ex w' => ∃ r, ex = .returned r ∧ QIs w' r (p * q) (d * e) (2 * k) ∧ Below w.heap.size w w' := by
 obtain ⟨s1, a1, n1, c1, t1, a2, n2, c2, rfl, HN1, HD1, hd1⟩ := hx.shape
 obtain ⟨s2, a3, n3, c3, t2, a4, n4, c4, rfl, HN2, HD2, hd2⟩ := hy.shape
 clear hx hy
 have KW : Hid (Below w.heap.size w (((w.alloc (Obj.cells #[.bool s1, .slice a1 n1 c1, .bool t1, .slice a2 n2 c2] 46)).alloc (Obj.cells #[.bool s2, .slice a3 n3 c3, .bool t2, .slice a4 n4 c4] 46)).alloc (Obj.cells #[.bool false, .slice none 0 0, .bool false, .slice none 0 0] 46))) := boxes3 w _ _ _
 have KN1 := Lib.hid (HN1.out.mono KW.out (Nat.le_refl _))
 have KD1 := Lib.hid (HD1.out.mono KW.out (Nat.le_refl _))
 have KN2 := Lib.hid (HN2.out.mono KW.out (Nat.le_refl _))
 have KD2 := Lib.hid (HD2.out.mono KW.out (Nat.le_refl _))
 have PO1 : Hid (Own4 (((w.alloc (Obj.cells #[.bool s1, .slice a1 n1 c1, .bool t1, .slice a2 n2 c2] 46)).alloc (Obj.cells #[.bool s2, .slice a3 n3 c3, .bool t2, .slice a4 n4 c4] 46)).alloc (Obj.cells #[.bool false, .slice none 0 0, .bool false, .slice none 0 0] 46)) w.heap.size (.bool s1) (.slice a1 n1 c1) (.bool t1) (.slice a2 n2 c2)) := ((own4_new _ _ rfl _ _ _ _ _).alloc _).alloc _
 have PO2 : Hid (Own4 (((w.alloc (Obj.cells #[.bool s1, .slice a1 n1 c1, .bool t1, .slice a2 n2 c2] 46)).alloc (Obj.cells #[.bool s2, .slice a3 n3 c3, .bool t2, .slice a4 n4 c4] 46)).alloc (Obj.cells #[.bool false, .slice none 0 0, .bool false, .slice none 0 0] 46)) (w.heap.size + 1) (.bool s2) (.slice a3 n3 c3) (.bool t2) (.slice a4 n4 c4)) := (own4_new _ _ (by simp) _ _ _ _ _).alloc _
 have PO3 : Hid (Own4 (((w.alloc (Obj.cells #[.bool s1, .slice a1 n1 c1, .bool t1, .slice a2 n2 c2] 46)).alloc (Obj.cells #[.bool s2, .slice a3 n3 c3, .bool t2, .slice a4 n4 c4] 46)).alloc (Obj.cells #[.bool false, .slice none 0 0, .bool false, .slice none 0 0] 46)) (w.heap.size + 1 + 1) (.bool false) (.slice none 0 0) (.bool false) (.slice none 0 0)) := own4_new _ _ (by simp) _ _ _ _ _
 obtain ⟨x10, x11, x12, x13, _, xl1⟩ := PO1.out
 obtain ⟨x20, x21, x22, x23, _, xl2⟩ := PO2.out
 obtain ⟨x30, x31, x32, x33, xf3, xl3⟩ := PO3.out
 have HP := Lib.hid (Int.mul_pos hd1 hd2)
 clear hd1 hd2 HN1 HD1 HN2 HD2
 go_enter Tryz.func14, Tryz.ntmps14
 go_wp2
 have PI1 := PO1
 have PI2 := PO2
 have KW := Lib.hid KW.out.drew
 have KN1 := Lib.hid KN1.out.drew
 have KD1 := Lib.hid KD1.out.drew
 have KN2 := Lib.hid KN2.out.drew
 have KD2 := Lib.hid KD2.out.drew
 have PO1 := Lib.hid PO1.out.drew
 have PO2 := Lib.hid PO2.out.drew
 have PO3 := Lib.hid PO3.out.drew
 go_region_held3 (fun wq => wq.cell? ⟨w.heap.size, 0, none⟩ = some (.bool s1) ∧ wq.cell? ⟨w.heap.size, 1, none⟩ = some (.slice a1 n1 c1) ∧ wq.cell? ⟨w.heap.size, 2, none⟩ = some (.bool t1) ∧ wq.cell? ⟨w.heap.size, 3, none⟩ = some (.slice a2 n2 c2) ∧ wq.cell? ⟨w.heap.size + 1, 0, none⟩ = some (.bool s2) ∧ wq.cell? ⟨w.heap.size + 1, 1, none⟩ = some (.slice a3 n3 c3) ∧ wq.cell? ⟨w.heap.size + 1, 2, none⟩ = some (.bool t2) ∧ wq.cell? ⟨w.heap.size + 1, 3, none⟩ = some (.slice a4 n4 c4)) (first | (with_reducible exact ⟨PI1.out.c0, PI1.out.c1, PI1.out.c2, PI1.out.c3, PI2.out.c0, PI2.out.c1, PI2.out.c2, PI2.out.c3⟩) | (with_reducible exact ⟨PO1.out.c0, PO1.out.c1, PO1.out.c2, PO1.out.c3, PO2.out.c0, PO2.out.c1, PO2.out.c2, PO2.out.c3⟩) | (with_reducible exact ⟨(PO1.out.set4 (w.heap.size + 1 + 1) _ _ _ _ (by omega)).c0, (PO1.out.set4 (w.heap.size + 1 + 1) _ _ _ _ (by omega)).c1, (PO1.out.set4 (w.heap.size + 1 + 1) _ _ _ _ (by omega)).c2, (PO1.out.set4 (w.heap.size + 1 + 1) _ _ _ _ (by omega)).c3, (PO2.out.set4 (w.heap.size + 1 + 1) _ _ _ _ (by omega)).c0, (PO2.out.set4 (w.heap.size + 1 + 1) _ _ _ _ (by omega)).c1, (PO2.out.set4 (w.heap.size + 1 + 1) _ _ _ _ (by omega)).c2, (PO2.out.set4 (w.heap.size + 1 + 1) _ _ _ _ (by omega)).c3⟩))
  (first
  | (go_at_call 34; (with_reducible refine (zmul_any _ _ (p) (q) k k _ KN1.out KN2.out (by omega)).mono ?_); rintro e w5 ⟨r5, rfl, hr5, hb5⟩; (try have KN1 := Lib.hid (KN1.out.mono hb5 (Nat.le_refl _))); (try have KD1 := Lib.hid (KD1.out.mono hb5 (Nat.le_refl _))); (try have KN2 := Lib.hid (KN2.out.mono hb5 (Nat.le_refl _))); (try have KD2 := Lib.hid (KD2.out.mono hb5 (Nat.le_refl _))); (try have KB := Lib.hid (KB.out.mono hb5 (Nat.le_refl _))); (try have KC := Lib.hid (KC.out.mono hb5 (Nat.le_refl _))); (try have KE := Lib.hid (KE.out.mono hb5 (Nat.le_refl _))); have PO1 := Lib.hid (PO1.out.below hb5 PO1.out.lt); have PO2 := Lib.hid (PO2.out.below hb5 PO2.out.lt); have PO3 := Lib.hid (PO3.out.below hb5 PO3.out.lt); have KW := Lib.hid (KW.out.trans (hb5.mono KW.out.size)); clear x10 x11 x12 x13 xl1 x20 x21 x22 x23 xl2 x30 x31 x32 x33 xf3 xl3; obtain ⟨x10, x11, x12, x13, _, xl1⟩ := PO1.out; obtain ⟨x20, x21, x22, x23, _, xl2⟩ := PO2.out; obtain ⟨x30, x31, x32, x33, xf3, xl3⟩ := PO3.out; obtain ⟨s5, a5, n5, c5, rfl, KA⟩ := hr5.shape; clear hr5)
  | (go_at_call 34; (with_reducible refine (zmul_any _ _ (d) (e) k k _ KD1.out KD2.out (by omega)).mono ?_); rintro e w6 ⟨r6, rfl, hr6, hb6⟩; (try have KN1 := Lib.hid (KN1.out.mono hb6 (Nat.le_refl _))); (try have KD1 := Lib.hid (KD1.out.mono hb6 (Nat.le_refl _))); (try have KN2 := Lib.hid (KN2.out.mono hb6 (Nat.le_refl _))); (try have KD2 := Lib.hid (KD2.out.mono hb6 (Nat.le_refl _))); (try have KA := Lib.hid (KA.out.mono hb6 (Nat.le_refl _))); (try have KC := Lib.hid (KC.out.mono hb6 (Nat.le_refl _))); (try have KE := Lib.hid (KE.out.mono hb6 (Nat.le_refl _))); have PO1 := Lib.hid (PO1.out.below hb6 PO1.out.lt); have PO2 := Lib.hid (PO2.out.below hb6 PO2.out.lt); have PO3 := Lib.hid (PO3.out.below hb6 PO3.out.lt); have KW := Lib.hid (KW.out.trans (hb6.mono KW.out.size)); clear x10 x11 x12 x13 xl1 x20 x21 x22 x23 xl2 x30 x31 x32 x33 xf3 xl3; obtain ⟨x10, x11, x12, x13, _, xl1⟩ := PO1.out; obtain ⟨x20, x21, x22, x23, _, xl2⟩ := PO2.out; obtain ⟨x30, x31, x32, x33, xf3, xl3⟩ := PO3.out; obtain ⟨s6, a6, n6, c6, rfl, KB⟩ := hr6.shape; clear hr6))
 all_goals (try go_wp2)
 all_goals
  refine bodyPost_ret (v := .agg #[.bool s5, .slice a5 n5 c5, .bool s6, .slice a6 n6 c6]) (by simp [results, Tryz.results14, go_sem, x30, x31, x32, x33, xf3]) rfl ?_
  exact ⟨_, rfl, ⟨_, _, _, _, rfl, (KA.out.le (by omega)).store4 PO3.out _ _ _ _, (KB.out.le (by omega)).store4 PO3.out _ _ _ _, HP.out⟩, below_set4q KW.out (by omega) _ _ _ _⟩
end Go.Proofs.YtdfkhbflcacbfaaGreat

/- The reference's fractions as rational numbers: Lowest, Over, DivQ, Make. -/
namespace Go.Proofs.YtdfkhbflcacbfaaGreat
open Go.RowKit
attribute [local go_sem ↓] Go.wp_at_zero Go.wp_at_succ
/-- v is the fraction q, with at most m digits in each part -/
def QV (w : World) (v : Value) (q : Rat) (m : Nat) : Prop := ∃ p d : Int, QIs w v p d m ∧ (p : Rat) = q * (d : Rat)
theorem QIs.le {w : World} {v : Value} {p d : Int} {m k : Nat} (h : QIs w v p d m) (hk : m ≤ k) : QIs w v p d k := by
 obtain ⟨s1, u1, s2, u2, h0, h1, h2, h3⟩ := h
 exact ⟨s1, u1, s2, u2, h0, h1.le hk, h2.le hk, h3⟩
theorem QIs.pos {w : World} {v : Value} {p d : Int} {m : Nat} (h : QIs w v p d m) : 0 < d := by
 obtain ⟨s1, u1, s2, u2, h0, h1, h2, h3⟩ := h
 exact h3
theorem QV.mono {w w' : World} {v : Value} {q : Rat} {m B : Nat} (h : QV w v q m) (hb : Below B w w') (hB : w.heap.size ≤ B) : QV w' v q m := by
 obtain ⟨p, d, h1, h2⟩ := h
 exact ⟨p, d, h1.mono hb hB, h2⟩
theorem QV.le {w : World} {v : Value} {q : Rat} {m k : Nat} (h : QV w v q m) (hk : m ≤ k) : QV w v q k := by
 obtain ⟨p, d, h1, h2⟩ := h
 exact ⟨p, d, h1.le hk, h2⟩
theorem QV.of {w : World} {v : Value} {q : Rat} {m : Nat} (h : QIs w v q.num ((q.den : Nat) : Int) m) : QV w v q m :=
 ⟨_, _, h, (mul_den_num q).symm⟩
theorem rat_pos {d : Int} (h : 0 < d) : (0 : Rat) < (d : Rat) := Rat.intCast_pos.2 h
theorem mul_pos_iff {a d : Rat} (h : 0 < d) : 0 < a * d ↔ 0 < a := by
 constructor
 ·intro h1
  refine Rat.not_le.1 (fun h2 => ?_)
  have h3 := Rat.mul_nonneg (show 0 ≤ -a by grind) (Rat.le_of_lt h)
  have h4 : -a * d = -(a * d) := by grind
  rw [h4] at h3
  grind
 ·exact fun h1 => Rat.mul_pos h1 h
/-- how the reference compares -/
def cmpR (a b : Rat) : Int := if a < b then -1 else if a = b then 0 else 1
theorem sgZ_cmp {p q : Int} {d e : Int} {a b : Rat} (hd : 0 < d) (he : 0 < e) (hp : (p : Rat) = a * (d : Rat)) (hq : (q : Rat) = b * (e : Rat)) : sgZ (p * e - q * d) = cmpR a b := by
 have hde := Rat.mul_pos (rat_pos hd) (rat_pos he)
 have e1 : ((p * e - q * d : Int) : Rat) = (a - b) * ((d : Rat) * (e : Rat)) := by
  rw [Rat.intCast_sub, Rat.intCast_mul, Rat.intCast_mul, hp, hq]; grind
 generalize p * e - q * d = z at e1
 have h1 : 0 < z ↔ b < a := by
  have h2 := mul_pos_iff (a := a - b) hde
  rw [← e1, Rat.intCast_pos] at h2
  rw [h2]; constructor <;> intro h <;> grind
 have h2 : z < 0 ↔ a < b := by
  have h2 := mul_pos_iff (a := b - a) hde
  have e2 : (b - a) * ((d : Rat) * (e : Rat)) = ((-z : Int) : Rat) := by rw [Rat.intCast_neg, e1]; grind
  rw [e2, Rat.intCast_pos] at h2
  rw [show z < 0 ↔ 0 < -z by omega, h2]; constructor <;> intro h <;> grind
 unfold sgZ cmpR
 by_cases c1 : z < 0
 ·rw [if_pos c1, if_pos (h2.1 c1)]
 ·rw [if_neg c1, if_neg (fun h => c1 (h2.2 h))]
  by_cases c2 : z = 0
  ·have c3 : a = b := by
    have n1 : ¬ a < b := fun h => c1 (h2.2 h)
    have n2 : ¬ b < a := fun h => by have := h1.2 h; omega
    have := Rat.not_lt.1 n1
    have := Rat.not_lt.1 n2
    grind
   rw [if_pos c2, if_pos c3]
  ·have c3 : ¬ a = b := fun h => by
    have : b < a := h1.1 (by omega)
    rw [h] at this; exact absurd this Rat.lt_irrefl
   rw [if_neg c2, if_neg c3]
theorem qv_whole (v : Int) (w : World) (h1 : -9223372036854775808 ≤ v) (h2 : v < 9223372036854775808) :
  Calls Tryz.prog 16 #[.int .i64 v] w fun ex w' => ∃ r, ex = .returned r ∧ QV w' r (v : Rat) 5 ∧ Below w.heap.size w w' := by
 refine (whole_any v h1 h2 w).mono ?_
 rintro e w' ⟨r, rfl, hr, hb⟩
 exact ⟨r, rfl, ⟨v, 1, hr, by simp⟩, hb⟩
end Go.Proofs.YtdfkhbflcacbfaaGreat

/- The reference's fractions as rational numbers: Lowest, Over, DivQ, Make. -/
namespace Go.Proofs.YtdfkhbflcacbfaaGreat
open Go.RowKit
attribute [local go_sem ↓] Go.wp_at_zero Go.wp_at_succ
theorem qv_cmp (x y : Value) (a b : Rat) (k : Nat) (w : World) (hx : QV w x a k) (hy : QV w y b k) (hk : k ≤ 274877906940) :
  Calls Tryz.prog 13 #[x, y] w fun ex w' => ex = .returned (.int .i64 (cmpR a b)) ∧ Below w.heap.size w w' := by
 obtain ⟨p, d, h1, e1⟩ := hx
 obtain ⟨q, e, h2, e2⟩ := hy
 have g1 := h1.pos
 have g2 := h2.pos
 refine (qcmp_any x y p d q e k w h1 h2 hk).mono ?_
 rintro ex w' ⟨rfl, hb⟩
 exact ⟨by rw [sgZ_cmp g1 g2 e1 e2], hb⟩
end Go.Proofs.YtdfkhbflcacbfaaGreat

/- The reference's fractions as rational numbers: Lowest, Over, DivQ, Make. -/
namespace Go.Proofs.YtdfkhbflcacbfaaGreat
open Go.RowKit
attribute [local go_sem ↓] Go.wp_at_zero Go.wp_at_succ
theorem qv_mul (x y : Value) (a b : Rat) (k : Nat) (w : World) (hx : QV w x a k) (hy : QV w y b k) (hk : k ≤ 274877906940) :
  Calls Tryz.prog 14 #[x, y] w fun ex w' => ∃ r, ex = .returned r ∧ QV w' r (a * b) (2 * k) ∧ Below w.heap.size w w' := by
 obtain ⟨p, d, h1, e1⟩ := hx
 obtain ⟨q, e, h2, e2⟩ := hy
 refine (qmul_any x y p d q e k w h1 h2 hk).mono ?_
 rintro ex w' ⟨r, rfl, hr, hb⟩
 exact ⟨r, rfl, ⟨_, _, hr, by rw [Rat.intCast_mul, Rat.intCast_mul, e1, e2]; grind⟩, hb⟩
end Go.Proofs.YtdfkhbflcacbfaaGreat

/- Parts of a cut that are rectangles are parts of the turned cut that are rectangles. -/
namespace Go.Proofs.YtdfkhbflcacbfaaGreat
open Go.RowKit
theorem swT_swT (t : Tr) : swT (swT t) = t := rfl
theorem list_getD (S : List Tr) : (List.range S.length).map (fun i => S.getD i default) = S := by
 apply List.ext_getElem
 ·simp
 ·intro i h1 h2
  simp [h2]
theorem cut_nodup {S : List Tr} (h : CutOK S) : S.Nodup := by
 refine List.pairwise_iff_getElem.2 (fun i j hi hj hij e => ?_)
 have h1 := h.ap j i hij hj
 have h2 := h.rg j hj
 have e1 : S.getD i default = S[i] := by simp [hi]
 have e2 : S.getD j default = S[j] := by simp [hj]
 rw [e1, e2, e] at h1
 rw [e2] at h2
 have := h2.c0
 unfold ApT at h1
 omega
theorem prt_nodup {S : List Tr} {A : List Nat} (h : CutOK S) (hi : A.Pairwise (· < ·)) (hl : ∀ i, i ∈ A → i < S.length) : (prt S A).Nodup := by
 unfold prt
 refine List.pairwise_map.2 (List.Pairwise.imp_of_mem (fun {i j} hi' hj' hij e => ?_) hi)
 have := h.ap j i hij (hl j hj')
 rw [e] at this
 have := (h.rg j (hl j hj')).c0
 rename_i q
 unfold ApT at q
 omega
theorem cand_swap {S S' : List Tr} {A : List Nat} (hC : CutOK S) (hp : (S.map swT).Perm S') (h : CandR S A) : ∃ B, CandR S' B ∧ B.length = A.length := by
 obtain ⟨x, y, h⟩ := h
 have dec : DecidableEq Tr := fun a b => Classical.propDecidable (a = b)
 have hnd := cut_nodup hC
 have hinj : ∀ a b : Tr, swT a = swT b → a = b := fun a b e => by rw [← swT_swT a, ← swT_swT b, e]
 have hn2 : (S.map swT).Nodup := List.pairwise_map.2 (hnd.imp (fun hne e => hne (hinj _ _ e)))
 have hpn : ((prt S A).map swT).Nodup := List.pairwise_map.2 ((prt_nodup hC h.inc h.lt).imp (fun hne e => hne (hinj _ _ e)))
 obtain ⟨q, hq⟩ : ∃ q : Tr → Bool, q = fun t => decide (t ∈ (prt S A).map swT) := ⟨_, rfl⟩
 obtain ⟨B, hB⟩ : ∃ B, B = (List.range S'.length).filter (fun i => q (S'.getD i default)) := ⟨_, rfl⟩
 have e1 : prt S' B = S'.filter q := by
  unfold prt
  rw [hB]
  have := List.filter_map (f := fun i => S'.getD i default) (p := q) (l := List.range S'.length)
  rw [list_getD] at this
  rw [this]; rfl
 have e2 : ((prt S A).map swT).Perm (prt S' B) := by
  rw [e1]
  refine List.Perm.trans ?_ (hp.filter q)
  refine (List.perm_ext_iff_of_nodup hpn (hn2.filter _)).2 (fun t => ?_)
  rw [List.mem_filter, hq]
  simp only [decide_eq_true_eq]
  refine ⟨fun ht => ⟨?_, ht⟩, fun ht => ht.2⟩
  obtain ⟨s, hs, rfl⟩ := List.mem_map.1 ht
  unfold prt at hs
  obtain ⟨i, hi, rfl⟩ := List.mem_map.1 hs
  exact List.mem_map_of_mem (getD_memT (h.lt i hi))
 have hl : B.length = A.length := by
  have := e2.length_eq
  simpa [prt] using this.symm
 have hSl : S'.length = S.length := by
  have := hp.length_eq
  simpa using this.symm
 have hmem : ∀ i, i ∈ B → ∃ s, s ∈ prt S A ∧ S'.getD i default = swT s := fun i hi => by
  have : S'.getD i default ∈ prt S' B := List.mem_map_of_mem (f := fun i => S'.getD i default) hi
  obtain ⟨s, hs, e⟩ := List.mem_map.1 (e2.mem_iff.2 this)
  exact ⟨s, hs, e.symm⟩
 have hprt : ∀ s, s ∈ prt S A → x ≤ s.a ∧ y ≤ s.b := fun s hs => by
  unfold prt at hs
  obtain ⟨i, hi, rfl⟩ := List.mem_map.1 hs
  exact ⟨h.xl i hi, h.yl i hi⟩
 refine ⟨B, ⟨y, x, ?_, fun i hi => ?_, by rw [hl]; exact h.two, by rw [hl, hSl]; exact h.few, fun i hi => ?_, fun i hi => ?_, ?_⟩, hl⟩
 ·rw [hB]; exact (List.pairwise_lt_range).sublist List.filter_sublist
 ·rw [hB] at hi
  exact List.mem_range.1 (List.mem_filter.1 hi).1
 ·obtain ⟨s, hs, e⟩ := hmem i hi
  rw [e]; exact (hprt s hs).2
 ·obtain ⟨s, hs, e⟩ := hmem i hi
  rw [e]; exact (hprt s hs).1
 ·obtain ⟨W, H, hm⟩ := MkC.of_cut h.cut
  have h2 := hm.swap.perm (M := (prt S' B).map (shT y x)) (by
   have := e2.map (shT y x)
   rw [List.map_map] at this ⊢
   exact this)
  refine h2.cut ?_
  have := h.cut.few
  rw [prt_len] at this ⊢
  rw [hl]; exact this
theorem perm_back {S S' : List Tr} (hp : (S.map swT).Perm S') : (S'.map swT).Perm S := by
 have := hp.symm.map swT
 rw [List.map_map] at this
 have e : S.map (swT ∘ swT) = S := by
  rw [show (swT ∘ swT) = id from funext swT_swT, List.map_id]
 rw [e] at this
 exact this
/-- the least parts have equally many squares -/
theorem best_swap {S S' : List Tr} {A A' : List Nat} (hC : CutOK S) (hC' : CutOK S') (hp : (S.map swT).Perm S') (b : BestL (CandP S) A) (b' : BestL (CandP S') A') : A.length = A'.length := by
 have go : ∀ {S S' : List Tr} {A A' : List Nat}, CutOK S → CutOK S' → (S.map swT).Perm S' → BestL (CandP S) A → BestL (CandP S') A' → A ≠ [] → A' ≠ [] ∧ A'.length ≤ A.length := fun {S S' A A'} hC hC' hp b b' hA => by
  obtain ⟨B, h1, h2⟩ := cand_swap hC hp ((cand_iff hC A).1 (b.is hA))
  obtain ⟨h3, h4⟩ := b'.no B ((cand_iff hC' B).2 h1)
  refine ⟨h3, ?_⟩
  unfold ltA at h4
  omega
 by_cases e : A = []
 ·by_cases e' : A' = []
  ·rw [e, e']
  ·exact absurd e (go hC' hC (perm_back hp) b' b e').1
 ·obtain ⟨h1, h2⟩ := go hC hC' hp b b' e
  obtain ⟨_, h3⟩ := go hC' hC (perm_back hp) b' b h1
  omega
theorem dist_swap (L : List Tr) : DistS (L.map swT) ↔ DistS L := by
 have e : ∀ i, i < L.length → ((L.map swT).getD i default).c = (L.getD i default).c := fun i hi => by simp [hi, swT]
 unfold DistS
 constructor
 ·intro h i j hij hi
  have := h i j hij (by simpa using hi)
  rwa [e i hi, e j (by omega)] at this
 ·intro h i j hij hi
  have hi : i < L.length := by simpa using hi
  rw [e i hi, e j (by omega)]
  exact h i j hij hi
theorem recip {W H : Nat} (h1 : 1 ≤ W) (h2 : 1 ≤ H) : (((H : Nat) : Rat) / ((W : Nat) : Rat)) * (((W : Nat) : Rat) / ((H : Nat) : Rat)) = 1 := by
 have hw : ((W : Nat) : Rat) ≠ 0 := fun e => by
  have : W = 0 := by exact_mod_cast e
  omega
 have hh : ((H : Nat) : Rat) ≠ 0 := fun e => by
  have : H = 0 := by exact_mod_cast e
  omega
 have e1 := Rat.inv_mul_cancel _ hw
 have e2 := Rat.inv_mul_cancel _ hh
 rw [Rat.div_def, Rat.div_def]
 grind
end Go.Proofs.YtdfkhbflcacbfaaGreat
