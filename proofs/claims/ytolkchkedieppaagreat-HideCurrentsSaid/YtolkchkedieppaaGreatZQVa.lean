/- The reference's fractions: MulQ, AddQ, SubQ, CmpQ. (Printed by gen_big18.py.) -/
import Derived.Test.YtolkchkedieppaaGreatZQShp
import Derived.Test.YtolkchkedieppaaGreatZBig16
import Derived.Test.YtolkchkedieppaaGreatZRat4
import Derived.Test.YtolkchkedieppaaGreatZBig17
import Derived.Test.YtolkchkedieppaaGreatZRMat
import Derived.Test.YtolkchkedieppaaGreatZCurG
set_option linter.unusedVariables false
set_option linter.unusedSimpArgs false
namespace Go.Proofs.YtolkchkedieppaaGreat
open Go.RowKit
attribute [local go_sem ↓] Go.wp_at_zero Go.wp_at_succ
set_option maxHeartbeats 4000000 in
theorem qadd_any (x y : Value) (p d q e : Int) (k : Nat) (w : World) (hx : QIs w x p d k) (hy : QIs w y q e k) (hk : k ≤ 274877906940) :
  Calls Tryz.prog 81 #[x, y] w fun ex w' => ∃ r, ex = .returned r ∧ QIs w' r (p * e + q * d) (d * e) (2 * k + 1) ∧ Below w.heap.size w w' := by
 obtain ⟨s1, a1, n1, c1, t1, a2, n2, c2, rfl, HN1, HD1, hd1⟩ := hx.shape
 obtain ⟨s2, a3, n3, c3, t2, a4, n4, c4, rfl, HN2, HD2, hd2⟩ := hy.shape
 clear hx hy
 have KW : Hid (Below w.heap.size w (((w.alloc (Obj.cells #[.bool s1, .slice a1 n1 c1, .bool t1, .slice a2 n2 c2] 59)).alloc (Obj.cells #[.bool s2, .slice a3 n3 c3, .bool t2, .slice a4 n4 c4] 59)).alloc (Obj.cells #[.bool false, .slice none 0 0, .bool false, .slice none 0 0] 59))) := boxes3 w _ _ _
 have KN1 := Lib.hid (HN1.out.mono KW.out (Nat.le_refl _))
 have KD1 := Lib.hid (HD1.out.mono KW.out (Nat.le_refl _))
 have KN2 := Lib.hid (HN2.out.mono KW.out (Nat.le_refl _))
 have KD2 := Lib.hid (HD2.out.mono KW.out (Nat.le_refl _))
 have PO1 : Hid (Own4 (((w.alloc (Obj.cells #[.bool s1, .slice a1 n1 c1, .bool t1, .slice a2 n2 c2] 59)).alloc (Obj.cells #[.bool s2, .slice a3 n3 c3, .bool t2, .slice a4 n4 c4] 59)).alloc (Obj.cells #[.bool false, .slice none 0 0, .bool false, .slice none 0 0] 59)) w.heap.size (.bool s1) (.slice a1 n1 c1) (.bool t1) (.slice a2 n2 c2)) := ((own4_new _ _ rfl _ _ _ _ _).alloc _).alloc _
 have PO2 : Hid (Own4 (((w.alloc (Obj.cells #[.bool s1, .slice a1 n1 c1, .bool t1, .slice a2 n2 c2] 59)).alloc (Obj.cells #[.bool s2, .slice a3 n3 c3, .bool t2, .slice a4 n4 c4] 59)).alloc (Obj.cells #[.bool false, .slice none 0 0, .bool false, .slice none 0 0] 59)) (w.heap.size + 1) (.bool s2) (.slice a3 n3 c3) (.bool t2) (.slice a4 n4 c4)) := (own4_new _ _ (by simp) _ _ _ _ _).alloc _
 have PO3 : Hid (Own4 (((w.alloc (Obj.cells #[.bool s1, .slice a1 n1 c1, .bool t1, .slice a2 n2 c2] 59)).alloc (Obj.cells #[.bool s2, .slice a3 n3 c3, .bool t2, .slice a4 n4 c4] 59)).alloc (Obj.cells #[.bool false, .slice none 0 0, .bool false, .slice none 0 0] 59)) (w.heap.size + 1 + 1) (.bool false) (.slice none 0 0) (.bool false) (.slice none 0 0)) := own4_new _ _ (by simp) _ _ _ _ _
 obtain ⟨x10, x11, x12, x13, _, xl1⟩ := PO1.out
 obtain ⟨x20, x21, x22, x23, _, xl2⟩ := PO2.out
 obtain ⟨x30, x31, x32, x33, xf3, xl3⟩ := PO3.out
 have HP := Lib.hid (Int.mul_pos hd1 hd2)
 clear hd1 hd2 HN1 HD1 HN2 HD2
 go_enter Tryz.func81, Tryz.ntmps81
 go_wp2
 have PI1 := PO1
 have PI2 := PO2
 have KW := Lib.hid KW.out.drew
 have KN1 := Lib.hid KN1.out.drew
 have KD1 := Lib.hid KD1.out.drew
 have KN2 := Lib.hid KN2.out.drew
 have KD2 := Lib.hid KD2.out.drew
 have PO1 := Lib.hid PO1.out.drew
 have PO2 := Lib.hid PO2.out.drew
 have PO3 := Lib.hid PO3.out.drew
 go_region_held3 (fun wq => wq.cell? ⟨w.heap.size, 0, none⟩ = some (.bool s1) ∧ wq.cell? ⟨w.heap.size, 1, none⟩ = some (.slice a1 n1 c1) ∧ wq.cell? ⟨w.heap.size, 2, none⟩ = some (.bool t1) ∧ wq.cell? ⟨w.heap.size, 3, none⟩ = some (.slice a2 n2 c2) ∧ wq.cell? ⟨w.heap.size + 1, 0, none⟩ = some (.bool s2) ∧ wq.cell? ⟨w.heap.size + 1, 1, none⟩ = some (.slice a3 n3 c3) ∧ wq.cell? ⟨w.heap.size + 1, 2, none⟩ = some (.bool t2) ∧ wq.cell? ⟨w.heap.size + 1, 3, none⟩ = some (.slice a4 n4 c4)) (first | (with_reducible exact ⟨PI1.out.c0, PI1.out.c1, PI1.out.c2, PI1.out.c3, PI2.out.c0, PI2.out.c1, PI2.out.c2, PI2.out.c3⟩) | (with_reducible exact ⟨PO1.out.c0, PO1.out.c1, PO1.out.c2, PO1.out.c3, PO2.out.c0, PO2.out.c1, PO2.out.c2, PO2.out.c3⟩) | (with_reducible exact ⟨(PO1.out.set4 (w.heap.size + 1 + 1) _ _ _ _ (by omega)).c0, (PO1.out.set4 (w.heap.size + 1 + 1) _ _ _ _ (by omega)).c1, (PO1.out.set4 (w.heap.size + 1 + 1) _ _ _ _ (by omega)).c2, (PO1.out.set4 (w.heap.size + 1 + 1) _ _ _ _ (by omega)).c3, (PO2.out.set4 (w.heap.size + 1 + 1) _ _ _ _ (by omega)).c0, (PO2.out.set4 (w.heap.size + 1 + 1) _ _ _ _ (by omega)).c1, (PO2.out.set4 (w.heap.size + 1 + 1) _ _ _ _ (by omega)).c2, (PO2.out.set4 (w.heap.size + 1 + 1) _ _ _ _ (by omega)).c3⟩))
  (first
  | (go_at_call 129; (with_reducible refine (zmul_any _ _ (p) (e) k k _ KN1.out KD2.out (by omega)).mono ?_); rintro e w5 ⟨r5, rfl, hr5, hb5⟩; (try have KN1 := Lib.hid (KN1.out.mono hb5 (Nat.le_refl _))); (try have KD1 := Lib.hid (KD1.out.mono hb5 (Nat.le_refl _))); (try have KN2 := Lib.hid (KN2.out.mono hb5 (Nat.le_refl _))); (try have KD2 := Lib.hid (KD2.out.mono hb5 (Nat.le_refl _))); (try have KB := Lib.hid (KB.out.mono hb5 (Nat.le_refl _))); (try have KC := Lib.hid (KC.out.mono hb5 (Nat.le_refl _))); (try have KE := Lib.hid (KE.out.mono hb5 (Nat.le_refl _))); have PO1 := Lib.hid (PO1.out.below hb5 PO1.out.lt); have PO2 := Lib.hid (PO2.out.below hb5 PO2.out.lt); have PO3 := Lib.hid (PO3.out.below hb5 PO3.out.lt); have KW := Lib.hid (KW.out.trans (hb5.mono KW.out.size)); clear x10 x11 x12 x13 xl1 x20 x21 x22 x23 xl2 x30 x31 x32 x33 xf3 xl3; obtain ⟨x10, x11, x12, x13, _, xl1⟩ := PO1.out; obtain ⟨x20, x21, x22, x23, _, xl2⟩ := PO2.out; obtain ⟨x30, x31, x32, x33, xf3, xl3⟩ := PO3.out; obtain ⟨s5, a5, n5, c5, rfl, KA⟩ := hr5.shape; clear hr5)
  | (go_at_call 129; (with_reducible refine (zmul_any _ _ (q) (d) k k _ KN2.out KD1.out (by omega)).mono ?_); rintro e w6 ⟨r6, rfl, hr6, hb6⟩; (try have KN1 := Lib.hid (KN1.out.mono hb6 (Nat.le_refl _))); (try have KD1 := Lib.hid (KD1.out.mono hb6 (Nat.le_refl _))); (try have KN2 := Lib.hid (KN2.out.mono hb6 (Nat.le_refl _))); (try have KD2 := Lib.hid (KD2.out.mono hb6 (Nat.le_refl _))); (try have KA := Lib.hid (KA.out.mono hb6 (Nat.le_refl _))); (try have KC := Lib.hid (KC.out.mono hb6 (Nat.le_refl _))); (try have KE := Lib.hid (KE.out.mono hb6 (Nat.le_refl _))); have PO1 := Lib.hid (PO1.out.below hb6 PO1.out.lt); have PO2 := Lib.hid (PO2.out.below hb6 PO2.out.lt); have PO3 := Lib.hid (PO3.out.below hb6 PO3.out.lt); have KW := Lib.hid (KW.out.trans (hb6.mono KW.out.size)); clear x10 x11 x12 x13 xl1 x20 x21 x22 x23 xl2 x30 x31 x32 x33 xf3 xl3; obtain ⟨x10, x11, x12, x13, _, xl1⟩ := PO1.out; obtain ⟨x20, x21, x22, x23, _, xl2⟩ := PO2.out; obtain ⟨x30, x31, x32, x33, xf3, xl3⟩ := PO3.out; obtain ⟨s6, a6, n6, c6, rfl, KB⟩ := hr6.shape; clear hr6)
  | (go_at_call 129; (with_reducible refine (zmul_any _ _ (d) (e) k k _ KD1.out KD2.out (by omega)).mono ?_); rintro e w7 ⟨r7, rfl, hr7, hb7⟩; (try have KN1 := Lib.hid (KN1.out.mono hb7 (Nat.le_refl _))); (try have KD1 := Lib.hid (KD1.out.mono hb7 (Nat.le_refl _))); (try have KN2 := Lib.hid (KN2.out.mono hb7 (Nat.le_refl _))); (try have KD2 := Lib.hid (KD2.out.mono hb7 (Nat.le_refl _))); (try have KA := Lib.hid (KA.out.mono hb7 (Nat.le_refl _))); (try have KB := Lib.hid (KB.out.mono hb7 (Nat.le_refl _))); (try have KE := Lib.hid (KE.out.mono hb7 (Nat.le_refl _))); have PO1 := Lib.hid (PO1.out.below hb7 PO1.out.lt); have PO2 := Lib.hid (PO2.out.below hb7 PO2.out.lt); have PO3 := Lib.hid (PO3.out.below hb7 PO3.out.lt); have KW := Lib.hid (KW.out.trans (hb7.mono KW.out.size)); clear x10 x11 x12 x13 xl1 x20 x21 x22 x23 xl2 x30 x31 x32 x33 xf3 xl3; obtain ⟨x10, x11, x12, x13, _, xl1⟩ := PO1.out; obtain ⟨x20, x21, x22, x23, _, xl2⟩ := PO2.out; obtain ⟨x30, x31, x32, x33, xf3, xl3⟩ := PO3.out; obtain ⟨s7, a7, n7, c7, rfl, KC⟩ := hr7.shape; clear hr7)
  | (go_at_call 128; (with_reducible refine (badd_any _ _ (p * e) (q * d) (k + k) _ KA.out KB.out (by omega)).mono ?_); rintro e w8 ⟨r8, rfl, hr8, hb8⟩; (try have KN1 := Lib.hid (KN1.out.mono hb8 (Nat.le_refl _))); (try have KD1 := Lib.hid (KD1.out.mono hb8 (Nat.le_refl _))); (try have KN2 := Lib.hid (KN2.out.mono hb8 (Nat.le_refl _))); (try have KD2 := Lib.hid (KD2.out.mono hb8 (Nat.le_refl _))); (try have KA := Lib.hid (KA.out.mono hb8 (Nat.le_refl _))); (try have KB := Lib.hid (KB.out.mono hb8 (Nat.le_refl _))); (try have KC := Lib.hid (KC.out.mono hb8 (Nat.le_refl _))); have PO1 := Lib.hid (PO1.out.below hb8 PO1.out.lt); have PO2 := Lib.hid (PO2.out.below hb8 PO2.out.lt); have PO3 := Lib.hid (PO3.out.below hb8 PO3.out.lt); have KW := Lib.hid (KW.out.trans (hb8.mono KW.out.size)); clear x10 x11 x12 x13 xl1 x20 x21 x22 x23 xl2 x30 x31 x32 x33 xf3 xl3; obtain ⟨x10, x11, x12, x13, _, xl1⟩ := PO1.out; obtain ⟨x20, x21, x22, x23, _, xl2⟩ := PO2.out; obtain ⟨x30, x31, x32, x33, xf3, xl3⟩ := PO3.out; obtain ⟨s8, a8, n8, c8, rfl, KE⟩ := hr8.shape; clear hr8))
 all_goals (try go_wp2)
 all_goals
  refine bodyPost_ret (v := .agg #[.bool s8, .slice a8 n8 c8, .bool s7, .slice a7 n7 c7]) (by simp [results, Tryz.results81, go_sem, x30, x31, x32, x33, xf3]) rfl ?_
  exact ⟨_, rfl, ⟨_, _, _, _, rfl, (KE.out.le (by omega)).store4 PO3.out _ _ _ _, (KC.out.le (by omega)).store4 PO3.out _ _ _ _, HP.out⟩, below_set4q KW.out (by omega) _ _ _ _⟩
set_option maxHeartbeats 4000000 in
theorem qsub_any (x y : Value) (p d q e : Int) (k : Nat) (w : World) (hx : QIs w x p d k) (hy : QIs w y q e k) (hk : k ≤ 274877906940) :
  Calls Tryz.prog 82 #[x, y] w fun ex w' => ∃ r, ex = .returned r ∧ QIs w' r (p * e - q * d) (d * e) (2 * k + 1) ∧ Below w.heap.size w w' := by
 obtain ⟨s1, a1, n1, c1, t1, a2, n2, c2, rfl, HN1, HD1, hd1⟩ := hx.shape
 obtain ⟨s2, a3, n3, c3, t2, a4, n4, c4, rfl, HN2, HD2, hd2⟩ := hy.shape
 clear hx hy
 have KW : Hid (Below w.heap.size w (((w.alloc (Obj.cells #[.bool s1, .slice a1 n1 c1, .bool t1, .slice a2 n2 c2] 59)).alloc (Obj.cells #[.bool s2, .slice a3 n3 c3, .bool t2, .slice a4 n4 c4] 59)).alloc (Obj.cells #[.bool false, .slice none 0 0, .bool false, .slice none 0 0] 59))) := boxes3 w _ _ _
 have KN1 := Lib.hid (HN1.out.mono KW.out (Nat.le_refl _))
 have KD1 := Lib.hid (HD1.out.mono KW.out (Nat.le_refl _))
 have KN2 := Lib.hid (HN2.out.mono KW.out (Nat.le_refl _))
 have KD2 := Lib.hid (HD2.out.mono KW.out (Nat.le_refl _))
 have PO1 : Hid (Own4 (((w.alloc (Obj.cells #[.bool s1, .slice a1 n1 c1, .bool t1, .slice a2 n2 c2] 59)).alloc (Obj.cells #[.bool s2, .slice a3 n3 c3, .bool t2, .slice a4 n4 c4] 59)).alloc (Obj.cells #[.bool false, .slice none 0 0, .bool false, .slice none 0 0] 59)) w.heap.size (.bool s1) (.slice a1 n1 c1) (.bool t1) (.slice a2 n2 c2)) := ((own4_new _ _ rfl _ _ _ _ _).alloc _).alloc _
 have PO2 : Hid (Own4 (((w.alloc (Obj.cells #[.bool s1, .slice a1 n1 c1, .bool t1, .slice a2 n2 c2] 59)).alloc (Obj.cells #[.bool s2, .slice a3 n3 c3, .bool t2, .slice a4 n4 c4] 59)).alloc (Obj.cells #[.bool false, .slice none 0 0, .bool false, .slice none 0 0] 59)) (w.heap.size + 1) (.bool s2) (.slice a3 n3 c3) (.bool t2) (.slice a4 n4 c4)) := (own4_new _ _ (by simp) _ _ _ _ _).alloc _
 have PO3 : Hid (Own4 (((w.alloc (Obj.cells #[.bool s1, .slice a1 n1 c1, .bool t1, .slice a2 n2 c2] 59)).alloc (Obj.cells #[.bool s2, .slice a3 n3 c3, .bool t2, .slice a4 n4 c4] 59)).alloc (Obj.cells #[.bool false, .slice none 0 0, .bool false, .slice none 0 0] 59)) (w.heap.size + 1 + 1) (.bool false) (.slice none 0 0) (.bool false) (.slice none 0 0)) := own4_new _ _ (by simp) _ _ _ _ _
 obtain ⟨x10, x11, x12, x13, _, xl1⟩ := PO1.out
 obtain ⟨x20, x21, x22, x23, _, xl2⟩ := PO2.out
 obtain ⟨x30, x31, x32, x33, xf3, xl3⟩ := PO3.out
 have HP := Lib.hid (Int.mul_pos hd1 hd2)
 clear hd1 hd2 HN1 HD1 HN2 HD2
 go_enter Tryz.func82, Tryz.ntmps82
 go_wp2
 have PI1 := PO1
 have PI2 := PO2
 have KW := Lib.hid KW.out.drew
 have KN1 := Lib.hid KN1.out.drew
 have KD1 := Lib.hid KD1.out.drew
 have KN2 := Lib.hid KN2.out.drew
 have KD2 := Lib.hid KD2.out.drew
 have PO1 := Lib.hid PO1.out.drew
 have PO2 := Lib.hid PO2.out.drew
 have PO3 := Lib.hid PO3.out.drew
 go_region_held3 (fun wq => wq.cell? ⟨w.heap.size, 0, none⟩ = some (.bool s1) ∧ wq.cell? ⟨w.heap.size, 1, none⟩ = some (.slice a1 n1 c1) ∧ wq.cell? ⟨w.heap.size, 2, none⟩ = some (.bool t1) ∧ wq.cell? ⟨w.heap.size, 3, none⟩ = some (.slice a2 n2 c2) ∧ wq.cell? ⟨w.heap.size + 1, 0, none⟩ = some (.bool s2) ∧ wq.cell? ⟨w.heap.size + 1, 1, none⟩ = some (.slice a3 n3 c3) ∧ wq.cell? ⟨w.heap.size + 1, 2, none⟩ = some (.bool t2) ∧ wq.cell? ⟨w.heap.size + 1, 3, none⟩ = some (.slice a4 n4 c4)) (first | (with_reducible exact ⟨PI1.out.c0, PI1.out.c1, PI1.out.c2, PI1.out.c3, PI2.out.c0, PI2.out.c1, PI2.out.c2, PI2.out.c3⟩) | (with_reducible exact ⟨PO1.out.c0, PO1.out.c1, PO1.out.c2, PO1.out.c3, PO2.out.c0, PO2.out.c1, PO2.out.c2, PO2.out.c3⟩) | (with_reducible exact ⟨(PO1.out.set4 (w.heap.size + 1 + 1) _ _ _ _ (by omega)).c0, (PO1.out.set4 (w.heap.size + 1 + 1) _ _ _ _ (by omega)).c1, (PO1.out.set4 (w.heap.size + 1 + 1) _ _ _ _ (by omega)).c2, (PO1.out.set4 (w.heap.size + 1 + 1) _ _ _ _ (by omega)).c3, (PO2.out.set4 (w.heap.size + 1 + 1) _ _ _ _ (by omega)).c0, (PO2.out.set4 (w.heap.size + 1 + 1) _ _ _ _ (by omega)).c1, (PO2.out.set4 (w.heap.size + 1 + 1) _ _ _ _ (by omega)).c2, (PO2.out.set4 (w.heap.size + 1 + 1) _ _ _ _ (by omega)).c3⟩))
  (first
  | (go_at_call 129; (with_reducible refine (zmul_any _ _ (p) (e) k k _ KN1.out KD2.out (by omega)).mono ?_); rintro e w5 ⟨r5, rfl, hr5, hb5⟩; (try have KN1 := Lib.hid (KN1.out.mono hb5 (Nat.le_refl _))); (try have KD1 := Lib.hid (KD1.out.mono hb5 (Nat.le_refl _))); (try have KN2 := Lib.hid (KN2.out.mono hb5 (Nat.le_refl _))); (try have KD2 := Lib.hid (KD2.out.mono hb5 (Nat.le_refl _))); (try have KB := Lib.hid (KB.out.mono hb5 (Nat.le_refl _))); (try have KC := Lib.hid (KC.out.mono hb5 (Nat.le_refl _))); (try have KE := Lib.hid (KE.out.mono hb5 (Nat.le_refl _))); have PO1 := Lib.hid (PO1.out.below hb5 PO1.out.lt); have PO2 := Lib.hid (PO2.out.below hb5 PO2.out.lt); have PO3 := Lib.hid (PO3.out.below hb5 PO3.out.lt); have KW := Lib.hid (KW.out.trans (hb5.mono KW.out.size)); clear x10 x11 x12 x13 xl1 x20 x21 x22 x23 xl2 x30 x31 x32 x33 xf3 xl3; obtain ⟨x10, x11, x12, x13, _, xl1⟩ := PO1.out; obtain ⟨x20, x21, x22, x23, _, xl2⟩ := PO2.out; obtain ⟨x30, x31, x32, x33, xf3, xl3⟩ := PO3.out; obtain ⟨s5, a5, n5, c5, rfl, KA⟩ := hr5.shape; clear hr5)
  | (go_at_call 129; (with_reducible refine (zmul_any _ _ (q) (d) k k _ KN2.out KD1.out (by omega)).mono ?_); rintro e w6 ⟨r6, rfl, hr6, hb6⟩; (try have KN1 := Lib.hid (KN1.out.mono hb6 (Nat.le_refl _))); (try have KD1 := Lib.hid (KD1.out.mono hb6 (Nat.le_refl _))); (try have KN2 := Lib.hid (KN2.out.mono hb6 (Nat.le_refl _))); (try have KD2 := Lib.hid (KD2.out.mono hb6 (Nat.le_refl _))); (try have KA := Lib.hid (KA.out.mono hb6 (Nat.le_refl _))); (try have KC := Lib.hid (KC.out.mono hb6 (Nat.le_refl _))); (try have KE := Lib.hid (KE.out.mono hb6 (Nat.le_refl _))); have PO1 := Lib.hid (PO1.out.below hb6 PO1.out.lt); have PO2 := Lib.hid (PO2.out.below hb6 PO2.out.lt); have PO3 := Lib.hid (PO3.out.below hb6 PO3.out.lt); have KW := Lib.hid (KW.out.trans (hb6.mono KW.out.size)); clear x10 x11 x12 x13 xl1 x20 x21 x22 x23 xl2 x30 x31 x32 x33 xf3 xl3; obtain ⟨x10, x11, x12, x13, _, xl1⟩ := PO1.out; obtain ⟨x20, x21, x22, x23, _, xl2⟩ := PO2.out; obtain ⟨x30, x31, x32, x33, xf3, xl3⟩ := PO3.out; obtain ⟨s6, a6, n6, c6, rfl, KB⟩ := hr6.shape; clear hr6)
  | (go_at_call 129; (with_reducible refine (zmul_any _ _ (d) (e) k k _ KD1.out KD2.out (by omega)).mono ?_); rintro e w7 ⟨r7, rfl, hr7, hb7⟩; (try have KN1 := Lib.hid (KN1.out.mono hb7 (Nat.le_refl _))); (try have KD1 := Lib.hid (KD1.out.mono hb7 (Nat.le_refl _))); (try have KN2 := Lib.hid (KN2.out.mono hb7 (Nat.le_refl _))); (try have KD2 := Lib.hid (KD2.out.mono hb7 (Nat.le_refl _))); (try have KA := Lib.hid (KA.out.mono hb7 (Nat.le_refl _))); (try have KB := Lib.hid (KB.out.mono hb7 (Nat.le_refl _))); (try have KE := Lib.hid (KE.out.mono hb7 (Nat.le_refl _))); have PO1 := Lib.hid (PO1.out.below hb7 PO1.out.lt); have PO2 := Lib.hid (PO2.out.below hb7 PO2.out.lt); have PO3 := Lib.hid (PO3.out.below hb7 PO3.out.lt); have KW := Lib.hid (KW.out.trans (hb7.mono KW.out.size)); clear x10 x11 x12 x13 xl1 x20 x21 x22 x23 xl2 x30 x31 x32 x33 xf3 xl3; obtain ⟨x10, x11, x12, x13, _, xl1⟩ := PO1.out; obtain ⟨x20, x21, x22, x23, _, xl2⟩ := PO2.out; obtain ⟨x30, x31, x32, x33, xf3, xl3⟩ := PO3.out; obtain ⟨s7, a7, n7, c7, rfl, KC⟩ := hr7.shape; clear hr7)
  | (go_at_call 130; (with_reducible refine (bsub_any _ _ (p * e) (q * d) (k + k) _ KA.out KB.out (by omega)).mono ?_); rintro e w8 ⟨r8, rfl, hr8, hb8⟩; (try have KN1 := Lib.hid (KN1.out.mono hb8 (Nat.le_refl _))); (try have KD1 := Lib.hid (KD1.out.mono hb8 (Nat.le_refl _))); (try have KN2 := Lib.hid (KN2.out.mono hb8 (Nat.le_refl _))); (try have KD2 := Lib.hid (KD2.out.mono hb8 (Nat.le_refl _))); (try have KA := Lib.hid (KA.out.mono hb8 (Nat.le_refl _))); (try have KB := Lib.hid (KB.out.mono hb8 (Nat.le_refl _))); (try have KC := Lib.hid (KC.out.mono hb8 (Nat.le_refl _))); have PO1 := Lib.hid (PO1.out.below hb8 PO1.out.lt); have PO2 := Lib.hid (PO2.out.below hb8 PO2.out.lt); have PO3 := Lib.hid (PO3.out.below hb8 PO3.out.lt); have KW := Lib.hid (KW.out.trans (hb8.mono KW.out.size)); clear x10 x11 x12 x13 xl1 x20 x21 x22 x23 xl2 x30 x31 x32 x33 xf3 xl3; obtain ⟨x10, x11, x12, x13, _, xl1⟩ := PO1.out; obtain ⟨x20, x21, x22, x23, _, xl2⟩ := PO2.out; obtain ⟨x30, x31, x32, x33, xf3, xl3⟩ := PO3.out; obtain ⟨s8, a8, n8, c8, rfl, KE⟩ := hr8.shape; clear hr8))
 all_goals (try go_wp2)
 all_goals
  refine bodyPost_ret (v := .agg #[.bool s8, .slice a8 n8 c8, .bool s7, .slice a7 n7 c7]) (by simp [results, Tryz.results82, go_sem, x30, x31, x32, x33, xf3]) rfl ?_
  exact ⟨_, rfl, ⟨_, _, _, _, rfl, (KE.out.le (by omega)).store4 PO3.out _ _ _ _, (KC.out.le (by omega)).store4 PO3.out _ _ _ _, HP.out⟩, below_set4q KW.out (by omega) _ _ _ _⟩
set_option maxHeartbeats 4000000 in
theorem qcmp_any (x y : Value) (p d q e : Int) (k : Nat) (w : World) (hx : QIs w x p d k) (hy : QIs w y q e k) (hk : k ≤ 274877906940) :
  Calls Tryz.prog 85 #[x, y] w fun ex w' => ex = .returned (.int .i64 (sgZ (p * e - q * d))) ∧ Below w.heap.size w w' := by
 obtain ⟨s1, a1, n1, c1, t1, a2, n2, c2, rfl, HN1, HD1, hd1⟩ := hx.shape
 obtain ⟨s2, a3, n3, c3, t2, a4, n4, c4, rfl, HN2, HD2, hd2⟩ := hy.shape
 clear hx hy
 have KW : Hid (Below w.heap.size w ((w.alloc (Obj.cells #[.bool s1, .slice a1 n1 c1, .bool t1, .slice a2 n2 c2] 59)).alloc (Obj.cells #[.bool s2, .slice a3 n3 c3, .bool t2, .slice a4 n4 c4] 59))) := boxes2 w _ _
 have KN1 := Lib.hid (HN1.out.mono KW.out (Nat.le_refl _))
 have KD1 := Lib.hid (HD1.out.mono KW.out (Nat.le_refl _))
 have KN2 := Lib.hid (HN2.out.mono KW.out (Nat.le_refl _))
 have KD2 := Lib.hid (HD2.out.mono KW.out (Nat.le_refl _))
 have PO1 : Hid (Own4 ((w.alloc (Obj.cells #[.bool s1, .slice a1 n1 c1, .bool t1, .slice a2 n2 c2] 59)).alloc (Obj.cells #[.bool s2, .slice a3 n3 c3, .bool t2, .slice a4 n4 c4] 59)) w.heap.size (.bool s1) (.slice a1 n1 c1) (.bool t1) (.slice a2 n2 c2)) := (own4_new _ _ rfl _ _ _ _ _).alloc _
 have PO2 : Hid (Own4 ((w.alloc (Obj.cells #[.bool s1, .slice a1 n1 c1, .bool t1, .slice a2 n2 c2] 59)).alloc (Obj.cells #[.bool s2, .slice a3 n3 c3, .bool t2, .slice a4 n4 c4] 59)) (w.heap.size + 1) (.bool s2) (.slice a3 n3 c3) (.bool t2) (.slice a4 n4 c4)) := own4_new _ _ (by simp) _ _ _ _ _
 obtain ⟨x10, x11, x12, x13, _, xl1⟩ := PO1.out
 obtain ⟨x20, x21, x22, x23, _, xl2⟩ := PO2.out
 have HP := Lib.hid (Int.mul_pos hd1 hd2)
 clear hd1 hd2 HN1 HD1 HN2 HD2
 go_enter Tryz.func85, Tryz.ntmps85
 go_wp2
 have PI1 := PO1
 have PI2 := PO2
 have KW := Lib.hid KW.out.drew
 have KN1 := Lib.hid KN1.out.drew
 have KD1 := Lib.hid KD1.out.drew
 have KN2 := Lib.hid KN2.out.drew
 have KD2 := Lib.hid KD2.out.drew
 have PO1 := Lib.hid PO1.out.drew
 have PO2 := Lib.hid PO2.out.drew
 go_region_held3 (fun wq => wq.cell? ⟨w.heap.size, 0, none⟩ = some (.bool s1) ∧ wq.cell? ⟨w.heap.size, 1, none⟩ = some (.slice a1 n1 c1) ∧ wq.cell? ⟨w.heap.size, 2, none⟩ = some (.bool t1) ∧ wq.cell? ⟨w.heap.size, 3, none⟩ = some (.slice a2 n2 c2) ∧ wq.cell? ⟨w.heap.size + 1, 0, none⟩ = some (.bool s2) ∧ wq.cell? ⟨w.heap.size + 1, 1, none⟩ = some (.slice a3 n3 c3) ∧ wq.cell? ⟨w.heap.size + 1, 2, none⟩ = some (.bool t2) ∧ wq.cell? ⟨w.heap.size + 1, 3, none⟩ = some (.slice a4 n4 c4)) (first | (with_reducible exact ⟨PI1.out.c0, PI1.out.c1, PI1.out.c2, PI1.out.c3, PI2.out.c0, PI2.out.c1, PI2.out.c2, PI2.out.c3⟩) | (with_reducible exact ⟨PO1.out.c0, PO1.out.c1, PO1.out.c2, PO1.out.c3, PO2.out.c0, PO2.out.c1, PO2.out.c2, PO2.out.c3⟩) | (with_reducible exact ⟨(PO1.out.set4 (w.heap.size + 1 + 1) _ _ _ _ (by omega)).c0, (PO1.out.set4 (w.heap.size + 1 + 1) _ _ _ _ (by omega)).c1, (PO1.out.set4 (w.heap.size + 1 + 1) _ _ _ _ (by omega)).c2, (PO1.out.set4 (w.heap.size + 1 + 1) _ _ _ _ (by omega)).c3, (PO2.out.set4 (w.heap.size + 1 + 1) _ _ _ _ (by omega)).c0, (PO2.out.set4 (w.heap.size + 1 + 1) _ _ _ _ (by omega)).c1, (PO2.out.set4 (w.heap.size + 1 + 1) _ _ _ _ (by omega)).c2, (PO2.out.set4 (w.heap.size + 1 + 1) _ _ _ _ (by omega)).c3⟩))
  (first
  | (go_at_call 129; (with_reducible refine (zmul_any _ _ (p) (e) k k _ KN1.out KD2.out (by omega)).mono ?_); rintro e w5 ⟨r5, rfl, hr5, hb5⟩; (try have KN1 := Lib.hid (KN1.out.mono hb5 (Nat.le_refl _))); (try have KD1 := Lib.hid (KD1.out.mono hb5 (Nat.le_refl _))); (try have KN2 := Lib.hid (KN2.out.mono hb5 (Nat.le_refl _))); (try have KD2 := Lib.hid (KD2.out.mono hb5 (Nat.le_refl _))); (try have KB := Lib.hid (KB.out.mono hb5 (Nat.le_refl _))); (try have KC := Lib.hid (KC.out.mono hb5 (Nat.le_refl _))); (try have KE := Lib.hid (KE.out.mono hb5 (Nat.le_refl _))); have PO1 := Lib.hid (PO1.out.below hb5 PO1.out.lt); have PO2 := Lib.hid (PO2.out.below hb5 PO2.out.lt); have KW := Lib.hid (KW.out.trans (hb5.mono KW.out.size)); clear x10 x11 x12 x13 xl1 x20 x21 x22 x23 xl2; obtain ⟨x10, x11, x12, x13, _, xl1⟩ := PO1.out; obtain ⟨x20, x21, x22, x23, _, xl2⟩ := PO2.out; obtain ⟨s5, a5, n5, c5, rfl, KA⟩ := hr5.shape; clear hr5)
  | (go_at_call 129; (with_reducible refine (zmul_any _ _ (q) (d) k k _ KN2.out KD1.out (by omega)).mono ?_); rintro e w6 ⟨r6, rfl, hr6, hb6⟩; (try have KN1 := Lib.hid (KN1.out.mono hb6 (Nat.le_refl _))); (try have KD1 := Lib.hid (KD1.out.mono hb6 (Nat.le_refl _))); (try have KN2 := Lib.hid (KN2.out.mono hb6 (Nat.le_refl _))); (try have KD2 := Lib.hid (KD2.out.mono hb6 (Nat.le_refl _))); (try have KA := Lib.hid (KA.out.mono hb6 (Nat.le_refl _))); (try have KC := Lib.hid (KC.out.mono hb6 (Nat.le_refl _))); (try have KE := Lib.hid (KE.out.mono hb6 (Nat.le_refl _))); have PO1 := Lib.hid (PO1.out.below hb6 PO1.out.lt); have PO2 := Lib.hid (PO2.out.below hb6 PO2.out.lt); have KW := Lib.hid (KW.out.trans (hb6.mono KW.out.size)); clear x10 x11 x12 x13 xl1 x20 x21 x22 x23 xl2; obtain ⟨x10, x11, x12, x13, _, xl1⟩ := PO1.out; obtain ⟨x20, x21, x22, x23, _, xl2⟩ := PO2.out; obtain ⟨s6, a6, n6, c6, rfl, KB⟩ := hr6.shape; clear hr6)
  | (go_at_call 86; (with_reducible refine (zcmp_any _ _ (p * e) (q * d) (k + k) _ KA.out KB.out (by omega)).mono ?_); rintro ex w9 ⟨rfl, hb9⟩; (try have KN1 := Lib.hid (KN1.out.mono hb9 (Nat.le_refl _))); (try have KD1 := Lib.hid (KD1.out.mono hb9 (Nat.le_refl _))); (try have KN2 := Lib.hid (KN2.out.mono hb9 (Nat.le_refl _))); (try have KD2 := Lib.hid (KD2.out.mono hb9 (Nat.le_refl _))); (try have KA := Lib.hid (KA.out.mono hb9 (Nat.le_refl _))); (try have KB := Lib.hid (KB.out.mono hb9 (Nat.le_refl _))); (try have KC := Lib.hid (KC.out.mono hb9 (Nat.le_refl _))); (try have KE := Lib.hid (KE.out.mono hb9 (Nat.le_refl _))); have PO1 := Lib.hid (PO1.out.below hb9 PO1.out.lt); have PO2 := Lib.hid (PO2.out.below hb9 PO2.out.lt); have KW := Lib.hid (KW.out.trans (hb9.mono KW.out.size)); clear x10 x11 x12 x13 xl1 x20 x21 x22 x23 xl2; obtain ⟨x10, x11, x12, x13, _, xl1⟩ := PO1.out; obtain ⟨x20, x21, x22, x23, _, xl2⟩ := PO2.out))
 all_goals (try go_wp2)
 all_goals
  go_ret
  exact ⟨rfl, KW.out⟩
end Go.Proofs.YtolkchkedieppaaGreat

/- The reference's fractions as rational numbers: Lowest, Over, DivQ, Make. -/
namespace Go.Proofs.YtolkchkedieppaaGreat
open Go.RowKit
attribute [local go_sem ↓] Go.wp_at_zero Go.wp_at_succ
/-- v is the fraction q, with at most m digits in each part -/
def QV (w : World) (v : Value) (q : Rat) (m : Nat) : Prop := ∃ p d : Int, QIs w v p d m ∧ (p : Rat) = q * (d : Rat)
theorem QIs.le {w : World} {v : Value} {p d : Int} {m k : Nat} (h : QIs w v p d m) (hk : m ≤ k) : QIs w v p d k := by
 obtain ⟨s1, u1, s2, u2, h0, h1, h2, h3⟩ := h
 exact ⟨s1, u1, s2, u2, h0, h1.le hk, h2.le hk, h3⟩
theorem QIs.pos {w : World} {v : Value} {p d : Int} {m : Nat} (h : QIs w v p d m) : 0 < d := by
 obtain ⟨s1, u1, s2, u2, h0, h1, h2, h3⟩ := h
 exact h3
theorem QV.mono {w w' : World} {v : Value} {q : Rat} {m B : Nat} (h : QV w v q m) (hb : Below B w w') (hB : w.heap.size ≤ B) : QV w' v q m := by
 obtain ⟨p, d, h1, h2⟩ := h
 exact ⟨p, d, h1.mono hb hB, h2⟩
theorem QV.le {w : World} {v : Value} {q : Rat} {m k : Nat} (h : QV w v q m) (hk : m ≤ k) : QV w v q k := by
 obtain ⟨p, d, h1, h2⟩ := h
 exact ⟨p, d, h1.le hk, h2⟩
theorem QV.of {w : World} {v : Value} {q : Rat} {m : Nat} (h : QIs w v q.num ((q.den : Nat) : Int) m) : QV w v q m :=
 ⟨_, _, h, (mul_den_num q).symm⟩
theorem QV.shape {w : World} {v : Value} {q : Rat} {m : Nat} (h : QV w v q m) : ∃ s a n c t b l e, v = .agg #[.bool s, .slice a n c, .bool t, .slice b l e] ∧ Hid (QV w (.agg #[.bool s, .slice a n c, .bool t, .slice b l e]) q m) := by
 obtain ⟨p, d, h1, h2⟩ := h
 obtain ⟨s, a, n, c, t, b, l, e, rfl, -, -, -⟩ := h1.shape
 exact ⟨s, a, n, c, t, b, l, e, rfl, p, d, h1, h2⟩
theorem rat_ne {d : Int} (h : 0 < d) : (d : Rat) ≠ 0 := fun e => by
 have : ((d : Int) : Rat) = ((0 : Int) : Rat) := e
 have := Rat.intCast_inj.1 this
 omega
theorem rat_pos {d : Int} (h : 0 < d) : (0 : Rat) < (d : Rat) := Rat.intCast_pos.2 h
theorem mul_pos_iff {a d : Rat} (h : 0 < d) : 0 < a * d ↔ 0 < a := by
 constructor
 ·intro h1
  refine Rat.not_le.1 (fun h2 => ?_)
  have h3 := Rat.mul_nonneg (show 0 ≤ -a by grind) (Rat.le_of_lt h)
  have h4 : -a * d = -(a * d) := by grind
  rw [h4] at h3
  grind
 ·exact fun h1 => Rat.mul_pos h1 h
/-- how the reference compares -/
def cmpR (a b : Rat) : Int := if a < b then -1 else if a = b then 0 else 1
theorem sgZ_cmp {p q : Int} {d e : Int} {a b : Rat} (hd : 0 < d) (he : 0 < e) (hp : (p : Rat) = a * (d : Rat)) (hq : (q : Rat) = b * (e : Rat)) : sgZ (p * e - q * d) = cmpR a b := by
 have hde := Rat.mul_pos (rat_pos hd) (rat_pos he)
 have e1 : ((p * e - q * d : Int) : Rat) = (a - b) * ((d : Rat) * (e : Rat)) := by
  rw [Rat.intCast_sub, Rat.intCast_mul, Rat.intCast_mul, hp, hq]; grind
 generalize p * e - q * d = z at e1
 have h1 : 0 < z ↔ b < a := by
  have h2 := mul_pos_iff (a := a - b) hde
  rw [← e1, Rat.intCast_pos] at h2
  rw [h2]; constructor <;> intro h <;> grind
 have h2 : z < 0 ↔ a < b := by
  have h2 := mul_pos_iff (a := b - a) hde
  have e2 : (b - a) * ((d : Rat) * (e : Rat)) = ((-z : Int) : Rat) := by rw [Rat.intCast_neg, e1]; grind
  rw [e2, Rat.intCast_pos] at h2
  rw [show z < 0 ↔ 0 < -z by omega, h2]; constructor <;> intro h <;> grind
 unfold sgZ cmpR
 by_cases c1 : z < 0
 ·rw [if_pos c1, if_pos (h2.1 c1)]
 ·rw [if_neg c1, if_neg (fun h => c1 (h2.2 h))]
  by_cases c2 : z = 0
  ·have c3 : a = b := by
    have n1 : ¬ a < b := fun h => c1 (h2.2 h)
    have n2 : ¬ b < a := fun h => by have := h1.2 h; omega
    have := Rat.not_lt.1 n1
    have := Rat.not_lt.1 n2
    grind
   rw [if_pos c2, if_pos c3]
  ·have c3 : ¬ a = b := fun h => by
    have : b < a := h1.1 (by omega)
    rw [h] at this; exact absurd this Rat.lt_irrefl
   rw [if_neg c2, if_neg c3]
theorem sgZ_cmp0 {p d : Int} {a : Rat} (hd : 0 < d) (hp : (p : Rat) = a * (d : Rat)) : sgZ p = cmpR a 0 := by
 have h := sgZ_cmp (p := p) (q := 0) (d := d) (e := 1) (a := a) (b := 0) hd (by omega) hp (by simp)
 simpa using h
theorem qv_whole (v : Int) (w : World) (h1 : -9223372036854775808 ≤ v) (h2 : v < 9223372036854775808) :
  Calls Tryz.prog 36 #[.int .i64 v] w fun ex w' => ∃ r, ex = .returned r ∧ QV w' r (v : Rat) 5 ∧ Below w.heap.size w w' := by
 refine (whole_any v h1 h2 w).mono ?_
 rintro e w' ⟨r, rfl, hr, hb⟩
 exact ⟨r, rfl, ⟨v, 1, hr, by simp⟩, hb⟩
set_option maxHeartbeats 4000000 in
theorem qlow_any (x : Value) (p d : Int) (k : Nat) (w : World) (hx : QIs w x p d k) (hk : k ≤ 274877906940) :
  Calls Tryz.prog 87 #[x] w fun ex w' => ∃ r, ex = .returned r ∧ QIs w' r (p / ((Int.gcd p d : Nat) : Int)) (d / ((Int.gcd p d : Nat) : Int)) k ∧ Below w.heap.size w w' := by
 obtain ⟨s1, a1, n1, c1, t1, a2, n2, c2, rfl, HN, HD, hd⟩ := hx.shape
 have bn := HN.out.digits
 have bd := HD.out.digits
 clear hx
 obtain ⟨G, hG⟩ : ∃ G, G = Int.gcd p d := ⟨_, rfl⟩
 have hGp : 0 < G := by rw [hG]; exact Int.gcd_pos_of_ne_zero_right p (by omega)
 have hGn : ((G : Nat) : Int) ∣ p := by rw [hG]; exact Int.gcd_dvd_left p d
 have hGd : ((G : Nat) : Int) ∣ d := by rw [hG]; exact Int.gcd_dvd_right p d
 have m1 : p % ((G : Nat) : Int) = 0 := Int.emod_eq_zero_of_dvd hGn
 have l1 : nd (p / ((G : Nat) : Int)).natAbs ≤ k := Nat.le_trans (nd_mono (by
  rw [Int.natAbs_ediv_of_dvd hGn]; exact Nat.div_le_self _ _)) bn
 have l2 : nd (d / ((G : Nat) : Int)).natAbs ≤ k := Nat.le_trans (nd_mono (by
  rw [Int.natAbs_ediv_of_dvd hGd]; exact Nat.div_le_self _ _)) bd
 have dp : 0 < d / ((G : Nat) : Int) := by
  obtain ⟨c, hc⟩ := hGd
  rw [hc, Int.mul_ediv_cancel_left _ (by omega)]
  refine Int.lt_of_not_ge (fun h => ?_)
  have : ((G : Nat) : Int) * c ≤ 0 := Int.mul_nonpos_of_nonneg_of_nonpos (by omega) h
  omega
 rw [← hG]
 have HG0 := Lib.hid hG
 have HL := Lib.hid (And.intro l1 l2)
 have HM := Lib.hid (Or.inr m1 : 0 ≤ p ∨ p % ((G : Nat) : Int) = 0)
 have HDP := Lib.hid dp
 have HD0 := Lib.hid hd
 have HGP : Hid ((0 : Int) < ((G : Nat) : Int)) := Lib.hid (by omega)
 clear hG hGn hGd m1 l1 l2 dp bn bd hd hGp
 have KW := Lib.hid (boxes2 w (Obj.cells #[.bool s1, .slice a1 n1 c1, .bool t1, .slice a2 n2 c2] 59) (Obj.cells #[.bool false, .slice none 0 0, .bool false, .slice none 0 0] 59))
 have HN := Lib.hid (HN.out.mono KW.out (Nat.le_refl _))
 have HD := Lib.hid (HD.out.mono KW.out (Nat.le_refl _))
 have P1 := Lib.hid ((own4_new w w.heap.size rfl (.bool s1) (.slice a1 n1 c1) (.bool t1) (.slice a2 n2 c2) 59).alloc (Obj.cells #[.bool false, .slice none 0 0, .bool false, .slice none 0 0] 59))
 have P2 := Lib.hid (own4_new (w.alloc (Obj.cells #[.bool s1, .slice a1 n1 c1, .bool t1, .slice a2 n2 c2] 59)) (w.heap.size + 1) (by simp) (.bool false) (.slice none 0 0) (.bool false) (.slice none 0 0) 59)
 obtain ⟨x10, x11, x12, x13, _, xl1⟩ := P1.out
 go_enter Tryz.func87, Tryz.ntmps87
 go_wp2_with fail
 refine (zgcd_any _ _ p d k _ HN.out HD.out (by omega)).mono ?_
 rintro e w1 ⟨g, rfl, hg, hb1⟩
 obtain ⟨sg, ag, ng, cg, rfl, HG⟩ := hg.shape
 rw [← HG0.out] at HG
 have hba := hb1.trans ((Below.refl w1.heap.size w1).alloc (Nat.le_refl _) (Obj.cells #[.bool sg, .slice ag ng cg] 57) |>.mono hb1.size)
 have KW := Lib.hid (KW.out.trans (hba.mono KW.out.size))
 have HN := Lib.hid (HN.out.mono hba (Nat.le_refl _))
 have HD := Lib.hid (HD.out.mono hba (Nat.le_refl _))
 have P1 := Lib.hid (P1.out.below hba P1.out.lt)
 have P2 := Lib.hid (P2.out.below hba P2.out.lt)
 have GB := Lib.hid (own2_new w1 w1.heap.size rfl (.bool sg) (.slice ag ng cg) 57)
 have HG := Lib.hid (HG.out.mono (boxes1 w1 (Obj.cells #[.bool sg, .slice ag ng cg] 57)) (Nat.le_refl _))
 clear hg hb1 hba x10 x11 x12 x13 xl1
 obtain ⟨x10, x11, x12, x13, _, xl1⟩ := P1.out
 obtain ⟨y0, y1, _, yl⟩ := GB.out
 go_wp2_with fail
 refine (zdivmod_any _ _ p ((G : Nat) : Int) k k _ HN.out HG.out HGP.out HM.out (by omega) (by omega)).mono ?_
 rintro e w2 ⟨u2, v2, rfl, hu, hv, hb2⟩
 obtain ⟨s3, a3, n3, c3, rfl, HU⟩ := (hu.tight HL.out.1).shape
 obtain ⟨s4, a4, n4, c4, rfl, -⟩ := hv.shape
 have hbb := boxes2 w2 (Obj.cells #[.bool s3, .slice a3 n3 c3] 57) (Obj.cells #[.bool s4, .slice a4 n4 c4] 57)
 have hba := hb2.trans (hbb.mono hb2.size)
 have KW := Lib.hid (KW.out.trans (hba.mono KW.out.size))
 have HD := Lib.hid (HD.out.mono hba (Nat.le_refl _))
 have P1 := Lib.hid (P1.out.below hba P1.out.lt)
 have P2 := Lib.hid (P2.out.below hba P2.out.lt)
 have GB := Lib.hid (GB.out.below hba GB.out.lt)
 have HG := Lib.hid (HG.out.mono hba (Nat.le_refl _))
 have HU := Lib.hid (HU.out.mono hbb (Nat.le_refl _))
 have NB := Lib.hid ((own2_new w2 w2.heap.size rfl (.bool s3) (.slice a3 n3 c3) 57).alloc (Obj.cells #[.bool s4, .slice a4 n4 c4] 57))
 clear hu hv hb2 hbb hba x10 x11 x12 x13 xl1 y0 y1 yl
 obtain ⟨x10, x11, x12, x13, _, xl1⟩ := P1.out
 obtain ⟨y0, y1, _, yl⟩ := GB.out
 go_wp2_with fail
 refine (zdivmod_any _ _ d ((G : Nat) : Int) k k _ HD.out HG.out HGP.out (.inl (by have := HD0.out; omega)) (by omega) (by omega)).mono ?_
 rintro e w3 ⟨u3, v3, rfl, hu, hv, hb3⟩
 obtain ⟨s5, a5, n5, c5, rfl, HV⟩ := (hu.tight HL.out.2).shape
 obtain ⟨s6, a6, n6, c6, rfl, -⟩ := hv.shape
 have hbb := boxes2 w3 (Obj.cells #[.bool s5, .slice a5 n5 c5] 57) (Obj.cells #[.bool s6, .slice a6 n6 c6] 57)
 have hba := hb3.trans (hbb.mono hb3.size)
 have KW := Lib.hid (KW.out.trans (hba.mono KW.out.size))
 have P2 := Lib.hid (P2.out.below hba P2.out.lt)
 have HU := Lib.hid (HU.out.mono hba (Nat.le_refl _))
 have NB := Lib.hid (NB.out.below hba NB.out.lt)
 have HV := Lib.hid (HV.out.mono hbb (Nat.le_refl _))
 have MB := Lib.hid ((own2_new w3 w3.heap.size rfl (.bool s5) (.slice a5 n5 c5) 57).alloc (Obj.cells #[.bool s6, .slice a6 n6 c6] 57))
 clear hu hv hb3 hbb hba x10 x11 x12 x13 xl1 y0 y1 yl HG GB HD P1
 obtain ⟨x0, x1, x2, x3, xf, xl⟩ := P2.out
 obtain ⟨y0, y1, _, yl⟩ := NB.out
 obtain ⟨z0, z1, _, zl⟩ := MB.out
 go_wp2_with fail
 refine bodyPost_ret (v := .agg #[.bool s3, .slice a3 n3 c3, .bool s5, .slice a5 n5 c5]) (by simp [results, Tryz.results87, go_sem, x0, x1, x2, x3, xf, xl]) rfl ?_
 exact ⟨_, rfl, ⟨_, _, _, _, rfl, HU.out.store4 P2.out _ _ _ _, HV.out.store4 P2.out _ _ _ _, HDP.out⟩, below_set4q KW.out (by omega) _ _ _ _⟩
end Go.Proofs.YtolkchkedieppaaGreat
