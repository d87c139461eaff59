/- The methods of Int of package num: Add, Sub, Mul, Cmp. -/
import Derived.Test.YtolkchkedieppaaGreatZInt1
import Derived.Deep.RegionHeld3
import Derived.Deep.DrawnRows
import Derived.Deep.LoopGhost
set_option linter.unusedVariables false
set_option linter.unusedSimpArgs false
namespace Go.Proofs.YtolkchkedieppaaGreat
open Go.RowKit
attribute [local go_sem ↓] Go.wp_at_zero Go.wp_at_succ
set_option maxHeartbeats 2000000 in
theorem add_same (u v : Value) (s t : Bool) (x y : Nat) (w : World) (hu : Mag w u x) (hv : Mag w v y)  (bx : nl x ≤ 549755813888) (b_y : nl y ≤ 549755813888) :
  Calls Tryz.prog 121 #[.agg #[.bool s, u], .agg #[.bool s, v]] w fun e w' => ∃ r, e = .returned (.agg #[.bool (s && decide (0 < x + y)), r]) ∧ Mag w' r (x + y) ∧ Below w.heap.size w w' := by
 have HU := Lib.hid hu
 have HV := Lib.hid hv
 obtain ⟨a1, b1, o1, c1, rfl, i1⟩ := hu
 obtain ⟨a2, b2, o2, c2, rfl, i2⟩ := hv
 have HB : Hid (Below w.heap.size w (((w.alloc (Obj.cells #[Value.bool s, Value.slice a1 (nl x) c1] 112)).alloc (Obj.cells #[Value.bool s, Value.slice a2 (nl y) c2] 112)).alloc (Obj.cells #[.bool false, .slice none 0 0] 112))) := boxes3 w _ _ _
 go_enter Tryz.func121, Tryz.ntmps121
 go_wp2
 go_region_held3 (fun w' => w'.cell? ⟨w.heap.size, 0, none⟩ = some (.bool s) ∧ w'.cell? ⟨w.heap.size, 1, none⟩ = some (.slice a1 (nl x) c1) ∧ w'.cell? ⟨w.heap.size + 1, 1, none⟩ = some (.slice a2 (nl y) c2)) (go_keep)
  (first
   | (go_at_call 148; refine (plus_any _ _ x y _ ((HU.out.mono HB.out (Nat.le_refl _)).drew) ((HV.out.mono HB.out (Nat.le_refl _)).drew) (by omega) (by omega)).mono ?_; rintro e w1 ⟨r, rfl, ⟨a3, b3, o3, c3, rfl, i3⟩, hb⟩; obtain ⟨q1, q2, q3, q4, q5, q6, hz1, HB1⟩ := kept3 (w := w) hb (by simp) (HB.out.drew))
   | (go_at_call 115; refine (made_any _ _ (x + y) _ ⟨a3, b3, o3, c3, rfl, i3⟩).mono ?_; rintro e w2 ⟨rfl, hm2, hb2⟩; obtain ⟨p1, p2, p3, p4, p5, p6, hz2, HB2⟩ := kept3 (w := w) hb2 hz1 HB1.out))
 go_wp2
 refine bodyPost_ret (v := .agg #[.bool (s && decide (0 < x + y)), .slice a3 (nl (x + y)) c3]) (by simp [results, Tryz.results121, go_sem, q1, q2, q3, q4, q5, q6, p1, p2, p3, p4, p5, p6]) rfl ?_
 exact ⟨_, rfl, hm2.store2 _ _ (v0 := .bool false) (v1 := .slice none 0 0) (by rw [p3, q3]; simp [go_sem]) (by rw [p3, q3]; simp [go_sem]) (noInt_bool _) (noInt_slice _ _ _), (HB2.out.setCell (by simp; omega) _).setCell (by simp; omega) _⟩
set_option maxHeartbeats 2000000 in
theorem add_tf_ge (u v : Value) (s t : Bool) (x y : Nat) (w : World) (hu : Mag w u x) (hv : Mag w v y) (hle : y ≤ x) (bx : nl x ≤ 549755813888) (b_y : nl y ≤ 549755813888) :
  Calls Tryz.prog 121 #[.agg #[.bool true, u], .agg #[.bool false, v]] w fun e w' => ∃ r, e = .returned (.agg #[.bool (true && decide (0 < x - y)), r]) ∧ Mag w' r (x - y) ∧ Below w.heap.size w w' := by
 have HU := Lib.hid hu
 have HV := Lib.hid hv
 obtain ⟨a1, b1, o1, c1, rfl, i1⟩ := hu
 obtain ⟨a2, b2, o2, c2, rfl, i2⟩ := hv
 have HB : Hid (Below w.heap.size w (((w.alloc (Obj.cells #[Value.bool true, Value.slice a1 (nl x) c1] 112)).alloc (Obj.cells #[Value.bool false, Value.slice a2 (nl y) c2] 112)).alloc (Obj.cells #[.bool false, .slice none 0 0] 112))) := boxes3 w _ _ _
 have HLE := Lib.hid hle
 have HCM := Lib.hid (fun W => compare_any (.slice a1 (nl x) c1) (.slice a2 (nl y) c2) x y W)
 have hcm : 0 ≤ cmpN x y := by unfold cmpN; rw [if_neg (by omega)]; split <;> omega
 clear hle
 go_enter Tryz.func121, Tryz.ntmps121
 go_wp2_with (go_at_call 142; refine (HCM.out _ (HU.out.mono HB.out (Nat.le_refl _)) (HV.out.mono HB.out (Nat.le_refl _)) (by omega) (by omega)).mono ?_; rintro e w' ⟨rfl, nd, rfl⟩)
 go_region_held3 (fun w' => w'.cell? ⟨w.heap.size, 0, none⟩ = some (.bool true) ∧ w'.cell? ⟨w.heap.size, 1, none⟩ = some (.slice a1 (nl x) c1) ∧ w'.cell? ⟨w.heap.size + 1, 1, none⟩ = some (.slice a2 (nl y) c2)) (go_keep)
  (first
   | (go_at_call 149; refine (minus_any _ _ x y _ (((HU.out.mono HB.out (Nat.le_refl _)).drawn (Drawn.of _ nd)).drew) (((HV.out.mono HB.out (Nat.le_refl _)).drawn (Drawn.of _ nd)).drew) HLE.out (by omega)).mono ?_; rintro e w1 ⟨r, rfl, ⟨a3, b3, o3, c3, rfl, i3⟩, hb⟩; obtain ⟨q1, q2, q3, q4, q5, q6, hz1, HB1⟩ := kept3 (w := w) hb (by simp) ((below_drawN HB.out nd).drew))
   | (go_at_call 115; refine (made_any _ _ (x - y) _ ⟨a3, b3, o3, c3, rfl, i3⟩).mono ?_; rintro e w2 ⟨rfl, hm2, hb2⟩; obtain ⟨p1, p2, p3, p4, p5, p6, hz2, HB2⟩ := kept3 (w := w) hb2 hz1 HB1.out))
 go_wp2
 refine bodyPost_ret (v := .agg #[.bool (true && decide (0 < x - y)), .slice a3 (nl (x - y)) c3]) (by simp [results, Tryz.results121, go_sem, q1, q2, q3, q4, q5, q6, p1, p2, p3, p4, p5, p6]) rfl ?_
 exact ⟨_, rfl, hm2.store2 _ _ (v0 := .bool false) (v1 := .slice none 0 0) (by rw [p3, q3]; simp [go_sem]) (by rw [p3, q3]; simp [go_sem]) (noInt_bool _) (noInt_slice _ _ _), (HB2.out.setCell (by simp; omega) _).setCell (by simp; omega) _⟩
set_option maxHeartbeats 2000000 in
theorem add_tf_lt (u v : Value) (s t : Bool) (x y : Nat) (w : World) (hu : Mag w u x) (hv : Mag w v y) (hle : x < y) (bx : nl x ≤ 549755813888) (b_y : nl y ≤ 549755813888) :
  Calls Tryz.prog 121 #[.agg #[.bool true, u], .agg #[.bool false, v]] w fun e w' => ∃ r, e = .returned (.agg #[.bool (false && decide (0 < y - x)), r]) ∧ Mag w' r (y - x) ∧ Below w.heap.size w w' := by
 have HU := Lib.hid hu
 have HV := Lib.hid hv
 obtain ⟨a1, b1, o1, c1, rfl, i1⟩ := hu
 obtain ⟨a2, b2, o2, c2, rfl, i2⟩ := hv
 have HB : Hid (Below w.heap.size w (((w.alloc (Obj.cells #[Value.bool true, Value.slice a1 (nl x) c1] 112)).alloc (Obj.cells #[Value.bool false, Value.slice a2 (nl y) c2] 112)).alloc (Obj.cells #[.bool false, .slice none 0 0] 112))) := boxes3 w _ _ _
 have HLE := Lib.hid hle
 have HCM := Lib.hid (fun W => compare_any (.slice a1 (nl x) c1) (.slice a2 (nl y) c2) x y W)
 have hcm : cmpN x y < 0 := by unfold cmpN; rw [if_pos (by omega)]; omega
 clear hle
 go_enter Tryz.func121, Tryz.ntmps121
 go_wp2_with (go_at_call 142; refine (HCM.out _ (HU.out.mono HB.out (Nat.le_refl _)) (HV.out.mono HB.out (Nat.le_refl _)) (by omega) (by omega)).mono ?_; rintro e w' ⟨rfl, nd, rfl⟩)
 go_region_held3 (fun w' => w'.cell? ⟨w.heap.size + 1, 0, none⟩ = some (.bool false) ∧ w'.cell? ⟨w.heap.size + 1, 1, none⟩ = some (.slice a2 (nl y) c2) ∧ w'.cell? ⟨w.heap.size, 1, none⟩ = some (.slice a1 (nl x) c1)) (go_keep)
  (first
   | (go_at_call 149; refine (minus_any _ _ y x _ (((HV.out.mono HB.out (Nat.le_refl _)).drawn (Drawn.of _ nd)).drew) (((HU.out.mono HB.out (Nat.le_refl _)).drawn (Drawn.of _ nd)).drew) (Nat.le_of_lt HLE.out) (by omega)).mono ?_; rintro e w1 ⟨r, rfl, ⟨a3, b3, o3, c3, rfl, i3⟩, hb⟩; obtain ⟨q1, q2, q3, q4, q5, q6, hz1, HB1⟩ := kept3 (w := w) hb (by simp) ((below_drawN HB.out nd).drew))
   | (go_at_call 115; refine (made_any _ _ (y - x) _ ⟨a3, b3, o3, c3, rfl, i3⟩).mono ?_; rintro e w2 ⟨rfl, hm2, hb2⟩; obtain ⟨p1, p2, p3, p4, p5, p6, hz2, HB2⟩ := kept3 (w := w) hb2 hz1 HB1.out))
 go_wp2
 refine bodyPost_ret (v := .agg #[.bool (false && decide (0 < y - x)), .slice a3 (nl (y - x)) c3]) (by simp [results, Tryz.results121, go_sem, q1, q2, q3, q4, q5, q6, p1, p2, p3, p4, p5, p6]) rfl ?_
 exact ⟨_, rfl, hm2.store2 _ _ (v0 := .bool false) (v1 := .slice none 0 0) (by rw [p3, q3]; simp [go_sem]) (by rw [p3, q3]; simp [go_sem]) (noInt_bool _) (noInt_slice _ _ _), (HB2.out.setCell (by simp; omega) _).setCell (by simp; omega) _⟩
set_option maxHeartbeats 2000000 in
theorem add_ft_ge (u v : Value) (s t : Bool) (x y : Nat) (w : World) (hu : Mag w u x) (hv : Mag w v y) (hle : y ≤ x) (bx : nl x ≤ 549755813888) (b_y : nl y ≤ 549755813888) :
  Calls Tryz.prog 121 #[.agg #[.bool false, u], .agg #[.bool true, v]] w fun e w' => ∃ r, e = .returned (.agg #[.bool (false && decide (0 < x - y)), r]) ∧ Mag w' r (x - y) ∧ Below w.heap.size w w' := by
 have HU := Lib.hid hu
 have HV := Lib.hid hv
 obtain ⟨a1, b1, o1, c1, rfl, i1⟩ := hu
 obtain ⟨a2, b2, o2, c2, rfl, i2⟩ := hv
 have HB : Hid (Below w.heap.size w (((w.alloc (Obj.cells #[Value.bool false, Value.slice a1 (nl x) c1] 112)).alloc (Obj.cells #[Value.bool true, Value.slice a2 (nl y) c2] 112)).alloc (Obj.cells #[.bool false, .slice none 0 0] 112))) := boxes3 w _ _ _
 have HLE := Lib.hid hle
 have HCM := Lib.hid (fun W => compare_any (.slice a1 (nl x) c1) (.slice a2 (nl y) c2) x y W)
 have hcm : 0 ≤ cmpN x y := by unfold cmpN; rw [if_neg (by omega)]; split <;> omega
 clear hle
 go_enter Tryz.func121, Tryz.ntmps121
 go_wp2_with (go_at_call 142; refine (HCM.out _ (HU.out.mono HB.out (Nat.le_refl _)) (HV.out.mono HB.out (Nat.le_refl _)) (by omega) (by omega)).mono ?_; rintro e w' ⟨rfl, nd, rfl⟩)
 go_region_held3 (fun w' => w'.cell? ⟨w.heap.size, 0, none⟩ = some (.bool false) ∧ w'.cell? ⟨w.heap.size, 1, none⟩ = some (.slice a1 (nl x) c1) ∧ w'.cell? ⟨w.heap.size + 1, 1, none⟩ = some (.slice a2 (nl y) c2)) (go_keep)
  (first
   | (go_at_call 149; refine (minus_any _ _ x y _ (((HU.out.mono HB.out (Nat.le_refl _)).drawn (Drawn.of _ nd)).drew) (((HV.out.mono HB.out (Nat.le_refl _)).drawn (Drawn.of _ nd)).drew) HLE.out (by omega)).mono ?_; rintro e w1 ⟨r, rfl, ⟨a3, b3, o3, c3, rfl, i3⟩, hb⟩; obtain ⟨q1, q2, q3, q4, q5, q6, hz1, HB1⟩ := kept3 (w := w) hb (by simp) ((below_drawN HB.out nd).drew))
   | (go_at_call 115; refine (made_any _ _ (x - y) _ ⟨a3, b3, o3, c3, rfl, i3⟩).mono ?_; rintro e w2 ⟨rfl, hm2, hb2⟩; obtain ⟨p1, p2, p3, p4, p5, p6, hz2, HB2⟩ := kept3 (w := w) hb2 hz1 HB1.out))
 go_wp2
 refine bodyPost_ret (v := .agg #[.bool (false && decide (0 < x - y)), .slice a3 (nl (x - y)) c3]) (by simp [results, Tryz.results121, go_sem, q1, q2, q3, q4, q5, q6, p1, p2, p3, p4, p5, p6]) rfl ?_
 exact ⟨_, rfl, hm2.store2 _ _ (v0 := .bool false) (v1 := .slice none 0 0) (by rw [p3, q3]; simp [go_sem]) (by rw [p3, q3]; simp [go_sem]) (noInt_bool _) (noInt_slice _ _ _), (HB2.out.setCell (by simp; omega) _).setCell (by simp; omega) _⟩
set_option maxHeartbeats 2000000 in
theorem add_ft_lt (u v : Value) (s t : Bool) (x y : Nat) (w : World) (hu : Mag w u x) (hv : Mag w v y) (hle : x < y) (bx : nl x ≤ 549755813888) (b_y : nl y ≤ 549755813888) :
  Calls Tryz.prog 121 #[.agg #[.bool false, u], .agg #[.bool true, v]] w fun e w' => ∃ r, e = .returned (.agg #[.bool (true && decide (0 < y - x)), r]) ∧ Mag w' r (y - x) ∧ Below w.heap.size w w' := by
 have HU := Lib.hid hu
 have HV := Lib.hid hv
 obtain ⟨a1, b1, o1, c1, rfl, i1⟩ := hu
 obtain ⟨a2, b2, o2, c2, rfl, i2⟩ := hv
 have HB : Hid (Below w.heap.size w (((w.alloc (Obj.cells #[Value.bool false, Value.slice a1 (nl x) c1] 112)).alloc (Obj.cells #[Value.bool true, Value.slice a2 (nl y) c2] 112)).alloc (Obj.cells #[.bool false, .slice none 0 0] 112))) := boxes3 w _ _ _
 have HLE := Lib.hid hle
 have HCM := Lib.hid (fun W => compare_any (.slice a1 (nl x) c1) (.slice a2 (nl y) c2) x y W)
 have hcm : cmpN x y < 0 := by unfold cmpN; rw [if_pos (by omega)]; omega
 clear hle
 go_enter Tryz.func121, Tryz.ntmps121
 go_wp2_with (go_at_call 142; refine (HCM.out _ (HU.out.mono HB.out (Nat.le_refl _)) (HV.out.mono HB.out (Nat.le_refl _)) (by omega) (by omega)).mono ?_; rintro e w' ⟨rfl, nd, rfl⟩)
 go_region_held3 (fun w' => w'.cell? ⟨w.heap.size + 1, 0, none⟩ = some (.bool true) ∧ w'.cell? ⟨w.heap.size + 1, 1, none⟩ = some (.slice a2 (nl y) c2) ∧ w'.cell? ⟨w.heap.size, 1, none⟩ = some (.slice a1 (nl x) c1)) (go_keep)
  (first
   | (go_at_call 149; refine (minus_any _ _ y x _ (((HV.out.mono HB.out (Nat.le_refl _)).drawn (Drawn.of _ nd)).drew) (((HU.out.mono HB.out (Nat.le_refl _)).drawn (Drawn.of _ nd)).drew) (Nat.le_of_lt HLE.out) (by omega)).mono ?_; rintro e w1 ⟨r, rfl, ⟨a3, b3, o3, c3, rfl, i3⟩, hb⟩; obtain ⟨q1, q2, q3, q4, q5, q6, hz1, HB1⟩ := kept3 (w := w) hb (by simp) ((below_drawN HB.out nd).drew))
   | (go_at_call 115; refine (made_any _ _ (y - x) _ ⟨a3, b3, o3, c3, rfl, i3⟩).mono ?_; rintro e w2 ⟨rfl, hm2, hb2⟩; obtain ⟨p1, p2, p3, p4, p5, p6, hz2, HB2⟩ := kept3 (w := w) hb2 hz1 HB1.out))
 go_wp2
 refine bodyPost_ret (v := .agg #[.bool (true && decide (0 < y - x)), .slice a3 (nl (y - x)) c3]) (by simp [results, Tryz.results121, go_sem, q1, q2, q3, q4, q5, q6, p1, p2, p3, p4, p5, p6]) rfl ?_
 exact ⟨_, rfl, hm2.store2 _ _ (v0 := .bool false) (v1 := .slice none 0 0) (by rw [p3, q3]; simp [go_sem]) (by rw [p3, q3]; simp [go_sem]) (noInt_bool _) (noInt_slice _ _ _), (HB2.out.setCell (by simp; omega) _).setCell (by simp; omega) _⟩
end Go.Proofs.YtolkchkedieppaaGreat

/- The methods of Int of package num: Add whole, Neg, Sub, Mul, Sign, Cmp. -/
namespace Go.Proofs.YtolkchkedieppaaGreat
open Go.RowKit
attribute [local go_sem ↓] Go.wp_at_zero Go.wp_at_succ
theorem IntIs.le {w : World} {v : Value} {z : Int} {m n : Nat} (h : IntIs w v z m) (hle : m ≤ n) : IntIs w v z n := by
 obtain ⟨u, rfl, h1, h2⟩ := h
 exact ⟨u, rfl, h1, Nat.le_trans h2 hle⟩
theorem IntIs.drawn {w w' : World} {v : Value} {z : Int} {m : Nat} (h : IntIs w v z m) (hd : Drawn w w') : IntIs w' v z m := by
 obtain ⟨u, rfl, h1, h2⟩ := h
 exact ⟨u, rfl, h1.drawn hd, h2⟩
theorem IntIs.store2 {w : World} {v : Value} {z : Int} {m b : Nat} (h : IntIs w v z m) (u0 u1 : Value) {v0 v1 : Value} (h0 : w.cell? ⟨b, 0, none⟩ = some v0) (h1 : w.cell? ⟨b, 1, none⟩ = some v1) (n0 : NoInt v0) (n1 : NoInt v1) :
  IntIs ((w.setCell ⟨b, 0, none⟩ u0).setCell ⟨b, 1, none⟩ u1) v z m := by
 obtain ⟨u, rfl, g1, g2⟩ := h
 exact ⟨u, rfl, g1.store2 u0 u1 h0 h1 n0 n1, g2⟩
theorem int_add (a b : Value) (p q : Int) (k : Nat) (w : World) (ha : IntIs w a p k) (hb : IntIs w b q k) (hk : k ≤ 549755813888) :
  Calls Tryz.prog 121 #[a, b] w fun e w' => ∃ r, e = .returned r ∧ IntIs w' r (p + q) (k + 1) ∧ Below w.heap.size w w' := by
 obtain ⟨u, rfl, hu, bu⟩ := ha
 obtain ⟨v, rfl, hv, bv⟩ := hb
 by_cases hp : p < 0 <;> by_cases hq : q < 0
 ·have e1 : decide (p < 0) = true := by simpa using hp
  have e2 : decide (q < 0) = true := by simpa using hq
  rw [e1, e2]
  refine (add_same u v true true _ _ w hu hv (by omega) (by omega)).mono ?_
  rintro e w' ⟨r, rfl, hr, hb⟩
  exact ⟨_, rfl, IntIs.mk (by simp [sgn]; omega) hr (nl_add _ _ _ bu bv), hb⟩
 ·have e1 : decide (p < 0) = true := by simpa using hp
  have e2 : decide (q < 0) = false := by simpa using hq
  rw [e1, e2]
  by_cases hle : q.natAbs ≤ p.natAbs
  ·refine (add_tf_ge u v true true _ _ w hu hv hle (by omega) (by omega)).mono ?_
   rintro e w' ⟨r, rfl, hr, hb⟩
   exact ⟨_, rfl, IntIs.mk (by simp [sgn]; omega) hr (Nat.le_trans (nl_mono (Nat.sub_le _ _)) (by omega)), hb⟩
  ·refine (add_tf_lt u v true true _ _ w hu hv (by omega) (by omega) (by omega)).mono ?_
   rintro e w' ⟨r, rfl, hr, hb⟩
   exact ⟨_, rfl, IntIs.mk (by simp [sgn]; omega) hr (Nat.le_trans (nl_mono (Nat.sub_le _ _)) (by omega)), hb⟩
 ·have e1 : decide (p < 0) = false := by simpa using hp
  have e2 : decide (q < 0) = true := by simpa using hq
  rw [e1, e2]
  by_cases hle : q.natAbs ≤ p.natAbs
  ·refine (add_ft_ge u v true true _ _ w hu hv hle (by omega) (by omega)).mono ?_
   rintro e w' ⟨r, rfl, hr, hb⟩
   exact ⟨_, rfl, IntIs.mk (by simp [sgn]; omega) hr (Nat.le_trans (nl_mono (Nat.sub_le _ _)) (by omega)), hb⟩
  ·refine (add_ft_lt u v true true _ _ w hu hv (by omega) (by omega) (by omega)).mono ?_
   rintro e w' ⟨r, rfl, hr, hb⟩
   exact ⟨_, rfl, IntIs.mk (by simp [sgn]; omega) hr (Nat.le_trans (nl_mono (Nat.sub_le _ _)) (by omega)), hb⟩
 ·have e1 : decide (p < 0) = false := by simpa using hp
  have e2 : decide (q < 0) = false := by simpa using hq
  rw [e1, e2]
  refine (add_same u v false true _ _ w hu hv (by omega) (by omega)).mono ?_
  rintro e w' ⟨r, rfl, hr, hb⟩
  exact ⟨_, rfl, IntIs.mk (by simp [sgn]; omega) hr (nl_add _ _ _ bu bv), hb⟩
set_option maxHeartbeats 1000000 in
theorem neg_any (u : Value) (s : Bool) (x : Nat) (w : World) (hu : Mag w u x) :
  Calls Tryz.prog 141 #[.agg #[.bool s, u]] w fun e w' => e = .returned (.agg #[.bool (!s && decide (0 < x)), u]) ∧ Mag w' u x ∧ Below w.heap.size w w' := by
 have HU := Lib.hid hu
 obtain ⟨a1, b1, o1, c1, rfl, i1⟩ := hu
 have HB : Hid (Below w.heap.size w ((w.alloc (Obj.cells #[Value.bool s, Value.slice a1 (nl x) c1] 112)).alloc (Obj.cells #[.bool false, .slice none 0 0] 112))) := boxes2 w _ _
 go_enter Tryz.func141, Tryz.ntmps141
 go_wp2_with (go_at_call 115; refine (made_any _ _ x _ (HU.out.mono HB.out (Nat.le_refl _))).mono ?_; rintro e w1 ⟨rfl, hm, hb⟩; have q1 := fun o => hb.cell (p := ⟨w.heap.size + 1, o, none⟩) (by simp); have q2 := fun o => hb.frozen (p := ⟨w.heap.size + 1, o, none⟩) (by simp); have hs1 : w.heap.size + 2 ≤ w1.heap.size := by (have := hb.size; simpa using this))
 refine bodyPost_ret (v := .agg #[.bool (!s && decide (0 < x)), .slice a1 (nl x) c1]) (by simp [results, Tryz.results141, go_sem, q1, q2]) rfl ?_
 have hbel := HB.out.trans (hb.mono (by simp; omega))
 exact ⟨rfl, hm.store2 _ _ (v0 := .bool false) (v1 := .slice none 0 0) (by rw [q1]; simp [go_sem]) (by rw [q1]; simp [go_sem]) (noInt_bool _) (noInt_slice _ _ _), (hbel.setCell (by simp) _).setCell (by simp) _⟩
theorem int_neg (a : Value) (p : Int) (k : Nat) (w : World) (ha : IntIs w a p k) :
  Calls Tryz.prog 141 #[a] w fun e w' => ∃ r, e = .returned r ∧ IntIs w' r (-p) k ∧ Below w.heap.size w w' := by
 obtain ⟨u, rfl, hu, bu⟩ := ha
 refine (neg_any u _ _ w hu).mono ?_
 rintro e w' ⟨rfl, hm, hb⟩
 refine ⟨_, rfl, IntIs.mk ?_ hm bu, hb⟩
 unfold sgn
 by_cases h : p < 0 <;> simp [h] <;> omega
end Go.Proofs.YtolkchkedieppaaGreat

/- The methods of Int of package num: Sub, Mul, Sign, Cmp, Of. -/
namespace Go.Proofs.YtolkchkedieppaaGreat
open Go.RowKit
attribute [local go_sem ↓] Go.wp_at_zero Go.wp_at_succ
theorem IntIs.shape {w : World} {v : Value} {z : Int} {m : Nat} (h : IntIs w v z m) : ∃ s a n c, v = .agg #[.bool s, .slice a n c] ∧ Hid (IntIs w (.agg #[.bool s, .slice a n c]) z m) := by
 have h0 := h
 obtain ⟨u, rfl, ⟨a, b, o, c, rfl, hs⟩, h2⟩ := h
 exact ⟨_, a, _, c, rfl, h0⟩
set_option maxHeartbeats 2000000 in
theorem int_sub (x y : Value) (p q : Int) (k : Nat) (w : World) (ha : IntIs w x p k) (hb : IntIs w y q k) (hk : k ≤ 549755813888) :
  Calls Tryz.prog 120 #[x, y] w fun e w' => ∃ r, e = .returned r ∧ IntIs w' r (p - q) (k + 1) ∧ Below w.heap.size w w' := by
 obtain ⟨s1, a1, n1, c1, rfl, HA⟩ := ha.shape
 obtain ⟨s2, a2, n2, c2, rfl, HQ⟩ := hb.shape
 clear ha hb
 have HB : Hid (Below w.heap.size w (((w.alloc (Obj.cells #[Value.bool s1, Value.slice a1 n1 c1] 112)).alloc (Obj.cells #[Value.bool s2, Value.slice a2 n2 c2] 112)).alloc (Obj.cells #[.bool false, .slice none 0 0] 112))) := boxes3 w _ _ _
 go_enter Tryz.func120, Tryz.ntmps120
 go_wp2
 go_region_held3 (fun w' => w'.cell? ⟨w.heap.size, 0, none⟩ = some (.bool s1) ∧ w'.cell? ⟨w.heap.size, 1, none⟩ = some (.slice a1 n1 c1) ∧ w'.cell? ⟨w.heap.size + 1, 0, none⟩ = some (.bool s2) ∧ w'.cell? ⟨w.heap.size + 1, 1, none⟩ = some (.slice a2 n2 c2)) (go_keep)
  (first
   | (go_at_call 141; refine (int_neg _ q k _ ((HQ.out.mono HB.out (Nat.le_refl _)).drawn (Drawn.of _ 1))).mono ?_; rintro e w1 ⟨r, rfl, hr, hb1⟩; obtain ⟨q1, q2, q3, q4, q5, q6, hz1, HB1⟩ := kept3 (w := w) hb1 (by simp) HB.out.drew)
   | (go_at_call 121; refine (int_add _ _ p (-q) k _ (HA.out.mono HB1.out (Nat.le_refl _)) hr hk).mono ?_; rintro e w2 ⟨r2, rfl, hr2, hb2⟩; obtain ⟨s3, a3, n3, c3, rfl, H3⟩ := hr2.shape; clear hr2; obtain ⟨p1, p2, p3, p4, p5, p6, hz2, HB2⟩ := kept3 (w := w) hb2 hz1 HB1.out))
 go_wp2
 refine bodyPost_ret (v := .agg #[.bool s3, .slice a3 n3 c3]) (by simp [results, Tryz.results120, go_sem, q1, q2, q3, q4, q5, q6, p1, p2, p3, p4, p5, p6]) rfl ?_
 refine ⟨_, rfl, ?_, (HB2.out.setCell (by simp; omega) _).setCell (by simp; omega) _⟩
 exact H3.out.store2 _ _ (v0 := .bool false) (v1 := .slice none 0 0) (by rw [p3, q3]; simp [go_sem]) (by rw [p3, q3]; simp [go_sem]) (noInt_bool _) (noInt_slice _ _ _)
set_option maxHeartbeats 2000000 in
theorem mul_any (u v : Value) (s t : Bool) (x y : Nat) (w : World) (hu : Mag w u x) (hv : Mag w v y) (bxy : nl x + nl y ≤ 1099511627776) :
  Calls Tryz.prog 68 #[.agg #[.bool s, u], .agg #[.bool t, v]] w fun e w' => ∃ r, e = .returned (.agg #[.bool ((s != t) && decide (0 < x * y)), r]) ∧ Mag w' r (x * y) ∧ Below w.heap.size w w' := by
 have HU := Lib.hid hu
 have HV := Lib.hid hv
 obtain ⟨a1, b1, o1, c1, rfl, i1⟩ := hu
 obtain ⟨a2, b2, o2, c2, rfl, i2⟩ := hv
 have HB : Hid (Below w.heap.size w (((w.alloc (Obj.cells #[Value.bool s, Value.slice a1 (nl x) c1] 112)).alloc (Obj.cells #[Value.bool t, Value.slice a2 (nl y) c2] 112)).alloc (Obj.cells #[.bool false, .slice none 0 0] 112))) := boxes3 w _ _ _
 go_enter Tryz.func68, Tryz.ntmps68
 go_wp2
 go_region_held3 (fun w' => w'.cell? ⟨w.heap.size, 0, none⟩ = some (.bool s) ∧ w'.cell? ⟨w.heap.size, 1, none⟩ = some (.slice a1 (nl x) c1) ∧ w'.cell? ⟨w.heap.size + 1, 0, none⟩ = some (.bool t) ∧ w'.cell? ⟨w.heap.size + 1, 1, none⟩ = some (.slice a2 (nl y) c2)) (go_keep)
  (first
   | (go_at_call 122; refine (times_any _ _ x y _ ((HU.out.mono HB.out (Nat.le_refl _)).drew) ((HV.out.mono HB.out (Nat.le_refl _)).drew) bxy).mono ?_; rintro e w1 ⟨r, rfl, ⟨a3, b3, o3, c3, rfl, i3⟩, hb1⟩; obtain ⟨q1, q2, q3, q4, q5, q6, hz1, HB1⟩ := kept3 (w := w) hb1 (by simp) HB.out.drew)
   | (go_at_call 115; refine (made_any _ _ (x * y) _ ⟨a3, b3, o3, c3, rfl, i3⟩).mono ?_; rintro e w2 ⟨rfl, hm2, hb2⟩; obtain ⟨p1, p2, p3, p4, p5, p6, hz2, HB2⟩ := kept3 (w := w) hb2 hz1 HB1.out))
 go_wp2
 refine bodyPost_ret (v := .agg #[.bool ((s != t) && decide (0 < x * y)), .slice a3 (nl (x * y)) c3]) (by simp [results, Tryz.results68, go_sem, q1, q2, q3, q4, q5, q6, p1, p2, p3, p4, p5, p6]; cases s <;> cases t <;> rfl) rfl ?_
 refine ⟨_, rfl, ?_, (HB2.out.setCell (by simp; omega) _).setCell (by simp; omega) _⟩
 exact hm2.store2 _ _ (v0 := .bool false) (v1 := .slice none 0 0) (by rw [p3, q3]; simp [go_sem]) (by rw [p3, q3]; simp [go_sem]) (noInt_bool _) (noInt_slice _ _ _)
theorem int_mul (x y : Value) (p q : Int) (k l : Nat) (w : World) (ha : IntIs w x p k) (hb : IntIs w y q l) (hk : k + l ≤ 1099511627776) :
  Calls Tryz.prog 68 #[x, y] w fun e w' => ∃ r, e = .returned r ∧ IntIs w' r (p * q) (k + l) ∧ Below w.heap.size w w' := by
 obtain ⟨u, rfl, hu, bu⟩ := ha
 obtain ⟨v, rfl, hv, bv⟩ := hb
 refine (mul_any u v _ _ _ _ w hu hv (by omega)).mono ?_
 rintro e w' ⟨r, rfl, hm, hb⟩
 refine ⟨_, rfl, IntIs.mk ?_ hm (nl_mul _ _ _ _ bu bv), hb⟩
 have e1 := sgn_of p
 have e2 := sgn_of q
 conv => lhs; rw [← e1, ← e2]
 unfold sgn
 by_cases h1 : p < 0 <;> by_cases h2 : q < 0 <;> simp [h1, h2, Int.neg_mul, Int.mul_neg]
def sgnZ (z : Int) : Int := if z = 0 then 0 else if z < 0 then -1 else 1
theorem int_sign (x : Value) (p : Int) (k : Nat) (w : World) (ha : IntIs w x p k) :
  Calls Tryz.prog 192 #[x] w fun e w' => e = .returned (.int .i64 (sgnZ p)) ∧ Below w.heap.size w w' := by
 obtain ⟨u, rfl, ⟨a1, b1, o1, c1, rfl, i1⟩, bu⟩ := ha
 have HB := Lib.hid (fun (s : Bool) => boxes1 w (Obj.cells #[Value.bool s, Value.slice a1 (nl p.natAbs) c1] 112))
 have hz := nl_eq_zero p.natAbs
 by_cases h0 : p = 0
 ·have hn : (((nl p.natAbs : Nat) : Int) == 0) = true := by rw [h0]; rfl
  have H0 := Lib.hid h0
  generalize decide (p < 0) = s
  clear h0 hz i1
  go_enter Tryz.func192, Tryz.ntmps192
  go_wp2
  go_ret
  exact ⟨by simp [sgnZ, H0.out], HB.out _⟩
 ·have hn : (((nl p.natAbs : Nat) : Int) == 0) = false := by simp; intro q; exact h0 (by have := hz.1 q; omega)
  by_cases h1 : p < 0
  ·have e1 : decide (p < 0) = true := by simpa using h1
   rw [e1]
   have H0 := Lib.hid h0
   have H1 := Lib.hid h1
   clear h0 hz i1 h1 e1
   go_enter Tryz.func192, Tryz.ntmps192
   go_wp2
   go_ret
   exact ⟨by simp [sgnZ, H0.out, H1.out], HB.out _⟩
  ·have e1 : decide (p < 0) = false := by simpa using h1
   rw [e1]
   have H0 := Lib.hid h0
   have H1 := Lib.hid h1
   clear h0 hz i1 h1 e1
   go_enter Tryz.func192, Tryz.ntmps192
   go_wp2
   go_ret
   exact ⟨by rw [show sgnZ p = 1 from by unfold sgnZ; rw [if_neg H0.out, if_neg (by have := H1.out; omega)]]; rfl, HB.out _⟩
theorem int_cmp (x y : Value) (p q : Int) (k : Nat) (w : World) (ha : IntIs w x p k) (hb : IntIs w y q k) (hk : k ≤ 549755813888) :
  Calls Tryz.prog 150 #[x, y] w fun e w' => e = .returned (.int .i64 (sgnZ (p - q))) ∧ Below w.heap.size w w' := by
 obtain ⟨s1, a1, n1, c1, rfl, HA⟩ := ha.shape
 obtain ⟨s2, a2, n2, c2, rfl, HQ⟩ := hb.shape
 clear ha hb
 have HB : Hid (Below w.heap.size w ((w.alloc (Obj.cells #[Value.bool s1, Value.slice a1 n1 c1] 112)).alloc (Obj.cells #[Value.bool s2, Value.slice a2 n2 c2] 112))) := boxes2 w _ _
 go_enter Tryz.func150, Tryz.ntmps150
 go_wp2_with (first | (go_at_call 120; refine (int_sub _ _ p q k _ (HA.out.mono HB.out (Nat.le_refl _)) (HQ.out.mono HB.out (Nat.le_refl _)) hk).mono ?_; rintro e w1 ⟨r, rfl, hr, hb1⟩) | (go_at_call 192; refine (int_sign _ (p - q) (k + 1) _ hr).mono ?_; rintro e w2 ⟨rfl, hb2⟩))
 go_ret
 exact ⟨rfl, HB.out.trans ((hb1.mono (by simp; omega)).trans (hb2.mono (by have := hb1.size; simp at this; omega)))⟩
end Go.Proofs.YtolkchkedieppaaGreat

/- The methods of Int of package num: Of, Gcd. -/
namespace Go.Proofs.YtolkchkedieppaaGreat
open Go.RowKit
attribute [local go_sem ↓] Go.wp_at_zero Go.wp_at_succ
theorem isSl_two (N : Nat) (hN : N < 4611686018427387904) {w : World} {b : Nat} (h0 : w.cell? ⟨b, 0, none⟩ = some (.int .u32 ((N % 4294967296 : Nat) : Int))) (h1 : w.cell? ⟨b, 1, none⟩ = some (.int .u32 ((N / 4294967296 : Nat) : Int))) (hb : b < w.heap.size) :
  IsSl w (some ⟨b, 0, none⟩) b 0 2 2 (fun i => .int .u32 (dig N i : Nat)) :=
 ⟨Nat.le_refl _, fun _ => rfl, fun _ => hb, fun i hi => by
  match i, hi with
  | 0, _ => rw [h0]; simp [dig]
  | 1, _ =>
   rw [h1]
   have : N / 4294967296 % 4294967296 = N / 4294967296 := Nat.mod_eq_of_lt (by omega)
   simp [dig, this], fun e => by cases e⟩
theorem of_pos (N : Nat) (hN : N < 4611686018427387904) (w : World) :
  Calls Tryz.prog 63 #[.int .i64 (N : Nat)] w fun e w' => ∃ r, e = .returned r ∧ IntIs w' r N 2 ∧ Below w.heap.size w w' := by
 have hn2 : nl N ≤ 2 := by rw [nl_le]; omega
 have hv : valF (dig N) 2 = N := valF_dig_le N 2 hn2
 have HN := Lib.hid hN
 have hN2 : (N : Int) ≤ 4611686018427387903 := by omega
 have hdn : decide ((N : Int) < 0) = false := by simp
 clear hN
 have HV := Lib.hid hv
 have HN2 := Lib.hid hn2
 clear hv hn2
 go_enter Tryz.func63, Tryz.ntmps63
 go_wp2_with fail
 refine (trim_any _ (w.heap.size + 1) 0 2 2 (dig N) _ (by omega) (isSl_two N HN.out (by simp [go_sem]) (by simp [go_sem]) (by simp))).mono ?_
 rintro e w' ⟨rfl, hww⟩
 have hww2 := hww.symm
 clear hww
 subst hww2
 go_wp2_with fail
 refine (made_any _ _ N _ ?_).mono ?_
 ·have := trim_mag (fun i _ => dig_lt N i) (isSl_two N HN.out (w := (w.alloc (Obj.cells #[Value.bool false, Value.slice none 0 0] 112)).alloc (Obj.cells #[Value.int IntKind.u32 ((N : Int) % 4294967296), Value.int IntKind.u32 ((N : Int) / 4294967296)] 166)) (b := w.heap.size + 1) (by simp [go_sem]) (by simp [go_sem]) (by simp))
  rw [HV.out] at this
  exact this
 ·rintro e w1 ⟨rfl, hm, hb⟩
  have q1 := fun o => hb.cell (p := ⟨w.heap.size, o, none⟩) (by simp; omega)
  have q2 := fun o => hb.frozen (p := ⟨w.heap.size, o, none⟩) (by simp; omega)
  have hs1 : w.heap.size + 2 ≤ w1.heap.size := by (have := hb.size; simpa using this)
  go_wp2
  refine bodyPost_ret (v := .agg #[.bool (false && decide (0 < N)), .slice (some ⟨w.heap.size + 1, 0, none⟩) (trimN (dig N) 2) 2]) (by simp [results, Tryz.results63, go_sem, q1, q2]) rfl ?_
  have hbel := (boxes2 w (Obj.cells #[Value.bool false, Value.slice none 0 0] 112) (Obj.cells #[Value.int IntKind.u32 ((N : Int) % 4294967296), Value.int IntKind.u32 ((N : Int) / 4294967296)] 166)).trans (hb.mono (by simp; omega))
  refine ⟨_, rfl, ?_, (hbel.setCell (by simp) _).setCell (by simp) _⟩
  exact IntIs.mk (by simp [sgn]) (hm.store2 _ _ (v0 := .bool false) (v1 := .slice none 0 0) (by rw [q1]; simp [go_sem]) (by rw [q1]; simp [go_sem]) (noInt_bool _) (noInt_slice _ _ _)) HN2.out
theorem of_neg (N : Nat) (hN : N < 4611686018427387904) (hN0 : 0 < N) (w : World) :
  Calls Tryz.prog 63 #[.int .i64 (-(N : Nat) : Int)] w fun e w' => ∃ r, e = .returned r ∧ IntIs w' r (-(N : Int)) 2 ∧ Below w.heap.size w w' := by
 have hn2 : nl N ≤ 2 := by rw [nl_le]; omega
 have hv : valF (dig N) 2 = N := valF_dig_le N 2 hn2
 have HN := Lib.hid hN
 have hN2 : (N : Int) ≤ 4611686018427387903 := by omega
 have hdn : decide (-(N : Int) < 0) = true := by simp; omega
 have hwr : IntKind.u64.wrap (-IntKind.u64.wrap (-(N : Int))) = N := by rw [IntKind.wrap_u64, IntKind.wrap_u64]; omega
 clear hN
 have HV := Lib.hid hv
 have HN2 := Lib.hid hn2
 clear hv hn2
 go_enter Tryz.func63, Tryz.ntmps63
 go_wp2_with fail
 refine (trim_any _ (w.heap.size + 1) 0 2 2 (dig N) _ (by omega) (isSl_two N HN.out (by simp [go_sem]) (by simp [go_sem]) (by simp))).mono ?_
 rintro e w' ⟨rfl, hww⟩
 have hww2 := hww.symm
 clear hww
 subst hww2
 go_wp2_with fail
 refine (made_any _ _ N _ ?_).mono ?_
 ·have := trim_mag (fun i _ => dig_lt N i) (isSl_two N HN.out (w := (w.alloc (Obj.cells #[Value.bool false, Value.slice none 0 0] 112)).alloc (Obj.cells #[Value.int IntKind.u32 ((N : Int) % 4294967296), Value.int IntKind.u32 ((N : Int) / 4294967296)] 166)) (b := w.heap.size + 1) (by simp [go_sem]) (by simp [go_sem]) (by simp))
  rw [HV.out] at this
  exact this
 ·rintro e w1 ⟨rfl, hm, hb⟩
  have q1 := fun o => hb.cell (p := ⟨w.heap.size, o, none⟩) (by simp; omega)
  have q2 := fun o => hb.frozen (p := ⟨w.heap.size, o, none⟩) (by simp; omega)
  have hs1 : w.heap.size + 2 ≤ w1.heap.size := by (have := hb.size; simpa using this)
  go_wp2
  refine bodyPost_ret (v := .agg #[.bool (true && decide (0 < N)), .slice (some ⟨w.heap.size + 1, 0, none⟩) (trimN (dig N) 2) 2]) (by simp [results, Tryz.results63, go_sem, q1, q2]; exact hN0) rfl ?_
  have hbel := (boxes2 w (Obj.cells #[Value.bool false, Value.slice none 0 0] 112) (Obj.cells #[Value.int IntKind.u32 ((N : Int) % 4294967296), Value.int IntKind.u32 ((N : Int) / 4294967296)] 166)).trans (hb.mono (by simp; omega))
  refine ⟨_, rfl, ?_, (hbel.setCell (by simp) _).setCell (by simp) _⟩
  exact IntIs.mk (by simp [sgn]) (hm.store2 _ _ (v0 := .bool false) (v1 := .slice none 0 0) (by rw [q1]; simp [go_sem]) (by rw [q1]; simp [go_sem]) (noInt_bool _) (noInt_slice _ _ _)) HN2.out
theorem int_of (n : Int) (h1 : -4611686018427387904 < n) (h2 : n < 4611686018427387904) (w : World) :
  Calls Tryz.prog 63 #[.int .i64 n] w fun e w' => ∃ r, e = .returned r ∧ IntIs w' r n 2 ∧ Below w.heap.size w w' := by
 by_cases h : 0 ≤ n
 ·obtain ⟨N, rfl⟩ := Int.eq_ofNat_of_zero_le h
  exact of_pos N (by omega) w
 ·obtain ⟨N, hN⟩ := Int.eq_ofNat_of_zero_le (a := -n) (by omega)
  obtain rfl : n = -(N : Int) := by omega
  exact of_neg N (by omega) (by omega) w
set_option maxHeartbeats 1000000 in
theorem int_gcd (x y : Value) (p q : Int) (k : Nat) (w : World) (ha : IntIs w x p k) (hb : IntIs w y q k) (hk : k ≤ 549755813888) :
  Calls Tryz.prog 67 #[x, y] w fun e w' => ∃ r, e = .returned r ∧ IntIs w' r (Int.gcd p q : Nat) k ∧ Below w.heap.size w w' := by
 obtain ⟨u, rfl, hu, bu⟩ := ha
 obtain ⟨v, rfl, hv, bv⟩ := hb
 have HU := Lib.hid hu
 have HV := Lib.hid hv
 obtain ⟨a1, b1, o1, c1, rfl, i1⟩ := hu
 obtain ⟨a2, b2, o2, c2, rfl, i2⟩ := hv
 obtain ⟨s1, hs1⟩ : ∃ s, s = decide (p < 0) := ⟨_, rfl⟩
 obtain ⟨s2, hs2⟩ : ∃ s, s = decide (q < 0) := ⟨_, rfl⟩
 rw [← hs1, ← hs2]
 clear hs1 hs2
 have HB : Hid (Below w.heap.size w (((w.alloc (Obj.cells #[Value.bool s1, Value.slice a1 (nl p.natAbs) c1] 112)).alloc (Obj.cells #[Value.bool s2, Value.slice a2 (nl q.natAbs) c2] 112)).alloc (Obj.cells #[.bool false, .slice none 0 0] 112))) := boxes3 w _ _ _
 go_enter Tryz.func67, Tryz.ntmps67
 go_wp2
 go_quiet (fail)
 go_wp2
 go_loopg [5, 6] q.natAbs (fun g xv yv wr => ∃ X : Nat, Mag wr xv X ∧ Mag wr yv g ∧ nl X ≤ k ∧ nl g ≤ k ∧ Hid (Nat.gcd X g = Nat.gcd p.natAbs q.natAbs) ∧ w.heap.size + 3 ≤ wr.heap.size ∧ Hid (Below w.heap.size w wr) ∧
   wr.cell? ⟨w.heap.size + 1 + 1, 0, none⟩ = some (.bool false) ∧ wr.cell? ⟨w.heap.size + 1 + 1, 1, none⟩ = some (.slice none 0 0) ∧ (∀ o, wr.frozen? ⟨w.heap.size + 1 + 1, o, none⟩ = false))
 case atStart => exact ⟨p.natAbs, (HU.out.mono HB.out (Nat.le_refl _)).drawn (Drawn.of _ _), (HV.out.mono HB.out (Nat.le_refl _)).drawn (Drawn.of _ _), bu, bv, rfl, by simp, below_drawN HB.out _, by simp [go_sem], by simp [go_sem], fun o => by simp [go_sem]⟩
 case round =>
  obtain ⟨X, hX, hY, bX, bY, HG, hsz, HBW, hc0, hc1, hfz⟩ := hrel
  have HX := Lib.hid hX
  have HY := Lib.hid hY
  obtain ⟨ax, bx, ox, cx, rfl, ix⟩ := hX
  obtain ⟨ay, b_y, oy, cy, rfl, iy⟩ := hY
  clear ix iy i1 i2
  by_cases h0 : 0 < gk
  ·have hn : 0 < nl gk := (nl_pos _).2 h0
   go_wp2_with (go_at_call 119; refine (part_any _ _ X gk _ HX.out HY.out h0 (by omega) (by omega)).mono ?_; rintro e w1 ⟨qv, rv, rfl, hq, hr, hb⟩)
   go_roundg (X % gk)
   case measure => exact Nat.mod_lt _ h0
   case rel =>
    refine ⟨gk, HY.out.mono hb (Nat.le_refl _), hr, bY, Nat.le_trans (nl_mono (Nat.le_of_lt (Nat.mod_lt _ h0))) bY, ?_, by have := hb.size; omega, HBW.out.trans (hb.mono (by omega)), ?_, ?_, ?_⟩
    ·show _ = _
     rw [← HG.out, Nat.gcd_comm gk, ← Nat.gcd_rec, Nat.gcd_comm]
    ·rw [hb.cell (p := ⟨_, 0, none⟩) (by dsimp only; omega)]; exact hc0
    ·rw [hb.cell (p := ⟨_, 1, none⟩) (by dsimp only; omega)]; exact hc1
    ·intro o; rw [hb.frozen (p := ⟨_, o, none⟩) (by dsimp only; omega)]; exact hfz o
  ·obtain rfl : gk = 0 := by omega
   go_wp2_with (go_at_call 115; refine (made_any _ _ X _ HX.out).mono ?_; rintro e w2 ⟨rfl, hm2, hb2⟩; have p1 := fun o => hb2.cell (p := ⟨w.heap.size + 1 + 1, o, none⟩) (by dsimp only; omega); have p2 := fun o => hb2.frozen (p := ⟨w.heap.size + 1 + 1, o, none⟩) (by dsimp only; omega); have hz2 := hb2.size)
   refine bodyPost_ret (v := .agg #[.bool (false && decide (0 < X)), .slice ax (nl X) cx]) (by simp [results, Tryz.results67, go_sem, p1, p2, hc0, hc1, hfz]) rfl ?_
   refine ⟨_, rfl, ?_, ((HBW.out.trans (hb2.mono (by omega))).setCell (by simp; omega) _).setCell (by simp; omega) _⟩
   refine IntIs.mk ?_ (hm2.store2 _ _ (v0 := .bool false) (v1 := .slice none 0 0) (by rw [p1]; exact hc0) (by rw [p1]; exact hc1) (noInt_bool _) (noInt_slice _ _ _)) bX
   have := HG.out
   rw [Nat.gcd_zero_right] at this
   show ((Int.gcd p q : Nat) : Int) = (X : Int)
   rw [this]; rfl
end Go.Proofs.YtolkchkedieppaaGreat
