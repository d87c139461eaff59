/- The reference's numbers: Add, Sub, Cmp. (Printed by gen_big5.py.) -/
import Derived.Test.YtolkchkedieppaaGreatZBig4
import Derived.Test.YtolkchkedieppaaGreatZInt5
set_option linter.unusedVariables false
set_option linter.unusedSimpArgs false
namespace Go.Proofs.YtolkchkedieppaaGreat
open Go.RowKit
attribute [local go_sem ↓] Go.wp_at_zero Go.wp_at_succ
theorem Dg.setCell {w : World} {v : Value} {x : Nat} (h : Dg w v x) {p : Addr} {v0 : Value} (u : Value) (hp : w.cell? p = some v0) (hne : NoInt v0) : Dg (w.setCell p u) v x := by
  obtain ⟨a, b, o, c, rfl, hs⟩ := h
  exact ⟨a, b, o, c, rfl, hs.setCell u hp (fun i _ e => hne _ _ e.symm)⟩
theorem Dg.store2 {w : World} {v : Value} {x b : Nat} (h : Dg w v x) (u0 u1 : Value) {v0 v1 : Value} (h0 : w.cell? ⟨b, 0, none⟩ = some v0) (h1 : w.cell? ⟨b, 1, none⟩ = some v1) (n0 : NoInt v0) (n1 : NoInt v1) :
    Dg ((w.setCell ⟨b, 0, none⟩ u0).setCell ⟨b, 1, none⟩ u1) v x :=
  (h.setCell u0 h0 n0).setCell u1 (by rw [cell?_setCell_ne' _ _ _ _ (by intro e; cases e) rfl rfl]; exact h1) n1
theorem Dg.drew {w : World} {v : Value} {x : Nat} (h : Dg w v x) : Dg w.drew v x := h.drawn (Drawn.of w 1)
theorem lean_val (u : Value) (s : Bool) (n : Nat) (f : Nat → Nat) (x : Nat) (w : World) (hu : Raw w u n f) (hf : ∀ i, i < n → f i < 10000) (hx : valD f n = x) (hn : n ≤ 1099511627776) :
    Calls Tryz.prog 153 #[.agg #[.bool s, u]] w fun e w' => ∃ a c, e = .returned (.agg #[.bool (s && decide (0 < x)), .slice a (nd x) c]) ∧ Dg w' (.slice a (nd x) c) x ∧ Below w.heap.size w w' := by
  subst hx
  refine (lean_any u s n f w hu hf hn).mono ?_
  rintro e w' ⟨u', rfl, ⟨a, b, o, c, rfl, hs⟩, hb⟩
  exact ⟨a, c, rfl, ⟨a, b, o, c, rfl, hs⟩, hb⟩
set_option maxHeartbeats 2000000 in
theorem zadd_same (u v : Value) (s : Bool) (x y : Nat) (w : World) (hu : Dg w u x) (hv : Dg w v y) (bx : nd x ≤ 549755813888) (b_y : nd y ≤ 549755813888) :
    Calls Tryz.prog 128 #[.agg #[.bool s, u], .agg #[.bool s, v]] w fun e w' => ∃ r, e = .returned (.agg #[.bool (s && decide (0 < x + y)), r]) ∧ Dg w' r (x + y) ∧ Below w.heap.size w w' := by
  have HU := Lib.hid hu
  have HV := Lib.hid hv
  obtain ⟨a1, b1, o1, c1, rfl, i1⟩ := hu
  obtain ⟨a2, b2, o2, c2, rfl, i2⟩ := hv
  have HB : Hid (Below w.heap.size w (((w.alloc (Obj.cells #[Value.bool s, Value.slice a1 (nd x) c1] 57)).alloc (Obj.cells #[Value.bool s, Value.slice a2 (nd y) c2] 57)).alloc (Obj.cells #[.bool false, .slice none 0 0] 57))) := boxes3 w _ _ _
  have hss : (s == s) = true := by simp
  clear i1 i2
  go_enter Tryz.func128, Tryz.ntmps128
  go_wp2
  go_region_held3 (fun w' => w'.cell? ⟨w.heap.size, 0, none⟩ = some (.bool s) ∧ w'.cell? ⟨w.heap.size, 1, none⟩ = some (.slice a1 (nd x) c1) ∧ w'.cell? ⟨w.heap.size + 1, 1, none⟩ = some (.slice a2 (nd y) c2)) (go_keep)
    (first
      | (go_at_call 157; refine (bplus_any _ _ x y _ ((HU.out.mono HB.out (Nat.le_refl _)).drew) ((HV.out.mono HB.out (Nat.le_refl _)).drew) (by omega) (by omega)).mono ?_; rintro e w1 ⟨r, n1, f1, rfl, ⟨a3, b3, o3, c3, rfl, i3⟩, hf1, hval, hn1, hb⟩; have HF1 := Lib.hid hf1; have HVL := Lib.hid hval; have HI3 : Hid (Raw w1 (.slice a3 n1 c3) n1 f1) := Lib.hid ⟨a3, b3, o3, c3, rfl, i3⟩; have hn2 : n1 ≤ 1099511627776 := (by omega); obtain ⟨q1, q2, q3, q4, q5, q6, hz1, HB1⟩ := kept3 (w := w) hb (by simp) (HB.out.drew); clear hf1 hval i3 hn1)
      | (go_at_call 153; refine (lean_val _ _ n1 f1 (x + y) _ HI3.out HF1.out HVL.out hn2).mono ?_; rintro e w2 ⟨a4, c4, rfl, hm2, hb2⟩; have HM2 := Lib.hid hm2; obtain ⟨p1, p2, p3, p4, p5, p6, hz2, HB2⟩ := kept3 (w := w) hb2 hz1 HB1.out; clear hm2))
  go_wp2
  refine bodyPost_ret (v := .agg #[.bool (s && decide (0 < x + y)), .slice a4 (nd (x + y)) c4]) (by simp [results, Tryz.results128, go_sem, q1, q2, q3, q4, q5, q6, p1, p2, p3, p4, p5, p6]) rfl ?_
  exact ⟨_, rfl, HM2.out.store2 _ _ (v0 := .bool false) (v1 := .slice none 0 0) (by rw [p3, q3]; simp [go_sem]) (by rw [p3, q3]; simp [go_sem]) (noInt_bool _) (noInt_slice _ _ _), (HB2.out.setCell (by simp; omega) _).setCell (by simp; omega) _⟩
set_option maxHeartbeats 2000000 in
theorem zadd_tf_ge (u v : Value) (x y : Nat) (w : World) (hu : Dg w u x) (hv : Dg w v y) (hle : y ≤ x) (bx : nd x ≤ 549755813888) (b_y : nd y ≤ 549755813888) :
    Calls Tryz.prog 128 #[.agg #[.bool true, u], .agg #[.bool false, v]] w fun e w' => ∃ r, e = .returned (.agg #[.bool (true && decide (0 < x - y)), r]) ∧ Dg w' r (x - y) ∧ Below w.heap.size w w' := by
  have HU := Lib.hid hu
  have HV := Lib.hid hv
  obtain ⟨a1, b1, o1, c1, rfl, i1⟩ := hu
  obtain ⟨a2, b2, o2, c2, rfl, i2⟩ := hv
  have HB : Hid (Below w.heap.size w (((w.alloc (Obj.cells #[Value.bool true, Value.slice a1 (nd x) c1] 57)).alloc (Obj.cells #[Value.bool false, Value.slice a2 (nd y) c2] 57)).alloc (Obj.cells #[.bool false, .slice none 0 0] 57))) := boxes3 w _ _ _
  have HLE := Lib.hid hle
  have HCM := Lib.hid (fun W => sizes_any (.slice a1 (nd x) c1) (.slice a2 (nd y) c2) x y W)
  have hcm : 0 ≤ cmpN x y := by unfold cmpN; rw [if_neg (by omega)]; split <;> omega
  clear hle i1 i2
  go_enter Tryz.func128, Tryz.ntmps128
  go_wp2_with (go_at_call 154; refine (HCM.out _ (HU.out.mono HB.out (Nat.le_refl _)) (HV.out.mono HB.out (Nat.le_refl _)) (by omega) (by omega)).mono ?_; rintro e w' ⟨rfl, hd⟩; obtain ⟨nq, rfl⟩ := hd)
  go_region_held3 (fun w' => w'.cell? ⟨w.heap.size, 0, none⟩ = some (.bool true) ∧ w'.cell? ⟨w.heap.size, 1, none⟩ = some (.slice a1 (nd x) c1) ∧ w'.cell? ⟨w.heap.size + 1, 1, none⟩ = some (.slice a2 (nd y) c2)) (go_keep)
    (first
      | (go_at_call 156; refine (bless_any _ _ x y _ (((HU.out.mono HB.out (Nat.le_refl _)).drawn (Drawn.of _ nq)).drew) (((HV.out.mono HB.out (Nat.le_refl _)).drawn (Drawn.of _ nq)).drew) HLE.out (by omega)).mono ?_; rintro e w1 ⟨r, f1, rfl, ⟨a3, b3, o3, c3, rfl, i3⟩, hf1, hval, hb⟩; have HF1 := Lib.hid hf1; have HVL := Lib.hid hval; have HI3 : Hid (Raw w1 (.slice a3 (nd x) c3) (nd x) f1) := Lib.hid ⟨a3, b3, o3, c3, rfl, i3⟩; have hn2 : nd x ≤ 1099511627776 := (by omega); obtain ⟨q1, q2, q3, q4, q5, q6, hz1, HB1⟩ := kept3 (w := w) hb (by simp) ((below_drawN HB.out nq).drew); clear hf1 hval i3)
      | (go_at_call 153; refine (lean_val _ _ (nd x) f1 (x - y) _ HI3.out HF1.out HVL.out hn2).mono ?_; rintro e w2 ⟨a4, c4, rfl, hm2, hb2⟩; have HM2 := Lib.hid hm2; obtain ⟨p1, p2, p3, p4, p5, p6, hz2, HB2⟩ := kept3 (w := w) hb2 hz1 HB1.out; clear hm2))
  go_wp2
  refine bodyPost_ret (v := .agg #[.bool (true && decide (0 < x - y)), .slice a4 (nd (x - y)) c4]) (by simp [results, Tryz.results128, go_sem, q1, q2, q3, q4, q5, q6, p1, p2, p3, p4, p5, p6]) rfl ?_
  exact ⟨_, rfl, HM2.out.store2 _ _ (v0 := .bool false) (v1 := .slice none 0 0) (by rw [p3, q3]; simp [go_sem]) (by rw [p3, q3]; simp [go_sem]) (noInt_bool _) (noInt_slice _ _ _), (HB2.out.setCell (by simp; omega) _).setCell (by simp; omega) _⟩
set_option maxHeartbeats 2000000 in
theorem zadd_tf_lt (u v : Value) (x y : Nat) (w : World) (hu : Dg w u x) (hv : Dg w v y) (hle : x < y) (bx : nd x ≤ 549755813888) (b_y : nd y ≤ 549755813888) :
    Calls Tryz.prog 128 #[.agg #[.bool true, u], .agg #[.bool false, v]] w fun e w' => ∃ r, e = .returned (.agg #[.bool (false && decide (0 < y - x)), r]) ∧ Dg w' r (y - x) ∧ Below w.heap.size w w' := by
  have HU := Lib.hid hu
  have HV := Lib.hid hv
  obtain ⟨a1, b1, o1, c1, rfl, i1⟩ := hu
  obtain ⟨a2, b2, o2, c2, rfl, i2⟩ := hv
  have HB : Hid (Below w.heap.size w (((w.alloc (Obj.cells #[Value.bool true, Value.slice a1 (nd x) c1] 57)).alloc (Obj.cells #[Value.bool false, Value.slice a2 (nd y) c2] 57)).alloc (Obj.cells #[.bool false, .slice none 0 0] 57))) := boxes3 w _ _ _
  have HLE := Lib.hid hle
  have HCM := Lib.hid (fun W => sizes_any (.slice a1 (nd x) c1) (.slice a2 (nd y) c2) x y W)
  have hcm : cmpN x y < 0 := by unfold cmpN; rw [if_pos (by omega)]; omega
  clear hle i1 i2
  go_enter Tryz.func128, Tryz.ntmps128
  go_wp2_with (go_at_call 154; refine (HCM.out _ (HU.out.mono HB.out (Nat.le_refl _)) (HV.out.mono HB.out (Nat.le_refl _)) (by omega) (by omega)).mono ?_; rintro e w' ⟨rfl, hd⟩; obtain ⟨nq, rfl⟩ := hd)
  go_region_held3 (fun w' => w'.cell? ⟨w.heap.size + 1, 0, none⟩ = some (.bool false) ∧ w'.cell? ⟨w.heap.size + 1, 1, none⟩ = some (.slice a2 (nd y) c2) ∧ w'.cell? ⟨w.heap.size, 1, none⟩ = some (.slice a1 (nd x) c1)) (go_keep)
    (first
      | (go_at_call 156; refine (bless_any _ _ y x _ (((HV.out.mono HB.out (Nat.le_refl _)).drawn (Drawn.of _ nq)).drew) (((HU.out.mono HB.out (Nat.le_refl _)).drawn (Drawn.of _ nq)).drew) (Nat.le_of_lt HLE.out) (by omega)).mono ?_; rintro e w1 ⟨r, f1, rfl, ⟨a3, b3, o3, c3, rfl, i3⟩, hf1, hval, hb⟩; have HF1 := Lib.hid hf1; have HVL := Lib.hid hval; have HI3 : Hid (Raw w1 (.slice a3 (nd y) c3) (nd y) f1) := Lib.hid ⟨a3, b3, o3, c3, rfl, i3⟩; have hn2 : nd y ≤ 1099511627776 := (by omega); obtain ⟨q1, q2, q3, q4, q5, q6, hz1, HB1⟩ := kept3 (w := w) hb (by simp) ((below_drawN HB.out nq).drew); clear hf1 hval i3)
      | (go_at_call 153; refine (lean_val _ _ (nd y) f1 (y - x) _ HI3.out HF1.out HVL.out hn2).mono ?_; rintro e w2 ⟨a4, c4, rfl, hm2, hb2⟩; have HM2 := Lib.hid hm2; obtain ⟨p1, p2, p3, p4, p5, p6, hz2, HB2⟩ := kept3 (w := w) hb2 hz1 HB1.out; clear hm2))
  go_wp2
  refine bodyPost_ret (v := .agg #[.bool (false && decide (0 < y - x)), .slice a4 (nd (y - x)) c4]) (by simp [results, Tryz.results128, go_sem, q1, q2, q3, q4, q5, q6, p1, p2, p3, p4, p5, p6]) rfl ?_
  exact ⟨_, rfl, HM2.out.store2 _ _ (v0 := .bool false) (v1 := .slice none 0 0) (by rw [p3, q3]; simp [go_sem]) (by rw [p3, q3]; simp [go_sem]) (noInt_bool _) (noInt_slice _ _ _), (HB2.out.setCell (by simp; omega) _).setCell (by simp; omega) _⟩
set_option maxHeartbeats 2000000 in
theorem zadd_ft_ge (u v : Value) (x y : Nat) (w : World) (hu : Dg w u x) (hv : Dg w v y) (hle : y ≤ x) (bx : nd x ≤ 549755813888) (b_y : nd y ≤ 549755813888) :
    Calls Tryz.prog 128 #[.agg #[.bool false, u], .agg #[.bool true, v]] w fun e w' => ∃ r, e = .returned (.agg #[.bool (false && decide (0 < x - y)), r]) ∧ Dg w' r (x - y) ∧ Below w.heap.size w w' := by
  have HU := Lib.hid hu
  have HV := Lib.hid hv
  obtain ⟨a1, b1, o1, c1, rfl, i1⟩ := hu
  obtain ⟨a2, b2, o2, c2, rfl, i2⟩ := hv
  have HB : Hid (Below w.heap.size w (((w.alloc (Obj.cells #[Value.bool false, Value.slice a1 (nd x) c1] 57)).alloc (Obj.cells #[Value.bool true, Value.slice a2 (nd y) c2] 57)).alloc (Obj.cells #[.bool false, .slice none 0 0] 57))) := boxes3 w _ _ _
  have HLE := Lib.hid hle
  have HCM := Lib.hid (fun W => sizes_any (.slice a1 (nd x) c1) (.slice a2 (nd y) c2) x y W)
  have hcm : 0 ≤ cmpN x y := by unfold cmpN; rw [if_neg (by omega)]; split <;> omega
  clear hle i1 i2
  go_enter Tryz.func128, Tryz.ntmps128
  go_wp2_with (go_at_call 154; refine (HCM.out _ (HU.out.mono HB.out (Nat.le_refl _)) (HV.out.mono HB.out (Nat.le_refl _)) (by omega) (by omega)).mono ?_; rintro e w' ⟨rfl, hd⟩; obtain ⟨nq, rfl⟩ := hd)
  go_region_held3 (fun w' => w'.cell? ⟨w.heap.size, 0, none⟩ = some (.bool false) ∧ w'.cell? ⟨w.heap.size, 1, none⟩ = some (.slice a1 (nd x) c1) ∧ w'.cell? ⟨w.heap.size + 1, 1, none⟩ = some (.slice a2 (nd y) c2)) (go_keep)
    (first
      | (go_at_call 156; refine (bless_any _ _ x y _ (((HU.out.mono HB.out (Nat.le_refl _)).drawn (Drawn.of _ nq)).drew) (((HV.out.mono HB.out (Nat.le_refl _)).drawn (Drawn.of _ nq)).drew) HLE.out (by omega)).mono ?_; rintro e w1 ⟨r, f1, rfl, ⟨a3, b3, o3, c3, rfl, i3⟩, hf1, hval, hb⟩; have HF1 := Lib.hid hf1; have HVL := Lib.hid hval; have HI3 : Hid (Raw w1 (.slice a3 (nd x) c3) (nd x) f1) := Lib.hid ⟨a3, b3, o3, c3, rfl, i3⟩; have hn2 : nd x ≤ 1099511627776 := (by omega); obtain ⟨q1, q2, q3, q4, q5, q6, hz1, HB1⟩ := kept3 (w := w) hb (by simp) ((below_drawN HB.out nq).drew); clear hf1 hval i3)
      | (go_at_call 153; refine (lean_val _ _ (nd x) f1 (x - y) _ HI3.out HF1.out HVL.out hn2).mono ?_; rintro e w2 ⟨a4, c4, rfl, hm2, hb2⟩; have HM2 := Lib.hid hm2; obtain ⟨p1, p2, p3, p4, p5, p6, hz2, HB2⟩ := kept3 (w := w) hb2 hz1 HB1.out; clear hm2))
  go_wp2
  refine bodyPost_ret (v := .agg #[.bool (false && decide (0 < x - y)), .slice a4 (nd (x - y)) c4]) (by simp [results, Tryz.results128, go_sem, q1, q2, q3, q4, q5, q6, p1, p2, p3, p4, p5, p6]) rfl ?_
  exact ⟨_, rfl, HM2.out.store2 _ _ (v0 := .bool false) (v1 := .slice none 0 0) (by rw [p3, q3]; simp [go_sem]) (by rw [p3, q3]; simp [go_sem]) (noInt_bool _) (noInt_slice _ _ _), (HB2.out.setCell (by simp; omega) _).setCell (by simp; omega) _⟩
set_option maxHeartbeats 2000000 in
theorem zadd_ft_lt (u v : Value) (x y : Nat) (w : World) (hu : Dg w u x) (hv : Dg w v y) (hle : x < y) (bx : nd x ≤ 549755813888) (b_y : nd y ≤ 549755813888) :
    Calls Tryz.prog 128 #[.agg #[.bool false, u], .agg #[.bool true, v]] w fun e w' => ∃ r, e = .returned (.agg #[.bool (true && decide (0 < y - x)), r]) ∧ Dg w' r (y - x) ∧ Below w.heap.size w w' := by
  have HU := Lib.hid hu
  have HV := Lib.hid hv
  obtain ⟨a1, b1, o1, c1, rfl, i1⟩ := hu
  obtain ⟨a2, b2, o2, c2, rfl, i2⟩ := hv
  have HB : Hid (Below w.heap.size w (((w.alloc (Obj.cells #[Value.bool false, Value.slice a1 (nd x) c1] 57)).alloc (Obj.cells #[Value.bool true, Value.slice a2 (nd y) c2] 57)).alloc (Obj.cells #[.bool false, .slice none 0 0] 57))) := boxes3 w _ _ _
  have HLE := Lib.hid hle
  have HCM := Lib.hid (fun W => sizes_any (.slice a1 (nd x) c1) (.slice a2 (nd y) c2) x y W)
  have hcm : cmpN x y < 0 := by unfold cmpN; rw [if_pos (by omega)]; omega
  clear hle i1 i2
  go_enter Tryz.func128, Tryz.ntmps128
  go_wp2_with (go_at_call 154; refine (HCM.out _ (HU.out.mono HB.out (Nat.le_refl _)) (HV.out.mono HB.out (Nat.le_refl _)) (by omega) (by omega)).mono ?_; rintro e w' ⟨rfl, hd⟩; obtain ⟨nq, rfl⟩ := hd)
  go_region_held3 (fun w' => w'.cell? ⟨w.heap.size + 1, 0, none⟩ = some (.bool true) ∧ w'.cell? ⟨w.heap.size + 1, 1, none⟩ = some (.slice a2 (nd y) c2) ∧ w'.cell? ⟨w.heap.size, 1, none⟩ = some (.slice a1 (nd x) c1)) (go_keep)
    (first
      | (go_at_call 156; refine (bless_any _ _ y x _ (((HV.out.mono HB.out (Nat.le_refl _)).drawn (Drawn.of _ nq)).drew) (((HU.out.mono HB.out (Nat.le_refl _)).drawn (Drawn.of _ nq)).drew) (Nat.le_of_lt HLE.out) (by omega)).mono ?_; rintro e w1 ⟨r, f1, rfl, ⟨a3, b3, o3, c3, rfl, i3⟩, hf1, hval, hb⟩; have HF1 := Lib.hid hf1; have HVL := Lib.hid hval; have HI3 : Hid (Raw w1 (.slice a3 (nd y) c3) (nd y) f1) := Lib.hid ⟨a3, b3, o3, c3, rfl, i3⟩; have hn2 : nd y ≤ 1099511627776 := (by omega); obtain ⟨q1, q2, q3, q4, q5, q6, hz1, HB1⟩ := kept3 (w := w) hb (by simp) ((below_drawN HB.out nq).drew); clear hf1 hval i3)
      | (go_at_call 153; refine (lean_val _ _ (nd y) f1 (y - x) _ HI3.out HF1.out HVL.out hn2).mono ?_; rintro e w2 ⟨a4, c4, rfl, hm2, hb2⟩; have HM2 := Lib.hid hm2; obtain ⟨p1, p2, p3, p4, p5, p6, hz2, HB2⟩ := kept3 (w := w) hb2 hz1 HB1.out; clear hm2))
  go_wp2
  refine bodyPost_ret (v := .agg #[.bool (true && decide (0 < y - x)), .slice a4 (nd (y - x)) c4]) (by simp [results, Tryz.results128, go_sem, q1, q2, q3, q4, q5, q6, p1, p2, p3, p4, p5, p6]) rfl ?_
  exact ⟨_, rfl, HM2.out.store2 _ _ (v0 := .bool false) (v1 := .slice none 0 0) (by rw [p3, q3]; simp [go_sem]) (by rw [p3, q3]; simp [go_sem]) (noInt_bool _) (noInt_slice _ _ _), (HB2.out.setCell (by simp; omega) _).setCell (by simp; omega) _⟩
end Go.Proofs.YtolkchkedieppaaGreat

/- The reference's numbers: Add whole, Neg whole, Sub, Cmp. -/
namespace Go.Proofs.YtolkchkedieppaaGreat
open Go.RowKit
attribute [local go_sem ↓] Go.wp_at_zero Go.wp_at_succ
theorem ZIs.shape {w : World} {v : Value} {z : Int} {m : Nat} (h : ZIs w v z m) : ∃ s a n c, v = .agg #[.bool s, .slice a n c] ∧ Hid (ZIs w (.agg #[.bool s, .slice a n c]) z m) := by
  have h0 := h
  obtain ⟨u, rfl, ⟨a, b, o, c, rfl, hs⟩, h2⟩ := h
  exact ⟨_, a, _, c, rfl, h0⟩
theorem ZIs.store2 {w : World} {v : Value} {z : Int} {m b : Nat} (h : ZIs w v z m) (u0 u1 : Value) {v0 v1 : Value} (h0 : w.cell? ⟨b, 0, none⟩ = some v0) (h1 : w.cell? ⟨b, 1, none⟩ = some v1) (n0 : NoInt v0) (n1 : NoInt v1) :
    ZIs ((w.setCell ⟨b, 0, none⟩ u0).setCell ⟨b, 1, none⟩ u1) v z m := by
  obtain ⟨u, rfl, g1, g2⟩ := h
  exact ⟨u, rfl, g1.store2 u0 u1 h0 h1 n0 n1, g2⟩
theorem badd_any (a b : Value) (p q : Int) (k : Nat) (w : World) (ha : ZIs w a p k) (hb : ZIs w b q k) (hk : k ≤ 549755813888) :
    Calls Tryz.prog 128 #[a, b] w fun e w' => ∃ r, e = .returned r ∧ ZIs w' r (p + q) (k + 1) ∧ Below w.heap.size w w' := by
  obtain ⟨u, rfl, hu, bu⟩ := ha
  obtain ⟨v, rfl, hv, bv⟩ := hb
  by_cases hp : p < 0 <;> by_cases hq : q < 0
  · have e1 : decide (p < 0) = true := by simpa using hp
    have e2 : decide (q < 0) = true := by simpa using hq
    rw [e1, e2]
    refine (zadd_same u v true _ _ w hu hv (by omega) (by omega)).mono ?_
    rintro e w' ⟨r, rfl, hr, hb⟩
    exact ⟨_, rfl, ZIs.mk (by simp [sgn]; omega) hr (nd_add _ _ _ bu bv), hb⟩
  · have e1 : decide (p < 0) = true := by simpa using hp
    have e2 : decide (q < 0) = false := by simpa using hq
    rw [e1, e2]
    by_cases hle : q.natAbs ≤ p.natAbs
    · refine (zadd_tf_ge u v _ _ w hu hv hle (by omega) (by omega)).mono ?_
      rintro e w' ⟨r, rfl, hr, hb⟩
      exact ⟨_, rfl, ZIs.mk (by simp [sgn]; omega) hr (Nat.le_trans (nd_mono (Nat.sub_le _ _)) (by omega)), hb⟩
    · refine (zadd_tf_lt u v _ _ w hu hv (by omega) (by omega) (by omega)).mono ?_
      rintro e w' ⟨r, rfl, hr, hb⟩
      exact ⟨_, rfl, ZIs.mk (by simp [sgn]; omega) hr (Nat.le_trans (nd_mono (Nat.sub_le _ _)) (by omega)), hb⟩
  · have e1 : decide (p < 0) = false := by simpa using hp
    have e2 : decide (q < 0) = true := by simpa using hq
    rw [e1, e2]
    by_cases hle : q.natAbs ≤ p.natAbs
    · refine (zadd_ft_ge u v _ _ w hu hv hle (by omega) (by omega)).mono ?_
      rintro e w' ⟨r, rfl, hr, hb⟩
      exact ⟨_, rfl, ZIs.mk (by simp [sgn]; omega) hr (Nat.le_trans (nd_mono (Nat.sub_le _ _)) (by omega)), hb⟩
    · refine (zadd_ft_lt u v _ _ w hu hv (by omega) (by omega) (by omega)).mono ?_
      rintro e w' ⟨r, rfl, hr, hb⟩
      exact ⟨_, rfl, ZIs.mk (by simp [sgn]; omega) hr (Nat.le_trans (nd_mono (Nat.sub_le _ _)) (by omega)), hb⟩
  · have e1 : decide (p < 0) = false := by simpa using hp
    have e2 : decide (q < 0) = false := by simpa using hq
    rw [e1, e2]
    refine (zadd_same u v false _ _ w hu hv (by omega) (by omega)).mono ?_
    rintro e w' ⟨r, rfl, hr, hb⟩
    exact ⟨_, rfl, ZIs.mk (by simp [sgn]; omega) hr (nd_add _ _ _ bu bv), hb⟩
theorem zneg_any (a : Value) (p : Int) (k : Nat) (w : World) (ha : ZIs w a p k) :
    Calls Tryz.prog 132 #[a] w fun e w' => ∃ r, e = .returned r ∧ ZIs w' r (-p) k ∧ Below w.heap.size w w' := by
  obtain ⟨u, rfl, hu, bu⟩ := ha
  refine (bneg_any u _ _ w hu).mono ?_
  rintro e w' ⟨rfl, hm, hb⟩
  refine ⟨_, rfl, ZIs.mk ?_ hm bu, hb⟩
  by_cases h : p < 0 <;> simp [sgn, h] <;> omega
theorem zabs_any (a : Value) (p : Int) (k : Nat) (w : World) (ha : ZIs w a p k) :
    Calls Tryz.prog 80 #[a] w fun e w' => ∃ r, e = .returned r ∧ ZIs w' r (p.natAbs : Int) k ∧ Below w.heap.size w w' := by
  obtain ⟨u, rfl, hu, bu⟩ := ha
  refine (babs_any u _ _ w hu).mono ?_
  rintro e w' ⟨rfl, hm, hb⟩
  have e1 : decide ((p.natAbs : Int) < 0) = false := by simp
  exact ⟨_, rfl, ⟨u, by rw [e1], hm, bu⟩, hb⟩
set_option maxHeartbeats 2000000 in
theorem bsub_any (x y : Value) (p q : Int) (k : Nat) (w : World) (ha : ZIs w x p k) (hb : ZIs w y q k) (hk : k ≤ 549755813888) :
    Calls Tryz.prog 130 #[x, y] w fun e w' => ∃ r, e = .returned r ∧ ZIs w' r (p - q) (k + 1) ∧ Below w.heap.size w w' := by
  obtain ⟨s1, a1, n1, c1, rfl, HA⟩ := ha.shape
  obtain ⟨s2, a2, n2, c2, rfl, HQ⟩ := hb.shape
  clear ha hb
  have HB : Hid (Below w.heap.size w (((w.alloc (Obj.cells #[Value.bool s1, Value.slice a1 n1 c1] 57)).alloc (Obj.cells #[Value.bool s2, Value.slice a2 n2 c2] 57)).alloc (Obj.cells #[.bool false, .slice none 0 0] 57))) := boxes3 w _ _ _
  go_enter Tryz.func130, Tryz.ntmps130
  go_wp2
  go_region_held3 (fun w' => w'.cell? ⟨w.heap.size, 0, none⟩ = some (.bool s1) ∧ w'.cell? ⟨w.heap.size, 1, none⟩ = some (.slice a1 n1 c1) ∧ w'.cell? ⟨w.heap.size + 1, 0, none⟩ = some (.bool s2) ∧ w'.cell? ⟨w.heap.size + 1, 1, none⟩ = some (.slice a2 n2 c2)) (go_keep)
    (first
      | (go_at_call 132; refine (zneg_any _ q k _ ((HQ.out.mono HB.out (Nat.le_refl _)).drawn (Drawn.of _ 1))).mono ?_; rintro e w1 ⟨r, rfl, hr, hb1⟩; obtain ⟨q1, q2, q3, q4, q5, q6, hz1, HB1⟩ := kept3 (w := w) hb1 (by simp) HB.out.drew)
      | (go_at_call 128; refine (badd_any _ _ p (-q) k _ (HA.out.mono HB1.out (Nat.le_refl _)) hr hk).mono ?_; rintro e w2 ⟨r2, rfl, hr2, hb2⟩; obtain ⟨s3, a3, n3, c3, rfl, H3⟩ := hr2.shape; clear hr2; obtain ⟨p1, p2, p3, p4, p5, p6, hz2, HB2⟩ := kept3 (w := w) hb2 hz1 HB1.out))
  go_wp2
  refine bodyPost_ret (v := .agg #[.bool s3, .slice a3 n3 c3]) (by simp [results, Tryz.results130, go_sem, q1, q2, q3, q4, q5, q6, p1, p2, p3, p4, p5, p6]) rfl ?_
  refine ⟨_, rfl, ?_, (HB2.out.setCell (by simp; omega) _).setCell (by simp; omega) _⟩
  exact H3.out.store2 _ _ (v0 := .bool false) (v1 := .slice none 0 0) (by rw [p3, q3]; simp [go_sem]) (by rw [p3, q3]; simp [go_sem]) (noInt_bool _) (noInt_slice _ _ _)
end Go.Proofs.YtolkchkedieppaaGreat

/- The reference's numbers: Mul. -/
namespace Go.Proofs.YtolkchkedieppaaGreat
open Go.RowKit
attribute [local go_sem ↓] Go.wp_at_zero Go.wp_at_succ
structure MulS (w0 w : World) (C N : Nat) (s t : Bool) (sx sy : Value) (f : Nat → Nat) : Prop where
  oa : Own2 w w0.heap.size (.bool s) sx
  ob : Own2 w (w0.heap.size + 1) (.bool t) sy
  orr : Own2 w (w0.heap.size + 1 + 1) (.bool false) (.slice none 0 0)
  row : w.rowIs C 3 N (ic (dI f))
  kw : Below w0.heap.size w0 w
  hC : w0.heap.size + 3 ≤ C
theorem MulS.set {w0 w : World} {C N : Nat} {s t : Bool} {sx sy : Value} {f : Nat → Nat} (h : MulS w0 w C N s t sx sy f) (j d : Nat) : MulS w0 (w.setCell ⟨C, j, none⟩ (.int .i64 ((d : Nat) : Int))) C N s t sx sy (upd f j d) :=
  ⟨h.oa.setCell _ _ _ (by have := h.hC; omega), h.ob.setCell _ _ _ (by have := h.hC; omega), h.orr.setCell _ _ _ (by have := h.hC; omega),
   (h.row.set j _).congr (fun i hi => by
    by_cases e : i = j
    · subst e; simp [ic, dI, upd]
    · simp [ic, dI, upd, e]), h.kw.setCell (by have := h.hC; dsimp only; omega) _, h.hC⟩
theorem MulS.drawn {w0 w w' : World} {C N : Nat} {s t : Bool} {sx sy : Value} {f : Nat → Nat} (h : MulS w0 w C N s t sx sy f) (hd : Drawn w w') : MulS w0 w' C N s t sx sy f :=
  ⟨h.oa.drawn hd, h.ob.drawn hd, h.orr.drawn hd, rowIs_below h.row (hd.below _) h.row.lt, h.kw.trans (hd.below _), h.hC⟩
theorem mulD_in (v v0 c dx dy f Y P Q : Nat) (h : v + c * (P * Q) = v0 + dx * Y * P) :
    v + (f + c + dx * dy) % 10000 * (P * Q) + (f + c + dx * dy) / 10000 * (P * Q * 10000) = (v0 + f * (P * Q)) + dx * (Y + dy * Q) * P := by
  have e := Nat.div_add_mod (f + c + dx * dy) 10000
  generalize (f + c + dx * dy) / 10000 = q at *
  generalize (f + c + dx * dy) % 10000 = r at *
  have e1 : r * (P * Q) + q * (P * Q * 10000) = (f + c + dx * dy) * (P * Q) := by rw [← e]; grind
  have e2 : (f + c + dx * dy) * (P * Q) = dx * dy * (P * Q) + f * (P * Q) + c * (P * Q) := by grind
  have e3 : dx * (Y + dy * Q) * P = dx * Y * P + dx * dy * (P * Q) := by grind
  omega
theorem valD_upd (f : Nat → Nat) (k d n : Nat) (h : n ≤ k) : valD (upd f k d) n = valD f n :=
  valD_congr (fun i hi => by unfold upd; rw [if_neg (by omega)])
/-- row i of the product is under way: k digits are done -/
structure MulK (x y i k c : Nat) (f0 f : Nat → Nat) : Prop where
  lt : ∀ j, f j < 10000
  same : ∀ j, i + k ≤ j → f j = f0 j
  val : valD f (i + k) + c * (10000 ^ i * 10000 ^ k) = valD f0 (i + k) + dg x i * valD (dg y) k * 10000 ^ i
theorem MulK.start {x y i : Nat} {f0 : Nat → Nat} (h : ∀ j, f0 j < 10000) : MulK x y i 0 0 f0 f0 := ⟨h, fun _ _ => rfl, by simp [valD]⟩
theorem MulK.step {x y i k c : Nat} {f0 f : Nat → Nat} (h : MulK x y i k c f0 f) : MulK x y i (k + 1) ((f (i + k) + c + dg x i * dg y k) / 10000) f0 (upd f (i + k) ((f (i + k) + c + dg x i * dg y k) % 10000)) := by
  refine ⟨fun j => ?_, fun j hj => ?_, ?_⟩
  · unfold upd; split
    · exact Nat.mod_lt _ (by omega)
    · exact h.lt j
  · unfold upd; rw [if_neg (by omega)]; exact h.same j (by omega)
  · rw [← Nat.add_assoc]
    simp only [valD, valD_upd f (i + k) _ (i + k) (Nat.le_refl _), upd_self]
    have e1 : f (i + k) = f0 (i + k) := h.same _ (Nat.le_refl _)
    have := mulD_in _ _ _ (dg x i) (dg y k) (f (i + k)) _ _ _ h.val
    rw [← e1, Nat.pow_add, Nat.pow_succ, ← Nat.mul_assoc (10000 ^ i)]
    exact this
/-- rows 0 .. i - 1 of the product are done -/
structure MulI (x y i : Nat) (f : Nat → Nat) : Prop where
  lt : ∀ j, f j < 10000
  zero : ∀ j, i + nd y ≤ j → f j = 0
  val : valD f (i + nd y) = valD (dg x) i * y
theorem MulI.done {x y i k : Nat} {f0 f : Nat → Nat} (h0 : MulI x y i f0) (h : MulK x y i k 0 f0 f) (hk : nd y ≤ k) (hk2 : k ≤ nd y + 1) : MulI x y (i + 1) f := by
  have hy : ∀ m, nd y ≤ m → valD (dg y) m = y := fun m hm => valD_dg_le y m hm
  have hf0 : valD f0 (i + nd y + 1) = valD f0 (i + nd y) := by simp only [valD]; rw [h0.zero (i + nd y) (by omega)]; omega
  have key : valD f (i + nd y + 1) = valD f0 (i + nd y) + dg x i * y * 10000 ^ i := by
    have hv := h.val
    rw [Nat.zero_mul, Nat.add_zero, hy k hk] at hv
    have : k = nd y ∨ k = nd y + 1 := by omega
    rcases this with e | e
    · subst e
      simp only [valD]
      rw [h.same (i + nd y) (Nat.le_refl _), h0.zero (i + nd y) (Nat.le_refl _), hv]; omega
    · subst e
      rw [← Nat.add_assoc] at hv
      rw [hv, hf0]
  refine ⟨h.lt, fun j hj => ?_, ?_⟩
  · rw [h.same j (by omega)]; exact h0.zero j (by omega)
  · rw [show i + 1 + nd y = i + nd y + 1 from by omega, key, h0.val]
    simp only [valD]
    rw [Nat.add_mul]
    have : dg x i * 10000 ^ i * y = dg x i * y * 10000 ^ i := by ac_rfl
    omega
end Go.Proofs.YtolkchkedieppaaGreat
