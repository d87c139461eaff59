/- Quo of Int of package num, where the division has no remainder and the divisor is above 0. -/
import Derived.Test.YtolkchkedieppaaGreatZInt5
import Derived.Deep.DeepCutAuto
import Derived.Deep.CutBlock
set_option linter.unusedVariables false
set_option linter.unusedSimpArgs false
namespace Go.Proofs.YtolkchkedieppaaGreat
open Go.RowKit
attribute [local go_sem ↓] Go.wp_at_zero Go.wp_at_succ
/-- one block is kept by a call that makes blocks alone -/
theorem kept1 {W w1 : World} (hb : Below W.heap.size W w1) (b : Nat) (h : b < W.heap.size) :
  (∀ o, w1.cell? ⟨b, o, none⟩ = W.cell? ⟨b, o, none⟩) ∧ (∀ o, w1.frozen? ⟨b, o, none⟩ = W.frozen? ⟨b, o, none⟩) :=
 ⟨fun o => hb.cell (p := ⟨_, o, none⟩) h, fun o => hb.frozen (p := ⟨_, o, none⟩) h⟩
theorem keep_al {w : World} {a : Addr} {v : Value} {o : Obj} (h : w.cell? a = some v) : (w.alloc o).cell? a = some v := (World.cell?_alloc_some w a o (by rw [h]; rfl)).trans h
theorem keep_set {w : World} {p a : Addr} {v x : Value} (hb : p.block ≠ a.block) (h : w.cell? a = some v) : (w.setCell p x).cell? a = some v := (World.cell?_setCell_far w p a x hb).trans h
theorem keep_off {w : World} {b o b' o' : Nat} {v x : Value} (hb : o' ≠ o) (h : w.cell? ⟨b', o', none⟩ = some v) : (w.setCell ⟨b, o, none⟩ x).cell? ⟨b', o', none⟩ = some v :=
 (cell?_setCell_ne' w ⟨b, o, none⟩ ⟨b', o', none⟩ x (by intro e; injection e with _ e2; exact hb e2) rfl rfl).trans h
theorem keep_below {w w' : World} {B : Nat} {a : Addr} {v : Value} (hb : Below B w w') (ha : a.block < B) (h : w.cell? a = some v) : w'.cell? a = some v := (hb.cell ha).trans h
theorem set_self {w : World} {a : Addr} {u v : Value} (h : w.cell? a = some u) : (w.setCell a v).cell? a = some v := by
 simp [go_sem, h]
theorem own0 {w : World} {b : Nat} {x y : Value} {t : TypeId} (hb : b = w.heap.size) : (w.alloc (.cells #[x, y] t)).cell? ⟨b, 0, none⟩ = some x := by subst hb; simp [go_sem]
theorem own1 {w : World} {b : Nat} {x y : Value} {t : TypeId} (hb : b = w.heap.size) : (w.alloc (.cells #[x, y] t)).cell? ⟨b, 1, none⟩ = some y := by subst hb; simp [go_sem]
theorem set0 {w : World} {b : Nat} {v : Value} (h : w.cell? ⟨b, 0, none⟩ = some (.bool false)) : (w.setCell ⟨b, 0, none⟩ v).cell? ⟨b, 0, none⟩ = some v := set_self h
theorem set1 {w : World} {b : Nat} {v : Value} (h : w.cell? ⟨b, 1, none⟩ = some (.slice none 0 0)) : (w.setCell ⟨b, 1, none⟩ v).cell? ⟨b, 1, none⟩ = some v := set_self h
theorem keep_drew {w : World} {a : Addr} {v : Value} (h : w.cell? a = some v) : w.drew.cell? a = some v := h
theorem sB {w1 W : World} {p q : Addr} {u v : Value} (x0 : w1.cell? p = some u) (x1 : w1.cell? q = some v) (k0 : p.block < w1.heap.size) (k1 : q.block < w1.heap.size) (hb : Below w1.heap.size w1 W) :
  W.cell? p = some u ∧ W.cell? q = some v ∧ Below w1.heap.size w1 W := ⟨(hb.cell k0).trans x0, (hb.cell k1).trans x1, hb⟩
theorem boxes4 (w : World) (a b c d : Obj) : Below w.heap.size w ((((w.alloc a).alloc b).alloc c).alloc d) :=
 (boxes3 w a b c).alloc (by first | omega | (simp; done) | (simp; omega)) _
theorem stores4 {w : World} {v : Value} {x b c : Nat} (h : Mag w v x) (u0 u1 u2 u3 : Value) (hbc : b ≠ c) (f0 : w.cell? ⟨b, 0, none⟩ = some (.bool false)) (f1 : w.cell? ⟨b, 1, none⟩ = some (.slice none 0 0))
  (f4 : w.cell? ⟨c, 0, none⟩ = some (.bool false)) (f5 : w.cell? ⟨c, 1, none⟩ = some (.slice none 0 0)) :
  Mag ((((w.setCell ⟨b, 0, none⟩ u0).setCell ⟨b, 1, none⟩ u1).setCell ⟨c, 0, none⟩ u2).setCell ⟨c, 1, none⟩ u3) v x :=
 (h.store2 u0 u1 f0 f1 (noInt_bool _) (noInt_slice _ _ _)).store2 u2 u3 (keep_set hbc (keep_set hbc f4)) (keep_set hbc (keep_set hbc f5)) (noInt_bool _) (noInt_slice _ _ _)
set_option maxHeartbeats 8000000 in
theorem quo_exact (x y : Value) (p : Int) (g : Nat) (k : Nat) (w : World) (ha : IntIs w x p k) (hb : IntIs w y (g : Int) k) (hg : 0 < g) (hd : g ∣ p.natAbs) (hk : k ≤ 549755813888) :
  Calls Tryz.prog 66 #[x, y] w fun e w' => ∃ r r2, e = .returned (.tuple #[r, r2]) ∧ IntIs w' r (p / (g : Int)) k ∧ IntIs w' r2 0 k ∧ Below w.heap.size w w' := by
 obtain ⟨u, rfl, hu, bu⟩ := ha
 obtain ⟨v, rfl, hv, bv⟩ := hb
 rw [Int.natAbs_natCast] at hv bv
 have HU := Lib.hid hu
 have HV := Lib.hid hv
 obtain ⟨a1, b1, o1, c1, rfl, i1⟩ := hu
 obtain ⟨a2, b2, o2, c2, rfl, i2⟩ := hv
 have e2 : decide ((g : Int) < 0) = false := by simp
 rw [e2]
 clear e2
 obtain ⟨s1, hs1⟩ : ∃ s, s = decide (p < 0) := ⟨_, rfl⟩
 rw [← hs1]
 obtain ⟨N, hN⟩ : ∃ N, N = p.natAbs := ⟨_, rfl⟩
 rw [← hN] at HU i1 hd bu ⊢
 have hmod : N % g = 0 := Nat.mod_eq_zero_of_dvd hd
 have hq : sgn s1 (N / g) = p / (g : Int) := by
  obtain ⟨q, hq⟩ := hd
  have hgz : (g : Int) ≠ 0 := by omega
  rw [hq, Nat.mul_div_cancel_left _ hg, hs1]
  unfold sgn
  have hpa : (p.natAbs : Int) = (g : Int) * (q : Int) := by rw [← hN, hq, Int.natCast_mul]
  by_cases hp : p < 0
  ·have : p = (g : Int) * (-(q : Int)) := by rw [Int.mul_neg]; omega
   simp only [hp, decide_true, if_true]
   rw [this, Int.mul_ediv_cancel_left _ hgz]
  ·have : p = (g : Int) * (q : Int) := by omega
   simp only [hp, decide_false, Bool.false_eq_true, if_false]
   rw [this, Int.mul_ediv_cancel_left _ hgz]
 have HQ := Lib.hid hq
 have HM := Lib.hid hmod
 clear hq hmod hs1 hN hd i1 i2
 have HB : Hid (Below w.heap.size w ((((w.alloc (Obj.cells #[Value.bool s1, Value.slice a1 (nl N) c1] 112)).alloc (Obj.cells #[Value.bool false, Value.slice a2 (nl g) c2] 112)).alloc (Obj.cells #[.bool false, .slice none 0 0] 112)).alloc (Obj.cells #[.bool false, .slice none 0 0] 112))) := boxes4 w _ _ _ _
 go_enter Tryz.func66, Tryz.ntmps66
 go_upto_region 2 with (go_at_call 119; refine (part_any _ _ N g _ (HU.out.mono HB.out (Nat.le_refl _)) (HV.out.mono HB.out (Nat.le_refl _)) hg (by omega) (by omega)).mono ?_; rintro e w1 ⟨qv, rv, rfl, hqv, hrv, hb1⟩; obtain ⟨q1, q2, q3, q4, q5, q6, hz1, HB1⟩ := kept3 (w := w) hb1 (by simp) HB.out; obtain ⟨q7, q8⟩ := kept1 hb1 (w.heap.size + 1 + 1 + 1) (by simp); have hz4 : w.heap.size + 4 ≤ w1.heap.size := (by have := hb1.size; simpa using this); have k0 : w.heap.size < w1.heap.size := (by omega); have k1 : w.heap.size + 1 < w1.heap.size := (by omega); have k2 : w.heap.size + 1 + 1 < w1.heap.size := (by omega); have k3 : w.heap.size + 1 + 1 + 1 < w1.heap.size := (by omega))
 obtain ⟨Q, hQ⟩ : ∃ Q, Q = N / g := ⟨_, rfl⟩
 rw [← hQ] at hqv HQ
 have hQN : nl Q ≤ k := Nat.le_trans (nl_mono (by rw [hQ]; exact Nat.div_le_self _ _)) bu
 clear hQ
 have HQV := Lib.hid hqv
 have HRV := Lib.hid hrv
 rw [HM.out] at HRV
 obtain ⟨a3, b3, o3, c3, rfl, i3⟩ := hqv
 rw [HM.out] at hrv
 obtain ⟨a4, b4, o4, c4, rfl, i4⟩ := hrv
 clear i3 i4
 have e0 : nl 0 = 0 := nl_zero
 rw [e0] at HRV ⊢
 have x0 : w1.cell? ⟨w.heap.size, 0, none⟩ = some (.bool s1) := by rw [q1]; simp [go_sem]
 have x1 : w1.cell? ⟨w.heap.size + 1, 0, none⟩ = some (.bool false) := by rw [q2]; simp [go_sem]
 have hB0 : Below w1.heap.size w1 w1.drew := (Below.refl _ _).drew
 go_cut [8, 9] (fun v8 v9 wx => ∃ b8 b9 : Nat, v8 = .pointer (some ⟨b8, 0, none⟩) ∧ v9 = .pointer (some ⟨b9, 0, none⟩) ∧ wx.cell? ⟨b8, 0, none⟩ = some (.bool (s1 && decide (0 < Q))) ∧ wx.cell? ⟨b8, 1, none⟩ = some (.slice a3 (nl Q) c3) ∧
   wx.cell? ⟨b9, 0, none⟩ = some (.bool false) ∧ wx.cell? ⟨b9, 1, none⟩ = some (.slice a4 0 c4) ∧
   w1.heap.size ≤ b8 ∧ w1.heap.size ≤ b9 ∧ Below w1.heap.size w1 wx)
 case first =>
  clear HU HV
  go_region_held3 (fun w' => w'.cell? ⟨w.heap.size, 0, none⟩ = some (.bool s1) ∧ w'.cell? ⟨w.heap.size + 1, 0, none⟩ = some (.bool false) ∧ Below w1.heap.size w1 w') ((go_split_ands; refine sB x0 x1 k0 k1 ?_; repeat (first | assumption | exact Below.refl _ _ | refine Below.drew ?_ | refine Below.alloc ?_ (by first | omega | (exact Below.size (B := w1.heap.size) (by assumption)) | (simp; done) | (simp; omega)) _ | refine Below.setCell ?_ (by (dsimp only; (first | omega | (simp; omega)))) _ | refine Below.trans ?_ (Below.mono (by assumption) (Below.size (B := w1.heap.size) (by assumption))))))
   (first
    | (go_at_call 115; (with_reducible refine (made_any (.slice a3 (nl Q) c3) s1 Q _ (Mag.mono HQV.out (by go_split_ands; assumption) (Nat.le_refl _))).mono ?_); rintro e w2 ⟨rfl, hm2, hb2⟩; clear hm2; have hw2 : Below w1.heap.size w1 w2 := (by go_split_ands; exact Below.trans (by assumption) (Below.mono hb2 (Below.size (B := w1.heap.size) (w := w1) (by assumption)))); have hz2 := hw2.size; have hy2 := hb2.size; (try simp only [World.size_alloc, World.size_drew, World.size_setCell] at hy2); (try have v1 : w1.heap.size < w2.heap.size := (by omega)); (try have v2 : w1.heap.size + 1 < w2.heap.size := (by omega)); (try have r1 := (kept1 hb2 (w1.heap.size) (by first | omega | (simp; done) | (simp; omega))).1); (try have r2 := (kept1 hb2 (w1.heap.size) (by first | omega | (simp; done) | (simp; omega))).2); (try have r3 := (kept1 hb2 (w1.heap.size + 1) (by first | omega | (simp; done) | (simp; omega))).1); (try have r4 := (kept1 hb2 (w1.heap.size + 1) (by first | omega | (simp; done) | (simp; omega))).2))
    | (go_at_call 115; (with_reducible refine (made_any (.slice a4 0 c4) s1 0 _ (Mag.mono HRV.out (by go_split_ands; assumption) (Nat.le_refl _))).mono ?_); rintro e w3 ⟨rfl, hm3, hb3⟩; clear hm3; have hw3 : Below w1.heap.size w1 w3 := (by go_split_ands; exact Below.trans (by assumption) (Below.mono hb3 (Below.size (B := w1.heap.size) (w := w1) (by assumption)))); have hz3 := hw3.size; have hy3 := hb3.size; (try simp only [World.size_alloc, World.size_drew, World.size_setCell] at hy3); (try have u1 : w2.heap.size < w3.heap.size := (by omega)); (try have u2 : w2.heap.size + 1 < w3.heap.size := (by omega)); (try have u3 : w1.heap.size < w3.heap.size := (by omega)); (try have u4 : w1.heap.size + 1 < w3.heap.size := (by omega)); (try have t1 := (kept1 hb3 (w2.heap.size) (by first | omega | (simp; done) | (simp; omega))).1); (try have t2 := (kept1 hb3 (w2.heap.size) (by first | omega | (simp; done) | (simp; omega))).2); (try have t3 := (kept1 hb3 (w2.heap.size + 1) (by first | omega | (simp; done) | (simp; omega))).1); (try have t4 := (kept1 hb3 (w2.heap.size + 1) (by first | omega | (simp; done) | (simp; omega))).2); (try have t5 := (kept1 hb3 (w1.heap.size) (by first | omega | (simp; done) | (simp; omega))).1); (try have t6 := (kept1 hb3 (w1.heap.size) (by first | omega | (simp; done) | (simp; omega))).2); (try have t7 := (kept1 hb3 (w1.heap.size + 1) (by first | omega | (simp; done) | (simp; omega))).1); (try have t8 := (kept1 hb3 (w1.heap.size + 1) (by first | omega | (simp; done) | (simp; omega))).2)))
  all_goals
   go_wp2_with fail
   go_meet
   case rel =>
    go_split_ands
    refine ⟨_, _, rfl, rfl, ?_, ?_, ?_, ?_, by first | omega | (simp; done) | (simp; omega), by first | omega | (simp; done) | (simp; omega), by assumption⟩ <;> (repeat (first | (with_reducible refine own0 ?_; (first | with_reducible rfl | (simp only [World.size_alloc, World.size_drew, World.size_setCell]; done))) | (with_reducible refine own1 ?_; (first | with_reducible rfl | (simp only [World.size_alloc, World.size_drew, World.size_setCell]; done))) | with_reducible refine keep_drew ?_ | with_reducible refine keep_al ?_ | (with_reducible refine keep_off ?_ ?_; (· decide)) | (with_reducible refine keep_set ?_ ?_; (· (dsimp only; omega))) | with_reducible refine set0 ?_ | with_reducible refine set1 ?_ | (with_reducible refine keep_below hb3 ?_ ?_; (· (first | (dsimp only; omega) | (simp only [World.size_alloc, World.size_drew, World.size_setCell]; omega)))) | (with_reducible refine keep_below hb2 ?_ ?_; (· (first | (dsimp only; omega) | (simp only [World.size_alloc, World.size_drew, World.size_setCell]; omega))))))
 case rest =>
  obtain ⟨b8, b9, rfl, rfl, g1, g2, g3, g4, hb8, hb9, HBX⟩ := hcut
  have f0 : wc.cell? ⟨w.heap.size + 1 + 1, 0, none⟩ = some (.bool false) := by rw [HBX.cell (by dsimp only; omega), q3]; simp [go_sem]
  have f1 : wc.cell? ⟨w.heap.size + 1 + 1, 1, none⟩ = some (.slice none 0 0) := by rw [HBX.cell (by dsimp only; omega), q3]; simp [go_sem]
  have f2 : wc.frozen? ⟨w.heap.size + 1 + 1, 0, none⟩ = false := by rw [HBX.frozen (by dsimp only; omega), q6]; simp [go_sem]
  have f3 : wc.frozen? ⟨w.heap.size + 1 + 1, 1, none⟩ = false := by rw [HBX.frozen (by dsimp only; omega), q6]; simp [go_sem]
  have f4 : wc.cell? ⟨w.heap.size + 1 + 1 + 1, 0, none⟩ = some (.bool false) := by rw [HBX.cell (by dsimp only; omega), q7]; simp [go_sem]
  have f5 : wc.cell? ⟨w.heap.size + 1 + 1 + 1, 1, none⟩ = some (.slice none 0 0) := by rw [HBX.cell (by dsimp only; omega), q7]; simp [go_sem]
  have f6 : wc.frozen? ⟨w.heap.size + 1 + 1 + 1, 0, none⟩ = false := by rw [HBX.frozen (by dsimp only; omega), q8]; simp [go_sem]
  have f7 : wc.frozen? ⟨w.heap.size + 1 + 1 + 1, 1, none⟩ = false := by rw [HBX.frozen (by dsimp only; omega), q8]; simp [go_sem]
  have M3 := Lib.hid (Mag.mono HQV.out HBX (Nat.le_refl _))
  have M4 := Lib.hid (Mag.mono HRV.out HBX (Nat.le_refl _))
  have HX := Lib.hid (HB1.out.trans (HBX.mono (by omega)))
  clear q1 q2 q3 q4 q5 q6 q7 q8 HBX hb1
  go_wp2
  go_region_held3 (fun w' => w'.cell? ⟨b8, 0, none⟩ = some (.bool (s1 && decide (0 < Q))) ∧ w'.cell? ⟨b8, 1, none⟩ = some (.slice a3 (nl Q) c3) ∧ w'.cell? ⟨b9, 0, none⟩ = some (.bool false) ∧ w'.cell? ⟨b9, 1, none⟩ = some (.slice a4 0 c4))
   ((go_split_ands; refine ⟨?_, ?_, ?_, ?_⟩ <;> (repeat (first | with_reducible assumption | with_reducible refine keep_drew ?_ | (with_reducible refine keep_set ?_ ?_; (· (dsimp only; omega))))))) (fail)
  all_goals go_wp2
  all_goals
   refine bodyPost_ret (v := .tuple #[.agg #[.bool (s1 && decide (0 < Q)), .slice a3 (nl Q) c3], .agg #[.bool false, .slice a4 0 c4]]) (by simp [results, Tryz.results66, go_sem, f0, f1, f2, f3, f4, f5, f6, f7]) rfl ?_
   refine ⟨_, _, rfl, ?_, ?_, ?_⟩
  all_goals
   first
    | (refine IntIs.mk (s := s1) (x := Q) HQ.out.symm ?_ hQN)
    | (refine IntIs.mk (s := false) (x := 0) (by simp [sgn]) ?_ (by rw [nl_zero]; exact Nat.zero_le _))
    | (refine ((((HX.out.setCell ?_ _).setCell ?_ _).setCell ?_ _).setCell ?_ _).drew <;> (dsimp only; omega))
  all_goals
   first
    | (with_reducible refine Mag.drew ?_; with_reducible refine stores4 M3.out _ _ _ _ ?_ f0 f1 f4 f5; omega)
    | (with_reducible refine Mag.drew ?_; with_reducible refine stores4 M3.out _ _ _ _ ?_ f4 f5 f0 f1; omega)
    | (with_reducible refine Mag.drew ?_; with_reducible refine stores4 M4.out _ _ _ _ ?_ f0 f1 f4 f5; omega)
    | (with_reducible refine Mag.drew ?_; with_reducible refine stores4 M4.out _ _ _ _ ?_ f4 f5 f0 f1; omega)
end Go.Proofs.YtolkchkedieppaaGreat

/- The methods of Rat of package num: Whole, FromInt, Neg, Sign, Integer. -/
namespace Go.Proofs.YtolkchkedieppaaGreat
open Go.RowKit
attribute [local go_sem ↓] Go.wp_at_zero Go.wp_at_succ
theorem RatIs.shape {w : World} {v : Value} {q : Rat} {m : Nat} (h : RatIs w v q m) : ∃ s a n c a2 n2 c2, v = .agg #[.bool s, .slice a n c, .bool false, .slice a2 n2 c2] ∧ Hid (RatIs w (.agg #[.bool s, .slice a n c, .bool false, .slice a2 n2 c2]) q m) := by
 have h0 := h
 obtain ⟨u, d, rfl, ⟨a, b, o, c, rfl, hs⟩, ⟨a2, b2, o2, c2, rfl, hs2⟩, h2⟩ := h
 exact ⟨_, a, _, c, a2, _, c2, rfl, h0⟩
/-- the numerator and the denominator of a Rat as Ints -/
theorem RatIs.num {w : World} {s t : Bool} {u d : Value} {q : Rat} {m : Nat} (h : RatIs w (.agg #[.bool s, u, .bool t, d]) q m) : IntIs w (.agg #[.bool s, u]) q.num m := by
 obtain ⟨u', d', e, hu, hd, b1, b2⟩ := h
 injection e with e
 injection e with e
 injection e with e1 e
 injection e with e2 e
 injection e with e3 e
 injection e with e4 e
 subst e2; subst e4
 exact ⟨u, by rw [e1], hu, b1⟩
theorem RatIs.den {w : World} {s t : Bool} {u d : Value} {q : Rat} {m : Nat} (h : RatIs w (.agg #[.bool s, u, .bool t, d]) q m) : IntIs w (.agg #[.bool t, d]) (q.den : Int) m := by
 obtain ⟨u', d', e, hu, hd, b1, b2⟩ := h
 injection e with e
 injection e with e
 injection e with e1 e
 injection e with e2 e
 injection e with e3 e
 injection e with e4 e
 subst e2; subst e4
 exact ⟨d, by rw [e3]; simp, by rw [Int.natAbs_natCast]; exact hd, by rw [Int.natAbs_natCast]; exact b2⟩
/-- a Rat of two Ints -/
theorem RatIs.mk {w : World} {s t : Bool} {u d : Value} {q : Rat} {m : Nat} (h1 : IntIs w (.agg #[.bool s, u]) q.num m) (h2 : IntIs w (.agg #[.bool t, d]) (q.den : Int) m) : RatIs w (.agg #[.bool s, u, .bool t, d]) q m := by
 obtain ⟨u', e, hu, b1⟩ := h1
 obtain ⟨d', e', hd, b2⟩ := h2
 injection e with e
 injection e with e
 injection e with e1 e
 injection e with e2 e
 injection e' with e'
 injection e' with e'
 injection e' with e3 e'
 injection e' with e4 e'
 subst e2; subst e4
 rw [Int.natAbs_natCast] at hd b2
 exact ⟨u, d, by rw [e1, e3]; simp, hu, hd, b1, b2⟩
theorem RatIs.le {w : World} {v : Value} {q : Rat} {m n : Nat} (h : RatIs w v q m) (hmn : m ≤ n) : RatIs w v q n := by
 obtain ⟨u, d, rfl, h1, h2, h3, h4⟩ := h
 exact ⟨u, d, rfl, h1, h2, Nat.le_trans h3 hmn, Nat.le_trans h4 hmn⟩
theorem RatIs.store4 {w : World} {v : Value} {q : Rat} {m b : Nat} (h : RatIs w v q m) (u0 u1 u2 u3 : Value) {v0 v1 v2 v3 : Value} (h0 : w.cell? ⟨b, 0, none⟩ = some v0) (h1 : w.cell? ⟨b, 1, none⟩ = some v1)
  (h2 : w.cell? ⟨b, 2, none⟩ = some v2) (h3 : w.cell? ⟨b, 3, none⟩ = some v3) (n0 : NoInt v0) (n1 : NoInt v1) (n2 : NoInt v2) (n3 : NoInt v3) :
  RatIs ((((w.setCell ⟨b, 0, none⟩ u0).setCell ⟨b, 1, none⟩ u1).setCell ⟨b, 2, none⟩ u2).setCell ⟨b, 3, none⟩ u3) v q m := by
 obtain ⟨u, d, rfl, m1, m2, m3⟩ := h
 exact ⟨u, d, rfl, m1.store4 u0 u1 u2 u3 h0 h1 h2 h3 n0 n1 n2 n3, m2.store4 u0 u1 u2 u3 h0 h1 h2 h3 n0 n1 n2 n3, m3⟩
theorem RatIs.drawn {w w' : World} {v : Value} {q : Rat} {m : Nat} (h : RatIs w v q m) (hd : Drawn w w') : RatIs w' v q m := h.mono (hd.below _) (Nat.le_refl _)
theorem IntIs.drew {w : World} {v : Value} {z : Int} {m : Nat} (h : IntIs w v z m) : IntIs w.drew v z m := h.drawn (Drawn.of _ 1)
theorem RatIs.drew {w : World} {v : Value} {q : Rat} {m : Nat} (h : RatIs w v q m) : RatIs w.drew v q m := h.drawn (Drawn.of _ 1)
set_option maxHeartbeats 1000000 in
theorem rat_whole (n : Int) (h1 : -4611686018427387904 < n) (h2 : n < 4611686018427387904) (w : World) :
  Calls Tryz.prog 112 #[.int .i64 n] w fun e w' => ∃ r, e = .returned r ∧ RatIs w' r (n : Rat) 2 ∧ Below w.heap.size w w' := by
 have HB : Hid (Below w.heap.size w (w.alloc (Obj.cells #[.bool false, .slice none 0 0, .bool false, .slice none 0 0] 115))) := boxes1 w _
 go_enter Tryz.func112, Tryz.ntmps112
 go_wp2_with (first
  | (go_at_call 63; (with_reducible refine (int_of n h1 h2 _).mono ?_); rintro e w1 ⟨r1, rfl, hr1, hb1⟩; obtain ⟨s1, a1, n1, c1, rfl, H1⟩ := hr1.shape; clear hr1; obtain ⟨q1, q2⟩ := kept1 hb1 w.heap.size (by simp))
  | (go_at_call 63; (with_reducible refine (int_of 1 (by omega) (by omega) _).mono ?_); rintro e w2 ⟨r2, rfl, hr2, hb2⟩; obtain ⟨s2, a2, n2, c2, rfl, H2⟩ := hr2.shape; clear hr2; have hz1 := hb1.size; (try simp only [World.size_alloc] at hz1); obtain ⟨p1, p2⟩ := kept1 hb2 w.heap.size (by omega)))
 have x0 : w2.cell? ⟨w.heap.size, 0, none⟩ = some (.bool false) := by rw [p1, q1]; simp [go_sem]
 have x1 : w2.cell? ⟨w.heap.size, 1, none⟩ = some (.slice none 0 0) := by rw [p1, q1]; simp [go_sem]
 have x2 : w2.cell? ⟨w.heap.size, 2, none⟩ = some (.bool false) := by rw [p1, q1]; simp [go_sem]
 have x3 : w2.cell? ⟨w.heap.size, 3, none⟩ = some (.slice none 0 0) := by rw [p1, q1]; simp [go_sem]
 refine bodyPost_ret (v := .agg #[.bool s1, .slice a1 n1 c1, .bool s2, .slice a2 n2 c2]) (by simp [results, Tryz.results112, go_sem, x0, x1, x2, x3, p2, q2]) rfl ?_
 refine ⟨_, rfl, ?_, ?_⟩
 ·refine RatIs.store4 (RatIs.mk ?_ ?_) _ _ _ _ x0 x1 x2 x3 (noInt_bool _) (noInt_slice _ _ _) (noInt_bool _) (noInt_slice _ _ _)
  ·rw [Rat.num_intCast]; exact H1.out.mono hb2 (Nat.le_refl _)
  ·rw [Rat.den_intCast]; exact H2.out
 ·have h0 := (HB.out.trans (hb1.mono (by simp))).trans (hb2.mono (by omega))
  exact (((h0.setCell (Nat.le_refl _) _).setCell (Nat.le_refl _) _).setCell (Nat.le_refl _) _).setCell (Nat.le_refl _) _
end Go.Proofs.YtolkchkedieppaaGreat

/- The methods of Rat of package num: FromInt, Neg, Sign, Integer. -/
namespace Go.Proofs.YtolkchkedieppaaGreat
open Go.RowKit
attribute [local go_sem ↓] Go.wp_at_zero Go.wp_at_succ
set_option maxHeartbeats 1000000 in
theorem rat_fromInt (x : Value) (n : Int) (k : Nat) (w : World) (hx : IntIs w x n k) (hk : 2 ≤ k) :
  Calls Tryz.prog 70 #[x] w fun e w' => ∃ r, e = .returned r ∧ RatIs w' r (n : Rat) k ∧ Below w.heap.size w w' := by
 obtain ⟨s1, a1, n1, c1, rfl, H1⟩ := hx.shape
 clear hx
 have HB : Hid (Below w.heap.size w ((w.alloc (Obj.cells #[.bool s1, .slice a1 n1 c1] 112)).alloc (Obj.cells #[.bool false, .slice none 0 0, .bool false, .slice none 0 0] 115))) := boxes2 w _ _
 go_enter Tryz.func70, Tryz.ntmps70
 go_wp2
 go_region_held3 (fun w' => w'.cell? ⟨w.heap.size, 0, none⟩ = some (.bool s1) ∧ w'.cell? ⟨w.heap.size, 1, none⟩ = some (.slice a1 n1 c1)) (go_keep)
  (first
  | (go_at_call 63; (with_reducible refine (int_of 1 (by omega) (by omega) _).mono ?_); rintro e w2 ⟨r2, rfl, hr2, hb2⟩; obtain ⟨s2, a2, n2, c2, rfl, H2⟩ := hr2.shape; clear hr2; obtain ⟨p1, p2⟩ := kept1 hb2 (w.heap.size + 1) (by simp); obtain ⟨p3, p4⟩ := kept1 hb2 w.heap.size (by simp; omega)))
 go_wp2
 have x0 : w2.cell? ⟨w.heap.size + 1, 0, none⟩ = some (.bool false) := by rw [p1]; simp [go_sem]
 have x1 : w2.cell? ⟨w.heap.size + 1, 1, none⟩ = some (.slice none 0 0) := by rw [p1]; simp [go_sem]
 have x2 : w2.cell? ⟨w.heap.size + 1, 2, none⟩ = some (.bool false) := by rw [p1]; simp [go_sem]
 have x3 : w2.cell? ⟨w.heap.size + 1, 3, none⟩ = some (.slice none 0 0) := by rw [p1]; simp [go_sem]
 refine bodyPost_ret (v := .agg #[.bool s1, .slice a1 n1 c1, .bool s2, .slice a2 n2 c2]) (by simp [results, Tryz.results70, go_sem, x0, x1, x2, x3, p2]) rfl ?_
 refine ⟨_, rfl, ?_, ?_⟩
 ·refine RatIs.store4 (RatIs.mk ?_ ?_) _ _ _ _ x0 x1 x2 x3 (noInt_bool _) (noInt_slice _ _ _) (noInt_bool _) (noInt_slice _ _ _)
  ·rw [Rat.num_intCast]; exact ((H1.out.mono HB.out (Nat.le_refl _)).drawn (Drawn.of _ 1)).mono hb2 (Nat.le_refl _)
  ·rw [Rat.den_intCast]; exact H2.out.le hk
 ·have h0 := HB.out.drew.trans (hb2.mono (by simp; omega))
  exact (((h0.setCell (by simp) _).setCell (by simp) _).setCell (by simp) _).setCell (by simp) _
set_option maxHeartbeats 1000000 in
theorem rat_sign (x : Value) (q : Rat) (k : Nat) (w : World) (hx : RatIs w x q k) :
  Calls Tryz.prog 189 #[x] w fun e w' => e = .returned (.int .i64 (sgnZ q.num)) ∧ Below w.heap.size w w' := by
 obtain ⟨s1, a1, n1, c1, a2, n2, c2, rfl, H1⟩ := hx.shape
 clear hx
 have HB : Hid (Below w.heap.size w (w.alloc (Obj.cells #[.bool s1, .slice a1 n1 c1, .bool false, .slice a2 n2 c2] 115))) := boxes1 w _
 go_enter Tryz.func189, Tryz.ntmps189
 go_wp2_with (first
  | (go_at_call 192; (with_reducible refine (int_sign _ q.num k _ (RatIs.num (H1.out.mono HB.out (Nat.le_refl _)))).mono ?_); rintro e w1 ⟨rfl, hb1⟩))
 refine bodyPost_ret (v := .int .i64 (sgnZ q.num)) (by simp [results, Tryz.results189, go_sem]) rfl ?_
 exact ⟨rfl, HB.out.trans (hb1.mono (by simp))⟩
set_option maxHeartbeats 1000000 in
theorem rat_neg (x : Value) (q : Rat) (k : Nat) (w : World) (hx : RatIs w x q k) :
  Calls Tryz.prog 118 #[x] w fun e w' => ∃ r, e = .returned r ∧ RatIs w' r (-q) k ∧ Below w.heap.size w w' := by
 obtain ⟨s1, a1, n1, c1, a2, n2, c2, rfl, H1⟩ := hx.shape
 clear hx
 have HB : Hid (Below w.heap.size w ((w.alloc (Obj.cells #[.bool s1, .slice a1 n1 c1, .bool false, .slice a2 n2 c2] 115)).alloc (Obj.cells #[.bool false, .slice none 0 0, .bool false, .slice none 0 0] 115))) := boxes2 w _ _
 go_enter Tryz.func118, Tryz.ntmps118
 go_wp2
 go_region_held3 (fun w' => w'.cell? ⟨w.heap.size, 0, none⟩ = some (.bool s1) ∧ w'.cell? ⟨w.heap.size, 1, none⟩ = some (.slice a1 n1 c1) ∧ w'.cell? ⟨w.heap.size, 2, none⟩ = some (.bool false) ∧ w'.cell? ⟨w.heap.size, 3, none⟩ = some (.slice a2 n2 c2)) (go_keep)
  (first
  | (go_at_call 141; (with_reducible refine (int_neg _ q.num k _ (RatIs.num (H1.out.mono HB.out (Nat.le_refl _))).drew).mono ?_); rintro e w2 ⟨r2, rfl, hr2, hb2⟩; obtain ⟨s3, a3, n3, c3, rfl, H2⟩ := hr2.shape; clear hr2; obtain ⟨p1, p2⟩ := kept1 hb2 (w.heap.size + 1) (by simp); obtain ⟨p3, p4⟩ := kept1 hb2 w.heap.size (by simp; omega)))
 go_wp2
 have x0 : w2.cell? ⟨w.heap.size + 1, 0, none⟩ = some (.bool false) := by rw [p1]; simp [go_sem]
 have x1 : w2.cell? ⟨w.heap.size + 1, 1, none⟩ = some (.slice none 0 0) := by rw [p1]; simp [go_sem]
 have x2 : w2.cell? ⟨w.heap.size + 1, 2, none⟩ = some (.bool false) := by rw [p1]; simp [go_sem]
 have x3 : w2.cell? ⟨w.heap.size + 1, 3, none⟩ = some (.slice none 0 0) := by rw [p1]; simp [go_sem]
 refine bodyPost_ret (v := .agg #[.bool s3, .slice a3 n3 c3, .bool false, .slice a2 n2 c2]) (by simp [results, Tryz.results118, go_sem, x0, x1, x2, x3, p2]) rfl ?_
 refine ⟨_, rfl, ?_, ?_⟩
 ·refine RatIs.store4 (RatIs.mk ?_ ?_) _ _ _ _ x0 x1 x2 x3 (noInt_bool _) (noInt_slice _ _ _) (noInt_bool _) (noInt_slice _ _ _)
  ·rw [Rat.neg_num]; exact H2.out
  ·rw [Rat.neg_den]; exact ((RatIs.den (H1.out.mono HB.out (Nat.le_refl _))).drawn (Drawn.of _ 1)).mono hb2 (Nat.le_refl _)
 ·have h0 := HB.out.drew.trans (hb2.mono (by simp; omega))
  exact (((h0.setCell (by simp) _).setCell (by simp) _).setCell (by simp) _).setCell (by simp) _
end Go.Proofs.YtolkchkedieppaaGreat

/- Over and Under of package num. -/
namespace Go.Proofs.YtolkchkedieppaaGreat
open Go.RowKit
attribute [local go_sem ↓] Go.wp_at_zero Go.wp_at_succ
set_option maxHeartbeats 1000000 in
theorem rat_under (x : Value) (q : Rat) (k : Nat) (w : World) (hx : RatIs w x q k) :
  Calls Tryz.prog 65 #[x] w fun e w' => ∃ a n c, e = .returned (.agg #[.bool false, .slice a n c]) ∧ Hid (IntIs w' (.agg #[.bool false, .slice a n c]) (q.den : Int) k) ∧ Below w.heap.size w w' := by
 obtain ⟨s1, a1, n1, c1, a2, n2, c2, rfl, H1⟩ := hx.shape
 clear hx
 have HB : Hid (Below w.heap.size w ((w.alloc (Obj.cells #[.bool s1, .slice a1 n1 c1, .bool false, .slice a2 n2 c2] 115)).alloc (Obj.cells #[.bool false, .slice a2 n2 c2] 112))) := boxes2 w _ _
 go_enter Tryz.func65, Tryz.ntmps65
 go_wp2
 refine bodyPost_ret (v := .agg #[.bool false, .slice a2 n2 c2]) (by simp [results, Tryz.results65, go_sem]) rfl ?_
 exact ⟨a2, n2, c2, rfl, Lib.hid (RatIs.den (H1.out.mono HB.out (Nat.le_refl _))), HB.out⟩
set_option maxHeartbeats 1000000 in
theorem rat_over (x : Value) (q : Rat) (k : Nat) (w : World) (hx : RatIs w x q k) :
  Calls Tryz.prog 71 #[x] w fun e w' => ∃ s a n c, e = .returned (.agg #[.bool s, .slice a n c]) ∧ Hid (IntIs w' (.agg #[.bool s, .slice a n c]) q.num k) ∧ Below w.heap.size w w' := by
 obtain ⟨s1, a1, n1, c1, a2, n2, c2, rfl, H1⟩ := hx.shape
 clear hx
 have HB : Hid (Below w.heap.size w ((w.alloc (Obj.cells #[.bool s1, .slice a1 n1 c1, .bool false, .slice a2 n2 c2] 115)).alloc (Obj.cells #[.bool s1, .slice a1 n1 c1] 112))) := boxes2 w _ _
 go_enter Tryz.func71, Tryz.ntmps71
 go_wp2
 refine bodyPost_ret (v := .agg #[.bool s1, .slice a1 n1 c1]) (by simp [results, Tryz.results71, go_sem]) rfl ?_
 exact ⟨s1, a1, n1, c1, rfl, Lib.hid (RatIs.num (H1.out.mono HB.out (Nat.le_refl _))), HB.out⟩
end Go.Proofs.YtolkchkedieppaaGreat

/- The methods of Rat of package num: Integer; Ratio. -/
namespace Go.Proofs.YtolkchkedieppaaGreat
open Go.RowKit
attribute [local go_sem ↓] Go.wp_at_zero Go.wp_at_succ
theorem nl_one : nl 1 = 1 := by decide
theorem rat_integer (x : Value) (q : Rat) (k : Nat) (w : World) (b : Bool) (hb : decide (q.den = 1) = b) (hx : RatIs w x q k) :
  Calls Tryz.prog 123 #[x] w fun e w' => e = .returned (.bool b) ∧ Below w.heap.size w w' := by
 obtain ⟨u, d, rfl, ⟨a1, b1, o1, c1, rfl, i1⟩, ⟨a2, b2, o2, c2, rfl, i2⟩, h3, h4⟩ := hx
 have HB := Lib.hid (fun (s : Bool) (n2 : Nat) => boxes1 w (Obj.cells #[.bool s, .slice a1 (nl q.num.natAbs) c1, .bool false, .slice a2 n2 c2] 115))
 generalize decide (q.num < 0) = s at *
 have hnum := nl_one
 by_cases h1 : nl q.den = 1
 ·have ha := i2.at_ (by omega)
  subst ha
  have hc := i2.cell 0 (by omega)
  have hlt := i2.lt (by omega)
  simp only [Nat.add_zero, lc] at hc
  have hv := valF_nl q.den
  rw [h1] at hv ⊢
  simp only [valF, Nat.zero_add, Nat.pow_zero, Nat.mul_one] at hv
  have HV := Lib.hid hv
  have HH := Lib.hid hb
  clear hv hb h1 i1 i2 h3 h4 hnum
  cases b with
  | true =>
   have e1 : q.den = 1 := by simpa using HH.out
   have hd : (((dig q.den 0 : Nat) : Int) == 1) = true := by rw [HV.out, e1]; rfl
   have HE := Lib.hid e1
   clear e1
   generalize dig q.den 0 = D at *
   go_enter Tryz.func123, Tryz.ntmps123
   go_wp2
   go_ret
   exact ⟨rfl, HB.out _ _⟩
  | false =>
   have e1 : q.den ≠ 1 := by simpa using HH.out
   have hd : (((dig q.den 0 : Nat) : Int) == 1) = false := by rw [HV.out]; simp; omega
   have HE := Lib.hid e1
   clear e1
   generalize dig q.den 0 = D at *
   go_enter Tryz.func123, Tryz.ntmps123
   go_wp2
   go_ret
   exact ⟨rfl, HB.out _ _⟩
 ·obtain rfl : b = false := by
   rw [← hb]; simp; intro h; rw [h] at h1; exact h1 hnum
  have hn : (((nl q.den : Nat) : Int) == 1) = false := by simp; omega
  clear h1 i1 i2 h3 h4 hnum hb
  go_enter Tryz.func123, Tryz.ntmps123
  go_wp2
  go_ret
  exact ⟨rfl, HB.out _ _⟩
end Go.Proofs.YtolkchkedieppaaGreat
