/- Blocks of two and of four cells that a call made itself, and what keeps them. -/
import Derived.Test.YtolkchkedieppaaGreatZTakes
import Derived.Test.YtolkchkedieppaaGreatZRat3
set_option linter.unusedVariables false
set_option linter.unusedSimpArgs false
namespace Go.Proofs.YtolkchkedieppaaGreat
open Go.RowKit
structure Own2 (w : World) (b : Nat) (x y : Value) : Prop where
  c0 : w.cell? ⟨b, 0, none⟩ = some x
  c1 : w.cell? ⟨b, 1, none⟩ = some y
  f : ∀ o, w.frozen? ⟨b, o, none⟩ = false
  lt : b < w.heap.size
structure Own4 (w : World) (b : Nat) (x y z u : Value) : Prop where
  c0 : w.cell? ⟨b, 0, none⟩ = some x
  c1 : w.cell? ⟨b, 1, none⟩ = some y
  c2 : w.cell? ⟨b, 2, none⟩ = some z
  c3 : w.cell? ⟨b, 3, none⟩ = some u
  f : ∀ o, w.frozen? ⟨b, o, none⟩ = false
  lt : b < w.heap.size
theorem Own2.below {w w' : World} {b B : Nat} {x y : Value} (h : Own2 w b x y) (hb : Below B w w') (hB : b < B) : Own2 w' b x y :=
  ⟨(hb.cell (p := ⟨b, 0, none⟩) hB).trans h.c0, (hb.cell (p := ⟨b, 1, none⟩) hB).trans h.c1, fun o => (hb.frozen (p := ⟨b, o, none⟩) hB).trans (h.f o), Nat.lt_of_lt_of_le h.lt hb.size⟩
theorem Own4.below {w w' : World} {b B : Nat} {x y z u : Value} (h : Own4 w b x y z u) (hb : Below B w w') (hB : b < B) : Own4 w' b x y z u :=
  ⟨(hb.cell (p := ⟨b, 0, none⟩) hB).trans h.c0, (hb.cell (p := ⟨b, 1, none⟩) hB).trans h.c1, (hb.cell (p := ⟨b, 2, none⟩) hB).trans h.c2, (hb.cell (p := ⟨b, 3, none⟩) hB).trans h.c3, fun o => (hb.frozen (p := ⟨b, o, none⟩) hB).trans (h.f o), Nat.lt_of_lt_of_le h.lt hb.size⟩
theorem Own2.alloc {w : World} {b : Nat} {x y : Value} (h : Own2 w b x y) (o : Obj) : Own2 (w.alloc o) b x y := h.below ((Below.refl w.heap.size w).alloc (Nat.le_refl _) o) h.lt
theorem Own4.alloc {w : World} {b : Nat} {x y z u : Value} (h : Own4 w b x y z u) (o : Obj) : Own4 (w.alloc o) b x y z u := h.below ((Below.refl w.heap.size w).alloc (Nat.le_refl _) o) h.lt
theorem Own2.drew {w : World} {b : Nat} {x y : Value} (h : Own2 w b x y) : Own2 w.drew b x y := ⟨h.c0, h.c1, h.f, h.lt⟩
theorem Own4.drew {w : World} {b : Nat} {x y z u : Value} (h : Own4 w b x y z u) : Own4 w.drew b x y z u := ⟨h.c0, h.c1, h.c2, h.c3, h.f, h.lt⟩
theorem Own2.drawn {w w' : World} {b : Nat} {x y : Value} (h : Own2 w b x y) (hd : Drawn w w') : Own2 w' b x y := h.below (hd.below w.heap.size) h.lt
theorem own2_new (w : World) (b : Nat) (hb : b = w.heap.size) (x y : Value) (t : TypeId) : Own2 (w.alloc (.cells #[x, y] t)) b x y := by
  subst hb
  exact ⟨by simp [go_sem], by simp [go_sem], fun o => by simp [go_sem], by simp⟩
theorem own4_new (w : World) (b : Nat) (hb : b = w.heap.size) (x y z u : Value) (t : TypeId) : Own4 (w.alloc (.cells #[x, y, z, u] t)) b x y z u := by
  subst hb
  exact ⟨by simp [go_sem], by simp [go_sem], by simp [go_sem], by simp [go_sem], fun o => by simp [go_sem], by simp⟩
theorem far_set (w : World) (b' o b o' : Nat) (v : Value) (hne : b' ≠ b) : (w.setCell ⟨b', o, none⟩ v).cell? ⟨b, o', none⟩ = w.cell? ⟨b, o', none⟩ :=
  cell?_setCell_ne' w _ _ v (by intro e; injection e with e1 _; exact hne e1.symm) rfl rfl
theorem Own2.setCell {w : World} {b : Nat} {x y : Value} (h : Own2 w b x y) (b' o : Nat) (v : Value) (hne : b' ≠ b) : Own2 (w.setCell ⟨b', o, none⟩ v) b x y :=
  ⟨(far_set w b' o b _ v hne).trans h.c0, (far_set w b' o b _ v hne).trans h.c1, fun o' => by rw [World.frozen?_setCell]; exact h.f o', by simp only [World.setCell, Array.size_modify]; exact h.lt⟩
theorem Own4.setCell {w : World} {b : Nat} {x y z u : Value} (h : Own4 w b x y z u) (b' o : Nat) (v : Value) (hne : b' ≠ b) : Own4 (w.setCell ⟨b', o, none⟩ v) b x y z u :=
  ⟨(far_set w b' o b _ v hne).trans h.c0, (far_set w b' o b _ v hne).trans h.c1, (far_set w b' o b _ v hne).trans h.c2, (far_set w b' o b _ v hne).trans h.c3, fun o' => by rw [World.frozen?_setCell]; exact h.f o', by simp only [World.setCell, Array.size_modify]; exact h.lt⟩
theorem Own4.set4 {w : World} {b : Nat} {x y z u : Value} (h : Own4 w b x y z u) (b' : Nat) (v0 v1 v2 v3 : Value) (hne : b' ≠ b) :
    Own4 ((((w.setCell ⟨b', 0, none⟩ v0).setCell ⟨b', 1, none⟩ v1).setCell ⟨b', 2, none⟩ v2).setCell ⟨b', 3, none⟩ v3) b x y z u :=
  (((h.setCell b' 0 v0 hne).setCell b' 1 v1 hne).setCell b' 2 v2 hne).setCell b' 3 v3 hne
theorem self_set {w : World} {b o : Nat} {v u : Value} (h : w.cell? ⟨b, o, none⟩ = some v) : (w.setCell ⟨b, o, none⟩ u).cell? ⟨b, o, none⟩ = some u := by simp [go_sem, h]
theorem off_set {w : World} {b o o' : Nat} {v u : Value} (hne : o' ≠ o) (h : w.cell? ⟨b, o', none⟩ = some v) : (w.setCell ⟨b, o, none⟩ u).cell? ⟨b, o', none⟩ = some v :=
  (cell?_setCell_ne' w ⟨b, o, none⟩ ⟨b, o', none⟩ u (by intro e; injection e with _ e2; exact hne e2) rfl rfl).trans h
/-- a block of four cells, all four of them stored anew -/
theorem Own4.anew {w : World} {b : Nat} {x y z u : Value} (h : Own4 w b x y z u) (v0 v1 v2 v3 : Value) :
    Own4 ((((w.setCell ⟨b, 0, none⟩ v0).setCell ⟨b, 1, none⟩ v1).setCell ⟨b, 2, none⟩ v2).setCell ⟨b, 3, none⟩ v3) b v0 v1 v2 v3 :=
  ⟨off_set (by decide) (off_set (by decide) (off_set (by decide) (self_set h.c0))),
   off_set (by decide) (off_set (by decide) (self_set (off_set (by decide) h.c1))),
   off_set (by decide) (self_set (off_set (by decide) (off_set (by decide) h.c2))),
   self_set (off_set (by decide) (off_set (by decide) (off_set (by decide) h.c3))),
   fun o => by simp only [World.frozen?_setCell]; exact h.f o, by simp only [World.setCell, Array.size_modify]; exact h.lt⟩
/-- four cells in a row, at offset o of a block -/
structure Rd4 (w : World) (b o : Nat) (x y z u : Value) : Prop where
  c0 : w.cell? ⟨b, o, none⟩ = some x
  c1 : w.cell? ⟨b, o + 1, none⟩ = some y
  c2 : w.cell? ⟨b, o + 2, none⟩ = some z
  c3 : w.cell? ⟨b, o + 3, none⟩ = some u
  lt : b < w.heap.size
theorem Rd4.below {w w' : World} {b o B : Nat} {x y z u : Value} (h : Rd4 w b o x y z u) (hb : Below B w w') (hB : b < B) : Rd4 w' b o x y z u :=
  ⟨(hb.cell (p := ⟨b, o, none⟩) hB).trans h.c0, (hb.cell (p := ⟨b, o + 1, none⟩) hB).trans h.c1, (hb.cell (p := ⟨b, o + 2, none⟩) hB).trans h.c2, (hb.cell (p := ⟨b, o + 3, none⟩) hB).trans h.c3, Nat.lt_of_lt_of_le h.lt hb.size⟩
end Go.Proofs.YtolkchkedieppaaGreat

/- The methods of Rat of package num: Ratio, where the denominator is above 0. -/
namespace Go.Proofs.YtolkchkedieppaaGreat
open Go.RowKit
attribute [local go_sem ↓] Go.wp_at_zero Go.wp_at_succ
theorem IntIs.shapeN {w : World} {v : Value} {d m : Nat} (h : IntIs w v (d : Int) m) : ∃ a n c, v = .agg #[.bool false, .slice a n c] ∧ Hid (IntIs w (.agg #[.bool false, .slice a n c]) (d : Int) m) := by
  have h0 := h
  obtain ⟨u, rfl, ⟨a, b, o, c, rfl, hs⟩, h2⟩ := h
  have e : decide ((d : Int) < 0) = false := by simp
  rw [e] at h0 ⊢
  exact ⟨a, _, c, rfl, h0⟩
theorem sgnZ_one (G : Nat) (h : G = 1) : (sgnZ ((G : Int) - 1) == 0) = true := by subst h; rfl
theorem sgnZ_other (G : Nat) (h : G ≠ 1) : (sgnZ ((G : Int) - 1) == 0) = false := by
  unfold sgnZ
  rw [if_neg (by omega)]
  split <;> rfl
/-- a Rat stored into a block of the call's own -/
theorem RatIs.into {w : World} {v : Value} {q : Rat} {m b : Nat} (h : RatIs w v q m) (u0 u1 u2 u3 : Value) (ho : Own4 w b (.bool false) (.slice none 0 0) (.bool false) (.slice none 0 0)) :
    RatIs ((((w.setCell ⟨b, 0, none⟩ u0).setCell ⟨b, 1, none⟩ u1).setCell ⟨b, 2, none⟩ u2).setCell ⟨b, 3, none⟩ u3) v q m :=
  h.store4 u0 u1 u2 u3 ho.c0 ho.c1 ho.c2 ho.c3 (noInt_bool _) (noInt_slice _ _ _) (noInt_bool _) (noInt_slice _ _ _)
theorem below_set4 {B : Nat} {w0 w : World} {b : Nat} (h : Below B w0 w) (hB : B ≤ b) (u0 u1 u2 u3 : Value) :
    Below B w0 ((((w.setCell ⟨b, 0, none⟩ u0).setCell ⟨b, 1, none⟩ u1).setCell ⟨b, 2, none⟩ u2).setCell ⟨b, 3, none⟩ u3) :=
  (((h.setCell hB _).setCell hB _).setCell hB _).setCell hB _
set_option maxHeartbeats 2000000 in
theorem ratio_one (x y : Value) (p : Int) (d : Nat) (k : Nat) (w : World) (hx : IntIs w x p k) (hy : IntIs w y (d : Int) k) (hd : 0 < d) (hk2 : 2 ≤ k) (hk : k ≤ 549755813888) (h1 : Nat.gcd p.natAbs d = 1) :
    Calls Tryz.prog 124 #[x, y] w fun e w' => ∃ r, e = .returned r ∧ RatIs w' r (mkRat p d) k ∧ Below w.heap.size w w' := by
  obtain ⟨s1, a1, n1, c1, rfl, H1⟩ := hx.shape
  obtain ⟨a2, n2, c2, rfl, H2⟩ := hy.shapeN
  obtain ⟨G, hG⟩ : ∃ G, G = Int.gcd p (d : Int) := ⟨_, rfl⟩
  have hsg := sgnZ_one G (by rw [hG]; exact h1)
  have HG := Lib.hid hG
  have H11 := Lib.hid h1
  clear hG h1 hx hy
  have O1 : Hid (Own2 (((w.alloc (Obj.cells #[Value.bool s1, Value.slice a1 n1 c1] 112)).alloc (Obj.cells #[Value.bool false, Value.slice a2 n2 c2] 112)).alloc (Obj.cells #[.bool false, .slice none 0 0, .bool false, .slice none 0 0] 115)) w.heap.size (.bool s1) (.slice a1 n1 c1)) := ((own2_new _ _ rfl _ _ _).alloc _).alloc _
  have O2 : Hid (Own2 (((w.alloc (Obj.cells #[Value.bool s1, Value.slice a1 n1 c1] 112)).alloc (Obj.cells #[Value.bool false, Value.slice a2 n2 c2] 112)).alloc (Obj.cells #[.bool false, .slice none 0 0, .bool false, .slice none 0 0] 115)) (w.heap.size + 1) (.bool false) (.slice a2 n2 c2)) := (own2_new _ _ (by simp) _ _ _).alloc _
  have O3 : Hid (Own4 (((w.alloc (Obj.cells #[Value.bool s1, Value.slice a1 n1 c1] 112)).alloc (Obj.cells #[Value.bool false, Value.slice a2 n2 c2] 112)).alloc (Obj.cells #[.bool false, .slice none 0 0, .bool false, .slice none 0 0] 115)) (w.heap.size + 1 + 1) (.bool false) (.slice none 0 0) (.bool false) (.slice none 0 0)) := own4_new _ _ (by simp) _ _ _ _ _
  have HB : Hid (Below w.heap.size w (((w.alloc (Obj.cells #[Value.bool s1, Value.slice a1 n1 c1] 112)).alloc (Obj.cells #[Value.bool false, Value.slice a2 n2 c2] 112)).alloc (Obj.cells #[.bool false, .slice none 0 0, .bool false, .slice none 0 0] 115))) := boxes3 w _ _ _
  go_enter Tryz.func124, Tryz.ntmps124
  go_wp2_with (first
    | (go_at_call 67; (with_reducible refine (int_gcd _ _ p (d : Int) k _ (H1.out.mono HB.out (Nat.le_refl _)) (H2.out.mono HB.out (Nat.le_refl _)) hk).mono ?_); rintro e w1 ⟨r, rfl, hr, hb1⟩; rw [← HG.out] at hr; obtain ⟨a3, n3, c3, rfl, H3⟩ := hr.shapeN; clear hr; have P1 := Lib.hid (O1.out.below hb1 O1.out.lt); have P2 := Lib.hid (O2.out.below hb1 O2.out.lt); have P3 := Lib.hid (O3.out.below hb1 O3.out.lt); obtain ⟨x10, x11, _, _⟩ := P1.out; obtain ⟨x20, x21, _, xl2⟩ := P2.out; obtain ⟨_, _, _, _, _, xl3⟩ := P3.out; have HB1 := Lib.hid (HB.out.trans (hb1.mono (by simp; omega))); clear hb1))
  have HA1 : Hid (Below w1.heap.size w1 (w1.alloc (Obj.cells #[Value.bool false, Value.slice a3 n3 c3] 112))) := boxes1 w1 _
  have O4 : Hid (Own2 (w1.alloc (Obj.cells #[Value.bool false, Value.slice a3 n3 c3] 112)) w1.heap.size (.bool false) (.slice a3 n3 c3)) := own2_new _ _ rfl _ _ _
  go_region_held3 (fun w' => w'.cell? ⟨w1.heap.size, 0, none⟩ = some (.bool false) ∧ w'.cell? ⟨w1.heap.size, 1, none⟩ = some (.slice a3 n3 c3)) (go_keep)
    (first
    | (go_at_call 63; (with_reducible refine (int_of 1 (by omega) (by omega) _).mono ?_); rintro e w2 ⟨r2, rfl, hr2, hb2⟩; obtain ⟨s4, a4, n4, c4, rfl, H4⟩ := hr2.shape; clear hr2; have Q4 := Lib.hid (O4.out.drew.below hb2 O4.out.drew.lt); obtain ⟨_, _, _, zl4⟩ := Q4.out; obtain ⟨p1, p2⟩ := kept1 hb2 w1.heap.size (by simp); have HB2 := Lib.hid (HA1.out.drew.trans (hb2.mono (by simp))))
    | (go_at_call 150; (with_reducible refine (int_cmp _ _ (G : Int) 1 k _ (H3.out.mono HB2.out (Nat.le_refl _)) (H4.out.le hk2) hk).mono ?_); rintro e w3 ⟨rfl, hb3⟩; obtain ⟨r1, r2⟩ := kept1 hb3 w1.heap.size (by omega); have HB3 := Lib.hid (HB2.out.trans (hb3.mono (by omega))); have R1 := Lib.hid (P1.out.below HB3.out P1.out.lt); have R2 := Lib.hid (P2.out.below HB3.out P2.out.lt); have R3 := Lib.hid (P3.out.below HB3.out P3.out.lt); have R4 := Lib.hid (Q4.out.below hb3 zl4); obtain ⟨y10, y11, _, yl1⟩ := R1.out; obtain ⟨y20, y21, _, yl2⟩ := R2.out; obtain ⟨y30, y31, y32, y33, yf3, yl3⟩ := R3.out; obtain ⟨y40, y41, _, yl4⟩ := R4.out; have HB4 := Lib.hid (HB1.out.trans (HB3.out.mono (by omega)))))
  clear p1 p2 r1 r2
  go_wp2
  refine bodyPost_ret (v := .agg #[.bool s1, .slice a1 n1 c1, .bool false, .slice a2 n2 c2]) (by simp [results, Tryz.results124, go_sem, y30, y31, y32, y33, yf3]) rfl ?_
  refine ⟨_, rfl, RatIs.into (RatIs.mk ?_ ?_) _ _ _ _ R3.out, below_set4 HB4.out (by omega) _ _ _ _⟩
  · rw [Rat.num_mkRat, if_neg (by omega), Nat.gcd_comm, H11.out]
    simp only [Int.natCast_one, Int.ediv_one]
    exact (H1.out.mono HB1.out (Nat.le_refl _)).mono HB3.out (Nat.le_refl _)
  · rw [Rat.den_mkRat, if_neg (by omega), Nat.gcd_comm, H11.out, Nat.div_one]
    exact (H2.out.mono HB1.out (Nat.le_refl _)).mono HB3.out (Nat.le_refl _)
set_option maxHeartbeats 4000000 in
theorem ratio_other (x y : Value) (p : Int) (d : Nat) (k : Nat) (w : World) (hx : IntIs w x p k) (hy : IntIs w y (d : Int) k) (hd : 0 < d) (hk2 : 2 ≤ k) (hk : k ≤ 549755813888) (h1 : ¬ Nat.gcd p.natAbs d = 1) :
    Calls Tryz.prog 124 #[x, y] w fun e w' => ∃ r, e = .returned r ∧ RatIs w' r (mkRat p d) k ∧ Below w.heap.size w w' := by
  obtain ⟨s1, a1, n1, c1, rfl, H1⟩ := hx.shape
  obtain ⟨a2, n2, c2, rfl, H2⟩ := hy.shapeN
  obtain ⟨G, hG⟩ : ∃ G, G = Int.gcd p (d : Int) := ⟨_, rfl⟩
  have hGe : G = Nat.gcd p.natAbs d := hG
  have hsg := sgnZ_other G (by rw [hGe]; exact h1)
  have hGp : 0 < G := by rw [hGe]; exact Nat.gcd_pos_of_pos_right _ hd
  have hGd1 : G ∣ p.natAbs := by rw [hGe]; exact Nat.gcd_dvd_left _ _
  have hGd2 : G ∣ ((d : Nat) : Int).natAbs := by rw [hGe]; exact Nat.gcd_dvd_right _ _
  have HE := Lib.hid hGe
  have D1 := Lib.hid hGd1
  have D2 := Lib.hid hGd2
  clear hGe hGd1 hGd2
  have HG := Lib.hid hG
  have H11 := Lib.hid h1
  clear hG h1 hx hy
  have O1 : Hid (Own2 (((w.alloc (Obj.cells #[Value.bool s1, Value.slice a1 n1 c1] 112)).alloc (Obj.cells #[Value.bool false, Value.slice a2 n2 c2] 112)).alloc (Obj.cells #[.bool false, .slice none 0 0, .bool false, .slice none 0 0] 115)) w.heap.size (.bool s1) (.slice a1 n1 c1)) := ((own2_new _ _ rfl _ _ _).alloc _).alloc _
  have O2 : Hid (Own2 (((w.alloc (Obj.cells #[Value.bool s1, Value.slice a1 n1 c1] 112)).alloc (Obj.cells #[Value.bool false, Value.slice a2 n2 c2] 112)).alloc (Obj.cells #[.bool false, .slice none 0 0, .bool false, .slice none 0 0] 115)) (w.heap.size + 1) (.bool false) (.slice a2 n2 c2)) := (own2_new _ _ (by simp) _ _ _).alloc _
  have O3 : Hid (Own4 (((w.alloc (Obj.cells #[Value.bool s1, Value.slice a1 n1 c1] 112)).alloc (Obj.cells #[Value.bool false, Value.slice a2 n2 c2] 112)).alloc (Obj.cells #[.bool false, .slice none 0 0, .bool false, .slice none 0 0] 115)) (w.heap.size + 1 + 1) (.bool false) (.slice none 0 0) (.bool false) (.slice none 0 0)) := own4_new _ _ (by simp) _ _ _ _ _
  have HB : Hid (Below w.heap.size w (((w.alloc (Obj.cells #[Value.bool s1, Value.slice a1 n1 c1] 112)).alloc (Obj.cells #[Value.bool false, Value.slice a2 n2 c2] 112)).alloc (Obj.cells #[.bool false, .slice none 0 0, .bool false, .slice none 0 0] 115))) := boxes3 w _ _ _
  go_enter Tryz.func124, Tryz.ntmps124
  go_wp2_with (first
    | (go_at_call 67; (with_reducible refine (int_gcd _ _ p (d : Int) k _ (H1.out.mono HB.out (Nat.le_refl _)) (H2.out.mono HB.out (Nat.le_refl _)) hk).mono ?_); rintro e w1 ⟨r, rfl, hr, hb1⟩; rw [← HG.out] at hr; obtain ⟨a3, n3, c3, rfl, H3⟩ := hr.shapeN; clear hr; have P1 := Lib.hid (O1.out.below hb1 O1.out.lt); have P2 := Lib.hid (O2.out.below hb1 O2.out.lt); have P3 := Lib.hid (O3.out.below hb1 O3.out.lt); obtain ⟨x10, x11, _, _⟩ := P1.out; obtain ⟨x20, x21, _, xl2⟩ := P2.out; obtain ⟨_, _, _, _, _, xl3⟩ := P3.out; have HB1 := Lib.hid (HB.out.trans (hb1.mono (by simp; omega))); clear hb1))
  have HA1 : Hid (Below w1.heap.size w1 (w1.alloc (Obj.cells #[Value.bool false, Value.slice a3 n3 c3] 112))) := boxes1 w1 _
  have O4 : Hid (Own2 (w1.alloc (Obj.cells #[Value.bool false, Value.slice a3 n3 c3] 112)) w1.heap.size (.bool false) (.slice a3 n3 c3)) := own2_new _ _ rfl _ _ _
  go_region_held3 (fun w' => w'.cell? ⟨w1.heap.size, 0, none⟩ = some (.bool false) ∧ w'.cell? ⟨w1.heap.size, 1, none⟩ = some (.slice a3 n3 c3)) (go_keep)
    (first
    | (go_at_call 63; (with_reducible refine (int_of 1 (by omega) (by omega) _).mono ?_); rintro e w2 ⟨r2, rfl, hr2, hb2⟩; obtain ⟨s4, a4, n4, c4, rfl, H4⟩ := hr2.shape; clear hr2; have Q4 := Lib.hid (O4.out.drew.below hb2 O4.out.drew.lt); obtain ⟨_, _, _, zl4⟩ := Q4.out; obtain ⟨p1, p2⟩ := kept1 hb2 w1.heap.size (by simp); have HB2 := Lib.hid (HA1.out.drew.trans (hb2.mono (by simp))))
    | (go_at_call 150; (with_reducible refine (int_cmp _ _ (G : Int) 1 k _ (H3.out.mono HB2.out (Nat.le_refl _)) (H4.out.le hk2) hk).mono ?_); rintro e w3 ⟨rfl, hb3⟩; obtain ⟨r1, r2⟩ := kept1 hb3 w1.heap.size (by omega); have HB3 := Lib.hid (HB2.out.trans (hb3.mono (by omega))); have R1 := Lib.hid (P1.out.below HB3.out P1.out.lt); have R2 := Lib.hid (P2.out.below HB3.out P2.out.lt); have R3 := Lib.hid (P3.out.below HB3.out P3.out.lt); have R4 := Lib.hid (Q4.out.below hb3 zl4); obtain ⟨y10, y11, _, yl1⟩ := R1.out; obtain ⟨y20, y21, _, yl2⟩ := R2.out; obtain ⟨y30, y31, y32, y33, yf3, yl3⟩ := R3.out; obtain ⟨y40, y41, _, yl4⟩ := R4.out; have HB4 := Lib.hid (HB1.out.trans (HB3.out.mono (by omega)))))
  clear p1 p2 r1 r2
  have HP1 := Lib.hid ((H1.out.mono HB1.out (Nat.le_refl _)).mono HB3.out (Nat.le_refl _))
  have HP2 := Lib.hid ((H2.out.mono HB1.out (Nat.le_refl _)).mono HB3.out (Nat.le_refl _))
  have HP3 := Lib.hid (H3.out.mono HB3.out (Nat.le_refl _))
  clear H1 H2 H3 H4 HB1 HB2 HB3 HB P1 P2 P3 O1 O2 O3 O4 Q4 HA1 HG H11 hsg
  go_wp2_with (first
    | (go_at_call 66; (with_reducible refine (quo_exact _ _ p G k _ HP1.out HP3.out hGp D1.out hk).mono ?_); rintro e w4 ⟨r4, r4', rfl, hr4, hr4', hb4⟩; obtain ⟨s5, a5, n5, c5, rfl, H5⟩ := hr4.shape; clear hr4; obtain ⟨s6, a6, n6, c6, rfl, H6⟩ := hr4'.shape; clear hr4'; have S2 := Lib.hid (R2.out.below hb4 yl2); have S3 := Lib.hid (R3.out.below hb4 yl3); have S4 := Lib.hid (R4.out.below hb4 yl4); obtain ⟨z20, z21, _, zl2⟩ := S2.out; obtain ⟨z40, z41, _, zl4⟩ := S4.out; obtain ⟨_, _, _, _, _, zl3⟩ := S3.out; have ne1 : ¬ (w.heap.size = w4.heap.size) := (by omega); have ne2 : ¬ (w1.heap.size = w4.heap.size + 1) := (by omega); have ne3 : ¬ (w.heap.size + 1 = w4.heap.size) := (by omega); have ne4 : ¬ (w1.heap.size = w4.heap.size) := (by omega); have HS2 := Lib.hid (HP2.out.mono hb4 (Nat.le_refl _)); have HS3 := Lib.hid (HP3.out.mono hb4 (Nat.le_refl _)); have HB5 := Lib.hid (HB4.out.trans (hb4.mono (by omega))); have HA4 := Lib.hid (boxes2 w4 (Obj.cells #[.bool s5, .slice a5 n5 c5] 112) (Obj.cells #[.bool s6, .slice a6 n6 c6] 112)); have U2 := Lib.hid (S2.out.below HA4.out zl2); obtain ⟨v20, v21, _, _⟩ := U2.out; have U4 := Lib.hid (S4.out.below HA4.out zl4); obtain ⟨v40, v41, _, _⟩ := U4.out; have T1 := Lib.hid ((own2_new w4 _ rfl (.bool s5) (.slice a5 n5 c5) 112).alloc (Obj.cells #[.bool s6, .slice a6 n6 c6] 112)); clear hb4)
    | (go_at_call 66; (with_reducible refine (quo_exact _ _ (d : Int) G k _ (HS2.out.mono HA4.out (Nat.le_refl _)) (HS3.out.mono HA4.out (Nat.le_refl _)) hGp D2.out hk).mono ?_); rintro e w5 ⟨r5, r5', rfl, hr5, hr5', hb5⟩; obtain ⟨s7, a7, n7, c7, rfl, H7⟩ := hr5.shape; clear hr5; obtain ⟨s8, a8, n8, c8, rfl, H8⟩ := hr5'.shape; clear hr5'; have T3 := Lib.hid ((S3.out.below HA4.out zl3).below hb5 (by simp; omega)); have T5 := Lib.hid (T1.out.below hb5 (by simp; omega)); obtain ⟨_, _, _, _, _, ul3⟩ := T3.out; obtain ⟨_, _, _, ul5⟩ := T5.out; have HA5 := Lib.hid (boxes2 w5 (Obj.cells #[.bool s7, .slice a7 n7 c7] 112) (Obj.cells #[.bool s8, .slice a8 n8 c8] 112)); have V3 := Lib.hid (T3.out.below HA5.out ul3); have V5 := Lib.hid (T5.out.below HA5.out ul5); obtain ⟨u30, u31, u32, u33, uf3, _⟩ := V3.out; obtain ⟨u50, u51, _, _⟩ := V5.out; have HB6 := Lib.hid (HB5.out.trans (((HA4.out.trans (hb5.mono (by simp; omega))).trans (HA5.out.mono (by have := hb5.size; simp at this; omega))).mono (by omega))); have G5 := Lib.hid (((H5.out.mono HA4.out (Nat.le_refl _)).mono hb5 (Nat.le_refl _)).mono HA5.out (Nat.le_refl _)); have G7 := Lib.hid (H7.out.mono HA5.out (Nat.le_refl _)); clear hb5))
  refine bodyPost_ret (v := .agg #[.bool s5, .slice a5 n5 c5, .bool s7, .slice a7 n7 c7]) (by simp [results, Tryz.results124, go_sem, u30, u31, u32, u33, uf3]) rfl ?_
  refine ⟨_, rfl, RatIs.into (RatIs.mk ?_ ?_) _ _ _ _ V3.out, below_set4 HB6.out (by omega) _ _ _ _⟩
  · rw [Rat.num_mkRat, if_neg (by omega), Nat.gcd_comm, ← HE.out]
    exact G5.out
  · rw [Rat.den_mkRat, if_neg (by omega), Nat.gcd_comm, ← HE.out, Int.natCast_ediv]
    exact G7.out
end Go.Proofs.YtolkchkedieppaaGreat
