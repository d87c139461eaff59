/- Package linear at a matrix without rows. -/
import Derived.Test.YtcnaagiicpkcpaaGreatMMkt2
import Derived.Test.YtcnaagiicpkcpaaGreatMShelf
import Derived.Laws.CopyRow
import Derived.Deep.RegionLawGrows
import Derived.Deep.DeepCutAuto
import Derived.Deep.CutBlock
set_option linter.unusedVariables false
set_option linter.unusedSimpArgs false
namespace Go.Proofs.YtcnaagiicpkcpaaGreat
open Go.RowKit
attribute [local go_sem ↓] Go.wp_at_zero Go.wp_at_succ
theorem infoR : (Tryz.prog.info? 95).map (fun i => (i.zero, i.size, i.bytes)) = some (some (.agg #[.bool false, .slice none 0 0, .bool false, .slice none 0 0]), 4, 64) := by kernel_rfl
theorem infoRs : (Tryz.prog.info? 68).map (fun i => (i.zero, i.size, i.bytes)) = some (some (.slice none 0 0), 1, 24) := by kernel_rfl
theorem mkR0 (W : World) : (Instr.makeSlice 68 (.int .i64 0) (.int .i64 0)).run Tryz.prog W = .ok (.slice (some ⟨W.heap.size, 0, none⟩) 0 0) (W.alloc (.cells #[] 95)) := by
  obtain ⟨i0, hi, hz0, hz1, hz2⟩ := info_parts infoR
  have h := run_make (P := Tryz.prog) W 68 95 i0 _ Tryz.underlying68 hi hz0 .i64 .i64 0 0 (by omega) (by omega) (by rw [hz2]; omega) (by omega)
  have e : madeCells (Value.agg #[.bool false, .slice none 0 0, .bool false, .slice none 0 0]).cells ((0 : Int).toNat * 4) = #[] := by kernel_rfl
  rw [h, hz1, e]
  rfl
theorem mkM0 (W : World) : (Instr.makeSlice 116 (.int .i64 0) (.int .i64 0)).run Tryz.prog W = .ok (.slice (some ⟨W.heap.size, 0, none⟩) 0 0) (W.alloc (.cells #[] 68)) := by
  obtain ⟨i0, hi, hz0, hz1, hz2⟩ := info_parts infoRs
  have h := run_make (P := Tryz.prog) W 116 68 i0 _ Tryz.underlying116 hi hz0 .i64 .i64 0 0 (by omega) (by omega) (by rw [hz2]; omega) (by omega)
  have e : madeCells (Value.slice none 0 0).cells ((0 : Int).toNat * 1) = #[] := by kernel_rfl
  rw [h, hz1, e]
  rfl
set_option maxHeartbeats 1000000 in
theorem zero_none (w : World) : Calls Tryz.prog 68 #[.int .i64 0, .int .i64 0] w fun e w' => ∃ g, e = .returned (.slice (some ⟨g, 0, none⟩) 0 0) ∧ Below w.heap.size w w' := by
  have hmk := mkM0
  go_enter Tryz.func68, Tryz.ntmps68
  go_wp2
  go_rounds 1
  go_ret
  exact ⟨_, rfl, (Below.refl _ _).alloc (Nat.le_refl _) _⟩
set_option maxHeartbeats 1000000 in
theorem triangle_none (a : Option Addr) (c : Nat) (w : World) : Calls Tryz.prog 85 #[.slice a 0 c] w fun e w' => (∃ r, e = .returned r) ∧ Below w.heap.size w w' := by
  have KW : Hid (Below w.heap.size w (w.alloc (Obj.cells #[.bool false, .slice none 0 0, .bool false, .slice none 0 0] 95))) := boxes1 w _
  have PO : Hid (Own4 (w.alloc (Obj.cells #[.bool false, .slice none 0 0, .bool false, .slice none 0 0] 95)) w.heap.size (.bool false) (.slice none 0 0) (.bool false) (.slice none 0 0)) := own4_new _ _ rfl _ _ _ _ _
  go_enter Tryz.func85, Tryz.ntmps85
  go_wp2_with (first
      | (go_at_call 56; (with_reducible refine (rat_whole 1 (by omega) (by omega) _).mono ?_); rintro e w1 ⟨r1, rfl, hr1, hb1⟩; obtain ⟨s1, a1, n1, c1, b1, m1, d1, rfl, KR⟩ := hr1.shape; clear hr1; have KW := Lib.hid (KW.out.trans (hb1.mono KW.out.size)); have PO := Lib.hid (PO.out.below hb1 PO.out.lt); obtain ⟨x0, x1, x2, x3, xf, xl⟩ := PO.out))
  go_rounds 1
  have PF := Lib.hid ((PO.out.anew (.bool s1) (.slice a1 n1 c1) (.bool false) (.slice b1 m1 d1)).alloc (Obj.cells #[.bool s1, .slice a1 n1 c1, .bool false, .slice b1 m1 d1] 95))
  obtain ⟨y0, y1, y2, y3, yf, yl⟩ := PF.out
  refine bodyPost_ret (v := .agg #[.bool s1, .slice a1 n1 c1, .bool false, .slice b1 m1 d1]) (by simp [results, Tryz.results85, go_sem, y0, y1, y2, y3, yf]) rfl ?_
  exact ⟨⟨_, rfl⟩, (below_set4 KW.out (by omega) _ _ _ _).alloc (by simp only [World.setCell, Array.size_modify]; exact KW.out.size) _⟩
set_option maxHeartbeats 1000000 in
theorem lsolve_none (a : Option Addr) (c : Nat) (v : Value) (w : World) : Calls Tryz.prog 72 #[.slice a 0 c, v] w fun e w' => ∃ g, e = .returned (.slice (some ⟨g, 0, none⟩) 0 0) ∧ Below w.heap.size w w' := by
  have hmk := mkR0
  go_enter Tryz.func72, Tryz.ntmps72
  go_wp2
  refine wp_loop_rounds 1 ?_
  rw [rounds_succ]
  go_wp2_with (first
      | (go_at_call 85; (with_reducible refine (triangle_none _ _ _).mono ?_); rintro e w1 ⟨⟨r1, rfl⟩, hb1⟩))
  go_rounds 1
  go_ret
  exact ⟨_, rfl, hb1.alloc hb1.size _⟩
end Go.Proofs.YtcnaagiicpkcpaaGreat

/- A row of Rats that a call made itself: stores into it. -/
namespace Go.Proofs.YtcnaagiicpkcpaaGreat
open Go.RowKit
/-- four cells from offset o on, stored anew -/
abbrev st4 (w : World) (g o : Nat) (u0 u1 u2 u3 : Value) : World :=
  (((w.setCell ⟨g, o, none⟩ u0).setCell ⟨g, o + 1, none⟩ u1).setCell ⟨g, o + 2, none⟩ u2).setCell ⟨g, o + 3, none⟩ u3
theorem size_st4 (w : World) (g o : Nat) (u0 u1 u2 u3 : Value) : (st4 w g o u0 u1 u2 u3).heap.size = w.heap.size := by simp [st4, World.setCell]
theorem frozen_st4 (w : World) (g o : Nat) (u0 u1 u2 u3 : Value) (a : Addr) : (st4 w g o u0 u1 u2 u3).frozen? a = w.frozen? a := by simp only [st4, World.frozen?_setCell]
theorem Rd4.anew {w : World} {g o : Nat} {x y z u : Value} (h : Rd4 w g o x y z u) (u0 u1 u2 u3 : Value) : Rd4 (st4 w g o u0 u1 u2 u3) g o u0 u1 u2 u3 :=
  ⟨off_set (by omega) (off_set (by omega) (off_set (by omega) (self_set h.c0))),
   off_set (by omega) (off_set (by omega) (self_set (off_set (by omega) h.c1))),
   off_set (by omega) (self_set (off_set (by omega) (off_set (by omega) h.c2))),
   self_set (off_set (by omega) (off_set (by omega) (off_set (by omega) h.c3))), by rw [size_st4]; exact h.lt⟩
theorem off4 {w : World} {g o o' : Nat} {v : Value} (u0 u1 u2 u3 : Value) (h0 : o' < o ∨ o + 4 ≤ o') (h : w.cell? ⟨g, o', none⟩ = some v) : (st4 w g o u0 u1 u2 u3).cell? ⟨g, o', none⟩ = some v :=
  off_set (by omega) (off_set (by omega) (off_set (by omega) (off_set (by omega) h)))
theorem Rd4.off {w : World} {g o o' : Nat} {x y z u : Value} (h : Rd4 w g o' x y z u) (u0 u1 u2 u3 : Value) (h0 : o' + 4 ≤ o ∨ o + 4 ≤ o') : Rd4 (st4 w g o u0 u1 u2 u3) g o' x y z u :=
  ⟨off4 _ _ _ _ (by omega) h.c0, off4 _ _ _ _ (by omega) h.c1, off4 _ _ _ _ (by omega) h.c2, off4 _ _ _ _ (by omega) h.c3, by rw [size_st4]; exact h.lt⟩
theorem far4 {w : World} {g o b o' : Nat} (u0 u1 u2 u3 : Value) (hne : g ≠ b) : (st4 w g o u0 u1 u2 u3).cell? ⟨b, o', none⟩ = w.cell? ⟨b, o', none⟩ := by
  simp only [st4]; rw [far_set _ _ _ _ _ _ hne, far_set _ _ _ _ _ _ hne, far_set _ _ _ _ _ _ hne, far_set _ _ _ _ _ _ hne]
theorem Rd4.far {w : World} {g o b o' : Nat} {x y z u : Value} (h : Rd4 w b o' x y z u) (u0 u1 u2 u3 : Value) (hne : g ≠ b) : Rd4 (st4 w g o u0 u1 u2 u3) b o' x y z u :=
  ⟨(far4 _ _ _ _ hne).trans h.c0, (far4 _ _ _ _ hne).trans h.c1, (far4 _ _ _ _ hne).trans h.c2, (far4 _ _ _ _ hne).trans h.c3, by rw [size_st4]; exact h.lt⟩
theorem Mag.at4 {w : World} {v : Value} {x g o : Nat} (h : Mag w v x) (u0 u1 u2 u3 : Value) {v0 v1 v2 v3 : Value} (hr : Rd4 w g o v0 v1 v2 v3) (n0 : NoInt v0) (n1 : NoInt v1) (n2 : NoInt v2) (n3 : NoInt v3) : Mag (st4 w g o u0 u1 u2 u3) v x := by
  refine (((h.store1 u0 hr.c0 n0).store1 u1 ?_ n1).store1 u2 ?_ n2).store1 u3 ?_ n3
  · exact off_set (by omega) hr.c1
  · exact off_set (by omega) (off_set (by omega) hr.c2)
  · exact off_set (by omega) (off_set (by omega) (off_set (by omega) hr.c3))
theorem RatIs.at4 {w : World} {v : Value} {q : Rat} {m g o : Nat} {s t : Bool} {a a2 : Option Addr} {n c n2 c2 : Nat} (h : RatIs w v q m) (u0 u1 u2 u3 : Value) (hr : Rd4 w g o (.bool s) (.slice a n c) (.bool t) (.slice a2 n2 c2)) :
    RatIs (st4 w g o u0 u1 u2 u3) v q m := by
  obtain ⟨u, d, rfl, m1, m2, m3⟩ := h
  exact ⟨u, d, rfl, m1.at4 u0 u1 u2 u3 hr (noInt_bool _) (noInt_slice _ _ _) (noInt_bool _) (noInt_slice _ _ _), m2.at4 u0 u1 u2 u3 hr (noInt_bool _) (noInt_slice _ _ _) (noInt_bool _) (noInt_slice _ _ _), m3⟩
/-- n Rats in a block of the call's own, those of P with their values; K bounds their limbs -/
structure RowP (w : World) (g n : Nat) (P : Nat → Prop) (q : Nat → Rat) (K : Nat) : Prop where
  cell : ∀ j, j < n → ∃ s a m c a2 m2 c2, Rd4 w g (j * 4) (.bool s) (.slice a m c) (.bool false) (.slice a2 m2 c2) ∧ (P j → RatIs w (.agg #[.bool s, .slice a m c, .bool false, .slice a2 m2 c2]) (q j) K)
  f : ∀ o, w.frozen? ⟨g, o, none⟩ = false
  lt : g < w.heap.size
/-- all of them -/
abbrev RatRow (w : World) (g n : Nat) (q : Nat → Rat) (K : Nat) : Prop := RowP w g n (fun _ => True) q K
variable {w w' : World} {g n K B i o : Nat} {P : Nat → Prop} {q : Nat → Rat}
theorem RowP.below (h : RowP w g n P q K) (hb : Below B w w') (hB : w.heap.size ≤ B) : RowP w' g n P q K :=
  ⟨fun j hj => by
    obtain ⟨s, a, m, c, a2, m2, c2, h1, h2⟩ := h.cell j hj
    exact ⟨s, a, m, c, a2, m2, c2, h1.below hb (Nat.lt_of_lt_of_le h1.lt hB), fun p => (h2 p).mono hb hB⟩,
   fun o => (hb.frozen (p := ⟨g, o, none⟩) (Nat.lt_of_lt_of_le h.lt hB)).trans (h.f o), Nat.lt_of_lt_of_le h.lt hb.size⟩
theorem RowP.drew (h : RowP w g n P q K) : RowP w.drew g n P q K := h.below ((Drawn.of w 1).below w.heap.size) (Nat.le_refl _)
theorem RowP.alloc (h : RowP w g n P q K) (o : Obj) : RowP (w.alloc o) g n P q K := h.below ((Below.refl w.heap.size w).alloc (Nat.le_refl _) o) (Nat.le_refl _)
/-- q with the element i turned -/
def updQ (q : Nat → Rat) (i : Nat) (x : Rat) : Nat → Rat := fun j => if j = i then x else q j
theorem RowP.set (h : RowP w g n P q K) (hi : i < n) (ho : o = i * 4) {s : Bool} {a a2 : Option Addr} {m c m2 c2 : Nat} {x : Rat}
    (hx : RatIs w (.agg #[.bool s, .slice a m c, .bool false, .slice a2 m2 c2]) x K) :
    RowP (st4 w g o (.bool s) (.slice a m c) (.bool false) (.slice a2 m2 c2)) g n (fun j => j = i ∨ P j) (updQ q i x) K := by
  subst ho
  obtain ⟨s', a', m', c', a2', m2', c2', hr, hv⟩ := h.cell i hi
  refine ⟨fun j hj => ?_, fun o => by rw [frozen_st4]; exact h.f o, by rw [size_st4]; exact h.lt⟩
  by_cases e : j = i
  · subst e
    exact ⟨s, a, m, c, a2, m2, c2, hr.anew _ _ _ _, fun _ => by rw [updQ, if_pos rfl]; exact hx.at4 _ _ _ _ hr⟩
  · obtain ⟨s1, a1, m1, c1, b1, m3, c3, hr1, hv1⟩ := h.cell j hj
    exact ⟨s1, a1, m1, c1, b1, m3, c3, hr1.off _ _ _ _ (by omega), fun p => by rw [updQ, if_neg e]; exact (hv1 (p.resolve_left e)).at4 _ _ _ _ hr⟩
theorem RowP.le {K' : Nat} (h : RowP w g n P q K) (hk : K ≤ K') : RowP w g n P q K' :=
  ⟨fun j hj => by obtain ⟨s, a, m, c, a2, m2, c2, hr, hv⟩ := h.cell j hj; exact ⟨s, a, m, c, a2, m2, c2, hr, fun p => (hv p).le hk⟩, h.f, h.lt⟩
theorem RowP.congr {P' : Nat → Prop} {q' : Nat → Rat} (h : RowP w g n P q K) (hP : ∀ j, j < n → P' j → P j ∧ q j = q' j) : RowP w g n P' q' K :=
  ⟨fun j hj => by obtain ⟨s, a, m, c, a2, m2, c2, hr, hv⟩ := h.cell j hj; exact ⟨s, a, m, c, a2, m2, c2, hr, fun p => by rw [← (hP j hj p).2]; exact hv (hP j hj p).1⟩, h.f, h.lt⟩
theorem RowP.rats (h : RatRow w g n q K) : IsRats w g 0 n q K := fun j hj => by
  obtain ⟨s, a, m, c, a2, m2, c2, hr, hv⟩ := h.cell j hj
  exact ⟨s, a, m, c, a2, m2, c2, by rw [Nat.zero_add]; exact hr, hv trivial⟩
theorem below_st4 {w0 : World} {b : Nat} (h : Below B w0 w) (hB : B ≤ b) (u0 u1 u2 u3 : Value) : Below B w0 (st4 w b o u0 u1 u2 u3) :=
  (((h.setCell hB _).setCell hB _).setCell hB _).setCell hB _
end Go.Proofs.YtcnaagiicpkcpaaGreat

/- Package linear: Add; Zero at one row. -/
namespace Go.Proofs.YtcnaagiicpkcpaaGreat
open Go.RowKit
attribute [local go_sem ↓] Go.wp_at_zero Go.wp_at_succ
theorem lmat_s : Tryz.prog.underlying 116 = some (.slice (Tryz.prog.elem 116)) := by kernel_rfl
theorem lmat_z (W : World) : (sizeOf (Tryz.prog.elem 116)).run Tryz.prog W = .ok 1 W := by kernel_rfl
theorem ixL (b o n c i : Nat) (hi : i < n) (W : World) :
    (Instr.indexAt 116 (.slice (some ⟨b, o, none⟩) n c) (.int .i64 (i : Int))).run Tryz.prog W = .ok (.pointer (some ⟨b, o + i, none⟩)) W :=
  run_indexAt_opt 116 lmat_s lmat_z _ b o n c (fun _ => rfl) .i64 i (by omega) (by omega) W
theorem rowIx (b n c i : Nat) (hi : i < n) (W : World) :
    (Instr.indexAt 68 (.slice (some ⟨b, 0, none⟩) n c) (.int .i64 (i : Int))).run Tryz.prog W = .ok (.pointer (some ⟨b, i * 4, none⟩)) W := by
  rw [ixR b 0 n c i hi W, Nat.zero_add]
set_option maxHeartbeats 4000000 in
theorem madd_any (g n gc i r m rc j : Nat) (q : Nat → Rat) (P : Nat → Prop) (K : Nat) (xv : Value) (x : Rat) (w : World) (hg : w.cell? ⟨g, i, none⟩ = some (.slice (some ⟨r, 0, none⟩) m rc)) (hi : i < n) (hj : j < m)
    (hr : RowP w r m P q K) (hP : P j) (hx : RatIs w xv x K) (hK : 1 ≤ K) (hK2 : 2 * K + 1 ≤ 549755813888) :
    Calls Tryz.prog 69 #[.slice (some ⟨g, 0, none⟩) n gc, .int .i64 (i : Nat), .int .i64 (j : Nat), xv] w fun e w' => ∃ w1 s a m c a2 m2 c2, e = .returned (.tuple #[]) ∧
      w' = st4 w1 r (j * 4) (.bool s) (.slice a m c) (.bool false) (.slice a2 m2 c2) ∧ Below w.heap.size w w1 ∧ RatIs w1 (.agg #[.bool s, .slice a m c, .bool false, .slice a2 m2 c2]) (q j + x) (2 * K + 1) := by
  obtain ⟨s1, a1, n1, c1, a2, n2, c2, rfl, H1⟩ := hx.shape
  clear hx
  have hgl : g < w.heap.size := by
    rcases Nat.lt_or_ge g w.heap.size with h | h
    · exact h
    · have : w.cell? ⟨g, i, none⟩ = none := by simp [World.cell?, Array.getElem?_eq_none h]
      rw [this] at hg; cases hg
  obtain ⟨s2, a3, n3, c3, a4, n4, c4, hr4, hv⟩ := hr.cell j hj
  have KE := Lib.hid (hv hP)
  have HF := hr.f
  have hrl := hr.lt
  have ix1 := fun W => ixL g 0 n gc i hi W
  have ix2 := fun W => rowIx r m rc j hj W
  simp only [Nat.zero_add] at ix1
  have HB0 := Lib.hid (boxes1 w (Obj.cells #[.bool s1, .slice a1 n1 c1, .bool false, .slice a2 n2 c2] 95))
  have R4 := Lib.hid hr4
  have HX := Lib.hid (H1.out.mono HB0.out (Nat.le_refl _)).drew
  have KE := Lib.hid (KE.out.mono HB0.out (Nat.le_refl _)).drew
  have KW := Lib.hid HB0.out.drew
  have O1 := Lib.hid (own4_new w _ rfl (.bool s1) (.slice a1 n1 c1) (.bool false) (.slice a2 n2 c2) 95)
  have g0 := bel1 HB0.out hg hgl
  have G0 := Lib.hid hg
  obtain ⟨x0, x1, x2, x3, _⟩ := (R4.out.below HB0.out hrl)
  obtain ⟨y0, y1, y2, y3, _, _⟩ := O1.out
  clear hr hv hr4 hg
  have HF := Lib.hid HF
  go_enter Tryz.func69, Tryz.ntmps69
  go_wp2
  go_region_with (first
    | (go_at_call 73; (with_reducible refine (rat_add _ _ (q j) x K _ KE.out HX.out hK hK2).mono ?_); rintro e w2 ⟨r2, rfl, hr2, hb2⟩; obtain ⟨s5, a5, n5, c5, a6, n6, c6, rfl, KR⟩ := hr2.shape; clear hr2; have KW := Lib.hid (KW.out.trans (hb2.mono KW.out.size)); obtain ⟨z0, z1, z2, z3, _⟩ := R4.out.below KW.out hrl; have zf := fun o => (KW.out.frozen (p := ⟨r, o, none⟩) hrl).trans (HF.out o); have g2 := bel1 KW.out G0.out hgl))
  all_goals go_wp2
  all_goals go_end0
  all_goals exact ⟨w2, s5, a5, n5, c5, a6, n6, c6, rfl, rfl, KW.out, KR.out⟩
end Go.Proofs.YtcnaagiicpkcpaaGreat

/- Package linear: Zero at one row of one element. -/
namespace Go.Proofs.YtcnaagiicpkcpaaGreat
open Go.RowKit
attribute [local go_sem ↓] Go.wp_at_zero Go.wp_at_succ
theorem alloc_setRow (w : World) (z c : Array Value) (t : TypeId) : (w.alloc (.cells z t)).setRow w.heap.size c = w.alloc (.cells c t) := by
  unfold World.setRow World.alloc
  simp only [World.mk.injEq, and_true, true_and]
  apply Array.ext
  · simp
  · intro i h1 h2
    simp only [Array.getElem_modify, Array.getElem_push]
    by_cases h : i < w.heap.size
    · have : ¬ w.heap.size = i := by omega
      simp [h, this]
    · have : w.heap.size = i := by simp at h1; omega
      simp [this]
theorem run_copy_rowS {P : Program} (w : World) (dT sT ty elem : TypeId) (g o dLen dCap : Nat) (a : Addr) (sLen sCap : Nat) (cur : Array Value) (t : TypeId) (cs : List Value) (s n : Nat)
    (hu : P.underlying dT = some (.slice elem)) (hs : (P.info? elem).map (·.size) = some s)
    (hg : w.heap[g]? = some (.cells cur t (0, 0))) (hn : n = Nat.min sLen dLen) (hcs : cs.length = n * s)
    (hsrc : ∀ j v, cs[j]? = some v → w.cell? (a.add j) = some v) (hfit : o + cs.length ≤ cur.size) (h1 : ∀ v ∈ cs, v.oneCell' = true) :
    (Builtin.copy_ #[dT, sT] ty #[.slice (some ⟨g, o, none⟩) dLen dCap, .slice (some a) sLen sCap]).run P w =
      .ok (goInt n) (w.setRow g (cur.toList.take o ++ cs ++ cur.toList.drop (o + cs.length)).toArray) := by
  have hl := run_loadCells_list (P := P) w a cs hsrc
  have hst := run_storeCells_at P g o t cs 0 cur w hg (by simpa using hfit) h1
  rw [hcs] at hl
  cases hq : P.info? elem with
  | none => simp [hq] at hs
  | some i =>
    have hi : i.size = s := by simpa [hq] using hs
    simp [Builtin.copy_, run_underlying hu, Builtin.lenOf, Builtin.firstCells, sizeOf, typeInfo, hq, hi, ← hn, hl, hst]
theorem RatIs.store1 {w : World} {v : Value} {q : Rat} {m b o : Nat} (h : RatIs w v q m) (u : Value) {v0 : Value} (hp : w.cell? ⟨b, o, none⟩ = some v0) (hn : NoInt v0) : RatIs (w.setCell ⟨b, o, none⟩ u) v q m := by
  obtain ⟨u', d, rfl, m1, m2, m3⟩ := h
  exact ⟨u', d, rfl, m1.store1 u hp hn, m2.store1 u hp hn, m3⟩
/-- a store into another block, over what is no number -/
theorem RowP.storeFar {w : World} {g n K b o : Nat} {P : Nat → Prop} {q : Nat → Rat} (h : RowP w g n P q K) (u : Value) {v0 : Value} (hp : w.cell? ⟨b, o, none⟩ = some v0) (hn : NoInt v0) (hne : b ≠ g) : RowP (w.setCell ⟨b, o, none⟩ u) g n P q K :=
  ⟨fun j hj => by
    obtain ⟨s, a, m, c, a2, m2, c2, hr, hv⟩ := h.cell j hj
    exact ⟨s, a, m, c, a2, m2, c2, ⟨(far_set _ _ _ _ _ _ hne).trans hr.c0, (far_set _ _ _ _ _ _ hne).trans hr.c1, (far_set _ _ _ _ _ _ hne).trans hr.c2, (far_set _ _ _ _ _ _ hne).trans hr.c3, by simp only [World.setCell, Array.size_modify]; exact hr.lt⟩, fun p => (hv p).store1 u hp hn⟩,
   fun o' => by rw [World.frozen?_setCell]; exact h.f o', by simp only [World.setCell, Array.size_modify]; exact h.lt⟩
end Go.Proofs.YtcnaagiicpkcpaaGreat

/- solve of package debt, at two firms of which the first pays what it has. -/
namespace Go.Proofs.YtcnaagiicpkcpaaGreat
open Go.RowKit
attribute [local go_sem ↓] Go.wp_at_zero Go.wp_at_succ
/-- what stands while solve sets its equation up: payments (block P) and the firm that is free (block F) as they were in the world wp, the matrix (block g) with one row (block r) -/
structure SB (w0 wp W : World) (P F g r : Nat) (pq : Nat → Rat) (α : Rat) (K : Nat) : Prop where
  base : Below w0.heap.size w0 W
  via : Below wp.heap.size wp W
  pays : RatRow wp P 2 pq 4
  fcell : wp.cell? ⟨F, 0, none⟩ = some (.int .i64 0)
  fl : F < wp.heap.size
  mat : W.cell? ⟨g, 0, none⟩ = some (.slice (some ⟨r, 0, none⟩) 1 1)
  mf : ∀ o, W.frozen? ⟨g, o, none⟩ = false
  ml : g < W.heap.size
  row : RatRow W r 1 (fun _ => α) K
  o1 : w0.heap.size ≤ P
  o2 : wp.heap.size ≤ g
  o4 : g < r
  o6 : w0.heap.size ≤ wp.heap.size
end Go.Proofs.YtcnaagiicpkcpaaGreat

/- The market of the document's example: rounds of package debt. -/
namespace Go.Proofs.YtcnaagiicpkcpaaGreat
open Go.RowKit
attribute [local go_sem ↓] Go.wp_at_zero Go.wp_at_succ
/-- the document's example: firm 0 owes firm 1 four, and firm 1 owes it two; firm 0 has one -/
def cashL (i : Nat) : Int := if i = 0 then 1 else 0
def dL (i j : Nat) : Int := if i = 0 ∧ j = 1 then 4 else if i = 1 ∧ j = 0 then 2 else 0
theorem dL_range (j i : Nat) (hj : j < 2) : 0 ≤ dL j i ∧ dL j i ≤ 1000 ∧ 0 ≤ sumF (dL j) 2 ∧ sumF (dL j) 2 ≤ 100000 := by
  have h1 : 0 ≤ dL j i ∧ dL j i ≤ 1000 := by unfold dL; split <;> (try split) <;> omega
  refine ⟨h1.1, h1.2, ?_⟩
  match j, hj with
  | 0, _ => decide
  | 1, _ => decide
theorem infoB : (Tryz.prog.info? 4).map (fun i => (i.zero, i.size, i.bytes)) = some (some (.bool false), 1, 1) := by kernel_rfl
end Go.Proofs.YtcnaagiicpkcpaaGreat
