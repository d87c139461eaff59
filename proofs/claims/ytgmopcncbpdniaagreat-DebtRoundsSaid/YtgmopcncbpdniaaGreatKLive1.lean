/- Package linear: Solve at one row of one element. -/
import Derived.Test.YtgmopcncbpdniaaGreatKLin3
import Derived.Test.YtgmopcncbpdniaaGreatKSolve1
import Derived.Deep.DeepCutAuto
import Derived.Deep.CutBlock
set_option linter.unusedVariables false
set_option linter.unusedSimpArgs false
namespace Go.Proofs.YtgmopcncbpdniaaGreat
open Go.RowKit
attribute [local go_sem ↓] Go.wp_at_zero Go.wp_at_succ
/-- two Rats that an append has laid into a new block -/
theorem row_of_owns2 {w : World} {base : Nat} {v : Value} {x0 x1 x2 x3 y0 y1 y2 y3 : Value} (h : w.ownsRow base 92 4 v 2 [x0, x1, x2, x3, y0, y1, y2, y3]) :
    ∃ g cap, v = .slice (some ⟨g, 0, none⟩) 2 cap ∧ base ≤ g ∧ g < w.heap.size ∧ Rd4 w g 0 x0 x1 x2 x3 ∧ Rd4 w g 4 y0 y1 y2 y3 ∧ (∀ o, w.frozen? ⟨g, o, none⟩ = false) := by
  rcases h.2 with ⟨_, h0⟩ | ⟨g, cap, cur, hv, hb, hg, hcap, hml, hsz, htk⟩
  · omega
  · subst hv
    have hlt : g < w.heap.size := by
      rcases Nat.lt_or_ge g w.heap.size with hlt | hge
      · exact hlt
      · rw [Array.getElem?_eq_none hge] at hg; cases hg
    have hc := h.cells (g := g) rfl
    have c : ∀ j u, [x0, x1, x2, x3, y0, y1, y2, y3][j]? = some u → w.cell? ⟨g, j, none⟩ = some u := fun j u hj => by
      have := hc j u hj
      unfold Addr.add at this
      split at this
      · rename_i e; subst e; exact this
      · simpa using this
    exact ⟨g, cap, rfl, hb, hlt, ⟨c 0 _ rfl, c 1 _ rfl, c 2 _ rfl, c 3 _ rfl, hlt⟩, ⟨c 4 _ rfl, c 5 _ rfl, c 6 _ rfl, c 7 _ rfl, hlt⟩, fun o => by simp [World.frozen?, hg]⟩
/-- α, then β -/
def twoQ (α β : Rat) (j : Nat) : Rat := if j = 0 then α else β
theorem twoQ_zero (α β : Rat) : twoQ α β 0 = α := if_pos rfl
theorem twoQ_one (α β : Rat) : twoQ α β 1 = β := if_neg (by decide)
theorem row2_of {w : World} {r K : Nat} {α β : Rat} {s t : Bool} {a a2 b b2 : Option Addr} {n c n2 c2 m e m2 e2 : Nat} (h0 : Rd4 w r 0 (.bool s) (.slice a n c) (.bool false) (.slice a2 n2 c2)) (h1 : Rd4 w r 4 (.bool t) (.slice b m e) (.bool false) (.slice b2 m2 e2))
    (hf : ∀ o, w.frozen? ⟨r, o, none⟩ = false) (hα : RatIs w (.agg #[.bool s, .slice a n c, .bool false, .slice a2 n2 c2]) α K) (hβ : RatIs w (.agg #[.bool t, .slice b m e, .bool false, .slice b2 m2 e2]) β K) : RatRow w r 2 (twoQ α β) K :=
  ⟨fun j hj => match j, hj with
      | 0, _ => ⟨_, _, _, _, _, _, _, by rw [Nat.zero_mul]; exact h0, fun _ => by rw [twoQ_zero]; exact hα⟩
      | 1, _ => ⟨_, _, _, _, _, _, _, by rw [Nat.one_mul]; exact h1, fun _ => by rw [twoQ_one]; exact hβ⟩, hf, h0.lt⟩
theorem row_raw {w : World} {b : Nat} {s : Bool} {a a2 : Option Addr} {n c n2 c2 : Nat} (h : Own4 w b (.bool s) (.slice a n c) (.bool false) (.slice a2 n2 c2)) (q : Nat → Rat) (K : Nat) : RowP w b 1 (fun _ => False) q K :=
  ⟨fun j hj => ⟨s, a, n, c, a2, n2, c2, by
    obtain rfl : j = 0 := by omega
    exact ⟨h.c0, h.c1, h.c2, h.c3, h.lt⟩, fun p => p.elim⟩, h.f, h.lt⟩
theorem cells4 {W : World} {r o : Nat} {x0 x1 x2 x3 : Value} (h : Rd4 W r o x0 x1 x2 x3) : ∀ j u, [x0, x1, x2, x3][j]? = some u → W.cell? ((⟨r, o, none⟩ : Addr).add j) = some u := fun j u hj => by
  match j, hj with
  | 0, hj => simp at hj; subst hj; simpa [Addr.add] using h.c0
  | 1, hj => simp at hj; subst hj; simpa [Addr.add] using h.c1
  | 2, hj => simp at hj; subst hj; simpa [Addr.add] using h.c2
  | 3, hj => simp at hj; subst hj; simpa [Addr.add] using h.c3
theorem olds4 {W : World} {r o : Nat} {x0 x1 x2 x3 : Value} (h : Rd4 W r o x0 x1 x2 x3) : ∀ b, some (⟨r, o, none⟩ : Addr) = some b → ∀ j u, [x0, x1, x2, x3][j]? = some u → W.cell? (b.add j) = some u := fun b hb => by
  cases hb
  exact cells4 h
theorem one4 (x0 x1 x2 x3 : Value) (h0 : x0.oneCell' = true) (h1 : x1.oneCell' = true) (h2 : x2.oneCell' = true) (h3 : x3.oneCell' = true) : ∀ u ∈ [x0, x1, x2, x3], u.oneCell' = true := fun u hu => by
  simp at hu
  rcases hu with rfl | rfl | rfl | rfl <;> assumption
theorem Own4.rd {w : World} {b : Nat} {x y z u : Value} (h : Own4 w b x y z u) : Rd4 w b 0 x y z u := ⟨h.c0, h.c1, h.c2, h.c3, h.lt⟩
set_option maxHeartbeats 2000000 in
set_option maxRecDepth 100000 in
theorem lsolve_one (g gc r rc bb bc : Nat) (α β : Rat) (K : Nat) (w : World) (hg : w.cell? ⟨g, 0, none⟩ = some (.slice (some ⟨r, 0, none⟩) 1 1)) (hgf : ∀ o, w.frozen? ⟨g, o, none⟩ = false) (hr : RatRow w r 1 (fun _ => α) K)
    (hb : IsRats w bb 0 1 (fun _ => β) K) (hpos : 0 < α.num) (hK : 2 ≤ K) (hK2 : 2 * K ≤ 549755813888) :
    Calls Tryz.prog 115 #[.slice (some ⟨g, 0, none⟩) 1 gc, .slice (some ⟨bb, 0, none⟩) 1 bc] w fun e w' => ∃ x, e = .returned (.slice (some ⟨x, 0, none⟩) 1 1) ∧ IsRats w' x 0 1 (fun _ => β / α) (2 * K) ∧ Below g w w' := by
  have hgl : g < w.heap.size := by
    rcases Nat.lt_or_ge g w.heap.size with h | h
    · exact h
    · have : w.cell? ⟨g, 0, none⟩ = none := by simp [World.cell?, Array.getElem?_eq_none h]
      rw [this] at hg; cases hg
  obtain ⟨s2, a3, n3, c3, a4, n4, c4, hr4, hv⟩ := hr.cell 0 (by omega)
  obtain ⟨s5, a5, n5, c5, a6, n6, c6, hb4, hbv⟩ := hb 0 (by omega)
  have KA := Lib.hid (hv trivial)
  have KB := Lib.hid hbv
  rw [Nat.zero_mul] at hr4
  rw [Nat.zero_add, Nat.zero_mul] at hb4
  have ix1 := fun W => ixL g 0 1 gc 0 (by omega) W
  have ix2 := fun W => rowIx bb 1 bc 0 (by omega) W
  have hmk := mkR1
  simp only [Nat.zero_add, Nat.zero_mul, Int.natCast_zero] at ix1 ix2
  obtain ⟨i0, hi, hz0, hz1, hz2⟩ := info_parts infoR
  have HR4 := Lib.hid hr4
  have HB4 := Lib.hid hb4
  have HG := Lib.hid hg
  have HGF := Lib.hid hgf
  have HPOS := Lib.hid hpos
  have HPOS2 : Hid (0 < (twoQ α β 0).num) := Lib.hid (by rw [twoQ_zero]; exact hpos)
  obtain ⟨x0, x1, x2, x3, xl⟩ := hr4
  obtain ⟨y0, y1, y2, y3, yl⟩ := hb4
  clear hr hb hv hbv hpos hgf
  go_enter Tryz.func115, Tryz.ntmps115
  go_wp2
  refine wp_loop_rounds 2 ?_
  rw [rounds_succ]
  go_wp2
  have HB0 := Lib.hid (((Below.refl w.heap.size w).drew).alloc (Nat.le_refl _) (.cells #[.bool s5, .slice a5 n5 c5, .bool false, .slice a6 n6 c6] 92))
  have NEW := Lib.hid (own4_new w.drew w.heap.size rfl (.bool s5) (.slice a5 n5 c5) (.bool false) (.slice a6 n6 c6) 92).rd
  go_region_law ((refine step_append_grows rfl (.tmp 21) (.tmp 26) 73 rfl 92 i0 _ 4 64 Tryz.underlying73 hi hz0 hz1 hz2 rfl (by decide) (some ⟨r, 0, none⟩) 1 1 [.bool s2, .slice a3 n3 c3, .bool false, .slice a4 n4 c4] (by simp [Act.eval, Act.put]) (fun h => by cases h) rfl (olds4 (HR4.out.below HB0.out xl)) ⟨w.heap.size, 0, none⟩ 1 1 [.bool s5, .slice a5 n5 c5, .bool false, .slice a6 n6 c6] (by simp [Act.eval, Act.put]) rfl (cells4 NEW.out) (one4 _ _ _ _ rfl rfl rfl rfl) (by omega) (by unfold maxLen; omega) (by omega) ?_); intro v' w1 hown hgrow; obtain ⟨r2, rc2, rfl, hrb, hrlt, R0, R1, RF⟩ := row_of_owns2 hown; have KW := Lib.hid (HB0.out.grown hgrow (by simp) (fun k h => by cases h)); have R0 := Lib.hid R0; have R1 := Lib.hid R1; have RF := Lib.hid RF; have g1 := bel1 KW.out HG.out hgl; have gf1 := (KW.out.frozen (p := ⟨g, 0, none⟩) hgl).trans (HGF.out 0); clear hown hgrow)
  all_goals
    have hgr : g ≠ r2 := by simp at hrb; omega
    have PR1 := Lib.hid (row2_of R0.out R1.out RF.out (KA.out.mono KW.out (Nat.le_refl _)) (KB.out.mono KW.out (Nat.le_refl _)))
    have PR := Lib.hid (RowP.storeFar PR1.out (.slice (some ⟨r2, 0, none⟩) 2 rc2) g1 (noInt_slice _ _ _) hgr)
    have G2 := Lib.hid (self_set (u := .slice (some ⟨r2, 0, none⟩) 2 rc2) g1)
    have KG : Hid (Below g w (w1.setCell ⟨g, 0, none⟩ (.slice (some ⟨r2, 0, none⟩) 2 rc2))) := Lib.hid ((KW.out.mono (Nat.le_of_lt hgl)).setCell (Nat.le_refl _) _)
    have L2 : Hid (w.heap.size ≤ (w1.setCell ⟨g, 0, none⟩ (.slice (some ⟨r2, 0, none⟩) 2 rc2)).heap.size) := Lib.hid (by simp only [World.setCell, Array.size_modify]; exact KW.out.size)
    clear PR1 KW R0 R1 RF g1 gf1 hrb hrlt KA KB NEW HB0
    go_wp2
    rw [rounds_succ]
    go_wp2_with (first
      | (go_at_call 139; (with_reducible refine (triangle_one g gc r2 2 rc2 _ K _ G2.out (by omega) PR.out HPOS2.out hK hK2).mono ?_); rintro e w3 ⟨⟨r3, rfl⟩, hb3⟩; have PR := Lib.hid (PR.out.below hb3 (Nat.le_refl _)); have G3 := Lib.hid (bel1 hb3 G2.out (by have := L2.out; omega)); have KG := Lib.hid (KG.out.trans (hb3.mono (by have := L2.out; omega))); have L3 := Lib.hid (Nat.le_trans L2.out hb3.size); clear hb3))
    obtain ⟨s7, a7, n7, c7, a8, n8, c8, A0, AV⟩ := PR.out.cell 0 (by omega)
    obtain ⟨s9, a9, n9, c9, a10, n10, c10, B0, BV⟩ := PR.out.cell 1 (by omega)
    rw [Nat.zero_mul] at A0
    rw [Nat.one_mul] at B0
    have AV := Lib.hid (AV trivial)
    have BV := Lib.hid (BV trivial)
    rw [twoQ_zero] at AV
    rw [twoQ_one] at BV
    have HZ : Hid (Below w3.heap.size w3 ((w3.alloc (.cells #[.bool false, .slice none 0 0, .bool false, .slice none 0 0] 92)).alloc (.cells #[.bool s9, .slice a9 n9 c9, .bool false, .slice a10 n10 c10] 92))) := boxes2 w3 _ _
    have AL := A0.lt
    have A0 := Lib.hid A0
    have B0 := Lib.hid B0
    have hgl3 : g < w3.heap.size := by have := L3.out; omega
    have PX := Lib.hid ((own4_new w3 _ rfl (.bool false) (.slice none 0 0) (.bool false) (.slice none 0 0) 92).alloc (.cells #[.bool s9, .slice a9 n9 c9, .bool false, .slice a10 n10 c10] 92))
    have PSs := Lib.hid (own4_new (w3.alloc (.cells #[.bool false, .slice none 0 0, .bool false, .slice none 0 0] 92)) (w3.heap.size + 1) (by simp) (.bool s9) (.slice a9 n9 c9) (.bool false) (.slice a10 n10 c10) 92)
    have ir := fun W => rowIx r2 2 rc2 1 (by omega) W
    have ir0 := fun W => rowIx r2 2 rc2 0 (by omega) W
    have ixx := fun W => rowIx w3.heap.size 1 1 0 (by omega) W
    simp only [Nat.zero_mul, Nat.one_mul, Int.natCast_zero, Int.natCast_one] at ir ir0 ixx
    have HZ1 := Lib.hid (boxes1 w3 (.cells #[.bool false, .slice none 0 0, .bool false, .slice none 0 0] 92))
    have gz := bel1 HZ1.out G3.out hgl3
    obtain ⟨bz0, bz1, bz2, bz3, _⟩ := B0.out.below HZ1.out AL
    have gy := bel1 HZ.out G3.out hgl3
    obtain ⟨az0, az1, az2, az3, _⟩ := A0.out.below HZ.out AL
    obtain ⟨sz0, sz1, sz2, sz3, sf, sl⟩ := PSs.out
    clear x0 x1 x2 x3 y0 y1 y2 y3 hg
    refine wp_loop_rounds 2 ?_
    rw [rounds_succ]
    go_wp2
    refine wp_loop_rounds 1 ?_
    rw [rounds_succ]
    go_wp2
    have PX := Lib.hid (PX.out.drew)
    have PRX := Lib.hid (row_raw PX.out (fun _ => 0) (2 * K))
    have AV := Lib.hid (AV.out.mono HZ.out (Nat.le_refl _)).drew
    have BV := Lib.hid (BV.out.mono HZ.out (Nat.le_refl _)).drew
    have hl5 : w3.heap.size + 2 = ((w3.alloc (.cells #[.bool false, .slice none 0 0, .bool false, .slice none 0 0] 92)).alloc (.cells #[.bool s9, .slice a9 n9 c9, .bool false, .slice a10 n10 c10] 92)).drew.heap.size := by simp
    have HL5 := Lib.hid hl5
    clear hl5
    go_region_with (first
      | (go_at_call 122; (with_reducible refine (rat_div _ _ β α K _ BV.out AV.out HPOS.out (by omega) hK2).mono ?_); rintro e w6 ⟨r6, rfl, hr6, hb6⟩; obtain ⟨s11, a11, n11, c11, a12, n12, c12, rfl, KD⟩ := hr6.shape; clear hr6; have PRX := Lib.hid (PRX.out.below hb6 (Nat.le_refl _)); have PX := Lib.hid (PX.out.below hb6 PX.out.lt); have KF := Lib.hid ((HZ.out.drew.trans (hb6.mono (by rw [← HL5.out]; omega))).mono (Nat.le_of_lt hgl3)); obtain ⟨px0, px1, px2, px3, pxf, pxl⟩ := PX.out; clear hb6))
    all_goals go_wp2
    all_goals
      rw [rounds_succ]
      go_wp2
      go_ret
      exact ⟨w3.heap.size, rfl, RowP.rats ((PRX.out.set (i := 0) (o := 0) (by omega) rfl KD.out).congr fun j hj _ => ⟨.inl (by omega), by rw [show j = 0 by omega]; simp [updQ]⟩), (KG.out.trans (below_st4 (o := 0) KF.out (Nat.le_of_lt hgl3) _ _ _ _))⟩
end Go.Proofs.YtgmopcncbpdniaaGreat

/- solve of package debt, at two firms of which the first pays what it has. -/
set_option linter.unusedVariables false
set_option linter.unusedSimpArgs false
namespace Go.Proofs.YtgmopcncbpdniaaGreat
open Go.RowKit
attribute [local go_sem ↓] Go.wp_at_zero Go.wp_at_succ
/-- what stands while solve sets its equation up: payments (block P) and the firm that is free (block F) as they were in the world wp, the matrix (block g) with one row (block r) -/
structure SB (w0 wp W : World) (P F g r : Nat) (pq : Nat → Rat) (α : Rat) (K : Nat) : Prop where
  base : Below w0.heap.size w0 W
  via : Below wp.heap.size wp W
  pays : RatRow wp P 2 pq 4
  fcell : wp.cell? ⟨F, 0, none⟩ = some (.int .i64 0)
  fl : F < wp.heap.size
  mat : W.cell? ⟨g, 0, none⟩ = some (.slice (some ⟨r, 0, none⟩) 1 1)
  mf : ∀ o, W.frozen? ⟨g, o, none⟩ = false
  ml : g < W.heap.size
  row : RatRow W r 1 (fun _ => α) K
  o1 : w0.heap.size ≤ P
  o2 : wp.heap.size ≤ g
  o4 : g < r
  o6 : w0.heap.size ≤ wp.heap.size
theorem SB.below {w0 wp W W' : World} {P F g r K B : Nat} {pq : Nat → Rat} {α : Rat} (h : SB w0 wp W P F g r pq α K) (hb : Below B W W') (hB : W.heap.size ≤ B) : SB w0 wp W' P F g r pq α K :=
  ⟨h.base.trans (hb.mono (Nat.le_trans h.base.size hB)), h.via.trans (hb.mono (Nat.le_trans h.via.size hB)), h.pays, h.fcell, h.fl, bel1 hb h.mat (Nat.lt_of_lt_of_le h.ml hB),
   fun o => (hb.frozen (p := ⟨g, o, none⟩) (Nat.lt_of_lt_of_le h.ml hB)).trans (h.mf o), Nat.lt_of_lt_of_le h.ml hb.size, h.row.below hb hB, h.o1, h.o2, h.o4, h.o6⟩
theorem SB.payW {w0 wp W : World} {P F g r K : Nat} {pq : Nat → Rat} {α : Rat} (h : SB w0 wp W P F g r pq α K) : RatRow W P 2 pq 4 := h.pays.below h.via (Nat.le_refl _)
theorem SB.free {w0 wp W : World} {P F g r K : Nat} {pq : Nat → Rat} {α : Rat} (h : SB w0 wp W P F g r pq α K) : W.cell? ⟨F, 0, none⟩ = some (.int .i64 0) := bel1 h.via h.fcell h.fl
theorem SB.add {w0 wp W : World} {P F g r K K' : Nat} {pq : Nat → Rat} {α x : Rat} (h : SB w0 wp W P F g r pq α K) {s : Bool} {a a2 : Option Addr} {m c m2 c2 : Nat}
    (hx : RatIs W (.agg #[.bool s, .slice a m c, .bool false, .slice a2 m2 c2]) x K') (hK : K ≤ K') : SB w0 wp (st4 W r 0 (.bool s) (.slice a m c) (.bool false) (.slice a2 m2 c2)) P F g r pq x K' := by
  have h1 := h.o1; have h2 := h.o2; have h4 := h.o4; have h6 := h.o6
  refine ⟨below_st4 h.base (by omega) _ _ _ _, below_st4 h.via (by omega) _ _ _ _, h.pays, h.fcell, h.fl, (far4 _ _ _ _ (by omega)).trans h.mat, fun o => by rw [frozen_st4]; exact h.mf o, by rw [size_st4]; exact h.ml, ?_, h.o1, h.o2, h.o4, h.o6⟩
  exact ((h.row.le hK).set (i := 0) (o := 0) (by omega) rfl hx).congr fun j hj _ => ⟨.inl (by omega), by rw [updQ, if_pos (by omega)]⟩
theorem madd_00 (g gc r : Nat) (α x : Rat) (K : Nat) (xv : Value) (w : World) (hg : w.cell? ⟨g, 0, none⟩ = some (.slice (some ⟨r, 0, none⟩) 1 1)) (hr : RatRow w r 1 (fun _ => α) K) (hx : RatIs w xv x K) (hK : 1 ≤ K) (hK2 : 2 * K + 1 ≤ 549755813888) :
    Calls Tryz.prog 114 #[.slice (some ⟨g, 0, none⟩) 1 gc, .int .i64 0, .int .i64 0, xv] w fun e w' => ∃ w1 s a m c a2 m2 c2, e = .returned (.tuple #[]) ∧
      w' = st4 w1 r 0 (.bool s) (.slice a m c) (.bool false) (.slice a2 m2 c2) ∧ Below w.heap.size w w1 ∧ RatIs w1 (.agg #[.bool s, .slice a m c, .bool false, .slice a2 m2 c2]) (α + x) (2 * K + 1) := by
  have h := madd_any g 1 gc 0 r 1 1 0 (fun _ => α) (fun _ => True) K xv x w hg (by omega) (by omega) hr trivial hx hK hK2
  rw [Nat.zero_mul] at h
  exact h
theorem share_00 (b : Nat) (cash : Nat → Int) (d : Nat → Nat → Int) (vc vd vt : Value) (w : World) (hm : IsMkt w b 2 cash d vc vd vt) (h : 0 ≤ d 0 0 ∧ d 0 0 ≤ 1000 ∧ 0 ≤ sumF (d 0) 2 ∧ sumF (d 0) 2 ≤ 100000) :
    Calls Tryz.prog 86 #[.pointer (some ⟨b, 0, none⟩), .int .i64 0, .int .i64 0] w fun e w' => ∃ r, e = .returned r ∧ RatIs w' r (shareQ (sumF (d 0) 2) (d 0 0)) 4 ∧ Below w.heap.size w w' :=
  share_any b 2 0 0 cash d vc vd vt w hm (by omega) (by omega) h.1 h.2.1 h.2.2.1 h.2.2.2
theorem has_0 (b : Nat) (cash : Nat → Int) (d : Nat → Nat → Int) (vc vd vt : Value) (w : World) (hm : IsMkt w b 2 cash d vc vd vt)
    (hD : ∀ j, j < 2 → 0 ≤ d j 0 ∧ d j 0 ≤ 1000 ∧ 0 ≤ sumF (d j) 2 ∧ sumF (d j) 2 ≤ 100000) (hC : 0 ≤ cash 0 ∧ cash 0 ≤ 100000) (pb pc : Nat) (q : Nat → Rat) (hp : IsRats w pb 0 2 q 4) :
    Calls Tryz.prog 51 #[.pointer (some ⟨b, 0, none⟩), .int .i64 0, .slice (some ⟨pb, 0, none⟩) 2 pc] w fun e w' => ∃ r, e = .returned r ∧ RatIs w' r (hasQ 2 cash d q 0) 2560 ∧ Below w.heap.size w w' :=
  has_any b 2 0 cash d vc vd vt w hm (by omega) (by omega) hD hC pb 0 pc q 4 hp (by omega) (by omega)
/-- a row of one Rat that an append onto nil has made -/
theorem rats_app (w : World) (s : Bool) (a a2 : Option Addr) (n c n2 c2 : Nat) (z : Array Value) (x : Rat) (K : Nat)
    (hv : RatIs (((w.alloc (.cells #[.bool s, .slice a n c, .bool false, .slice a2 n2 c2] 92)).alloc (.cells (#[.bool s, .slice a n c, .bool false, .slice a2 n2 c2] ++ z) 92)).drew) (.agg #[.bool s, .slice a n c, .bool false, .slice a2 n2 c2]) x K) :
    IsRats (((w.alloc (.cells #[.bool s, .slice a n c, .bool false, .slice a2 n2 c2] 92)).alloc (.cells (#[.bool s, .slice a n c, .bool false, .slice a2 n2 c2] ++ z) 92)).drew) (w.heap.size + 1) 0 1 (fun _ => x) K := fun j hj => by
  obtain rfl : j = 0 := by omega
  refine ⟨s, a, n, c, a2, n2, c2, ⟨?_, ?_, ?_, ?_, by simp⟩, hv⟩ <;> simp [go_sem] <;> (rw [Array.getElem?_append_left (by simp)]; rfl)
set_option maxHeartbeats 4000000 in
set_option maxRecDepth 100000 in
theorem solve_first (b : Nat) (cash : Nat → Int) (d : Nat → Nat → Int) (vc vd vt : Value) (w : World) (hm : IsMkt w b 2 cash d vc vd vt)
    (hT0 : 0 ≤ sumF (d 0) 2 ∧ sumF (d 0) 2 ≤ 100000) (hT1 : 0 ≤ sumF (d 1) 2 ∧ sumF (d 1) 2 ≤ 100000) (hD : ∀ j, j < 2 → 0 ≤ d j 0 ∧ d j 0 ≤ 1000 ∧ 0 ≤ sumF (d j) 2 ∧ sumF (d j) 2 ≤ 100000) (hC : 0 ≤ cash 0 ∧ cash 0 ≤ 100000)
    (fb nb fc nc : Nat) (hf : Bools2 w fb true false) (hn : Bools2 w nb false false) (hpos : 0 < ((0 : Rat) + ((1 : Int) : Rat) + -(shareQ (sumF (d 0) 2) (d 0 0))).num) :
    Calls Tryz.prog 71 #[.pointer (some ⟨b, 0, none⟩), .slice (some ⟨fb, 0, none⟩) 2 fc, .slice (some ⟨nb, 0, none⟩) 2 nc] w fun e w' => ∃ g, e = .returned (.slice (some ⟨g, 0, none⟩) 2 2) ∧
      IsRats w' g 0 2 (twoQ (hasQ 2 cash d (twoQ 0 (sumF (d 1) 2 : Rat)) 0 / ((0 : Rat) + ((1 : Int) : Rat) + -(shareQ (sumF (d 0) 2) (d 0 0)))) (sumF (d 1) 2 : Rat)) 5120 ∧ Below w.heap.size w w' := by
  have HM := Lib.hid hm
  obtain ⟨c0, c1, c2, c3, hcash, hdebt, ⟨ta, tb, t_o, tc, rfl, hts⟩, hlt⟩ := hm
  have ixt0 := fun W => ixI hts 0 tc (by omega) W
  have ixt1 := fun W => ixI hts 1 tc (by omega) W
  have ht0 := hts.cell 0 (by omega)
  have ht1 := hts.cell 1 (by omega)
  have htl := hts.lt (by omega)
  simp only [ic] at ht0 ht1
  have HD := Lib.hid hD
  have HC := Lib.hid hC
  have HPOS := Lib.hid hpos
  clear hpos hD hC
  obtain ⟨T1, hT⟩ : ∃ T1, T1 = sumF (d 1) 2 := ⟨_, rfl⟩
  rw [← hT] at ht1 hT1 ⊢
  have HT1 := Lib.hid hT
  obtain ⟨f0, f1, fl⟩ := hf
  obtain ⟨n0, n1, nl_⟩ := hn
  clear hT hcash hdebt hts c1 c2
  have hmk := mk2
  have keepS : Hid (∀ w', Below w.heap.size w w' → w'.cell? ⟨b, 0, none⟩ = some (.int .i64 2) ∧ w'.cell? ⟨b, 3, none⟩ = some (.slice ta 2 tc) ∧ w'.cell? ⟨tb, t_o + 1, none⟩ = some (.int .i64 T1) ∧
      w'.cell? ⟨fb, 0, none⟩ = some (.bool true) ∧ w'.cell? ⟨fb, 1, none⟩ = some (.bool false) ∧ w'.cell? ⟨nb, 0, none⟩ = some (.bool false) ∧ w'.cell? ⟨nb, 1, none⟩ = some (.bool false)) :=
    Lib.hid (fun w' hb => ⟨bel1 hb c0 hlt, bel1 hb c3 hlt, bel1 hb ht1 htl, bel1 hb f0 fl, bel1 hb f1 fl, bel1 hb n0 nl_, bel1 hb n1 nl_⟩)
  have KW := Lib.hid ((Below.refl w.heap.size w).alloc (Nat.le_refl _) (.cells #[.bool false, .slice none 0 0, .bool false, .slice none 0 0, .bool false, .slice none 0 0, .bool false, .slice none 0 0] 92))
  have PR := Lib.hid (row_new2 w _ rfl (fun _ => 0) 4)
  simp only [Int.natCast_zero, Int.natCast_one, Nat.add_zero] at ixt0 ixt1
  clear c0 c3 ht0 ht1 f0 f1 n0 n1
  have c0 : w.cell? ⟨b, 0, none⟩ = some (.int .i64 2) := (keepS.out _ (Below.refl _ _)).1
  go_enter Tryz.func71, Tryz.ntmps71
  go_wp2
  clear c0
  obtain ⟨c0, c3, ht1, f0, f1, n0, n1⟩ := keepS.out _ KW.out
  obtain ⟨s0, a0, m0, e0, b0, m0', e0', ⟨x0, x1, x2, x3, xl⟩, -⟩ := PR.out.cell 0 (by omega)
  have xf := PR.out.f
  simp only [Nat.zero_mul, Nat.zero_add] at x0 x1 x2 x3
  have nb1 : ¬ b = w.heap.size := by omega
  have nb2 : ¬ tb = w.heap.size := by omega
  have nb3 : ¬ fb = w.heap.size := by omega
  have nb4 : ¬ nb = w.heap.size := by omega
  refine wp_loop_rounds 3 ?_
  rw [rounds_succ]
  go_wp2_with fail
  generalize hcap : (Question.appendCap 1 0 3).cut (w.tape w.drawn (Question.appendCap 1 0 3)) = cap
  clear hcap
  have KW := Lib.hid (((KW.out.alloc KW.out.size (.cells #[.int .i64 0] 3)).alloc (by simp; omega) (.cells (#[.int .i64 0] ++ Builtin.zeroCells #[.int .i64 0] (cap - 1)) 3)).drew)
  have PR := Lib.hid (((PR.out.alloc (.cells #[.int .i64 0] 3)).alloc (.cells (#[.int .i64 0] ++ Builtin.zeroCells #[.int .i64 0] (cap - 1)) 3)).drew)
  have FR : Hid (World.cell? ((((w.alloc (.cells #[.bool false, .slice none 0 0, .bool false, .slice none 0 0, .bool false, .slice none 0 0, .bool false, .slice none 0 0] 92)).alloc (.cells #[.int .i64 0] 3)).alloc (.cells (#[.int .i64 0] ++ Builtin.zeroCells #[.int .i64 0] (cap - 1)) 3)).drew) ⟨w.heap.size + 1 + 1, 0, none⟩ = some (.int .i64 0)) := Lib.hid (by simp [go_sem]; rw [Array.getElem?_append_left (by simp)]; rfl)
  have FL : Hid (w.heap.size + 1 + 1 < ((((w.alloc (.cells #[.bool false, .slice none 0 0, .bool false, .slice none 0 0, .bool false, .slice none 0 0, .bool false, .slice none 0 0] 92)).alloc (.cells #[.int .i64 0] 3)).alloc (.cells (#[.int .i64 0] ++ Builtin.zeroCells #[.int .i64 0] (cap - 1)) 3)).drew).heap.size) := Lib.hid (by simp)
  go_wp2_with (first
    | (go_at_call 59; (with_reducible refine (rat_whole 0 (by omega) (by omega) _).mono ?_); rintro e w1 ⟨r1, rfl, hr1, hb1⟩; obtain ⟨s1, a1, n1x, e1, b1, m1, d1, rfl, K1⟩ := hr1.shape; clear hr1; have KW := Lib.hid (KW.out.trans (hb1.mono KW.out.size)); have PR := Lib.hid (PR.out.below hb1 (Nat.le_refl _)); have FR := Lib.hid (bel1 hb1 FR.out FL.out); have FL := Lib.hid (Nat.lt_of_lt_of_le FL.out hb1.size); clear c0 c3 ht1 f0 f1 n0 n1 x0 x1 x2 x3 xl xf; obtain ⟨c0, c3, ht1, f0, f1, n0, n1⟩ := keepS.out _ KW.out; obtain ⟨y1, y2, y3, y4, y5, y6, y7, ⟨x0, x1, x2, x3, xl⟩, -⟩ := PR.out.cell 0 (by omega); have xf := PR.out.f; simp only [Nat.zero_mul, Nat.zero_add] at x0 x1 x2 x3; clear hb1))
  rw [rounds_succ]
  have FR : Hid ((st4 w1 w.heap.size 0 (.bool s1) (.slice a1 n1x e1) (.bool false) (.slice b1 m1 d1)).cell? ⟨w.heap.size + 1 + 1, 0, none⟩ = some (.int .i64 0)) := Lib.hid ((far4 _ _ _ _ (by omega)).trans FR.out)
  have FL : Hid (w.heap.size + 1 + 1 < (st4 w1 w.heap.size 0 (.bool s1) (.slice a1 n1x e1) (.bool false) (.slice b1 m1 d1)).heap.size) := Lib.hid (by rw [size_st4]; exact FL.out)
  have PR := Lib.hid (PR.out.set (i := 0) (o := 0) (by omega) rfl (K1.out.le (by omega)))
  have KW := Lib.hid (below_st4 (o := 0) KW.out (Nat.le_refl _) (.bool s1) (.slice a1 n1x e1) (.bool false) (.slice b1 m1 d1))
  clear x0 x1 x2 x3 xl xf c0 c3 ht1 f0 f1 n0 n1
  obtain ⟨c0, c3, ht1, f0, f1, n0, n1⟩ := keepS.out _ KW.out
  go_wp2_with (first
    | (go_at_call 59; (with_reducible refine (rat_whole T1 (by omega) (by omega) _).mono ?_); rintro e w2 ⟨r2, rfl, hr2, hb2⟩; obtain ⟨s2, a2, n2x, e2, b2, m2, d2, rfl, K2⟩ := hr2.shape; clear hr2; have KW := Lib.hid (KW.out.trans (hb2.mono KW.out.size)); have PR := Lib.hid (PR.out.below hb2 (Nat.le_refl _)); have FR := Lib.hid (bel1 hb2 FR.out FL.out); have FL := Lib.hid (Nat.lt_of_lt_of_le FL.out hb2.size); clear c0 c3 ht1 f0 f1 n0 n1; obtain ⟨c0, c3, ht1, f0, f1, n0, n1⟩ := keepS.out _ KW.out; obtain ⟨y1, y2, y3, y4, y5, y6, y7, ⟨x0, x1, x2, x3, xl⟩, -⟩ := PR.out.cell 1 (by omega); have xf := PR.out.f; simp only [Nat.one_mul, Nat.reduceAdd] at x0 x1 x2 x3; clear hb2))
  rw [rounds_succ]
  have FR : Hid ((st4 w2 w.heap.size 4 (.bool s2) (.slice a2 n2x e2) (.bool false) (.slice b2 m2 d2)).cell? ⟨w.heap.size + 1 + 1, 0, none⟩ = some (.int .i64 0)) := Lib.hid ((far4 _ _ _ _ (by omega)).trans FR.out)
  have FL : Hid (w.heap.size + 1 + 1 < (st4 w2 w.heap.size 4 (.bool s2) (.slice a2 n2x e2) (.bool false) (.slice b2 m2 d2)).heap.size) := Lib.hid (by rw [size_st4]; exact FL.out)
  have PR := Lib.hid (PR.out.set (i := 1) (o := 4) (by omega) rfl (K2.out.le (by omega)))
  have KW := Lib.hid (below_st4 (o := 4) KW.out (Nat.le_refl _) (.bool s2) (.slice a2 n2x e2) (.bool false) (.slice b2 m2 d2))
  clear x0 x1 x2 x3 xl xf c0 c3 ht1 f0 f1 n0 n1
  have PR := Lib.hid (PR.out.congr (P' := fun _ => True) (q' := twoQ 0 T1) fun j hj _ => (match j, hj with
    | 0, _ => ⟨.inr (.inl rfl), by rw [twoQ_zero]; simp [updQ]⟩
    | 1, _ => ⟨.inl rfl, by rw [twoQ_one]; simp [updQ]⟩))
  go_wp2_with (first
    | (go_at_call 113; (with_reducible refine (zero_one _).mono ?_); rintro e w3 ⟨g, r, rfl, hg3, hr3, hg4, hgr, hgf, hgl, hb3⟩; have B3 : Hid (SB w (st4 w2 w.heap.size 4 (.bool s2) (.slice a2 n2x e2) (.bool false) (.slice b2 m2 d2)) w3 w.heap.size (w.heap.size + 1 + 1) g r (twoQ 0 T1) 0 2) := Lib.hid ⟨KW.out.trans (hb3.mono KW.out.size), hb3, PR.out, FR.out, FL.out, hg3, hgf, hgl, hr3, Nat.le_refl _, hg4, hgr, KW.out.size⟩; clear hg3 hr3 hg4 hgr hgf hgl hb3))
  clear KW PR FR FL
  have fr := B3.out.free
  refine wp_loop_rounds 2 ?_
  rw [rounds_succ]
  go_wp2_with (first
    | (go_at_call 59; (with_reducible refine (rat_whole 1 (by omega) (by omega) _).mono ?_); rintro e w4 ⟨r4, rfl, hr4, hb4⟩; obtain ⟨s4, a4, n4x, e4, b4, m4, d4, rfl, K4⟩ := hr4.shape; clear hr4; have B4 := Lib.hid (B3.out.below hb4 (Nat.le_refl _)); clear hb4)
    | (go_at_call 114; (with_reducible refine (madd_00 g 1 r 0 ((1 : Int) : Rat) 2 _ _ B4.out.mat B4.out.row K4.out (by omega) (by omega)).mono ?_); rintro e w' ⟨w5, s5, a5, n5x, e5, b5, m5, d5, rfl, rfl, hb5, K5⟩; have B5 := Lib.hid ((B4.out.below hb5 (Nat.le_refl _)).add K5 (by omega)); clear hb5))
  have fr5 := B5.out.free
  refine wp_loop_rounds 2 ?_
  rw [rounds_succ]
  go_wp2_with (first
    | (go_at_call 86; (with_reducible refine (share_00 b cash d _ _ _ _ (HM.out.mono B5.out.base (Nat.le_refl _)) (HD.out 0 (by omega))).mono ?_); rintro e w6 ⟨r6, rfl, hr6, hb6⟩; obtain ⟨s6, a6, n6x, e6, b6, m6, d6, rfl, K6⟩ := hr6.shape; clear hr6; have B6 := Lib.hid (B5.out.below hb6 (Nat.le_refl _)); clear hb6)
    | (go_at_call 87; (with_reducible refine (rat_neg _ (shareQ (sumF (d 0) 2) (d 0 0)) 4 _ K6.out).mono ?_); rintro e w7 ⟨r7, rfl, hr7, hb7⟩; obtain ⟨s7, a7, n7x, e7, b7, m7, d7, rfl, K7⟩ := hr7.shape; clear hr7; have B7 := Lib.hid (B6.out.below hb7 (Nat.le_refl _)); clear hb7)
    | (go_at_call 114; (with_reducible refine (madd_00 g 1 r (0 + ((1 : Int) : Rat)) (-(shareQ (sumF (d 0) 2) (d 0 0))) 5 _ _ B7.out.mat B7.out.row (K7.out.le (by omega)) (by omega) (by omega)).mono ?_); rintro e w' ⟨w8, s8, a8, n8x, e8, b8, m8, d8, rfl, rfl, hb8, K8⟩; have B8 := Lib.hid ((B7.out.below hb8 (Nat.le_refl _)).add K8 (by omega)); clear hb8))
  rw [rounds_succ]
  go_wp2_with (first
    | (go_at_call 51; (with_reducible refine (has_0 b cash d _ _ _ _ (HM.out.mono B8.out.base (Nat.le_refl _)) HD.out HC.out w.heap.size 2 (twoQ 0 T1) B8.out.payW.rats).mono ?_); rintro e w9 ⟨r9, rfl, hr9, hb9⟩; obtain ⟨s9, a9, n9x, e9, b9, m9, d9, rfl, K9⟩ := hr9.shape; clear hr9; have B9 := Lib.hid (B8.out.below hb9 (Nat.le_refl _)); clear hb9))
  rw [rounds_succ]
  generalize hcap2 : (Question.appendCap 1 0 92).cut (w9.tape w9.drawn (Question.appendCap 1 0 92)) = cap2
  clear hcap2
  have HW9 := Lib.hid (((boxes2 w9 (.cells #[.bool s9, .slice a9 n9x e9, .bool false, .slice b9 m9 d9] 92) (.cells (#[.bool s9, .slice a9 n9x e9, .bool false, .slice b9 m9 d9] ++ Builtin.zeroCells #[.bool false, .slice none 0 0, .bool false, .slice none 0 0] (cap2 - 1)) 92))).drew)
  have B10 := Lib.hid (B9.out.below HW9.out (Nat.le_refl _))
  have BB := Lib.hid (rats_app w9 (s9) a9 b9 n9x e9 m9 d9 (Builtin.zeroCells #[.bool false, .slice none 0 0, .bool false, .slice none 0 0] (cap2 - 1)) _ _ (K9.out.mono HW9.out (Nat.le_refl _)))
  go_wp2_with (first
    | (go_at_call 115; (with_reducible refine (lsolve_one g 1 r 1 (w9.heap.size + 1) cap2 _ _ 2560 _ B10.out.mat B10.out.mf (B10.out.row.le (by omega)) BB.out HPOS.out (by omega) (by omega)).mono ?_); rintro e w11 ⟨x, rfl, hx, hb11⟩))
  obtain ⟨s12, a12, n12, c12, b12, m12, d12, X0, XV⟩ := hx 0 (by omega)
  rw [Nat.zero_add, Nat.zero_mul] at X0
  have X0 := Lib.hid X0
  have XV := Lib.hid XV
  have V11 := Lib.hid (B10.out.via.trans (hb11.mono B10.out.o2))
  have KW := Lib.hid (B10.out.base.trans (hb11.mono (Nat.le_trans B10.out.o6 B10.out.o2)))
  have HN := Lib.hid (boxes1 w11 (.cells #[.bool s12, .slice a12 n12 c12, .bool false, .slice b12 m12 d12] 92))
  have P12 := Lib.hid ((B10.out.pays.below V11.out (Nat.le_refl _)).below HN.out (Nat.le_refl _))
  have fr12 := bel1 HN.out (bel1 V11.out B10.out.fcell B10.out.fl) (Nat.lt_of_lt_of_le B10.out.fl V11.out.size)
  have XV := Lib.hid (XV.out.mono HN.out (Nat.le_refl _)).drew
  have KW := Lib.hid (KW.out.trans (HN.out.mono KW.out.size)).drew
  obtain ⟨x0, x1, x2, x3, xl⟩ := X0.out
  obtain ⟨y1, y2, y3, y4, y5, y6, y7, ⟨p0, p1, p2, p3, pl⟩, -⟩ := P12.out.cell 0 (by omega)
  have pf := P12.out.f
  simp only [Nat.zero_mul, Nat.zero_add] at p0 p1 p2 p3 x0 x1 x2 x3
  have ixx := fun W => rowIx x 1 1 0 (by omega) W
  simp only [Nat.zero_mul, Int.natCast_zero] at ixx
  clear fr fr5 hx hb11 ixt0 ixt1
  refine wp_loop_rounds 2 ?_
  rw [rounds_succ]
  go_wp2
  go_region
  all_goals go_wp2
  all_goals
    rw [rounds_succ]
    go_wp2
    go_ret
    refine ⟨_, rfl, RowP.rats (((P12.out.drew.le (by omega)).set (i := 0) (o := 0) (by omega) rfl XV.out).congr fun j hj _ => ?_), below_st4 (o := 0) KW.out (Nat.le_refl _) _ _ _ _⟩
    exact (match j, hj with
      | 0, _ => ⟨.inl rfl, by rw [twoQ_zero]; simp [updQ]⟩
      | 1, _ => ⟨.inr trivial, by rw [twoQ_one]; simp [updQ, twoQ_one]⟩)
end Go.Proofs.YtgmopcncbpdniaaGreat

/- The market of the document's example: rounds of package debt. -/
set_option linter.unusedVariables false
set_option linter.unusedSimpArgs false
namespace Go.Proofs.YtgmopcncbpdniaaGreat
open Go.RowKit
attribute [local go_sem ↓] Go.wp_at_zero Go.wp_at_succ
/-- the document's example: firm 0 owes firm 1 four, and firm 1 owes it two; firm 0 has one -/
def cashL (i : Nat) : Int := if i = 0 then 1 else 0
def dL (i j : Nat) : Int := if i = 0 ∧ j = 1 then 4 else if i = 1 ∧ j = 0 then 2 else 0
theorem dL_range (j i : Nat) (hj : j < 2) : 0 ≤ dL j i ∧ dL j i ≤ 1000 ∧ 0 ≤ sumF (dL j) 2 ∧ sumF (dL j) 2 ≤ 100000 := by
  have h1 : 0 ≤ dL j i ∧ dL j i ≤ 1000 := by unfold dL; split <;> (try split) <;> omega
  refine ⟨h1.1, h1.2, ?_⟩
  match j, hj with
  | 0, _ => decide
  | 1, _ => decide
theorem dL_tot0 : sumF (dL 0) 2 = 4 := by decide
theorem dL_tot1 : sumF (dL 1) 2 = 2 := by decide
theorem infoB : (Tryz.prog.info? 4).map (fun i => (i.zero, i.size, i.bytes)) = some (some (.bool false), 1, 1) := by kernel_rfl
theorem mkB2 (W : World) : (Instr.makeSlice 44 (.int .i64 2) (.int .i64 2)).run Tryz.prog W = .ok (.slice (some ⟨W.heap.size, 0, none⟩) 2 2) (W.alloc (.cells #[.bool false, .bool false] 4)) := by
  obtain ⟨i0, hi, hz0, hz1, hz2⟩ := info_parts infoB
  have h := run_make (P := Tryz.prog) W 44 4 i0 _ Tryz.underlying44 hi hz0 .i64 .i64 2 2 (by omega) (by omega) (by rw [hz2]; omega) (by omega)
  have e : madeCells (Value.bool false).cells ((2 : Int).toNat * 1) = #[.bool false, .bool false] := by kernel_rfl
  rw [h, hz1, e]
  rfl
theorem has_l0 (b : Nat) (vc vd vt : Value) (w : World) (hm : IsMkt w b 2 cashL dL vc vd vt) (pb pc : Nat) (q : Nat → Rat) (K : Nat) (hp : IsRats w pb 0 2 q K) (hK : 4 ≤ K) (hK2 : K ≤ 268435456) (x : Rat) (hx : hasQ 2 cashL dL q 0 = x) :
    Calls Tryz.prog 51 #[.pointer (some ⟨b, 0, none⟩), .int .i64 0, .slice (some ⟨pb, 0, none⟩) 2 pc] w fun e w' => ∃ r, e = .returned r ∧ RatIs w' r x (512 * (K + 1)) ∧ Below w.heap.size w w' := by
  have h := has_any b 2 0 cashL dL vc vd vt w hm (by omega) (by omega) (fun j hj => dL_range j 0 hj) (by decide) pb 0 pc q K hp hK hK2
  rw [hx] at h
  exact h
theorem has_l1 (b : Nat) (vc vd vt : Value) (w : World) (hm : IsMkt w b 2 cashL dL vc vd vt) (pb pc : Nat) (q : Nat → Rat) (K : Nat) (hp : IsRats w pb 0 2 q K) (hK : 4 ≤ K) (hK2 : K ≤ 268435456) (x : Rat) (hx : hasQ 2 cashL dL q 1 = x) :
    Calls Tryz.prog 51 #[.pointer (some ⟨b, 0, none⟩), .int .i64 1, .slice (some ⟨pb, 0, none⟩) 2 pc] w fun e w' => ∃ r, e = .returned r ∧ RatIs w' r x (512 * (K + 1)) ∧ Below w.heap.size w w' := by
  have h := has_any b 2 1 cashL dL vc vd vt w hm (by omega) (by omega) (fun j hj => dL_range j 1 hj) (by decide) pb 0 pc q K hp hK hK2
  rw [hx] at h
  exact h
theorem has_42_0 : hasQ 2 cashL dL (twoQ 4 2) 0 = 3 := by decide +kernel
theorem has_42_1 : hasQ 2 cashL dL (twoQ 4 2) 1 = 4 := by decide +kernel
theorem has_32_1 : hasQ 2 cashL dL (twoQ 3 2) 1 = 3 := by decide +kernel
theorem has_02_0 : hasQ 2 cashL dL (twoQ 0 2) 0 = 3 := by decide +kernel
/-- solve where nobody has failed: both pay their totals -/
theorem solve_l0 (b : Nat) (vc vd vt : Value) (w : World) (hm : IsMkt w b 2 cashL dL vc vd vt) (fb nb fc nc : Nat) (hf : Bools2 w fb false false) (hn : Bools2 w nb false false) :
    Calls Tryz.prog 71 #[.pointer (some ⟨b, 0, none⟩), .slice (some ⟨fb, 0, none⟩) 2 fc, .slice (some ⟨nb, 0, none⟩) 2 nc] w fun e w' => ∃ g, e = .returned (.slice (some ⟨g, 0, none⟩) 2 2) ∧
      IsRats w' g 0 2 (twoQ 4 2) 4 ∧ Below w.heap.size w w' := by
  refine (solve_none b cashL dL vc vd vt w hm (by decide) (by decide) fb nb fc nc hf hn).mono ?_
  rintro e w' ⟨g, rfl, h, hb⟩
  refine ⟨g, rfl, fun j hj => ?_, hb⟩
  obtain ⟨s, a, m, c, a2, m2, c2, h1, h2⟩ := h j hj
  refine ⟨s, a, m, c, a2, m2, c2, h1, ?_⟩
  match j, hj, h2 with
  | 0, _, h2 => rw [twoQ_zero]; have h3 : RatIs w' _ ((sumF (dL 0) 2 : Int) : Rat) 4 := h2; rw [dL_tot0] at h3; exact h3
  | 1, _, h2 => rw [twoQ_one]; have h3 : RatIs w' _ ((sumF (dL 1) 2 : Int) : Rat) 4 := h2; rw [dL_tot1] at h3; exact h3
/-- solve where firm 0 has failed -/
theorem solve_l1 (b : Nat) (vc vd vt : Value) (w : World) (hm : IsMkt w b 2 cashL dL vc vd vt) (fb nb fc nc : Nat) (hf : Bools2 w fb true false) (hn : Bools2 w nb false false) :
    Calls Tryz.prog 71 #[.pointer (some ⟨b, 0, none⟩), .slice (some ⟨fb, 0, none⟩) 2 fc, .slice (some ⟨nb, 0, none⟩) 2 nc] w fun e w' => ∃ g, e = .returned (.slice (some ⟨g, 0, none⟩) 2 2) ∧
      IsRats w' g 0 2 (twoQ 3 2) 5120 ∧ Below w.heap.size w w' := by
  refine (solve_first b cashL dL vc vd vt w hm (by decide) (by decide) (fun j hj => dL_range j 0 hj) (by decide) fb nb fc nc hf hn (by decide +kernel)).mono ?_
  rintro e w' ⟨g, rfl, h, hb⟩
  rw [dL_tot0, dL_tot1, show (((2 : Int) : Rat)) = 2 from rfl, has_02_0, show (3 : Rat) / (0 + ((1 : Int) : Rat) + -(shareQ 4 (dL 0 0))) = 3 from by decide +kernel] at h
  exact ⟨g, rfl, h, hb⟩
end Go.Proofs.YtgmopcncbpdniaaGreat
