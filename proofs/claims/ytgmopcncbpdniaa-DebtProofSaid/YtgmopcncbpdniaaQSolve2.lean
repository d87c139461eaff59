/- solve of package debt, at two firms of which the first pays what it has. -/
import Derived.Test.YtgmopcncbpdniaaQSolve1
import Derived.Test.YtgmopcncbpdniaaQLin4
set_option linter.unusedVariables false
set_option linter.unusedSimpArgs false
namespace Go.Proofs.Ytgmopcncbpdniaa
open Go.RowKit
attribute [local go_sem ↓] Go.wp_at_zero Go.wp_at_succ

/-- what stands while solve sets its equation up: payments (block P) and the firm that is free (block F) as they were in the world wp, the matrix (block g) with one row (block r) -/
structure SB (w0 wp W : World) (P F g r : Nat) (pq : Nat → Rat) (α : Rat) (K : Nat) : Prop where
  base : Below w0.heap.size w0 W
  via : Below wp.heap.size wp W
  pays : RatRow wp P 2 pq 4
  fcell : wp.cell? ⟨F, 0, none⟩ = some (.int .i64 0)
  fl : F < wp.heap.size
  mat : W.cell? ⟨g, 0, none⟩ = some (.slice (some ⟨r, 0, none⟩) 1 1)
  mf : ∀ o, W.frozen? ⟨g, o, none⟩ = false
  ml : g < W.heap.size
  row : RatRow W r 1 (fun _ => α) K
  o1 : w0.heap.size ≤ P
  o2 : wp.heap.size ≤ g
  o4 : g < r
  o6 : w0.heap.size ≤ wp.heap.size

theorem SB.below {w0 wp W W' : World} {P F g r K B : Nat} {pq : Nat → Rat} {α : Rat} (h : SB w0 wp W P F g r pq α K) (hb : Below B W W') (hB : W.heap.size ≤ B) : SB w0 wp W' P F g r pq α K :=
  ⟨h.base.trans (hb.mono (Nat.le_trans h.base.size hB)), h.via.trans (hb.mono (Nat.le_trans h.via.size hB)), h.pays, h.fcell, h.fl, bel1 hb h.mat (Nat.lt_of_lt_of_le h.ml hB),
   fun o => (hb.frozen (p := ⟨g, o, none⟩) (Nat.lt_of_lt_of_le h.ml hB)).trans (h.mf o), Nat.lt_of_lt_of_le h.ml hb.size, h.row.below hb hB, h.o1, h.o2, h.o4, h.o6⟩
theorem SB.payW {w0 wp W : World} {P F g r K : Nat} {pq : Nat → Rat} {α : Rat} (h : SB w0 wp W P F g r pq α K) : RatRow W P 2 pq 4 := h.pays.below h.via (Nat.le_refl _)
theorem SB.free {w0 wp W : World} {P F g r K : Nat} {pq : Nat → Rat} {α : Rat} (h : SB w0 wp W P F g r pq α K) : W.cell? ⟨F, 0, none⟩ = some (.int .i64 0) := bel1 h.via h.fcell h.fl

theorem SB.add {w0 wp W : World} {P F g r K K' : Nat} {pq : Nat → Rat} {α x : Rat} (h : SB w0 wp W P F g r pq α K) {s : Bool} {a a2 : Option Addr} {m c m2 c2 : Nat}
    (hx : RatIs W (.agg #[.bool s, .slice a m c, .bool false, .slice a2 m2 c2]) x K') (hK : K ≤ K') : SB w0 wp (st4 W r 0 (.bool s) (.slice a m c) (.bool false) (.slice a2 m2 c2)) P F g r pq x K' := by
  have h1 := h.o1; have h2 := h.o2; have h4 := h.o4; have h6 := h.o6
  refine ⟨below_st4 h.base (by omega) _ _ _ _, below_st4 h.via (by omega) _ _ _ _, h.pays, h.fcell, h.fl, (far4 _ _ _ _ (by omega)).trans h.mat, fun o => by rw [frozen_st4]; exact h.mf o, by rw [size_st4]; exact h.ml, ?_, h.o1, h.o2, h.o4, h.o6⟩
  exact ((h.row.le hK).set (i := 0) (o := 0) (by omega) rfl hx).congr fun j hj _ => ⟨.inl (by omega), by rw [updQ, if_pos (by omega)]⟩

theorem madd_00 (g gc r : Nat) (α x : Rat) (K : Nat) (xv : Value) (w : World) (hg : w.cell? ⟨g, 0, none⟩ = some (.slice (some ⟨r, 0, none⟩) 1 1)) (hr : RatRow w r 1 (fun _ => α) K) (hx : RatIs w xv x K) (hK : 1 ≤ K) (hK2 : 2 * K + 1 ≤ 549755813888) :
    Calls Try.prog 59 #[.slice (some ⟨g, 0, none⟩) 1 gc, .int .i64 0, .int .i64 0, xv] w fun e w' => ∃ w1 s a m c a2 m2 c2, e = .returned (.tuple #[]) ∧
      w' = st4 w1 r 0 (.bool s) (.slice a m c) (.bool false) (.slice a2 m2 c2) ∧ Below w.heap.size w w1 ∧ RatIs w1 (.agg #[.bool s, .slice a m c, .bool false, .slice a2 m2 c2]) (α + x) (2 * K + 1) := by
  have h := madd_any g 1 gc 0 r 1 1 0 (fun _ => α) (fun _ => True) K xv x w hg (by omega) (by omega) hr trivial hx hK hK2
  rw [Nat.zero_mul] at h
  exact h
theorem share_00 (b : Nat) (cash : Nat → Int) (d : Nat → Nat → Int) (vc vd vt : Value) (w : World) (hm : IsMkt w b 2 cash d vc vd vt) (h : 0 ≤ d 0 0 ∧ d 0 0 ≤ 1000 ∧ 0 ≤ sumF (d 0) 2 ∧ sumF (d 0) 2 ≤ 100000) :
    Calls Try.prog 60 #[.pointer (some ⟨b, 0, none⟩), .int .i64 0, .int .i64 0] w fun e w' => ∃ r, e = .returned r ∧ RatIs w' r (shareQ (sumF (d 0) 2) (d 0 0)) 4 ∧ Below w.heap.size w w' :=
  share_any b 2 0 0 cash d vc vd vt w hm (by omega) (by omega) h.1 h.2.1 h.2.2.1 h.2.2.2
theorem has_0 (b : Nat) (cash : Nat → Int) (d : Nat → Nat → Int) (vc vd vt : Value) (w : World) (hm : IsMkt w b 2 cash d vc vd vt)
    (hD : ∀ j, j < 2 → 0 ≤ d j 0 ∧ d j 0 ≤ 1000 ∧ 0 ≤ sumF (d j) 2 ∧ sumF (d j) 2 ≤ 100000) (hC : 0 ≤ cash 0 ∧ cash 0 ≤ 100000) (pb pc : Nat) (q : Nat → Rat) (hp : IsRats w pb 0 2 q 4) :
    Calls Try.prog 51 #[.pointer (some ⟨b, 0, none⟩), .int .i64 0, .slice (some ⟨pb, 0, none⟩) 2 pc] w fun e w' => ∃ r, e = .returned r ∧ RatIs w' r (hasQ 2 cash d q 0) 2560 ∧ Below w.heap.size w w' :=
  has_any b 2 0 cash d vc vd vt w hm (by omega) (by omega) hD hC pb 0 pc q 4 hp (by omega) (by omega)

/-- a row of one Rat that an append onto nil has made -/
theorem rats_app (w : World) (s : Bool) (a a2 : Option Addr) (n c n2 c2 : Nat) (z : Array Value) (x : Rat) (K : Nat)
    (hv : RatIs (((w.alloc (.cells #[.bool s, .slice a n c, .bool false, .slice a2 n2 c2] 88)).alloc (.cells (#[.bool s, .slice a n c, .bool false, .slice a2 n2 c2] ++ z) 88)).drew) (.agg #[.bool s, .slice a n c, .bool false, .slice a2 n2 c2]) x K) :
    IsRats (((w.alloc (.cells #[.bool s, .slice a n c, .bool false, .slice a2 n2 c2] 88)).alloc (.cells (#[.bool s, .slice a n c, .bool false, .slice a2 n2 c2] ++ z) 88)).drew) (w.heap.size + 1) 0 1 (fun _ => x) K := fun j hj => by
  obtain rfl : j = 0 := by omega
  refine ⟨s, a, n, c, a2, n2, c2, ⟨?_, ?_, ?_, ?_, by simp⟩, hv⟩ <;> simp [go_sem] <;> (rw [Array.getElem?_append_left (by simp)]; rfl)

set_option maxHeartbeats 4000000 in
set_option maxRecDepth 100000 in
theorem solve_first (b : Nat) (cash : Nat → Int) (d : Nat → Nat → Int) (vc vd vt : Value) (w : World) (hm : IsMkt w b 2 cash d vc vd vt)
    (hT0 : 0 ≤ sumF (d 0) 2 ∧ sumF (d 0) 2 ≤ 100000) (hT1 : 0 ≤ sumF (d 1) 2 ∧ sumF (d 1) 2 ≤ 100000) (hD : ∀ j, j < 2 → 0 ≤ d j 0 ∧ d j 0 ≤ 1000 ∧ 0 ≤ sumF (d j) 2 ∧ sumF (d j) 2 ≤ 100000) (hC : 0 ≤ cash 0 ∧ cash 0 ≤ 100000)
    (fb nb fc nc : Nat) (hf : Bools2 w fb true false) (hn : Bools2 w nb false false) (hpos : 0 < ((0 : Rat) + ((1 : Int) : Rat) + -(shareQ (sumF (d 0) 2) (d 0 0))).num) :
    Calls Try.prog 50 #[.pointer (some ⟨b, 0, none⟩), .slice (some ⟨fb, 0, none⟩) 2 fc, .slice (some ⟨nb, 0, none⟩) 2 nc] w fun e w' => ∃ g, e = .returned (.slice (some ⟨g, 0, none⟩) 2 2) ∧
      IsRats w' g 0 2 (twoQ (hasQ 2 cash d (twoQ 0 (sumF (d 1) 2 : Rat)) 0 / ((0 : Rat) + ((1 : Int) : Rat) + -(shareQ (sumF (d 0) 2) (d 0 0)))) (sumF (d 1) 2 : Rat)) 5120 ∧ Below w.heap.size w w' := by
  have HM := Lib.hid hm
  obtain ⟨c0, c1, c2, c3, hcash, hdebt, ⟨ta, tb, t_o, tc, rfl, hts⟩, hlt⟩ := hm
  have ixt0 := fun W => ixI hts 0 tc (by omega) W
  have ixt1 := fun W => ixI hts 1 tc (by omega) W
  have ht0 := hts.cell 0 (by omega)
  have ht1 := hts.cell 1 (by omega)
  have htl := hts.lt (by omega)
  simp only [ic] at ht0 ht1
  have HD := Lib.hid hD
  have HC := Lib.hid hC
  have HPOS := Lib.hid hpos
  clear hpos hD hC
  obtain ⟨T1, hT⟩ : ∃ T1, T1 = sumF (d 1) 2 := ⟨_, rfl⟩
  rw [← hT] at ht1 hT1 ⊢
  have HT1 := Lib.hid hT
  obtain ⟨f0, f1, fl⟩ := hf
  obtain ⟨n0, n1, nl_⟩ := hn
  clear hT hcash hdebt hts c1 c2
  have hmk := mk2
  have keepS : Hid (∀ w', Below w.heap.size w w' → w'.cell? ⟨b, 0, none⟩ = some (.int .i64 2) ∧ w'.cell? ⟨b, 3, none⟩ = some (.slice ta 2 tc) ∧ w'.cell? ⟨tb, t_o + 1, none⟩ = some (.int .i64 T1) ∧
      w'.cell? ⟨fb, 0, none⟩ = some (.bool true) ∧ w'.cell? ⟨fb, 1, none⟩ = some (.bool false) ∧ w'.cell? ⟨nb, 0, none⟩ = some (.bool false) ∧ w'.cell? ⟨nb, 1, none⟩ = some (.bool false)) :=
    Lib.hid (fun w' hb => ⟨bel1 hb c0 hlt, bel1 hb c3 hlt, bel1 hb ht1 htl, bel1 hb f0 fl, bel1 hb f1 fl, bel1 hb n0 nl_, bel1 hb n1 nl_⟩)
  have KW := Lib.hid ((Below.refl w.heap.size w).alloc (Nat.le_refl _) (.cells #[.bool false, .slice none 0 0, .bool false, .slice none 0 0, .bool false, .slice none 0 0, .bool false, .slice none 0 0] 88))
  have PR := Lib.hid (row_new2 w _ rfl (fun _ => 0) 4)
  simp only [Int.natCast_zero, Int.natCast_one, Nat.add_zero] at ixt0 ixt1
  clear c0 c3 ht0 ht1 f0 f1 n0 n1
  have c0 : w.cell? ⟨b, 0, none⟩ = some (.int .i64 2) := (keepS.out _ (Below.refl _ _)).1
  go_enter Try.func50, Try.ntmps50
  go_wp2
  clear c0
  obtain ⟨c0, c3, ht1, f0, f1, n0, n1⟩ := keepS.out _ KW.out
  obtain ⟨s0, a0, m0, e0, b0, m0', e0', ⟨x0, x1, x2, x3, xl⟩, -⟩ := PR.out.cell 0 (by omega)
  have xf := PR.out.f
  simp only [Nat.zero_mul, Nat.zero_add] at x0 x1 x2 x3
  have nb1 : ¬ b = w.heap.size := by omega
  have nb2 : ¬ tb = w.heap.size := by omega
  have nb3 : ¬ fb = w.heap.size := by omega
  have nb4 : ¬ nb = w.heap.size := by omega
  refine wp_loop_rounds 3 ?_
  rw [rounds_succ]
  go_wp2_with fail
  generalize hcap : (Question.appendCap 1 0 3).cut (w.tape w.drawn (Question.appendCap 1 0 3)) = cap
  clear hcap
  have KW := Lib.hid (((KW.out.alloc KW.out.size (.cells #[.int .i64 0] 3)).alloc (by simp; omega) (.cells (#[.int .i64 0] ++ Builtin.zeroCells #[.int .i64 0] (cap - 1)) 3)).drew)
  have PR := Lib.hid (((PR.out.alloc (.cells #[.int .i64 0] 3)).alloc (.cells (#[.int .i64 0] ++ Builtin.zeroCells #[.int .i64 0] (cap - 1)) 3)).drew)
  have FR : Hid (World.cell? ((((w.alloc (.cells #[.bool false, .slice none 0 0, .bool false, .slice none 0 0, .bool false, .slice none 0 0, .bool false, .slice none 0 0] 88)).alloc (.cells #[.int .i64 0] 3)).alloc (.cells (#[.int .i64 0] ++ Builtin.zeroCells #[.int .i64 0] (cap - 1)) 3)).drew) ⟨w.heap.size + 1 + 1, 0, none⟩ = some (.int .i64 0)) := Lib.hid (by simp [go_sem]; rw [Array.getElem?_append_left (by simp)]; rfl)
  have FL : Hid (w.heap.size + 1 + 1 < ((((w.alloc (.cells #[.bool false, .slice none 0 0, .bool false, .slice none 0 0, .bool false, .slice none 0 0, .bool false, .slice none 0 0] 88)).alloc (.cells #[.int .i64 0] 3)).alloc (.cells (#[.int .i64 0] ++ Builtin.zeroCells #[.int .i64 0] (cap - 1)) 3)).drew).heap.size) := Lib.hid (by simp)
  go_wp2_with (first
    | (go_at_call 53; (with_reducible refine (rat_whole 0 (by omega) (by omega) _).mono ?_); rintro e w1 ⟨r1, rfl, hr1, hb1⟩; obtain ⟨s1, a1, n1x, e1, b1, m1, d1, rfl, K1⟩ := hr1.shape; clear hr1; have KW := Lib.hid (KW.out.trans (hb1.mono KW.out.size)); have PR := Lib.hid (PR.out.below hb1 (Nat.le_refl _)); have FR := Lib.hid (bel1 hb1 FR.out FL.out); have FL := Lib.hid (Nat.lt_of_lt_of_le FL.out hb1.size); clear c0 c3 ht1 f0 f1 n0 n1 x0 x1 x2 x3 xl xf; obtain ⟨c0, c3, ht1, f0, f1, n0, n1⟩ := keepS.out _ KW.out; obtain ⟨y1, y2, y3, y4, y5, y6, y7, ⟨x0, x1, x2, x3, xl⟩, -⟩ := PR.out.cell 0 (by omega); have xf := PR.out.f; simp only [Nat.zero_mul, Nat.zero_add] at x0 x1 x2 x3; clear hb1))
  rw [rounds_succ]
  have FR : Hid ((st4 w1 w.heap.size 0 (.bool s1) (.slice a1 n1x e1) (.bool false) (.slice b1 m1 d1)).cell? ⟨w.heap.size + 1 + 1, 0, none⟩ = some (.int .i64 0)) := Lib.hid ((far4 _ _ _ _ (by omega)).trans FR.out)
  have FL : Hid (w.heap.size + 1 + 1 < (st4 w1 w.heap.size 0 (.bool s1) (.slice a1 n1x e1) (.bool false) (.slice b1 m1 d1)).heap.size) := Lib.hid (by rw [size_st4]; exact FL.out)
  have PR := Lib.hid (PR.out.set (i := 0) (o := 0) (by omega) rfl (K1.out.le (by omega)))
  have KW := Lib.hid (below_st4 (o := 0) KW.out (Nat.le_refl _) (.bool s1) (.slice a1 n1x e1) (.bool false) (.slice b1 m1 d1))
  clear x0 x1 x2 x3 xl xf c0 c3 ht1 f0 f1 n0 n1
  obtain ⟨c0, c3, ht1, f0, f1, n0, n1⟩ := keepS.out _ KW.out
  go_wp2_with (first
    | (go_at_call 53; (with_reducible refine (rat_whole T1 (by omega) (by omega) _).mono ?_); rintro e w2 ⟨r2, rfl, hr2, hb2⟩; obtain ⟨s2, a2, n2x, e2, b2, m2, d2, rfl, K2⟩ := hr2.shape; clear hr2; have KW := Lib.hid (KW.out.trans (hb2.mono KW.out.size)); have PR := Lib.hid (PR.out.below hb2 (Nat.le_refl _)); have FR := Lib.hid (bel1 hb2 FR.out FL.out); have FL := Lib.hid (Nat.lt_of_lt_of_le FL.out hb2.size); clear c0 c3 ht1 f0 f1 n0 n1; obtain ⟨c0, c3, ht1, f0, f1, n0, n1⟩ := keepS.out _ KW.out; obtain ⟨y1, y2, y3, y4, y5, y6, y7, ⟨x0, x1, x2, x3, xl⟩, -⟩ := PR.out.cell 1 (by omega); have xf := PR.out.f; simp only [Nat.one_mul, Nat.reduceAdd] at x0 x1 x2 x3; clear hb2))
  rw [rounds_succ]
  have FR : Hid ((st4 w2 w.heap.size 4 (.bool s2) (.slice a2 n2x e2) (.bool false) (.slice b2 m2 d2)).cell? ⟨w.heap.size + 1 + 1, 0, none⟩ = some (.int .i64 0)) := Lib.hid ((far4 _ _ _ _ (by omega)).trans FR.out)
  have FL : Hid (w.heap.size + 1 + 1 < (st4 w2 w.heap.size 4 (.bool s2) (.slice a2 n2x e2) (.bool false) (.slice b2 m2 d2)).heap.size) := Lib.hid (by rw [size_st4]; exact FL.out)
  have PR := Lib.hid (PR.out.set (i := 1) (o := 4) (by omega) rfl (K2.out.le (by omega)))
  have KW := Lib.hid (below_st4 (o := 4) KW.out (Nat.le_refl _) (.bool s2) (.slice a2 n2x e2) (.bool false) (.slice b2 m2 d2))
  clear x0 x1 x2 x3 xl xf c0 c3 ht1 f0 f1 n0 n1
  have PR := Lib.hid (PR.out.congr (P' := fun _ => True) (q' := twoQ 0 T1) fun j hj _ => (match j, hj with
    | 0, _ => ⟨.inr (.inl rfl), by rw [twoQ_zero]; simp [updQ]⟩
    | 1, _ => ⟨.inl rfl, by rw [twoQ_one]; simp [updQ]⟩))
  go_wp2_with (first
    | (go_at_call 58; (with_reducible refine (zero_one _).mono ?_); rintro e w3 ⟨g, r, rfl, hg3, hr3, hg4, hgr, hgf, hgl, hb3⟩; have B3 : Hid (SB w (st4 w2 w.heap.size 4 (.bool s2) (.slice a2 n2x e2) (.bool false) (.slice b2 m2 d2)) w3 w.heap.size (w.heap.size + 1 + 1) g r (twoQ 0 T1) 0 2) := Lib.hid ⟨KW.out.trans (hb3.mono KW.out.size), hb3, PR.out, FR.out, FL.out, hg3, hgf, hgl, hr3, Nat.le_refl _, hg4, hgr, KW.out.size⟩; clear hg3 hr3 hg4 hgr hgf hgl hb3))
  clear KW PR FR FL
  have fr := B3.out.free
  refine wp_loop_rounds 2 ?_
  rw [rounds_succ]
  go_wp2_with (first
    | (go_at_call 53; (with_reducible refine (rat_whole 1 (by omega) (by omega) _).mono ?_); rintro e w4 ⟨r4, rfl, hr4, hb4⟩; obtain ⟨s4, a4, n4x, e4, b4, m4, d4, rfl, K4⟩ := hr4.shape; clear hr4; have B4 := Lib.hid (B3.out.below hb4 (Nat.le_refl _)); clear hb4)
    | (go_at_call 59; (with_reducible refine (madd_00 g 1 r 0 ((1 : Int) : Rat) 2 _ _ B4.out.mat B4.out.row K4.out (by omega) (by omega)).mono ?_); rintro e w' ⟨w5, s5, a5, n5x, e5, b5, m5, d5, rfl, rfl, hb5, K5⟩; have B5 := Lib.hid ((B4.out.below hb5 (Nat.le_refl _)).add K5 (by omega)); clear hb5))
  have fr5 := B5.out.free
  refine wp_loop_rounds 2 ?_
  rw [rounds_succ]
  go_wp2_with (first
    | (go_at_call 60; (with_reducible refine (share_00 b cash d _ _ _ _ (HM.out.mono B5.out.base (Nat.le_refl _)) (HD.out 0 (by omega))).mono ?_); rintro e w6 ⟨r6, rfl, hr6, hb6⟩; obtain ⟨s6, a6, n6x, e6, b6, m6, d6, rfl, K6⟩ := hr6.shape; clear hr6; have B6 := Lib.hid (B5.out.below hb6 (Nat.le_refl _)); clear hb6)
    | (go_at_call 61; (with_reducible refine (rat_neg _ (shareQ (sumF (d 0) 2) (d 0 0)) 4 _ K6.out).mono ?_); rintro e w7 ⟨r7, rfl, hr7, hb7⟩; obtain ⟨s7, a7, n7x, e7, b7, m7, d7, rfl, K7⟩ := hr7.shape; clear hr7; have B7 := Lib.hid (B6.out.below hb7 (Nat.le_refl _)); clear hb7)
    | (go_at_call 59; (with_reducible refine (madd_00 g 1 r (0 + ((1 : Int) : Rat)) (-(shareQ (sumF (d 0) 2) (d 0 0))) 5 _ _ B7.out.mat B7.out.row (K7.out.le (by omega)) (by omega) (by omega)).mono ?_); rintro e w' ⟨w8, s8, a8, n8x, e8, b8, m8, d8, rfl, rfl, hb8, K8⟩; have B8 := Lib.hid ((B7.out.below hb8 (Nat.le_refl _)).add K8 (by omega)); clear hb8))
  rw [rounds_succ]
  go_wp2_with (first
    | (go_at_call 51; (with_reducible refine (has_0 b cash d _ _ _ _ (HM.out.mono B8.out.base (Nat.le_refl _)) HD.out HC.out w.heap.size 2 (twoQ 0 T1) B8.out.payW.rats).mono ?_); rintro e w9 ⟨r9, rfl, hr9, hb9⟩; obtain ⟨s9, a9, n9x, e9, b9, m9, d9, rfl, K9⟩ := hr9.shape; clear hr9; have B9 := Lib.hid (B8.out.below hb9 (Nat.le_refl _)); clear hb9))
  rw [rounds_succ]
  generalize hcap2 : (Question.appendCap 1 0 88).cut (w9.tape w9.drawn (Question.appendCap 1 0 88)) = cap2
  clear hcap2
  have HW9 := Lib.hid (((boxes2 w9 (.cells #[.bool s9, .slice a9 n9x e9, .bool false, .slice b9 m9 d9] 88) (.cells (#[.bool s9, .slice a9 n9x e9, .bool false, .slice b9 m9 d9] ++ Builtin.zeroCells #[.bool false, .slice none 0 0, .bool false, .slice none 0 0] (cap2 - 1)) 88))).drew)
  have B10 := Lib.hid (B9.out.below HW9.out (Nat.le_refl _))
  have BB := Lib.hid (rats_app w9 (s9) a9 b9 n9x e9 m9 d9 (Builtin.zeroCells #[.bool false, .slice none 0 0, .bool false, .slice none 0 0] (cap2 - 1)) _ _ (K9.out.mono HW9.out (Nat.le_refl _)))
  go_wp2_with (first
    | (go_at_call 62; (with_reducible refine (lsolve_one g 1 r 1 (w9.heap.size + 1) cap2 _ _ 2560 _ B10.out.mat B10.out.mf (B10.out.row.le (by omega)) BB.out HPOS.out (by omega) (by omega)).mono ?_); rintro e w11 ⟨x, rfl, hx, hb11⟩))
  obtain ⟨s12, a12, n12, c12, b12, m12, d12, X0, XV⟩ := hx 0 (by omega)
  rw [Nat.zero_add, Nat.zero_mul] at X0
  have X0 := Lib.hid X0
  have XV := Lib.hid XV
  have V11 := Lib.hid (B10.out.via.trans (hb11.mono B10.out.o2))
  have KW := Lib.hid (B10.out.base.trans (hb11.mono (Nat.le_trans B10.out.o6 B10.out.o2)))
  have HN := Lib.hid (boxes1 w11 (.cells #[.bool s12, .slice a12 n12 c12, .bool false, .slice b12 m12 d12] 88))
  have P12 := Lib.hid ((B10.out.pays.below V11.out (Nat.le_refl _)).below HN.out (Nat.le_refl _))
  have fr12 := bel1 HN.out (bel1 V11.out B10.out.fcell B10.out.fl) (Nat.lt_of_lt_of_le B10.out.fl V11.out.size)
  have XV := Lib.hid (XV.out.mono HN.out (Nat.le_refl _)).drew
  have KW := Lib.hid (KW.out.trans (HN.out.mono KW.out.size)).drew
  obtain ⟨x0, x1, x2, x3, xl⟩ := X0.out
  obtain ⟨y1, y2, y3, y4, y5, y6, y7, ⟨p0, p1, p2, p3, pl⟩, -⟩ := P12.out.cell 0 (by omega)
  have pf := P12.out.f
  simp only [Nat.zero_mul, Nat.zero_add] at p0 p1 p2 p3 x0 x1 x2 x3
  have ixx := fun W => rowIx x 1 1 0 (by omega) W
  simp only [Nat.zero_mul, Int.natCast_zero] at ixx
  clear fr fr5 hx hb11 ixt0 ixt1
  refine wp_loop_rounds 2 ?_
  rw [rounds_succ]
  go_wp2
  go_region
  all_goals go_wp2
  all_goals
    rw [rounds_succ]
    go_wp2
    go_ret
    refine ⟨_, rfl, RowP.rats (((P12.out.drew.le (by omega)).set (i := 0) (o := 0) (by omega) rfl XV.out).congr fun j hj _ => ?_), below_st4 (o := 0) KW.out (Nat.le_refl _) _ _ _ _⟩
    exact (match j, hj with
      | 0, _ => ⟨.inl rfl, by rw [twoQ_zero]; simp [updQ]⟩
      | 1, _ => ⟨.inr trivial, by rw [twoQ_one]; simp [updQ, twoQ_one]⟩)

end Go.Proofs.Ytgmopcncbpdniaa
