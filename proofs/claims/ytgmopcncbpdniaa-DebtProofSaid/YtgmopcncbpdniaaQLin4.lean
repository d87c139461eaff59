/- Package linear: triangle at one row. -/
import Derived.Test.YtgmopcncbpdniaaQLin2
import Derived.Deep.RegionLawGrows
set_option linter.unusedVariables false
set_option linter.unusedSimpArgs false
namespace Go.Proofs.Ytgmopcncbpdniaa
open Go.RowKit
attribute [local go_sem ↓] Go.wp_at_zero Go.wp_at_succ

theorem sgnZ_pos (z : Int) (h : 0 < z) : (sgnZ z == 0) = false := by
  unfold sgnZ
  rw [if_neg (by omega), if_neg (by omega)]
  rfl

set_option maxHeartbeats 2000000 in
set_option maxRecDepth 100000 in
theorem triangle_one (g gc r m rc : Nat) (q : Nat → Rat) (K : Nat) (w : World) (hg : w.cell? ⟨g, 0, none⟩ = some (.slice (some ⟨r, 0, none⟩) m rc)) (hm : 0 < m) (hr : RatRow w r m q K) (hpos : 0 < (q 0).num) (hK : 2 ≤ K) (hK2 : 2 * K ≤ 549755813888) :
    Calls Try.prog 76 #[.slice (some ⟨g, 0, none⟩) 1 gc] w fun e w' => (∃ r, e = .returned r) ∧ Below w.heap.size w w' := by
  have hgl : g < w.heap.size := by
    rcases Nat.lt_or_ge g w.heap.size with h | h
    · exact h
    · have : w.cell? ⟨g, 0, none⟩ = none := by simp [World.cell?, Array.getElem?_eq_none h]
      rw [this] at hg; cases hg
  obtain ⟨s2, a3, n3, c3, a4, n4, c4, hr4, hv⟩ := hr.cell 0 hm
  have KE := Lib.hid (hv trivial)
  rw [Nat.zero_mul] at hr4
  have hrl := hr.lt
  have hsg := sgnZ_pos _ hpos
  have ix1 := fun W => ixL g 0 1 gc 0 (by omega) W
  have ix2 := fun W => rowIx r m rc 0 hm W
  simp only [Nat.zero_add, Nat.zero_mul, Int.natCast_zero] at ix1 ix2
  have KW : Hid (Below w.heap.size w (w.alloc (Obj.cells #[.bool false, .slice none 0 0, .bool false, .slice none 0 0] 88))) := boxes1 w _
  have PO : Hid (Own4 (w.alloc (Obj.cells #[.bool false, .slice none 0 0, .bool false, .slice none 0 0] 88)) w.heap.size (.bool false) (.slice none 0 0) (.bool false) (.slice none 0 0)) := own4_new _ _ rfl _ _ _ _ _
  have keepS : Hid (∀ w', Below w.heap.size w w' → w'.cell? ⟨g, 0, none⟩ = some (.slice (some ⟨r, 0, none⟩) m rc) ∧ w'.cell? ⟨r, 0, none⟩ = some (.bool s2) ∧ w'.cell? ⟨r, 1, none⟩ = some (.slice a3 n3 c3) ∧ w'.cell? ⟨r, 2, none⟩ = some (.bool false) ∧ w'.cell? ⟨r, 3, none⟩ = some (.slice a4 n4 c4)) :=
    Lib.hid (fun w' hb => ⟨bel1 hb hg hgl, bel1 hb hr4.c0 hrl, bel1 hb hr4.c1 hrl, bel1 hb hr4.c2 hrl, bel1 hb hr4.c3 hrl⟩)
  have HPOS := Lib.hid hpos
  clear hg hr hv hr4 hpos
  go_enter Try.func76, Try.ntmps76
  go_wp2_with (first
      | (go_at_call 53; (with_reducible refine (rat_whole 1 (by omega) (by omega) _).mono ?_); rintro e w1 ⟨r1, rfl, hr1, hb1⟩; obtain ⟨s1, a1, n1, c1, b1, m1, d1, rfl, KR⟩ := hr1.shape; clear hr1; have KW := Lib.hid (KW.out.trans (hb1.mono KW.out.size)); have PO := Lib.hid (PO.out.below hb1 PO.out.lt); have hwl : w.heap.size < w1.heap.size := PO.out.lt; clear hb1))
  have KR := Lib.hid (KR.out.mono (boxes1 w1 (.cells #[.bool s1, .slice a1 n1 c1, .bool false, .slice b1 m1 d1] 88)) (Nat.le_refl _))
  have PD := Lib.hid (own4_new w1 _ rfl (.bool s1) (.slice a1 n1 c1) (.bool false) (.slice b1 m1 d1) 88)
  have PO := Lib.hid (PO.out.alloc (.cells #[.bool s1, .slice a1 n1 c1, .bool false, .slice b1 m1 d1] 88))
  have KW := Lib.hid (KW.out.alloc KW.out.size (.cells #[.bool s1, .slice a1 n1 c1, .bool false, .slice b1 m1 d1] 88))
  obtain ⟨g0, x0, x1, x2, x3⟩ := keepS.out _ KW.out
  obtain ⟨d0, d1', d2, d3, df, dl⟩ := PD.out
  refine wp_loop_rounds 2 ?_
  rw [rounds_succ]
  go_wp2
  refine wp_loop_rounds 1 ?_
  rw [rounds_succ]
  go_wp2_with (first
      | (go_at_call 89; (with_reducible refine (rat_sign _ (q 0) K _ (KE.out.mono KW.out (Nat.le_refl _))).mono ?_); rintro e w2 ⟨rfl, hb2⟩; have KR := Lib.hid (KR.out.mono hb2 (Nat.le_refl _)); have KW := Lib.hid (KW.out.trans (hb2.mono KW.out.size)); have PO := Lib.hid (PO.out.below hb2 PO.out.lt); have PD := Lib.hid (PD.out.below hb2 PD.out.lt); clear g0 x0 x1 x2 x3 d0 d1' d2 d3 df dl; obtain ⟨g0, x0, x1, x2, x3⟩ := keepS.out _ KW.out; obtain ⟨d0, d1', d2, d3, df, dl⟩ := PD.out))
  have KE := Lib.hid (KE.out.mono KW.out (Nat.le_refl _)).drew
  have KR := Lib.hid KR.out.drew
  have KW := Lib.hid KW.out.drew
  have PO := Lib.hid PO.out.drew
  have PD := Lib.hid PD.out.drew
  go_region_with (first
      | (go_at_call 64; (with_reducible refine (rat_mul _ _ ((1 : Int) : Rat) (q 0) K _ (KR.out.le hK) KE.out (by omega) hK2).mono ?_); rintro e w3 ⟨r3, rfl, hr3, hb3⟩; obtain ⟨s3, e3, n3', f3, b3, m3x, d3', rfl, KM⟩ := hr3.shape; clear hr3; have KW := Lib.hid (KW.out.trans (hb3.mono KW.out.size)); have PO := Lib.hid (PO.out.below hb3 PO.out.lt); have PD := Lib.hid (PD.out.below hb3 PD.out.lt); obtain ⟨t0, t1, t2, t3, tf, tl⟩ := PD.out))
  all_goals
    have PO := Lib.hid (PO.out.set4 w1.heap.size (.bool s3) (.slice e3 n3' f3) (.bool false) (.slice b3 m3x d3') (by omega))
    have KW := Lib.hid (below_set4 KW.out (by omega) (b := w1.heap.size) (.bool s3) (.slice e3 n3' f3) (.bool false) (.slice b3 m3x d3'))
    have PD := Lib.hid (PD.out.anew (.bool s3) (.slice e3 n3' f3) (.bool false) (.slice b3 m3x d3'))
    clear t0 t1 t2 t3 tf tl
    obtain ⟨t0, t1, t2, t3, tf, tl⟩ := PD.out
    obtain ⟨y0, y1, y2, y3, yf, yl⟩ := PO.out
    go_wp2
    refine wp_loop_rounds 1 ?_
    rw [rounds_succ]
    go_wp2
    rw [rounds_succ]
    go_wp2
    refine bodyPost_ret (v := .agg #[.bool s3, .slice e3 n3' f3, .bool false, .slice b3 m3x d3']) (by simp [results, Try.results76, go_sem, y0, y1, y2, y3, yf]) rfl ?_
    exact ⟨⟨_, rfl⟩, below_set4 KW.out (Nat.le_refl _) _ _ _ _⟩

end Go.Proofs.Ytgmopcncbpdniaa

/- Package linear: Solve at one row of one element. -/
set_option linter.unusedVariables false
set_option linter.unusedSimpArgs false
namespace Go.Proofs.Ytgmopcncbpdniaa
open Go.RowKit
attribute [local go_sem ↓] Go.wp_at_zero Go.wp_at_succ

/-- two Rats that an append has laid into a new block -/
theorem row_of_owns2 {w : World} {base : Nat} {v : Value} {x0 x1 x2 x3 y0 y1 y2 y3 : Value} (h : w.ownsRow base 88 4 v 2 [x0, x1, x2, x3, y0, y1, y2, y3]) :
    ∃ g cap, v = .slice (some ⟨g, 0, none⟩) 2 cap ∧ base ≤ g ∧ g < w.heap.size ∧ Rd4 w g 0 x0 x1 x2 x3 ∧ Rd4 w g 4 y0 y1 y2 y3 ∧ (∀ o, w.frozen? ⟨g, o, none⟩ = false) := by
  rcases h.2 with ⟨_, h0⟩ | ⟨g, cap, cur, hv, hb, hg, hcap, hml, hsz, htk⟩
  · omega
  · subst hv
    have hlt : g < w.heap.size := by
      rcases Nat.lt_or_ge g w.heap.size with hlt | hge
      · exact hlt
      · rw [Array.getElem?_eq_none hge] at hg; cases hg
    have hc := h.cells (g := g) rfl
    have c : ∀ j u, [x0, x1, x2, x3, y0, y1, y2, y3][j]? = some u → w.cell? ⟨g, j, none⟩ = some u := fun j u hj => by
      have := hc j u hj
      unfold Addr.add at this
      split at this
      · rename_i e; subst e; exact this
      · simpa using this
    exact ⟨g, cap, rfl, hb, hlt, ⟨c 0 _ rfl, c 1 _ rfl, c 2 _ rfl, c 3 _ rfl, hlt⟩, ⟨c 4 _ rfl, c 5 _ rfl, c 6 _ rfl, c 7 _ rfl, hlt⟩, fun o => by simp [World.frozen?, hg]⟩

/-- α, then β -/
def twoQ (α β : Rat) (j : Nat) : Rat := if j = 0 then α else β
theorem twoQ_zero (α β : Rat) : twoQ α β 0 = α := if_pos rfl
theorem twoQ_one (α β : Rat) : twoQ α β 1 = β := if_neg (by decide)

theorem row2_of {w : World} {r K : Nat} {α β : Rat} {s t : Bool} {a a2 b b2 : Option Addr} {n c n2 c2 m e m2 e2 : Nat} (h0 : Rd4 w r 0 (.bool s) (.slice a n c) (.bool false) (.slice a2 n2 c2)) (h1 : Rd4 w r 4 (.bool t) (.slice b m e) (.bool false) (.slice b2 m2 e2))
    (hf : ∀ o, w.frozen? ⟨r, o, none⟩ = false) (hα : RatIs w (.agg #[.bool s, .slice a n c, .bool false, .slice a2 n2 c2]) α K) (hβ : RatIs w (.agg #[.bool t, .slice b m e, .bool false, .slice b2 m2 e2]) β K) : RatRow w r 2 (twoQ α β) K :=
  ⟨fun j hj => match j, hj with
      | 0, _ => ⟨_, _, _, _, _, _, _, by rw [Nat.zero_mul]; exact h0, fun _ => by rw [twoQ_zero]; exact hα⟩
      | 1, _ => ⟨_, _, _, _, _, _, _, by rw [Nat.one_mul]; exact h1, fun _ => by rw [twoQ_one]; exact hβ⟩, hf, h0.lt⟩
theorem row_raw {w : World} {b : Nat} {s : Bool} {a a2 : Option Addr} {n c n2 c2 : Nat} (h : Own4 w b (.bool s) (.slice a n c) (.bool false) (.slice a2 n2 c2)) (q : Nat → Rat) (K : Nat) : RowP w b 1 (fun _ => False) q K :=
  ⟨fun j hj => ⟨s, a, n, c, a2, n2, c2, by
    obtain rfl : j = 0 := by omega
    exact ⟨h.c0, h.c1, h.c2, h.c3, h.lt⟩, fun p => p.elim⟩, h.f, h.lt⟩
theorem cells4 {W : World} {r o : Nat} {x0 x1 x2 x3 : Value} (h : Rd4 W r o x0 x1 x2 x3) : ∀ j u, [x0, x1, x2, x3][j]? = some u → W.cell? ((⟨r, o, none⟩ : Addr).add j) = some u := fun j u hj => by
  match j, hj with
  | 0, hj => simp at hj; subst hj; simpa [Addr.add] using h.c0
  | 1, hj => simp at hj; subst hj; simpa [Addr.add] using h.c1
  | 2, hj => simp at hj; subst hj; simpa [Addr.add] using h.c2
  | 3, hj => simp at hj; subst hj; simpa [Addr.add] using h.c3
theorem olds4 {W : World} {r o : Nat} {x0 x1 x2 x3 : Value} (h : Rd4 W r o x0 x1 x2 x3) : ∀ b, some (⟨r, o, none⟩ : Addr) = some b → ∀ j u, [x0, x1, x2, x3][j]? = some u → W.cell? (b.add j) = some u := fun b hb => by
  cases hb
  exact cells4 h
theorem one4 (x0 x1 x2 x3 : Value) (h0 : x0.oneCell' = true) (h1 : x1.oneCell' = true) (h2 : x2.oneCell' = true) (h3 : x3.oneCell' = true) : ∀ u ∈ [x0, x1, x2, x3], u.oneCell' = true := fun u hu => by
  simp at hu
  rcases hu with rfl | rfl | rfl | rfl <;> assumption
theorem Own4.rd {w : World} {b : Nat} {x y z u : Value} (h : Own4 w b x y z u) : Rd4 w b 0 x y z u := ⟨h.c0, h.c1, h.c2, h.c3, h.lt⟩

set_option maxHeartbeats 2000000 in
set_option maxRecDepth 100000 in
theorem lsolve_one (g gc r rc bb bc : Nat) (α β : Rat) (K : Nat) (w : World) (hg : w.cell? ⟨g, 0, none⟩ = some (.slice (some ⟨r, 0, none⟩) 1 1)) (hgf : ∀ o, w.frozen? ⟨g, o, none⟩ = false) (hr : RatRow w r 1 (fun _ => α) K)
    (hb : IsRats w bb 0 1 (fun _ => β) K) (hpos : 0 < α.num) (hK : 2 ≤ K) (hK2 : 2 * K ≤ 549755813888) :
    Calls Try.prog 62 #[.slice (some ⟨g, 0, none⟩) 1 gc, .slice (some ⟨bb, 0, none⟩) 1 bc] w fun e w' => ∃ x, e = .returned (.slice (some ⟨x, 0, none⟩) 1 1) ∧ IsRats w' x 0 1 (fun _ => β / α) (2 * K) ∧ Below g w w' := by
  have hgl : g < w.heap.size := by
    rcases Nat.lt_or_ge g w.heap.size with h | h
    · exact h
    · have : w.cell? ⟨g, 0, none⟩ = none := by simp [World.cell?, Array.getElem?_eq_none h]
      rw [this] at hg; cases hg
  obtain ⟨s2, a3, n3, c3, a4, n4, c4, hr4, hv⟩ := hr.cell 0 (by omega)
  obtain ⟨s5, a5, n5, c5, a6, n6, c6, hb4, hbv⟩ := hb 0 (by omega)
  have KA := Lib.hid (hv trivial)
  have KB := Lib.hid hbv
  rw [Nat.zero_mul] at hr4
  rw [Nat.zero_add, Nat.zero_mul] at hb4
  have ix1 := fun W => ixL g 0 1 gc 0 (by omega) W
  have ix2 := fun W => rowIx bb 1 bc 0 (by omega) W
  have hmk := mkR1
  simp only [Nat.zero_add, Nat.zero_mul, Int.natCast_zero] at ix1 ix2
  obtain ⟨i0, hi, hz0, hz1, hz2⟩ := info_parts infoR
  have HR4 := Lib.hid hr4
  have HB4 := Lib.hid hb4
  have HG := Lib.hid hg
  have HGF := Lib.hid hgf
  have HPOS := Lib.hid hpos
  have HPOS2 : Hid (0 < (twoQ α β 0).num) := Lib.hid (by rw [twoQ_zero]; exact hpos)
  obtain ⟨x0, x1, x2, x3, xl⟩ := hr4
  obtain ⟨y0, y1, y2, y3, yl⟩ := hb4
  clear hr hb hv hbv hpos hgf
  go_enter Try.func62, Try.ntmps62
  go_wp2
  refine wp_loop_rounds 2 ?_
  rw [rounds_succ]
  go_wp2
  have HB0 := Lib.hid (((Below.refl w.heap.size w).drew).alloc (Nat.le_refl _) (.cells #[.bool s5, .slice a5 n5 c5, .bool false, .slice a6 n6 c6] 88))
  have NEW := Lib.hid (own4_new w.drew w.heap.size rfl (.bool s5) (.slice a5 n5 c5) (.bool false) (.slice a6 n6 c6) 88).rd
  go_region_law ((refine step_append_grows rfl (.tmp 21) (.tmp 26) 72 rfl 88 i0 _ 4 64 Try.underlying72 hi hz0 hz1 hz2 rfl (by decide) (some ⟨r, 0, none⟩) 1 1 [.bool s2, .slice a3 n3 c3, .bool false, .slice a4 n4 c4] (by simp [Act.eval, Act.put]) (fun h => by cases h) rfl (olds4 (HR4.out.below HB0.out xl)) ⟨w.heap.size, 0, none⟩ 1 1 [.bool s5, .slice a5 n5 c5, .bool false, .slice a6 n6 c6] (by simp [Act.eval, Act.put]) rfl (cells4 NEW.out) (one4 _ _ _ _ rfl rfl rfl rfl) (by omega) (by unfold maxLen; omega) (by omega) ?_); intro v' w1 hown hgrow; obtain ⟨r2, rc2, rfl, hrb, hrlt, R0, R1, RF⟩ := row_of_owns2 hown; have KW := Lib.hid (HB0.out.grown hgrow (by simp) (fun k h => by cases h)); have R0 := Lib.hid R0; have R1 := Lib.hid R1; have RF := Lib.hid RF; have g1 := bel1 KW.out HG.out hgl; have gf1 := (KW.out.frozen (p := ⟨g, 0, none⟩) hgl).trans (HGF.out 0); clear hown hgrow)
  all_goals
    have hgr : g ≠ r2 := by simp at hrb; omega
    have PR1 := Lib.hid (row2_of R0.out R1.out RF.out (KA.out.mono KW.out (Nat.le_refl _)) (KB.out.mono KW.out (Nat.le_refl _)))
    have PR := Lib.hid (RowP.storeFar PR1.out (.slice (some ⟨r2, 0, none⟩) 2 rc2) g1 (noInt_slice _ _ _) hgr)
    have G2 := Lib.hid (self_set (u := .slice (some ⟨r2, 0, none⟩) 2 rc2) g1)
    have KG : Hid (Below g w (w1.setCell ⟨g, 0, none⟩ (.slice (some ⟨r2, 0, none⟩) 2 rc2))) := Lib.hid ((KW.out.mono (Nat.le_of_lt hgl)).setCell (Nat.le_refl _) _)
    have L2 : Hid (w.heap.size ≤ (w1.setCell ⟨g, 0, none⟩ (.slice (some ⟨r2, 0, none⟩) 2 rc2)).heap.size) := Lib.hid (by simp only [World.setCell, Array.size_modify]; exact KW.out.size)
    clear PR1 KW R0 R1 RF g1 gf1 hrb hrlt KA KB NEW HB0
    go_wp2
    rw [rounds_succ]
    go_wp2_with (first
      | (go_at_call 76; (with_reducible refine (triangle_one g gc r2 2 rc2 _ K _ G2.out (by omega) PR.out HPOS2.out hK hK2).mono ?_); rintro e w3 ⟨⟨r3, rfl⟩, hb3⟩; have PR := Lib.hid (PR.out.below hb3 (Nat.le_refl _)); have G3 := Lib.hid (bel1 hb3 G2.out (by have := L2.out; omega)); have KG := Lib.hid (KG.out.trans (hb3.mono (by have := L2.out; omega))); have L3 := Lib.hid (Nat.le_trans L2.out hb3.size); clear hb3))
    obtain ⟨s7, a7, n7, c7, a8, n8, c8, A0, AV⟩ := PR.out.cell 0 (by omega)
    obtain ⟨s9, a9, n9, c9, a10, n10, c10, B0, BV⟩ := PR.out.cell 1 (by omega)
    rw [Nat.zero_mul] at A0
    rw [Nat.one_mul] at B0
    have AV := Lib.hid (AV trivial)
    have BV := Lib.hid (BV trivial)
    rw [twoQ_zero] at AV
    rw [twoQ_one] at BV
    have HZ : Hid (Below w3.heap.size w3 ((w3.alloc (.cells #[.bool false, .slice none 0 0, .bool false, .slice none 0 0] 88)).alloc (.cells #[.bool s9, .slice a9 n9 c9, .bool false, .slice a10 n10 c10] 88))) := boxes2 w3 _ _
    have AL := A0.lt
    have A0 := Lib.hid A0
    have B0 := Lib.hid B0
    have hgl3 : g < w3.heap.size := by have := L3.out; omega
    have PX := Lib.hid ((own4_new w3 _ rfl (.bool false) (.slice none 0 0) (.bool false) (.slice none 0 0) 88).alloc (.cells #[.bool s9, .slice a9 n9 c9, .bool false, .slice a10 n10 c10] 88))
    have PSs := Lib.hid (own4_new (w3.alloc (.cells #[.bool false, .slice none 0 0, .bool false, .slice none 0 0] 88)) (w3.heap.size + 1) (by simp) (.bool s9) (.slice a9 n9 c9) (.bool false) (.slice a10 n10 c10) 88)
    have ir := fun W => rowIx r2 2 rc2 1 (by omega) W
    have ir0 := fun W => rowIx r2 2 rc2 0 (by omega) W
    have ixx := fun W => rowIx w3.heap.size 1 1 0 (by omega) W
    simp only [Nat.zero_mul, Nat.one_mul, Int.natCast_zero, Int.natCast_one] at ir ir0 ixx
    have HZ1 := Lib.hid (boxes1 w3 (.cells #[.bool false, .slice none 0 0, .bool false, .slice none 0 0] 88))
    have gz := bel1 HZ1.out G3.out hgl3
    obtain ⟨bz0, bz1, bz2, bz3, _⟩ := B0.out.below HZ1.out AL
    have gy := bel1 HZ.out G3.out hgl3
    obtain ⟨az0, az1, az2, az3, _⟩ := A0.out.below HZ.out AL
    obtain ⟨sz0, sz1, sz2, sz3, sf, sl⟩ := PSs.out
    clear x0 x1 x2 x3 y0 y1 y2 y3 hg
    refine wp_loop_rounds 2 ?_
    rw [rounds_succ]
    go_wp2
    refine wp_loop_rounds 1 ?_
    rw [rounds_succ]
    go_wp2
    have PX := Lib.hid (PX.out.drew)
    have PRX := Lib.hid (row_raw PX.out (fun _ => 0) (2 * K))
    have AV := Lib.hid (AV.out.mono HZ.out (Nat.le_refl _)).drew
    have BV := Lib.hid (BV.out.mono HZ.out (Nat.le_refl _)).drew
    have hl5 : w3.heap.size + 2 = ((w3.alloc (.cells #[.bool false, .slice none 0 0, .bool false, .slice none 0 0] 88)).alloc (.cells #[.bool s9, .slice a9 n9 c9, .bool false, .slice a10 n10 c10] 88)).drew.heap.size := by simp
    have HL5 := Lib.hid hl5
    clear hl5
    go_region_with (first
      | (go_at_call 74; (with_reducible refine (rat_div _ _ β α K _ BV.out AV.out HPOS.out (by omega) hK2).mono ?_); rintro e w6 ⟨r6, rfl, hr6, hb6⟩; obtain ⟨s11, a11, n11, c11, a12, n12, c12, rfl, KD⟩ := hr6.shape; clear hr6; have PRX := Lib.hid (PRX.out.below hb6 (Nat.le_refl _)); have PX := Lib.hid (PX.out.below hb6 PX.out.lt); have KF := Lib.hid ((HZ.out.drew.trans (hb6.mono (by rw [← HL5.out]; omega))).mono (Nat.le_of_lt hgl3)); obtain ⟨px0, px1, px2, px3, pxf, pxl⟩ := PX.out; clear hb6))
    all_goals go_wp2
    all_goals
      rw [rounds_succ]
      go_wp2
      go_ret
      exact ⟨w3.heap.size, rfl, RowP.rats ((PRX.out.set (i := 0) (o := 0) (by omega) rfl KD.out).congr fun j hj _ => ⟨.inl (by omega), by rw [show j = 0 by omega]; simp [updQ]⟩), (KG.out.trans (below_st4 (o := 0) KF.out (Nat.le_of_lt hgl3) _ _ _ _))⟩

end Go.Proofs.Ytgmopcncbpdniaa
