/- Package linear: triangle at one row. -/
import Derived.Test.YtgmopcncbpdniaaGreatQLin2
import Derived.Deep.RegionLawGrows
set_option linter.unusedVariables false
set_option linter.unusedSimpArgs false
namespace Go.Proofs.YtgmopcncbpdniaaGreat
open Go.RowKit
attribute [local go_sem ↓] Go.wp_at_zero Go.wp_at_succ

theorem sgnZ_pos (z : Int) (h : 0 < z) : (sgnZ z == 0) = false := by
  unfold sgnZ
  rw [if_neg (by omega), if_neg (by omega)]
  rfl

set_option maxHeartbeats 2000000 in
set_option maxRecDepth 100000 in
theorem triangle_one (g gc r m rc : Nat) (q : Nat → Rat) (K : Nat) (w : World) (hg : w.cell? ⟨g, 0, none⟩ = some (.slice (some ⟨r, 0, none⟩) m rc)) (hm : 0 < m) (hr : RatRow w r m q K) (hpos : 0 < (q 0).num) (hK : 2 ≤ K) (hK2 : 2 * K ≤ 549755813888) :
    Calls Tryz.prog 139 #[.slice (some ⟨g, 0, none⟩) 1 gc] w fun e w' => (∃ r, e = .returned r) ∧ Below w.heap.size w w' := by
  have hgl : g < w.heap.size := by
    rcases Nat.lt_or_ge g w.heap.size with h | h
    · exact h
    · have : w.cell? ⟨g, 0, none⟩ = none := by simp [World.cell?, Array.getElem?_eq_none h]
      rw [this] at hg; cases hg
  obtain ⟨s2, a3, n3, c3, a4, n4, c4, hr4, hv⟩ := hr.cell 0 hm
  have KE := Lib.hid (hv trivial)
  rw [Nat.zero_mul] at hr4
  have hrl := hr.lt
  have hsg := sgnZ_pos _ hpos
  have ix1 := fun W => ixL g 0 1 gc 0 (by omega) W
  have ix2 := fun W => rowIx r m rc 0 hm W
  simp only [Nat.zero_add, Nat.zero_mul, Int.natCast_zero] at ix1 ix2
  have KW : Hid (Below w.heap.size w (w.alloc (Obj.cells #[.bool false, .slice none 0 0, .bool false, .slice none 0 0] 92))) := boxes1 w _
  have PO : Hid (Own4 (w.alloc (Obj.cells #[.bool false, .slice none 0 0, .bool false, .slice none 0 0] 92)) w.heap.size (.bool false) (.slice none 0 0) (.bool false) (.slice none 0 0)) := own4_new _ _ rfl _ _ _ _ _
  have keepS : Hid (∀ w', Below w.heap.size w w' → w'.cell? ⟨g, 0, none⟩ = some (.slice (some ⟨r, 0, none⟩) m rc) ∧ w'.cell? ⟨r, 0, none⟩ = some (.bool s2) ∧ w'.cell? ⟨r, 1, none⟩ = some (.slice a3 n3 c3) ∧ w'.cell? ⟨r, 2, none⟩ = some (.bool false) ∧ w'.cell? ⟨r, 3, none⟩ = some (.slice a4 n4 c4)) :=
    Lib.hid (fun w' hb => ⟨bel1 hb hg hgl, bel1 hb hr4.c0 hrl, bel1 hb hr4.c1 hrl, bel1 hb hr4.c2 hrl, bel1 hb hr4.c3 hrl⟩)
  have HPOS := Lib.hid hpos
  clear hg hr hv hr4 hpos
  go_enter Tryz.func139, Tryz.ntmps139
  go_wp2_with (first
      | (go_at_call 59; (with_reducible refine (rat_whole 1 (by omega) (by omega) _).mono ?_); rintro e w1 ⟨r1, rfl, hr1, hb1⟩; obtain ⟨s1, a1, n1, c1, b1, m1, d1, rfl, KR⟩ := hr1.shape; clear hr1; have KW := Lib.hid (KW.out.trans (hb1.mono KW.out.size)); have PO := Lib.hid (PO.out.below hb1 PO.out.lt); have hwl : w.heap.size < w1.heap.size := PO.out.lt; clear hb1))
  have KR := Lib.hid (KR.out.mono (boxes1 w1 (.cells #[.bool s1, .slice a1 n1 c1, .bool false, .slice b1 m1 d1] 92)) (Nat.le_refl _))
  have PD := Lib.hid (own4_new w1 _ rfl (.bool s1) (.slice a1 n1 c1) (.bool false) (.slice b1 m1 d1) 92)
  have PO := Lib.hid (PO.out.alloc (.cells #[.bool s1, .slice a1 n1 c1, .bool false, .slice b1 m1 d1] 92))
  have KW := Lib.hid (KW.out.alloc KW.out.size (.cells #[.bool s1, .slice a1 n1 c1, .bool false, .slice b1 m1 d1] 92))
  obtain ⟨g0, x0, x1, x2, x3⟩ := keepS.out _ KW.out
  obtain ⟨d0, d1', d2, d3, df, dl⟩ := PD.out
  refine wp_loop_rounds 2 ?_
  rw [rounds_succ]
  go_wp2
  refine wp_loop_rounds 1 ?_
  rw [rounds_succ]
  go_wp2_with (first
      | (go_at_call 109; (with_reducible refine (rat_sign _ (q 0) K _ (KE.out.mono KW.out (Nat.le_refl _))).mono ?_); rintro e w2 ⟨rfl, hb2⟩; have KR := Lib.hid (KR.out.mono hb2 (Nat.le_refl _)); have KW := Lib.hid (KW.out.trans (hb2.mono KW.out.size)); have PO := Lib.hid (PO.out.below hb2 PO.out.lt); have PD := Lib.hid (PD.out.below hb2 PD.out.lt); clear g0 x0 x1 x2 x3 d0 d1' d2 d3 df dl; obtain ⟨g0, x0, x1, x2, x3⟩ := keepS.out _ KW.out; obtain ⟨d0, d1', d2, d3, df, dl⟩ := PD.out))
  have KE := Lib.hid (KE.out.mono KW.out (Nat.le_refl _)).drew
  have KR := Lib.hid KR.out.drew
  have KW := Lib.hid KW.out.drew
  have PO := Lib.hid PO.out.drew
  have PD := Lib.hid PD.out.drew
  go_region_with (first
      | (go_at_call 85; (with_reducible refine (rat_mul _ _ ((1 : Int) : Rat) (q 0) K _ (KR.out.le hK) KE.out (by omega) hK2).mono ?_); rintro e w3 ⟨r3, rfl, hr3, hb3⟩; obtain ⟨s3, e3, n3', f3, b3, m3x, d3', rfl, KM⟩ := hr3.shape; clear hr3; have KW := Lib.hid (KW.out.trans (hb3.mono KW.out.size)); have PO := Lib.hid (PO.out.below hb3 PO.out.lt); have PD := Lib.hid (PD.out.below hb3 PD.out.lt); obtain ⟨t0, t1, t2, t3, tf, tl⟩ := PD.out))
  all_goals
    have PO := Lib.hid (PO.out.set4 w1.heap.size (.bool s3) (.slice e3 n3' f3) (.bool false) (.slice b3 m3x d3') (by omega))
    have KW := Lib.hid (below_set4 KW.out (by omega) (b := w1.heap.size) (.bool s3) (.slice e3 n3' f3) (.bool false) (.slice b3 m3x d3'))
    have PD := Lib.hid (PD.out.anew (.bool s3) (.slice e3 n3' f3) (.bool false) (.slice b3 m3x d3'))
    clear t0 t1 t2 t3 tf tl
    obtain ⟨t0, t1, t2, t3, tf, tl⟩ := PD.out
    obtain ⟨y0, y1, y2, y3, yf, yl⟩ := PO.out
    go_wp2
    refine wp_loop_rounds 1 ?_
    rw [rounds_succ]
    go_wp2
    rw [rounds_succ]
    go_wp2
    refine bodyPost_ret (v := .agg #[.bool s3, .slice e3 n3' f3, .bool false, .slice b3 m3x d3']) (by simp [results, Tryz.results139, go_sem, y0, y1, y2, y3, yf]) rfl ?_
    exact ⟨⟨_, rfl⟩, below_set4 KW.out (Nat.le_refl _) _ _ _ _⟩

end Go.Proofs.YtgmopcncbpdniaaGreat
