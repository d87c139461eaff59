/- solve of package debt, at two firms of which none pays only what it has. -/
import Derived.Test.YtgmopcncbpdniaaQLin1
set_option linter.unusedVariables false
set_option linter.unusedSimpArgs false
namespace Go.Proofs.Ytgmopcncbpdniaa
open Go.RowKit
attribute [local go_sem ↓] Go.wp_at_zero Go.wp_at_succ

/-- two bools in a row -/
structure Bools2 (w : World) (b : Nat) (x y : Bool) : Prop where
  c0 : w.cell? ⟨b, 0, none⟩ = some (.bool x)
  c1 : w.cell? ⟨b, 1, none⟩ = some (.bool y)
  lt : b < w.heap.size
theorem Bools2.below {w w' : World} {b B : Nat} {x y : Bool} (h : Bools2 w b x y) (hb : Below B w w') (hB : b < B) : Bools2 w' b x y :=
  ⟨bel1 hb h.c0 hB, bel1 hb h.c1 hB, Nat.lt_of_lt_of_le h.lt hb.size⟩

theorem mk2 (W : World) : (Instr.makeSlice 72 (.int .i64 2) (.int .i64 2)).run Try.prog W = .ok (.slice (some ⟨W.heap.size, 0, none⟩) 2 2) (W.alloc (.cells #[.bool false, .slice none 0 0, .bool false, .slice none 0 0, .bool false, .slice none 0 0, .bool false, .slice none 0 0] 88)) := by
  obtain ⟨i0, hi, hz0, hz1, hz2⟩ := info_parts infoR
  have h := run_make (P := Try.prog) W 72 88 i0 _ Try.underlying72 hi hz0 .i64 .i64 2 2 (by omega) (by omega) (by rw [hz2]; omega) (by omega)
  have e : madeCells (Value.agg #[.bool false, .slice none 0 0, .bool false, .slice none 0 0]).cells ((2 : Int).toNat * 4) = #[.bool false, .slice none 0 0, .bool false, .slice none 0 0, .bool false, .slice none 0 0, .bool false, .slice none 0 0] := by kernel_rfl
  rw [h, hz1, e]
  rfl

set_option maxHeartbeats 2000000 in
set_option maxRecDepth 100000 in
theorem solve_none (b : Nat) (cash : Nat → Int) (d : Nat → Nat → Int) (vc vd vt : Value) (w : World) (hm : IsMkt w b 2 cash d vc vd vt)
    (hT0 : 0 ≤ sumF (d 0) 2 ∧ sumF (d 0) 2 ≤ 100000) (hT1 : 0 ≤ sumF (d 1) 2 ∧ sumF (d 1) 2 ≤ 100000) (fb nb fc nc : Nat) (hf : Bools2 w fb false false) (hn : Bools2 w nb false false) :
    Calls Try.prog 50 #[.pointer (some ⟨b, 0, none⟩), .slice (some ⟨fb, 0, none⟩) 2 fc, .slice (some ⟨nb, 0, none⟩) 2 nc] w fun e w' => ∃ g, e = .returned (.slice (some ⟨g, 0, none⟩) 2 2) ∧
      IsRats w' g 0 2 (fun i => (sumF (d i) 2 : Rat)) 4 ∧ Below w.heap.size w w' := by
  obtain ⟨c0, c1, c2, c3, hcash, hdebt, ⟨ta, tb, t_o, tc, rfl, hts⟩, hlt⟩ := hm
  have ixt0 := fun W => ixI hts 0 tc (by omega) W
  have ixt1 := fun W => ixI hts 1 tc (by omega) W
  have ht0 := hts.cell 0 (by omega)
  have ht1 := hts.cell 1 (by omega)
  have htl := hts.lt (by omega)
  simp only [ic] at ht0 ht1
  generalize hT : sumF (d 0) 2 = T0 at *
  generalize hT' : sumF (d 1) 2 = T1 at *
  have HT0 := Lib.hid hT
  have HT1 := Lib.hid hT'
  obtain ⟨f0, f1, fl⟩ := hf
  obtain ⟨n0, n1, nl_⟩ := hn
  clear hT hT' hcash hdebt hts c1 c2
  have hmk := mk2
  have keepS : Hid (∀ w', Below w.heap.size w w' → w'.cell? ⟨b, 0, none⟩ = some (.int .i64 2) ∧ w'.cell? ⟨b, 3, none⟩ = some (.slice ta 2 tc) ∧ w'.cell? ⟨tb, t_o, none⟩ = some (.int .i64 T0) ∧ w'.cell? ⟨tb, t_o + 1, none⟩ = some (.int .i64 T1) ∧
      w'.cell? ⟨fb, 0, none⟩ = some (.bool false) ∧ w'.cell? ⟨fb, 1, none⟩ = some (.bool false) ∧ w'.cell? ⟨nb, 0, none⟩ = some (.bool false) ∧ w'.cell? ⟨nb, 1, none⟩ = some (.bool false)) :=
    Lib.hid (fun w' hb => ⟨bel1 hb c0 hlt, bel1 hb c3 hlt, bel1 hb ht0 htl, bel1 hb ht1 htl, bel1 hb f0 fl, bel1 hb f1 fl, bel1 hb n0 nl_, bel1 hb n1 nl_⟩)
  have KW := Lib.hid ((Below.refl w.heap.size w).alloc (Nat.le_refl _) (.cells #[.bool false, .slice none 0 0, .bool false, .slice none 0 0, .bool false, .slice none 0 0, .bool false, .slice none 0 0] 88))
  have PR := Lib.hid (row_new2 w _ rfl (fun _ => 0) 4)
  simp only [Int.natCast_zero, Int.natCast_one, Nat.add_zero] at ixt0 ixt1
  clear c0 c3 ht0 ht1 f0 f1 n0 n1
  have c0 : w.cell? ⟨b, 0, none⟩ = some (.int .i64 2) := (keepS.out _ (Below.refl _ _)).1
  go_enter Try.func50, Try.ntmps50
  go_wp2
  clear c0
  obtain ⟨c0, c3, ht0, ht1, f0, f1, n0, n1⟩ := keepS.out _ KW.out
  obtain ⟨s0, a0, m0, e0, b0, m0', e0', ⟨x0, x1, x2, x3, xl⟩, -⟩ := PR.out.cell 0 (by omega)
  have xf := PR.out.f
  simp only [Nat.zero_mul, Nat.zero_add] at x0 x1 x2 x3
  have nb1 : ¬ b = w.heap.size := by omega
  have nb2 : ¬ tb = w.heap.size := by omega
  have nb3 : ¬ fb = w.heap.size := by omega
  have nb4 : ¬ nb = w.heap.size := by omega
  refine wp_loop_rounds 3 ?_
  rw [rounds_succ]
  go_wp2_with (first
    | (go_at_call 53; (with_reducible refine (rat_whole T0 (by omega) (by omega) _).mono ?_); rintro e w1 ⟨r1, rfl, hr1, hb1⟩; obtain ⟨s1, a1, n1, e1, b1, m1, d1, rfl, K1⟩ := hr1.shape; clear hr1; have KW := Lib.hid (KW.out.trans (hb1.mono KW.out.size)); have PR := Lib.hid (PR.out.below hb1 (Nat.le_refl _)); clear c0 c3 ht0 ht1 f0 f1 n0 x0 x1 x2 x3 xl xf; obtain ⟨c0, c3, ht0, ht1, f0, f1, n0, n1x⟩ := keepS.out _ KW.out; obtain ⟨y1, y2, y3, y4, y5, y6, y7, ⟨x0, x1, x2, x3, xl⟩, -⟩ := PR.out.cell 0 (by omega); have xf := PR.out.f; simp only [Nat.zero_mul, Nat.zero_add] at x0 x1 x2 x3))
  rw [rounds_succ]
  have PR := Lib.hid (PR.out.set (i := 0) (o := 0) (by omega) rfl (K1.out.le (by omega)))
  have KW := Lib.hid (below_st4 (o := 0) KW.out (Nat.le_refl _) (.bool s1) (.slice a1 n1 e1) (.bool false) (.slice b1 m1 d1))
  clear x0 x1 x2 x3 xl xf c0 c3 ht0 ht1 f0 f1 n0 n1x
  obtain ⟨c0, c3, ht0, ht1, f0, f1, n0, n1x⟩ := keepS.out _ KW.out
  go_wp2_with (first
    | (go_at_call 53; (with_reducible refine (rat_whole T1 (by omega) (by omega) _).mono ?_); rintro e w2 ⟨r2, rfl, hr2, hb2⟩; obtain ⟨s2, a2, n2, e2, b2, m2, d2, rfl, K2⟩ := hr2.shape; clear hr2; have KW := Lib.hid (KW.out.trans (hb2.mono KW.out.size)); have PR := Lib.hid (PR.out.below hb2 (Nat.le_refl _)); clear c0 c3 ht0 ht1 f0 f1 n0 n1x; obtain ⟨c0, c3, ht0, ht1, f0, f1, n0, n1x⟩ := keepS.out _ KW.out; obtain ⟨y1, y2, y3, y4, y5, y6, y7, ⟨x0, x1, x2, x3, xl⟩, -⟩ := PR.out.cell 1 (by omega); have xf := PR.out.f; simp only [Nat.one_mul, Nat.reduceAdd] at x0 x1 x2 x3))
  rw [rounds_succ]
  have PR := Lib.hid (PR.out.set (i := 1) (o := 4) (by omega) rfl (K2.out.le (by omega)))
  have KW := Lib.hid (below_st4 (o := 4) KW.out (Nat.le_refl _) (.bool s2) (.slice a2 n2 e2) (.bool false) (.slice b2 m2 d2))
  clear x0 x1 x2 x3 xl xf c0 c3 ht0 ht1 f0 f1 n0 n1x
  go_wp2_with (first
    | (go_at_call 58; (with_reducible refine (zero_none _).mono ?_); rintro e w3 ⟨g3, rfl, hb3⟩))
  refine wp_loop_rounds 1 ?_
  rw [rounds_succ]
  go_wp2_with (first
    | (go_at_call 62; (with_reducible refine (lsolve_none _ _ _ _).mono ?_); rintro e w4 ⟨g4, rfl, hb4⟩))
  go_rounds 1
  go_ret
  have PR := Lib.hid ((PR.out.below hb3 (Nat.le_refl _)).below hb4 (Nat.le_refl _))
  have KW := Lib.hid ((KW.out.trans (hb3.mono KW.out.size)).trans (hb4.mono (Nat.le_trans KW.out.size hb3.size)))
  refine ⟨_, rfl, RowP.rats (PR.out.congr fun j hj _ => ?_), KW.out⟩
  match j, hj with
  | 0, _ => exact ⟨.inr (.inl rfl), by simp [updQ, HT0.out]⟩
  | 1, _ => exact ⟨.inl rfl, by simp [updQ, HT1.out]⟩

end Go.Proofs.Ytgmopcncbpdniaa
