/- read of package hide at a valid cut: the walk. -/
import Derived.Test.YtolkchkedieppaaGreatZLnA
import Derived.Test.YtolkchkedieppaaGreatZRat4
set_option linter.unusedVariables false
set_option linter.unusedSimpArgs false
namespace Go.Proofs.YtolkchkedieppaaGreat
open Go.RowKit
attribute [local go_sem ↓] Go.wp_at_zero Go.wp_at_succ
/-- a cut under way: its struct, and its squares in memory of their own -/
structure CutM (w wr : World) (bp gc cap : Nat) (S : List Tr) (W H : Int) : Prop where
 c0 : wr.cell? ⟨bp, 0, none⟩ = some (.slice (some ⟨gc, 0, none⟩) S.length cap)
 c1 : wr.cell? ⟨bp, 1, none⟩ = some (.int .i64 W)
 c2 : wr.cell? ⟨bp, 2, none⟩ = some (.int .i64 H)
 fz : ∀ o, wr.frozen? ⟨bp, o, none⟩ = false
 row : wr.ownsRow w.heap.size 47 3 (.slice (some ⟨gc, 0, none⟩) S.length cap) S.length (trL S)
 lt : gc < bp
 lb : bp < wr.heap.size
 below : Below w.heap.size w wr
section
variable {w wr : World} {bp gc cap : Nat} {S : List Tr} {W H : Int}
theorem CutM.keep {w' : World} (h : CutM w wr bp gc cap S W H) (hb : Below wr.heap.size wr w') : CutM w w' bp gc cap S W H :=
 ⟨(hb.cell (p := ⟨bp, 0, none⟩) h.lb).trans h.c0, (hb.cell (p := ⟨bp, 1, none⟩) h.lb).trans h.c1, (hb.cell (p := ⟨bp, 2, none⟩) h.lb).trans h.c2,
  fun o => (hb.frozen (p := ⟨bp, o, none⟩) h.lb).trans (h.fz o), own_kept h.row hb, h.lt, Nat.lt_of_lt_of_le h.lb hb.size, h.below.trans (hb.mono h.below.size)⟩
theorem CutM.setWH (h : CutM w wr bp gc cap S W H) (W' H' : Int) : CutM w ((wr.setCell ⟨bp, 1, none⟩ (.int .i64 W')).setCell ⟨bp, 2, none⟩ (.int .i64 H')) bp gc cap S W' H' := by
 have hg := (h.row.lt gc rfl).1
 have hold : w.heap.size ≤ bp := by have := h.lt; omega
 have hne : ¬ (some bp = (Value.slice (some ⟨gc, 0, none⟩) S.length cap).ownBlock) := fun e => by
  have e' : bp = gc := by injection e
  have := h.lt; omega
 have hkept : ∀ {wz : World} (o : Nat) (u : Value), wz.ownsRow w.heap.size 47 3 (.slice (some ⟨gc, 0, none⟩) S.length cap) S.length (trL S) → (wz.setCell ⟨bp, o, none⟩ u).ownsRow w.heap.size 47 3 (.slice (some ⟨gc, 0, none⟩) S.length cap) S.length (trL S) := fun {wz} o u hz =>
  hz.kept (row := some bp) ⟨rfl, rfl, rfl, by simp [World.setCell], fun k _ hk => Below.heap_setCell _ _ _ _ (fun e => hk (by rw [e]))⟩ (.inr (fun e => hne e.symm))
 have hsz : ((wr.setCell ⟨bp, 1, none⟩ (.int .i64 W')).setCell ⟨bp, 2, none⟩ (.int .i64 H')).heap.size = wr.heap.size := by simp only [World.setCell, Array.size_modify]
 exact ⟨off_set (by decide) (off_set (by decide) h.c0), off_set (by decide) (self_set h.c1), self_set (off_set (by decide) h.c2), fun o => by rw [World.frozen?_setCell, World.frozen?_setCell]; exact h.fz o, hkept _ _ (hkept _ _ h.row), h.lt, by rw [hsz]; exact h.lb, (h.below.setCell hold _).setCell hold _⟩
theorem cellT_far {w : World} {b o b' o' : Nat} {u : Value} (h : b' ≠ b) : (w.setCell ⟨b, o, none⟩ u).cell? ⟨b', o', none⟩ = w.cell? ⟨b', o', none⟩ := by
 have e := Below.heap_setCell w ⟨b, o, none⟩ u b' h
 simp only [World.cell?, e]
end
set_option maxHeartbeats 8000000 in
set_option maxRecDepth 100000 in
theorem read_good (g0 c0 : Nat) (S : List Tr) (w : World) (hS : TrR w g0 0 S) (hg : g0 < w.heap.size) (hc : S.length ≤ c0) (hC : CutOK S) :
  Calls Tryz.prog 54 #[.slice (some ⟨g0, 0, none⟩) S.length c0] w fun e w' => ∃ bp gc cap S', e = .returned (.tuple #[.pointer (some ⟨bp, 0, none⟩), .int .i64 0]) ∧ S'.length = S.length ∧ S.Perm S' ∧ S'.Pairwise (fun a b => ¬ ltS b a) ∧
   w'.cell? ⟨bp, 0, none⟩ = some (.slice (some ⟨gc, 0, none⟩) S.length cap) ∧ w'.cell? ⟨bp, 1, none⟩ = some (.int .i64 (wdT S S.length)) ∧ w'.cell? ⟨bp, 2, none⟩ = some (.int .i64 (htT S S.length)) ∧ TrR w' gc 0 S' ∧ gc < w'.heap.size ∧ bp < w'.heap.size ∧ Below w.heap.size w w' := by
 have HS := Lib.hid hS
 have HC := Lib.hid hC
 have hn1 := hC.pos
 have hn24 := hC.few
 have d0 : decide ((24 : Int) < ((S.length : Nat) : Int)) = false := by simp; omega
 have d0n : decide (24 < S.length) = false := by simp; omega
 clear hS hC
 go_enter Tryz.func54, Tryz.ntmps54
 go_wp2_with (go_at_call 102; (with_reducible refine (sqclone_any g0 c0 S _ HS.out hg hc hn1 (by omega)).mono ?_); rintro e w1 ⟨gc, cap, rfl, ho, hb⟩; have HO := Lib.hid ho; have KW := Lib.hid hb; clear ho hb)
 have hgc := (HO.out.lt gc rfl)
 have M0 : Hid (CutM w (w1.alloc (.cells #[.slice (some ⟨gc, 0, none⟩) S.length cap, .int .i64 0, .int .i64 0] 100)) w1.heap.size gc cap S (wdT S 0) (htT S 0)) := Lib.hid
  ⟨by simp [go_sem], by simp [go_sem, wdT], by simp [go_sem, htT], fun o => by simp, HO.out.alloc _, hgc.2, by simp, KW.out.alloc KW.out.size _⟩
 clear HO KW hgc
 obtain ⟨bp, hbp⟩ : ∃ bp, bp = w1.heap.size := ⟨_, rfl⟩
 rw [← hbp] at M0 ⊢
 clear hbp
 go_loopw [5, 7, 21] (fun v5 v7 v21 wr => ∃ k : Nat, k ≤ S.length ∧ v21 = .int .i64 (k : Nat) ∧ v5 = .int .i64 (arT S k) ∧ Hid (CutM w wr bp gc cap S (wdT S k) (htT S k))) (fun _ _ v21 _ => S.length - (intOf v21).toNat)
 case atStart => exact ⟨0, by omega, rfl, rfl, M0⟩
 case round =>
  clear M0
  obtain ⟨k, hk, rfl, rfl, CM⟩ := hrel
  by_cases h : k < S.length
  ·have e1 : decide ((k : Int) < ((S.length : Nat) : Int)) = true := by simpa using h
   have e1n : decide (k < S.length) = true := by simpa using h
   have hrg := HC.out.rg k h
   have hmb := meas_bound HC.out.rg k hk
   have ix := fun W => ixSq g0 S.length c0 k h W
   have HSR := Lib.hid (HS.out.below CM.out.below hg)
   have x0 := HSR.out.c0 k h
   have x1 := HSR.out.c1 k h
   have x2 := HSR.out.c2 k h
   obtain ⟨q, hq⟩ : ∃ q, q = S.getD k default := ⟨_, rfl⟩
   simp only [Nat.zero_add] at x0 x1 x2
   rw [← hq] at x0 x1 x2 hrg
   have hbw := CM.out.lb
   have hgw : g0 < wr.heap.size := Nat.lt_of_lt_of_le hg CM.out.below.size
   have hsq := hrg.sq
   have q0 := hrg.a0; have q1 := hrg.b0; have q2 := hrg.c0; have q3 := hrg.c1; have q4 := hrg.a1; have q5 := hrg.b1
   have d1 : decide (q.a < 0) = false := by simp; omega
   have d2 : decide (q.b < 0) = false := by simp; omega
   have d3 : decide (q.c < 1) = false := by simp; omega
   have d4 : decide (1000 < q.c) = false := by simp; omega
   have w5 : IntKind.i64.wrap (1000 - q.c) = 1000 - q.c := by rw [IntKind.wrap_i64]; omega
   have d5 : decide (1000 - q.c < q.a) = false := by simp; omega
   have d6 : decide (1000 - q.c < q.b) = false := by simp; omega
   have w6 : IntKind.i64.wrap (q.a + q.c) = q.a + q.c := by rw [IntKind.wrap_i64]; omega
   have w7 : IntKind.i64.wrap (q.b + q.c) = q.b + q.c := by rw [IntKind.wrap_i64]; omega
   have w8 : IntKind.i64.wrap (q.c * q.c) = q.c * q.c := by rw [IntKind.wrap_i64]; omega
   have w9 : IntKind.i64.wrap (arT S k + q.c * q.c) = arT S k + q.c * q.c := by rw [IntKind.wrap_i64]; omega
   have hA : arT S (k + 1) = arT S k + q.c * q.c := by simp only [arT]; rw [hq]
   have hW : (if wdT S k < q.a + q.c then q.a + q.c else wdT S k) = wdT S (k + 1) := by simp only [wdT]; rw [hq]
   have hH : (if htT S k < q.b + q.c then q.b + q.c else htT S k) = htT S (k + 1) := by simp only [htT]; rw [hq]
   have HA := Lib.hid hA
   clear hq hrg hmb hsq q0 q1 q2 q3 q4 q5 hA
   go_upto_region 8 with (fail)
   have CM := Lib.hid (CM.out.keep ((Below.refl wr.heap.size wr).alloc (Nat.le_refl _) (.cells #[.int .i64 q.a, .int .i64 q.b, .int .i64 q.c] 47)))
   have y0 : (wr.alloc (.cells #[.int .i64 q.a, .int .i64 q.b, .int .i64 q.c] 47)).cell? ⟨wr.heap.size, 0, none⟩ = some (.int .i64 q.a) := by simp [go_sem]
   have y1 : (wr.alloc (.cells #[.int .i64 q.a, .int .i64 q.b, .int .i64 q.c] 47)).cell? ⟨wr.heap.size, 1, none⟩ = some (.int .i64 q.b) := by simp [go_sem]
   have y2 : (wr.alloc (.cells #[.int .i64 q.a, .int .i64 q.b, .int .i64 q.c] 47)).cell? ⟨wr.heap.size, 2, none⟩ = some (.int .i64 q.c) := by simp [go_sem]
   generalize wr.alloc (.cells #[.int .i64 q.a, .int .i64 q.b, .int .i64 q.c] 47) = w2 at CM y0 y1 y2 ⊢
   clear x0 x1 x2 ix HSR
   obtain ⟨Wk, hWk⟩ : ∃ Wk, Wk = wdT S k := ⟨_, rfl⟩
   obtain ⟨Hk, hHk⟩ : ∃ Hk, Hk = htT S k := ⟨_, rfl⟩
   rw [← hWk] at hW CM
   rw [← hHk] at hH CM
   have z1 := CM.out.c1
   have z2 := CM.out.c2
   have f1 := CM.out.fz 1
   have f2 := CM.out.fz 2
   have hne : ¬ bp = wr.heap.size := by omega
   have hne2 : ¬ wr.heap.size = bp := by omega
   have hWm : max Wk (q.a + q.c) = wdT S (k + 1) := by rw [← hW]; split <;> omega
   have hHm : max Hk (q.b + q.c) = htT S (k + 1) := by rw [← hH]; split <;> omega
   clear hWk hHk
   obtain ⟨sb, hsb⟩ : ∃ sb, sb = wr.heap.size := ⟨_, rfl⟩
   rw [← hsb] at y0 y1 y2 hne hne2 ⊢
   clear hsb
   go_upto_region 10 with (fail)
   go_cut [7] (fun v7 wx => v7 = .pointer (some ⟨sb, 0, none⟩) ∧ Hid (CutM w wx bp gc cap S (wdT S (k + 1)) (htT S (k + 1))) ∧ Hid (wx.cell? ⟨sb, 2, none⟩ = some (.int .i64 q.c)))
   case first =>
    have CM2 := Lib.hid ((CM.out.setWH (wdT S (k + 1)) (htT S (k + 1))).keep (Below.refl _ _).drew)
    have Y3 : Hid (((w2.setCell ⟨bp, 1, none⟩ (.int .i64 (wdT S (k + 1)))).setCell ⟨bp, 2, none⟩ (.int .i64 (htT S (k + 1)))).drew.cell? ⟨sb, 2, none⟩ = some (.int .i64 q.c)) := Lib.hid (by
     show ((w2.setCell ⟨bp, 1, none⟩ (.int .i64 (wdT S (k + 1)))).setCell ⟨bp, 2, none⟩ (.int .i64 (htT S (k + 1)))).cell? ⟨sb, 2, none⟩ = _
     rw [cellT_far hne2, cellT_far hne2]; exact y2)
    clear d1 d2 d3 d4 d5 d6 w5 w8 w9 HA hgw hbw
    go_region
    all_goals
     go_wp2
     go_meet
     case rel => exact ⟨rfl, CM2, Y3⟩
   case rest =>
   clear CM y0 y1 y2 z1 z2 f1 f2
   obtain ⟨rfl, CM, Y3⟩ := hcut
   have y3 := Y3.out
   go_wp2
   go_roundw
   case rel => exact ⟨k + 1, by omega, by go_num, by rw [HA.out], CM⟩
   case measure => simp [intOf]; omega
  ·have hke : k = S.length := by omega
   have e1 : decide ((k : Int) < ((S.length : Nat) : Int)) = false := by simp; omega
   have e1n : decide (k < S.length) = false := by simpa using h
   have hmb := meas_bound HC.out.rg S.length (Nat.le_refl _)
   rw [hke] at CM ⊢
   clear hke h
   generalize wr = wv at *
   clear wr
   go_wp2
   go_loopw [8, 9, 11, 95] (fun v8 v9 v11 v95 wr => ∃ i : Nat, i ≤ S.length ∧ v95 = .int .i64 (i : Nat) ∧ Hid (CutM w wr bp gc cap S (wdT S S.length) (htT S S.length))) (fun _ _ _ v95 _ => S.length - (intOf v95).toNat)
   case atStart => exact ⟨0, by omega, rfl, CM⟩
   case round =>
    clear CM
    obtain ⟨i, hi, rfl, CM⟩ := hrel
    by_cases h : i < S.length
    ·have e1 : decide ((i : Int) < ((S.length : Nat) : Int)) = true := by simpa using h
     have e1n : decide (i < S.length) = true := by simpa using h
     have ix := fun W => ixSq g0 S.length c0 i h W
     have HSR := Lib.hid (HS.out.below CM.out.below hg)
     have x0 := HSR.out.c0 i h
     have x1 := HSR.out.c1 i h
     have x2 := HSR.out.c2 i h
     obtain ⟨p, hp⟩ : ∃ p, p = S.getD i default := ⟨_, rfl⟩
     simp only [Nat.zero_add] at x0 x1 x2
     rw [← hp] at x0 x1 x2
     have HP := Lib.hid hp
     have hgw : g0 < wr.heap.size := Nat.lt_of_lt_of_le hg CM.out.below.size
     have hic : i ≤ c0 := by omega
     clear hp
     go_upto_region 16 with (fail)
     have CM := Lib.hid (CM.out.keep ((Below.refl wr.heap.size wr).alloc (Nat.le_refl _) (.cells #[.int .i64 p.a, .int .i64 p.b, .int .i64 p.c] 47)))
     have y0 : (wr.alloc (.cells #[.int .i64 p.a, .int .i64 p.b, .int .i64 p.c] 47)).cell? ⟨wr.heap.size, 0, none⟩ = some (.int .i64 p.a) := by simp [go_sem]
     have y1 : (wr.alloc (.cells #[.int .i64 p.a, .int .i64 p.b, .int .i64 p.c] 47)).cell? ⟨wr.heap.size, 1, none⟩ = some (.int .i64 p.b) := by simp [go_sem]
     have y2 : (wr.alloc (.cells #[.int .i64 p.a, .int .i64 p.b, .int .i64 p.c] 47)).cell? ⟨wr.heap.size, 2, none⟩ = some (.int .i64 p.c) := by simp [go_sem]
     have hsz : (wr.alloc (.cells #[.int .i64 p.a, .int .i64 p.b, .int .i64 p.c] 47)).heap.size = wr.heap.size + 1 := by simp
     obtain ⟨sb, hsb⟩ : ∃ sb, sb = wr.heap.size := ⟨_, rfl⟩
     rw [← hsb] at y0 y1 y2 hsz ⊢
     generalize wr.alloc (.cells #[.int .i64 p.a, .int .i64 p.b, .int .i64 p.c] 47) = w2 at CM y0 y1 y2 hsz ⊢
     clear x0 x1 x2 ix HSR hsb hgw
     have Y0 := Lib.hid y0
     have Y1 := Lib.hid y1
     have Y2 := Lib.hid y2
     have HSB : Hid (sb < w2.heap.size) := Lib.hid (by omega)
     have B0 := Lib.hid (Below.refl w2.heap.size w2)
     clear y0 y1 y2 hsz
     have hg2 : g0 < w2.heap.size := Nat.lt_of_lt_of_le hg CM.out.below.size
     go_wp2
     go_loopw [11, 104] (fun v11 v104 wz => ∃ j : Nat, j ≤ i ∧ v104 = .int .i64 (j : Nat) ∧ Hid (Below w2.heap.size w2 wz)) (fun _ v104 _ => i - (intOf v104).toNat)
     case atStart => exact ⟨0, by omega, rfl, B0⟩
     case round =>
      clear B0
      obtain ⟨j, hj, rfl, BB⟩ := hrel
      by_cases h2 : j < i
      ·have e3 : decide ((j : Int) < (i : Int)) = true := by simpa using h2
       have e3n : decide (j < i) = true := by simpa using h2
       have hjn : j < S.length := by omega
       have iy := fun W => ixSq g0 i c0 j h2 W
       have HSR := Lib.hid ((HS.out.below CM.out.below hg).below BB.out hg2)
       have x0 := HSR.out.c0 j hjn
       have x1 := HSR.out.c1 j hjn
       have x2 := HSR.out.c2 j hjn
       have hap := HC.out.ap i j h2 h
       have hrp := HC.out.rg i h
       have hrq := HC.out.rg j hjn
       obtain ⟨q, hq⟩ : ∃ q, q = S.getD j default := ⟨_, rfl⟩
       simp only [Nat.zero_add] at x0 x1 x2
       rw [← hq] at x0 x1 x2 hap hrq
       rw [← HP.out] at hap hrp
       have HAP := Lib.hid hap
       have HRP := Lib.hid hrp
       have HRQ := Lib.hid hrq
       have hneq : ¬ (p.a = q.a ∧ p.b = q.b ∧ p.c = q.c) := fun ⟨u1, u2, u3⟩ => by
        have := hrp.c0
        unfold ApT at hap
        omega
       clear hq hap hrp hrq
       go_upto_region 19 with (fail)
       have BB := Lib.hid (BB.out.trans (((Below.refl w2.heap.size wr).alloc BB.out.size (.cells #[.int .i64 q.a, .int .i64 q.b, .int .i64 q.c] 47))))
       have z0 : (wr.alloc (.cells #[.int .i64 q.a, .int .i64 q.b, .int .i64 q.c] 47)).cell? ⟨wr.heap.size, 0, none⟩ = some (.int .i64 q.a) := by simp [go_sem]
       have z1 : (wr.alloc (.cells #[.int .i64 q.a, .int .i64 q.b, .int .i64 q.c] 47)).cell? ⟨wr.heap.size, 1, none⟩ = some (.int .i64 q.b) := by simp [go_sem]
       have z2 : (wr.alloc (.cells #[.int .i64 q.a, .int .i64 q.b, .int .i64 q.c] 47)).cell? ⟨wr.heap.size, 2, none⟩ = some (.int .i64 q.c) := by simp [go_sem]
       have hsz2 : (wr.alloc (.cells #[.int .i64 q.a, .int .i64 q.b, .int .i64 q.c] 47)).heap.size = wr.heap.size + 1 := by simp
       obtain ⟨tb, htb⟩ : ∃ tb, tb = wr.heap.size := ⟨_, rfl⟩
       rw [← htb] at z0 z1 z2 hsz2 ⊢
       generalize wr.alloc (.cells #[.int .i64 q.a, .int .i64 q.b, .int .i64 q.c] 47) = w4 at BB z0 z1 z2 hsz2 ⊢
       clear x0 x1 x2 iy HSR htb
       have y0 := (BB.out.cell (p := ⟨sb, 0, none⟩) HSB.out).trans Y0.out
       have y1 := (BB.out.cell (p := ⟨sb, 1, none⟩) HSB.out).trans Y1.out
       have y2 := (BB.out.cell (p := ⟨sb, 2, none⟩) HSB.out).trans Y2.out
       go_cut [116] (fun v116 wx => v116 = .bool false ∧ Hid (Below w2.heap.size w2 wx))
       case first =>
        by_cases u1 : p.a = q.a
        ·have f1 : (p.a == q.a) = true := by simpa using u1
         have f1d : decide (p.a = q.a) = true := by simpa using u1
         by_cases u2 : p.b = q.b
         ·have f2 : (p.b == q.b) = true := by simpa using u2
          have f2d : decide (p.b = q.b) = true := by simpa using u2
          have u3 : ¬ p.c = q.c := fun e => hneq ⟨u1, u2, e⟩
          have f3 : (p.c == q.c) = false := by simpa using u3
          have f3d : decide (p.c = q.c) = false := by simpa using u3
          clear u1 u2 u3 hneq
          go_wp2_with (go_at_call 103; (with_reducible refine (apart_any p q true ⟨fun _ => HAP.out, fun _ => rfl⟩ _ HRP.out HRQ.out).mono ?_); rintro e w5 ⟨rfl, hb⟩; have BB := Lib.hid (BB.out.trans (hb.mono BB.out.size)); clear hb)
          go_meet
          case rel => exact ⟨rfl, BB⟩
         ·have f2 : (p.b == q.b) = false := by simpa using u2
          have f2d : decide (p.b = q.b) = false := by simpa using u2
          clear u1 u2 hneq
          go_wp2_with (go_at_call 103; (with_reducible refine (apart_any p q true ⟨fun _ => HAP.out, fun _ => rfl⟩ _ HRP.out HRQ.out).mono ?_); rintro e w5 ⟨rfl, hb⟩; have BB := Lib.hid (BB.out.trans (hb.mono BB.out.size)); clear hb)
          go_meet
          case rel => exact ⟨rfl, BB⟩
        ·have f1 : (p.a == q.a) = false := by simpa using u1
         have f1d : decide (p.a = q.a) = false := by simpa using u1
         clear u1 hneq
         go_wp2_with (go_at_call 103; (with_reducible refine (apart_any p q true ⟨fun _ => HAP.out, fun _ => rfl⟩ _ HRP.out HRQ.out).mono ?_); rintro e w5 ⟨rfl, hb⟩; have BB := Lib.hid (BB.out.trans (hb.mono BB.out.size)); clear hb)
         go_meet
         case rel => exact ⟨rfl, BB⟩
       case rest =>
        clear BB y0 y1 y2 z0 z1 z2
        obtain ⟨rfl, BB⟩ := hcut
        go_wp2
        go_roundw
        case rel => exact ⟨j + 1, by omega, by go_num, BB⟩
        case measure => simp [intOf]; omega
      ·obtain rfl : i = j := by omega
       have e3 : decide ((i : Int) < (i : Int)) = false := by simp
       have CM2 := Lib.hid (CM.out.keep BB.out)
       go_wp2
       go_roundw
       case rel => exact ⟨i + 1, by omega, by go_num, CM2⟩
       case measure => simp [intOf]; omega
    ·have hie : i = S.length := by omega
     have e1 : decide ((i : Int) < ((S.length : Nat) : Int)) = false := by simp; omega
     have e1n : decide (i < S.length) = false := by simpa using h
     have har := HC.out.ar
     obtain ⟨A, hA⟩ : ∃ A, A = arT S S.length := ⟨_, rfl⟩
     obtain ⟨W, hW⟩ : ∃ W, W = wdT S S.length := ⟨_, rfl⟩
     obtain ⟨H, hH⟩ : ∃ H, H = htT S S.length := ⟨_, rfl⟩
     rw [← hA, ← hW, ← hH] at har
     rw [← hA] at hmb ⊢
     rw [← hW, ← hH] at CM ⊢
     have f1 : (A == 0) = false := by rw [beq_eq_false_iff_ne]; omega
     have w1 : IntKind.i64.wrap (W * H) = W * H := by rw [IntKind.wrap_i64]; omega
     have f2 : (A != W * H) = false := by rw [har]; simp
     have z1 := CM.out.c1
     have z2 := CM.out.c2
     have HW := Lib.hid hW
     have HH := Lib.hid hH
     clear hA hW hH har hmb h hie
     go_wp2
     go_quiet (fail)
     have CM := Lib.hid (CM.out.keep (below_drawN (Below.refl _ _) nq))
     clear z1 z2
     generalize wr.drewN nq = w5 at CM ⊢
     have z0 := CM.out.c0
     go_wp2_with (go_at_call 104; (with_reducible refine (sortSq_any w5 w.heap.size gc cap S CM.out.row (by omega)).mono ?_); rintro e w6 ⟨rfl, P', hl, hp, hs, hr, hb, hgs, hfr⟩; have HL := Lib.hid hl; have HPM := Lib.hid hp; have HSO := Lib.hid hs; have HTR := Lib.hid hr; have HB6 := Lib.hid hb; have HGS := Lib.hid hgs; have HFR := Lib.hid hfr; clear hl hp hs hr hb hgs hfr)
     go_ret2
     have hbp : bp ≠ gc := by have := CM.out.lt; omega
     have hheap := HFR.out bp hbp CM.out.lb
     have hcell : ∀ o, w6.cell? ⟨bp, o, none⟩ = w5.cell? ⟨bp, o, none⟩ := fun o => by simp only [World.cell?, hheap]
     exact ⟨bp, gc, cap, P', rfl, HL.out, HPM.out, HSO.out, (hcell 0).trans CM.out.c0, by rw [← HW.out]; exact (hcell 1).trans CM.out.c1, by rw [← HH.out]; exact (hcell 2).trans CM.out.c2, HTR.out, HGS.out, Nat.lt_of_lt_of_le CM.out.lb HB6.out.size, CM.out.below.trans (HB6.out.mono (CM.out.row.lt gc rfl).1)⟩
end Go.Proofs.YtolkchkedieppaaGreat
