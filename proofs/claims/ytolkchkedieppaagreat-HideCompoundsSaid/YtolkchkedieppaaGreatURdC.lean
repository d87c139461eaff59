/- read of package hide at squares that are no cut: too many, or one out of range. -/
import Derived.Test.YtolkchkedieppaaGreatURdB
set_option linter.unusedVariables false
set_option linter.unusedSimpArgs false
namespace Go.Proofs.YtolkchkedieppaaGreat
open Go.RowKit
attribute [local go_sem ↓] Go.wp_at_zero Go.wp_at_succ
theorem meas_boundN {S : List Tr} {n : Nat} (h : ∀ i, i < n → RgT (S.getD i default)) : ∀ k, k ≤ n → 0 ≤ wdT S k ∧ wdT S k ≤ 1000 ∧ 0 ≤ htT S k ∧ htT S k ≤ 1000 ∧ (k : Int) ≤ arT S k ∧ arT S k ≤ 1000000 * (k : Int)
 | 0, _ => by simp [wdT, htT, arT]
 | k + 1, hk => by
  have ih := meas_boundN h k (by omega)
  have hr := h k (by omega)
  have hq := hr.sq
  have := hr.a0; have := hr.b0; have := hr.c0; have := hr.a1; have := hr.b1
  simp only [wdT, htT, arT]
  refine ⟨?_, ?_, ?_, ?_, by omega, by omega⟩ <;> split <;> omega
set_option maxHeartbeats 1000000 in
set_option maxRecDepth 100000 in
theorem read_long (va : Option Addr) (n c0 : Nat) (w : World) (hn : 24 < n) :
  Calls Tryz.prog 54 #[.slice va n c0] w fun e w' => e = .returned (.tuple #[.pointer none, .int .i64 3]) ∧ w = w' := by
 have d0 : decide ((24 : Int) < ((n : Nat) : Int)) = true := by simp; omega
 have d0n : decide (24 < n) = true := by simpa using hn
 go_enter Tryz.func54, Tryz.ntmps54
 go_wp2
 go_ret2
 exact ⟨rfl, rfl⟩
set_option maxHeartbeats 8000000 in
set_option maxRecDepth 100000 in
theorem read_arg (g0 c0 : Nat) (S : List Tr) (w : World) (hS : TrR w g0 0 S) (hg : g0 < w.heap.size) (hc : S.length ≤ c0) (hn24 : S.length ≤ 24) (i0 : Nat) (hi0 : i0 < S.length) (hok : ∀ i, i < i0 → RgT (S.getD i default)) (hbad : ¬ RgT (S.getD i0 default)) :
  Calls Tryz.prog 54 #[.slice (some ⟨g0, 0, none⟩) S.length c0] w fun e w' => e = .returned (.tuple #[.pointer none, .int .i64 1]) ∧ Below w.heap.size w w' := by
 have HS := Lib.hid hS
 have HOK := Lib.hid hok
 have HBAD := Lib.hid hbad
 have hn1 : 0 < S.length := by omega
 have d0 : decide ((24 : Int) < ((S.length : Nat) : Int)) = false := by simp; omega
 have d0n : decide (24 < S.length) = false := by simp; omega
 clear hS hok hbad
 go_enter Tryz.func54, Tryz.ntmps54
 go_wp2_with (go_at_call 102; (with_reducible refine (sqclone_any g0 c0 S _ HS.out hg hc hn1 (by omega)).mono ?_); rintro e w1 ⟨gc, cap, rfl, ho, hb⟩; have HO := Lib.hid ho; have KW := Lib.hid hb; clear ho hb)
 have hgc := (HO.out.lt gc rfl)
 have M0 : Hid (CutM w (w1.alloc (.cells #[.slice (some ⟨gc, 0, none⟩) S.length cap, .int .i64 0, .int .i64 0] 100)) w1.heap.size gc cap S (wdT S 0) (htT S 0)) := Lib.hid
  ⟨by simp [go_sem], by simp [go_sem, wdT], by simp [go_sem, htT], fun o => by simp, HO.out.alloc _, hgc.2, by simp, KW.out.alloc KW.out.size _⟩
 clear HO KW hgc
 obtain ⟨bp, hbp⟩ : ∃ bp, bp = w1.heap.size := ⟨_, rfl⟩
 rw [← hbp] at M0 ⊢
 clear hbp
 go_loopw [5, 7, 21] (fun v5 v7 v21 wr => ∃ k : Nat, k ≤ i0 ∧ v21 = .int .i64 (k : Nat) ∧ v5 = .int .i64 (arT S k) ∧ Hid (CutM w wr bp gc cap S (wdT S k) (htT S k))) (fun _ _ v21 _ => S.length - (intOf v21).toNat)
 case atStart => exact ⟨0, by omega, rfl, rfl, M0⟩
 case round =>
  clear M0
  obtain ⟨k, hk, rfl, rfl, CM⟩ := hrel
  by_cases h : k < i0
  ·have e1 : decide ((k : Int) < ((S.length : Nat) : Int)) = true := by simp; omega
   have e1n : decide (k < S.length) = true := by simp; omega
   have hrg := HOK.out k h
   have hmb := meas_boundN HOK.out k hk
   have ix := fun W => ixSq g0 S.length c0 k (by omega) W
   have HSR := Lib.hid (HS.out.below CM.out.below hg)
   have x0 := HSR.out.c0 k (by omega)
   have x1 := HSR.out.c1 k (by omega)
   have x2 := HSR.out.c2 k (by omega)
   obtain ⟨q, hq⟩ : ∃ q, q = S.getD k default := ⟨_, rfl⟩
   simp only [Nat.zero_add] at x0 x1 x2
   rw [← hq] at x0 x1 x2 hrg
   have hbw := CM.out.lb
   have hgw : g0 < wr.heap.size := Nat.lt_of_lt_of_le hg CM.out.below.size
   have hsq := hrg.sq
   have q0 := hrg.a0; have q1 := hrg.b0; have q2 := hrg.c0; have q3 := hrg.c1; have q4 := hrg.a1; have q5 := hrg.b1
   have d1 : decide (q.a < 0) = false := by simp; omega
   have d2 : decide (q.b < 0) = false := by simp; omega
   have d3 : decide (q.c < 1) = false := by simp; omega
   have d4 : decide (1000 < q.c) = false := by simp; omega
   have w5 : IntKind.i64.wrap (1000 - q.c) = 1000 - q.c := by rw [IntKind.wrap_i64]; omega
   have d5 : decide (1000 - q.c < q.a) = false := by simp; omega
   have d6 : decide (1000 - q.c < q.b) = false := by simp; omega
   have w6 : IntKind.i64.wrap (q.a + q.c) = q.a + q.c := by rw [IntKind.wrap_i64]; omega
   have w7 : IntKind.i64.wrap (q.b + q.c) = q.b + q.c := by rw [IntKind.wrap_i64]; omega
   have w8 : IntKind.i64.wrap (q.c * q.c) = q.c * q.c := by rw [IntKind.wrap_i64]; omega
   have w9 : IntKind.i64.wrap (arT S k + q.c * q.c) = arT S k + q.c * q.c := by rw [IntKind.wrap_i64]; omega
   have hA : arT S (k + 1) = arT S k + q.c * q.c := by simp only [arT]; rw [hq]
   have hW : (if wdT S k < q.a + q.c then q.a + q.c else wdT S k) = wdT S (k + 1) := by simp only [wdT]; rw [hq]
   have hH : (if htT S k < q.b + q.c then q.b + q.c else htT S k) = htT S (k + 1) := by simp only [htT]; rw [hq]
   have HA := Lib.hid hA
   clear hq hrg hmb hsq q0 q1 q2 q3 q4 q5 hA
   go_upto_region 8 with (fail)
   have CM := Lib.hid (CM.out.keep ((Below.refl wr.heap.size wr).alloc (Nat.le_refl _) (.cells #[.int .i64 q.a, .int .i64 q.b, .int .i64 q.c] 47)))
   have y0 : (wr.alloc (.cells #[.int .i64 q.a, .int .i64 q.b, .int .i64 q.c] 47)).cell? ⟨wr.heap.size, 0, none⟩ = some (.int .i64 q.a) := by simp [go_sem]
   have y1 : (wr.alloc (.cells #[.int .i64 q.a, .int .i64 q.b, .int .i64 q.c] 47)).cell? ⟨wr.heap.size, 1, none⟩ = some (.int .i64 q.b) := by simp [go_sem]
   have y2 : (wr.alloc (.cells #[.int .i64 q.a, .int .i64 q.b, .int .i64 q.c] 47)).cell? ⟨wr.heap.size, 2, none⟩ = some (.int .i64 q.c) := by simp [go_sem]
   generalize wr.alloc (.cells #[.int .i64 q.a, .int .i64 q.b, .int .i64 q.c] 47) = w2 at CM y0 y1 y2 ⊢
   clear x0 x1 x2 ix HSR
   obtain ⟨Wk, hWk⟩ : ∃ Wk, Wk = wdT S k := ⟨_, rfl⟩
   obtain ⟨Hk, hHk⟩ : ∃ Hk, Hk = htT S k := ⟨_, rfl⟩
   rw [← hWk] at hW CM
   rw [← hHk] at hH CM
   have z1 := CM.out.c1
   have z2 := CM.out.c2
   have f1 := CM.out.fz 1
   have f2 := CM.out.fz 2
   have hne : ¬ bp = wr.heap.size := by omega
   have hne2 : ¬ wr.heap.size = bp := by omega
   have hWm : max Wk (q.a + q.c) = wdT S (k + 1) := by rw [← hW]; split <;> omega
   have hHm : max Hk (q.b + q.c) = htT S (k + 1) := by rw [← hH]; split <;> omega
   clear hWk hHk
   obtain ⟨sb, hsb⟩ : ∃ sb, sb = wr.heap.size := ⟨_, rfl⟩
   rw [← hsb] at y0 y1 y2 hne hne2 ⊢
   clear hsb
   go_upto_region 10 with (fail)
   go_cut [7] (fun v7 wx => v7 = .pointer (some ⟨sb, 0, none⟩) ∧ Hid (CutM w wx bp gc cap S (wdT S (k + 1)) (htT S (k + 1))) ∧ Hid (wx.cell? ⟨sb, 2, none⟩ = some (.int .i64 q.c)))
   case first =>
    have CM2 := Lib.hid ((CM.out.setWH (wdT S (k + 1)) (htT S (k + 1))).keep (Below.refl _ _).drew)
    have Y3 : Hid (((w2.setCell ⟨bp, 1, none⟩ (.int .i64 (wdT S (k + 1)))).setCell ⟨bp, 2, none⟩ (.int .i64 (htT S (k + 1)))).drew.cell? ⟨sb, 2, none⟩ = some (.int .i64 q.c)) := Lib.hid (by
     show ((w2.setCell ⟨bp, 1, none⟩ (.int .i64 (wdT S (k + 1)))).setCell ⟨bp, 2, none⟩ (.int .i64 (htT S (k + 1)))).cell? ⟨sb, 2, none⟩ = _
     rw [cellT_far hne2, cellT_far hne2]; exact y2)
    clear d1 d2 d3 d4 d5 d6 w5 w8 w9 HA hgw hbw
    go_region
    all_goals
     go_wp2
     go_meet
     case rel => exact ⟨rfl, CM2, Y3⟩
   case rest =>
   clear CM y0 y1 y2 z1 z2 f1 f2
   obtain ⟨rfl, CM, Y3⟩ := hcut
   have y3 := Y3.out
   go_wp2
   go_roundw
   case rel => exact ⟨k + 1, by omega, by go_num, by rw [HA.out], CM⟩
   case measure => simp [intOf]; omega
  ·obtain rfl : k = i0 := by omega
   have e1 : decide ((k : Int) < ((S.length : Nat) : Int)) = true := by simp; omega
   have e1n : decide (k < S.length) = true := by simp; omega
   have ix := fun W => ixSq g0 S.length c0 k hi0 W
   have HSR := Lib.hid (HS.out.below CM.out.below hg)
   have x0 := HSR.out.c0 k hi0
   have x1 := HSR.out.c1 k hi0
   have x2 := HSR.out.c2 k hi0
   have hb := HBAD.out
   obtain ⟨q, hq⟩ : ∃ q, q = S.getD k default := ⟨_, rfl⟩
   simp only [Nat.zero_add] at x0 x1 x2
   rw [← hq] at x0 x1 x2 hb
   have hbw := CM.out.lb
   have hgw : g0 < wr.heap.size := Nat.lt_of_lt_of_le hg CM.out.below.size
   have hcs : q.a < 0 ∨ (0 ≤ q.a ∧ (q.b < 0 ∨ (0 ≤ q.b ∧ (q.c < 1 ∨ (1 ≤ q.c ∧ (1000 < q.c ∨ (q.c ≤ 1000 ∧ (1000 - q.c < q.a ∨ (q.a ≤ 1000 - q.c ∧ 1000 - q.c < q.b))))))))) := by
    rcases Int.lt_or_le q.a 0 with g | g1
    ·exact .inl g
    rcases Int.lt_or_le q.b 0 with g | g2
    ·exact .inr ⟨g1, .inl g⟩
    rcases Int.lt_or_le q.c 1 with g | g3
    ·exact .inr ⟨g1, .inr ⟨g2, .inl g⟩⟩
    rcases Int.lt_or_le 1000 q.c with g | g4
    ·exact .inr ⟨g1, .inr ⟨g2, .inr ⟨g3, .inl g⟩⟩⟩
    rcases Int.lt_or_le (1000 - q.c) q.a with g | g5
    ·exact .inr ⟨g1, .inr ⟨g2, .inr ⟨g3, .inr ⟨g4, .inl g⟩⟩⟩⟩
    rcases Int.lt_or_le (1000 - q.c) q.b with g | g6
    ·exact .inr ⟨g1, .inr ⟨g2, .inr ⟨g3, .inr ⟨g4, .inr ⟨g5, g⟩⟩⟩⟩⟩
    exact absurd ⟨g1, g2, g3, g4, g5, g6⟩ hb
   clear hq hb
   go_upto_region 8 with (fail)
   have CM := Lib.hid (CM.out.keep ((Below.refl wr.heap.size wr).alloc (Nat.le_refl _) (.cells #[.int .i64 q.a, .int .i64 q.b, .int .i64 q.c] 47)))
   have y0 : (wr.alloc (.cells #[.int .i64 q.a, .int .i64 q.b, .int .i64 q.c] 47)).cell? ⟨wr.heap.size, 0, none⟩ = some (.int .i64 q.a) := by simp [go_sem]
   have y1 : (wr.alloc (.cells #[.int .i64 q.a, .int .i64 q.b, .int .i64 q.c] 47)).cell? ⟨wr.heap.size, 1, none⟩ = some (.int .i64 q.b) := by simp [go_sem]
   have y2 : (wr.alloc (.cells #[.int .i64 q.a, .int .i64 q.b, .int .i64 q.c] 47)).cell? ⟨wr.heap.size, 2, none⟩ = some (.int .i64 q.c) := by simp [go_sem]
   generalize wr.alloc (.cells #[.int .i64 q.a, .int .i64 q.b, .int .i64 q.c] 47) = w2 at CM y0 y1 y2 ⊢
   clear x0 x1 x2 ix HSR
   have KF := Lib.hid CM.out.below
   clear CM hbw hgw hk hi0 h e1 e1n
   obtain ⟨sb, hsb⟩ : ∃ sb, sb = wr.heap.size := ⟨_, rfl⟩
   rw [← hsb] at y0 y1 y2 ⊢
   clear hsb
   rcases hcs with hz | ⟨hz, hcs⟩
   ·have d1 : decide (q.a < 0) = true := by simp; omega
    clear hz
    go_wp2
    go_ret2
    exact ⟨rfl, KF.out⟩
   have d1 : decide (q.a < 0) = false := by simp; omega
   rcases hcs with hz | ⟨hz, hcs⟩
   ·have d2 : decide (q.b < 0) = true := by simp; omega
    clear hz
    go_wp2
    go_ret2
    exact ⟨rfl, KF.out⟩
   have d2 : decide (q.b < 0) = false := by simp; omega
   rcases hcs with hz | ⟨hz, hcs⟩
   ·have d3 : decide (q.c < 1) = true := by simp; omega
    clear hz
    go_wp2
    go_ret2
    exact ⟨rfl, KF.out⟩
   have d3 : decide (q.c < 1) = false := by simp; omega
   rcases hcs with hz | ⟨hz, hcs⟩
   ·have d4 : decide (1000 < q.c) = true := by simp; omega
    clear hz
    go_wp2
    go_ret2
    exact ⟨rfl, KF.out⟩
   have d4 : decide (1000 < q.c) = false := by simp; omega
   rcases hcs with hz | ⟨hz, hcs⟩
   ·have w5 : IntKind.i64.wrap (1000 - q.c) = 1000 - q.c := by rw [IntKind.wrap_i64]; omega
    have d5 : decide (1000 - q.c < q.a) = true := by simp; omega
    clear hz
    go_wp2
    go_ret2
    exact ⟨rfl, KF.out⟩
   have w5 : IntKind.i64.wrap (1000 - q.c) = 1000 - q.c := by rw [IntKind.wrap_i64]; omega
   have d5 : decide (1000 - q.c < q.a) = false := by simp; omega
   have d6 : decide (1000 - q.c < q.b) = true := by simp; omega
   clear hcs
   go_wp2
   go_ret2
   exact ⟨rfl, KF.out⟩
end Go.Proofs.YtolkchkedieppaaGreat
