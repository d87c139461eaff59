/- Covers of the reference of hide. -/
import Derived.Test.YtolkchkedieppaaGreatUPlainBt
import Derived.Test.YtolkchkedieppaaGreatUNetB
import Derived.Deep.RegionHeld3
import Derived.BigRegion
import Derived.BigQuiet
import Derived.Deep.DeepCutAuto
import Derived.Deep.CutBlock
import Derived.Test.YtolkchkedieppaaGreatUPlainCv
import Derived.Test.YtolkchkedieppaaGreatUOrd
set_option linter.unusedVariables false
set_option linter.unusedSimpArgs false
namespace Go.Proofs.YtolkchkedieppaaGreat
open Go.RowKit
attribute [local go_sem ↓] Go.wp_at_zero Go.wp_at_succ
set_option maxHeartbeats 8000000 in
set_option maxRecDepth 100000 in
theorem rcovers_any (v : Value) (S : List Tr) (r : Bool) (w : World) (hv : SqV w v S) (hn : S.length ≤ 24) (hrg : ∀ i, i < S.length → RgT (S.getD i default)) (hr : r = true ↔ (∀ i j, j < i → i < S.length → ApT (S.getD i default) (S.getD j default)) ∧ arT S S.length = wdT S S.length * htT S S.length) :
  Calls Tryz.prog 60 #[v, .int .i64 0, .int .i64 0] w fun e w' => e = .returned (.bool r) ∧ Below w.heap.size w w' := by
 obtain ⟨a1, c1, rfl, k1⟩ := hv.ex
 have K1 := Lib.hid k1
 clear hv k1
 obtain ⟨n, hN⟩ : ∃ n, n = S.length := ⟨_, rfl⟩
 rw [← hN] at K1 hn hr hrg ⊢
 have HN := Lib.hid hN
 have HR := Lib.hid hr
 have HRG := Lib.hid hrg
 clear hN hr hrg
 go_enter Tryz.func60, Tryz.ntmps60
 go_wp2
 have KB0 := Lib.hid (Below.refl w.heap.size w)
 have AP0 : Hid (∀ i j, j < i → i < 0 → ApT (S.getD i default) (S.getD j default)) := Lib.hid (fun i j _ h => by omega)
 go_loopw [7, 8, 9, 10, 11] (fun v7 v8 v9 v10 v11 wr => ∃ i : Nat, i ≤ n ∧ v10 = .int .i64 (i : Nat) ∧ v7 = .int .i64 (wdT S i) ∧ v8 = .int .i64 (htT S i) ∧ v9 = .int .i64 (arT S i) ∧ Hid (∀ i' j', j' < i' → i' < i → ApT (S.getD i' default) (S.getD j' default)) ∧ Hid (Below w.heap.size w wr)) (fun _ _ _ v10 _ _ => n - (intOf v10).toNat)
 case atStart => exact ⟨0, by omega, rfl, rfl, rfl, rfl, AP0, KB0⟩
 case round =>
  clear AP0 KB0
  obtain ⟨i, hi, rfl, rfl, rfl, rfl, AP, KB⟩ := hrel
  by_cases h : i < n
  ·have e1 : decide ((i : Int) < (n : Int)) = true := by simpa using h
   have e1n : decide (i < n) = true := by simpa using h
   obtain ⟨g1, o1, rfl, r1, l1⟩ := K1.out (by omega)
   have TR := Lib.hid r1
   have HLT := Lib.hid l1
   have ixi := fun X => ixSqo g1 o1 n c1 i h X
   have hmb := meas_boundN HRG.out i hi
   have hrp := HRG.out i h
   obtain ⟨p, hp⟩ : ∃ p, p = S.getD i default := ⟨_, rfl⟩
   rw [← hp] at hrp
   have HP := Lib.hid hp
   have HRP := Lib.hid hrp
   have P3 : Hid (∀ wx, Below w.heap.size w wx → wx.cell? ⟨g1, o1 + i * 3, none⟩ = some (.int .i64 p.a) ∧ wx.cell? ⟨g1, o1 + i * 3 + 1, none⟩ = some (.int .i64 p.b) ∧ wx.cell? ⟨g1, o1 + i * 3 + 2, none⟩ = some (.int .i64 p.c)) := Lib.hid (fun wx hb => by
    have T := TR.out.below hb HLT.out
    have hi2 : i < S.length := by have := HN.out; omega
    rw [hp]; exact ⟨T.c0 i hi2, T.c1 i hi2, T.c2 i hi2⟩)
   have hWn : wdT S (i + 1) = (if wdT S i < p.a + p.c then p.a + p.c else wdT S i) := by rw [hp]; rfl
   have hHn : htT S (i + 1) = (if htT S i < p.b + p.c then p.b + p.c else htT S i) := by rw [hp]; rfl
   have hAn : arT S (i + 1) = arT S i + p.c * p.c := by rw [hp]; rfl
   clear hp r1 l1
   obtain ⟨Wi, hWi⟩ : ∃ W, W = wdT S i := ⟨_, rfl⟩
   obtain ⟨Hi, hHi⟩ : ∃ H, H = htT S i := ⟨_, rfl⟩
   obtain ⟨Ai, hAi⟩ : ∃ A, A = arT S i := ⟨_, rfl⟩
   rw [← hWi] at hWn hmb ⊢
   rw [← hHi] at hHn hmb ⊢
   rw [← hAi] at hAn hmb ⊢
   clear hWi hHi hAi
   have HWn := Lib.hid hWn
   have HHn := Lib.hid hHn
   have HAn := Lib.hid hAn
   have HMB := Lib.hid hmb
   clear hWn hHn hAn hmb hrp
   have IN0 : Hid (∀ j', j' < 0 → ApT p (S.getD j' default)) := Lib.hid (fun j' h => by omega)
   clear e1 e1n
   go_upto_block 2 with (fail)
   go_wp2
   go_loopw [11] (fun v11 wi => ∃ j : Nat, j ≤ i ∧ v11 = .int .i64 (j : Nat) ∧ Hid (∀ j', j' < j → ApT p (S.getD j' default)) ∧ Hid (Below w.heap.size w wi)) (fun v11 _ => i - (intOf v11).toNat)
   case atStart => exact ⟨0, by omega, rfl, IN0, KB⟩
   case round =>
    clear IN0 KB
    obtain ⟨j, hj, rfl, IN, KB⟩ := hrel
    by_cases h2 : j < i
    ·have e3 : decide ((j : Int) < (i : Int)) = true := by simpa using h2
     have e3n : decide (j < i) = true := by simpa using h2
     have ixj := fun X => ixSqo g1 o1 n c1 j (by omega) X
     have hrq := HRG.out j (by omega)
     obtain ⟨q, hq⟩ : ∃ q, q = S.getD j default := ⟨_, rfl⟩
     rw [← hq] at hrq
     have HRQ := Lib.hid hrq
     have Q3 : Hid (∀ wx, Below w.heap.size w wx → wx.cell? ⟨g1, o1 + j * 3, none⟩ = some (.int .i64 q.a) ∧ wx.cell? ⟨g1, o1 + j * 3 + 1, none⟩ = some (.int .i64 q.b) ∧ wx.cell? ⟨g1, o1 + j * 3 + 2, none⟩ = some (.int .i64 q.c)) := Lib.hid (fun wx hb => by
      have T := TR.out.below hb HLT.out
      have hj2 : j < S.length := by have := HN.out; omega
      rw [hq]; exact ⟨T.c0 j hj2, T.c1 j hj2, T.c2 j hj2⟩)
     have KEEP : Hid (∀ w', Below wr.heap.size wr w' → (w'.cell? ⟨g1, o1 + i * 3, none⟩ = some (.int .i64 p.a) ∧ w'.cell? ⟨g1, o1 + i * 3 + 1, none⟩ = some (.int .i64 p.b) ∧ w'.cell? ⟨g1, o1 + i * 3 + 2, none⟩ = some (.int .i64 p.c) ∧ w'.cell? ⟨g1, o1 + j * 3, none⟩ = some (.int .i64 q.a) ∧ w'.cell? ⟨g1, o1 + j * 3 + 1, none⟩ = some (.int .i64 q.b) ∧ w'.cell? ⟨g1, o1 + j * 3 + 2, none⟩ = some (.int .i64 q.c))) := Lib.hid (fun w' hb => by
      obtain ⟨y0, y1, y2⟩ := P3.out w' (KB.out.trans (hb.mono KB.out.size))
      obtain ⟨z0, z1, z2⟩ := Q3.out w' (KB.out.trans (hb.mono KB.out.size))
      exact ⟨y0, y1, y2, z0, z1, z2⟩)
     have VL0 := Lib.hid (Below.refl wr.heap.size wr).drew
     have HQ := Lib.hid hq
     clear hq hrq
     by_cases hap : ApT p q
     ·have HA := Lib.hid hap
      have IN2 : Hid (∀ j', j' < j + 1 → ApT p (S.getD j' default)) := Lib.hid (ext_lt2 (n := j) IN.out (by rw [← HQ.out]; exact hap))
      clear hap
      go_wp2
      go_region_held3 (fun w' => w'.cell? ⟨g1, o1 + i * 3, none⟩ = some (.int .i64 p.a) ∧ w'.cell? ⟨g1, o1 + i * 3 + 1, none⟩ = some (.int .i64 p.b) ∧ w'.cell? ⟨g1, o1 + i * 3 + 2, none⟩ = some (.int .i64 p.c) ∧ w'.cell? ⟨g1, o1 + j * 3, none⟩ = some (.int .i64 q.a) ∧ w'.cell? ⟨g1, o1 + j * 3 + 1, none⟩ = some (.int .i64 q.b) ∧ w'.cell? ⟨g1, o1 + j * 3 + 2, none⟩ = some (.int .i64 q.c))
       (first | (with_reducible exact KEEP.out _ VL0.out) | (with_reducible exact KEEP.out _ VL1.out))
       (first
       | (go_at_call 108; (with_reducible refine (rapart_any p q true ⟨fun _ => HA.out, fun _ => rfl⟩ _ HRP.out HRQ.out).mono ?_); rintro e wx ⟨rfl, hbx⟩; have VL1 := Lib.hid (VL0.out.trans (hbx.mono VL0.out.size)); clear hbx))
      all_goals
       go_wp2
       go_roundw
       case rel => exact ⟨j + 1, by omega, by go_num, IN2, Lib.hid (KB.out.trans (VL1.out.mono KB.out.size))⟩
       case measure => simp [intOf]; omega
     ·have HA := Lib.hid hap
      have HRF : Hid (r = false) := Lib.hid (by
       rcases r with _ | _
       ·rfl
       ·exact absurd (by have := (HR.out.1 rfl).1 i j h2 h; rw [← HP.out, ← HQ.out] at this; exact this) hap)
      clear hap
      go_wp2
      go_region_held3 (fun w' => w'.cell? ⟨g1, o1 + i * 3, none⟩ = some (.int .i64 p.a) ∧ w'.cell? ⟨g1, o1 + i * 3 + 1, none⟩ = some (.int .i64 p.b) ∧ w'.cell? ⟨g1, o1 + i * 3 + 2, none⟩ = some (.int .i64 p.c) ∧ w'.cell? ⟨g1, o1 + j * 3, none⟩ = some (.int .i64 q.a) ∧ w'.cell? ⟨g1, o1 + j * 3 + 1, none⟩ = some (.int .i64 q.b) ∧ w'.cell? ⟨g1, o1 + j * 3 + 2, none⟩ = some (.int .i64 q.c))
       (first | (with_reducible exact KEEP.out _ VL0.out) | (with_reducible exact KEEP.out _ VL1.out))
       (first
       | (go_at_call 108; (with_reducible refine (rapart_any p q false ⟨fun h => Bool.noConfusion h, fun h => absurd h HA.out⟩ _ HRP.out HRQ.out).mono ?_); rintro e wx ⟨rfl, hbx⟩; have VL1 := Lib.hid (VL0.out.trans (hbx.mono VL0.out.size)); clear hbx))
      all_goals
       go_wp2
       go_ret
       exact ⟨by rw [HRF.out]; rfl, KB.out.trans (VL1.out.mono KB.out.size)⟩
    ·obtain rfl : j = i := by omega
     have e3 : decide ((j : Int) < (j : Int)) = false := by simp
     have AP2 : Hid (∀ i' j', j' < i' → i' < j + 1 → ApT (S.getD i' default) (S.getD j' default)) := Lib.hid (fun i' j' h1 h3 => by
      by_cases e : i' = j
      ·subst e; rw [← HP.out]; exact IN.out j' h1
      ·exact AP.out i' j' h1 (by omega))
     obtain ⟨x0, x1, x2⟩ := P3.out wr KB.out
     have hrp := HRP.out
     have hsq := hrp.sq
     have hmb := HMB.out
     have q0 := hrp.a0; have q1 := hrp.b0; have q2 := hrp.c0; have q3 := hrp.c1; have q4 := hrp.a1; have q5 := hrp.b1
     have d1 : decide (p.a < 0) = false := by simp; omega
     have d2 : decide (p.b < 0) = false := by simp; omega
     have w6 : IntKind.i64.wrap (p.a + p.c) = p.a + p.c := by rw [IntKind.wrap_i64]; omega
     have w7 : IntKind.i64.wrap (p.b + p.c) = p.b + p.c := by rw [IntKind.wrap_i64]; omega
     have w8 : IntKind.i64.wrap (p.c * p.c) = p.c * p.c := by rw [IntKind.wrap_i64]; omega
     have w9 : IntKind.i64.wrap (Ai + p.c * p.c) = Ai + p.c * p.c := by rw [IntKind.wrap_i64]; omega
     have hW : (if Wi < p.a + p.c then p.a + p.c else Wi) = wdT S (j + 1) := HWn.out.symm
     have hH : (if Hi < p.b + p.c then p.b + p.c else Hi) = htT S (j + 1) := HHn.out.symm
     have hWm : max Wi (p.a + p.c) = wdT S (j + 1) := by rw [← hW]; split <;> omega
     have hHm : max Hi (p.b + p.c) = htT S (j + 1) := by rw [← hH]; split <;> omega
     clear hrp hsq hmb q0 q1 q2 q3 q4 q5
     go_upto_region 12 with (fail)
     go_quiet (fail)
     go_wp2
     go_roundw
     case rel => exact ⟨j + 1, by omega, by go_num, rfl, rfl, by rw [HAn.out], AP2, Lib.hid (KB.out.trans ((Drawn.of _ _).below _))⟩
     case measure => simp [intOf]; omega
  ·obtain rfl : i = n := by omega
   have e1 : decide ((i : Int) < (i : Int)) = false := by simp
   have hmb := meas_boundN HRG.out i (Nat.le_refl _)
   have hr := HR.out
   obtain ⟨A, hA⟩ : ∃ A, A = arT S i := ⟨_, rfl⟩
   obtain ⟨W, hW⟩ : ∃ W, W = wdT S i := ⟨_, rfl⟩
   obtain ⟨H, hH⟩ : ∃ H, H = htT S i := ⟨_, rfl⟩
   rw [← hA, ← hW, ← hH] at hr
   rw [← hA, ← hW, ← hH] at hmb ⊢
   have hwh : 0 ≤ W * H ∧ W * H ≤ 1000000 := by
    have g1 := Int.mul_nonneg hmb.1 hmb.2.2.1
    have g2 := Int.mul_le_mul hmb.2.1 hmb.2.2.2.1 hmb.2.2.1 (by omega)
    omega
   have w1 : IntKind.i64.wrap (W * H) = W * H := by rw [IntKind.wrap_i64]; omega
   have AP2 : ∀ i' j', j' < i' → i' < i → ApT (S.getD i' default) (S.getD j' default) := AP.out
   clear hA hW hH
   by_cases har : A = W * H
   ·have d1 : (A == W * H) = true := by simpa using har
    have HRT : Hid (r = true) := Lib.hid (hr.2 ⟨AP2, har⟩)
    clear har hr AP2 hmb hwh
    go_wp2
    go_ret
    exact ⟨by rw [HRT.out]; rfl, KB.out⟩
   ·have d1 : (A == W * H) = false := by simpa using har
    have HRT : Hid (r = false) := Lib.hid (by
     rcases r with _ | _
     ·rfl
     ·exact absurd (hr.1 rfl).2 har)
    clear har hr AP2 hmb hwh
    go_wp2
    go_ret
    exact ⟨by rw [HRT.out]; rfl, KB.out⟩
end Go.Proofs.YtolkchkedieppaaGreat

/- Check of the reference of hide. -/
namespace Go.Proofs.YtolkchkedieppaaGreat
open Go.RowKit
attribute [local go_sem ↓] Go.wp_at_zero Go.wp_at_succ
theorem bad_arg {S : List Tr} {z : Int} (hz : (CutOK S ∧ z = 0) ∨ BadS S z) (hn : ¬ 24 < S.length) {i : Nat} (hi : i < S.length) (h : ¬ RgT (S.getD i default)) : z = 1 := by
 rcases hz with ⟨hC, _⟩ | ⟨h1, _⟩ | ⟨_, _, rfl⟩ | ⟨_, h1, _⟩
 ·exact absurd (hC.rg i hi) h
 ·exact absurd h1 hn
 ·rfl
 ·exact absurd (h1 i hi) h
theorem bad_end {S : List Tr} {z : Int} (hz : (CutOK S ∧ z = 0) ∨ BadS S z) (hn : ¬ 24 < S.length) (h : ∀ i, i < S.length → RgT (S.getD i default)) : (CutOK S ∧ z = 0) ∨ (¬ CutOK S ∧ z = 2) := by
 rcases hz with hC | ⟨h1, _⟩ | ⟨_, ⟨i, hi, hb⟩, _⟩ | ⟨_, _, h1, rfl⟩
 ·exact .inl hC
 ·exact absurd h1 hn
 ·exact absurd (h i hi) hb
 ·exact .inr ⟨h1, rfl⟩
set_option maxHeartbeats 8000000 in
set_option maxRecDepth 100000 in
theorem rcheck_any (v : Value) (S : List Tr) (z : Int) (w : World) (hv : SqV w v S) (hz : (CutOK S ∧ z = 0) ∨ BadS S z) :
  Calls Tryz.prog 21 #[v] w fun e w' => e = .returned (.int .i64 z) ∧ Below w.heap.size w w' := by
 obtain ⟨a1, c1, rfl, k1⟩ := hv.ex
 have HV := Lib.hid hv
 have K1 := Lib.hid k1
 clear hv k1
 by_cases hn : 24 < S.length
 ·have d1 : decide ((24 : Int) < ((S.length : Nat) : Int)) = true := by simp; omega
  have d1n : decide (24 < S.length) = true := by simpa using hn
  have HZ : Hid (z = 3) := Lib.hid (by
   rcases hz with ⟨hC, _⟩ | ⟨_, rfl⟩ | ⟨h1, _⟩ | ⟨h1, _⟩
   ·have := hC.few; omega
   ·rfl
   ·omega
   ·omega)
  clear hz hn
  go_enter Tryz.func21, Tryz.ntmps21
  go_wp2
  go_ret
  exact ⟨by rw [HZ.out]; rfl, Below.refl _ _⟩
 ·have d1 : decide ((24 : Int) < ((S.length : Nat) : Int)) = false := by simp; omega
  have d1n : decide (24 < S.length) = false := by simpa using hn
  have HARG := Lib.hid (fun (i : Nat) (hi : i < S.length) (h : ¬ RgT (S.getD i default)) => bad_arg hz hn hi h)
  have HEND := Lib.hid (fun h => bad_end hz hn h)
  have hn24 : S.length ≤ 24 := by omega
  clear hz hn
  obtain ⟨n, hN⟩ : ∃ n, n = S.length := ⟨_, rfl⟩
  rw [← hN] at K1 hn24 d1 d1n HARG HEND HV ⊢
  have HN := Lib.hid hN
  clear hN
  have KB0 := Lib.hid (Below.refl w.heap.size w)
  have RG0 : Hid (∀ i, i < 0 → RgT (S.getD i default)) := Lib.hid (fun i h => by omega)
  go_enter Tryz.func21, Tryz.ntmps21
  go_wp2
  go_loopw [3, 4] (fun v3 v4 wr => ∃ i : Nat, i ≤ n ∧ v3 = .int .i64 (i : Nat) ∧ Hid (∀ i', i' < i → RgT (S.getD i' default)) ∧ Hid (Below w.heap.size w wr)) (fun v3 _ _ => n - (intOf v3).toNat)
  case atStart => exact ⟨0, by omega, rfl, RG0, KB0⟩
  case round =>
   clear RG0 KB0
   obtain ⟨i, hi, rfl, RG, KB⟩ := hrel
   by_cases h : i < n
   ·have e1 : decide ((i : Int) < (n : Int)) = true := by simpa using h
    have e1n : decide (i < n) = true := by simpa using h
    obtain ⟨g1, o1, rfl, r1, l1⟩ := K1.out (by omega)
    have ixi := fun X => ixSqo g1 o1 n c1 i h X
    have hi2 : i < S.length := by have := HN.out; omega
    have T := r1.below KB.out l1
    have x0 := T.c0 i hi2
    have x1 := T.c1 i hi2
    have x2 := T.c2 i hi2
    have harg := HARG.out i h
    obtain ⟨q, hq⟩ : ∃ q, q = S.getD i default := ⟨_, rfl⟩
    rw [← hq] at x0 x1 x2 harg
    have HQ := Lib.hid hq
    have HA := Lib.hid harg
    clear hq T r1 l1 harg hi2
    go_upto_region 7 with (fail)
    have KB := Lib.hid (KB.out.alloc KB.out.size (.cells #[.int .i64 q.a, .int .i64 q.b, .int .i64 q.c] 47))
    have y0 : (wr.alloc (.cells #[.int .i64 q.a, .int .i64 q.b, .int .i64 q.c] 47)).cell? ⟨wr.heap.size, 0, none⟩ = some (.int .i64 q.a) := by simp [go_sem]
    have y1 : (wr.alloc (.cells #[.int .i64 q.a, .int .i64 q.b, .int .i64 q.c] 47)).cell? ⟨wr.heap.size, 1, none⟩ = some (.int .i64 q.b) := by simp [go_sem]
    have y2 : (wr.alloc (.cells #[.int .i64 q.a, .int .i64 q.b, .int .i64 q.c] 47)).cell? ⟨wr.heap.size, 2, none⟩ = some (.int .i64 q.c) := by simp [go_sem]
    obtain ⟨sb, hsb⟩ : ∃ sb, sb = wr.heap.size := ⟨_, rfl⟩
    rw [← hsb] at y0 y1 y2 ⊢
    generalize wr.alloc (.cells #[.int .i64 q.a, .int .i64 q.b, .int .i64 q.c] 47) = w2 at KB y0 y1 y2 ⊢
    clear x0 x1 x2 ixi hsb
    by_cases c1 : 1 ≤ q.c ∧ q.c ≤ 1000
    ·have w5 : IntKind.i64.wrap (1000 - q.c) = 1000 - q.c := by rw [IntKind.wrap_i64]; omega
     have C1 := Lib.hid c1
     by_cases c2 : 0 ≤ q.a ∧ q.a ≤ 1000 - q.c
     ·have C2 := Lib.hid c2
      by_cases c3 : 0 ≤ q.b ∧ q.b ≤ 1000 - q.c
      ·have C3 := Lib.hid c3
       have RG2 : Hid (∀ i', i' < i + 1 → RgT (S.getD i' default)) := Lib.hid (ext_lt2 (n := i) RG.out (by rw [← HQ.out]; exact ⟨c2.1, c3.1, c1.1, c1.2, c2.2, c3.2⟩))
       clear c1 c2 c3
       go_wp2_with (first
        | (go_at_call 59; (with_reducible refine (rin_any q.c 1 1000 true ⟨fun _ => C1.out, fun _ => rfl⟩ _).mono ?_); rintro e wi ⟨rfl, rfl⟩)
        | (go_at_call 59; (with_reducible refine (rin_any q.a 0 (1000 - q.c) true ⟨fun _ => C2.out, fun _ => rfl⟩ _).mono ?_); rintro e wi ⟨rfl, rfl⟩)
        | (go_at_call 59; (with_reducible refine (rin_any q.b 0 (1000 - q.c) true ⟨fun _ => C3.out, fun _ => rfl⟩ _).mono ?_); rintro e wi ⟨rfl, rfl⟩))
       go_roundw
       case rel => exact ⟨i + 1, by omega, by go_num, RG2, KB⟩
       case measure => simp [intOf]; omega
      ·have C3 := Lib.hid c3
       have HZ := Lib.hid (HA.out (fun R => c3 ⟨R.b0, R.b1⟩))
       clear c1 c2 c3
       go_wp2_with (first
        | (go_at_call 59; (with_reducible refine (rin_any q.c 1 1000 true ⟨fun _ => C1.out, fun _ => rfl⟩ _).mono ?_); rintro e wi ⟨rfl, rfl⟩)
        | (go_at_call 59; (with_reducible refine (rin_any q.a 0 (1000 - q.c) true ⟨fun _ => C2.out, fun _ => rfl⟩ _).mono ?_); rintro e wi ⟨rfl, rfl⟩)
        | (go_at_call 59; (with_reducible refine (rin_any q.b 0 (1000 - q.c) false ⟨fun h => Bool.noConfusion h, fun h => absurd h C3.out⟩ _).mono ?_); rintro e wi ⟨rfl, rfl⟩))
       go_ret
       exact ⟨by rw [HZ.out]; rfl, KB.out⟩
     ·have C2 := Lib.hid c2
      have HZ := Lib.hid (HA.out (fun R => c2 ⟨R.a0, R.a1⟩))
      clear c1 c2
      go_wp2_with (first
       | (go_at_call 59; (with_reducible refine (rin_any q.c 1 1000 true ⟨fun _ => C1.out, fun _ => rfl⟩ _).mono ?_); rintro e wi ⟨rfl, rfl⟩)
       | (go_at_call 59; (with_reducible refine (rin_any q.a 0 (1000 - q.c) false ⟨fun h => Bool.noConfusion h, fun h => absurd h C2.out⟩ _).mono ?_); rintro e wi ⟨rfl, rfl⟩))
      go_ret
      exact ⟨by rw [HZ.out]; rfl, KB.out⟩
    ·have C1 := Lib.hid c1
     have HZ := Lib.hid (HA.out (fun R => c1 ⟨R.c0, R.c1⟩))
     clear c1
     go_wp2_with (first
      | (go_at_call 59; (with_reducible refine (rin_any q.c 1 1000 false ⟨fun h => Bool.noConfusion h, fun h => absurd h C1.out⟩ _).mono ?_); rintro e wi ⟨rfl, rfl⟩))
     go_ret
     exact ⟨by rw [HZ.out]; rfl, KB.out⟩
   ·obtain rfl : i = n := by omega
    have e1 : decide ((i : Int) < (i : Int)) = false := by simp
    have hrg := RG.out
    have hend := HEND.out hrg
    by_cases h0 : i = 0
    ·have HZ : Hid (z = 2) := Lib.hid (by
      rcases hend with ⟨hC, _⟩ | ⟨_, rfl⟩
      ·have := hC.pos; have := HN.out; omega
      ·rfl)
     subst h0
     clear hend hrg
     go_wp2
     go_ret
     exact ⟨by rw [HZ.out]; rfl, KB.out⟩
    ·have f1 : ((i : Int) == 0) = false := by rw [beq_eq_false_iff_ne]; omega
     have f2 : (i == 0) = false := by rw [beq_eq_false_iff_ne]; exact h0
     have hV2 := HV.out.mono KB.out (Nat.le_refl _)
     have hrgS : ∀ i', i' < S.length → RgT (S.getD i' default) := by rw [← HN.out]; exact hrg
     rcases hend with ⟨hC, rfl⟩ | ⟨hC, rfl⟩
     ·have hcv := rcovers_any _ S true wr hV2 (by rw [← HN.out]; exact hn24) hrgS ⟨fun _ => ⟨hC.ap, hC.ar⟩, fun _ => rfl⟩
      have HCV := Lib.hid hcv
      clear hC hrg hrgS hcv hV2
      go_wp2_with (go_at_call 60; (with_reducible refine HCV.out.mono ?_); rintro e wy ⟨rfl, hb⟩; have KB := Lib.hid (KB.out.trans (hb.mono KB.out.size)); clear hb)
      go_ret
      exact ⟨rfl, KB.out⟩
     ·have hcv := rcovers_any _ S false wr hV2 (by rw [← HN.out]; exact hn24) hrgS ⟨fun h => Bool.noConfusion h, fun h => absurd ⟨by have := HN.out; omega, by rw [← HN.out]; exact hn24, hrgS, h.1, h.2⟩ hC⟩
      have HCV := Lib.hid hcv
      clear hC hrg hrgS hcv hV2
      go_wp2_with (go_at_call 60; (with_reducible refine HCV.out.mono ?_); rintro e wy ⟨rfl, hb⟩; have KB := Lib.hid (KB.out.trans (hb.mono KB.out.size)); clear hb)
      go_ret
      exact ⟨rfl, KB.out⟩
end Go.Proofs.YtolkchkedieppaaGreat

/- few of the laws of hide: a slice of squares, cut and copied. -/
namespace Go.Proofs.YtolkchkedieppaaGreat
open Go.RowKit
attribute [local go_sem ↓] Go.wp_at_zero Go.wp_at_succ
theorem trR_newsO {w : World} {g o : Nat} {P : List Tr} (h : TrR w g o P) : ∀ j u, (trL P)[j]? = some u → w.cell? ⟨g, o + j, none⟩ = some u := fun j u hj => by
 have hl : j < P.length * 3 := by
  have := (List.getElem?_eq_some_iff.1 hj).1
  rw [trL_len] at this; exact this
 rw [trL_get P j hl] at hj
 have h3 : j % 3 < 3 := Nat.mod_lt _ (by omega)
 have hd : j / 3 < P.length := by omega
 rcases (show j % 3 = 0 ∨ j % 3 = 1 ∨ j % 3 = 2 by omega) with e | e | e <;> rw [e] at hj
 ·have := h.c0 (j / 3) hd
  rw [show o + j / 3 * 3 = o + j by omega] at this
  rw [this]; exact hj
 ·have := h.c1 (j / 3) hd
  rw [show o + j / 3 * 3 + 1 = o + j by omega] at this
  rw [this]; exact hj
 ·have := h.c2 (j / 3) hd
  rw [show o + j / 3 * 3 + 2 = o + j by omega] at this
  rw [this]; exact hj
/-- how many squares few takes -/
def fewK (n most : Nat) : Nat := if 24 < n then 25 else min n most
theorem fewK_le (n most : Nat) : fewK n most ≤ n := by unfold fewK; split <;> omega
set_option maxHeartbeats 2000000 in
set_option maxRecDepth 100000 in
theorem few_any (v : Value) (S : List Tr) (most : Nat) (w : World) (hv : SqA w v S) (hm : most ≤ 24) :
  Calls Tryz.prog 19 #[v, .int .i64 (most : Nat)] w fun e w' => ∃ va vk, e = .returned (.slice va (fewK S.length most) vk) ∧ Hid (w'.ownsRow w.heap.size 47 3 (.slice va (fewK S.length most) vk) (fewK S.length most) (trL (S.take (fewK S.length most)))) ∧ Below w.heap.size w w' := by
 obtain ⟨a, c, rfl, hc, hcm, han, hs⟩ := hv.ex
 obtain ⟨i0, hinf, hz0, hz1, hz2⟩ := info_parts infoSq
 clear hv
 have hk := fewK_le S.length most
 have hk25 : fewK S.length most ≤ 25 := by unfold fewK; split <;> omega
 have hk1 : 24 < S.length → fewK S.length most = 25 := fun e => by unfold fewK; rw [if_pos e]
 have hk2 : ¬ 24 < S.length → fewK S.length most = min S.length most := fun e => by unfold fewK; rw [if_neg e]
 have HLN := Lib.hid (show (trL (S.take (fewK S.length most))).length = fewK S.length most * 3 by rw [trL_len, List.length_take, Nat.min_eq_left hk])
 obtain ⟨n, hn⟩ : ∃ n, n = S.length := ⟨_, rfl⟩
 rw [← hn] at hc hs hk hk25 hk1 hk2 HLN ⊢
 obtain ⟨k, hkk⟩ : ∃ k, k = fewK n most := ⟨_, rfl⟩
 rw [← hkk] at hk hk25 hk1 hk2 HLN ⊢
 have hsz := sliced_zero
 have hkc : k ≤ c := by omega
 have hkn : k ≤ n := hk
 have HNW : Hid (∀ wx, Below w.heap.size w wx → ∀ g o, a = some ⟨g, o, none⟩ → 0 < n → ∀ j u, (trL (S.take k))[j]? = some u → wx.cell? ((⟨g, o, none⟩ : Addr).add j) = some u) := Lib.hid (fun wx hb g o ha h0 j u hj => by
  obtain ⟨g', o', ha', hT, hg⟩ := hs h0
  rw [ha] at ha'
  injection ha' with e
  injection e with e1 e2
  subst e1; subst e2
  have hT2 := hT.below hb hg
  have h3 := trL_take hj
  have hj3 := (List.getElem?_eq_some_iff.1 h3).1
  rw [trL_len, ← hn] at hj3
  rw [add_at]
  exact trR_newsO hT2 j u h3)
 have KW := Lib.hid ((Below.refl w.heap.size w).alloc (Nat.le_refl _) (.cells #[] 47))
 have OW : Hid ((w.alloc (.cells #[] 47)).ownsRow w.heap.size 47 3 (.slice (some ⟨w.heap.size, 0, none⟩) 0 0) 0 []) := Lib.hid (World.ownsRow_made w #[] 0 (Nat.le_refl _) (by unfold maxLen; omega) rfl)
 have FIN : Hid (∀ (w3 : World) (v' : Value), w3.ownsRow w.heap.size 47 3 v' (0 + k) ([] ++ trL (S.take k)) → ∃ va vk, v' = .slice va k vk ∧ Hid (w3.ownsRow w.heap.size 47 3 (.slice va k vk) k (trL (S.take k)))) := Lib.hid (fun w3 v' ho => by
  rw [Nat.zero_add, List.nil_append] at ho
  obtain ⟨va, vk, rfl⟩ := own_shape ho
  exact ⟨va, vk, rfl, Lib.hid ho⟩)
 clear hkk hn
 go_enter Tryz.func19, Tryz.ntmps19
 go_upto_if 7 with (fail)
 go_cut [1] (fun v1 wx => ∃ m : Nat, m ≤ 25 ∧ v1 = .int .i64 (m : Nat) ∧ k = min n m ∧ wx = w)
 case first =>
  by_cases h : 24 < n
  ·have d1 : decide ((24 : Int) < (n : Int)) = true := by simp; omega
   have d1n : decide (24 < n) = true := by simpa using h
   have e1 := hk1 h
   clear hk1 hk2
   go_wp2
   go_meet
   case rel => exact ⟨25, by omega, rfl, by omega, rfl⟩
  ·have d1 : decide ((24 : Int) < (n : Int)) = false := by simp; omega
   have d1n : decide (24 < n) = false := by simpa using h
   have e1 := hk2 h
   clear hk1 hk2
   go_wp2
   go_meet
   case rel => exact ⟨most, by omega, rfl, e1, rfl⟩
 case rest =>
 obtain ⟨m, hm25, rfl, hkm, rfl⟩ := hcut
 clear hk1 hk2
 have hkc2 : (n ≤ m ∧ k = n) ∨ (m < n ∧ k = m) := by
  by_cases h : n ≤ m
  ·exact .inl ⟨h, by rw [hkm, Nat.min_eq_left h]⟩
  ·exact .inr ⟨Nat.lt_of_not_le h, by rw [hkm, Nat.min_eq_right (Nat.le_of_lt (Nat.lt_of_not_le h))]⟩
 clear hkm
 have hmi2 : (if (m : Int) < (n : Int) then (m : Int) else (n : Int)) = (k : Int) := by
  rcases hkc2 with ⟨h1, h2⟩ | ⟨h1, h2⟩
  ·rw [if_neg (by omega), h2]
  ·rw [if_pos (by omega), h2]
 have hmin : min (n : Int) (m : Int) = (k : Int) := by
  rcases hkc2 with ⟨h1, h2⟩ | ⟨h1, h2⟩
  ·rw [Int.min_eq_left (Int.ofNat_le.2 h1), h2]
  ·rw [Int.min_eq_right (Int.ofNat_le.2 (Nat.le_of_lt h1)), h2]
 clear hkc2
 rcases a with _ | ad
 ·have h0 : c = 0 := han rfl
  subst h0
  obtain rfl : n = 0 := by omega
  obtain rfl : k = 0 := by omega
  go_wp2_with (at_builtin; refine wpList_append_own_none rfl (.tmp 8) (.tmp 14) 23 rfl wc.heap.size 47 i0 3 Tryz.underlying23 hinf (.slice (some ⟨wc.heap.size, 0, none⟩) 0 0) 0 [] rfl OW.out rfl ?_)
  go_ret
  exact ⟨_, _, rfl, Lib.hid OW.out, KW.out⟩
 ·by_cases h0 : 0 < n
  ·obtain ⟨g, o, ha, _, _⟩ := hs h0
   injection ha with ha
   subst ha
   have HN2 := Lib.hid (HNW.out _ KW.out g o rfl h0)
   clear hs HNW
   go_wp2_with (at_builtin; refine wpList_append_own _ rfl (.tmp 8) (.tmp 14) 23 rfl wc.heap.size 47 i0 _ 3 24 Tryz.underlying23 hinf hz0 hz1 hz2 rfl (by decide) (.slice (some ⟨wc.heap.size, 0, none⟩) 0 0) 0 [] rfl OW.out ⟨g, o, none⟩ k c (trL (S.take k)) rfl HLN.out HN2.out (trL_one _) (by unfold maxLen; omega) (by omega) (by simp) ?_; intro v' w3 hown hgrow _; have KW := Lib.hid (KW.out.grown hgrow (by simp) (fun kk e => by cases e; exact Nat.le_refl _)); have HF := Lib.hid (FIN.out _ _ hown); clear hown hgrow)
   go_ret
   obtain ⟨va, vk, rfl, ho⟩ := HF.out
   first | exact ⟨va, vk, rfl, ho, KW.out⟩ | exact ⟨⟨va, vk, rfl, ho⟩, KW.out⟩
  ·obtain rfl : n = 0 := by omega
   obtain rfl : k = 0 := by omega
   have HT0 : Hid (trL (S.take 0) = []) := Lib.hid rfl
   go_wp2_with (at_builtin; refine wpList_append_own _ rfl (.tmp 8) (.tmp 14) 23 rfl wc.heap.size 47 i0 _ 3 24 Tryz.underlying23 hinf hz0 hz1 hz2 rfl (by decide) (.slice (some ⟨wc.heap.size, 0, none⟩) 0 0) 0 [] rfl OW.out ad 0 c [] rfl rfl (fun j u h => by simp at h) (fun u h => by simp at h) (by unfold maxLen; omega) (by omega) (by simp) ?_; intro v' w3 hown hgrow _; have KW := Lib.hid (KW.out.grown hgrow (by simp) (fun kk e => by cases e; exact Nat.le_refl _)); have HF := Lib.hid (FIN.out _ _ hown); clear hown hgrow)
   go_ret
   obtain ⟨va, vk, rfl, ho⟩ := HF.out
   first | exact ⟨va, vk, rfl, ho, KW.out⟩ | exact ⟨⟨va, vk, rfl, ho⟩, KW.out⟩
end Go.Proofs.YtolkchkedieppaaGreat
