/- Net of the reference: why a network is not valid. -/
import Derived.Test.YtolkchkedieppaaGreatZTakes
import Derived.Test.YtolkchkedieppaaGreatZRWk
import Derived.Test.YtolkchkedieppaaGreatZPlainKi
import Derived.Test.YtolkchkedieppaaGreatZPlainR
import Derived.Test.YtolkchkedieppaaGreatZCurG
import Derived.Test.YtolkchkedieppaaGreatZQVa
import Derived.Deep.RegionHeld3
set_option linter.unusedVariables false
set_option linter.unusedSimpArgs false
namespace Go.Proofs.YtolkchkedieppaaGreat
open Go.RowKit
attribute [local go_sem ↓] Go.wp_at_zero Go.wp_at_succ
theorem infoQq : (Tryz.prog.info? 59).map (fun i => (i.zero, i.size, i.bytes)) = some (some (.agg #[.bool false, .slice none 0 0, .bool false, .slice none 0 0]), 4, 64) := by kernel_rfl
theorem mkQq (n : Nat) (hn : n ≤ 1000) (W : World) : (Instr.makeSlice 126 (.int .i64 (n : Int)) (.int .i64 (n : Int))).run Tryz.prog W = .ok (.slice (some ⟨W.heap.size, 0, none⟩) n n) (W.alloc (.cells (madeCells zR (n * 4)) 59)) := by
 obtain ⟨i0, hi, hz0, hz1, hz2⟩ := info_parts infoQq
 have h := run_make (P := Tryz.prog) W 126 59 i0 _ Tryz.underlying126 hi hz0 .i64 .i64 n n (by omega) (by omega) (by rw [hz2]; omega) (by omega)
 have e : (Value.agg #[.bool false, .slice none 0 0, .bool false, .slice none 0 0]).cells = zR := by kernel_rfl
 rw [h, hz1, e, Int.toNat_natCast]
/-- currents that are all 0 -/
theorem QCur.made (w : World) (m : Nat) : QCur (w.alloc (.cells (madeCells zR (m * 4)) 59)) (.slice (some ⟨w.heap.size, 0, none⟩) m m) m (fun _ => 0) := by
 have h : (w.alloc (.cells (madeCells zR (m * 4)) 59)).rowIs w.heap.size 59 (m * 4) (repR zero4 0) :=
  ⟨madeCells zR (m * 4), by unfold World.alloc; simp, size_madeCells _ _, fun i hi => by rw [made_zero4 _ _ hi]; unfold repR; rw [if_neg (by omega)]⟩
 have e : ∀ j r, r < 4 → j < m → repR zero4 0 (j * 4 + r) = pat4 (.bool false) (.slice none 0 0) (.bool false) (.slice none 0 0) r := fun j r hr hj => by
  unfold repR; rw [if_neg (by omega)]; unfold zero4 pat4; rw [show (j * 4 + r) % 4 = r % 4 by omega]
 refine ⟨_, _, rfl, fun _ => ⟨_, rfl, h.lt, fun j hj => ⟨false, none, 0, 0, false, none, 0, 0, ⟨?_, ?_, ?_, ?_, h.lt⟩, .inl ⟨rfl, rfl⟩⟩⟩⟩
 ·rw [h.cell (i := j * 4) (by omega)]; congr 1; exact e j 0 (by omega) hj
 ·rw [h.cell (i := j * 4 + 1) (by omega)]; congr 1; exact e j 1 (by omega) hj
 ·rw [h.cell (i := j * 4 + 2) (by omega)]; congr 1; exact e j 2 (by omega) hj
 ·rw [h.cell (i := j * 4 + 3) (by omega)]; congr 1; exact e j 3 (by omega) hj
theorem cntC_all {f : Nat → Bool} : ∀ n, (∀ i, i < n → f i = true) → cntC f n = n
 | 0, _ => rfl
 | n + 1, h => by simp only [cntC, cntC_all n (fun i hi => h i (by omega)), h n (by omega), if_true]
theorem cntC_full {f : Nat → Bool} : ∀ n, cntC f n = n → ∀ i, i < n → f i = true
 | 0, _, i, hi => by omega
 | n + 1, h, i, hi => by
  simp only [cntC] at h
  have h1 := cntC_le f n
  by_cases e : f n = true
  ·rw [if_pos e] at h
   by_cases q : i = n
   ·rw [q]; exact e
   ·exact cntC_full n (by omega) i (by omega)
  ·rw [if_neg e] at h; omega
/-- what Net answers -/
def NetAns (n : Int) (W : List (Int × Int)) (er : Int) : Prop := ((∃ N, NetOK n W N) ∧ er = 0) ∨ NetBad n W er
theorem NetAns.long {n er : Int} {W : List (Int × Int)} (h : NetAns n W er) (hl : 24 < W.length) : er = 3 := by
 rcases h with ⟨⟨N, h⟩, _⟩ | ⟨_, h⟩ | ⟨h, _⟩
 ·have := h.l; omega
 ·exact h
 ·omega
theorem NetAns.no {n er : Int} {W : List (Int × Int)} (h : NetAns n W er) (hl : W.length ≤ 24) (hn : ∀ N, ¬ NetOK n W N) : er = 1 := by
 rcases h with ⟨⟨N, h⟩, _⟩ | ⟨h, _⟩ | ⟨_, h, _⟩
 ·exact absurd h (hn N)
 ·omega
 ·exact h
theorem NetAns.yes {n er : Int} {W : List (Int × Int)} {N : Nat} (h : NetAns n W er) (hn : NetOK n W N) : er = 0 := by
 rcases h with ⟨_, h⟩ | ⟨h, _⟩ | ⟨_, _, h⟩
 ·exact h
 ·have := hn.l; omega
 ·exact absurd hn (h N)
theorem nd_zero1 : nd ((0 : Rat)).num.natAbs ≤ 1000 ∧ nd ((0 : Rat)).den ≤ 1000 := by
 constructor
 ·show nd 0 ≤ 1000; rw [nd_zero]; decide
 ·show nd 1 ≤ 1000; exact Nat.le_trans ((nd_le 1 1).2 (by decide)) (by decide)
set_option maxHeartbeats 8000000 in
set_option maxRecDepth 100000 in
theorem net_any (v : Value) (W : List (Int × Int)) (n er : Int) (w : World) (hv : PrV w v W) (he : NetAns n W er) :
  Calls Tryz.prog 27 #[.int .i64 n, v] w fun e w' => e = .returned (.int .i64 er) ∧ Below w.heap.size w w' := by
 have HV := Lib.hid hv
 obtain ⟨va, vk, rfl, hp⟩ := hv.ex
 have HP := Lib.hid hp
 have HE := Lib.hid he
 have KB0 := Lib.hid (Below.refl w.heap.size w)
 clear hp hv he
 by_cases hl : 24 < W.length
 ·have d1 : decide ((24 : Int) < ((W.length : Nat) : Int)) = true := by simp; omega
  have d1n : decide (24 < W.length) = true := by simp; omega
  obtain rfl := HE.out.long hl
  go_enter Tryz.func27, Tryz.ntmps27
  go_wp2
  go_ret
  exact ⟨rfl, KB0.out⟩
 ·have d1 : decide ((24 : Int) < ((W.length : Nat) : Int)) = false := by simp; omega
  have d1n : decide (24 < W.length) = false := by simp; omega
  have hl : W.length ≤ 24 := by omega
  by_cases hn : 2 ≤ n ∧ n ≤ 25
  ·obtain ⟨N, rfl⟩ := Int.eq_ofNat_of_zero_le (show 0 ≤ n by omega)
   have hin := fun w => rin_any (N : Int) 2 25 true ⟨fun _ => hn, fun _ => rfl⟩ w
   have hN2 : 2 ≤ N := by omega
   have hN25 : N ≤ 25 := by omega
   clear hn
   rcases Nat.eq_zero_or_pos W.length with h0 | h0
   ·have d2 : (((W.length : Nat) : Int) == 0) = true := by rw [h0]; rfl
    have d2n : (W.length == 0) = true := by rw [h0]; rfl
    obtain rfl := HE.out.no hl (fun N h => by have := h.pos; omega)
    clear h0
    go_enter Tryz.func27, Tryz.ntmps27
    go_wp2_with (go_at_call 59; (with_reducible refine (hin _).mono ?_); rintro e wi ⟨rfl, rfl⟩)
    go_ret
    exact ⟨rfl, KB0.out⟩
   ·have d2 : (((W.length : Nat) : Int) == 0) = false := by rw [beq_eq_false_iff_ne]; omega
    have d2n : (W.length == 0) = false := by rw [beq_eq_false_iff_ne]; omega
    obtain ⟨g0, rfl, hp2, hg0⟩ := HP.out h0
    have HPP := Lib.hid hp2
    have HG0 := Lib.hid hg0
    have hwN : IntKind.i64.wrap ((N : Int) - 1) = (N : Int) - 1 := by rw [IntKind.wrap_i64]; omega
    have hmk := mkQq W.length (by omega)
    clear hp2 hg0
    go_enter Tryz.func27, Tryz.ntmps27
    go_wp2_with (go_at_call 59; (with_reducible refine (hin _).mono ?_); rintro e wi ⟨rfl, rfl⟩)
    go_loopw [5] (fun v5 wr => ∃ i : Nat, i ≤ W.length ∧ v5 = .int .i64 (i : Nat) ∧ Hid (∀ j, j < i → WirOK N (W.getD j (0, 0))) ∧ Hid (Below w.heap.size w wr)) (fun v5 _ => W.length - (intOf v5).toNat)
    case atStart => exact ⟨0, by omega, rfl, Lib.hid (fun j hj => by omega), KB0⟩
    case round =>
     clear KB0 hin d1 d1n d2 d2n
     obtain ⟨i, hi, rfl, HJ, KB⟩ := hrel
     by_cases h : i < W.length
     ·have e1 : decide ((i : Int) < ((W.length : Nat) : Int)) = true := by simpa using h
      have e1n : decide (i < W.length) = true := by simpa using h
      have ix := fun X => ixPr g0 W.length vk i h X
      have HWR := Lib.hid (HPP.out.below KB.out HG0.out)
      have x0 := HWR.out.c0 i h
      have x1 := HWR.out.c1 i h
      simp only [Nat.zero_add] at x0 x1
      obtain ⟨a, hA⟩ : ∃ a, a = (W.getD i (0, 0)).1 := ⟨_, rfl⟩
      obtain ⟨b, hB⟩ : ∃ b, b = (W.getD i (0, 0)).2 := ⟨_, rfl⟩
      have HWD : Hid (WirOK N (W.getD i (0, 0)) ↔ WirOK N (a, b)) := Lib.hid (by rw [hA, hB])
      have HBD : Hid (¬ WirOK N (a, b) → er = 1) := Lib.hid (fun hno => HE.out.no hl (fun M hM => wir_no h (fun q => hno (HWD.out.1 q)) (by have e : N = M := (by have := hM.e; omega); subst e; exact ⟨hM.ok, hM.ne⟩)))
      rw [← hA] at x0
      rw [← hB] at x1
      have HXC : Hid (wr.drew.cell? ⟨g0, i * 2, none⟩ = some (.int .i64 a) ∧ wr.drew.cell? ⟨g0, i * 2 + 1, none⟩ = some (.int .i64 b)) := Lib.hid ⟨x0, x1⟩
      have KD := Lib.hid KB.out.drew
      clear hA hB HWR x0 x1
      by_cases q1 : 0 ≤ a ∧ a ≤ (N : Int) - 1
      ·have Q1 := Lib.hid q1
       by_cases q2 : 0 ≤ b ∧ b ≤ (N : Int) - 1
       ·have Q2 := Lib.hid q2
        by_cases q3 : a = b
        ·have f3 : (a == b) = true := by simpa using q3
         obtain rfl := HBD.out (fun k => k.2.2.2.2 q3)
         clear q1 q2 q3
         go_wp2
         go_region_held3 (fun w' => w'.cell? ⟨g0, i * 2, none⟩ = some (.int .i64 a) ∧ w'.cell? ⟨g0, i * 2 + 1, none⟩ = some (.int .i64 b)) (first | (with_reducible exact HXC.out))
          (first
          | (go_at_call 59; (with_reducible refine (rin_any a 0 ((N : Int) - 1) true ⟨fun _ => Q1.out, fun _ => rfl⟩ _).mono ?_); rintro e wi ⟨rfl, rfl⟩)
          | (go_at_call 59; (with_reducible refine (rin_any b 0 ((N : Int) - 1) true ⟨fun _ => Q2.out, fun _ => rfl⟩ _).mono ?_); rintro e wi ⟨rfl, rfl⟩))
         all_goals
          go_wp2
          go_ret
          exact ⟨rfl, KD.out⟩
        ·have f3 : (a == b) = false := by simpa using q3
         have HJ2 : Hid (∀ j, j < i + 1 → WirOK N (W.getD j (0, 0))) := Lib.hid (fun j hj => by
          by_cases e : j = i
          ·rw [e]; exact HWD.out.2 ⟨q1.1, by show a < (N : Int); omega, q2.1, by show b < (N : Int); omega, q3⟩
          ·exact HJ.out j (by omega))
         clear q1 q2 q3
         go_wp2
         go_region_held3 (fun w' => w'.cell? ⟨g0, i * 2, none⟩ = some (.int .i64 a) ∧ w'.cell? ⟨g0, i * 2 + 1, none⟩ = some (.int .i64 b)) (first | (with_reducible exact HXC.out))
          (first
          | (go_at_call 59; (with_reducible refine (rin_any a 0 ((N : Int) - 1) true ⟨fun _ => Q1.out, fun _ => rfl⟩ _).mono ?_); rintro e wi ⟨rfl, rfl⟩)
          | (go_at_call 59; (with_reducible refine (rin_any b 0 ((N : Int) - 1) true ⟨fun _ => Q2.out, fun _ => rfl⟩ _).mono ?_); rintro e wi ⟨rfl, rfl⟩))
         all_goals
          go_wp2
          go_roundw
          case rel => exact ⟨i + 1, by omega, by go_num, HJ2, KD⟩
          case measure => simp [intOf]; omega
       ·have Q2 := Lib.hid q2
        obtain rfl := HBD.out (fun k => q2 ⟨k.2.2.1, by have := k.2.2.2.1; simp only at this; omega⟩)
        clear q1 q2
        go_wp2
        refine wp_region_held_drew (S := fun w' => w'.cell? ⟨g0, i * 2, none⟩ = some (.int .i64 a) ∧ w'.cell? ⟨g0, i * 2 + 1, none⟩ = some (.int .i64 b)) (by kernel_rfl) (HXC.out) (fun hHeld => ?_)
        refine wtk_begin [0, 1, 2, 3, 4, 5, 6] ?_
        iterate 7 (refine wtk (v := ?_) rfl (by kernel_rfl) (fun _ _ _ h => h) (by kernel_rfl) ?_ (by assumption) ?_; rotate_left; (focus intro w0 hSw; (try dsimp only at hSw); go_simp; all_goals (with_reducible rfl)); simp only [Act.put, List.setIfInBounds_toArray, List.set_cons_zero, List.set_cons_succ])
        refine wtk_end ?_
        refine wpAnyH_ready (rs := [7]) (by kernel_rfl) (by simp) ?_
        refine AllReadyH.cons rfl (fun Kn hKn => ?_) AllReadyH.nil
        go_simp
        (go_at_call 59; (with_reducible refine (rin_any a 0 ((N : Int) - 1) true ⟨fun _ => Q1.out, fun _ => rfl⟩ _).mono ?_); rintro e wi ⟨rfl, rfl⟩)
        go_wp2_with fail
        refine hKn.out _ _ ?_ (fun hHeld => ?_)
        ·(try dsimp only); exact HXC.out
        clear hKn Kn
        (try simp only [Act.put, List.setIfInBounds_toArray, List.set_cons_zero, List.set_cons_succ])
        refine wtk_begin [8, 9, 10, 11, 12, 13, 14, 15, 16] ?_
        iterate 9 (refine wtk (v := ?_) rfl (by kernel_rfl) (fun _ _ _ h => h) (by kernel_rfl) ?_ (by assumption) ?_; rotate_left; (focus intro w0 hSw; (try dsimp only at hSw); go_simp; all_goals (with_reducible rfl)); simp only [Act.put, List.setIfInBounds_toArray, List.set_cons_zero, List.set_cons_succ])
        refine wtk_end ?_
        refine wpAnyH_ready (rs := [17]) (by kernel_rfl) (by simp) ?_
        refine AllReadyH.cons rfl (fun Kn hKn => ?_) AllReadyH.nil
        go_simp
        (go_at_call 59; (with_reducible refine (rin_any b 0 ((N : Int) - 1) false ⟨fun h => Bool.noConfusion h, fun h => absurd h Q2.out⟩ _).mono ?_); rintro e wi ⟨rfl, rfl⟩)
        go_wp2_with fail
        refine hKn.out _ _ ?_ (fun hHeld => ?_)
        ·(try dsimp only); exact HXC.out
        clear hKn Kn
        (try simp only [Act.put, List.setIfInBounds_toArray, List.set_cons_zero, List.set_cons_succ])
        refine wtk_begin [18, 19, 20] ?_
        iterate 3 (refine wtk (v := ?_) rfl (by kernel_rfl) (fun _ _ _ h => h) (by kernel_rfl) ?_ (by assumption) ?_; rotate_left; (focus intro w0 hSw; (try dsimp only at hSw); go_simp; all_goals (with_reducible rfl)); simp only [Act.put, List.setIfInBounds_toArray, List.set_cons_zero, List.set_cons_succ])
        refine wtk_end ?_
        refine wtk_begin [21, 22, 23, 24, 25, 26, 27, 28, 29, 30, 31] ?_
        iterate 11 (refine wtk_un rfl (by kernel_rfl) (fun _ _ _ h => h) (by kernel_rfl) (by assumption) ?_; simp only [List.getElem_toArray, List.getElem_cons_succ, List.getElem_cons_zero, Act.put, List.setIfInBounds_toArray, List.set_cons_zero, List.set_cons_succ])
        refine wtk_end ?_
        refine wtk_begin [32] ?_
        (refine wtk (v := ?_) rfl (by kernel_rfl) (fun _ _ _ h => h) (by kernel_rfl) ?_ (by assumption) ?_; rotate_left; (focus intro w0 hSw; (try dsimp only at hSw); go_simp; all_goals (with_reducible rfl)); simp only [Act.put, List.setIfInBounds_toArray, List.set_cons_zero, List.set_cons_succ])
        refine wtk_end ?_
        refine wpAnyH_done (by kernel_rfl) ?_ _
        (try simp only [List.getElem_toArray, List.getElem_cons_succ, List.getElem_cons_zero, Act.put, List.setIfInBounds_toArray, List.set_cons_zero, List.set_cons_succ])
        go_wp2
        go_ret
        exact ⟨rfl, KD.out⟩
      ·have Q1 := Lib.hid q1
       obtain rfl := HBD.out (fun k => q1 ⟨k.1, by have := k.2.1; simp only at this; omega⟩)
       clear q1
       go_wp2
       refine wp_region_held_drew (S := fun w' => w'.cell? ⟨g0, i * 2, none⟩ = some (.int .i64 a) ∧ w'.cell? ⟨g0, i * 2 + 1, none⟩ = some (.int .i64 b)) (by kernel_rfl) (HXC.out) (fun hHeld => ?_)
       refine wtk_begin [0, 1, 2, 3, 4, 5, 6] ?_
       iterate 7 (refine wtk (v := ?_) rfl (by kernel_rfl) (fun _ _ _ h => h) (by kernel_rfl) ?_ (by assumption) ?_; rotate_left; (focus intro w0 hSw; (try dsimp only at hSw); go_simp; all_goals (with_reducible rfl)); simp only [Act.put, List.setIfInBounds_toArray, List.set_cons_zero, List.set_cons_succ])
       refine wtk_end ?_
       refine wpAnyH_ready (rs := [7]) (by kernel_rfl) (by simp) ?_
       refine AllReadyH.cons rfl (fun Kn hKn => ?_) AllReadyH.nil
       go_simp
       (go_at_call 59; (with_reducible refine (rin_any a 0 ((N : Int) - 1) false ⟨fun h => Bool.noConfusion h, fun h => absurd h Q1.out⟩ _).mono ?_); rintro e wi ⟨rfl, rfl⟩)
       go_wp2_with fail
       refine hKn.out _ _ ?_ (fun hHeld => ?_)
       ·(try dsimp only); exact HXC.out
       clear hKn Kn
       (try simp only [Act.put, List.setIfInBounds_toArray, List.set_cons_zero, List.set_cons_succ])
       refine wtk_begin [8, 9] ?_
       iterate 2 (refine wtk (v := ?_) rfl (by kernel_rfl) (fun _ _ _ h => h) (by kernel_rfl) ?_ (by assumption) ?_; rotate_left; (focus intro w0 hSw; (try dsimp only at hSw); go_simp; all_goals (with_reducible rfl)); simp only [Act.put, List.setIfInBounds_toArray, List.set_cons_zero, List.set_cons_succ])
       refine wtk_end ?_
       refine wtk_begin [10, 11, 12, 13, 14, 15, 16, 17, 18] ?_
       iterate 9 (refine wtk_un rfl (by kernel_rfl) (fun _ _ _ h => h) (by kernel_rfl) (by assumption) ?_; simp only [List.getElem_toArray, List.getElem_cons_succ, List.getElem_cons_zero, Act.put, List.setIfInBounds_toArray, List.set_cons_zero, List.set_cons_succ])
       refine wtk_end ?_
       refine wtk_begin [19, 20] ?_
       iterate 2 (refine wtk (v := ?_) rfl (by kernel_rfl) (fun _ _ _ h => h) (by kernel_rfl) ?_ (by assumption) ?_; rotate_left; (focus intro w0 hSw; (try dsimp only at hSw); go_simp; all_goals (with_reducible rfl)); simp only [Act.put, List.setIfInBounds_toArray, List.set_cons_zero, List.set_cons_succ])
       refine wtk_end ?_
       refine wtk_begin [21, 22, 23, 24, 25, 26, 27, 28, 29, 30, 31] ?_
       iterate 11 (refine wtk_un rfl (by kernel_rfl) (fun _ _ _ h => h) (by kernel_rfl) (by assumption) ?_; simp only [List.getElem_toArray, List.getElem_cons_succ, List.getElem_cons_zero, Act.put, List.setIfInBounds_toArray, List.set_cons_zero, List.set_cons_succ])
       refine wtk_end ?_
       refine wtk_begin [32] ?_
       (refine wtk (v := ?_) rfl (by kernel_rfl) (fun _ _ _ h => h) (by kernel_rfl) ?_ (by assumption) ?_; rotate_left; (focus intro w0 hSw; (try dsimp only at hSw); go_simp; all_goals (with_reducible rfl)); simp only [Act.put, List.setIfInBounds_toArray, List.set_cons_zero, List.set_cons_succ])
       refine wtk_end ?_
       refine wpAnyH_done (by kernel_rfl) ?_ _
       (try simp only [List.getElem_toArray, List.getElem_cons_succ, List.getElem_cons_zero, Act.put, List.setIfInBounds_toArray, List.set_cons_zero, List.set_cons_succ])
       go_wp2
       go_ret
       exact ⟨rfl, KD.out⟩
     ·obtain rfl : i = W.length := by omega
      have e1 : decide (((W.length : Nat) : Int) < ((W.length : Nat) : Int)) = false := by simp
      obtain ⟨o1, o2⟩ := wires_of HJ.out
      have O1 := Lib.hid o1
      have O2 := Lib.hid o2
      have HVr := Lib.hid (HV.out.below KB.out)
      have AL := Lib.hid ((Below.refl wr.heap.size wr).alloc (Nat.le_refl _) (.cells (madeCells zR (W.length * 4)) 59))
      have HQC := Lib.hid (QCur.made wr W.length)
      have HVa := Lib.hid (HVr.out.below AL.out)
      have KBa := Lib.hid (KB.out.trans (AL.out.mono KB.out.size))
      have hmk2 := hmk wr
      clear o1 o2 hmk HVr AL hi h
      by_cases hcon : ConOK N W
      ·obtain rfl := HE.out.yes ⟨rfl, hl, hN2, hN25, O1.out, O2.out, hcon⟩
       have HCO := Lib.hid hcon
       have dd : decide ((N : Int) < (N : Int)) = false := by simp
       clear hcon
       go_wp2_with (go_at_call 75; go_loud ((with_reducible refine (walk_any N _ _ W (fun _ => 0) (fun _ => 0) _ HVa.out HQC.out hl (by omega) hN25 O1.out (fun k hk => by grind) rfl (fun i hi => nd_zero1)).mono ?_); rintro e w3 ⟨r, F, rfl, WK, HCL⟩; have hlen := fun ty => WK.out.m.len (ty := ty) mq_u; have KB3 := Lib.hid (KBa.out.trans (WK.out.kb.mono KBa.out.size)); have hce : cntC (keyB F) N = N := cntC_all N (fun i hi => HCL.out i (HCO.out i hi)); rw [hce] at hlen; clear hce))
       go_ret
       exact ⟨rfl, KB3.out⟩
      ·have HNC := Lib.hid hcon
       obtain rfl := HE.out.no hl (fun M hM => HNC.out (by have e : N = M := (by have := hM.e; omega); rw [e]; exact hM.con))
       clear hcon
       go_wp2_with (go_at_call 75; go_loud ((with_reducible refine (walk_any N _ _ W (fun _ => 0) (fun _ => 0) _ HVa.out HQC.out hl (by omega) hN25 O1.out (fun k hk => by grind) rfl (fun i hi => nd_zero1)).mono ?_); rintro e w3 ⟨r, F, rfl, WK, HCL⟩; have hlen := fun ty => WK.out.m.len (ty := ty) mq_u; have KB3 := Lib.hid (KBa.out.trans (WK.out.kb.mono KBa.out.size)); have hce : ∃ c, c = cntC (keyB F) N ∧ c < N := ⟨_, rfl, Nat.lt_of_le_of_ne (cntC_le _ _) (fun e => HNC.out (fun i hi => by have hk := cntC_full N e i hi; exact WK.out.rea hk.symm))⟩; obtain ⟨c, hc1, hc2⟩ := hce; rw [← hc1] at hlen; clear hc1; have dd : decide ((c : Int) < (N : Int)) = true := (by simpa using hc2); have ddn : decide (c < N) = true := (by simpa using hc2)))
       go_ret
       exact ⟨rfl, KB3.out⟩
  ·have hin := fun w => rin_any n 2 25 false ⟨fun h => Bool.noConfusion h, fun h => absurd h hn⟩ w
   obtain rfl := HE.out.no hl (fun N h => hn (by have := h.e; have := h.n2; have := h.n25; omega))
   clear hn
   go_enter Tryz.func27, Tryz.ntmps27
   go_wp2_with (go_at_call 59; (with_reducible refine (hin _).mono ?_); rintro e wi ⟨rfl, rfl⟩)
   go_ret
   exact ⟨rfl, KB0.out⟩
end Go.Proofs.YtolkchkedieppaaGreat

/- Integer of the reference at a whole number's text. -/
namespace Go.Proofs.YtolkchkedieppaaGreat
open Go.RowKit
attribute [local go_sem ↓] Go.wp_at_zero Go.wp_at_succ
set_option maxHeartbeats 4000000 in
set_option maxRecDepth 100000 in
theorem rinteger_any (s : ByteArray) (q : Rat) (w : World) (h : TxtQ s q) (hd : q.den = 1) :
  Calls Tryz.prog 77 #[.string s] w fun e w' => e = .returned (.bool true) ∧ Below w.heap.size w w' := by
 have H := Lib.hid h
 have HD := Lib.hid hd
 clear h hd
 go_enter Tryz.func77, Tryz.ntmps77
 go_upto_region 2 with (go_at_call 126; go_loud ((with_reducible refine (parse_q s q _ H.out).mono ?_); rintro e w1 ⟨s1, a, n, c, t, b, l, k, rfl, HQ, KW⟩))
 obtain ⟨x1, y1, x2, y2, h0, g1, g2, g3⟩ := HQ.out
 injection h0 with h0
 simp only [Array.mk.injEq, List.cons.injEq, and_true] at h0
 obtain ⟨e1, e2, e3, e4⟩ := h0
 subst e2 e4
 injection e1 with e1
 injection e3 with e3
 subst e1 e3
 rw [HD.out] at g2
 have HZ := Lib.hid g2
 have AL := Lib.hid (boxes1 w1 (.cells #[.bool s1, .slice a n c, .bool t, .slice b l k] 59))
 have O := Lib.hid (own4_new w1 w1.heap.size rfl (.bool s1) (.slice a n c) (.bool t) (.slice b l k) 59)
 have KW := Lib.hid (KW.out.trans (AL.out.mono KW.out.size))
 have HZ := Lib.hid (HZ.out.mono AL.out (Nat.le_refl _))
 obtain ⟨g, hg⟩ : ∃ g, g = w1.heap.size := ⟨_, rfl⟩
 rw [← hg] at O ⊢
 generalize w1.alloc (.cells #[.bool s1, .slice a n c, .bool t, .slice b l k] 59) = w2 at *
 have HKR : Hid (∀ w', Below w2.heap.size w2 w' → w'.cell? ⟨g, 2, none⟩ = some (.bool t) ∧ w'.cell? ⟨g, 3, none⟩ = some (.slice b l k)) := Lib.hid (fun w' hb => by
  have := O.out.below hb O.out.lt
  exact ⟨this.c2, this.c3⟩)
 have K2 := Lib.hid ((Below.refl w2.heap.size w2).drew)
 clear g1 g2 g3 hg AL HQ
 go_region_held3 (fun w' => w'.cell? ⟨g, 2, none⟩ = some (.bool t) ∧ w'.cell? ⟨g, 3, none⟩ = some (.slice b l k))
  (first | (with_reducible exact HKR.out _ K2.out))
  (first
   | (go_at_call 76; (with_reducible refine (zint_any 1 (by omega) (by omega) _).mono ?_); rintro e w3 ⟨z1, rfl, hz, hb⟩; have HO := Lib.hid (hz.le (show 5 ≤ 1000 by omega)); have K2 := Lib.hid (K2.out.trans (hb.mono K2.out.size)); clear hz hb)
   | (go_at_call 86; (with_reducible refine (zcmp_any _ _ ((1 : Nat) : Int) 1 1000 _ (HZ.out.mono K2.out (Nat.le_refl _)) HO.out (by omega)).mono ?_); rintro e w4 ⟨rfl, hb⟩; rw [show sgZ (((1 : Nat) : Int) - 1) = 0 from rfl]; have K2 := Lib.hid (K2.out.trans (hb.mono K2.out.size)); clear hb))
 all_goals
  go_wp2
  go_ret
  exact ⟨rfl, KW.out.trans (K2.out.mono KW.out.size)⟩
end Go.Proofs.YtolkchkedieppaaGreat
