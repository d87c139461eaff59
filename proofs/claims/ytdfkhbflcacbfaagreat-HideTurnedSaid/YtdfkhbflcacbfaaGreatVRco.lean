/- made of the laws of hide: a cut out of bytes. -/
import Derived.Test.YtdfkhbflcacbfaaGreatVLnA
import Derived.Test.YtdfkhbflcacbfaaGreatVCod
import Derived.Test.YtdfkhbflcacbfaaGreatVNetB
import Derived.Laws.OwnMore
import Derived.Deep.DeepCutAuto
import Derived.Deep.CutBlock
import Derived.Test.YtdfkhbflcacbfaaGreatVBefA
import Derived.Test.YtdfkhbflcacbfaaGreatVLawO
import Derived.Test.YtdfkhbflcacbfaaGreatVRdB
import Derived.Deep.RegionHeld3
import Derived.BigRegion
import Derived.BigQuiet
set_option linter.unusedVariables false
set_option linter.unusedSimpArgs false
namespace Go.Proofs.YtdfkhbflcacbfaaGreat
open Go.RowKit
attribute [local go_sem ↓] Go.wp_at_zero Go.wp_at_succ
def By8 (w : World) (v : Value) (n : Nat) (g : Nat → Nat) : Prop := Sl w v n (fun i => .int .u8 (g i : Nat)) ∧ ∀ i, i < n → g i < 256
theorem by8_s : Tryz.prog.underlying 22 = some (.slice (Tryz.prog.elem 22)) := by kernel_rfl
theorem by8_z (W : World) : (sizeOf (Tryz.prog.elem 22)).run Tryz.prog W = .ok 1 W := by kernel_rfl
theorem ixB8 {w : World} {a : Option Addr} {b o c n : Nat} {g : Nat → Value} (h : IsSl w a b o c n g) (i d : Nat) (hi : i < n) (W : World) :
  (Instr.indexAt 22 (.slice a n d) (.int .i64 (i : Int))).run Tryz.prog W = .ok (.pointer (some ⟨b, o + i, none⟩)) W :=
 run_indexAt_opt 22 by8_s by8_z a b o n d (fun q => h.at_ q) .i64 i (by omega) (by omega) W
/-- what made holds -/
structure MdM (w wx : World) (vo : Value) (L : List Tr) (W H most : Nat) : Prop where
 own : wx.ownsRow w.heap.size 52 3 vo L.length (trL L)
 mkc : MkC L W H
 len : L.length ≤ most
 w40 : W ≤ 80
 h40 : H ≤ 80
 kb : Below w.heap.size w wx
theorem MdM.drawn {w wx wy : World} {vo : Value} {L : List Tr} {W H most : Nat} (h : MdM w wx vo L W H most) (hd : Drawn wx wy) : MdM w wy vo L W H most :=
 ⟨own_kept h.own (hd.below _), h.mkc, h.len, h.w40, h.h40, h.kb.trans (hd.below _)⟩
theorem oneT (x : Tr) : ∀ u ∈ trC x, u.oneCell' = true := fun u hu => by
 simp [trC] at hu
 rcases hu with rfl | rfl | rfl <;> rfl
/-- the new squares -/
def addT (z W H s k : Nat) : List Tr := if z % 2 = 1 then rowT H s k else colT W s k
theorem addT_len (z W H s k : Nat) : (addT z W H s k).length = k := by unfold addT; split <;> simp [rowT_len, colT_len]
theorem addT_zero (z W H s : Nat) : addT z W H s 0 = [] := by unfold addT; split <;> rfl
theorem addT_odd {z W H s k : Nat} (hz : z % 2 = 1) : addT z W H s (k + 1) = addT z W H s k ++ [⟨((k * s : Nat) : Int), (H : Int), (s : Int)⟩] := by unfold addT; rw [if_pos hz, if_pos hz, rowT_succ]
theorem addT_even {z W H s k : Nat} (hz : ¬ z % 2 = 1) : addT z W H s (k + 1) = addT z W H s k ++ [⟨(W : Int), ((k * s : Nat) : Int), (s : Int)⟩] := by unfold addT; rw [if_neg hz, if_neg hz, colT_succ]
theorem trL_push {L A : List Tr} {t : Tr} : trL (L ++ A) ++ trC t = trL (L ++ (A ++ [t])) := by rw [← List.append_assoc, trL_app (L ++ A)]; simp [trL]
/-- the first k squares scaled -/
def sclP (m : Nat) (L : List Tr) (k : Nat) : List Tr := L.mapIdx (fun j t => if j < k then sclT m t else t)
theorem sclP_len (m : Nat) (L : List Tr) (k : Nat) : (sclP m L k).length = L.length := by simp [sclP]
theorem sclP_get (m : Nat) (L : List Tr) (k j : Nat) (hj : j < L.length) : (sclP m L k).getD j default = if j < k then sclT m (L.getD j default) else L.getD j default := by simp [sclP, hj]
theorem sclP_zero (m : Nat) (L : List Tr) : sclP m L 0 = L := by
 apply List.ext_getElem?
 intro j
 simp [sclP]
theorem sclP_end (m : Nat) (L : List Tr) : sclP m L L.length = L.map (sclT m) := by
 apply List.ext_getElem?
 intro j
 simp only [sclP, List.getElem?_mapIdx, List.getElem?_map]
 by_cases h : j < L.length
 ·simp [h]
 ·simp [h]
theorem sclP_step (m : Nat) (L : List Tr) (k : Nat) (hk : k < L.length) : (sclP m L k).set k (sclT m (L.getD k default)) = sclP m L (k + 1) := by
 apply List.ext_getElem?
 intro j
 rw [List.getElem?_set]
 simp only [sclP, List.getElem?_mapIdx, List.length_mapIdx]
 by_cases e : k = j
 ·subst e
  rw [if_pos rfl, if_pos hk]
  simp [hk]
 ·rw [if_neg e]
  by_cases h : j < L.length
  ·simp only [List.getElem?_eq_getElem h, Option.map_some]
   by_cases q : j < k
   ·rw [if_pos q, if_pos (by omega)]
   ·rw [if_neg q, if_neg (by omega)]
  ·simp [h]
theorem trL_set3 : ∀ (P : List Tr) (k : Nat) (t : Tr), k < P.length → (((trL P).set (k * 3) (.int .i64 t.a)).set (k * 3 + 1) (.int .i64 t.b)).set (k * 3 + 2) (.int .i64 t.c) = trL (P.set k t)
 | [], k, t, h => by simp at h
 | x :: l, 0, t, _ => by simp [trL, trC]
 | x :: l, k + 1, t, h => by
  have ih := trL_set3 l k t (by simpa using h)
  simp only [trL, List.set_cons_succ]
  rw [← ih]
  have e : ∀ (j : Nat) (u : Value) (M : List Value), (trC x ++ M).set (j + 3) u = trC x ++ M.set j u := fun j u M => by
   simp [trC]
  rw [show (k + 1) * 3 = k * 3 + 3 by omega, e, show k * 3 + 3 + 1 = (k * 3 + 1) + 3 by omega, e, show k * 3 + 3 + 2 = (k * 3 + 2) + 3 by omega, e]
set_option maxHeartbeats 8000000 in
set_option maxRecDepth 100000 in
theorem madeS_any (v : Value) (n most : Nat) (g : Nat → Nat) (w : World) (hv : By8 w v n g) (hn : n ≤ 9223372036854775807) (hm1 : 1 ≤ most) (hm2 : most ≤ 24) :
  Calls Tryz.prog 4 #[v, .int .i64 (most : Nat)] w fun e w' => ∃ va vk L W H, e = .returned (.slice va L.length vk) ∧ Hid (MdM w w' (.slice va L.length vk) L W H most) := by
 obtain ⟨⟨a, b, o, c, rfl, hs⟩, hg⟩ := hv
 have HS := Lib.hid hs
 have HG := Lib.hid hg
 clear hs hg
 obtain ⟨i0, hinf, hz0, hz1, hz2⟩ := info_parts infoSq
 go_enter Tryz.func4, Tryz.ntmps4
 go_wp2
 have MD0 : Hid (MdM w (w.alloc (.cells #[.int .i64 0, .int .i64 0, .int .i64 1] 52)) (.slice (some ⟨w.heap.size, 0, none⟩) 1 1) [⟨0, 0, 1⟩] 1 1 most) := Lib.hid ⟨⟨rfl, .inr ⟨w.heap.size, 1, #[.int .i64 0, .int .i64 0, .int .i64 1], rfl, Nat.le_refl _, heap_alloc_new w _, Nat.le_refl _, by unfold maxLen; omega, rfl, rfl⟩⟩, MkC.one, hm1, by omega, by omega, boxes1 _ _⟩
 go_loopw [5, 6, 7, 8, 9, 10, 11, 12, 13] (fun v5 v6 v7 v8 v9 v10 v11 v12 v13 wr => ∃ (i W H : Nat) (L : List Tr), i ≤ n ∧ v8 = .int .i64 (i : Nat) ∧ v6 = .int .i64 (W : Nat) ∧ v7 = .int .i64 (H : Nat) ∧ Hid (MdM w wr v5 L W H most)) (fun _ _ _ v8 _ _ _ _ _ _ => n - (intOf v8).toNat)
 case atStart => exact ⟨0, 1, 1, _, by omega, rfl, rfl, rfl, MD0⟩
 case round =>
  clear MD0
  obtain ⟨i, W, H, L, hi, rfl, rfl, rfl, MD⟩ := hrel
  obtain ⟨va, vk, rfl⟩ := own_shape MD.out.own
  by_cases h : i < n
  ·have e1 : decide ((i : Int) < (n : Int)) = true := by simpa using h
   have e1n : decide (i < n) = true := by simpa using h
   have ix := fun X => ixB8 HS.out i c h X
   have hat := HS.out.at_ (by omega)
   subst hat
   have hci := (HS.out.mono MD.out.kb (Nat.le_refl _)).cell i h
   have hg := HG.out i h
   obtain ⟨z, hz⟩ : ∃ z, z = g i := ⟨_, rfl⟩
   rw [← hz] at hci hg
   have HZ := Lib.hid hz
   clear hz
   obtain ⟨m, hm⟩ : ∃ m, m = z / 2 % 3 + 1 := ⟨_, rfl⟩
   have hm3 : 1 ≤ m ∧ m ≤ 3 := by omega
   have HM := Lib.hid (show ((m : Nat) : Int) = (z : Int) / 2 % 3 + 1 by omega)
   clear hm
   go_upto_region 6 with (fail)
   go_cut [9, 10] (fun v9 v10 wx => v9 = .int .i64 (H : Nat) ∧ v10 = .int .i64 (m : Nat) ∧ Hid (Drawn wr wx))
   case first =>
    go_quiet (fail)
    go_wp2
    go_meet
    case rel => exact ⟨rfl, by rw [HM.out], Lib.hid (Drawn.of _ _)⟩
   case rest =>
   obtain ⟨rfl, rfl, HD⟩ := hcut
   have hci := ((HD.out.below wr.heap.size).cell (p := ⟨b, o + i, none⟩) (Nat.lt_of_lt_of_le (HS.out.lt (by omega)) MD.out.kb.size)).trans hci
   have MD := Lib.hid (MD.out.drawn HD.out)
   clear HD
   obtain ⟨sd, hsd⟩ : ∃ sd, sd = if z % 2 = 1 then W else H := ⟨_, rfl⟩
   have HSD := Lib.hid hsd
   go_upto_if 36 with (fail)
   go_cut [9] (fun v9 wx => v9 = .int .i64 (sd : Nat) ∧ wx = wc)
   case first =>
    by_cases hz : z % 2 = 1
    ·have q1 : (((z : Nat) : Int) % 2 == 1) = true := by simp; omega
     have q2 : (z % 2 == 1) = true := by simpa using hz
     go_wp2
     go_meet
     case rel => exact ⟨by rw [HSD.out, if_pos hz], rfl⟩
    ·have q1 : (((z : Nat) : Int) % 2 == 1) = false := by simp; omega
     have q2 : (z % 2 == 1) = false := by simpa using hz
     go_wp2
     go_meet
     case rel => exact ⟨by rw [HSD.out, if_neg hz], rfl⟩
   case rest =>
   obtain ⟨rfl, rfl⟩ := hcut
   have hWH : W ≤ 80 ∧ H ≤ 80 := ⟨MD.out.w40, MD.out.h40⟩
   have hsd1 : sd ≤ 80 ∧ 1 ≤ sd := by rw [hsd]; have := MD.out.mkc.w1; have := MD.out.mkc.h1; split <;> omega
   have hLm := MD.out.len
   clear hsd
   obtain ⟨M, hM⟩ : ∃ M, M = max W H := ⟨_, rfl⟩
   have hM1 : (if (W : Int) < (H : Int) then (H : Int) else (W : Int)) = (M : Int) := by split <;> omega
   have hM2 : max (W : Int) (H : Int) = (M : Int) := by omega
   have hM40 : M ≤ 80 := by omega
   have hMW : W ≤ M ∧ H ≤ M := by omega
   have hMm : M * m ≤ 240 := by
    have := Nat.mul_le_mul hM40 hm3.2
    omega
   obtain ⟨N, hN⟩ : ∃ N, N = M * m := ⟨_, rfl⟩
   have w1 : IntKind.i64.wrap (((L.length : Nat) : Int) + (m : Int)) = ((L.length : Nat) : Int) + (m : Int) := by rw [IntKind.wrap_i64]; omega
   have w2 : IntKind.i64.wrap ((M : Int) * (m : Int)) = (N : Int) := by rw [← Int.natCast_mul, ← hN, IntKind.wrap_i64]; omega
   by_cases k1 : most < L.length + m
   ·have d1 : decide ((most : Int) < ((L.length : Nat) : Int) + (m : Int)) = true := by simp; omega
    have d1n : decide (most < L.length + m) = true := by simpa using k1
    clear k1 hM hN
    go_wp2
    go_roundw
    case rel => exact ⟨i + 1, W, H, L, by omega, by go_num, rfl, rfl, MD⟩
    case measure => simp [intOf]; omega
   ·have d1 : decide ((most : Int) < ((L.length : Nat) : Int) + (m : Int)) = false := by simp; omega
    have d1n : decide (most < L.length + m) = false := by simpa using k1
    by_cases k2 : 40 < N
    ·have d2 : decide ((40 : Int) < (N : Int)) = true := by simp; omega
     have d2n : decide (40 < N) = true := by simpa using k2
     clear k1 k2 hM hN
     go_wp2
     go_roundw
     case rel => exact ⟨i + 1, W, H, L, by omega, by go_num, rfl, rfl, MD⟩
     case measure => simp [intOf]; omega
    ·have d2 : decide ((40 : Int) < (N : Int)) = false := by simp; omega
     have d2n : decide (40 < N) = false := by simpa using k2
     have d3 : decide ((40 : Int) < (M : Int) * (m : Int)) = false := by rw [← Int.natCast_mul, ← hN]; exact d2
     have HK1 : Hid (L.length + m ≤ most) := Lib.hid (by omega)
     have HWm : Hid (W * m ≤ 40 ∧ H * m ≤ 40) := Lib.hid ⟨Nat.le_trans (Nat.mul_le_mul_right m hMW.1) (by omega), Nat.le_trans (Nat.mul_le_mul_right m hMW.2) (by omega)⟩
     clear k1 k2 hM
     have hmne : ¬ (m : Int) = 0 := by omega
     have hmne2 : (m : Int) ≠ 0 := by omega
     have hmb : ((m : Int) == 0) = false := by rw [beq_eq_false_iff_ne]; exact hmne
     obtain ⟨r, hr⟩ : ∃ r, r = sd % m := ⟨_, rfl⟩
     have hrm : r < m := by rw [hr]; exact Nat.mod_lt _ (by omega)
     have t1 : Int.tmod (sd : Int) (m : Int) = (r : Int) := by rw [hr]; rfl
     have t2 : (sd : Int) % (m : Int) = (r : Int) := by rw [hr]; rfl
     have w3 : IntKind.i64.wrap (r : Int) = (r : Int) := by rw [IntKind.wrap_i64]; omega
     have HRR := Lib.hid hr
     have hle : W ≤ W * m ∧ H ≤ H * m ∧ sd ≤ sd * m := ⟨Nat.le_mul_of_pos_right _ hm3.1, Nat.le_mul_of_pos_right _ hm3.1, Nat.le_mul_of_pos_right _ hm3.1⟩
     have hW40 : W ≤ 40 ∧ H ≤ 40 := by have := HWm.out; omega
     have hsm40 : sd * m ≤ 40 := by rw [HSD.out]; split <;> simp [HWm.out.1, HWm.out.2]
     clear hle hWH
     clear hr
     go_upto_if 55 with (fail)
     clear w1 w2 d1 d1n d2 d2n d3 hM1 hM2 hN hMm hM40 hMW
     go_cut [6, 7, 9, 11] (fun v6 v7 v9 v11 wx => ∃ (W2 H2 s sm : Nat) (L2 : List Tr), v6 = .int .i64 (W2 : Nat) ∧ v7 = .int .i64 (H2 : Nat) ∧ v9 = .int .i64 (sm : Nat) ∧ Hid (1 ≤ s ∧ s * m = sm ∧ sm ≤ 40 ∧ sm = if z % 2 = 1 then W2 else H2) ∧ Hid (L2.length = L.length ∧ W2 ≤ 40 ∧ H2 ≤ 40) ∧ Hid (MdM w wx (.slice va L2.length vk) L2 W2 H2 most))
     case first =>
      by_cases hz : r = 0
      ·have q1 : ((r : Int) != 0) = false := by rw [hz]; rfl
       have q2 : (r != 0) = false := by rw [hz]; rfl
       have q3 : (r == 0) = true := by rw [hz]; rfl
       have q4 : ((r : Int) == 0) = true := by rw [hz]; rfl
       have hz2 : sd % m = 0 := HRR.out ▸ hz
       have hs1 : sd / m * m = sd := Nat.div_mul_cancel (Nat.dvd_of_mod_eq_zero hz2)
       have hs2 : 1 ≤ sd / m := Nat.div_pos (Nat.le_of_dvd (by omega) (Nat.dvd_of_mod_eq_zero hz2)) (by omega)
       have HS1 := Lib.hid hs1
       have HS2 : Hid (1 ≤ sd / m ∧ sd / m * m = sd ∧ sd ≤ 40 ∧ sd = if z % 2 = 1 then W else H) := Lib.hid ⟨hs2, hs1, by rw [HSD.out]; split <;> omega, HSD.out⟩
       have HLE : Hid (W ≤ 40 ∧ H ≤ 40) := Lib.hid hW40
       clear hz hz2 hs1 hs2
       go_wp2
       go_meet
       case rel => exact ⟨W, H, sd / m, sd, L, rfl, rfl, rfl, HS2, Lib.hid ⟨rfl, HLE.out⟩, MD⟩
      ·have q1 : ((r : Int) != 0) = true := by rw [bne_iff_ne]; omega
       have q2 : (r != 0) = true := by simpa using hz
       have q3 : (r == 0) = false := by simpa using hz
       have q4 : ((r : Int) == 0) = false := by rw [beq_eq_false_iff_ne]; omega
       have hmk := MD.out.mkc
       have MKS : Hid (MkC (L.map (sclT m)) (W * m) (H * m)) := Lib.hid (hmk.scale hm3.1 (by have := HWm.out; omega) (by have := HWm.out; omega))
       have HRG := Lib.hid (fun t ht => hmk.rg t ht)
       obtain ⟨gb, gc, hgv, hgb, hgl⟩ : ∃ gb gc, Value.slice va L.length vk = .slice (some ⟨gb, 0, none⟩) L.length gc ∧ w.heap.size ≤ gb ∧ gb < wc.heap.size := by
        rcases MD.out.own.2 with ⟨_, e⟩ | ⟨gg, cap, cur, hv, hbg, hg, _⟩
        ·have := hmk.pos; omega
        ·exact ⟨gg, cap, hv, hbg, (Array.getElem?_eq_some_iff.1 hg).1⟩
       injection hgv with u1 u2 u3
       subst u1; subst u3
       have R0 : Hid (wc.ownsRow w.heap.size 52 3 (.slice (some ⟨gb, 0, none⟩) L.length vk) L.length (trL (sclP m L 0))) := Lib.hid (by rw [sclP_zero]; exact MD.out.own)
       have HB0 := Lib.hid (Below.refl w.heap.size wc)
       have HKB := Lib.hid MD.out.kb
       have hlen := MD.out.len
       clear hz hmk u2
       go_wp2
       go_loopw [11] (fun v11 wi => ∃ k : Nat, k ≤ L.length ∧ v11 = .int .i64 (k : Nat) ∧ Hid (wi.ownsRow w.heap.size 52 3 (.slice (some ⟨gb, 0, none⟩) L.length vk) L.length (trL (sclP m L k))) ∧ Hid (Below w.heap.size wc wi)) (fun v11 _ => L.length - (intOf v11).toNat)
       case atStart => exact ⟨0, by omega, rfl, R0, HB0⟩
       case round =>
        clear R0 HB0
        obtain ⟨k, hk, rfl, R, HB⟩ := hrel
        by_cases h5 : k < L.length
        ·have e5 : decide ((k : Int) < ((L.length : Nat) : Int)) = true := by simpa using h5
         have e5n : decide (k < L.length) = true := by simpa using h5
         have hlP := sclP_len m L k
         have TRk : TrR wr gb 0 (sclP m L k) := trR_own (cap := vk) (by rw [hlP]; exact R.out)
         have x0 := TRk.c0 k (by omega)
         have x1 := TRk.c1 k (by omega)
         have x2 := TRk.c2 k (by omega)
         rw [sclP_get m L k k h5, if_neg (Nat.lt_irrefl k)] at x0 x1 x2
         have hrg := HRG.out _ (getD_memT h5)
         have hst := sclP_step m L k h5
         have f0 := R.out.frozenAt (k * 3)
         have f1 := R.out.frozenAt (k * 3 + 1)
         have f2 := R.out.frozenAt (k * 3 + 2)
         obtain ⟨q, hq⟩ : ∃ q, q = L.getD k default := ⟨_, rfl⟩
         simp only [Nat.zero_add] at x0 x1 x2
         rw [← hq] at x0 x1 x2 hrg hst
         have HSTP := Lib.hid hst
         obtain ⟨qa, hqa⟩ : ∃ qa, qa = q.a * (m : Int) := ⟨_, rfl⟩
         obtain ⟨qb, hqb⟩ : ∃ qb, qb = q.b * (m : Int) := ⟨_, rfl⟩
         obtain ⟨qc, hqc⟩ : ∃ qc, qc = q.c * (m : Int) := ⟨_, rfl⟩
         have HQT : Hid (sclT m q = ⟨qa, qb, qc⟩) := Lib.hid (by unfold sclT; rw [hqa, hqb, hqc])
         have bnd : ∀ x : Int, 0 ≤ x → x ≤ 40 → 0 ≤ x * (m : Int) ∧ x * (m : Int) ≤ 120 := fun x h0 h1 => by
          have g1 := Int.mul_le_mul h1 (show (m : Int) ≤ 3 by omega) (by omega) (by omega)
          have g2 := Int.mul_nonneg h0 (show (0 : Int) ≤ m by omega)
          omega
         have ba := bnd q.a (by omega) (by omega)
         have bb := bnd q.b (by omega) (by omega)
         have bc := bnd q.c (by omega) (by omega)
         rw [← hqa] at ba
         rw [← hqb] at bb
         rw [← hqc] at bc
         have w5 : IntKind.i64.wrap (q.a * (m : Int)) = qa := by rw [← hqa, IntKind.wrap_i64]; omega
         have w6 : IntKind.i64.wrap (q.b * (m : Int)) = qb := by rw [← hqb, IntKind.wrap_i64]; omega
         have w7 : IntKind.i64.wrap (q.c * (m : Int)) = qc := by rw [← hqc, IntKind.wrap_i64]; omega
         have ixk : ∀ X, (Instr.indexAt 23 (.slice (some ⟨gb, 0, none⟩) L.length vk) (.int .i64 (k : Int))).run Tryz.prog X = .ok (.pointer (some ⟨gb, k * 3, none⟩)) X := fun X => by
          have := ixSqo gb 0 L.length vk k h5 X
          rw [Nat.zero_add] at this
          exact this
         have R2 : Hid ((((wr.drew.setCell ⟨gb, k * 3, none⟩ (.int .i64 qa)).setCell ⟨gb, k * 3 + 1, none⟩ (.int .i64 qb)).setCell ⟨gb, k * 3 + 2, none⟩ (.int .i64 qc)).ownsRow w.heap.size 52 3 (.slice (some ⟨gb, 0, none⟩) L.length vk) L.length (trL (sclP m L (k + 1)))) := Lib.hid (by
          have h1 := (own_kept R.out ((Drawn.of wr 1).below wr.heap.size)).stored (k * 3) (.int .i64 qa)
          have h2 := h1.1.stored (k * 3 + 1) (.int .i64 qb)
          have h3 := h2.1.stored (k * 3 + 2) (.int .i64 qc)
          have h4 := h3.1
          rw [trL_set3 (sclP m L k) k ⟨qa, qb, qc⟩ (by omega), ← HQT.out, HSTP.out] at h4
          exact h4)
         have HB2 : Hid (Below w.heap.size wc (((wr.drew.setCell ⟨gb, k * 3, none⟩ (.int .i64 qa)).setCell ⟨gb, k * 3 + 1, none⟩ (.int .i64 qb)).setCell ⟨gb, k * 3 + 2, none⟩ (.int .i64 qc))) := Lib.hid (((HB.out.drew.setCell hgb _).setCell hgb _).setCell hgb _)
         clear hq hqa hqb hqc ba bb bc bnd hst hlP TRk hrg R HB
         go_wp2
         go_region
         go_wp2
         go_roundw
         case rel => exact ⟨k + 1, by omega, by go_num, R2, HB2⟩
         case measure => simp [intOf]; omega
        ·obtain rfl : k = L.length := by omega
         have e5 : decide (((L.length : Nat) : Int) < ((L.length : Nat) : Int)) = false := by simp
         have HM2 : Hid (MdM w wr (.slice (some ⟨gb, 0, none⟩) (L.map (sclT m)).length vk) (L.map (sclT m)) (W * m) (H * m) most) := Lib.hid (by
          have h1 := R.out
          rw [sclP_end] at h1
          refine ⟨?_, MKS.out, by rw [List.length_map]; exact hlen, by have := HWm.out; omega, by have := HWm.out; omega, HKB.out.trans HB.out⟩
          rw [List.length_map]
          exact h1)
         have HS2 : Hid (1 ≤ sd ∧ sd * m ≤ 40 ∧ sd * m = if z % 2 = 1 then W * m else H * m) := Lib.hid ⟨hsd1.2, hsm40, by rw [HSD.out]; split <;> rfl⟩
         have HLE : Hid ((L.map (sclT m)).length = L.length ∧ W * m ≤ 40 ∧ H * m ≤ 40) := Lib.hid ⟨List.length_map _, HWm.out⟩
         have w8 : IntKind.i64.wrap ((W : Int) * (m : Int)) = ((W * m : Nat) : Int) := by rw [← Int.natCast_mul, IntKind.wrap_i64]; have := HWm.out; omega
         have w9 : IntKind.i64.wrap ((H : Int) * (m : Int)) = ((H * m : Nat) : Int) := by rw [← Int.natCast_mul, IntKind.wrap_i64]; have := HWm.out; omega
         have w10 : IntKind.i64.wrap ((sd : Int) * (m : Int)) = ((sd * m : Nat) : Int) := by rw [← Int.natCast_mul, IntKind.wrap_i64]; omega
         clear R HB hk h5
         go_wp2
         go_meet
         case rel => exact ⟨W * m, H * m, sd, sd * m, _, by simp, by simp, by simp, Lib.hid ⟨HS2.out.1, rfl, HS2.out.2⟩, HLE, HM2⟩
     case rest =>
      obtain ⟨W2, H2, s, sm, L2, rfl, rfl, rfl, HS2, HL2, MD2⟩ := hcut
      clear MD hW40 hsm40 t1 t2 w3 hrm hsd1
      have hs1 := HS2.out.1
      have hsle : s ≤ sm := by have := HS2.out; rw [← this.2.1]; exact Nat.le_mul_of_pos_right _ hm3.1
      have hsm : sm ≤ 40 := HS2.out.2.2.1
      have hWH2 := HL2.out.2
      have t1 : Int.tdiv (sm : Int) (m : Int) = (s : Int) := by rw [← HS2.out.2.1, Int.natCast_mul]; exact Int.mul_tdiv_cancel _ hmne
      have t2 : (sm : Int) / (m : Int) = (s : Int) := by rw [← HS2.out.2.1, Int.natCast_mul]; exact Int.mul_ediv_cancel _ hmne
      have w3 : IntKind.i64.wrap (s : Int) = (s : Int) := by rw [IntKind.wrap_i64]; omega
      have hk0 := MD2.out.kb
      have A0 : Hid (wc.ownsRow w.heap.size 52 3 (.slice va L.length vk) L.length (trL (L2 ++ addT z W2 H2 s 0))) := Lib.hid (by rw [addT_zero, List.append_nil, ← HL2.out.1]; exact MD2.out.own)
      have KB0 := Lib.hid hk0
      have HQ0 : Hid (L.length = L2.length + 0) := Lib.hid HL2.out.1.symm
      have hmk2 := Lib.hid MD2.out.mkc
      have HQM : Hid (L2.length + m ≤ most) := Lib.hid (by rw [HL2.out.1]; exact HK1.out)
      clear hk0 MD2
      go_wp2
      go_loopw [5, 13] (fun v5 v13 wi => ∃ (k q : Nat) (va : Option Addr) (vk : Nat), k ≤ m ∧ v13 = .int .i64 (k : Nat) ∧ v5 = .slice va q vk ∧ Hid (q = L2.length + k) ∧ Hid (wi.ownsRow w.heap.size 52 3 (.slice va q vk) q (trL (L2 ++ addT z W2 H2 s k))) ∧ Hid (Below w.heap.size w wi)) (fun _ v13 _ => m - (intOf v13).toNat)
      case atStart => exact ⟨0, L.length, va, vk, by omega, rfl, rfl, HQ0, A0, KB0⟩
      case round =>
       clear A0 KB0 HQ0
       obtain ⟨k, q, va, vk, hk, rfl, rfl, HQ, OW, KB⟩ := hrel
       have hc1 := (HS.out.mono KB.out (Nat.le_refl _)).cell i h
       rw [← HZ.out] at hc1
       have hqb : q ≤ 30 := by have := HQ.out; have := HQM.out; omega
       by_cases h6 : k < m
       ·have e6 : decide ((k : Int) < (m : Int)) = true := by simpa using h6
        have e6n : decide (k < m) = true := by simpa using h6
        have hks : k * s ≤ 40 := by
         have := Nat.mul_le_mul_right s (Nat.le_of_lt h6)
         have h1 := HS2.out.2.1
         rw [Nat.mul_comm] at h1
         omega
        obtain ⟨ks, hKS⟩ : ∃ ks, ks = k * s := ⟨_, rfl⟩
        rw [← hKS] at hks
        have w4 : IntKind.i64.wrap ((k : Int) * (s : Int)) = (ks : Int) := by rw [← Int.natCast_mul, ← hKS, IntKind.wrap_i64]; omega
        have HSZ := Lib.hid KB.out.size
        have HQ2 : Hid (q + 1 = L2.length + (k + 1)) := Lib.hid (by have := HQ.out; omega)
        by_cases hz : z % 2 = 1
        ·have q1 : (((z : Nat) : Int) % 2 == 1) = true := by simp; omega
         have q2 : (z % 2 == 1) = true := by simpa using hz
         have HPU : Hid (trL (L2 ++ addT z W2 H2 s k) ++ trC ⟨(ks : Int), (H2 : Int), (s : Int)⟩ = trL (L2 ++ addT z W2 H2 s (k + 1))) := Lib.hid (by rw [addT_odd hz, ← hKS, trL_push])
         clear hz hKS
         go_wp2_with (at_builtin; refine wpList_append_own_at _ rfl (.tmp 110) (.tmp 117) 23 rfl w.heap.size 52 i0 _ 3 24 Tryz.underlying23 hinf hz0 hz1 hz2 rfl (by decide) (.slice va q vk) q (trL (L2 ++ addT z W2 H2 s k)) rfl (OW.out.alloc _) ⟨wr.heap.size, 0, none⟩ 1 1 (trC ⟨(ks : Int), (H2 : Int), (s : Int)⟩) rfl rfl (newT1 wr ⟨(ks : Int), (H2 : Int), (s : Int)⟩ _) (oneT ⟨(ks : Int), (H2 : Int), (s : Int)⟩) (by unfold maxLen; omega) (by omega) (by have := HSZ.out; simp; omega) ?_; intro v' w5 hown hgrow _ hbk; rw [HPU.out] at hown; have KB5 := Lib.hid ((KB.out.alloc HSZ.out _).grown hgrow (by have := HSZ.out; simp; omega) (fun kk e => (OW.out.lt kk e).1)); have OW5 := Lib.hid hown; obtain ⟨va5, vk5, rfl⟩ := own_shape hown; clear hown hgrow hbk)
         go_roundw
         case rel => exact ⟨k + 1, q + 1, _, _, by omega, by go_num, rfl, HQ2, OW5, KB5⟩
         case measure => simp [intOf]; omega
        ·have q1 : (((z : Nat) : Int) % 2 == 1) = false := by simp; omega
         have q2 : (z % 2 == 1) = false := by simpa using hz
         have HPU : Hid (trL (L2 ++ addT z W2 H2 s k) ++ trC ⟨(W2 : Int), (ks : Int), (s : Int)⟩ = trL (L2 ++ addT z W2 H2 s (k + 1))) := Lib.hid (by rw [addT_even hz, ← hKS, trL_push])
         clear hz hKS
         go_wp2_with (at_builtin; refine wpList_append_own_at _ rfl (.tmp 119) (.tmp 126) 23 rfl w.heap.size 52 i0 _ 3 24 Tryz.underlying23 hinf hz0 hz1 hz2 rfl (by decide) (.slice va q vk) q (trL (L2 ++ addT z W2 H2 s k)) rfl (OW.out.alloc _) ⟨wr.heap.size, 0, none⟩ 1 1 (trC ⟨(W2 : Int), (ks : Int), (s : Int)⟩) rfl rfl (newT1 wr ⟨(W2 : Int), (ks : Int), (s : Int)⟩ _) (oneT ⟨(W2 : Int), (ks : Int), (s : Int)⟩) (by unfold maxLen; omega) (by omega) (by have := HSZ.out; simp; omega) ?_; intro v' w5 hown hgrow _ hbk; rw [HPU.out] at hown; have KB5 := Lib.hid ((KB.out.alloc HSZ.out _).grown hgrow (by have := HSZ.out; simp; omega) (fun kk e => (OW.out.lt kk e).1)); have OW5 := Lib.hid hown; obtain ⟨va5, vk5, rfl⟩ := own_shape hown; clear hown hgrow hbk)
         go_roundw
         case rel => exact ⟨k + 1, q + 1, _, _, by omega, by go_num, rfl, HQ2, OW5, KB5⟩
         case measure => simp [intOf]; omega
       ·obtain rfl : k = m := by omega
        have e6 : decide ((k : Int) < (k : Int)) = false := by simp
        have HLA : Hid ((L2 ++ addT z W2 H2 s k).length = q) := Lib.hid (by rw [List.length_append, addT_len]; exact HQ.out.symm)
        have HOA : Hid (wr.ownsRow w.heap.size 52 3 (.slice va q vk) (L2 ++ addT z W2 H2 s k).length (trL (L2 ++ addT z W2 H2 s k))) := Lib.hid (by rw [HLA.out]; exact OW.out)
        have HLE : Hid ((L2 ++ addT z W2 H2 s k).length ≤ most) := Lib.hid (by rw [List.length_append, addT_len]; exact HQM.out)
        by_cases hz : z % 2 = 1
        ·have q1 : (((z : Nat) : Int) % 2 == 1) = true := by simp; omega
         have q2 : (z % 2 == 1) = true := by simpa using hz
         have HMF : Hid (MdM w wr (.slice va q vk) (L2 ++ addT z W2 H2 s k) W2 (H2 + s) most) := Lib.hid (by
          refine ⟨HOA.out, ?_, HLE.out, by omega, by omega, KB.out⟩
          have h1 := HS2.out.2.2.2
          rw [if_pos hz, ← HS2.out.2.1] at h1
          have h2 := hmk2.out
          rw [← h1] at h2 ⊢
          have h3 := h2.down hs1 hm3.1 (by omega)
          unfold addT
          rw [if_pos hz]
          exact h3)
         clear hz
         go_wp2
         go_roundw
         case rel => exact ⟨i + 1, W2, H2 + s, _, by omega, by go_num, rfl, by go_num, HMF⟩
         case measure => simp [intOf]; omega
        ·have q1 : (((z : Nat) : Int) % 2 == 1) = false := by simp; omega
         have q2 : (z % 2 == 1) = false := by simpa using hz
         have HMF : Hid (MdM w wr (.slice va q vk) (L2 ++ addT z W2 H2 s k) (W2 + s) H2 most) := Lib.hid (by
          refine ⟨HOA.out, ?_, HLE.out, by omega, by omega, KB.out⟩
          have h1 := HS2.out.2.2.2
          rw [if_neg hz, ← HS2.out.2.1] at h1
          have h2 := hmk2.out
          rw [← h1] at h2 ⊢
          have h3 := h2.right hs1 hm3.1 (by omega)
          unfold addT
          rw [if_neg hz]
          exact h3)
         clear hz
         go_wp2
         go_roundw
         case rel => exact ⟨i + 1, W2 + s, H2, _, by omega, by go_num, by go_num, rfl, HMF⟩
         case measure => simp [intOf]; omega
  ·have e1 : decide ((i : Int) < (n : Int)) = false := by simp; omega
   have e1n : decide (i < n) = false := by simpa using h
   go_wp2
   go_ret
   exact ⟨va, vk, L, W, H, rfl, MD⟩
end Go.Proofs.YtdfkhbflcacbfaaGreat

/- Measure, Code, Lay and Order of a cut with its measures. -/
namespace Go.Proofs.YtdfkhbflcacbfaaGreat
open Go.RowKit
/-- a row of squares of one's own, at the head of its block -/
structure OwS (B : Nat) (w : World) (v : Value) (L : List Tr) : Prop where
 own : w.ownsRow B 52 3 v L.length (trL L)
 ex : ∃ g c, v = .slice (some ⟨g, 0, none⟩) L.length c ∧ B ≤ g ∧ g < w.heap.size ∧ L.length ≤ c ∧ TrR w g 0 L
theorem ows_of {B : Nat} {w : World} {v : Value} {L : List Tr} (h : w.ownsRow B 52 3 v L.length (trL L)) (hp : 0 < L.length) : OwS B w v L := by
 refine ⟨h, ?_⟩
 rcases h.2 with ⟨_, e⟩ | ⟨g, cap, cur, rfl, hbg, hg, hc, _⟩
 ·omega
 ·exact ⟨g, cap, rfl, hbg, (Array.getElem?_eq_some_iff.1 hg).1, hc, trR_own h⟩
theorem OwS.below {B : Nat} {w w' : World} {v : Value} {L : List Tr} (h : OwS B w v L) (hb : Below w.heap.size w w') : OwS B w' v L := by
 obtain ⟨g, c, rfl, h1, h2, h3, h4⟩ := h.ex
 exact ⟨own_kept h.own hb, g, c, rfl, h1, Nat.lt_of_lt_of_le h2 hb.size, h3, h4.below hb h2⟩
theorem measure_mk {B : Nat} (v : Value) (L : List Tr) (W H : Nat) (w : World) (hv : OwS B w v L) (hm : MkC L W H) (hn : L.length ≤ 24) :
  Calls Tryz.prog 6 #[v] w fun e w' => e = .returned (.tuple #[.int .i64 (W : Nat), .int .i64 (H : Nat), .int .i64 0]) ∧ Below w.heap.size w w' := by
 obtain ⟨g, c, rfl, _, h2, h3, h4⟩ := hv.ex
 have h := measure_good g c L w h4 h2 h3 (hm.cut hn)
 rw [hm.wd, hm.ht] at h
 exact h
end Go.Proofs.YtdfkhbflcacbfaaGreat

/- a cut has its measures; plain law. -/
namespace Go.Proofs.YtdfkhbflcacbfaaGreat
open Go.RowKit
theorem wdT_at (S : List Tr) : ∀ k, k ≤ S.length → wdT S k = 0 ∨ ∃ t, t ∈ S ∧ t.a + t.c = wdT S k
 | 0, _ => .inl rfl
 | k + 1, h => by
  simp only [wdT]
  split
  ·exact .inr ⟨_, getD_memT (show k < S.length by omega), rfl⟩
  ·exact wdT_at S k (by omega)
theorem htT_at (S : List Tr) : ∀ k, k ≤ S.length → htT S k = 0 ∨ ∃ t, t ∈ S ∧ t.b + t.c = htT S k
 | 0, _ => .inl rfl
 | k + 1, h => by
  simp only [htT]
  split
  ·exact .inr ⟨_, getD_memT (show k < S.length by omega), rfl⟩
  ·exact htT_at S k (by omega)
theorem MkC.of_cut {S : List Tr} (h : CutOK S) : ∃ W H, MkC S W H := by
 have hm := meas_bound h.rg S.length (Nat.le_refl _)
 have hp := h.pos
 have r0 := h.rg 0 hp
 have w0 := wdT_ge S S.length 0 hp
 have h0 := htT_ge S S.length 0 hp
 have := r0.a0; have := r0.b0; have := r0.c0
 obtain ⟨W, hW⟩ : ∃ W : Nat, wdT S S.length = (W : Int) := ⟨_, (Int.toNat_of_nonneg hm.1).symm⟩
 obtain ⟨H, hH⟩ : ∃ H : Nat, htT S S.length = (H : Int) := ⟨_, (Int.toNat_of_nonneg hm.2.2.1).symm⟩
 refine ⟨W, H, hp, by omega, by omega, by omega, by omega, fun t ht => ?_, ?_, ?_, ?_, ?_⟩
 ·obtain ⟨i, hi, rfl⟩ := List.getElem_of_mem ht
  have r := h.rg i hi
  have g1 := wdT_ge S S.length i hi
  have g2 := htT_ge S S.length i hi
  have e : S.getD i default = S[i] := by simp [hi]
  rw [e] at r g1 g2
  exact ⟨r.a0, r.b0, r.c0, by omega, by omega⟩
 ·rw [List.pairwise_iff_getElem]
  intro i j hi hj hij
  have := h.ap j i hij hj
  simpa [hi, hj] using this
 ·have e := arT_sum S S.length (Nat.le_refl _)
  rw [List.take_length] at e
  rw [← e, h.ar, hW, hH]
 ·rcases wdT_at S S.length (Nat.le_refl _) with e | ⟨t, ht, e⟩
  ·omega
  ·exact ⟨t, ht, by omega⟩
 ·rcases htT_at S S.length (Nat.le_refl _) with e | ⟨t, ht, e⟩
  ·omega
  ·exact ⟨t, ht, by omega⟩
end Go.Proofs.YtdfkhbflcacbfaaGreat

/- Code of the reference of hide. -/
namespace Go.Proofs.YtdfkhbflcacbfaaGreat
open Go.RowKit
attribute [local go_sem ↓] Go.wp_at_zero Go.wp_at_succ
theorem TrR.grown {w w' : World} {g o : Nat} {S : List Tr} {row : Option Nat} (h : TrR w g o S) (hg : w.grownBy w' row) (hl : g < w.heap.size) (hne : some g ≠ row) : TrR w' g o S := by
 have k : ∀ j, w'.cell? ⟨g, j, none⟩ = w.cell? ⟨g, j, none⟩ := fun j => World.cell?_of_block (hg.block g hl hne)
 exact ⟨fun i hi => (k _).trans (h.c0 i hi), fun i hi => (k _).trans (h.c1 i hi), fun i hi => (k _).trans (h.c2 i hi)⟩
end Go.Proofs.YtdfkhbflcacbfaaGreat
