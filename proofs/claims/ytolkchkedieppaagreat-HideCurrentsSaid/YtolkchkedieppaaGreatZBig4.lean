/- The reference's numbers: plus and less. -/
import Derived.Test.YtolkchkedieppaaGreatZBig1
set_option linter.unusedVariables false
set_option linter.unusedSimpArgs false
namespace Go.Proofs.YtolkchkedieppaaGreat
open Go.RowKit
theorem valD_dg_le (x n : Nat) (h : nd x ≤ n) : valD (dg x) n = x := by
 rw [valD_dg, Nat.mod_eq_of_lt ((nd_le x n).1 h)]
theorem dg_far (x i : Nat) (h : nd x ≤ i) : dg x i = 0 := dg_zero_of_lt ((nd_le x i).1 h) (Nat.le_refl _)
theorem addD_step (v x y cy dx dy P : Nat) (h : v + cy * P = x + y) :
  v + (cy + dx + dy) % 10000 * P + (cy + dx + dy) / 10000 * (P * 10000) = (x + dx * P) + (y + dy * P) := by
 have e := Nat.div_add_mod (cy + dx + dy) 10000
 generalize (cy + dx + dy) / 10000 = q at *
 generalize (cy + dx + dy) % 10000 = r at *
 have : r * P + q * (P * 10000) = (cy + dx + dy) * P := by rw [← e]; grind
 have h2 : (cy + dx + dy) * P = dx * P + dy * P + cy * P := by grind
 omega
/-- the next digit is appended -/
theorem valD_setN (f : Nat → Nat) (k d : Nat) : valD (setN f k d) (k + 1) = valD f k + d * 10000 ^ k := by
 simp only [valD]
 rw [setN_self, valD_congr (g := f) (fun i hi => setN_ne _ _ (by omega))]
theorem ics_setN (f : Nat → Nat) (k d : Nat) : ics (dI f) k ++ [.int .i64 ((d : Nat) : Int)] = ics (dI (setN f k d)) (k + 1) := by
 rw [← ics_succ]
 congr 1
 ·unfold ics
  exact List.map_congr_left fun i hi => by
   have : i < k := List.mem_range.1 hi
   simp only [ic, dI]; rw [setN_ne _ _ (by omega)]
 ·simp only [dI]; rw [setN_self]
theorem setN_lt {f : Nat → Nat} {k d B : Nat} (hf : ∀ j, j < k → f j < B) (hd : d < B) : ∀ j, j < k + 1 → setN f k d j < B := fun j hj => by
 by_cases e : j = k
 ·rw [e, setN_self]; exact hd
 ·rw [setN_ne _ _ e]; exact hf j (by omega)
set_option maxHeartbeats 4000000 in
set_option maxRecDepth 100000 in
theorem bplus_any (u v : Value) (x y : Nat) (w : World) (hu : Dg w u x) (hv : Dg w v y) (bx : nd x ≤ 549755813888) (b_y : nd y ≤ 549755813888) :
  Calls Tryz.prog 157 #[u, v] w fun e w' => ∃ r n f, e = .returned r ∧ Raw w' r n f ∧ (∀ i, i < n → f i < 10000) ∧ valD f n = x + y ∧ n ≤ max (nd x) (nd y) + 1 ∧ Below w.heap.size w w' := by
 obtain ⟨a1, b1, o1, c1', rfl, s1⟩ := hu
 obtain ⟨a2, b2, o2, c2', rfl, s2⟩ := hv
 have S1 := Lib.hid s1
 have S2 := Lib.hid s2
 obtain ⟨i0, hinf, hz0, hz1, hz2'⟩ := info_parts infoI
 obtain ⟨M, hM⟩ : ∃ M, M = max (nd x) (nd y) := ⟨_, rfl⟩
 have m1 : nd x ≤ M := by omega
 have m2 : nd y ≤ M := by omega
 have m3 : M ≤ 549755813888 := by omega
 rw [← hM]
 have HM := Lib.hid hM
 have KW0 := Lib.hid ((Below.refl w.heap.size w).alloc (Nat.le_refl _) (.cells #[] 3))
 have OW0 := Lib.hid (World.ownsRow_made (e := 3) (base := w.heap.size) (size := 1) w #[] 0 (Nat.le_refl _) (by unfold maxLen; omega) rfl)
 clear s1 s2 hM
 go_enter Tryz.func157, Tryz.ntmps157
 go_wp2_with fail
 go_loopw [5, 6, 7, 8] (fun v5 v6 v7 _ wr => ∃ (k cy : Nat) (f : Nat → Nat), k ≤ M + 1 ∧ v7 = .int .i64 (k : Nat) ∧ v6 = .int .i64 (cy : Nat) ∧ cy ≤ 1 ∧ ∃ va vk, v5 = .slice va k vk ∧ Hid (wr.ownsRow w.heap.size 3 1 (.slice va k vk) k (ics (dI f) k)) ∧ Hid (∀ i, i < k → f i < 10000) ∧ Hid (valD f k + cy * 10000 ^ k = valD (dg x) k + valD (dg y) k) ∧ Hid (k ≤ M ∨ cy = 0) ∧ Hid (Below w.heap.size w wr)) (fun _ _ v7 _ _ => M + 1 - (intOf v7).toNat)
 case atStart => exact ⟨0, 0, fun _ => 0, by omega, rfl, rfl, by omega, _, _, rfl, OW0, Lib.hid (fun i hi => by omega), Lib.hid (by simp [valD]), Lib.hid (.inr rfl), KW0⟩
 case round =>
  clear KW0 OW0
  obtain ⟨k, cy, f, hk, rfl, rfl, hcy, va, vk, rfl, OW, HF, HV, HC, KW⟩ := hrel
  go_upto_region 3 with (fail)
  go_cut [23] (fun v23 wx => v23 = .bool (decide (k < nd x ∨ k < nd y ∨ 0 < cy)) ∧ Hid (wx.ownsRow w.heap.size 3 1 (.slice va k vk) k (ics (dI f) k)) ∧ Hid (Below w.heap.size w wx))
  case first =>
   by_cases c1 : k < nd x
   ·have d1 : decide ((k : Int) < ((nd x : Nat) : Int)) = true := by simpa using c1
    have d1n : decide (k < nd x) = true := by simpa using c1
    have HE : Hid (decide (k < nd x ∨ k < nd y ∨ 0 < cy) = true) := Lib.hid (by simp [c1])
    go_wp2
    go_meet
    case rel => exact ⟨by rw [HE.out], OW, KW⟩
   ·have d1 : decide ((k : Int) < ((nd x : Nat) : Int)) = false := by simpa using c1
    have d1n : decide (k < nd x) = false := by simpa using c1
    by_cases c2 : k < nd y
    ·have d2 : decide ((k : Int) < ((nd y : Nat) : Int)) = true := by simpa using c2
     have d2n : decide (k < nd y) = true := by simpa using c2
     have HE : Hid (decide (k < nd x ∨ k < nd y ∨ 0 < cy) = true) := Lib.hid (by simp [c2])
     go_wp2
     go_meet
     case rel => exact ⟨by rw [HE.out], OW, KW⟩
    ·have d2 : decide ((k : Int) < ((nd y : Nat) : Int)) = false := by simpa using c2
     have d2n : decide (k < nd y) = false := by simpa using c2
     by_cases c3 : 0 < cy
     ·have d3 : decide ((0 : Int) < (cy : Int)) = true := by simpa using c3
      have HE : Hid (decide (k < nd x ∨ k < nd y ∨ 0 < cy) = true) := Lib.hid (by simp [c3])
      go_wp2
      go_meet
      case rel => exact ⟨by rw [HE.out], OW, KW⟩
     ·have d3 : decide ((0 : Int) < (cy : Int)) = false := by simpa using c3
      have HE : Hid (decide (k < nd x ∨ k < nd y ∨ 0 < cy) = false) := Lib.hid (by simp [c1, c2, c3])
      go_wp2
      go_meet
      case rel => exact ⟨by rw [HE.out], OW, KW⟩
  case rest =>
   clear OW KW
   obtain ⟨rfl, OW, KW⟩ := hcut
   by_cases cc : k < nd x ∨ k < nd y ∨ 0 < cy
   ·have e0 : decide (k < nd x ∨ k < nd y ∨ 0 < cy) = true := by simpa using cc
    rw [e0]
    have hkM : k ≤ M := by have := HC.out; omega
    have hdx := dg_lt x k
    have hdy := dg_lt y k
    clear e0 cc
    go_upto_if 30 with (fail)
    go_cut [8] (fun v8 wx => v8 = .int .i64 ((cy + dg x k : Nat) : Int) ∧ Hid (wx.ownsRow w.heap.size 3 1 (.slice va k vk) k (ics (dI f) k)) ∧ Hid (Below w.heap.size w wx))
    case first =>
     by_cases c1 : k < nd x
     ·have d1 : decide ((k : Int) < ((nd x : Nat) : Int)) = true := by simpa using c1
      have d1n : decide (k < nd x) = true := by simpa using c1
      have ix := fun W => ixI S1.out k c1' c1 W
      have cl := (S1.out.mono KW.out (Nat.le_refl _)).cell k c1
      simp only [ic, dI] at cl
      go_wp2
      go_meet
      case rel => exact ⟨by simp, OW, KW⟩
     ·have d1 : decide ((k : Int) < ((nd x : Nat) : Int)) = false := by simpa using c1
      have d1n : decide (k < nd x) = false := by simpa using c1
      have HZ : Hid (dg x k = 0) := Lib.hid (dg_far x k (by omega))
      go_wp2
      go_meet
      case rel => exact ⟨by rw [HZ.out]; simp, OW, KW⟩
    case rest =>
     clear OW KW
     obtain ⟨rfl, OW, KW⟩ := hcut
     obtain ⟨t, ht⟩ : ∃ t, t = cy + dg x k := ⟨_, rfl⟩
     rw [← ht]
     have ht2 : t ≤ 10000 := by omega
     have HTT := Lib.hid ht
     clear ht
     go_upto_if 40 with (fail)
     go_cut [8] (fun v8 wx => v8 = .int .i64 ((t + dg y k : Nat) : Int) ∧ Hid (wx.ownsRow w.heap.size 3 1 (.slice va k vk) k (ics (dI f) k)) ∧ Hid (Below w.heap.size w wx))
     case first =>
      by_cases c1 : k < nd y
      ·have d1 : decide ((k : Int) < ((nd y : Nat) : Int)) = true := by simpa using c1
       have d1n : decide (k < nd y) = true := by simpa using c1
       have ix := fun W => ixI S2.out k c2' c1 W
       have cl := (S2.out.mono KW.out (Nat.le_refl _)).cell k c1
       simp only [ic, dI] at cl
       go_wp2
       go_meet
       case rel => exact ⟨by simp, OW, KW⟩
      ·have d1 : decide ((k : Int) < ((nd y : Nat) : Int)) = false := by simpa using c1
       have d1n : decide (k < nd y) = false := by simpa using c1
       have HZ : Hid (dg y k = 0) := Lib.hid (dg_far y k (by omega))
       go_wp2
       go_meet
       case rel => exact ⟨by rw [HZ.out]; simp, OW, KW⟩
     case rest =>
      clear OW KW
      obtain ⟨rfl, OW, KW⟩ := hcut
      obtain ⟨z, hz⟩ : ∃ z, z = t + dg y k := ⟨_, rfl⟩
      rw [← hz]
      have hzl : z ≤ 20000 := by omega
      have hstep := addD_step (valD f k) (valD (dg x) k) (valD (dg y) k) cy (dg x k) (dg y k) (10000 ^ k) HV.out
      rw [show cy + dg x k + dg y k = z by rw [hz, HTT.out]] at hstep
      have hz2 : z / 10000 ≤ 1 := by rw [hz, HTT.out]; omega
      have HST := Lib.hid hstep
      have hq : ((z : Nat) : Int) / 10000 = ((z / 10000 : Nat) : Int) := rfl
      have hm : ((z : Nat) : Int) % 10000 = ((z % 10000 : Nat) : Int) := rfl
      have HMC : Hid (k + 1 ≤ M ∨ z / 10000 = 0) := Lib.hid (by
       by_cases e : k = M
       ·right
        have z1 := dg_far x k (by omega)
        have z2 := dg_far y k (by omega)
        rw [hz, HTT.out]; omega
       ·left; omega)
      obtain ⟨d, hd⟩ : ∃ d, d = z % 10000 := ⟨_, rfl⟩
      have hdl : d < 10000 := by rw [hd]; exact Nat.mod_lt _ (by omega)
      obtain ⟨cz, hcz⟩ : ∃ cz, cz = z / 10000 := ⟨_, rfl⟩
      rw [← hd] at hm HST
      rw [← hcz] at hq HST HMC hz2
      clear hz hd hcz hstep
      go_wp2_with (at_builtin; refine wpList_append_own _ rfl (.tmp 47) (.tmp 50) 22 rfl w.heap.size 3 i0 (.int .i64 0) 1 8 Tryz.underlying22 hinf hz0 hz1 hz2' rfl (by decide) (.slice va k vk) k (ics (dI f) k) rfl (OW.out.alloc _) ⟨wc.heap.size, 0, none⟩ 1 1 [.int .i64 ((d : Nat) : Int)] rfl rfl (new1 wc (.int .i64 ((d : Nat) : Int)) 3) (one1 _ rfl) (by unfold maxLen; omega) (by omega) (by have := KW.out.size; simp; omega) ?_; intro v' w5 hown hgrow _; have KW5 := Lib.hid ((KW.out.alloc KW.out.size _).grown hgrow (by have := KW.out.size; simp; omega) (fun kk e => (OW.out.lt kk e).1)); rw [ics_setN] at hown; obtain ⟨va5, vk5, rfl⟩ := own_shape hown; have OW5 := Lib.hid hown; clear hown hgrow)
      go_roundw
      case rel =>
       refine ⟨k + 1, cz, setN f k d, by omega, by go_num, rfl, hz2, va5, vk5, rfl, OW5, Lib.hid (setN_lt HF.out hdl), Lib.hid ?_, HMC, KW5⟩
       rw [valD_setN, Nat.pow_succ]
       exact HST.out
      case measure => simp [intOf]; omega
   ·have e0 : decide (k < nd x ∨ k < nd y ∨ 0 < cy) = false := by simpa using cc
    rw [e0]
    have HL : Hid (valD f k = x + y ∧ k ≤ M + 1) := Lib.hid (by
     have h1 := HV.out
     rw [valD_dg_le x k (by omega), valD_dg_le y k (by omega)] at h1
     have : cy = 0 := by omega
     subst this
     exact ⟨by omega, hk⟩)
    clear e0 cc
    go_wp2
    go_ret
    exact ⟨_, k, f, rfl, ints_of_own OW.out, HF.out, HL.out.1, HL.out.2, KW.out⟩
end Go.Proofs.YtolkchkedieppaaGreat

/- The reference's numbers: less, Neg, Abs, Sign. -/
namespace Go.Proofs.YtolkchkedieppaaGreat
open Go.RowKit
theorem subD_step (v x y bw dx dy d b P : Nat) (h : v + y = x + bw * P) (hd : (d : Int) = (dx : Int) - bw - dy + 10000 * b) : v + d * P + (y + dy * P) = (x + dx * P) + b * (P * 10000) := by
 have e2 : d + dy + bw = dx + 10000 * b := by omega
 have e3 : d * P + dy * P + bw * P = dx * P + 10000 * b * P := by rw [← Nat.add_mul, ← Nat.add_mul, ← Nat.add_mul, e2]
 have e4 : 10000 * b * P = b * (P * 10000) := by grind
 omega
set_option maxHeartbeats 4000000 in
set_option maxRecDepth 100000 in
theorem bless_any (u v : Value) (x y : Nat) (w : World) (hu : Dg w u x) (hv : Dg w v y) (hle : y ≤ x) (bx : nd x ≤ 549755813888) :
  Calls Tryz.prog 156 #[u, v] w fun e w' => ∃ r f, e = .returned r ∧ Raw w' r (nd x) f ∧ (∀ i, i < nd x → f i < 10000) ∧ valD f (nd x) = x - y ∧ Below w.heap.size w w' := by
 obtain ⟨a1, b1, o1, c1', rfl, s1⟩ := hu
 obtain ⟨a2, b2, o2, c2', rfl, s2⟩ := hv
 have S1 := Lib.hid s1
 have S2 := Lib.hid s2
 obtain ⟨i0, hinf, hz0, hz1, hz2'⟩ := info_parts infoI
 have HLE := Lib.hid hle
 have hyx := nd_mono hle
 have KW0 := Lib.hid ((Below.refl w.heap.size w).alloc (Nat.le_refl _) (.cells #[] 3))
 have OW0 := Lib.hid (World.ownsRow_made (e := 3) (base := w.heap.size) (size := 1) w #[] 0 (Nat.le_refl _) (by unfold maxLen; omega) rfl)
 clear s1 s2 hle
 go_enter Tryz.func156, Tryz.ntmps156
 go_wp2_with fail
 go_loopw [5, 6, 7, 8] (fun v5 v6 v7 _ wr => ∃ (k bw : Nat) (f : Nat → Nat), k ≤ nd x ∧ v7 = .int .i64 (k : Nat) ∧ v6 = .int .i64 (bw : Nat) ∧ bw ≤ 1 ∧ ∃ va vk, v5 = .slice va k vk ∧ Hid (wr.ownsRow w.heap.size 3 1 (.slice va k vk) k (ics (dI f) k)) ∧ Hid (∀ i, i < k → f i < 10000) ∧ Hid (valD f k + valD (dg y) k = valD (dg x) k + bw * 10000 ^ k) ∧ Hid (Below w.heap.size w wr)) (fun _ _ v7 _ _ => nd x - (intOf v7).toNat)
 case atStart => exact ⟨0, 0, fun _ => 0, by omega, rfl, rfl, by omega, _, _, rfl, OW0, Lib.hid (fun i hi => by omega), Lib.hid (by simp [valD]), KW0⟩
 case round =>
  clear KW0 OW0
  obtain ⟨k, bw, f, hk, rfl, rfl, hbw, va, vk, rfl, OW, HF, HV, KW⟩ := hrel
  by_cases h : k < nd x
  ·have d0 : decide ((k : Int) < ((nd x : Nat) : Int)) = true := by simpa using h
   have d0n : decide (k < nd x) = true := by simpa using h
   have hdx := dg_lt x k
   have hdy := dg_lt y k
   have ix := fun W => ixI S1.out k c1' h W
   have cl := (S1.out.mono KW.out (Nat.le_refl _)).cell k h
   simp only [ic, dI] at cl
   go_upto_if 25 with (fail)
   clear ix cl
   go_cut [8] (fun v8 wx => v8 = .int .i64 (((dg x k : Nat) : Int) - (bw : Int) - ((dg y k : Nat) : Int)) ∧ Hid (wx.ownsRow w.heap.size 3 1 (.slice va k vk) k (ics (dI f) k)) ∧ Hid (Below w.heap.size w wx))
   case first =>
    by_cases c1 : k < nd y
    ·have d1 : decide ((k : Int) < ((nd y : Nat) : Int)) = true := by simpa using c1
     have d1n : decide (k < nd y) = true := by simpa using c1
     have ix := fun W => ixI S2.out k c2' c1 W
     have cl := (S2.out.mono KW.out (Nat.le_refl _)).cell k c1
     simp only [ic, dI] at cl
     go_wp2
     go_meet
     case rel => exact ⟨by simp, OW, KW⟩
    ·have d1 : decide ((k : Int) < ((nd y : Nat) : Int)) = false := by simpa using c1
     have d1n : decide (k < nd y) = false := by simpa using c1
     have HZ : Hid (dg y k = 0) := Lib.hid (dg_far y k (by omega))
     go_wp2
     go_meet
     case rel => exact ⟨by rw [HZ.out]; simp, OW, KW⟩
   case rest =>
    clear OW KW
    obtain ⟨rfl, OW, KW⟩ := hcut
    obtain ⟨s, hs⟩ : ∃ s : Int, s = ((dg x k : Nat) : Int) - (bw : Int) - ((dg y k : Nat) : Int) := ⟨_, rfl⟩
    rw [← hs]
    have hs1 : -10000 ≤ s := by omega
    have hs2 : s ≤ 9999 := by omega
    have HS := Lib.hid hs
    clear hs
    go_upto_if 33 with (fail)
    go_cut [6, 8] (fun v6 v8 wx => ∃ d b : Nat, v6 = .int .i64 (b : Nat) ∧ v8 = .int .i64 (d : Nat) ∧ d < 10000 ∧ b ≤ 1 ∧ Hid ((d : Int) = s + 10000 * (b : Int)) ∧ Hid (wx.ownsRow w.heap.size 3 1 (.slice va k vk) k (ics (dI f) k)) ∧ Hid (Below w.heap.size w wx))
    case first =>
     by_cases c1 : s < 0
     ·have d1 : decide (s < 0) = true := by simpa using c1
      go_wp2
      go_meet
      case rel => exact ⟨(s + 10000).toNat, 1, rfl, by rw [Int.toNat_of_nonneg (by omega)], by omega, by omega, Lib.hid (by rw [Int.toNat_of_nonneg (by omega)]; omega), OW, KW⟩
     ·have d1 : decide (s < 0) = false := by simpa using c1
      go_wp2
      go_meet
      case rel => exact ⟨s.toNat, 0, rfl, by rw [Int.toNat_of_nonneg (by omega)], by omega, by omega, Lib.hid (by rw [Int.toNat_of_nonneg (by omega)]; omega), OW, KW⟩
    case rest =>
     clear OW KW
     obtain ⟨d, b, rfl, rfl, hd, hb, HDB, OW, KW⟩ := hcut
     have HST := Lib.hid (subD_step (valD f k) (valD (dg x) k) (valD (dg y) k) bw (dg x k) (dg y k) d b (10000 ^ k) HV.out (by have := HDB.out; have := HS.out; omega))
     go_wp2_with (at_builtin; refine wpList_append_own _ rfl (.tmp 36) (.tmp 38) 22 rfl w.heap.size 3 i0 (.int .i64 0) 1 8 Tryz.underlying22 hinf hz0 hz1 hz2' rfl (by decide) (.slice va k vk) k (ics (dI f) k) rfl (OW.out.alloc _) ⟨wc.heap.size, 0, none⟩ 1 1 [.int .i64 ((d : Nat) : Int)] rfl rfl (new1 wc (.int .i64 ((d : Nat) : Int)) 3) (one1 _ rfl) (by unfold maxLen; omega) (by omega) (by have := KW.out.size; simp; omega) ?_; intro v' w5 hown hgrow _; have KW5 := Lib.hid ((KW.out.alloc KW.out.size _).grown hgrow (by have := KW.out.size; simp; omega) (fun kk e => (OW.out.lt kk e).1)); rw [ics_setN] at hown; obtain ⟨va5, vk5, rfl⟩ := own_shape hown; have OW5 := Lib.hid hown; clear hown hgrow)
     go_roundw
     case rel =>
      refine ⟨k + 1, b, setN f k d, by omega, by go_num, rfl, hb, va5, vk5, rfl, OW5, Lib.hid (setN_lt HF.out hd), Lib.hid ?_, KW5⟩
      rw [valD_setN, Nat.pow_succ]
      exact HST.out
     case measure => simp [intOf]; omega
  ·obtain rfl : k = nd x := by omega
   have d0 : decide (((nd x : Nat) : Int) < ((nd x : Nat) : Int)) = false := by simp
   have HL : Hid (valD f (nd x) = x - y) := Lib.hid (by
    have h1 := HV.out
    rw [valD_nd, valD_dg_le y _ hyx] at h1
    have h2 := valD_lt f (nd x) HF.out
    have h3 := HLE.out
    have : bw = 0 ∨ bw = 1 := by omega
    rcases this with e | e
    ·subst e; omega
    ·subst e; omega)
   go_wp2
   go_ret
   exact ⟨_, f, rfl, ints_of_own OW.out, HF.out, HL.out, KW.out⟩
end Go.Proofs.YtolkchkedieppaaGreat

/- The reference's numbers: Neg, Abs, Sign. -/
namespace Go.Proofs.YtolkchkedieppaaGreat
open Go.RowKit
attribute [local go_sem ↓] Go.wp_at_zero Go.wp_at_succ
theorem dg_keep {w w' : World} {u : Value} {x : Nat} (h : Dg w u x) (hb : Below w.heap.size w w') : Dg w' u x ∧ Below w.heap.size w w' := ⟨h.mono hb (Nat.le_refl _), hb⟩
theorem bneg_any (u : Value) (s : Bool) (x : Nat) (w : World) (hu : Dg w u x) :
  Calls Tryz.prog 132 #[.agg #[.bool s, u]] w fun e w' => e = .returned (.agg #[.bool (!s && decide (0 < x)), u]) ∧ Dg w' u x ∧ Below w.heap.size w w' := by
 have HU := Lib.hid hu
 obtain ⟨a1, b1, o1, c1, rfl, i1⟩ := hu
 have hp := nd_pos x
 clear i1
 cases s with
 | true =>
  clear hp
  go_enter Tryz.func132, Tryz.ntmps132
  go_wp2
  refine bodyPost_ret (v := .agg #[.bool false, .slice a1 (nd x) c1]) (by simp [results, Tryz.results132, go_sem]) rfl ⟨by simp, dg_keep HU.out ?_⟩
  exact boxes2 w _ _
 | false =>
  by_cases h : 0 < x
  ·have h2 : 0 < nd x := hp.2 h
   have d2 : decide ((0 : Int) < ((nd x : Nat) : Int)) = true := by simp; omega
   have HH := Lib.hid h
   clear hp h
   go_enter Tryz.func132, Tryz.ntmps132
   go_wp2
   refine bodyPost_ret (v := .agg #[.bool true, .slice a1 (nd x) c1]) (by simp [results, Tryz.results132, go_sem]) rfl ⟨by simp [HH.out], dg_keep HU.out ?_⟩
   exact boxes2 w _ _
  ·have h2 : ¬ 0 < nd x := fun q => h (hp.1 q)
   have d2 : decide ((0 : Int) < ((nd x : Nat) : Int)) = false := by simp; omega
   have HH := Lib.hid h
   clear hp h
   go_enter Tryz.func132, Tryz.ntmps132
   go_wp2
   refine bodyPost_ret (v := .agg #[.bool false, .slice a1 (nd x) c1]) (by simp [results, Tryz.results132, go_sem]) rfl ⟨by simp [HH.out], dg_keep HU.out ?_⟩
   exact boxes2 w _ _
theorem babs_any (u : Value) (s : Bool) (x : Nat) (w : World) (hu : Dg w u x) :
  Calls Tryz.prog 80 #[.agg #[.bool s, u]] w fun e w' => e = .returned (.agg #[.bool false, u]) ∧ Dg w' u x ∧ Below w.heap.size w w' := by
 have HU := Lib.hid hu
 obtain ⟨a1, b1, o1, c1, rfl, i1⟩ := hu
 clear i1
 go_enter Tryz.func80, Tryz.ntmps80
 go_wp2
 refine bodyPost_ret (v := .agg #[.bool false, .slice a1 (nd x) c1]) (by simp [results, Tryz.results80, go_sem]) rfl ⟨rfl, dg_keep HU.out ?_⟩
 exact boxes2 w _ _
/-- the sign of an integer -/
def sgZ (z : Int) : Int := if z < 0 then -1 else if z = 0 then 0 else 1
theorem bsign_any (v : Value) (z : Int) (m : Nat) (w : World) (hv : ZIs w v z m) :
  Calls Tryz.prog 83 #[v] w fun e w' => e = .returned (.int .i64 (sgZ z)) ∧ Below w.heap.size w w' := by
 obtain ⟨u, rfl, hu, _⟩ := hv
 obtain ⟨a1, b1, o1, c1, rfl, i1⟩ := hu
 have hp := nd_pos z.natAbs
 clear i1
 by_cases h0 : z = 0
 ·subst h0
  have e0 : nd (0 : Int).natAbs = 0 := nd_zero
  have HS : Hid (sgZ 0 = 0) := Lib.hid (by simp [sgZ])
  rw [e0]
  clear hp e0
  go_enter Tryz.func83, Tryz.ntmps83
  go_wp2
  go_ret
  exact ⟨by rw [HS.out]; rfl, boxes1 w _⟩
 ·have h2 : 0 < nd z.natAbs := hp.2 (by omega)
  have d2 : (((nd z.natAbs : Nat) : Int) == 0) = false := by simp; omega
  have d3 : ¬ nd z.natAbs = 0 := by omega
  clear hp
  by_cases h1 : z < 0
  ·have e1 : decide (z < 0) = true := by simpa using h1
   rw [e1]
   have HS : Hid (sgZ z = -1) := Lib.hid (by unfold sgZ; rw [if_pos h1])
   clear e1 h1 h0
   go_enter Tryz.func83, Tryz.ntmps83
   go_wp2
   go_ret
   exact ⟨by rw [HS.out]; rfl, boxes1 w _⟩
  ·have e1 : decide (z < 0) = false := by simpa using h1
   rw [e1]
   have HS : Hid (sgZ z = 1) := Lib.hid (by unfold sgZ; rw [if_neg h1, if_neg h0])
   clear e1 h1 h0
   go_enter Tryz.func83, Tryz.ntmps83
   go_wp2
   go_ret
   exact ⟨by rw [HS.out]; rfl, boxes1 w _⟩
end Go.Proofs.YtolkchkedieppaaGreat
