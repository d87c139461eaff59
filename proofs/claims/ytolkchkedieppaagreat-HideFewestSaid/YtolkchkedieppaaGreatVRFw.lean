/- codes and Fewest of the reference of hide. (Printed by gen_rcs.py.) -/
import Derived.Test.YtolkchkedieppaaGreatVFwB
import Derived.Test.YtolkchkedieppaaGreatVOrd
import Derived.Test.YtolkchkedieppaaGreatVLast
import Derived.Deep.DeepCutAuto
import Derived.Deep.CutBlock
set_option linter.unusedVariables false
set_option linter.unusedSimpArgs false
namespace Go.Proofs.YtolkchkedieppaaGreat
open Go.RowKit
attribute [local go_sem ↓] Go.wp_at_zero Go.wp_at_succ
/-- a list of numbers that is no nil slice -/
structure LsV (w : World) (v : Value) (l : List Nat) : Prop where
 ex : ∃ b c, v = .slice (some ⟨b, 0, none⟩) l.length c ∧ l.length ≤ c ∧ b < w.heap.size ∧ ∀ i, i < l.length → w.cell? ⟨b, i, none⟩ = some (.int .i64 ((l.getD i 0 : Nat) : Int))
theorem LsV.ints {w : World} {v : Value} {l : List Nat} (h : LsV w v l) : Ints w v l.length (lsF l) := by
 obtain ⟨b, c, rfl, hc, hl, hx⟩ := h.ex
 exact ⟨_, b, 0, c, rfl, ⟨hc, fun _ => rfl, fun _ => hl, fun i hi => by rw [Nat.zero_add]; exact hx i hi, fun e => by cases e⟩⟩
theorem LsV.shape {w : World} {v : Value} {l : List Nat} (h : LsV w v l) : ∃ b c, v = .slice (some ⟨b, 0, none⟩) l.length c ∧ (∀ wx, Below w.heap.size w wx → ∀ j u, (intC l)[j]? = some u → wx.cell? ((⟨b, 0, none⟩ : Addr).add j) = some u) := by
 obtain ⟨b, c, rfl, hc, hl, hx⟩ := h.ex
 refine ⟨b, c, rfl, fun wx hb j u hj => ?_⟩
 have hjl := (List.getElem?_eq_some_iff.1 hj).1
 have hjn : j < l.length := by simpa [intC] using hjl
 rw [add_at, Nat.zero_add]
 refine ((hb.cell (p := ⟨b, j, none⟩) hl).trans (hx j hjn)).trans ?_
 rw [← hj]
 simp [intC, hjn]
theorem LsV.of_own {w : World} {base : Nat} {v : Value} {l : List Nat} (h : w.ownsRow base 3 1 v l.length (intC l)) (h0 : 0 < l.length) : LsV w v l := by
 obtain ⟨b, c, rfl, hb, hl⟩ := h.form h0
 have hcap := own_cap h
 obtain ⟨a9, b9, o9, c9, hv9, s9⟩ := list_ints h
 injection hv9 with u1 u2 u3
 have e9 := s9.at_ h0
 rw [← u1] at e9
 injection e9 with e9
 injection e9 with e91 e92
 subst e91 e92
 refine ⟨b, c, rfl, hcap, s9.lt h0, fun i hi => ?_⟩
 have := s9.cell i hi
 rw [Nat.zero_add] at this
 exact this
theorem intC_one (u : List Nat) : ∀ x ∈ intC u, x.oneCell' = true := fun x hx => by
 simp only [intC, List.mem_map] at hx
 obtain ⟨t, _, rfl⟩ := hx
 rfl
theorem raise_next (F : Nat → Int) (p k : Nat) (z : Int) (hk : p ≤ k) : setN (raiseF F p k z) k (F k + z) = raiseF F p (k + 1) z := by
 funext i
 unfold setN raiseF
 by_cases e : i = k
 ·subst e; rw [if_pos rfl, if_pos ⟨hk, by omega⟩]
 ·rw [if_neg e]
  by_cases e2 : p ≤ i ∧ i < k
  ·rw [if_pos e2, if_pos ⟨e2.1, by omega⟩]
  ·rw [if_neg e2, if_neg (fun q => e2 ⟨q.1, by omega⟩)]
theorem arF_bd {W : Nat} {H : Int} {F : Nat → Int} (h : FlR W H F) : ∀ k, k ≤ W → 0 ≤ arF H F k ∧ arF H F k ≤ (k : Int) * H
 | 0, _ => by simp [arF]
 | k + 1, hk => by
  have ih := arF_bd h k (by omega)
  have := h k (by omega)
  simp only [arF]
  rw [show ((k + 1 : Nat) : Int) = (k : Int) + 1 by omega, Int.add_mul, Int.one_mul]
  omega
/-- what codes answers -/
def CdR (W : Nat) (H : Int) (F : Nat → Int) (m : Nat) (w' : World) (v' : Value) : Prop := (v' = .slice none 0 0 ∧ NoS W H F m) ∨ (∃ l, BestS W H F m l ∧ LsV w' v' l)
set_option maxHeartbeats 8000000 in
set_option maxRecDepth 100000 in
theorem rcodes_any (W : Nat) (H : Nat) (hW : 1 ≤ W) (hW2 : W ≤ 9) (hH : 1 ≤ H) (hH2 : H ≤ 9) : ∀ (m : Nat) (F : Nat → Int) (v : Value) (w : World), Ints w v W F → FlR W (H : Int) F → m ≤ 200 →
  Calls Tryz.prog 96 #[v, .int .i64 (H : Nat), .int .i64 (m : Nat)] w fun e w' => ∃ v', e = .returned v' ∧ Below w.heap.size w w' ∧ CdR W (H : Int) F m w' v' := fun m => by
 obtain ⟨i0, hinf, hz0, hz1, hz2⟩ := info_parts infoI
 have hnil : ∀ (W : World) (x : Option Addr) (n c : Nat), (binOp .neq 22 (.slice x n c) (.slice none 0 0)).run Tryz.prog W = .ok (.bool (!x.isNone)) W := fun W x n c => run_neq_nil W 22 3 x n c 0 0 Tryz.underlying22
 induction m with
 | zero =>
  intro F v w hv hF hm
  obtain ⟨a, b, o, c, rfl, hs⟩ := hv
  obtain rfl := hs.at_ (by omega)
  have HS := Lib.hid hs
  have HFR := Lib.hid hF
  have K0 := Lib.hid (Below.refl w.heap.size w)
  clear hs hF
  go_enter Tryz.func96, Tryz.ntmps96
  go_wp2
  go_loopw [7, 8, 9] (fun v7 v8 v9 wr => ∃ k : Nat, k ≤ W ∧ v9 = .int .i64 (k : Nat) ∧ v7 = .int .i64 (minAt F (k - 1) : Nat) ∧ v8 = .int .i64 (arF (H : Int) F k) ∧ Hid (Below w.heap.size w wr)) (fun _ _ v9 _ => W - (intOf v9).toNat)
  case atStart => exact ⟨0, by omega, rfl, rfl, rfl, K0⟩
  case round =>
   clear K0
   obtain ⟨k, hk, rfl, rfl, rfl, KB⟩ := hrel
   have HSr := Lib.hid (HS.out.mono KB.out (Nat.le_refl _))
   by_cases h : k < W
   ·have e1 : decide ((k : Int) < (W : Int)) = true := by simpa using h
    have e1n : decide (k < W) = true := by simpa using h
    have ixk := ixI HSr.out k c h
    have ck := HSr.out.cell k h
    have hst := minAt_step F k
    have har : arF (H : Int) F (k + 1) = arF (H : Int) F k + ((H : Int) - F k) := rfl
    have hb1 : 0 ≤ arF (H : Int) F k ∧ arF (H : Int) F k ≤ 81 := by
     have q1 := arF_bd HFR.out k (by omega)
     have q2 : (k : Int) * (H : Int) ≤ 9 * 9 := Int.mul_le_mul (by omega) (by omega) (by omega) (by omega)
     omega
    have hxl : minAt F (k - 1) < W := by have := minAt_le F (k - 1); omega
    have hfk := HFR.out k h
    obtain ⟨x, hx⟩ : ∃ x, x = minAt F (k - 1) := ⟨_, rfl⟩
    rw [← hx] at hst hxl ⊢
    have ixx := ixI HSr.out x c hxl
    have cx := HSr.out.cell x hxl
    simp only [ic] at ck cx
    obtain ⟨A, hA⟩ : ∃ A, A = arF (H : Int) F k := ⟨_, rfl⟩
    rw [← hA] at har hb1 ⊢
    have w1 : IntKind.i64.wrap ((H : Int) - F k) = (H : Int) - F k := by rw [IntKind.wrap_i64]; omega
    have w2 : IntKind.i64.wrap (A + ((H : Int) - F k)) = A + ((H : Int) - F k) := by rw [IntKind.wrap_i64]; omega
    have HST := Lib.hid hst
    have HAR := Lib.hid har
    clear hx hA hst har hb1 hfk
    by_cases hlt : F k < F x
    ·have d1 : decide (F k < F x) = true := by simpa using hlt
     have HN : Hid (minAt F k = k) := Lib.hid (by rw [HST.out, if_pos hlt])
     clear hlt
     go_wp2
     go_quiet (fail)
     go_wp2
     go_roundw
     case rel => exact ⟨k + 1, by omega, by go_num, by rw [Nat.add_sub_cancel, HN.out], by rw [HAR.out], Lib.hid (KB.out.trans ((Drawn.of _ _).below _))⟩
     case measure => simp [intOf]; omega
    ·have d1 : decide (F k < F x) = false := by simpa using hlt
     have HN : Hid (minAt F k = x) := Lib.hid (by rw [HST.out, if_neg hlt])
     clear hlt
     go_wp2
     go_quiet (fail)
     go_wp2
     go_roundw
     case rel => exact ⟨k + 1, by omega, by go_num, by rw [Nat.add_sub_cancel, HN.out], by rw [HAR.out], Lib.hid (KB.out.trans ((Drawn.of _ _).below _))⟩
     case measure => simp [intOf]; omega
   ·have hkW : W = k := by omega
    subst hkW
    have e1 : decide ((W : Int) < (W : Int)) = false := by simp
    obtain ⟨p, hpe⟩ : ∃ p, p = minAt F (W - 1) := ⟨_, rfl⟩
    rw [← hpe]
    have HPE : Hid (p = loP W F) := Lib.hid hpe
    have hpW : p < W := by rw [HPE.out]; exact loP_lt hW
    have ixp := ixI HSr.out p c hpW
    have cp := HSr.out.cell p hpW
    simp only [ic] at cp
    clear hpe h
    by_cases h0 : F p = (H : Int)
    ·have HQ := Lib.hid h0
     have e2 : (F p == (H : Int)) = true := by rw [beq_iff_eq]; exact h0
     have e3 : (((0 : Nat) : Int) == 0) = true := by simp
     clear h0
     go_wp2
     go_ret
     exact ⟨_, rfl, KB.out.alloc KB.out.size _, .inr ⟨[], bestS_nil (by rw [← HPE.out]; exact HQ.out), ⟨_, _, rfl, Nat.le_refl _, by simp, fun i hi => by simp at hi⟩⟩⟩
    ·have HQ := Lib.hid h0
     have e2 : (F p == (H : Int)) = false := by rw [beq_eq_false_iff_ne]; exact h0
     have e3 : (((0 : Nat) : Int) == 0) = true := by simp
     clear h0
     go_wp2
     go_ret
     exact ⟨_, rfl, KB.out, .inl ⟨rfl, noS_zero (by rw [← HPE.out]; exact HQ.out)⟩⟩
 | succ m ih =>
  intro F v w hv hF hm
  have HIH := Lib.hid ih
  clear ih
  obtain ⟨M, hM⟩ : ∃ M, M = m + 1 := ⟨_, rfl⟩
  rw [← hM] at hm ⊢
  have HM := Lib.hid hM
  have e3 : ((M : Int) == 0) = false := by rw [beq_eq_false_iff_ne]; omega
  have wm1 : IntKind.i64.wrap ((M : Int) - 1) = (m : Int) := by rw [IntKind.wrap_i64]; omega
  have hm : m ≤ 200 := by omega
  clear hM
  obtain ⟨a, b, o, c, rfl, hs⟩ := hv
  obtain rfl := hs.at_ (by omega)
  have HS := Lib.hid hs
  have HFR := Lib.hid hF
  have K0 := Lib.hid (Below.refl w.heap.size w)
  clear hs hF
  go_enter Tryz.func96, Tryz.ntmps96
  go_wp2
  go_loopw [7, 8, 9] (fun v7 v8 v9 wr => ∃ k : Nat, k ≤ W ∧ v9 = .int .i64 (k : Nat) ∧ v7 = .int .i64 (minAt F (k - 1) : Nat) ∧ v8 = .int .i64 (arF (H : Int) F k) ∧ Hid (Below w.heap.size w wr)) (fun _ _ v9 _ => W - (intOf v9).toNat)
  case atStart => exact ⟨0, by omega, rfl, rfl, rfl, K0⟩
  case round =>
   clear K0
   obtain ⟨k, hk, rfl, rfl, rfl, KB⟩ := hrel
   have HSr := Lib.hid (HS.out.mono KB.out (Nat.le_refl _))
   by_cases h : k < W
   ·have e1 : decide ((k : Int) < (W : Int)) = true := by simpa using h
    have e1n : decide (k < W) = true := by simpa using h
    have ixk := ixI HSr.out k c h
    have ck := HSr.out.cell k h
    have hst := minAt_step F k
    have har : arF (H : Int) F (k + 1) = arF (H : Int) F k + ((H : Int) - F k) := rfl
    have hb1 : 0 ≤ arF (H : Int) F k ∧ arF (H : Int) F k ≤ 81 := by
     have q1 := arF_bd HFR.out k (by omega)
     have q2 : (k : Int) * (H : Int) ≤ 9 * 9 := Int.mul_le_mul (by omega) (by omega) (by omega) (by omega)
     omega
    have hxl : minAt F (k - 1) < W := by have := minAt_le F (k - 1); omega
    have hfk := HFR.out k h
    obtain ⟨x, hx⟩ : ∃ x, x = minAt F (k - 1) := ⟨_, rfl⟩
    rw [← hx] at hst hxl ⊢
    have ixx := ixI HSr.out x c hxl
    have cx := HSr.out.cell x hxl
    simp only [ic] at ck cx
    obtain ⟨A, hA⟩ : ∃ A, A = arF (H : Int) F k := ⟨_, rfl⟩
    rw [← hA] at har hb1 ⊢
    have w1 : IntKind.i64.wrap ((H : Int) - F k) = (H : Int) - F k := by rw [IntKind.wrap_i64]; omega
    have w2 : IntKind.i64.wrap (A + ((H : Int) - F k)) = A + ((H : Int) - F k) := by rw [IntKind.wrap_i64]; omega
    have HST := Lib.hid hst
    have HAR := Lib.hid har
    clear hx hA hst har hb1 hfk
    by_cases hlt : F k < F x
    ·have d1 : decide (F k < F x) = true := by simpa using hlt
     have HN : Hid (minAt F k = k) := Lib.hid (by rw [HST.out, if_pos hlt])
     clear hlt
     go_wp2
     go_quiet (fail)
     go_wp2
     go_roundw
     case rel => exact ⟨k + 1, by omega, by go_num, by rw [Nat.add_sub_cancel, HN.out], by rw [HAR.out], Lib.hid (KB.out.trans ((Drawn.of _ _).below _))⟩
     case measure => simp [intOf]; omega
    ·have d1 : decide (F k < F x) = false := by simpa using hlt
     have HN : Hid (minAt F k = x) := Lib.hid (by rw [HST.out, if_neg hlt])
     clear hlt
     go_wp2
     go_quiet (fail)
     go_wp2
     go_roundw
     case rel => exact ⟨k + 1, by omega, by go_num, by rw [Nat.add_sub_cancel, HN.out], by rw [HAR.out], Lib.hid (KB.out.trans ((Drawn.of _ _).below _))⟩
     case measure => simp [intOf]; omega
   ·have hkW : W = k := by omega
    subst hkW
    have e1 : decide ((W : Int) < (W : Int)) = false := by simp
    obtain ⟨p, hpe⟩ : ∃ p, p = minAt F (W - 1) := ⟨_, rfl⟩
    rw [← hpe]
    have HPE : Hid (p = loP W F) := Lib.hid hpe
    have hpW : p < W := by rw [HPE.out]; exact loP_lt hW
    have ixp := ixI HSr.out p c hpW
    have cp := HSr.out.cell p hpW
    simp only [ic] at cp
    clear hpe h
    by_cases h0 : F p = (H : Int)
    ·have HQ := Lib.hid h0
     have e2 : (F p == (H : Int)) = true := by rw [beq_iff_eq]; exact h0
     clear h0
     go_wp2
     go_ret
     exact ⟨_, rfl, KB.out, .inl ⟨rfl, by rw [HM.out]; exact noS_level (by rw [← HPE.out]; exact HQ.out) m⟩⟩
    ·have HQ := Lib.hid h0
     have e2 : (F p == (H : Int)) = false := by rw [beq_eq_false_iff_ne]; exact h0
     have hfp := HFR.out p hpW
     have R0 : Hid (∀ i, i < 0 → F (p + i) = F p) := Lib.hid (fun i h => by omega)
     have hxar := arF_bd HFR.out W (Nat.le_refl _)
     have hxb : 0 ≤ arF (H : Int) F W ∧ arF (H : Int) F W ≤ 81 := by
      have q2 : (W : Int) * (H : Int) ≤ 9 * 9 := Int.mul_le_mul (by omega) (by omega) (by omega) (by omega)
      omega
     clear hxar h0
     go_upto_block 2 with (fail)
     go_cut [10] from 51 to 67 (fun v10 wx => ∃ r : Nat, v10 = .int .i64 ((p + r : Nat) : Int) ∧ Hid (RunP W F p r) ∧ Hid (Below w.heap.size w wx))
     case first =>
      clear ixp cp HSr
      go_wp2
      go_loopw [10] (fun v10 wi => ∃ r : Nat, p + r ≤ W ∧ v10 = .int .i64 ((p + r : Nat) : Int) ∧ Hid (∀ i, i < r → F (p + i) = F p) ∧ Hid (Below w.heap.size w wi)) (fun v10 _ => W - (intOf v10).toNat)
      case atStart => exact ⟨0, by omega, rfl, R0, KB⟩
      case round =>
       clear R0 KB
       obtain ⟨r, hr, rfl, RS, KR⟩ := hrel
       have HSr := Lib.hid (HS.out.mono KR.out (Nat.le_refl _))
       have ixp := ixI HSr.out p c hpW
       have cp := HSr.out.cell p hpW
       by_cases h5 : p + r < W
       ·have ixq := ixI HSr.out (p + r) c h5
        have cq := HSr.out.cell (p + r) h5
        simp only [ic] at cp cq
        obtain ⟨q, hq⟩ : ∃ q, q = p + r := ⟨_, rfl⟩
        rw [← hq] at h5 ixq cq ⊢
        have HQ5 := Lib.hid hq
        have d1 : decide ((q : Int) < (W : Int)) = true := by simpa using h5
        have d1n : decide (q < W) = true := by simpa using h5
        by_cases h6 : F q = F p
        ·have d2 : (F q == F p) = true := by rw [beq_iff_eq]; exact h6
         have RS2 : Hid (∀ i, i < r + 1 → F (p + i) = F p) := Lib.hid (ext_lt2 (n := r) (P := fun i => F (p + i) = F p) RS.out (by rw [← HQ5.out]; exact h6))
         clear h6 hq
         go_wp2
         go_quiet (fail)
         go_wp2
         go_roundw
         case rel => exact ⟨r + 1, by have := HQ5.out; omega, by have := HQ5.out; go_num, RS2, Lib.hid (KR.out.trans ((Drawn.of _ _).below _))⟩
         case measure => simp [intOf]; omega
        ·have d2 : (F q == F p) = false := by rw [beq_eq_false_iff_ne]; exact h6
         have HRN : Hid (RunP W F p r) := Lib.hid ⟨by
          rcases Nat.eq_zero_or_pos r with e | e
          ·exfalso; apply h6; rw [HQ5.out, e]; rfl
          ·exact e, hr, RS.out, .inr (by rw [← HQ5.out]; exact h6)⟩
         clear h6 hq
         go_wp2
         go_quiet (fail)
         go_wp2
         go_meet
         case rel => exact ⟨r, by rw [HQ5.out], HRN, Lib.hid (KR.out.trans ((Drawn.of _ _).below _))⟩
       ·have d1 : decide (((p + r : Nat) : Int) < (W : Int)) = false := by simp; omega
        have d1b : decide ((p : Int) + (r : Int) < (W : Int)) = false := by simp; omega
        have d1n : decide (p + r < W) = false := by simpa using h5
        have HRN : Hid (RunP W F p r) := Lib.hid ⟨by omega, hr, RS.out, .inl (by omega)⟩
        clear h5
        go_wp2
        (try go_quiet (fail))
        (try go_wp2)
        go_meet
        case rel => exact ⟨r, rfl, HRN, Lib.hid (KR.out.trans ((Drawn.of _ _).below _))⟩
     case rest =>
     obtain ⟨r, rfl, HRUN, KR⟩ := hcut
     clear KB R0 ixp cp HSr
     have hrl := HRUN.out.le
     obtain ⟨rm, hrm⟩ : ∃ rm, rm = p + r := ⟨_, rfl⟩
     rw [← hrm]
     obtain ⟨K, hK⟩ : ∃ K, K = min r ((H : Int) - F p).toNat := ⟨_, rfl⟩
     have hm1 : min (r : Int) ((H : Int) - F p) = (K : Int) := by rw [hK]; omega
     have hm2 : (if (H : Int) - F p < (r : Int) then (H : Int) - F p else (r : Int)) = (K : Int) := by rw [hK]; split <;> omega
     have hKr : K ≤ r ∧ F p + (K : Int) ≤ H := by rw [hK]; omega
     have wr1 : IntKind.i64.wrap ((rm : Int) - (p : Int)) = (r : Int) := by rw [IntKind.wrap_i64]; omega
     have wr2 : IntKind.i64.wrap ((H : Int) - F p) = (H : Int) - F p := by rw [IntKind.wrap_i64]; omega
     have HKE : Hid (∀ (s : Nat), K < s → s ≤ K + 1 → NoFst W (H : Int) F m s → NoS W (H : Int) F M) := Lib.hid (fun s h1 h2 h3 => by rw [HM.out]; exact NoFst.none hW (by rw [← HPE.out]; exact HRUN.out) (by rw [← HPE.out, ← hK, show K + 1 = s by omega]; exact h3))
     have NF0 : Hid (NoFst W (H : Int) F m 1) := Lib.hid (NoFst.one W H F m)
     have HRM := Lib.hid hrm
     obtain ⟨AR, hAR⟩ : ∃ AR, AR = arF (H : Int) F W := ⟨_, rfl⟩
     rw [← hAR] at hxb ⊢
     have HARE := Lib.hid hAR
     obtain ⟨mn, hmn⟩ : ∃ mn : Nat, mn = min W H := ⟨_, rfl⟩
     have hn1 : min (W : Int) (H : Int) = (mn : Int) := by rw [hmn]; omega
     have hn2 : (if (H : Int) < (W : Int) then (H : Int) else (W : Int)) = (mn : Int) := by rw [hmn]; split <;> omega
     have hn3 : min W H = mn := hmn.symm
     have hn4 : (if H < W then H else W) = mn := by rw [hmn]; split <;> omega
     have hmn9 : mn ≤ 9 := by omega
     have HMN := Lib.hid hmn
     obtain ⟨P1, hP1⟩ : ∃ P1 : Int, P1 = (m : Int) * (mn : Int) := ⟨_, rfl⟩
     obtain ⟨P2, hP2⟩ : ∃ P2 : Int, P2 = P1 * (mn : Int) := ⟨_, rfl⟩
     have hp1b : 0 ≤ P1 ∧ P1 ≤ 1800 := by
      rw [hP1]
      exact ⟨Int.mul_nonneg (by omega) (by omega), Int.le_trans (Int.mul_le_mul (show (m : Int) ≤ 200 by omega) (show (mn : Int) ≤ 9 by omega) (by omega) (by omega)) (by omega)⟩
     have hp2b : 0 ≤ P2 ∧ P2 ≤ 16200 := by
      rw [hP2]
      exact ⟨Int.mul_nonneg hp1b.1 (by omega), Int.le_trans (Int.mul_le_mul hp1b.2 (show (mn : Int) ≤ 9 by omega) (by omega) (by omega)) (by omega)⟩
     have wp1 : IntKind.i64.wrap ((m : Int) * (mn : Int)) = P1 := by rw [IntKind.wrap_i64, ← hP1]; omega
     have wp2 : IntKind.i64.wrap (P1 * (mn : Int)) = P2 := by rw [IntKind.wrap_i64, ← hP2]; omega
     have HP12 := Lib.hid (show P2 = (m : Int) * (mn : Int) * (mn : Int) by rw [hP2, hP1])
     clear hrm hK hAR hmn hP1 hP2
     go_wp2
     go_loopw [11, 12, 13, 14] (fun v11 v12 v13 v14 wi => ∃ s : Nat, 1 ≤ s ∧ s ≤ K + 1 ∧ v11 = .int .i64 (s : Nat) ∧ Hid (NoFst W (H : Int) F m s) ∧ Hid (Below w.heap.size w wi)) (fun v11 _ _ _ _ => K + 1 - (intOf v11).toNat)
     case atStart => exact ⟨1, by omega, by omega, rfl, NF0, KR⟩
     case round =>
      clear NF0 KR
      obtain ⟨s, hs1, hsK, rfl, NF, KS⟩ := hrel
      have HSr := Lib.hid (HS.out.mono KS.out (Nat.le_refl _))
      have ixp := ixI HSr.out p c hpW
      have cp := HSr.out.cell p hpW
      simp only [ic] at cp
      by_cases h5 : s ≤ K
      ·have e5 : decide ((s : Int) ≤ (K : Int)) = true := by simpa using h5
       have e5n : decide (s ≤ K) = true := by simpa using h5
       have hps : p + s ≤ W := by omega
       have HSM : Hid (F (loP W F) < H ∧ loP W F + s ≤ W ∧ (∀ i, i < s → F (loP W F + i) = F (loP W F)) ∧ F (loP W F) + (s : Int) ≤ H) := Lib.hid (by
        rw [← HPE.out]
        have := HQ.out
        exact ⟨by omega, hps, fun i hi => HRUN.out.same i (by omega), by omega⟩)
       have hss : 0 ≤ (s : Int) * (s : Int) ∧ (s : Int) * (s : Int) ≤ 81 :=
        ⟨Int.mul_nonneg (by omega) (by omega), Int.le_trans (Int.mul_le_mul (show (s : Int) ≤ 9 by omega) (show (s : Int) ≤ 9 by omega) (by omega) (by omega)) (by omega)⟩
       obtain ⟨S2, hS2⟩ : ∃ S2 : Int, S2 = (s : Int) * (s : Int) := ⟨_, rfl⟩
       have ws1 : IntKind.i64.wrap ((s : Int) * (s : Int)) = S2 := by rw [IntKind.wrap_i64, hS2]; omega
       rw [← hS2] at hss
       have ws2 : IntKind.i64.wrap (AR - S2) = AR - S2 := by rw [IntKind.wrap_i64]; omega
       have HS2E := Lib.hid hS2
       clear hS2
       by_cases hbig : P2 < AR - S2
       ·have d7 : decide (AR - S2 > P2) = true := by simpa using hbig
        have d7b : decide (P2 < AR - S2) = true := by simpa using hbig
        have NF2 : Hid (NoFst W (H : Int) F m (s + 1)) := Lib.hid (NF.out.next' (noS_area HFR.out hW (by omega) (mn : Int) (by rw [HMN.out]; omega) (by rw [← HP12.out, ← HARE.out, ← HS2E.out]; exact hbig)))
        clear hbig
        go_wp2
        go_roundw
        case rel => exact ⟨s + 1, by omega, by omega, by go_num, NF2, KS⟩
        case measure => simp [intOf]; omega
       ·have d7 : decide (AR - S2 > P2) = false := by simpa using hbig
        have d7b : decide (P2 < AR - S2) = false := by simpa using hbig
        clear hbig
        have B5 := KS.out.size
        obtain ⟨wa, hwa⟩ : ∃ wa : World, wa = wr := ⟨_, rfl⟩
        have OW0 : Hid ((wr.alloc (.cells #[] 3)).ownsRow wr.heap.size 3 1 (.slice (some ⟨wr.heap.size, 0, none⟩) 0 0) 0 []) := Lib.hid (World.ownsRow_made wr #[] 0 (Nat.le_refl _) (by unfold maxLen; omega) rfl)
        have HNW : Hid (∀ j u, (ics F W)[j]? = some u → (wr.alloc (.cells #[] 3)).cell? ((⟨b, o, none⟩ : Addr).add j) = some u) := Lib.hid (news_of (HSr.out.alloc (.cells #[] 3)) W (Nat.le_refl _))
        have HLNI := Lib.hid (show (ics F W).length = W * 1 by rw [ics_length]; omega)
        have HWA := Lib.hid hwa
        rw [← hwa] at KS
        clear hwa HSr
        go_wp2_with (at_builtin; refine wpList_append_own _ rfl (.tmp 100) (.tmp 101) 22 rfl wr.heap.size 3 i0 (.int .i64 0) 1 8 Tryz.underlying22 hinf hz0 hz1 hz2 rfl (by decide) (.slice (some ⟨wr.heap.size, 0, none⟩) 0 0) 0 [] rfl OW0.out ⟨b, o, none⟩ W c (ics F W) rfl HLNI.out HNW.out (ics_one F W) (by unfold maxLen; omega) (by omega) (by simp) ?_; intro v' w5 hown hgrow _; rw [Nat.zero_add, List.nil_append] at hown; have K5 := Lib.hid ((boxes1 wr (.cells #[] 3)).grown hgrow (by simp) (fun kk e => (OW0.out.lt kk e).1)); rw [← HWA.out] at hown K5; obtain ⟨gn, cn, rfl, hgn, hgn2⟩ := hown.form (by omega); have OWN := Lib.hid hown; clear hown hgrow)
        have HGN := Lib.hid hgn
        have OWN0 : Hid (w5.ownsRow wa.heap.size 3 1 (.slice (some ⟨gn, 0, none⟩) W cn) W (ics (raiseF F p p (s : Int)) W)) := Lib.hid (by
         rw [ics_congr (f := raiseF F p p (s : Int)) (g := F) W (fun i hi => by unfold raiseF; rw [if_neg (by omega)])]
         exact OWN.out)
        obtain ⟨T, hT⟩ : ∃ T, T = p + s := ⟨_, rfl⟩
        have wt1 : IntKind.i64.wrap ((p : Int) + (s : Int)) = (T : Int) := by rw [IntKind.wrap_i64]; omega
        have HTE := Lib.hid hT
        clear OWN OW0 HNW hgn hgn2 hT ixp cp
        go_loopw [13] (fun v13 wi => ∃ k : Nat, p ≤ k ∧ k ≤ T ∧ v13 = .int .i64 (k : Nat) ∧ Hid (wi.ownsRow wa.heap.size 3 1 (.slice (some ⟨gn, 0, none⟩) W cn) W (ics (raiseF F p k (s : Int)) W)) ∧ Hid (Below wa.heap.size wa wi)) (fun v13 _ => T - (intOf v13).toNat)
        case atStart => exact ⟨p, Nat.le_refl _, by have := HTE.out; omega, rfl, OWN0, K5⟩
        case round =>
         clear OWN0 K5
         obtain ⟨k, hk1, hk2, rfl, OW, KA⟩ := hrel
         by_cases h8 : k < T
         ·have e8 : decide ((k : Int) < (T : Int)) = true := by simpa using h8
          have e8n : decide (k < T) = true := by simpa using h8
          have hkW : k < W := by have := HTE.out; omega
          have hsl := rowIs_own OW.out (by omega)
          have ixn := ixI hsl k cn hkW
          have cx := hsl.cell k hkW
          have hrv : raiseF F p k (s : Int) k = F k := by unfold raiseF; rw [if_neg (by omega)]
          simp only [ic, Nat.zero_add] at ixn cx
          rw [hrv] at cx
          have fz := OW.out.frozenAt k
          have hfk := HFR.out k hkW
          have wk : IntKind.i64.wrap (F k + (s : Int)) = F k + (s : Int) := by rw [IntKind.wrap_i64]; omega
          have HSET : Hid ((wr.setCell ⟨gn, k, none⟩ (.int .i64 (F k + (s : Int)))).ownsRow wa.heap.size 3 1 (.slice (some ⟨gn, 0, none⟩) W cn) W (ics (raiseF F p (k + 1) (s : Int)) W)) := Lib.hid (by
           have := own_ints_set OW.out k (F k + (s : Int))
           rw [raise_next F p k (s : Int) hk1] at this
           exact this)
          have KSET := Lib.hid (KA.out.setCell (p := ⟨gn, k, none⟩) HGN.out (.int .i64 (F k + (s : Int))))
          clear hsl hrv hfk
          go_wp2
          go_roundw
          case rel => exact ⟨k + 1, by omega, by omega, by go_num, HSET, KSET⟩
          case measure => simp [intOf]; omega
         ·have hkT : k = T := by omega
          have e8 : decide ((k : Int) < (T : Int)) = false := by simp; omega
          have e8n : decide (k < T) = false := by simpa using h8
          have OWP : Hid (wr.ownsRow wa.heap.size 3 1 (.slice (some ⟨gn, 0, none⟩) W cn) W (ics (putF F p s) W)) := Lib.hid (by
           have h9 := OW.out
           rw [hkT, HTE.out] at h9
           exact h9)
          have KAW := Lib.hid (KS.out.trans (KA.out.mono KS.out.size))
          have HPUT : Hid (FlR W (H : Int) (putF F p s)) := Lib.hid (by rw [HPE.out]; exact HFR.out.put HSM.out.2.2.1 HSM.out.2.2.2)
          have hcall := HIH.out (putF F p s) (.slice (some ⟨gn, 0, none⟩) W cn) wr (ints_of_own OWP.out) HPUT.out (by omega)
          clear hkT h8
          go_upto_region 27 with (go_at_call 96; go_loud ((with_reducible refine hcall.mono ?_); rintro e w7 ⟨v2, rfl, hb, hr⟩; have HR := Lib.hid hr; have K7 := Lib.hid (KAW.out.trans (hb.mono KAW.out.size)); clear hb hr))
          clear hcall
          rcases HR.out with ⟨rfl, hno⟩ | ⟨l, hbest, hls⟩
          ·have NF2 : Hid (NoFst W (H : Int) F m (s + 1)) := Lib.hid (NF.out.next (by rw [← HPE.out]; exact hno))
           clear hno
           go_wp2
           go_roundw
           case rel => exact ⟨s + 1, by omega, by omega, by go_num, NF2, K7⟩
           case measure => simp [intOf]; omega
          ·have HBS : Hid (BestS W (H : Int) F M (s :: l)) := Lib.hid (by rw [HM.out]; exact NF.out.best (by rw [← HPE.out]; exact hbest) HSM.out.1 hs1 HSM.out.2.1 HSM.out.2.2.1 HSM.out.2.2.2)
           have hll : l.length ≤ 200 := by rw [hbest.len]; omega
           obtain ⟨b2, c2, rfl, hnew⟩ := hls.shape
           have HNEW := Lib.hid hnew
           have HLL := Lib.hid (show (intC l).length = l.length * 1 by simp [intC])
           have OS := Lib.hid (show (w7.alloc (.cells #[.int .i64 (s : Int)] 3)).ownsRow w7.heap.size 3 1 (.slice (some ⟨w7.heap.size, 0, none⟩) 1 1) 1 [.int .i64 (s : Int)] from ⟨rfl, .inr ⟨w7.heap.size, 1, #[.int .i64 (s : Int)], rfl, Nat.le_refl _, heap_alloc_new w7 _, Nat.le_refl _, by unfold maxLen; omega, rfl, rfl⟩⟩)
           have HLST := Lib.hid hls
           clear hbest hnew hls
           go_wp2_with (at_builtin; refine wpList_append_own _ rfl (.tmp 126) (.tmp 127) 22 rfl w7.heap.size 3 i0 (.int .i64 0) 1 8 Tryz.underlying22 hinf hz0 hz1 hz2 rfl (by decide) (.slice (some ⟨w7.heap.size, 0, none⟩) 1 1) 1 [.int .i64 (s : Int)] rfl OS.out ⟨b2, 0, none⟩ l.length c2 (intC l) rfl HLL.out (HNEW.out _ (boxes1 _ _)) (intC_one l) (by unfold maxLen; omega) (by omega) (by simp) ?_; intro v' w8 hown hgrow _; have K8 := Lib.hid ((K7.out.alloc K7.out.size (.cells #[.int .i64 (s : Int)] 3)).grown hgrow (Nat.le_trans K7.out.size (by simp)) (fun kk e => Nat.le_trans K7.out.size (OS.out.lt kk e).1)); have HOWN := Lib.hid hown; clear hown hgrow)
           go_ret
           refine ⟨_, rfl, K8.out, .inr ⟨s :: l, HBS.out, LsV.of_own (base := w7.heap.size) ?_ (by simp)⟩⟩
           have h9 := HOWN.out
           rw [show (s :: l).length = 1 + l.length by simp; omega, show intC (s :: l) = [.int .i64 (s : Int)] ++ intC l by simp [intC]]
           exact h9
      ·have HNO : Hid (NoS W (H : Int) F M) := Lib.hid (HKE.out s (by omega) hsK NF.out)
       have e5 : decide ((s : Int) ≤ (K : Int)) = false := by simpa using h5
       have e5n : decide (s ≤ K) = false := by simpa using h5
       go_wp2
       go_ret
       exact ⟨_, rfl, KS.out, .inl ⟨rfl, HNO.out⟩⟩
end Go.Proofs.YtolkchkedieppaaGreat

/- Fewest of the reference of hide. -/
namespace Go.Proofs.YtolkchkedieppaaGreat
open Go.RowKit
attribute [local go_sem ↓] Go.wp_at_zero Go.wp_at_succ
set_option maxHeartbeats 4000000 in
set_option maxRecDepth 100000 in
theorem rfewest_good (W H m : Nat) (lm : List Nat) (w : World) (hW : 1 ≤ W) (h9 : W ≤ 9) (hH : 1 ≤ H) (h9' : H ≤ 9) (hl : SolP W (H : Int) lm (fun _ => 0)) (hlm : lm.length = m) (hNL : NoLess W (H : Int) (fun _ => 0) m) :
  Calls Tryz.prog 42 #[.int .i64 (W : Nat), .int .i64 (H : Nat)] w fun e w' => ∃ l v, BestS W (H : Int) (fun _ => 0) m l ∧ e = .returned v ∧ LsV w' v l ∧ Below w.heap.size w w' := by
 have hm81 : m ≤ 81 := by rw [← hlm]; exact sol_small hW h9 h9' hl
 have HL := Lib.hid hl
 have HLM := Lib.hid hlm
 have HNL := Lib.hid hNL
 have HM1 : Hid (1 ≤ m) := Lib.hid (by
  rw [← hlm]
  cases lm with
  | nil => have e : (0 : Int) = (H : Int) := hl; omega
  | cons t k => simp)
 clear hl hlm hNL
 have hnil : ∀ (W : World) (x : Option Addr) (n c : Nat), (binOp .neq 22 (.slice x n c) (.slice none 0 0)).run Tryz.prog W = .ok (.bool (!x.isNone)) W := fun W x n c => run_neq_nil W 22 3 x n c 0 0 Tryz.underlying22
 have hmk := run_make_row' (P := Tryz.prog) 22 3 (.int .i64 0) 8 Tryz.underlying22 infoI rfl .i64 .i64 W (by omega) (by omega)
 have K0 := Lib.hid (Below.refl w.heap.size w)
 go_enter Tryz.func42, Tryz.ntmps42
 go_wp2
 go_loopw [5, 6] (fun v5 v6 wr => ∃ k : Nat, 1 ≤ k ∧ k ≤ m ∧ v5 = .int .i64 (k : Nat) ∧ Hid (Below w.heap.size w wr)) (fun v5 _ _ => m - (intOf v5).toNat)
 case atStart => exact ⟨1, by omega, HM1.out, rfl, K0⟩
 case round =>
  clear K0
  obtain ⟨k, hk1, hkm, rfl, KB⟩ := hrel
  have hrow : Ints (wr.alloc (.cells (madeCells #[.int .i64 0] W) 3)) (.slice (some ⟨wr.heap.size, 0, none⟩) W W) W (fun _ => 0) := by
   exact ⟨_, wr.heap.size, 0, W, rfl, rowIs_sl (World.rowIs_made wr (.int .i64 0) W 3)⟩
  have hcall := rcodes_any W H hW h9 hH h9' k (fun _ => 0) _ _ hrow (flR_zero W (by omega)) (by omega)
  clear hrow
  go_upto_region 4 with (go_at_call 96; go_loud ((with_reducible refine hcall.mono ?_); rintro e w6 ⟨v2, rfl, hb, hR⟩; have HR := Lib.hid hR; have K6 := Lib.hid (KB.out.trans (((boxes1 _ _).trans (hb.mono (by simp))).mono KB.out.size));  clear hb hR))
  clear hcall
  rcases HR.out with ⟨rfl, hno⟩ | ⟨l, hbest, hls⟩
  ·have hkm2 : k < m := by
    rcases Nat.lt_or_ge k m with q | q
    ·exact q
    ·exact absurd (by rw [HLM.out]; omega) (hno lm HL.out)
   clear hno
   go_wp2
   go_roundw
   case rel => exact ⟨k + 1, by omega, by omega, by go_num, K6⟩
   case measure => simp [intOf]; omega
  ·have HBS := Lib.hid hbest
   have HLS := Lib.hid hls
   have hkm2 : m = k := by
    have := HNL.out l hbest.sol
    have := hbest.len
    omega
   obtain ⟨b8, c8, rfl, hsh⟩ := hls.shape
   clear hbest hls hsh
   go_wp2
   go_ret
   exact ⟨l, _, by rw [hkm2]; exact HBS.out, rfl, HLS.out, K6.out⟩
end Go.Proofs.YtolkchkedieppaaGreat
