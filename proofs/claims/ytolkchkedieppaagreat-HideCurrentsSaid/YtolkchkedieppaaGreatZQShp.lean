/- The reference's reading of decimal digits. (Printed by gen_pars1.py.) -/
import Derived.Test.YtolkchkedieppaaGreatZBig17
import Derived.Test.YtolkchkedieppaaGreatZTxt
import Derived.Test.YtolkchkedieppaaGreatZBig16
import Derived.Test.YtolkchkedieppaaGreatZRat4
set_option linter.unusedVariables false
set_option linter.unusedSimpArgs false
namespace Go.Proofs.YtolkchkedieppaaGreat
open Go.RowKit
attribute [local go_sem ↓] Go.wp_at_zero Go.wp_at_succ
/-- a string of L bytes -/
def Bts (s : ByteArray) (L : Nat) (f : Nat → Nat) : Prop := s.size = L ∧ ∀ (i : Nat) (h : i < s.size), s[i].toNat = f i
theorem dg_nil (w : World) : Dg w (.slice none 0 0) 0 :=
 ⟨none, 0, 0, 0, by rw [nd_zero], by rw [nd_zero]; exact Nat.le_refl _, fun h => by rw [nd_zero] at h; omega, fun h => by rw [nd_zero] at h; omega, fun i h => by rw [nd_zero] at h; omega, fun _ => rfl⟩
theorem zis_nil (w : World) (m : Nat) : ZIs w (.agg #[.bool false, .slice none 0 0]) 0 m := ⟨.slice none 0 0, by simp, by simpa using dg_nil w, by simp [nd_zero]⟩
theorem u8_dv (c : Nat) (h1 : 48 ≤ c) (h2 : c ≤ 57) : IntKind.u8.wrap (((c : Nat) : Int) - 48) = ((dv c : Nat) : Int) := by
 unfold dv; rw [if_pos ⟨h1, h2⟩, IntKind.wrap_u8']; omega
theorem dig_no {b : Bool} {v : Int} {P : Prop} {x : Int} (h : b = true ↔ P) (hv : v = if b then x else 0) (hn : ¬ P) : b = false ∧ v = 0 := by
 cases b with
 | false => exact ⟨rfl, by simpa using hv⟩
 | true => exact absurd (h.1 rfl) hn
theorem dig_yes {b : Bool} {v : Int} {P : Prop} {x : Int} (h : b = true ↔ P) (hv : v = if b then x else 0) (hn : P) : b = true ∧ v = x := by
 obtain rfl := h.2 hn
 exact ⟨rfl, by simpa using hv⟩
set_option maxHeartbeats 8000000 in
set_option maxRecDepth 100000 in
theorem digits_any (s : ByteArray) (L : Nat) (f : Nat → Nat) (b : Bool) (v : Int) (w : World) (hs : Bts s L f) (hb : b = true ↔ okD L f) (hv : v = if b then ((numD L f : Nat) : Int) else 0) :
  Calls Tryz.prog 152 #[.string s] w fun e w' => ∃ u, e = .returned (.tuple #[u, .bool b]) ∧ ZIs w' u v 1000 ∧ Below w.heap.size w w' := by
 have HS := Lib.hid hs
 obtain ⟨rfl, hbt⟩ := hs
 have HB := Lib.hid hbt
 have HOK := Lib.hid hb
 have HVV := Lib.hid hv
 clear hbt hb hv
 have KW1 := Lib.hid (boxes1 w (.cells #[.bool false, .slice none 0 0] 57))
 by_cases h1 : 1 ≤ s.size
 ·have p0 : 0 < s.size := h1
  have i0 : (0 : Int) < (s.size : Int) := by omega
  have d1 : decide ((s.size : Int) < 1) = false := by simp; omega
  by_cases h2 : s.size ≤ 4000
  ·have d2 : decide ((4000 : Int) < (s.size : Int)) = false := by simp; omega
   have x0 := HB.out 0 p0
   by_cases h3 : f 0 = 48
   ·by_cases h4 : 1 < s.size
    ·have d4 : decide ((1 : Int) < (s.size : Int)) = true := by simp; omega
     have HN : Hid (¬ okD s.size f) := Lib.hid (fun h => h.2.2.1 ⟨h3, h4⟩)
     rw [h3] at x0
     clear h1 h2 h3 h4
     go_enter Tryz.func152, Tryz.ntmps152
     go_wp2
     refine bodyPost_ret (v := .tuple #[.agg #[.bool false, .slice none 0 0], .bool false]) (by simp [results, Tryz.results152, go_sem]) rfl ?_
     obtain ⟨rfl, rfl⟩ := dig_no HOK.out HVV.out HN.out
     exact ⟨_, rfl, zis_nil _ _, KW1.out⟩
    ·have d4 : decide ((1 : Int) < (s.size : Int)) = false := by simp; omega
     have HL : Hid (¬ (f 0 = 48 ∧ 1 < s.size)) := Lib.hid (fun h => h4 h.2)
     have e3 : (((48 : Nat) : Int) == 48) = true := by decide
     rw [h3] at x0
     clear h3 h4
     obtain ⟨i0_, hinf, hz0, hz1, hz2⟩ := info_parts infoI
     obtain ⟨V, hV⟩ : ∃ V, V = numD s.size f := ⟨_, rfl⟩
     have HV := Lib.hid hV
     have IS0 := Lib.hid (IntS.start w false V)
     have hnd : nd V ≤ 1000 := by rw [hV]; exact valT_nd (fun i => dv_lt _) s.size 1000 (by omega)
     clear hV
     go_enter Tryz.func152, Tryz.ntmps152
     go_wp2_with fail
     clear d1 d2 x0 p0 i0 e3
     go_loopw [5] (fun v5 wr => ∃ k : Nat, 4 * k < s.size + 4 ∧ v5 = .int .i64 ((s.size : Int) - 4 * ((k : Nat) : Int)) ∧ Hid (∀ i, s.size - 4 * k ≤ i → i < s.size → 48 ≤ f i ∧ f i ≤ 57) ∧ ∃ va vk, Hid (IntS w wr false k V va vk)) (fun v5 _ => (intOf v5).toNat)
     case atStart => exact ⟨0, by omega, by simp, Lib.hid (fun i h1 h2 => by omega), none, 0, IS0⟩
     case round =>
      clear IS0
      obtain ⟨k, hk, rfl, HD, va, vk, IS⟩ := hrel
      have b0 := IS.out.oz.c0
      have b1 := IS.out.oz.c1
      have bf := IS.out.oz.f
      have bl := IS.out.oz.lt
      have r0 := IS.out.orr.c0
      have r1 := IS.out.orr.c1
      have rf := IS.out.orr.f
      have rl := IS.out.orr.lt
      by_cases h0 : 4 * k < s.size
      ·obtain ⟨a, ha⟩ : ∃ a, s.size = a + 4 * k := ⟨s.size - 4 * k, by omega⟩
       have hva : (s.size : Int) - 4 * ((k : Nat) : Int) = ((a : Nat) : Int) := by omega
       have ha0 : 0 < a := by omega
       rw [hva]
       clear hva
       obtain ⟨lo, d, hlo, hd, hmx⟩ : ∃ lo d : Nat, a = lo + d ∧ (d = 4 ∨ (d < 4 ∧ lo = 0)) ∧ max (0 : Int) (((a : Nat) : Int) - 4) = ((lo : Nat) : Int) := by
        by_cases h : 4 ≤ a
        ·exact ⟨a - 4, 4, by omega, .inl rfl, by omega⟩
        ·exact ⟨0, a, by omega, .inr ⟨by omega, rfl⟩, by omega⟩
       have HBLK : Hid (valT (fun i => dv (f (lo + i))) d = dg V k) := Lib.hid (by
        rw [HV.out]
        exact valT_block (fun i => dv_lt _) s.size k a lo d ha hlo hd)
       have hd4 : d ≤ 4 := by omega
       have hwa : IntKind.i64.wrap (((a : Nat) : Int) - 4) = ((a : Nat) : Int) - 4 := by rw [IntKind.wrap_i64]; omega
       have HA := Lib.hid ha
       have HLO := Lib.hid hlo
       have HDD := Lib.hid hd
       have haL : a ≤ s.size := by omega
       have hd0 : decide ((0 : Int) < ((a : Nat) : Int)) = true := by simp; omega
       have hloL : lo ≤ 4000 := by omega
       have hlo0 : (0 : Int) ≤ ((lo : Nat) : Int) := by omega
       have HK0 := Lib.hid h0
       clear ha hd h0 hlo
       go_wp2
       go_loop [6, 7] (fun v6 v7 => ∃ j D : Nat, j ≤ d ∧ v7 = .int .i64 ((lo + j : Nat) : Int) ∧ v6 = .int .i64 ((D : Nat) : Int) ∧ D < 10000 ∧ Hid (D = valT (fun i => dv (f (lo + i))) j) ∧ Hid (∀ i, i < j → 48 ≤ f (lo + i) ∧ f (lo + i) ≤ 57)) (fun v6 v7 => (((a : Nat) : Int) - intOf v7).toNat)
       case atStart => exact ⟨0, 0, Nat.zero_le _, by simp, rfl, by omega, Lib.hid rfl, Lib.hid (fun i h => by omega)⟩
       case round =>
        obtain ⟨j, D, hj, rfl, rfl, hD, HDV, HJ⟩ := hrel
        have HJ9 := Lib.hid hj
        by_cases hjd : j < d
        ·obtain ⟨i, hi⟩ : ∃ i, i = lo + j := ⟨_, rfl⟩
         rw [← hi]
         have hia : i < a := by have := HLO.out; omega
         have hiL : i < s.size := by omega
         have q0 : (0 : Int) ≤ ((i : Nat) : Int) := by omega
         have q1 : ((i : Nat) : Int) < (s.size : Int) := by omega
         have q2 : decide (((i : Nat) : Int) < ((a : Nat) : Int)) = true := by simp; omega
         have q3 : decide (i < a) = true := by simp; omega
         have xi := HB.out i hiL
         obtain ⟨c, hc⟩ : ∃ c, c = f i := ⟨_, rfl⟩
         rw [← hc] at xi
         have HC : Hid (c = f (lo + j)) := Lib.hid (by rw [hc, hi])
         have HI := Lib.hid hi
         have HIA := Lib.hid hia
         clear hc hi hia hjd
         by_cases g1 : 48 ≤ c
         ·have e1 : decide (((c : Nat) : Int) < 48) = false := by simp; omega
          by_cases g2 : c ≤ 57
          ·have e2 : decide ((57 : Int) < ((c : Nat) : Int)) = false := by simp; omega
           have e4 := u8_dv c g1 g2
           obtain ⟨c', hc'⟩ : ∃ c', c' = dv c := ⟨_, rfl⟩
           have hc9 : c' < 10 := by rw [hc']; exact dv_lt _
           rw [← hc'] at e4
           have HDN : Hid (10 * D + c' = valT (fun i => dv (f (lo + i))) (j + 1)) := Lib.hid (by
            rw [hc', HDV.out, HC.out]; rfl)
           have HDB : Hid (10 * D + c' < 10000) := Lib.hid (by
            rw [HDN.out]
            have := valT_lt (g := fun i => dv (f (lo + i))) (fun i => dv_lt _) (j + 1)
            have h4 : (10 : Nat) ^ (j + 1) ≤ 10 ^ 4 := Nat.pow_le_pow_right (by omega) (by have := HI.out; have := HIA.out; have := HLO.out; omega)
            omega)
           have HG : Hid (48 ≤ c ∧ c ≤ 57) := Lib.hid ⟨g1, g2⟩
           clear g1 g2 hc'
           go_wp2
           go_round
           case rel => exact ⟨j + 1, 10 * D + c', by have := HI.out; have := HIA.out; have := HLO.out; omega, by rw [HI.out]; go_num, by go_num, HDB.out, HDN, Lib.hid (fun i' h => by
            by_cases e : i' = j
            ·subst e; rw [← HC.out]; exact HG.out
            ·exact HJ.out i' (by omega))⟩
           case measure => have := HIA.out; simp [intOf]; omega
          ·have e2 : decide ((57 : Int) < ((c : Nat) : Int)) = true := by simp; omega
           have HN : Hid (¬ okD s.size f) := Lib.hid (fun h => g2 (by rw [HC.out]; exact (h.2.2.2 _ (by rw [← HI.out]; exact hiL)).2))
           clear g1 g2
           go_wp2
           refine bodyPost_ret (v := .tuple #[.agg #[.bool false, .slice none 0 0], .bool false]) (by simp [results, Tryz.results152, go_sem, r0, r1, rf, rl]) rfl ?_
           obtain ⟨rfl, rfl⟩ := dig_no HOK.out HVV.out HN.out
           exact ⟨_, rfl, zis_nil _ _, (IS.out.kw.setCell (Nat.le_refl _) _).setCell (Nat.le_refl _) _⟩
         ·have e1 : decide (((c : Nat) : Int) < 48) = true := by simp; omega
          have HN : Hid (¬ okD s.size f) := Lib.hid (fun h => g1 (by rw [HC.out]; exact (h.2.2.2 _ (by rw [← HI.out]; exact hiL)).1))
          clear g1
          go_wp2
          refine bodyPost_ret (v := .tuple #[.agg #[.bool false, .slice none 0 0], .bool false]) (by simp [results, Tryz.results152, go_sem, r0, r1, rf, rl]) rfl ?_
          obtain ⟨rfl, rfl⟩ := dig_no HOK.out HVV.out HN.out
          exact ⟨_, rfl, zis_nil _ _, (IS.out.kw.setCell (Nat.le_refl _) _).setCell (Nat.le_refl _) _⟩
        ·obtain rfl : j = d := by omega
         have q2 : decide (((lo + j : Nat) : Int) < ((a : Nat) : Int)) = false := by have := HLO.out; simp; omega
         obtain ⟨i, hi⟩ : ∃ i, i = lo + j := ⟨_, rfl⟩
         have q3 : decide (i < a) = false := by have := HLO.out; simp; omega
         rw [← hi] at q2 ⊢
         obtain rfl : D = dg V k := by rw [HDV.out, HBLK.out]
         clear hi hjd hj HDV
         go_wp2_with (at_builtin; refine wpList_append_own _ rfl (.tmp 62) (.tmp 64) 22 rfl (w.heap.size + 2) 3 i0_ (.int .i64 0) 1 8 Tryz.underlying22 hinf hz0 hz1 hz2 rfl (by decide) (.slice va k vk) k (ics (dI (dg V)) k) rfl (IS.out.row.alloc _) ⟨wr.heap.size, 0, none⟩ 1 1 [.int .i64 ((dg V k : Nat) : Int)] rfl rfl (new1 wr (.int .i64 ((dg V k : Nat) : Int)) 3) (one1 _ rfl) (by unfold maxLen; omega) (by omega) (by have := IS.out.sz; simp; omega) ?_; intro v' w5 hown hgrow _; obtain ⟨va5, vk5, rfl, hz5, hi5⟩ := IS.out.grown hgrow hown; have IS5 := Lib.hid hi5; have z1 := hz5.c1; have zl := hz5.lt; have zf := hz5.f; clear hown hgrow hz5 hi5 b0 b1 bf bl r0 r1 rf rl)
         go_roundw
         case rel =>
          refine ⟨k + 1, by have := HK0.out; omega, by have e1 := HA.out; congr 1; omega, Lib.hid (fun i' h1 h2 => ?_), va5, vk5, IS5⟩
          by_cases e : s.size - 4 * k ≤ i'
          ·exact HD.out i' e h2
          ·have e1 := HLO.out
           have e2 := HDD.out
           have e3 := HA.out
           obtain ⟨t, rfl⟩ : ∃ t, i' = lo + t := ⟨i' - lo, by omega⟩
           exact HJ.out t (by omega)
         case measure => simp [intOf]; omega
      ·have hge : s.size ≤ 4 * k := by omega
       have hnk : nd V ≤ k := by rw [HV.out]; exact valT_nd (fun i => dv_lt _) s.size k hge
       have HVAL := Lib.hid (valD_dg_le V k hnk)
       have HLT := Lib.hid (fun (i : Nat) (_ : i < k) => dg_lt V i)
       have HRAW : Hid (Raw wr (.slice va k vk) k (dg V)) := Lib.hid (ints_of_own IS.out.row)
       have HKB : Hid (k ≤ 1099511627776) := Lib.hid (by omega)
       have HOKD : Hid (okD s.size f) := Lib.hid ⟨h1, h2, HL.out, fun i hi => HD.out i (by omega) hi⟩
       have hva : decide ((0 : Int) < (s.size : Int) - 4 * ((k : Nat) : Int)) = false := by simp; omega
       obtain ⟨t, ht⟩ : ∃ t : Int, t = (s.size : Int) - 4 * ((k : Nat) : Int) := ⟨_, rfl⟩
       rw [← ht] at hva ⊢
       clear ht hge hnk h0
       go_wp2_with (go_at_call 153; (with_reducible refine (lean_val _ false k (dg V) V _ HRAW.out HLT.out HVAL.out HKB.out).mono ?_); rintro e w6 ⟨a6, c6, rfl, hd6, hb6⟩; have HD6 := Lib.hid hd6; clear hd6; have KW6 := Lib.hid (IS.out.kw.trans (hb6.mono IS.out.kw.size)); have OR6 := Lib.hid (IS.out.orr.below hb6 IS.out.orr.lt); clear r0 r1 rf rl b0 b1 bf bl; have r0 := OR6.out.c0; have r1 := OR6.out.c1; have rf := OR6.out.f; have rl := OR6.out.lt)
       refine bodyPost_ret (v := .tuple #[.agg #[.bool false, .slice a6 (nd V) c6], .bool true]) (by simp [results, Tryz.results152, go_sem, r0, r1, rf, rl]) rfl ?_
       obtain ⟨rfl, rfl⟩ := dig_yes HOK.out HVV.out HOKD.out
       refine ⟨_, rfl, ?_, (KW6.out.setCell (Nat.le_refl _) _).setCell (Nat.le_refl _) _⟩
       rw [← HV.out]
       exact ⟨.slice a6 (nd V) c6, by simp, by simpa using HD6.out.store2 _ _ OR6.out.c0 OR6.out.c1 (noInt_bool _) (noInt_slice _ _ _), by simpa using hnd⟩
   ·have e3 : (((f 0 : Nat) : Int) == 48) = false := by simp; omega
    have HL : Hid (¬ (f 0 = 48 ∧ 1 < s.size)) := Lib.hid (fun h => h3 h.1)
    clear h3
    obtain ⟨i0_, hinf, hz0, hz1, hz2⟩ := info_parts infoI
    obtain ⟨V, hV⟩ : ∃ V, V = numD s.size f := ⟨_, rfl⟩
    have HV := Lib.hid hV
    have IS0 := Lib.hid (IntS.start w false V)
    have hnd : nd V ≤ 1000 := by rw [hV]; exact valT_nd (fun i => dv_lt _) s.size 1000 (by omega)
    clear hV
    go_enter Tryz.func152, Tryz.ntmps152
    go_wp2_with fail
    clear d1 d2 x0 p0 i0 e3
    go_loopw [5] (fun v5 wr => ∃ k : Nat, 4 * k < s.size + 4 ∧ v5 = .int .i64 ((s.size : Int) - 4 * ((k : Nat) : Int)) ∧ Hid (∀ i, s.size - 4 * k ≤ i → i < s.size → 48 ≤ f i ∧ f i ≤ 57) ∧ ∃ va vk, Hid (IntS w wr false k V va vk)) (fun v5 _ => (intOf v5).toNat)
    case atStart => exact ⟨0, by omega, by simp, Lib.hid (fun i h1 h2 => by omega), none, 0, IS0⟩
    case round =>
     clear IS0
     obtain ⟨k, hk, rfl, HD, va, vk, IS⟩ := hrel
     have b0 := IS.out.oz.c0
     have b1 := IS.out.oz.c1
     have bf := IS.out.oz.f
     have bl := IS.out.oz.lt
     have r0 := IS.out.orr.c0
     have r1 := IS.out.orr.c1
     have rf := IS.out.orr.f
     have rl := IS.out.orr.lt
     by_cases h0 : 4 * k < s.size
     ·obtain ⟨a, ha⟩ : ∃ a, s.size = a + 4 * k := ⟨s.size - 4 * k, by omega⟩
      have hva : (s.size : Int) - 4 * ((k : Nat) : Int) = ((a : Nat) : Int) := by omega
      have ha0 : 0 < a := by omega
      rw [hva]
      clear hva
      obtain ⟨lo, d, hlo, hd, hmx⟩ : ∃ lo d : Nat, a = lo + d ∧ (d = 4 ∨ (d < 4 ∧ lo = 0)) ∧ max (0 : Int) (((a : Nat) : Int) - 4) = ((lo : Nat) : Int) := by
       by_cases h : 4 ≤ a
       ·exact ⟨a - 4, 4, by omega, .inl rfl, by omega⟩
       ·exact ⟨0, a, by omega, .inr ⟨by omega, rfl⟩, by omega⟩
      have HBLK : Hid (valT (fun i => dv (f (lo + i))) d = dg V k) := Lib.hid (by
       rw [HV.out]
       exact valT_block (fun i => dv_lt _) s.size k a lo d ha hlo hd)
      have hd4 : d ≤ 4 := by omega
      have hwa : IntKind.i64.wrap (((a : Nat) : Int) - 4) = ((a : Nat) : Int) - 4 := by rw [IntKind.wrap_i64]; omega
      have HA := Lib.hid ha
      have HLO := Lib.hid hlo
      have HDD := Lib.hid hd
      have haL : a ≤ s.size := by omega
      have hd0 : decide ((0 : Int) < ((a : Nat) : Int)) = true := by simp; omega
      have hloL : lo ≤ 4000 := by omega
      have hlo0 : (0 : Int) ≤ ((lo : Nat) : Int) := by omega
      have HK0 := Lib.hid h0
      clear ha hd h0 hlo
      go_wp2
      go_loop [6, 7] (fun v6 v7 => ∃ j D : Nat, j ≤ d ∧ v7 = .int .i64 ((lo + j : Nat) : Int) ∧ v6 = .int .i64 ((D : Nat) : Int) ∧ D < 10000 ∧ Hid (D = valT (fun i => dv (f (lo + i))) j) ∧ Hid (∀ i, i < j → 48 ≤ f (lo + i) ∧ f (lo + i) ≤ 57)) (fun v6 v7 => (((a : Nat) : Int) - intOf v7).toNat)
      case atStart => exact ⟨0, 0, Nat.zero_le _, by simp, rfl, by omega, Lib.hid rfl, Lib.hid (fun i h => by omega)⟩
      case round =>
       obtain ⟨j, D, hj, rfl, rfl, hD, HDV, HJ⟩ := hrel
       have HJ9 := Lib.hid hj
       by_cases hjd : j < d
       ·obtain ⟨i, hi⟩ : ∃ i, i = lo + j := ⟨_, rfl⟩
        rw [← hi]
        have hia : i < a := by have := HLO.out; omega
        have hiL : i < s.size := by omega
        have q0 : (0 : Int) ≤ ((i : Nat) : Int) := by omega
        have q1 : ((i : Nat) : Int) < (s.size : Int) := by omega
        have q2 : decide (((i : Nat) : Int) < ((a : Nat) : Int)) = true := by simp; omega
        have q3 : decide (i < a) = true := by simp; omega
        have xi := HB.out i hiL
        obtain ⟨c, hc⟩ : ∃ c, c = f i := ⟨_, rfl⟩
        rw [← hc] at xi
        have HC : Hid (c = f (lo + j)) := Lib.hid (by rw [hc, hi])
        have HI := Lib.hid hi
        have HIA := Lib.hid hia
        clear hc hi hia hjd
        by_cases g1 : 48 ≤ c
        ·have e1 : decide (((c : Nat) : Int) < 48) = false := by simp; omega
         by_cases g2 : c ≤ 57
         ·have e2 : decide ((57 : Int) < ((c : Nat) : Int)) = false := by simp; omega
          have e4 := u8_dv c g1 g2
          obtain ⟨c', hc'⟩ : ∃ c', c' = dv c := ⟨_, rfl⟩
          have hc9 : c' < 10 := by rw [hc']; exact dv_lt _
          rw [← hc'] at e4
          have HDN : Hid (10 * D + c' = valT (fun i => dv (f (lo + i))) (j + 1)) := Lib.hid (by
           rw [hc', HDV.out, HC.out]; rfl)
          have HDB : Hid (10 * D + c' < 10000) := Lib.hid (by
           rw [HDN.out]
           have := valT_lt (g := fun i => dv (f (lo + i))) (fun i => dv_lt _) (j + 1)
           have h4 : (10 : Nat) ^ (j + 1) ≤ 10 ^ 4 := Nat.pow_le_pow_right (by omega) (by have := HI.out; have := HIA.out; have := HLO.out; omega)
           omega)
          have HG : Hid (48 ≤ c ∧ c ≤ 57) := Lib.hid ⟨g1, g2⟩
          clear g1 g2 hc'
          go_wp2
          go_round
          case rel => exact ⟨j + 1, 10 * D + c', by have := HI.out; have := HIA.out; have := HLO.out; omega, by rw [HI.out]; go_num, by go_num, HDB.out, HDN, Lib.hid (fun i' h => by
           by_cases e : i' = j
           ·subst e; rw [← HC.out]; exact HG.out
           ·exact HJ.out i' (by omega))⟩
          case measure => have := HIA.out; simp [intOf]; omega
         ·have e2 : decide ((57 : Int) < ((c : Nat) : Int)) = true := by simp; omega
          have HN : Hid (¬ okD s.size f) := Lib.hid (fun h => g2 (by rw [HC.out]; exact (h.2.2.2 _ (by rw [← HI.out]; exact hiL)).2))
          clear g1 g2
          go_wp2
          refine bodyPost_ret (v := .tuple #[.agg #[.bool false, .slice none 0 0], .bool false]) (by simp [results, Tryz.results152, go_sem, r0, r1, rf, rl]) rfl ?_
          obtain ⟨rfl, rfl⟩ := dig_no HOK.out HVV.out HN.out
          exact ⟨_, rfl, zis_nil _ _, (IS.out.kw.setCell (Nat.le_refl _) _).setCell (Nat.le_refl _) _⟩
        ·have e1 : decide (((c : Nat) : Int) < 48) = true := by simp; omega
         have HN : Hid (¬ okD s.size f) := Lib.hid (fun h => g1 (by rw [HC.out]; exact (h.2.2.2 _ (by rw [← HI.out]; exact hiL)).1))
         clear g1
         go_wp2
         refine bodyPost_ret (v := .tuple #[.agg #[.bool false, .slice none 0 0], .bool false]) (by simp [results, Tryz.results152, go_sem, r0, r1, rf, rl]) rfl ?_
         obtain ⟨rfl, rfl⟩ := dig_no HOK.out HVV.out HN.out
         exact ⟨_, rfl, zis_nil _ _, (IS.out.kw.setCell (Nat.le_refl _) _).setCell (Nat.le_refl _) _⟩
       ·obtain rfl : j = d := by omega
        have q2 : decide (((lo + j : Nat) : Int) < ((a : Nat) : Int)) = false := by have := HLO.out; simp; omega
        obtain ⟨i, hi⟩ : ∃ i, i = lo + j := ⟨_, rfl⟩
        have q3 : decide (i < a) = false := by have := HLO.out; simp; omega
        rw [← hi] at q2 ⊢
        obtain rfl : D = dg V k := by rw [HDV.out, HBLK.out]
        clear hi hjd hj HDV
        go_wp2_with (at_builtin; refine wpList_append_own _ rfl (.tmp 62) (.tmp 64) 22 rfl (w.heap.size + 2) 3 i0_ (.int .i64 0) 1 8 Tryz.underlying22 hinf hz0 hz1 hz2 rfl (by decide) (.slice va k vk) k (ics (dI (dg V)) k) rfl (IS.out.row.alloc _) ⟨wr.heap.size, 0, none⟩ 1 1 [.int .i64 ((dg V k : Nat) : Int)] rfl rfl (new1 wr (.int .i64 ((dg V k : Nat) : Int)) 3) (one1 _ rfl) (by unfold maxLen; omega) (by omega) (by have := IS.out.sz; simp; omega) ?_; intro v' w5 hown hgrow _; obtain ⟨va5, vk5, rfl, hz5, hi5⟩ := IS.out.grown hgrow hown; have IS5 := Lib.hid hi5; have z1 := hz5.c1; have zl := hz5.lt; have zf := hz5.f; clear hown hgrow hz5 hi5 b0 b1 bf bl r0 r1 rf rl)
        go_roundw
        case rel =>
         refine ⟨k + 1, by have := HK0.out; omega, by have e1 := HA.out; congr 1; omega, Lib.hid (fun i' h1 h2 => ?_), va5, vk5, IS5⟩
         by_cases e : s.size - 4 * k ≤ i'
         ·exact HD.out i' e h2
         ·have e1 := HLO.out
          have e2 := HDD.out
          have e3 := HA.out
          obtain ⟨t, rfl⟩ : ∃ t, i' = lo + t := ⟨i' - lo, by omega⟩
          exact HJ.out t (by omega)
        case measure => simp [intOf]; omega
     ·have hge : s.size ≤ 4 * k := by omega
      have hnk : nd V ≤ k := by rw [HV.out]; exact valT_nd (fun i => dv_lt _) s.size k hge
      have HVAL := Lib.hid (valD_dg_le V k hnk)
      have HLT := Lib.hid (fun (i : Nat) (_ : i < k) => dg_lt V i)
      have HRAW : Hid (Raw wr (.slice va k vk) k (dg V)) := Lib.hid (ints_of_own IS.out.row)
      have HKB : Hid (k ≤ 1099511627776) := Lib.hid (by omega)
      have HOKD : Hid (okD s.size f) := Lib.hid ⟨h1, h2, HL.out, fun i hi => HD.out i (by omega) hi⟩
      have hva : decide ((0 : Int) < (s.size : Int) - 4 * ((k : Nat) : Int)) = false := by simp; omega
      obtain ⟨t, ht⟩ : ∃ t : Int, t = (s.size : Int) - 4 * ((k : Nat) : Int) := ⟨_, rfl⟩
      rw [← ht] at hva ⊢
      clear ht hge hnk h0
      go_wp2_with (go_at_call 153; (with_reducible refine (lean_val _ false k (dg V) V _ HRAW.out HLT.out HVAL.out HKB.out).mono ?_); rintro e w6 ⟨a6, c6, rfl, hd6, hb6⟩; have HD6 := Lib.hid hd6; clear hd6; have KW6 := Lib.hid (IS.out.kw.trans (hb6.mono IS.out.kw.size)); have OR6 := Lib.hid (IS.out.orr.below hb6 IS.out.orr.lt); clear r0 r1 rf rl b0 b1 bf bl; have r0 := OR6.out.c0; have r1 := OR6.out.c1; have rf := OR6.out.f; have rl := OR6.out.lt)
      refine bodyPost_ret (v := .tuple #[.agg #[.bool false, .slice a6 (nd V) c6], .bool true]) (by simp [results, Tryz.results152, go_sem, r0, r1, rf, rl]) rfl ?_
      obtain ⟨rfl, rfl⟩ := dig_yes HOK.out HVV.out HOKD.out
      refine ⟨_, rfl, ?_, (KW6.out.setCell (Nat.le_refl _) _).setCell (Nat.le_refl _) _⟩
      rw [← HV.out]
      exact ⟨.slice a6 (nd V) c6, by simp, by simpa using HD6.out.store2 _ _ OR6.out.c0 OR6.out.c1 (noInt_bool _) (noInt_slice _ _ _), by simpa using hnd⟩
  ·have d2 : decide ((4000 : Int) < (s.size : Int)) = true := by simp; omega
   have HN : Hid (¬ okD s.size f) := Lib.hid (fun h => h2 h.2.1)
   clear h1 h2
   go_enter Tryz.func152, Tryz.ntmps152
   go_wp2
   refine bodyPost_ret (v := .tuple #[.agg #[.bool false, .slice none 0 0], .bool false]) (by simp [results, Tryz.results152, go_sem]) rfl ?_
   obtain ⟨rfl, rfl⟩ := dig_no HOK.out HVV.out HN.out
   exact ⟨_, rfl, zis_nil _ _, KW1.out⟩
 ·have d1 : decide ((s.size : Int) < 1) = true := by simp; omega
  have HN : Hid (¬ okD s.size f) := Lib.hid (fun h => h1 h.1)
  clear h1
  go_enter Tryz.func152, Tryz.ntmps152
  go_wp2
  refine bodyPost_ret (v := .tuple #[.agg #[.bool false, .slice none 0 0], .bool false]) (by simp [results, Tryz.results152, go_sem]) rfl ?_
  obtain ⟨rfl, rfl⟩ := dig_no HOK.out HVV.out HN.out
  exact ⟨_, rfl, zis_nil _ _, KW1.out⟩
end Go.Proofs.YtolkchkedieppaaGreat

/- The reference's fractions: their shape. -/
namespace Go.Proofs.YtolkchkedieppaaGreat
open Go.RowKit
attribute [local go_sem ↓] Go.wp_at_zero Go.wp_at_succ
theorem QIs.shape {w : World} {v : Value} {p d : Int} {m : Nat} (h : QIs w v p d m) : ∃ s a n c t b l e, v = .agg #[.bool s, .slice a n c, .bool t, .slice b l e] ∧ Hid (ZIs w (.agg #[.bool s, .slice a n c]) p m) ∧ Hid (ZIs w (.agg #[.bool t, .slice b l e]) d m) ∧ 0 < d := by
 obtain ⟨s1, u1, s2, u2, rfl, h1, h2, h3⟩ := h
 obtain ⟨s, a, n, c, e1, k1⟩ := h1.shape
 obtain ⟨t, b, l, e, e2, k2⟩ := h2.shape
 injection e1 with e1; injection e1 with e1; injection e2 with e2; injection e2 with e2
 simp only [List.cons.injEq, and_true] at e1 e2
 obtain ⟨e1, e3⟩ := e1
 obtain ⟨e2, e4⟩ := e2
 subst e3 e4
 injection e1 with e1; injection e2 with e2
 subst e1 e2
 exact ⟨_, a, n, c, _, b, l, e, rfl, k1, k2, h3⟩
theorem below_set4q {B : Nat} {w0 w : World} (h : Below B w0 w) {b : Nat} (hb : B ≤ b) (v0 v1 v2 v3 : Value) : Below B w0 ((((w.setCell ⟨b, 0, none⟩ v0).setCell ⟨b, 1, none⟩ v1).setCell ⟨b, 2, none⟩ v2).setCell ⟨b, 3, none⟩ v3) :=
 (((h.setCell hb v0).setCell hb v1).setCell hb v2).setCell hb v3
end Go.Proofs.YtolkchkedieppaaGreat
