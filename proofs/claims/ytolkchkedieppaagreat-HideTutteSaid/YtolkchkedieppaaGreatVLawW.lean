/- The law HideTutte: its walk. (Printed by gen_laww.py.) -/
import Derived.Test.YtolkchkedieppaaGreatVFig
import Derived.Test.YtolkchkedieppaaGreatVRme
import Derived.Test.YtolkchkedieppaaGreatVLawQ
import Derived.Test.YtolkchkedieppaaGreatVPlainTz
import Derived.Test.YtolkchkedieppaaGreatVLivH
set_option linter.unusedVariables false
set_option linter.unusedSimpArgs false
namespace Go.Proofs.YtolkchkedieppaaGreat
open Go.RowKit
attribute [local go_sem ↓] Go.wp_at_zero Go.wp_at_succ
set_option maxHeartbeats 8000000 in
set_option maxRecDepth 100000 in
theorem lawTutte (v : Value) (n0 : Nat) (g : Nat → Nat) (t : Bool) (w : World) (hv : By8 w v n0 g) (hn0 : n0 ≤ 9223372036854775807) :
  Calls Tryz.prog 8 #[v, .bool t] w fun e w' => e = .returned (.bool true) ∧ Below w.heap.size w w' := by
 have HMD := madeS_any v n0 24 g w hv hn0 (by omega) (by omega)
 rw [show ((24 : Nat) : Int) = 24 from rfl] at HMD
 obtain ⟨⟨xa, xb, xo, xc, rfl, hsx⟩, hgx⟩ := hv
 clear hsx hgx
 obtain ⟨i0, hinf, hz0, hz1, hz2⟩ := info_parts infoSq
 go_enter Tryz.func8, Tryz.ntmps8
 go_upto_region 2 with (first
  | (go_at_call 23; (with_reducible refine HMD.mono ?_); rintro e w1 ⟨ma, mk, L, W, H, rfl, MD⟩))
 have MK := Lib.hid MD.out.mkc
 have HO0 := Lib.hid (ows_of MD.out.own MD.out.mkc.pos)
 have KB := Lib.hid MD.out.kb
 have hL24 := MD.out.len
 have hL1 := MD.out.mkc.pos
 clear MD HMD
 obtain ⟨n, hN⟩ : ∃ n, n = L.length := ⟨_, rfl⟩
 rw [← hN] at hL24 hL1 ⊢
 have HLN := Lib.hid hN.symm
 rw [← hN] at HO0
 clear hN
 go_upto_if 25 with (fail)
 go_cut [5] (fun v5 wx => ∃ (n : Nat) (L : List Tr) (W H B : Nat) (va : Option Addr) (vk : Nat), n ≤ 24 ∧ 1 ≤ n ∧ v5 = .slice va n vk ∧ Hid (OwS B wx (.slice va n vk) L) ∧ Hid (MkC L W H) ∧ Hid (L.length = n) ∧ Hid (Below w.heap.size w wx))
 case first =>
  cases t with
  | false =>
   go_wp2
   go_meet
   case rel => exact ⟨n, L, W, H, _, ma, mk, hL24, hL1, rfl, HO0, MK, HLN, KB⟩
  | true =>
   have LI : Hid (Ints (w1.alloc (.cells #[.int .i64 18, .int .i64 14, .int .i64 4, .int .i64 10, .int .i64 15, .int .i64 7, .int .i64 1, .int .i64 9, .int .i64 8] 3)) (.slice (some ⟨w1.heap.size, 0, none⟩) 9 9) 9 (eF L9)) :=
    Lib.hid (slH_new w1 [.int .i64 18, .int .i64 14, .int .i64 4, .int .i64 10, .int .i64 15, .int .i64 7, .int .i64 1, .int .i64 9, .int .i64 8] 3 (ic (eF L9)) (fun i hi => by
     have hi : i < 9 := hi
     rcases (by omega : i = 0 ∨ i = 1 ∨ i = 2 ∨ i = 3 ∨ i = 4 ∨ i = 5 ∨ i = 6 ∨ i = 7 ∨ i = 8) with rfl | rfl | rfl | rfl | rfl | rfl | rfl | rfl | rfl <;> rfl))
   have KA := Lib.hid (KB.out.alloc KB.out.size (.cells #[.int .i64 18, .int .i64 14, .int .i64 4, .int .i64 10, .int .i64 15, .int .i64 7, .int .i64 1, .int .i64 9, .int .i64 8] 3))
   have hr3 : n0 % 3 = 0 ∨ n0 % 3 = 1 ∨ n0 % 3 = 2 := by omega
   go_upto_region 4 with (go_at_call 16; go_loud ((with_reducible refine (lay9 _ _ LI.out).mono ?_); rintro e w2 ⟨la, lk, rfl, ho, hb⟩; have HO9 := Lib.hid ho; have KB := Lib.hid (KA.out.trans (hb.mono KA.out.size)); have HZ2 := Lib.hid KB.out.size; clear ho hb))
   clear LI KA HO0 MK
   rcases hr3 with hr | hr | hr
   ·have t1 : Int.tmod (n0 : Int) 3 = 0 := by have : Int.tmod (n0 : Int) 3 = ((n0 % 3 : Nat) : Int) := rfl; rw [this, hr]; rfl
    have t2 : (n0 : Int) % 3 = 0 := by omega
    clear hr
    go_wp2
    go_meet
    case rel => exact ⟨9, S9, 32, 33, _, la, lk, by omega, by omega, rfl, HO9, Lib.hid s9_mk, Lib.hid rfl, KB⟩
   ·have t1 : Int.tmod (n0 : Int) 3 = 1 := by have : Int.tmod (n0 : Int) 3 = ((n0 % 3 : Nat) : Int) := rfl; rw [this, hr]; rfl
    have t2 : (n0 : Int) % 3 = 1 := by omega
    clear hr
    go_wp2_with (go_at_call 33; go_loud ((with_reducible refine (turned9 _ _ HO9.out).mono ?_); rintro e w3 ⟨ta, tk, rfl, ho, hb⟩; have HOT := Lib.hid ho; have KB := Lib.hid (KB.out.trans (hb.mono KB.out.size)); clear ho hb))
    go_meet
    case rel => exact ⟨9, S9.map swT, 33, 32, _, ta, tk, by omega, by omega, rfl, HOT, Lib.hid s9t_mk, Lib.hid rfl, KB⟩
   ·have t1 : Int.tmod (n0 : Int) 3 = 2 := by have : Int.tmod (n0 : Int) 3 = ((n0 % 3 : Nat) : Int) := rfl; rw [this, hr]; rfl
    have t2 : (n0 : Int) % 3 = 2 := by omega
    clear hr
    go_upto_region 8 with (first
     | (go_at_call 33; go_loud ((with_reducible refine (turned9 _ _ HO9.out).mono ?_); rintro e w3 ⟨ta, tk, rfl, ho, hb⟩; have HOT := Lib.hid ho; have HZ3 := Lib.hid hb.size; have KB := Lib.hid (KB.out.trans (hb.mono KB.out.size)); clear ho hb))
     | (go_at_call 24; go_loud ((with_reducible refine (rmeas_mk _ (S9.map swT) 33 32 _ HOT.out s9t_mk (by decide)).mono ?_); rintro e w4 ⟨rfl, hb⟩; have HOT := Lib.hid (HOT.out.below hb); have HZ4 := Lib.hid hb.size; have KB := Lib.hid (KB.out.trans (hb.mono KB.out.size)); clear hb)))
    have OWN9 : Hid (w4.ownsRow w2.heap.size 47 3 (.slice ta 9 tk) 9 (trL (S9.map swT))) := Lib.hid HOT.out.own
    have HZ : Hid (w2.heap.size ≤ w4.heap.size) := Lib.hid (Nat.le_trans HZ3.out HZ4.out)
    have HQ9 : Hid (trL (S9.map swT) ++ trC ⟨33, 0, 32⟩ = trL (S9.map swT ++ [⟨33, 0, 32⟩])) := Lib.hid (by rw [trL_app]; simp [trL])
    clear HOT HO9 HZ3 HZ4 t1 t2
    go_wp2_with (at_builtin; refine wpList_append_own_at _ rfl (.tmp 46) (.tmp 50) 23 rfl w2.heap.size 47 i0 _ 3 24 Tryz.underlying23 hinf hz0 hz1 hz2 rfl (by decide) (.slice ta 9 tk) 9 (trL (S9.map swT)) rfl (OWN9.out.alloc _) ⟨w4.heap.size, 0, none⟩ 1 1 (trC ⟨33, 0, 32⟩) rfl rfl (newT1 w4 ⟨33, 0, 32⟩ _) (oneT ⟨33, 0, 32⟩) (by unfold maxLen; omega) (by omega) (by have := HZ.out; simp; omega) ?_; intro v' w5 hown hgrow _ hbk; rw [HQ9.out] at hown; have KB5 := Lib.hid ((KB.out.alloc KB.out.size _).grown hgrow (by have := KB.out.size; simp; omega) (fun kk e => Nat.le_trans HZ2.out (OWN9.out.lt kk e).1)); have OW5 := Lib.hid (ows_of (L := S9.map swT ++ [⟨33, 0, 32⟩]) hown (by decide)); obtain ⟨va5, vk5, rfl⟩ := own_shape hown; clear hown hgrow hbk)
    go_meet
    case rel => exact ⟨10, _, 65, 32, _, va5, vk5, by omega, by omega, rfl, OW5, Lib.hid s9x_mk, Lib.hid rfl, KB5⟩
 case rest =>
  obtain ⟨n, L, W, H, B, va, vk, hn24, hn1, rfl, HO, HM, HL, KB⟩ := hcut
  have HWH : Hid (MaxD (((H : Nat) : Rat) / ((W : Nat) : Rat)).num.natAbs ∧ MaxD (((H : Nat) : Rat) / ((W : Nat) : Rat)).den) := Lib.hid (hw_maxD HM.out)
  have hw1 := HM.out.w1
  have hw2 := HM.out.wb
  have hh1 := HM.out.h1
  have hh2 := HM.out.hb
  go_upto_region 10 with (go_at_call 20; go_loud ((with_reducible refine (net_n _ L W H n _ HO.out HM.out HL.out hn24).mono ?_); rintro e w2 ⟨gp, pk, S, J, hnp, hp, hs, hsl, rfl, hpr, hgp, hb⟩; have HNP := Lib.hid hnp; have HP := Lib.hid hp; have HS := Lib.hid hs; have HSL := Lib.hid hsl; have HPR := Lib.hid hpr; have HGP := Lib.hid hgp; have HO := Lib.hid (HO.out.below hb); have KB := Lib.hid (KB.out.trans (hb.mono KB.out.size)); clear hnp hp hs hsl hpr hgp hb))
  go_upto_region 12 with (go_at_call 18; go_loud ((with_reducible refine (livesH_true _).mono ?_); rintro e w3 ⟨rfl, hb⟩; have HPR := Lib.hid (HPR.out.below hb HGP.out); have HGP := Lib.hid (Nat.lt_of_lt_of_le HGP.out hb.size); have HO := Lib.hid (HO.out.below hb); have KB := Lib.hid (KB.out.trans (hb.mono KB.out.size)); clear hb))
  go_upto_region 14 with (first
   | (go_at_call 25; go_loud ((with_reducible refine (cur_mk n S J W H gp pk _ HNP.out HSL.out HPR.out HGP.out).mono ?_); rintro e w4 ⟨ka, kk, ss, rfl, htq, hst, hb⟩; have HTQ := Lib.hid htq; have HST := Lib.hid hst; have HPR := Lib.hid (HPR.out.below hb HGP.out); have HGP := Lib.hid (Nat.lt_of_lt_of_le HGP.out hb.size); have HO := Lib.hid (HO.out.below hb); have KB := Lib.hid (KB.out.trans (hb.mono KB.out.size)); clear htq hst hb))
   | (go_at_call 26; go_loud ((with_reducible refine (res_mk n S J W H gp pk _ HNP.out HSL.out HPR.out HGP.out).mono ?_); rintro e w5 ⟨sr, rfl, hfr, hb⟩; have HFR := Lib.hid hfr; have HST : Hid (Strs _ _ _ _) := Lib.hid (Sl.mono HST.out hb (Nat.le_refl _)); have HO := Lib.hid (HO.out.below hb); have KB := Lib.hid (KB.out.trans (hb.mono KB.out.size)); clear hfr hb HPR HGP)))
  go_upto_region 16 with (go_at_call 34; go_loud ((with_reducible refine (rnums_any _ n (tutQ S) ss _ HST.out (by omega) HTQ.out).mono ?_); rintro e w6 ⟨rfl, hb⟩; have HST : Hid (Strs _ _ _ _) := Lib.hid (Sl.mono HST.out hb (Nat.le_refl _)); have HO := Lib.hid (HO.out.below hb); have KB := Lib.hid (KB.out.trans (hb.mono KB.out.size)); clear hb))
  go_upto_region 17 with (go_at_call 35; go_loud ((with_reducible refine (code_n _ L S W H n _ HO.out HM.out HL.out hn24 HP.out HS.out).mono ?_); rintro e w7 ⟨ca, ck, rfl, hi, hb⟩; have HI := Lib.hid hi; have HST : Hid (Strs _ _ _ _) := Lib.hid (Sl.mono HST.out hb (Nat.le_refl _)); have HO := Lib.hid (HO.out.below hb); have KB := Lib.hid (KB.out.trans (hb.mono KB.out.size)); clear hi hb))
  have hcs := HI.out
  obtain ⟨cca, cb, co, cc, hcv, hcsl⟩ := hcs
  injection hcv with u1 u2 u3
  subst u1; subst u3
  clear u2 HI
  obtain rfl := hcsl.at_ (by omega)
  have HCS := Lib.hid hcsl
  have hk := HST.out
  obtain ⟨kka, kb, ko, kc, hkv, hksl⟩ := hk
  injection hkv with u1 u2 u3
  subst u1; subst u3
  clear u2 HST
  obtain rfl := hksl.at_ (by omega)
  have HKS := Lib.hid hksl
  clear hcsl hksl
  obtain ⟨c, hc⟩ : ∃ c, c = szC S := ⟨_, rfl⟩
  have HCB : Hid (∀ k, k < n → c k ≤ 1000 ∧ 1 ≤ c k) := Lib.hid (fun k hk => by
   have h1 := (HNP.out.frc).c1 k (by rw [HSL.out]; exact hk)
   rw [hc]
   exact ⟨h1.2, h1.1⟩)
  have HCE : Hid (∀ k, k < n → eF (szL S) k = ((c k : Nat) : Int)) := Lib.hid (fun k hk => by rw [hc]; exact szC_eF (by rw [HSL.out]; exact hk))
  have HTE : Hid (∀ k, tutQ S k = (((c k / gC c n : Nat) : Int) : Rat)) := Lib.hid (fun k => by rw [hc, ← HSL.out]; rfl)
  clear hc
  have KW := Lib.hid (Below.refl w7.heap.size w7)
  go_wp2
  go_loopw [16, 17, 18, 19] (fun v16 v17 v18 v19 wr => ∃ i : Nat, i ≤ n ∧ v17 = .int .i64 (i : Nat) ∧ v16 = .int .i64 (gC c i : Nat) ∧ Hid (Below w7.heap.size w7 wr)) (fun _ v17 _ _ _ => n - (intOf v17).toNat)
  case atStart => exact ⟨0, by omega, rfl, rfl, KW⟩
  case round =>
   clear KW
   obtain ⟨i, hi, rfl, rfl, KW⟩ := hrel
   have HCr := Lib.hid (HCS.out.mono KW.out (Nat.le_refl _))
   by_cases h : i < n
   ·have e1 : decide ((i : Int) < (n : Int)) = true := by simpa using h
    have e1n : decide (i < n) = true := by simpa using h
    have ixi := ixI HCr.out i ck h
    have ci := HCr.out.cell i h
    simp only [ic] at ci
    rw [HCE.out i h] at ci
    have hci := HCB.out i h
    have hgi := gC_le HCB.out i hi
    obtain ⟨z, hz⟩ : ∃ z, z = c i := ⟨_, rfl⟩
    rw [← hz] at ci hci
    obtain ⟨G, hG⟩ : ∃ G, G = gC c i := ⟨_, rfl⟩
    have HGE : Hid (Nat.gcd G z = gC c (i + 1)) := Lib.hid (by rw [hG, hz]; rfl)
    rw [← hG] at hgi ⊢
    clear hz hG
    go_wp2
    go_quiet (fail)
    go_wp2
    go_loopw [16, 18, 19] (fun v16 v18 v19 wi => ∃ x y : Nat, x ≤ 1000 ∧ y ≤ 1000 ∧ v16 = .int .i64 (G : Nat) ∧ v18 = .int .i64 (x : Nat) ∧ v19 = .int .i64 (y : Nat) ∧ Hid (Nat.gcd x y = gC c (i + 1)) ∧ Hid (Below w7.heap.size w7 wi)) (fun _ _ v19 _ => (intOf v19).toNat)
    case atStart => exact ⟨G, z, by omega, by omega, rfl, rfl, rfl, HGE, Lib.hid (KW.out.trans ((Drawn.of _ _).below _))⟩
    case round =>
     clear KW HCr ixi ci HGE
     obtain ⟨x, y, hx, hy, rfl, rfl, rfl, HXY, KW⟩ := hrel
     by_cases h0 : y = 0
     ·subst h0
      have HX : Hid (x = gC c (i + 1)) := Lib.hid (by rw [← HXY.out, Nat.gcd_zero_right])
      go_wp2
      go_roundw
      case rel => exact ⟨i + 1, by omega, by go_num, by rw [HX.out], KW⟩
      case measure => simp [intOf]; omega
     ·have e2 : ((y : Int) == 0) = false := by rw [beq_eq_false_iff_ne]; omega
      have e2n : (y == 0) = false := by rw [beq_eq_false_iff_ne]; exact h0
      obtain ⟨m, hm⟩ : ∃ m, m = x % y := ⟨_, rfl⟩
      have hmy : m < y := by rw [hm]; exact Nat.mod_lt _ (by omega)
      have t1 : Int.tmod (x : Int) (y : Int) = (m : Int) := by rw [hm]; rfl
      have t2 : (x : Int) % (y : Int) = (m : Int) := by rw [hm]; rfl
      have w3 : IntKind.i64.wrap (m : Int) = (m : Int) := by rw [IntKind.wrap_i64]; omega
      have hne : ¬ (y : Int) = 0 := by omega
      have HX : Hid (Nat.gcd y m = gC c (i + 1)) := Lib.hid (by rw [← HXY.out, hm, Nat.gcd_comm y (x % y), ← Nat.gcd_rec, Nat.gcd_comm])
      clear hm
      go_wp2
      go_quiet (fail)
      go_wp2
      go_roundw
      case rel => exact ⟨y, m, by omega, by omega, rfl, rfl, rfl, HX, Lib.hid (KW.out.trans ((Drawn.of _ _).below _))⟩
      case measure => simp [intOf]; omega
   ·have hin : i = n := by omega
    subst hin
    have e1 : decide ((i : Int) < (i : Int)) = false := by simp
    obtain ⟨G, hG⟩ : ∃ G, G = gC c i := ⟨_, rfl⟩
    have hG1 : 1 ≤ G := by rw [hG]; exact gC_pos (by omega) (fun k hk => (HCB.out k hk).2)
    have hG2 : G ≤ 1000 := by rw [hG]; exact gC_le HCB.out i (Nat.le_refl _)
    rw [← hG] at HTE ⊢
    clear hG HCr h hi
    have KX := KW
    clear KW
    go_wp2
    go_loopw [20] (fun v20 wi => ∃ j : Nat, j ≤ i ∧ v20 = .int .i64 (j : Nat) ∧ Hid (Below w7.heap.size w7 wi)) (fun v20 _ => i - (intOf v20).toNat)
    case atStart => exact ⟨0, by omega, rfl, KX⟩
    case round =>
     clear KX
     obtain ⟨j, hj, rfl, KW⟩ := hrel
     have HCr := Lib.hid (HCS.out.mono KW.out (Nat.le_refl _))
     have HKr := Lib.hid (HKS.out.mono KW.out (Nat.le_refl _))
     by_cases h : j < i
     ·have f1 : decide ((j : Int) < (i : Int)) = true := by simpa using h
      have f1n : decide (j < i) = true := by simpa using h
      have ixc := ixI HCr.out j ck h
      have cj := HCr.out.cell j h
      simp only [ic] at cj
      rw [HCE.out j h] at cj
      have ixk := ixN HKr.out j kk h
      have kj := HKr.out.cell j h
      have hcj := HCB.out j h
      obtain ⟨z, hz⟩ : ∃ z, z = c j := ⟨_, rfl⟩
      rw [← hz] at cj hcj
      obtain ⟨m, hm⟩ : ∃ m, m = z / G := ⟨_, rfl⟩
      have hm2 : m ≤ 1000 := by rw [hm]; exact Nat.le_trans (Nat.div_le_self _ _) hcj.1
      have q1 : Int.tdiv (z : Int) (G : Int) = (m : Int) := by rw [hm]; rfl
      have q2 : (z : Int) / (G : Int) = (m : Int) := by rw [hm]; rfl
      have w3 : IntKind.i64.wrap (m : Int) = (m : Int) := by rw [IntKind.wrap_i64]; omega
      have hne : ¬ (G : Int) = 0 := by omega
      have hneN : ¬ G = 0 := by omega
      have hneb : ((G : Int) == 0) = false := by rw [beq_eq_false_iff_ne]; omega
      have hnen : (G == 0) = false := by rw [beq_eq_false_iff_ne]; omega
      have HTJ : Hid (FracTxt (ss j) (((m : Nat) : Int) : Rat).num (((m : Nat) : Int) : Rat).den) := Lib.hid (by
       have h9 := (HTQ.out.txt j h).txt
       rw [HTE.out j, ← hz, ← hm] at h9
       exact h9)
      have HMX : Hid (MaxD (((m : Nat) : Int) : Rat).num.natAbs ∧ MaxD (((m : Nat) : Int) : Rat).den) := Lib.hid (by
       rw [Rat.num_intCast, Int.natAbs_natCast, Rat.den_intCast]
       exact ⟨maxD_of (e := 4) (by omega) (by decide), maxD_1⟩)
      have keepR : Hid (∀ w', Below w7.heap.size w7 w' → w'.cell? ⟨kb, ko + j, none⟩ = some (.string (ss j)) ∧ w'.cell? ⟨cb, co + j, none⟩ = some (.int .i64 (z : Int))) := Lib.hid (fun w' hb => by
       have h1 := (HKS.out.mono hb (Nat.le_refl _)).cell j h
       have h2 := (HCS.out.mono hb (Nat.le_refl _)).cell j h
       simp only [ic] at h2
       rw [HCE.out j h, ← hz] at h2
       exact ⟨h1, h2⟩)
      have KW0 := KW
      have KW := Lib.hid KW.out.drew
      clear hz hm cj kj HCr HKr
      go_wp2
      go_region_held3 (fun w' => w'.cell? ⟨kb, ko + j, none⟩ = some (.string (ss j)) ∧ w'.cell? ⟨cb, co + j, none⟩ = some (.int .i64 (z : Int)))
       (first | (with_reducible exact keepR.out _ KW0.out) | (with_reducible exact keepR.out _ KW.out))
       (first
        | (go_at_call 36; (with_reducible refine (qv_whole (m : Int) _ (by omega) (by omega)).mono ?_); rintro e w3 ⟨qr, rfl, hq, hb3⟩; have HQ := Lib.hid hq; clear hq; have KW := Lib.hid (KW.out.trans (hb3.mono KW.out.size)))
        | (go_at_call 29; (with_reducible refine (is_any (ss j) qr (((m : Nat) : Int) : Rat) 5 _ HTJ.out HQ.out (by omega) HMX.out.1 HMX.out.2).mono ?_); rintro e w4 ⟨rfl, hb4⟩; have KW := Lib.hid (KW.out.trans (hb4.mono KW.out.size))))
      all_goals
       go_wp2
       go_roundw
       case rel => exact ⟨j + 1, by omega, by go_num, KW⟩
       case measure => simp [intOf]; omega
     ·have hjn : j = i := by omega
      subst hjn
      have f1 : decide ((j : Int) < (j : Int)) = false := by simp
      have HOr := Lib.hid (HO.out.below KW.out)
      clear HCr HKr h hj
      go_wp2_with (first
       | (go_at_call 24; go_loud ((with_reducible refine (rmeas_mk _ L W H _ HOr.out HM.out (by rw [HL.out]; omega)).mono ?_); rintro e w8 ⟨rfl, hb⟩; have KB := Lib.hid ((KB.out.trans (KW.out.mono KB.out.size)).trans (hb.mono (Nat.le_trans KB.out.size KW.out.size))); clear hb))
       | (go_at_call 37; go_loud ((with_reducible refine (make_any (H : Int) (W : Int) _ (by omega) (by omega) (by omega) (by omega) (by omega)).mono ?_); rintro e w9 ⟨qr, rfl, hq, hb⟩; have HQ := Lib.hid (QV.of hq); have KB := Lib.hid (KB.out.trans (hb.mono KB.out.size)); clear hq hb))
       | (go_at_call 29; go_loud ((with_reducible refine (is_any sr qr _ 5 _ HFR.out HQ.out (by omega) HWH.out.1 HWH.out.2).mono ?_); rintro e w10 ⟨rfl, hb⟩; have KB := Lib.hid (KB.out.trans (hb.mono KB.out.size)); clear hb)))
      go_ret
      exact ⟨rfl, KB.out⟩
end Go.Proofs.YtolkchkedieppaaGreat
