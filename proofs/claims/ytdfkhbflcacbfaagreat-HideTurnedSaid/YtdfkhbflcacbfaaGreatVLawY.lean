/- The law HideTurned: its walk. -/
import Derived.Test.YtdfkhbflcacbfaaGreatVPfA
import Derived.Test.YtdfkhbflcacbfaaGreatVPlainCp
import Derived.Test.YtdfkhbflcacbfaaGreatVCmC
import Derived.Test.YtdfkhbflcacbfaaGreatVPlainTu
import Derived.Test.YtdfkhbflcacbfaaGreatVLivH
set_option linter.unusedVariables false
set_option linter.unusedSimpArgs false
namespace Go.Proofs.YtdfkhbflcacbfaaGreat
open Go.RowKit
attribute [local go_sem ↓] Go.wp_at_zero Go.wp_at_succ
theorem turned_n {B : Nat} (v : Value) (L : List Tr) (n : Nat) (w : World) (hv : OwS B w v L) (hl : L.length = n) (h0 : 0 < n) (hn : n ≤ 24) :
  Calls Tryz.prog 5 #[v] w fun e w' => ∃ va vk, e = .returned (.slice va n vk) ∧ OwS w.heap.size w' (.slice va n vk) (L.map swT) ∧ Below w.heap.size w w' := by
 subst hl
 exact turned_mk v L w hv h0 hn
theorem cmpR_11 : cmpR 1 1 = 0 := by unfold cmpR; simp [Rat.lt_irrefl]
theorem bsLen {w wx : World} {v : Value} {A : List Nat} (h : BsM w wx v A) : ∃ a c, v = .slice a A.length c := by
 rcases h.sh with ⟨e, rfl⟩ | ⟨_, g, c, rfl⟩
 ·rw [e]; exact ⟨none, 0, rfl⟩
 ·exact ⟨_, _, rfl⟩
set_option maxHeartbeats 8000000 in
set_option maxRecDepth 100000 in
theorem lawTurned (v : Value) (n0 : Nat) (g : Nat → Nat) (w : World) (hv : By8 w v n0 g) (hn0 : n0 ≤ 9223372036854775807) :
  Calls Tryz.prog 3 #[v] w fun e w' => e = .returned (.bool true) ∧ Below w.heap.size w w' := by
 have HMD := madeS_any v n0 16 g w hv hn0 (by omega) (by omega)
 rw [show ((16 : Nat) : Int) = 16 from rfl] at HMD
 obtain ⟨⟨xa, xb, xo, xc, rfl, hsx⟩, hgx⟩ := hv
 clear hsx hgx
 go_enter Tryz.func3, Tryz.ntmps3
 go_upto_region 2 with (first
  | (go_at_call 4; (with_reducible refine HMD.mono ?_); rintro e w1 ⟨ma, mk, L, W, H, rfl, MD⟩))
 have MK := Lib.hid MD.out.mkc
 have MS := Lib.hid MK.out.swap
 have HO := Lib.hid (ows_of MD.out.own MD.out.mkc.pos)
 have KB := Lib.hid MD.out.kb
 have hL16 := MD.out.len
 have hL1 := MD.out.mkc.pos
 clear MD HMD
 obtain ⟨n, hN⟩ : ∃ n, n = L.length := ⟨_, rfl⟩
 rw [← hN] at hL16 hL1 ⊢
 have HLN := Lib.hid hN.symm
 have HLS : Hid ((L.map swT).length = n) := Lib.hid (by rw [List.length_map]; exact hN.symm)
 rw [← hN] at HO
 clear hN
 have hw1 := MK.out.w1
 have hh1 := MK.out.h1
 obtain ⟨pf, hpf⟩ : ∃ r : Bool, r = true ↔ DistS L := ⟨@decide (DistS L) (Classical.propDecidable _), by simp⟩
 have HPF := Lib.hid hpf
 have HPS : Hid (pf = true ↔ DistS (L.map swT)) := Lib.hid (hpf.trans (dist_swap L).symm)
 clear hpf
 go_upto_region 3 with (go_at_call 5; go_loud ((with_reducible refine (turned_n _ L n _ HO.out HLN.out hL1 (by omega)).mono ?_); rintro e w2 ⟨ta, tk, rfl, ho, hb⟩; have HT := Lib.hid ho; have HO := Lib.hid (HO.out.below hb); have KB := Lib.hid (KB.out.trans (hb.mono KB.out.size)); clear ho hb))
 go_upto_region 5 with (first
  | (go_at_call 6; go_loud ((with_reducible refine (measure_mk _ L W H _ HO.out MK.out (by rw [HLN.out]; omega)).mono ?_); rintro e w3 ⟨rfl, hb⟩; have HT := Lib.hid (HT.out.below hb); have HO := Lib.hid (HO.out.below hb); have KB := Lib.hid (KB.out.trans (hb.mono KB.out.size)); clear hb))
  | (go_at_call 6; go_loud ((with_reducible refine (measure_mk _ (L.map swT) H W _ HT.out MS.out (by rw [HLS.out]; omega)).mono ?_); rintro e w3 ⟨rfl, hb⟩; have HT := Lib.hid (HT.out.below hb); have HO := Lib.hid (HO.out.below hb); have KB := Lib.hid (KB.out.trans (hb.mono KB.out.size)); clear hb)))
 go_upto_region 7 with (first
  | (go_at_call 7; go_loud ((with_reducible refine (net_n _ L W H n _ HO.out MK.out HLN.out (by omega)).mono ?_); rintro e w4 ⟨gp, pk, S, J, hnp, hp, hs, hsl, rfl, hpr, hgp, hb⟩; have HNP := Lib.hid hnp; have HP := Lib.hid hp; have HS := Lib.hid hs; have HSL := Lib.hid hsl; have HPR := Lib.hid hpr; have HGP := Lib.hid hgp; have HT := Lib.hid (HT.out.below hb); have HO := Lib.hid (HO.out.below hb); have KB := Lib.hid (KB.out.trans (hb.mono KB.out.size)); clear hnp hp hs hsl hpr hgp hb))
  | (go_at_call 7; go_loud ((with_reducible refine (net_n _ (L.map swT) H W n _ HT.out MS.out HLS.out (by omega)).mono ?_); rintro e w4 ⟨gq, qk, S2, J2, hnp, hp, hs, hsl, rfl, hpr, hgp, hb⟩; have HNQ := Lib.hid hnp; have HP2 := Lib.hid hp; have HS2 := Lib.hid hs; have HSL2 := Lib.hid hsl; have HPQ := Lib.hid hpr; have HGQ := Lib.hid hgp; have HPR := Lib.hid (HPR.out.below hb HGP.out); have HGP := Lib.hid (Nat.lt_of_lt_of_le HGP.out hb.size); have HT := Lib.hid (HT.out.below hb); have HO := Lib.hid (HO.out.below hb); have KB := Lib.hid (KB.out.trans (hb.mono KB.out.size)); clear hnp hp hs hsl hpr hgp hb)))
 go_upto_region 9 with (go_at_call 8; go_loud ((with_reducible refine (livesH_true _).mono ?_); rintro e w5 ⟨rfl, hb⟩; have HPR := Lib.hid (HPR.out.below hb HGP.out); have HGP := Lib.hid (Nat.lt_of_lt_of_le HGP.out hb.size); have HPQ := Lib.hid (HPQ.out.below hb HGQ.out); have HGQ := Lib.hid (Nat.lt_of_lt_of_le HGQ.out hb.size); have HT := Lib.hid (HT.out.below hb); have HO := Lib.hid (HO.out.below hb); have KB := Lib.hid (KB.out.trans (hb.mono KB.out.size)); clear hb))
 go_upto_region 11 with (first
  | (go_at_call 9; go_loud ((with_reducible refine (res_mk n S J W H gp pk _ HNP.out HSL.out HPR.out HGP.out).mono ?_); rintro e w6 ⟨sr, rfl, hfr, hb⟩; have HFR := Lib.hid hfr; have HPQ := Lib.hid (HPQ.out.below hb HGQ.out); have HGQ := Lib.hid (Nat.lt_of_lt_of_le HGQ.out hb.size); have HT := Lib.hid (HT.out.below hb); have HO := Lib.hid (HO.out.below hb); have KB := Lib.hid (KB.out.trans (hb.mono KB.out.size)); clear hfr hb HPR HGP))
  | (go_at_call 9; go_loud ((with_reducible refine (res_mk n S2 J2 H W gq qk _ HNQ.out HSL2.out HPQ.out HGQ.out).mono ?_); rintro e w6 ⟨sq, rfl, hfr, hb⟩; have HFQ := Lib.hid hfr; have HT := Lib.hid (HT.out.below hb); have HO := Lib.hid (HO.out.below hb); have KB := Lib.hid (KB.out.trans (hb.mono KB.out.size)); clear hfr hb HPQ HGQ)))
 have TQ1 : Hid (TxtQ sr (((H : Nat) : Rat) / ((W : Nat) : Rat))) := Lib.hid ⟨HFR.out, (hw_maxD MK.out).1, (hw_maxD MK.out).2⟩
 have TQ2 : Hid (TxtQ sq (((W : Nat) : Rat) / ((H : Nat) : Rat))) := Lib.hid ⟨HFQ.out, (hw_maxD MS.out).1, (hw_maxD MS.out).2⟩
 have HRC := Lib.hid (recip hw1 hh1)
 go_upto_region 12 with (go_at_call 10; go_loud ((with_reducible refine (compound_mk _ L S W H _ HO.out MK.out (by rw [HLN.out]; omega) HP.out HS.out).mono ?_); rintro e w7 ⟨A, va, ea, hbl, _, rfl, hea, hbs⟩; have HBL := Lib.hid hbl; have HEA := Lib.hid hea; have HVA := Lib.hid (bsLen hbs); have hb := hbs.kb; have HT := Lib.hid (HT.out.below hb); have HO := Lib.hid (HO.out.below hb); have KB := Lib.hid (KB.out.trans (hb.mono KB.out.size)); clear hbl hbs hea hb))
 go_upto_region 13 with (go_at_call 10; go_loud ((with_reducible refine (compound_mk _ (L.map swT) S2 H W _ HT.out MS.out (by rw [HLS.out]; omega) HP2.out HS2.out).mono ?_); rintro e w8 ⟨A2, vb, eb, hbl, _, rfl, hea, hbs⟩; have HBL2 := Lib.hid hbl; have HEB := Lib.hid hea; have HVB := Lib.hid (bsLen hbs); have hb := hbs.kb; have HT := Lib.hid (HT.out.below hb); have HO := Lib.hid (HO.out.below hb); have KB := Lib.hid (KB.out.trans (hb.mono KB.out.size)); clear hbl hbs hea hb))
 have hlen : A.length = A2.length := best_swap ((MK.out.perm HP.out).cut (by rw [HSL.out]; omega)) ((MS.out.perm HP2.out).cut (by rw [HSL2.out]; omega)) ((HP.out.map swT).symm.trans HP2.out) HBL.out HBL2.out
 obtain ⟨aa, ac, rfl⟩ := HVA.out
 obtain ⟨ba, bc, rfl⟩ := HVB.out
 have heab : ea = eb := by
  rw [HEA.out, HEB.out]
  by_cases q : A = []
  ·have : A2 = [] := List.eq_nil_of_length_eq_zero (by rw [← hlen, q]; rfl)
   rw [if_pos q, if_pos this]
  ·have : A2 ≠ [] := fun q2 => q (List.eq_nil_of_length_eq_zero (by rw [hlen, q2]; rfl))
   rw [if_neg q, if_neg this]
 subst heab
 rw [← hlen]
 obtain ⟨k, hk⟩ : ∃ k, k = A.length := ⟨_, rfl⟩
 have hea2 : ea = 5 ∨ ea = 0 := by
  rw [HEA.out]; split
  ·exact .inl rfl
  ·exact .inr rfl
 rw [← hk]
 clear hk hlen HEA HEB HVA HVB HBL HBL2 HNP HNQ HSL HSL2 HP HP2 HS HS2 HFR HFQ
 go_upto_region 15 with (first
  | (go_at_call 11; go_loud ((with_reducible refine (perfect_mk _ L W H pf _ HO.out MK.out (by rw [HLN.out]; omega) HPF.out).mono ?_); rintro e w9 ⟨rfl, hb⟩; have HT := Lib.hid (HT.out.below hb); have HO := Lib.hid (HO.out.below hb); have KB := Lib.hid (KB.out.trans (hb.mono KB.out.size)); clear hb))
  | (go_at_call 11; go_loud ((with_reducible refine (perfect_mk _ (L.map swT) H W pf _ HT.out MS.out (by rw [HLS.out]; omega) HPS.out).mono ?_); rintro e w9 ⟨rfl, hb⟩; have HT := Lib.hid (HT.out.below hb); have HO := Lib.hid (HO.out.below hb); have KB := Lib.hid (KB.out.trans (hb.mono KB.out.size)); clear hb)))
 clear HO HT HPF HPS MK MS HLN HLS
 obtain ⟨q1, hq1⟩ : ∃ q : Rat, q = ((H : Nat) : Rat) / ((W : Nat) : Rat) := ⟨_, rfl⟩
 obtain ⟨q2, hq2⟩ : ∃ q : Rat, q = ((W : Nat) : Rat) / ((H : Nat) : Rat) := ⟨_, rfl⟩
 rw [← hq1] at TQ1 HRC
 rw [← hq2] at TQ2 HRC
 clear hq1 hq2 hw1 hh1
 rcases hea2 with rfl | rfl <;> rcases pf with _ | _
 all_goals
  go_wp2_with (first
   | (go_at_call 12; go_loud ((with_reducible refine (valid_any sr q1 _ TQ1.out).mono ?_); rintro e wa ⟨rfl, hb⟩; have KB := Lib.hid (KB.out.trans (hb.mono KB.out.size)); clear hb))
   | (go_at_call 12; go_loud ((with_reducible refine (valid_any sq q2 _ TQ2.out).mono ?_); rintro e wa ⟨rfl, hb⟩; have KB := Lib.hid (KB.out.trans (hb.mono KB.out.size)); clear hb))
   | (go_at_call 15; go_loud ((with_reducible refine (of_any sr q1 _ TQ1.out).mono ?_); rintro e wb ⟨s1, a1, n1, c1, t1, b1, l1, k1, rfl, hq, hb⟩; have HQ1 := Lib.hid (QV.of hq.out); have KB := Lib.hid (KB.out.trans (hb.out.mono KB.out.size)); clear hb hq))
   | (go_at_call 15; go_loud ((with_reducible refine (of_any sq q2 _ TQ2.out).mono ?_); rintro e wb ⟨s2, a2, n2, c2, t2, b2, l2, k2, rfl, hq, hb⟩; have HQ2 := Lib.hid (QV.of hq.out); have HQ1 := Lib.hid (HQ1.out.mono hb.out (Nat.le_refl _)); have KB := Lib.hid (KB.out.trans (hb.out.mono KB.out.size)); clear hb hq))
   | (go_at_call 14; go_loud ((with_reducible refine (qv_mul _ _ q1 q2 1000 _ HQ1.out HQ2.out (by omega)).mono ?_); rintro e wd ⟨r1, rfl, hq, hb⟩; rw [HRC.out] at hq; have HQ3 := Lib.hid hq; have KB := Lib.hid (KB.out.trans (hb.mono KB.out.size)); clear hb hq HQ1 HQ2))
   | (go_at_call 16; go_loud ((with_reducible refine (qv_whole 1 _ (by omega) (by omega)).mono ?_); rintro e we ⟨r2, rfl, hq, hb⟩; have HQ4 := Lib.hid (hq.le (k := 2 * 1000) (by omega)); have HQ3 := Lib.hid (HQ3.out.mono hb (Nat.le_refl _)); have KB := Lib.hid (KB.out.trans (hb.mono KB.out.size)); clear hb hq))
   | (go_at_call 13; go_loud ((with_reducible refine (qv_cmp _ _ 1 1 (2 * 1000) _ HQ3.out HQ4.out (by omega)).mono ?_); rintro e wf ⟨rfl, hb⟩; rw [cmpR_11]; have KB := Lib.hid (KB.out.trans (hb.mono KB.out.size)); clear hb HQ3 HQ4)))
  go_ret
  exact ⟨rfl, KB.out⟩
end Go.Proofs.YtdfkhbflcacbfaaGreat
