/- The law HideCurrents: its walk. -/
import Derived.Test.YtolkchkedieppaaGreatZCurG
import Derived.Test.YtolkchkedieppaaGreatZRFl
import Derived.Test.YtolkchkedieppaaGreatZOpen7
import Derived.Test.YtolkchkedieppaaGreatZPlainKi
import Derived.Test.YtolkchkedieppaaGreatZLivH
import Derived.Test.YtolkchkedieppaaGreatZRNum
set_option linter.unusedVariables false
set_option linter.unusedSimpArgs false
namespace Go.Proofs.YtolkchkedieppaaGreat
open Go.RowKit
attribute [local go_sem ↓] Go.wp_at_zero Go.wp_at_succ
theorem prL_one : ∀ P : List (Int × Int), ∀ u ∈ prL P, u.oneCell' = true
 | [], u, h => by simp [prL] at h
 | p :: l, u, h => by
  simp only [prL, List.mem_append, List.mem_cons, List.not_mem_nil, or_false] at h
  rcases h with (rfl | rfl) | h
  ·rfl
  ·rfl
  ·exact prL_one l u h
theorem prL_take {P : List (Int × Int)} {k j : Nat} {u : Value} (h : (prL (P.take k))[j]? = some u) : (prL P)[j]? = some u := by
 have e := prL_app (P.take k) (P.drop k)
 rw [List.take_append_drop] at e
 rw [e, List.getElem?_append_left (List.getElem?_eq_some_iff.1 h).1]
 exact h
theorem prR_newsO {w : World} {g o : Nat} {P : List (Int × Int)} (h : PrR w g o P) : ∀ j u, (prL P)[j]? = some u → w.cell? ⟨g, o + j, none⟩ = some u := fun j u hj => by
 have hl : j < P.length * 2 := by
  have := (List.getElem?_eq_some_iff.1 hj).1
  rw [prL_len] at this; exact this
 have hd : j / 2 < P.length := by omega
 obtain ⟨g0, g1⟩ := prL_get P (j / 2) hd
 rcases (show j % 2 = 0 ∨ j % 2 = 1 by omega) with e | e
 ·have := h.c0 (j / 2) hd
  rw [show j / 2 * 2 = j by omega] at g0
  rw [show o + j / 2 * 2 = o + j by omega] at this
  rw [this, ← g0]; exact hj
 ·have := h.c1 (j / 2) hd
  rw [show j / 2 * 2 + 1 = j by omega] at g1
  rw [show o + j / 2 * 2 + 1 = o + j by omega] at this
  rw [this, ← g1]; exact hj
theorem prV_own {w : World} {base n : Nat} {va : Option Addr} {vk : Nat} {P : List (Int × Int)} (h : w.ownsRow base 40 2 (.slice va n vk) n (prL P)) (hl : P.length = n) : PrV w (.slice va n vk) P := by
 subst hl
 exact ⟨va, vk, rfl, fun h0 => pairRow2 h rfl h0⟩
theorem net_want {N : Nat} {W : List (Int × Int)} {T : Rat} (hT : 0 < T) : (0 - T * (potT N W (N - 1) - potT N W 0)) / T = potT N W 0 := by
 have hn : T ≠ 0 := fun e => by rw [e] at hT; exact Rat.lt_irrefl hT
 have := Rat.inv_mul_cancel _ hn
 rw [potT_last, Rat.div_def]
 grind
theorem netAns_ok {n : Int} {W : List (Int × Int)} {N : Nat} (h : NetOK n W N) : NetAns n W 0 := Or.inl ⟨⟨N, h⟩, rfl⟩
theorem netAns_bad {n er : Int} {W : List (Int × Int)} (h : NetBad n W er) : NetAns n W er := Or.inr h
theorem nd_small {x : Nat} (h : x ≤ 16777216) : nd x ≤ 1000 := Nat.le_trans ((nd_le x 2).2 (Nat.lt_of_le_of_lt h (by decide))) (by decide)
set_option maxHeartbeats 8000000 in
set_option maxRecDepth 100000 in
theorem lawCurrents (n : Int) (v : Value) (W0 : List (Int × Int)) (w : World) (hv : PrA w v W0) :
  Calls Tryz.prog 6 #[.int .i64 n, v] w fun e w' => e = .returned (.bool true) ∧ Below w.heap.size w w' := by
 obtain ⟨a, c, rfl, hc, hcm, han, hs⟩ := hv.ex
 obtain ⟨i0, hinf, hz0, hz1, hz2⟩ := info_parts infoPr
 clear hv
 obtain ⟨V, hV⟩ : ∃ V, V = W0.take (min W0.length 25) := ⟨_, rfl⟩
 have hVl : V.length = min W0.length 25 := by rw [hV, List.length_take]; omega
 have HLN := Lib.hid (show (prL V).length = V.length * 2 from prL_len V)
 obtain ⟨m, hm⟩ : ∃ m, m = W0.length := ⟨_, rfl⟩
 rw [← hm] at hc hs hVl ⊢
 obtain ⟨k, hk⟩ : ∃ k, k = V.length := ⟨_, rfl⟩
 have HK := Lib.hid hk.symm
 rw [← hk] at HLN hVl
 have hkm : k ≤ m := by omega
 have hk25 : k ≤ 25 := by omega
 have hkc : k ≤ c := by omega
 have hsz := sliced_zero
 have HNW : Hid (∀ wx, Below w.heap.size w wx → ∀ g o, a = some ⟨g, o, none⟩ → 0 < m → ∀ j u, (prL V)[j]? = some u → wx.cell? ((⟨g, o, none⟩ : Addr).add j) = some u) := Lib.hid (fun wx hb g o ha h0 j u hj => by
  obtain ⟨g', o', ha', hT, hg⟩ := hs h0
  rw [ha] at ha'
  injection ha' with e
  injection e with e1 e2
  subst e1; subst e2
  rw [add_at]
  rw [hV] at hj
  exact prR_newsO (hT.below hb hg) j u (prL_take hj))
 have KW := Lib.hid ((Below.refl w.heap.size w).alloc (Nat.le_refl _) (.cells #[] 40))
 have OW : Hid ((w.alloc (.cells #[] 40)).ownsRow w.heap.size 40 2 (.slice (some ⟨w.heap.size, 0, none⟩) 0 0) 0 []) := Lib.hid (World.ownsRow_made w #[] 0 (Nat.le_refl _) (by unfold maxLen; omega) rfl)
 have FIN : Hid (∀ (w3 : World) (v' : Value), w3.ownsRow w.heap.size 40 2 v' (0 + k) ([] ++ prL V) → ∃ va vk, v' = .slice va k vk ∧ Hid (PrV w3 (.slice va k vk) V)) := Lib.hid (fun w3 v' ho => by
  rw [Nat.zero_add, List.nil_append] at ho
  obtain ⟨va, vk, rfl⟩ := own_shape ho
  exact ⟨va, vk, rfl, Lib.hid (prV_own ho HK.out)⟩)
 have hmi2 : (if (25 : Int) < (m : Int) then (25 : Int) else (m : Int)) = (k : Int) := by split <;> omega
 have hmi3 : (if (m : Int) < (25 : Int) then (m : Int) else (25 : Int)) = (k : Int) := by split <;> omega
 have hmin : min (m : Int) 25 = (k : Int) := by omega
 clear hV hm hk hVl
 go_enter Tryz.func6, Tryz.ntmps6
 go_upto_region 1 with (fail)
 go_cut [5] (fun v5 wx => ∃ va vk, v5 = .slice va k vk ∧ Hid (PrV wx (.slice va k vk) V) ∧ Hid (Below w.heap.size w wx))
 case first =>
  rcases a with _ | ad
  ·have h0 : c = 0 := han rfl
   subst h0
   obtain rfl : m = 0 := by omega
   obtain rfl : k = 0 := by omega
   have HV0 : Hid (PrV (w.alloc (.cells #[] 40)) (.slice (some ⟨w.heap.size, 0, none⟩) 0 0) V) := Lib.hid ⟨_, _, by rw [HK.out], fun h => by have := HK.out; omega⟩
   go_wp2_with (at_builtin; refine wpList_append_own_none rfl (.tmp 13) (.tmp 18) 33 rfl w.heap.size 40 i0 2 Tryz.underlying33 hinf (.slice (some ⟨w.heap.size, 0, none⟩) 0 0) 0 [] rfl OW.out rfl ?_)
   go_meet
   case rel => exact ⟨_, _, rfl, HV0, KW⟩
  ·by_cases h0 : 0 < m
   ·obtain ⟨g, o, ha, _, _⟩ := hs h0
    injection ha with ha
    subst ha
    have HN2 := Lib.hid (HNW.out _ KW.out g o rfl h0)
    clear hs HNW
    go_wp2_with (at_builtin; refine wpList_append_own _ rfl (.tmp 13) (.tmp 18) 33 rfl w.heap.size 40 i0 _ 2 16 Tryz.underlying33 hinf hz0 hz1 hz2 rfl (by decide) (.slice (some ⟨w.heap.size, 0, none⟩) 0 0) 0 [] rfl OW.out ⟨g, o, none⟩ k c (prL V) rfl HLN.out HN2.out (prL_one _) (by unfold maxLen; omega) (by omega) (by simp) ?_; intro v' w3 hown hgrow _; have KW := Lib.hid (KW.out.grown hgrow (by simp) (fun kk e => by cases e; exact Nat.le_refl _)); have HF := Lib.hid (FIN.out _ _ hown); clear hown hgrow)
    go_meet
    case rel =>
     obtain ⟨va, vk, rfl, ho⟩ := HF.out
     exact ⟨va, vk, rfl, ho, KW⟩
   ·obtain rfl : m = 0 := by omega
    obtain rfl : k = 0 := by omega
    have HV0 : Hid (prL V = []) := Lib.hid (List.eq_nil_of_length_eq_zero HLN.out)
    go_wp2_with (at_builtin; refine wpList_append_own _ rfl (.tmp 13) (.tmp 18) 33 rfl w.heap.size 40 i0 _ 2 16 Tryz.underlying33 hinf hz0 hz1 hz2 rfl (by decide) (.slice (some ⟨w.heap.size, 0, none⟩) 0 0) 0 [] rfl OW.out ad 0 c [] rfl rfl (fun j u h => by simp at h) (fun u h => by simp at h) (by unfold maxLen; omega) (by omega) (by simp) ?_; intro v' w3 hown hgrow _; have KW := Lib.hid (KW.out.grown hgrow (by simp) (fun kk e => by cases e; exact Nat.le_refl _)); have HF := Lib.hid (FIN.out w3 v' (by rw [HV0.out]; exact hown)); clear hown hgrow)
    go_meet
    case rel =>
     obtain ⟨va, vk, rfl, ho⟩ := HF.out
     exact ⟨va, vk, rfl, ho, KW⟩
 case rest =>
  obtain ⟨va, vk, rfl, PV, KB⟩ := hcut
  obtain rfl := HK.out
  clear HNW KW OW FIN HLN hmi2 hmi3 hmin hs han hkm hkc hc hcm hsz
  by_cases hok : ∃ N, NetOK n V N
  ·obtain ⟨N, hN⟩ := hok
   obtain rfl := hN.e
   obtain ⟨va2, vk2, hve, hp2⟩ := PV.out.ex
   injection hve with u1 u2 u3
   subst u1
   subst u3
   clear u2
   obtain ⟨g, rfl, hpr, hg⟩ := hp2 hN.pos
   have HN := Lib.hid hN
   obtain ⟨cc, D, hf, _⟩ := net_frc hN.n2 hN.l hN.ok hN.con
   have hq : ∀ k, k < V.length → curQ V (potQ N (potT N V)) k = potT N V (wA V k) - potT N V (wB V k) := fun k hk => by
    unfold curQ
    rw [potQT (hN.ok.a hk).2, potQT (hN.ok.b hk).2]
   obtain ⟨T, hfl⟩ := flo_of hN.n2 hN.n25 hN.l hN.ok hN.con hf hq
   have HFZ := Lib.hid hf
   have HFL := Lib.hid hfl
   have HPR := Lib.hid hpr
   have HG := Lib.hid hg
   have HWT : Hid ((0 - T * (potT N V (N - 1) - potT N V 0)) / T = potT N V 0) := Lib.hid (net_want hfl.pos)
   have HSM := Lib.hid (pot_small hN)
   have HMD := Lib.hid (pot_maxD hN)
   clear hN hf hq hfl hpr hg hp2
   go_upto_region 4 with (first
    | (go_at_call 25; go_loud ((with_reducible refine (currents_net N V cc D g vk _ HN.out HFZ.out HPR.out HG.out).mono ?_); rintro e w3 ⟨ka, kk, ss, rfl, htq, hst, hb⟩; have HTQ := Lib.hid htq; have HST := Lib.hid hst; have PV := Lib.hid (PV.out.below hb); have HPR := Lib.hid (HPR.out.below hb HG.out); have HG := Lib.hid (Nat.lt_of_lt_of_le HG.out hb.size); have KB := Lib.hid (KB.out.trans (hb.mono KB.out.size)); clear htq hst hb))
    | (go_at_call 26; go_loud ((with_reducible refine (resistance_net N V g vk _ HN.out HPR.out HG.out).mono ?_); rintro e w4 ⟨sr, rfl, hfr, hb⟩; have HFR := Lib.hid hfr; have HST : Hid (Strs _ _ _ _) := Lib.hid (Sl.mono HST.out hb (Nat.le_refl _)); have PV := Lib.hid (PV.out.below hb); have KB := Lib.hid (KB.out.trans (hb.mono KB.out.size)); clear hfr hb)))
   go_upto_region 5 with (go_at_call 27; go_loud ((with_reducible refine (net_any _ V (N : Int) 0 _ PV.out (netAns_ok HN.out)).mono ?_); rintro e w5 ⟨rfl, hb⟩; have HST : Hid (Strs _ _ _ _) := Lib.hid (Sl.mono HST.out hb (Nat.le_refl _)); have PV := Lib.hid (PV.out.below hb); have KB := Lib.hid (KB.out.trans (hb.mono KB.out.size)); clear hb))
   go_upto_region 8 with (go_at_call 28; go_loud ((with_reducible refine (flows_any N _ _ V _ _ T _ ss _ PV.out HST.out HTQ.out HN.out.l HN.out.n2 HN.out.n25 HN.out.ok HN.out.ne HN.out.con HFL.out (by rw [HWT.out]; exact ⟨nd_small HSM.out.1, nd_small HSM.out.2⟩)).mono ?_); rintro e w6 ⟨s1, a1, n1, c1, t1, b1, n2, c2, rfl, hqv, hb⟩; rw [HWT.out] at hqv; have HQV := Lib.hid hqv; have KB := Lib.hid (KB.out.trans (hb.mono KB.out.size)); clear hqv hb))
   have AL := Lib.hid (boxes1 w6 (.cells #[.bool s1, .slice a1 n1 c1, .bool t1, .slice b1 n2 c2] 59))
   have OC := Lib.hid (own4_of w6 (.bool s1) (.slice a1 n1 c1) (.bool t1) (.slice b1 n2 c2) 59)
   have HQV := Lib.hid (HQV.out.mono AL.out (Nat.le_refl _))
   have KB := Lib.hid (KB.out.trans (AL.out.mono KB.out.size))
   generalize w6.alloc (.cells #[.bool s1, .slice a1 n1 c1, .bool t1, .slice b1 n2 c2] 59) = w7 at *
   obtain ⟨y0, y1, y2, y3, yf, yl⟩ := OC.out
   clear yf AL
   go_wp2_with (first
    | (go_at_call 29; go_loud ((with_reducible refine (is_any sr _ (potT N V 0) 1000 _ HFR.out HQV.out (by omega) HMD.out.1 HMD.out.2).mono ?_); rintro e w8 ⟨rfl, hb⟩; have KB := Lib.hid (KB.out.trans (hb.mono KB.out.size)); clear hb))
    | (go_at_call 18; go_loud ((with_reducible refine (livesH_true _).mono ?_); rintro e w9 ⟨rfl, hb⟩; have KB := Lib.hid (KB.out.trans (hb.mono KB.out.size)); clear hb)))
   go_ret
   exact ⟨rfl, KB.out⟩
  ·have hbad : ∃ er, NetBad n V er ∧ (er = 3 ∨ er = 1) := by
    by_cases h24 : 24 < V.length
    ·exact ⟨3, .inl ⟨h24, rfl⟩, .inl rfl⟩
    ·exact ⟨1, .inr ⟨by omega, rfl, fun N h => hok ⟨N, h⟩⟩, .inr rfl⟩
   obtain ⟨er, hb0, her⟩ := hbad
   have HB := Lib.hid hb0
   clear hok hb0
   rcases her with rfl | rfl
   all_goals
    go_wp2_with (first
     | (go_at_call 25; go_loud ((with_reducible refine (currents_bad _ V n _ _ PV.out HB.out).mono ?_); rintro e w3 ⟨rfl, hb⟩; have PV := Lib.hid (PV.out.below hb); have KB := Lib.hid (KB.out.trans (hb.mono KB.out.size)); clear hb))
     | (go_at_call 26; go_loud ((with_reducible refine (resistance_bad _ V n _ _ PV.out HB.out).mono ?_); rintro e w4 ⟨rfl, hb⟩; have PV := Lib.hid (PV.out.below hb); have KB := Lib.hid (KB.out.trans (hb.mono KB.out.size)); clear hb))
     | (go_at_call 27; go_loud ((with_reducible refine (net_any _ V n _ _ PV.out (netAns_bad HB.out)).mono ?_); rintro e w5 ⟨rfl, hb⟩; have PV := Lib.hid (PV.out.below hb); have KB := Lib.hid (KB.out.trans (hb.mono KB.out.size)); clear hb))
     | (go_at_call 18; go_loud ((with_reducible refine (livesH_true _).mono ?_); rintro e w9 ⟨rfl, hb⟩; have KB := Lib.hid (KB.out.trans (hb.mono KB.out.size)); clear hb)))
    go_ret
    exact ⟨rfl, KB.out⟩
end Go.Proofs.YtolkchkedieppaaGreat
