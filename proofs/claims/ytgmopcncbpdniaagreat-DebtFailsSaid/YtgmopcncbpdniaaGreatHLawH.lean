/- The law DebtFails: its walk. -/
import Derived.Test.YtgmopcncbpdniaaGreatHFig
import Derived.Test.YtgmopcncbpdniaaGreatHQMat
import Derived.Test.YtgmopcncbpdniaaGreatHRFails
import Derived.Test.YtgmopcncbpdniaaGreatHLive5
import Derived.Test.YtgmopcncbpdniaaGreatHPlainM
import Derived.Test.YtgmopcncbpdniaaGreatHLives
set_option linter.unusedVariables false
set_option linter.unusedSimpArgs false
namespace Go.Proofs.YtgmopcncbpdniaaGreat
open Go.RowKit
attribute [local go_sem ↓] Go.wp_at_zero Go.wp_at_succ
set_option maxHeartbeats 4000000 in
set_option maxRecDepth 100000 in
theorem lawFails (vx vy : Value) (nx n0 : Nat) (m0 : Nat → Nat) (x : Nat → Int) (d : Nat → Nat → Int) (w : World) (hx : Ints w vx nx x) (hy : Mat w vy n0 m0 d) (b0 : nx ≤ 9223372036854775807) (b1 : n0 ≤ 9223372036854775807) (b2 : ∀ i, i < n0 → m0 i ≤ 9223372036854775807) :
  Calls Tryz.prog 5 #[vx, vy] w fun e w' => e = .returned (.bool true) ∧ Below w.heap.size w w' := by
 have HX := Lib.hid hx
 have HY := Lib.hid hy
 have B2 := Lib.hid b2
 clear hx hy b2
 go_enter Tryz.func5, Tryz.ntmps5
 go_wp2_with fail
 refine (cut_any _ nx x _ HX.out b0).mono ?_
 rintro e w1 ⟨va1, vk1, rfl, hm1, hb1⟩
 have HC := Lib.hid (ints_of_own hm1)
 have HY := Lib.hid (HY.out.mono hb1 (Nat.le_refl _))
 have KW := Lib.hid hb1
 clear hm1 hb1 HX
 go_wp2_with fail
 refine (rows_any _ n0 m0 d _ HY.out b1 B2.out).mono ?_
 rintro e w2 ⟨va2, vk2, rfl, hm2, hb2⟩
 have HD := Lib.hid hm2
 have HC := Lib.hid (HC.out.mono hb2 (Nat.le_refl _))
 have KW := Lib.hid (KW.out.trans (hb2.mono KW.out.size))
 clear hm2 hb2 HY B2
 obtain ⟨n, hn⟩ : ∃ n, n = min n0 9 := ⟨_, rfl⟩
 obtain ⟨nc, hnc⟩ : ∃ nc, nc = min nx 9 := ⟨_, rfl⟩
 rw [← hn] at HD ⊢
 rw [← hnc] at HC ⊢
 have hn9 : n ≤ 9 := by omega
 have hc9 : nc ≤ 9 := by omega
 clear hn hnc b0 b1
 have hM : ∀ i, i < n → cutM m0 i ≤ 1048576 := fun i _ => cutM_small _ _
 generalize cutM m0 = m at HD hM ⊢
 have HM := Lib.hid hM
 clear hM
 by_cases hK : Mkt nc n x m d
 ·have HK := Lib.hid hK
  obtain ⟨hC, hD, rfl⟩ := hK
  have h1 : 1 ≤ nc := hD.1
  have h8 : nc ≤ 8 := hD.2.1
  have HCB := Lib.hid hC
  have HDB := Lib.hid (inD_debts hD)
  have HD0 := Lib.hid (inD_pos hD)
  have HD2 := Lib.hid (inD_mat HD.out hD)
  clear hC hD
  generalize inD nc d = d2 at HDB HD0 HD2
  have HRG := Lib.hid (rng_of HDB.out HCB.out HD0.out)
  obtain ⟨ps, hps⟩ := ps_ex HRG.out h8 HD0.out
  have HPS := Lib.hid hps
  have HR0 : Hid (∀ i j, i < nc → j < nc → d2 i j ≤ 1000) := Lib.hid (fun i j hi hj => (HRG.out.deb i j hi hj).2)
  have HT0 : Hid (∀ i, i < nc → sumF (d2 i) nc ≤ 100000) := Lib.hid (fun i hi => (HRG.out.tot i hi).2)
  clear hps
  go_wp2_with fail
  refine (fails_any _ _ nc x (fun _ => nc) d2 ps _ HC.out HD2.out HDB.out HCB.out HD0.out HPS.out).mono ?_
  rintro e w3 ⟨q, qa, qk, rfl, hl3, hmt, hb3⟩
  have HL := Lib.hid hl3
  have HMT := Lib.hid hmt
  have HC := Lib.hid (HC.out.mono hb3 (Nat.le_refl _))
  have HD := Lib.hid (HD.out.mono hb3 (Nat.le_refl _))
  have HD2 := Lib.hid (HD2.out.mono hb3 (Nat.le_refl _))
  have KW := Lib.hid (KW.out.trans (hb3.mono KW.out.size))
  clear hl3 hmt hb3
  go_wp2_with fail
  refine (keeps_any _ _ nc x (fun _ => nc) d2 ps _ HC.out HD2.out HDB.out HCB.out HD0.out HPS.out).mono ?_
  rintro e w4 ⟨q4, pa, pk, ss, rfl, hl4, htx, hst, hb4⟩
  obtain rfl := last_uniq HL.out hl4
  have TQ : Hid (TxtQs nc (keepP nc x d2 (PS nc x d2 ps q)) ss) := Lib.hid ⟨fun j hj => ⟨htx.txt j hj, (keep_maxD HRG.out h8 HD0.out HPS.out q j hj).1, (keep_maxD HRG.out h8 HD0.out HPS.out q j hj).2⟩⟩
  have ST : Hid (Strs w4 (.slice pa nc pk) nc ss) := Lib.hid hst
  have HMT := Lib.hid (HMT.out.mono hb4 (Nat.le_refl _))
  have HC := Lib.hid (HC.out.mono hb4 (Nat.le_refl _))
  have HD := Lib.hid (HD.out.mono hb4 (Nat.le_refl _))
  have HD2 := Lib.hid (HD2.out.mono hb4 (Nat.le_refl _))
  have KW := Lib.hid (KW.out.trans (hb4.mono KW.out.size))
  clear hl4 htx hst hb4
  go_wp2_with (go_at_call 23; (with_reducible refine (market_any _ _ nc nc x m d true ⟨fun _ => HK.out, fun _ => rfl⟩ _ HC.out HD.out (by omega) (by omega)).mono ?_); rintro e w5 ⟨rfl, hd5⟩)
  have HMT := Lib.hid (HMT.out.drawn hd5)
  have HC := Lib.hid (HC.out.drawn hd5)
  have HD2 := Lib.hid (HD2.out.drawn hd5)
  have ST := Lib.hid (ST.out.mono (hd5.below _) (Nat.le_refl _))
  have KW := Lib.hid (KW.out.trans (hd5.below _))
  clear hd5 HD
  refine (rfails_any _ _ nc x d2 ps _ HC.out HD2.out (by omega) h8 HRG.out HD0.out HPS.out).mono ?_
  rintro e w6 ⟨q6, ra, rk, vp, rfl, hl6, hm6, hp6, hb6⟩
  obtain rfl := last_uniq HL.out hl6
  have HMR := Lib.hid hm6
  have HP := Lib.hid hp6
  have HMT := Lib.hid (HMT.out.mono hb6 (Nat.le_refl _))
  have HC := Lib.hid (HC.out.mono hb6 (Nat.le_refl _))
  have HD2 := Lib.hid (HD2.out.mono hb6 (Nat.le_refl _))
  have ST := Lib.hid (ST.out.mono hb6 (Nat.le_refl _))
  have KW := Lib.hid (KW.out.trans (hb6.mono KW.out.size))
  have hq : q ≤ 1048576 := Nat.le_trans HL.out.le (by omega)
  have HRW : Hid (∀ i, i < q → rwM nc x d2 ps i ≤ 1048576) := Lib.hid (fun i _ => Nat.le_trans (rankF_le _ nc) (by omega))
  clear hl6 hm6 hp6 hb6 HK HDB HPS HRG HL
  go_wp2_with (first
   | (go_at_call 25; (with_reducible refine (sameLists_eq _ _ q (rwM nc x d2 ps) (rwF nc x d2 ps) _ HMT.out HMR.out hq HRW.out).mono ?_); rintro e w7 ⟨rfl, hd7⟩; have HC := Lib.hid (HC.out.drawn hd7); have HD2 := Lib.hid (HD2.out.drawn hd7); have ST := Lib.hid (ST.out.mono (hd7.below _) (Nat.le_refl _)); have HP := Lib.hid (HP.out.mono (hd7.below _) (Nat.le_refl _)); have KW := Lib.hid (KW.out.trans (hd7.below _)); clear hd7)
   | (go_at_call 27; (with_reducible refine (rkeeps_any _ _ _ nc x d2 (PS nc x d2 ps q) 1000 _ HC.out HD2.out HP.out h8 HCB.out HD0.out HR0.out HT0.out (by omega) (by omega)).mono ?_); rintro e w8 ⟨ka, kk, kx, rfl, hk8, hb8⟩; have ST := Lib.hid (ST.out.mono hb8 (Nat.le_refl _)); have HKP := Lib.hid (hk8.sl h1); have KW := Lib.hid (KW.out.trans (hb8.mono KW.out.size)); clear hk8 hb8)
   | (go_at_call 26; (with_reducible refine (are_true _ _ nc _ ss _ _ ST.out HKP.out TQ.out (by omega) (by omega)).mono ?_); rintro e w9 ⟨rfl, hb9⟩; have KW := Lib.hid (KW.out.trans (hb9.mono KW.out.size)); clear hb9)
   | (go_at_call 13; (with_reducible refine (lives_true _).mono ?_); rintro e w10 ⟨rfl, hb10⟩; have KW := Lib.hid (KW.out.trans (hb10.mono KW.out.size)); clear hb10))
  go_ret
  exact ⟨rfl, KW.out⟩
 ·have HK := Lib.hid hK
  clear hK
  go_wp2_with (first
   | (go_at_call 15; (with_reducible refine (fails_no _ _ nc n x m d _ HC.out HD.out (by omega) (by omega) HM.out HK.out).mono ?_); rintro e w3 ⟨rfl, hb3⟩; have HC := Lib.hid (HC.out.mono hb3 (Nat.le_refl _)); have HD := Lib.hid (HD.out.mono hb3 (Nat.le_refl _)); have KW := Lib.hid (KW.out.trans (hb3.mono KW.out.size)); clear hb3)
   | (go_at_call 22; (with_reducible refine (keeps_no _ _ nc n x m d _ HC.out HD.out (by omega) (by omega) HM.out HK.out).mono ?_); rintro e w4 ⟨rfl, hb4⟩; have HC := Lib.hid (HC.out.mono hb4 (Nat.le_refl _)); have HD := Lib.hid (HD.out.mono hb4 (Nat.le_refl _)); have KW := Lib.hid (KW.out.trans (hb4.mono KW.out.size)); clear hb4)
   | (go_at_call 23; (with_reducible refine (market_any _ _ nc n x m d false ⟨fun e => Bool.noConfusion e, fun h => absurd h HK.out⟩ _ HC.out HD.out (by omega) (by omega)).mono ?_); rintro e w5 ⟨rfl, hd5⟩; have KW := Lib.hid (KW.out.trans (hd5.below _)); clear hd5)
   | (go_at_call 13; (with_reducible refine (lives_true _).mono ?_); rintro e w6 ⟨rfl, hb6⟩; have KW := Lib.hid (KW.out.trans (hb6.mono KW.out.size)); clear hb6))
  go_ret
  exact ⟨rfl, KW.out⟩
end Go.Proofs.YtgmopcncbpdniaaGreat
