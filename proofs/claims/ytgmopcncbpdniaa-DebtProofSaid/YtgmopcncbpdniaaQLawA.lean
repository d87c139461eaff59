/- The law DebtProves: its walk. -/
import Derived.Test.YtgmopcncbpdniaaQPrv2
import Derived.Test.YtgmopcncbpdniaaQRws
import Derived.Test.YtgmopcncbpdniaaQLives
set_option linter.unusedVariables false
set_option linter.unusedSimpArgs false
namespace Go.Proofs.Ytgmopcncbpdniaa
open Go.RowKit

theorem cutM_le (m : Nat → Nat) (i : Nat) : cutM m i ≤ 1048576 := by unfold cutM; omega
theorem range_of (P : Nat → Prop) [DecidablePred P] (n : Nat) : (∀ i, i < n → P i) ∨ ¬ ∀ i, i < n → P i := Classical.em _
theorem bool_ex (P : Prop) : ∃ t : Bool, t = true ↔ P := by
  by_cases h : P
  · exact ⟨true, ⟨fun _ => h, fun _ => rfl⟩⟩
  · exact ⟨false, ⟨fun e => Bool.noConfusion e, fun e => absurd e h⟩⟩

set_option maxHeartbeats 4000000 in
set_option maxRecDepth 100000 in
theorem lawProves (vy vz vw : Value) (n0 q0 np0 : Nat) (m0 mr0 : Nat → Nat) (d r : Nat → Nat → Int) (p : Nat → Int) (w : World) (hy : Mat w vy n0 m0 d) (hz : Mat w vz q0 mr0 r) (hw : Ints w vw np0 p)
    (b1 : n0 ≤ 9223372036854775807) (b2 : ∀ i, i < n0 → m0 i ≤ 9223372036854775807) (b3 : q0 ≤ 9223372036854775807) (b4 : ∀ i, i < q0 → mr0 i ≤ 9223372036854775807) (b5 : np0 ≤ 9223372036854775807) :
    Calls Try.prog 5 #[vy, vz, vw] w fun e w' => e = .returned (.bool true) ∧ Below w.heap.size w w' := by
  have HY := Lib.hid hy
  have HZ := Lib.hid hz
  have HW := Lib.hid hw
  have B2 := Lib.hid b2
  have B4 := Lib.hid b4
  clear hy hz hw b2 b4
  go_enter Try.func5, Try.ntmps5
  go_wp2_with fail
  refine (rows_any _ n0 m0 d _ HY.out b1 B2.out).mono ?_
  rintro e w1 ⟨va1, vk1, rfl, hm1, hb1⟩
  have HD := Lib.hid hm1
  have HZ := Lib.hid (HZ.out.mono hb1 (Nat.le_refl _))
  have HW := Lib.hid (HW.out.mono hb1 (Nat.le_refl _))
  have KW := Lib.hid hb1
  clear hm1 hb1 HY
  go_wp2_with fail
  refine (rows_any _ q0 mr0 r _ HZ.out b3 B4.out).mono ?_
  rintro e w2 ⟨va2, vk2, rfl, hm2, hb2⟩
  have HR := Lib.hid hm2
  have HD := Lib.hid (HD.out.mono hb2 (Nat.le_refl _))
  have HW := Lib.hid (HW.out.mono hb2 (Nat.le_refl _))
  have KW := Lib.hid (KW.out.trans (hb2.mono KW.out.size))
  clear hm2 hb2 HZ
  go_wp2_with fail
  refine (cut_any _ np0 p _ HW.out b5).mono ?_
  rintro e w3 ⟨va3, vk3, rfl, hm3, hb3⟩
  have HP := Lib.hid (ints_of_own hm3)
  have HD := Lib.hid (HD.out.mono hb3 (Nat.le_refl _))
  have HR := Lib.hid (HR.out.mono hb3 (Nat.le_refl _))
  have KW := Lib.hid (KW.out.trans (hb3.mono KW.out.size))
  clear hm3 hb3 HW B2 B4
  obtain ⟨n, hn⟩ : ∃ n, n = min n0 9 := ⟨_, rfl⟩
  obtain ⟨q, hq⟩ : ∃ q, q = min q0 9 := ⟨_, rfl⟩
  obtain ⟨np, hnp⟩ : ∃ np, np = min np0 9 := ⟨_, rfl⟩
  rw [← hn] at HD ⊢
  rw [← hq] at HR ⊢
  rw [← hnp] at HP ⊢
  have hn9 : n ≤ 9 := by omega
  have hq9 : q ≤ 9 := by omega
  have hnp9 : np ≤ 9 := by omega
  clear hn hq hnp b1 b3 b5
  have hM : ∀ i, i < n → cutM m0 i ≤ 1048576 := fun i _ => cutM_le _ _
  have hMR : ∀ i, i < q → cutM mr0 i ≤ 1048576 := fun i _ => cutM_le _ _
  generalize cutM m0 = m at HD hM ⊢
  generalize cutM mr0 = mr at HR hMR ⊢
  have HM := Lib.hid hM
  have HMR := Lib.hid hMR
  clear hM hMR
  go_wp2_with fail
  by_cases hD : Debts n m d
  · have HDB := Lib.hid hD
    by_cases hS : q = n ∧ ∀ i, i < q → mr i = n
    · obtain ⟨rfl, hS⟩ := hS
      have HS := Lib.hid hS
      by_cases hP : np = q
      · obtain rfl := hP
        have e1 : (((np : Nat) : Int) != ((np : Nat) : Int)) = false := by simp
        by_cases hPR : ∀ i, i < np → -1000 ≤ p i ∧ p i ≤ 1000
        · -- all is well formed
          have HPR := Lib.hid hPR
          obtain ⟨t, ht⟩ := bool_ex (PP np d r p)
          have HT := Lib.hid ht
          have HR2 := Lib.hid (HR.out.row_len (m' := fun _ => np) HS.out)
          have HD2 := Lib.hid (HD.out.row_len (m' := fun _ => np) (fun i hi => (hD.2.2 i hi).1))
          have HDD : Hid (∀ i j, i < np → j < np → 0 ≤ d i j ∧ d i j ≤ 1000) := Lib.hid (fun i j hi hj => (hD.2.2 i hi).2.2 j hj)
          have tt : (t == t) = true := by simp
          have hn8 := hD.2.1
          clear hD hS hPR ht
          refine (dProves_ok _ _ _ np m d r p t HT.out _ HD.out HR2.out HP.out HDB.out HPR.out).mono ?_
          rintro e w4 ⟨rfl, hb4⟩
          have HD := Lib.hid (HD.out.mono hb4 (Nat.le_refl _))
          have HR := Lib.hid (HR.out.mono hb4 (Nat.le_refl _))
          have HD2 := Lib.hid (HD2.out.mono hb4 (Nat.le_refl _))
          have HR2 := Lib.hid (HR2.out.mono hb4 (Nat.le_refl _))
          have HP := Lib.hid (HP.out.mono hb4 (Nat.le_refl _))
          have KW := Lib.hid (KW.out.trans (hb4.mono KW.out.size))
          clear hb4
          go_wp2_with (first
            | (go_at_call 15; (with_reducible refine (debts_any _ np m d true ⟨fun _ => HDB.out, fun _ => rfl⟩ _ HD.out (by omega)).mono ?_); rintro e w5 ⟨rfl, hd5⟩; have HD := Lib.hid (HD.out.drawn hd5); have HR := Lib.hid (HR.out.drawn hd5); have HD2 := Lib.hid (HD2.out.drawn hd5); have HR2 := Lib.hid (HR2.out.drawn hd5); have HP := Lib.hid (HP.out.drawn hd5); have KW := Lib.hid (KW.out.trans (hd5.below _)); clear hd5)
            | (go_at_call 9; (with_reducible refine (shape_any _ _ np np m mr d r true ⟨fun _ => ⟨rfl, HS.out⟩, fun _ => rfl⟩ _ HD.out HR.out (by omega) (by omega)).mono ?_); rintro e w6 ⟨rfl, hd6⟩; have HD2 := Lib.hid (HD2.out.drawn hd6); have HR2 := Lib.hid (HR2.out.drawn hd6); have HP := Lib.hid (HP.out.drawn hd6); have KW := Lib.hid (KW.out.trans (hd6.below _)); clear hd6)
            | (go_at_call 16; (with_reducible refine (prices_any _ np p true ⟨fun _ => HPR.out, fun _ => rfl⟩ _ HP.out (by omega)).mono ?_); rintro e w7 ⟨rfl, hd7⟩; have HD2 := Lib.hid (HD2.out.drawn hd7); have HR2 := Lib.hid (HR2.out.drawn hd7); have HP := Lib.hid (HP.out.drawn hd7); have KW := Lib.hid (KW.out.trans (hd7.below _)); clear hd7)
            | (go_at_call 17; (with_reducible refine (refProves_any _ _ _ np d r p t HT.out _ HD2.out HR2.out HP.out hn8 HDD.out HPR.out).mono ?_); rintro e w8 ⟨rfl, hd8⟩; have KW := Lib.hid (KW.out.trans (hd8.below _)); clear hd8)
            | (go_at_call 12; (with_reducible refine (lives_true _).mono ?_); rintro e w9 ⟨rfl, hb9⟩; have KW := Lib.hid (KW.out.trans (hb9.mono KW.out.size)); clear hb9))
          go_ret
          exact ⟨rfl, KW.out⟩
        · -- a price is out of range
          have HPR := Lib.hid hPR
          clear hD hS hPR
          refine (dProves_form _ _ _ np np np m mr d r p _ HD.out HR.out HP.out (by omega) HM.out (by omega) HMR.out (by omega) HDB.out (fun h => HPR.out h.2.2.2)).mono ?_
          rintro e w4 ⟨rfl, hb4⟩
          have HD := Lib.hid (HD.out.mono hb4 (Nat.le_refl _))
          have HR := Lib.hid (HR.out.mono hb4 (Nat.le_refl _))
          have HP := Lib.hid (HP.out.mono hb4 (Nat.le_refl _))
          have KW := Lib.hid (KW.out.trans (hb4.mono KW.out.size))
          clear hb4
          go_wp2_with (first
            | (go_at_call 15; (with_reducible refine (debts_any _ np m d true ⟨fun _ => HDB.out, fun _ => rfl⟩ _ HD.out (by omega)).mono ?_); rintro e w5 ⟨rfl, hd5⟩; have HD := Lib.hid (HD.out.drawn hd5); have HR := Lib.hid (HR.out.drawn hd5); have HP := Lib.hid (HP.out.drawn hd5); have KW := Lib.hid (KW.out.trans (hd5.below _)); clear hd5)
            | (go_at_call 9; (with_reducible refine (shape_any _ _ np np m mr d r true ⟨fun _ => ⟨rfl, HS.out⟩, fun _ => rfl⟩ _ HD.out HR.out (by omega) (by omega)).mono ?_); rintro e w6 ⟨rfl, hd6⟩; have HP := Lib.hid (HP.out.drawn hd6); have KW := Lib.hid (KW.out.trans (hd6.below _)); clear hd6)
            | (go_at_call 16; (with_reducible refine (prices_any _ np p false ⟨fun e => Bool.noConfusion e, fun h => absurd h HPR.out⟩ _ HP.out (by omega)).mono ?_); rintro e w7 ⟨rfl, hd7⟩; have KW := Lib.hid (KW.out.trans (hd7.below _)); clear hd7)
            | (go_at_call 12; (with_reducible refine (lives_true _).mono ?_); rintro e w9 ⟨rfl, hb9⟩; have KW := Lib.hid (KW.out.trans (hb9.mono KW.out.size)); clear hb9))
          go_ret
          exact ⟨rfl, KW.out⟩
      · -- the number of prices
        have HNP := Lib.hid hP
        have e1 : (((np : Nat) : Int) != ((q : Nat) : Int)) = true := by simp; omega
        clear hD hS hP
        refine (dProves_form _ _ _ q q np m mr d r p _ HD.out HR.out HP.out (by omega) HM.out (by omega) HMR.out (by omega) HDB.out (fun h => HNP.out h.2.1)).mono ?_
        rintro e w4 ⟨rfl, hb4⟩
        have HD := Lib.hid (HD.out.mono hb4 (Nat.le_refl _))
        have HR := Lib.hid (HR.out.mono hb4 (Nat.le_refl _))
        have KW := Lib.hid (KW.out.trans (hb4.mono KW.out.size))
        clear hb4
        go_wp2_with (first
          | (go_at_call 15; (with_reducible refine (debts_any _ q m d true ⟨fun _ => HDB.out, fun _ => rfl⟩ _ HD.out (by omega)).mono ?_); rintro e w5 ⟨rfl, hd5⟩; have HD := Lib.hid (HD.out.drawn hd5); have HR := Lib.hid (HR.out.drawn hd5); have KW := Lib.hid (KW.out.trans (hd5.below _)); clear hd5)
          | (go_at_call 9; (with_reducible refine (shape_any _ _ q q m mr d r true ⟨fun _ => ⟨rfl, HS.out⟩, fun _ => rfl⟩ _ HD.out HR.out (by omega) (by omega)).mono ?_); rintro e w6 ⟨rfl, hd6⟩; have KW := Lib.hid (KW.out.trans (hd6.below _)); clear hd6)
          | (go_at_call 12; (with_reducible refine (lives_true _).mono ?_); rintro e w9 ⟨rfl, hb9⟩; have KW := Lib.hid (KW.out.trans (hb9.mono KW.out.size)); clear hb9))
        go_ret
        exact ⟨rfl, KW.out⟩
    · -- another shape
      have HNS := Lib.hid hS
      clear hD hS
      refine (dProves_form _ _ _ n q np m mr d r p _ HD.out HR.out HP.out (by omega) HM.out (by omega) HMR.out (by omega) HDB.out (fun h => HNS.out ⟨h.1, h.2.2.1⟩)).mono ?_
      rintro e w4 ⟨rfl, hb4⟩
      have HD := Lib.hid (HD.out.mono hb4 (Nat.le_refl _))
      have HR := Lib.hid (HR.out.mono hb4 (Nat.le_refl _))
      have KW := Lib.hid (KW.out.trans (hb4.mono KW.out.size))
      clear hb4
      go_wp2_with (first
        | (go_at_call 15; (with_reducible refine (debts_any _ n m d true ⟨fun _ => HDB.out, fun _ => rfl⟩ _ HD.out (by omega)).mono ?_); rintro e w5 ⟨rfl, hd5⟩; have HD := Lib.hid (HD.out.drawn hd5); have HR := Lib.hid (HR.out.drawn hd5); have KW := Lib.hid (KW.out.trans (hd5.below _)); clear hd5)
        | (go_at_call 9; (with_reducible refine (shape_any _ _ n q m mr d r false ⟨fun e => Bool.noConfusion e, fun h => absurd h HNS.out⟩ _ HD.out HR.out (by omega) (by omega)).mono ?_); rintro e w6 ⟨rfl, hd6⟩; have KW := Lib.hid (KW.out.trans (hd6.below _)); clear hd6)
        | (go_at_call 12; (with_reducible refine (lives_true _).mono ?_); rintro e w9 ⟨rfl, hb9⟩; have KW := Lib.hid (KW.out.trans (hb9.mono KW.out.size)); clear hb9))
      go_ret
      exact ⟨rfl, KW.out⟩
  · -- no debts
    have HDB := Lib.hid hD
    clear hD
    refine (dProves_arg _ _ _ n q np m mr d r p _ HD.out HR.out HP.out (by omega) HM.out (by omega) HMR.out (by omega) HDB.out).mono ?_
    rintro e w4 ⟨rfl, hb4⟩
    have HD := Lib.hid (HD.out.mono hb4 (Nat.le_refl _))
    have KW := Lib.hid (KW.out.trans (hb4.mono KW.out.size))
    clear hb4
    go_wp2_with (first
      | (go_at_call 15; (with_reducible refine (debts_any _ n m d false ⟨fun e => Bool.noConfusion e, fun h => absurd h HDB.out⟩ _ HD.out (by omega)).mono ?_); rintro e w5 ⟨rfl, hd5⟩; have KW := Lib.hid (KW.out.trans (hd5.below _)); clear hd5)
      | (go_at_call 12; (with_reducible refine (lives_true _).mono ?_); rintro e w9 ⟨rfl, hb9⟩; have KW := Lib.hid (KW.out.trans (hb9.mono KW.out.size)); clear hb9))
    go_ret
    exact ⟨rfl, KW.out⟩

end Go.Proofs.Ytgmopcncbpdniaa
