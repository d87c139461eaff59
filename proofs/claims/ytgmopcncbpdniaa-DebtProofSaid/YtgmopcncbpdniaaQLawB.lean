/- The law DebtCancels: its walk. -/
import Derived.Test.YtgmopcncbpdniaaQDual2
import Derived.Test.YtgmopcncbpdniaaQLawA
set_option linter.unusedVariables false
set_option linter.unusedSimpArgs false
namespace Go.Proofs.Ytgmopcncbpdniaa
open Go.RowKit

set_option maxHeartbeats 4000000 in
set_option maxRecDepth 100000 in
theorem lawCancels (vy : Value) (n0 : Nat) (m0 : Nat → Nat) (d : Nat → Nat → Int) (w : World) (hy : Mat w vy n0 m0 d) (b1 : n0 ≤ 9223372036854775807) (b2 : ∀ i, i < n0 → m0 i ≤ 9223372036854775807) :
    Calls Try.prog 4 #[vy] w fun e w' => e = .returned (.bool true) ∧ Below w.heap.size w w' := by
  have HY := Lib.hid hy
  have B2 := Lib.hid b2
  clear hy b2
  go_enter Try.func4, Try.ntmps4
  go_wp2_with fail
  refine (rows_any _ n0 m0 d _ HY.out b1 B2.out).mono ?_
  rintro e w1 ⟨va1, vk1, rfl, hm1, hb1⟩
  have HD := Lib.hid hm1
  have KW := Lib.hid hb1
  clear hm1 hb1 HY B2
  obtain ⟨n, hn⟩ : ∃ n, n = min n0 9 := ⟨_, rfl⟩
  rw [← hn] at HD ⊢
  have hn9 : n ≤ 9 := by omega
  clear hn b1
  have hM : ∀ i, i < n → cutM m0 i ≤ 1048576 := fun i _ => cutM_le _ _
  generalize cutM m0 = m at HD hM ⊢
  have HM := Lib.hid hM
  clear hM
  by_cases hD : Debts n m d
  · have HDB := Lib.hid hD
    have HDD : Hid (∀ i j, i < n → j < n → 0 ≤ d i j ∧ d i j ≤ 1000) := Lib.hid (fun i j hi hj => (hD.2.2 i hi).2.2 j hj)
    have HLN : Hid (∀ i, i < n → m i = n) := Lib.hid (fun i hi => (hD.2.2 i hi).1)
    have hn8 := hD.2.1
    clear hD
    go_wp2_with fail
    refine (Cancel_ok _ n m d _ HD.out HDB.out).mono ?_
    rintro e w2 ⟨R, r, p0, rfl, hom, hopt, _, _, hb2⟩
    have HR := Lib.hid hom.mat
    have HO := Lib.hid hopt
    have HD := Lib.hid (HD.out.mono hb2 (Nat.le_refl _))
    have KW := Lib.hid (KW.out.trans (hb2.mono KW.out.size))
    clear hom hopt hb2
    go_wp2_with fail
    refine (Prices_ok _ n m d _ HD.out HDB.out).mono ?_
    rintro e w3 ⟨C, r1, p, rfl, hrow, hopt1, hp, _, hb3⟩
    have HP : Hid (Ints w3 (.slice (some ⟨C, 0, none⟩) n n) n p) := Lib.hid ⟨_, _, _, _, rfl, rowIs_sl hrow⟩
    have HPP := Lib.hid (opt_PP (opt_cross hopt1 HO.out))
    have HPR : Hid (∀ i, i < n → -1000 ≤ p i ∧ p i ≤ 1000) := Lib.hid (fun i hi => by have := hp i hi; omega)
    have HD := Lib.hid (HD.out.mono hb3 (Nat.le_refl _))
    have HR := Lib.hid (HR.out.mono hb3 (Nat.le_refl _))
    have KW := Lib.hid (KW.out.trans (hb3.mono KW.out.size))
    have HD2 := Lib.hid (HD.out.row_len (m' := fun _ => n) HLN.out)
    have HRB : Hid (∀ i j, i < n → j < n → 0 ≤ r i j ∧ r i j ≤ 1000) := Lib.hid (fun i j hi hj => by have := HO.out.inv.range i j hi hj; have := HDD.out i j hi hj; omega)
    have s1 := sum2_small hn8 HDD.out
    have s2 := sum2_small hn8 HRB.out
    have hwr : IntKind.i64.wrap (sum2 n d - sum2 n r) = sum2 n d - sum2 n r := by rw [IntKind.wrap_i64]; omega
    have e2 : ((sum2 n d - sum2 n r) == (sum2 n d - sum2 n r)) = true := by simp
    have e1 : (((n : Nat) : Int) == ((n : Nat) : Int)) = true := by simp
    clear hrow hopt1 hp hb3 s1 s2
    go_wp2_with (first
      | (go_at_call 15; (with_reducible refine (debts_any _ n m d true ⟨fun _ => HDB.out, fun _ => rfl⟩ _ HD.out (by omega)).mono ?_); rintro e w5 ⟨rfl, hd5⟩; have HD := Lib.hid (HD.out.drawn hd5); have HR := Lib.hid (HR.out.drawn hd5); have HD2 := Lib.hid (HD2.out.drawn hd5); have HP := Lib.hid (HP.out.drawn hd5); have KW := Lib.hid (KW.out.trans (hd5.below _)); clear hd5)
      | (go_at_call 9; (with_reducible refine (shape_any _ _ n n m (fun _ => n) d r true ⟨fun _ => ⟨rfl, fun _ _ => rfl⟩, fun _ => rfl⟩ _ HD.out HR.out (by omega) (by omega)).mono ?_); rintro e w6 ⟨rfl, hd6⟩; have HD2 := Lib.hid (HD2.out.drawn hd6); have HR := Lib.hid (HR.out.drawn hd6); have HP := Lib.hid (HP.out.drawn hd6); have KW := Lib.hid (KW.out.trans (hd6.below _)); clear hd6)
      | (go_at_call 16; (with_reducible refine (prices_any _ n p true ⟨fun _ => HPR.out, fun _ => rfl⟩ _ HP.out (by omega)).mono ?_); rintro e w7 ⟨rfl, hd7⟩; have HD2 := Lib.hid (HD2.out.drawn hd7); have HR := Lib.hid (HR.out.drawn hd7); have HP := Lib.hid (HP.out.drawn hd7); have KW := Lib.hid (KW.out.trans (hd7.below _)); clear hd7)
      | (go_at_call 17; (with_reducible refine (refProves_any _ _ _ n d r p true ⟨fun _ => HPP.out, fun _ => rfl⟩ _ HD2.out HR.out HP.out hn8 HDD.out HPR.out).mono ?_); rintro e w8 ⟨rfl, hd8⟩; have HD2 := Lib.hid (HD2.out.drawn hd8); have HR := Lib.hid (HR.out.drawn hd8); have KW := Lib.hid (KW.out.trans (hd8.below _)); clear hd8)
      | (go_at_call 11; (with_reducible refine (refSum_any _ n d _ HD2.out hn8 HDD.out).mono ?_); rintro e w9 ⟨rfl, hd9⟩; have HR := Lib.hid (HR.out.drawn hd9); have KW := Lib.hid (KW.out.trans (hd9.below _)); clear hd9)
      | (go_at_call 11; (with_reducible refine (refSum_any _ n r _ HR.out hn8 HRB.out).mono ?_); rintro e w10 ⟨rfl, hd10⟩; have KW := Lib.hid (KW.out.trans (hd10.below _)); clear hd10)
      | (go_at_call 12; (with_reducible refine (lives_true _).mono ?_); rintro e w11 ⟨rfl, hb11⟩; have KW := Lib.hid (KW.out.trans (hb11.mono KW.out.size)); clear hb11))
    go_ret
    exact ⟨rfl, KW.out⟩
  · have HDB := Lib.hid hD
    clear hD
    go_wp2_with (first
      | (go_at_call 8; (with_reducible refine (Cancel_bad _ n m d _ HD.out (by omega) HM.out HDB.out).mono ?_); rintro e w2 ⟨rfl, hd2⟩; have HD := Lib.hid (HD.out.drawn hd2); have KW := Lib.hid (KW.out.trans (hd2.below _)); clear hd2)
      | (go_at_call 14; (with_reducible refine (Prices_bad _ n m d _ HD.out (by omega) HM.out HDB.out).mono ?_); rintro e w3 ⟨rfl, hd3⟩; have HD := Lib.hid (HD.out.drawn hd3); have KW := Lib.hid (KW.out.trans (hd3.below _)); clear hd3)
      | (go_at_call 15; (with_reducible refine (debts_any _ n m d false ⟨fun e => Bool.noConfusion e, fun h => absurd h HDB.out⟩ _ HD.out (by omega)).mono ?_); rintro e w5 ⟨rfl, hd5⟩; have KW := Lib.hid (KW.out.trans (hd5.below _)); clear hd5)
      | (go_at_call 12; (with_reducible refine (lives_true _).mono ?_); rintro e w9 ⟨rfl, hb9⟩; have KW := Lib.hid (KW.out.trans (hb9.mono KW.out.size)); clear hb9))
    go_ret
    exact ⟨rfl, KW.out⟩

end Go.Proofs.Ytgmopcncbpdniaa
