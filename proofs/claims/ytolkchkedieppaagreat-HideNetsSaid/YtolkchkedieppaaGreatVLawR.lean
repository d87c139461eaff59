/- The law HideNets: its walk. -/
import Derived.Test.YtolkchkedieppaaGreatVFew
import Derived.Test.YtolkchkedieppaaGreatVLawQ
import Derived.Test.YtolkchkedieppaaGreatVRdF
import Derived.BigQuiet
set_option linter.unusedVariables false
set_option linter.unusedSimpArgs false
namespace Go.Proofs.YtolkchkedieppaaGreat
open Go.RowKit
attribute [local go_sem ↓] Go.wp_at_zero Go.wp_at_succ
theorem pairRow {w : World} {base n : Nat} {va : Option Addr} {vk : Nat} {P : List (Int × Int)} (h : w.ownsRow base 40 2 (.slice va n vk) n (prL P)) (hl : P.length = n) (h0 : 0 < n) :
  ∃ g, va = some ⟨g, 0, none⟩ ∧ PrR w g 0 P ∧ g < w.heap.size := by
 subst hl
 obtain ⟨g, c, hv, _, _⟩ := h.form (by omega)
 injection hv with u1 u2 u3
 subst u1; subst u3
 exact ⟨g, rfl, prR_own h⟩
set_option maxHeartbeats 8000000 in
set_option maxRecDepth 100000 in
theorem lawNets (v : Value) (S0 : List Tr) (w : World) (hv : SqA w v S0) :
  Calls Tryz.prog 4 #[v] w fun e w' => e = .returned (.bool true) ∧ Below w.heap.size w w' := by
 have hfew := few_row v S0 24 w hv (by omega)
 rw [show ((24 : Nat) : Int) = 24 from rfl] at hfew
 clear hv
 go_enter Tryz.func4, Tryz.ntmps4
 go_upto_region 2 with (go_at_call 19; (with_reducible refine hfew.mono ?_); rintro e w1 ⟨va, vk, T, rfl, hT, ho, hb⟩; have HO := Lib.hid ho; have KW := Lib.hid hb; clear ho hb hT)
 clear hfew
 have KB := Lib.hid (Below.refl w1.heap.size w1)
 rcases cut_or_bad T with hC | ⟨z, hz⟩
 ·obtain ⟨W, H, hm⟩ := MkC.of_cut hC
  have OT := Lib.hid (ows_of HO.out hm.pos)
  have HM := Lib.hid hm
  have hn24 := hC.few
  have HC := Lib.hid hC
  clear hC hm
  go_upto_region 3 with (go_at_call 20; go_loud ((with_reducible refine (network_mk _ T W H _ (OT.out.below KB.out) HM.out hn24).mono ?_); rintro e w2 ⟨pa, pk, S, J, hp, hs, hJ, hJ48, rfl, ho, hb⟩; have HP := Lib.hid hp; have HS := Lib.hid hs; have HJ := Lib.hid hJ; have HN := Lib.hid ho; have KB := Lib.hid (KB.out.trans (hb.mono KB.out.size)); have KC := Lib.hid (Below.refl w2.heap.size w2); clear hp hs hJ ho hb))
  have hSp : 0 < S.length := by rw [← HP.out.length_eq]; exact HM.out.pos
  obtain ⟨g1, rfl, hr1, hg1⟩ := pairRow HN.out (netF_len S J S.length) hSp
  have R1 := Lib.hid hr1
  have G1 := Lib.hid hg1
  have hS24 : S.length ≤ 24 := by rw [← HP.out.length_eq]; exact hn24
  obtain ⟨n, hn⟩ : ∃ n, n = S.length := ⟨_, rfl⟩
  obtain ⟨PL, hPL⟩ : ∃ PL, PL = netF S J S.length := ⟨_, rfl⟩
  have hPn : PL.length = n := by rw [hPL, netF_len, hn]
  rw [← hPL] at R1
  obtain ⟨N, hNJ⟩ : ∃ N, N = J.length := ⟨_, rfl⟩
  rw [← hn, ← hNJ]
  have HNN := Lib.hid hn
  have HPL := Lib.hid hPL
  have HNJ := Lib.hid hNJ
  have KNET : Hid (∀ w3, Below w1.heap.size w1 w3 → Calls Tryz.prog 22 #[.slice va T.length vk] w3 fun e w' => ∃ qa qk, e = .returned (.tuple #[.int .i64 (N : Nat), .slice qa n qk]) ∧ w'.ownsRow w3.heap.size 40 2 (.slice qa n qk) n (prL PL) ∧ Below w3.heap.size w3 w') := Lib.hid (fun w3 hb => by
   refine (rnetwork_mk _ T S W H w3 (OT.out.below hb) HM.out hn24 HP.out HS.out).mono ?_
   rintro e w' ⟨J2, qa, qk, rfl, hJ2, ho, hb2⟩
   obtain rfl := hJ2.uniq HJ.out
   exact ⟨qa, qk, by rw [HNJ.out, HNN.out], by rw [HNN.out, HPL.out]; exact ho, hb2⟩)
  rw [← hn] at hSp hS24
  clear hn hPL hNJ hr1 hg1 HN
  go_wp2_with (first
   | (go_at_call 21; go_loud ((with_reducible refine (rcheck_any _ T 0 _ (OT.out.below KB.out).sqV (.inl ⟨HC.out, rfl⟩)).mono ?_); rintro e w5 ⟨rfl, hb⟩; have KB := Lib.hid (KB.out.trans (hb.mono KB.out.size)); have KC := Lib.hid (KC.out.trans (hb.mono KC.out.size)); clear hb))
   | (go_at_call 22; go_loud ((with_reducible refine (KNET.out _ KB.out).mono ?_); rintro e w7 ⟨qa, qk, rfl, ho, hb⟩; have HQ := Lib.hid ho; have KB := Lib.hid (KB.out.trans (hb.mono KB.out.size)); have KC := Lib.hid (KC.out.trans (hb.mono KC.out.size)); have KD := Lib.hid (Below.refl w7.heap.size w7); clear ho hb))
   | (go_at_call 18; go_loud ((with_reducible refine (livesH_true _).mono ?_); rintro e w10 ⟨rfl, hb⟩; have KB := Lib.hid (KB.out.trans (hb.mono KB.out.size)); have KC := Lib.hid (KC.out.trans (hb.mono KC.out.size)); have KD := Lib.hid (KD.out.trans (hb.mono KD.out.size)); clear hb)))
  obtain ⟨g2, rfl, hr2, hg2⟩ := pairRow HQ.out hPn hSp
  have R2 := Lib.hid (hr2.below KD.out hg2)
  have R1 := Lib.hid (R1.out.below KC.out G1.out)
  have K0 : Hid (Drawn w10 w10) := Lib.hid (Drawn.refl _)
  have HPN := Lib.hid hPn
  have HG1 := Lib.hid (Nat.lt_of_lt_of_le G1.out KC.out.size)
  have HG2 := Lib.hid (Nat.lt_of_lt_of_le hg2 KD.out.size)
  clear hr2 hg2 HQ KNET hPn
  go_loopw [10] (fun v10 wr => ∃ k : Nat, k ≤ n ∧ v10 = .int .i64 (k : Nat) ∧ Hid (Drawn w10 wr)) (fun v10 _ => n - (intOf v10).toNat)
  case atStart => exact ⟨0, by omega, rfl, K0⟩
  case round =>
   clear K0
   obtain ⟨k, hk, rfl, HD⟩ := hrel
   by_cases h : k < n
   ·have e1 : decide ((k : Int) < (n : Int)) = true := by simpa using h
    have e1n : decide (k < n) = true := by simpa using h
    have hk2 : k < PL.length := by have := HPN.out; omega
    have hb := HD.out.below w10.heap.size
    have x0 := (R1.out.below hb HG1.out).c0 k hk2
    have x1 := (R1.out.below hb HG1.out).c1 k hk2
    have y0 := (R2.out.below hb HG2.out).c0 k hk2
    have y1 := (R2.out.below hb HG2.out).c1 k hk2
    simp only [Nat.zero_add] at x0 x1 y0 y1
    have ix1 := fun X => ixPr g1 n pk k h X
    have ix2 := fun X => ixPr g2 n qk k h X
    obtain ⟨a, ha⟩ : ∃ a, a = (PL.getD k (0, 0)).1 := ⟨_, rfl⟩
    obtain ⟨b, hb2⟩ : ∃ b, b = (PL.getD k (0, 0)).2 := ⟨_, rfl⟩
    rw [← ha] at x0 y0
    rw [← hb2] at x1 y1
    clear ha hb2 hb hk2
    go_wp2
    go_quiet (fail)
    go_wp2
    go_roundw
    case rel => exact ⟨k + 1, by omega, by go_num, Lib.hid (HD.out.trans (Drawn.of _ _))⟩
    case measure => simp [intOf]; omega
   ·obtain rfl : k = n := by omega
    have e1 : decide ((k : Int) < (k : Int)) = false := by simp
    go_wp2
    go_ret
    exact ⟨rfl, KW.out.trans ((KB.out.mono KW.out.size).trans (HD.out.below _))⟩
 ·have HZ := Lib.hid hz
  have hne := hz.ne
  have d1 : (z != 0) = true := by rw [bne_iff_ne]; exact hne
  have d2 : (z == 0) = false := by rw [beq_eq_false_iff_ne]; exact hne
  have d3 : (z == z) = true := by simp
  clear hz
  go_wp2_with (first
   | (go_at_call 20; go_loud ((with_reducible refine (network_bad va vk T _ z (own_kept HO.out KB.out) HZ.out).mono ?_); rintro e w2 ⟨rfl, hb⟩; have KB := Lib.hid (KB.out.trans (hb.mono KB.out.size)); clear hb))
   | (go_at_call 21; go_loud ((with_reducible refine (rcheck_any _ T z _ (sqV_own (own_kept HO.out KB.out)) (.inr HZ.out)).mono ?_); rintro e w5 ⟨rfl, hb⟩; have KB := Lib.hid (KB.out.trans (hb.mono KB.out.size)); clear hb))
   | (go_at_call 18; go_loud ((with_reducible refine (livesH_true _).mono ?_); rintro e w10 ⟨rfl, hb⟩; have KB := Lib.hid (KB.out.trans (hb.mono KB.out.size)); clear hb)))
  go_ret
  exact ⟨rfl, KW.out.trans (KB.out.mono KW.out.size)⟩
end Go.Proofs.YtolkchkedieppaaGreat
