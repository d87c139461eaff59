/- The law DebtGroups: its walk. -/
import Derived.Test.YtcnaagiicpkcpaaGreatLSetR
import Derived.Test.YtcnaagiicpkcpaaGreatLRgB
import Derived.Test.YtcnaagiicpkcpaaGreatLRep
import Derived.Test.YtcnaagiicpkcpaaGreatLLives
set_option linter.unusedVariables false
set_option linter.unusedSimpArgs false
namespace Go.Proofs.YtcnaagiicpkcpaaGreat
open Go.RowKit
attribute [local go_sem ↓] Go.wp_at_zero Go.wp_at_succ
theorem nzC_le (f : Nat → Int) (s : Nat) : ∀ k, nzC f s k ≤ k
 | 0 => Nat.le_refl _
 | k + 1 => by have := nzC_le f s k; simp only [nzC]; split <;> omega
theorem bigC_le (n : Nat) : ∀ L : List Nat, bigC n L ≤ L.length
 | [] => Nat.le_refl _
 | g :: l => by have := bigC_le n l; simp only [bigC, List.length_cons]; split <;> omega
theorem bigC_app (n : Nat) (g : Nat) : ∀ L : List Nat, bigC n (L ++ [g]) = bigC n L + if 1 < (mem g n).length then 1 else 0
 | [] => by simp [bigC]
 | x :: l => by simp only [List.cons_append, bigC, bigC_app n g l]; omega
theorem bigC_step {n : Nat} (hn : n ≤ 10) {L : List Nat} (k : Nat) (h : k < L.length) (hg : L.getD k 0 < 2 ^ n) : bigC n (L.take (k + 1)) = bigC n (L.take k) + if 1 < mlen L k then 1 else 0 := by
 have e : L.take (k + 1) = L.take k ++ [L.getD k 0] := by rw [List.take_add_one]; simp [h]
 rw [e, bigC_app]
 unfold mlen
 rw [mem_ten hg hn]
theorem grp_lt2 {n : Nat} {f : Nat → Int} {L : List Nat} (h : GrpP n f (2 ^ n - 1) L 0) (i : Nat) (hi : i < L.length) : L.getD i 0 < 2 ^ n := by
 have e : L.getD i 0 = L[i] := by simp [hi]
 have h1 := (GrpP.sub h (List.getElem_mem hi)).le
 rw [e]; have := Nat.two_pow_pos n; omega
set_option maxHeartbeats 8000000 in
set_option maxRecDepth 100000 in
theorem lawGroups (vx : Value) (n0 : Nat) (f : Nat → Int) (w : World) (hx : Ints w vx n0 f) (b1 : n0 ≤ 9223372036854775807) :
  Calls Tryz.prog 3 #[vx] w fun e w' => e = .returned (.bool true) ∧ Below w.heap.size w w' := by
 have HC := Lib.hid (cutk_any 11 (by omega) vx n0 f w hx b1)
 clear hx
 obtain ⟨n, hn⟩ : ∃ n, n = min n0 11 := ⟨_, rfl⟩
 rw [← hn] at HC
 have hn11 : n ≤ 11 := by omega
 clear hn b1
 go_enter Tryz.func3, Tryz.ntmps3
 by_cases hB : Balances n f
 ·have HB := Lib.hid hB
  clear hB
  go_wp2_with (first
   | (go_at_call 5; refine (HC.out).mono ?_; rintro e w1 ⟨va, vk, rfl, ho, hb⟩; have HI := Lib.hid (ints_of_own ho); have KW := Lib.hid hb; clear ho hb)
   | (go_at_call 6; (with_reducible refine (Groups_any _ n f _ HI.out HB.out).mono ?_); rintro e w2 ⟨vb, vc, L, rfl, hG, hL, hM, hb⟩; have HG := Lib.hid hG; have HM := Lib.hid hM; have HI := Lib.hid (HI.out.mono hb (Nat.le_refl _)); have KW := Lib.hid (KW.out.trans (hb.mono KW.out.size)); clear hG hM hb)
   | (go_at_call 7; (with_reducible refine (Settle_any _ n f _ HI.out HB.out).mono ?_); rintro e w3 ⟨vp, vq, P, rfl, hS, h12, hcnt, hPS, hb⟩; have HS := Lib.hid hS; have HCNT := Lib.hid (hcnt L HG.out); have HPS := Lib.hid hPS; have HM := Lib.hid (HM.out.mono hb (Nat.le_refl _)); have HI := Lib.hid (HI.out.mono hb (Nat.le_refl _)); have KW := Lib.hid (KW.out.trans (hb.mono KW.out.size)); clear hS hcnt hPS hb)
   | (go_at_call 8; (with_reducible refine (rbalances_any _ n f true ⟨fun _ => HB.out, fun _ => rfl⟩ _ HI.out (by omega)).mono ?_); rintro e w4 ⟨rfl, rfl⟩)
   | (go_at_call 10; (with_reducible refine (rgroups_any _ n f _ HI.out HB.out).mono ?_); rintro e w5 ⟨vd, ve, L2, rfl, hG2, hL2, hM2, hb⟩; obtain rfl := hG2.uniq HG.out; have HM2 := Lib.hid hM2; have HM := Lib.hid (HM.out.mono hb (Nat.le_refl _)); have HPS := Lib.hid (HPS.out.below hb (Nat.le_refl _)); have HI := Lib.hid (HI.out.mono hb (Nat.le_refl _)); have KW := Lib.hid (KW.out.trans (hb.mono KW.out.size)); clear hG2 hM2 hb hL2))
  have hn10 : n ≤ 10 := HB.out.2.1
  have hn1 : 1 ≤ n := HB.out.1
  have HFR := Lib.hid HB.out.2.2.1
  have hsl : IsSl w5 va (Classical.choose (show ∃ b : Nat, ∃ o, IsSl w5 va b o vk n (ic f) by obtain ⟨a, b, o, c, e, h⟩ := HI.out; cases e; exact ⟨b, o, h⟩)) (Classical.choose (Classical.choose_spec (show ∃ b : Nat, ∃ o, IsSl w5 va b o vk n (ic f) by obtain ⟨a, b, o, c, e, h⟩ := HI.out; cases e; exact ⟨b, o, h⟩))) vk n (ic f) := Classical.choose_spec (Classical.choose_spec (show ∃ b : Nat, ∃ o, IsSl w5 va b o vk n (ic f) by obtain ⟨a, b, o, c, e, h⟩ := HI.out; cases e; exact ⟨b, o, h⟩))
  obtain ⟨bx, ox, hsl⟩ : ∃ b o, IsSl w5 va b o vk n (ic f) := ⟨_, _, hsl⟩
  have HSL := Lib.hid hsl
  clear hsl
  go_loopw [9, 10] (fun v9 v10 wr => ∃ k : Nat, k ≤ n ∧ v10 = .int .i64 (k : Nat) ∧ v9 = .int .i64 ((nzC f (2 ^ n - 1) k : Nat) : Int) ∧ wr = w5) (fun _ v10 _ => n - (intOf v10).toNat)
  case atStart => exact ⟨0, by omega, rfl, rfl, rfl⟩
  case round =>
   obtain ⟨k, hk, rfl, rfl, rfl⟩ := hrel
   by_cases h : k < n
   ·have e1 : decide ((k : Int) < (n : Int)) = true := by simpa using h
    have e1n : decide (k < n) = true := by simpa using h
    have hix := fun W => ixI HSL.out k vk h W
    have hc := HSL.out.cell k h
    simp only [ic] at hc
    have hz := nzC_le f (2 ^ n - 1) k
    have hbit : (2 ^ n - 1).testBit k = true := by rw [all_bit]; simpa using h
    by_cases hf : f k = 0
    ·have d1 : (f k != 0) = false := by simpa using hf
     have HZ : Hid (nzC f (2 ^ n - 1) (k + 1) = nzC f (2 ^ n - 1) k) := Lib.hid (by simp only [nzC]; rw [if_neg (fun q => q.2 hf)]; rfl)
     clear hf hbit
     go_wp2
     go_roundw
     case rel => exact ⟨k + 1, by omega, by go_num, by rw [HZ.out]; first | done | rfl | (simp; done) | (congr 1; omega), by first | rfl | trivial⟩
     case measure => simp [intOf]; omega
    ·have d1 : (f k != 0) = true := by simpa using hf
     have HZ : Hid (nzC f (2 ^ n - 1) (k + 1) = nzC f (2 ^ n - 1) k + 1) := Lib.hid (by simp only [nzC]; rw [if_pos ⟨hbit, hf⟩])
     clear hf hbit
     generalize nzC f (2 ^ n - 1) k = z at hz HZ ⊢
     have hw : IntKind.i64.wrap ((z : Int) + 1) = ((z + 1 : Nat) : Int) := by rw [IntKind.wrap_i64]; omega
     go_wp2
     go_roundw
     case rel => exact ⟨k + 1, by omega, by go_num, by rw [HZ.out]; first | done | rfl | (simp; done) | (congr 1; omega), by first | rfl | trivial⟩
     case measure => simp [intOf]; omega
   ·obtain rfl : k = n := by omega
    have e1 : decide ((k : Int) < (k : Int)) = false := by simp
    have hzl := nzC_le f (2 ^ k - 1) k
    have hbl := bigC_le k L2
    have HLT : Hid (∀ i, i < L2.length → L2.getD i 0 < 2 ^ k) := Lib.hid (grp_lt2 HG.out)
    obtain ⟨Z, hZ⟩ : ∃ Z, Z = nzC f (2 ^ k - 1) k := ⟨_, rfl⟩
    rw [← hZ] at HCNT hzl ⊢
    clear hZ
    obtain ⟨xa, xb, xo, xc, xra, xrb, xro, xrc, hxv, hxs⟩ := HM2.out
    cases hxv
    have HXS := Lib.hid hxs
    clear hxs
    go_wp2
    go_loopw [9, 11] (fun v9 v11 wz => ∃ i : Nat, i ≤ L2.length ∧ v11 = .int .i64 (i : Nat) ∧ v9 = .int .i64 ((Z : Int) - ((bigC k (L2.take i) : Nat) : Int)) ∧ wz = wr) (fun _ v11 _ => L2.length - (intOf v11).toNat)
    case atStart => exact ⟨0, by omega, rfl, by simp [bigC], rfl⟩
    case round =>
     obtain ⟨i, hi, rfl, rfl, hwz⟩ := hrel
     subst hwz
     by_cases h2 : i < L2.length
     ·have e2 : decide ((i : Int) < ((L2.length : Nat) : Int)) = true := by simpa using h2
      have e2n : decide (i < L2.length) = true := by simpa using h2
      have hix := fun W => ixM HXS.out.top i ve h2 W
      have hc := HXS.out.top.cell i h2
      have hst := bigC_step hn10 i h2 (HLT.out i h2)
      have hbb : bigC k (L2.take i) ≤ i := by have := bigC_le k (L2.take i); rw [List.length_take] at this; omega
      by_cases hm : 1 < mlen L2 i
      ·have d1 : decide ((1 : Int) < ((mlen L2 i : Nat) : Int)) = true := by simp; omega
       have d1n : decide (1 < mlen L2 i) = true := by simpa using hm
       rw [if_pos hm] at hst
       have HST := Lib.hid hst
       clear hm hst
       generalize bigC k (L2.take i) = z at hbb HST ⊢
       have hw : IntKind.i64.wrap ((Z : Int) - (z : Int) - 1) = (Z : Int) - ((z + 1 : Nat) : Int) := by rw [IntKind.wrap_i64]; omega
       go_wp2
       go_roundw
       case rel => exact ⟨i + 1, by omega, by go_num, by rw [HST.out]; first | done | rfl | (simp; done) | (congr 1; omega), by first | rfl | trivial⟩
       case measure => simp [intOf]; omega
      ·have d1 : decide ((1 : Int) < ((mlen L2 i : Nat) : Int)) = false := by simp; omega
       have d1n : decide (1 < mlen L2 i) = false := by simpa using hm
       rw [if_neg hm] at hst
       have HST := Lib.hid hst
       clear hm hst
       generalize bigC k (L2.take i) = z at hbb HST ⊢
       go_wp2
       go_roundw
       case rel => exact ⟨i + 1, by omega, by go_num, by rw [HST.out]; first | done | rfl | (simp; done) | (congr 1; omega), by first | rfl | trivial⟩
       case measure => simp [intOf]; omega
     ·obtain rfl : i = L2.length := by omega
      have e2 : decide (((L2.length : Nat) : Int) < ((L2.length : Nat) : Int)) = false := by simp
      rw [List.take_length]
      have hP : ((P.length : Nat) : Int) = (Z : Int) - ((bigC k L2 : Nat) : Int) := by have := HCNT.out; omega
      have dP : (((P.length : Nat) : Int) == (Z : Int) - ((bigC k L2 : Nat) : Int)) = true := by simpa using hP
      clear hP
      go_wp2_with (first
       | (go_at_call 11; (with_reducible refine (lists_same _ _ L2.length (mlen L2) (mF L2) _ HM.out HM2.out (by omega) (fun i _ => by have := mem_len (L2.getD i 0) 10; unfold mlen; omega)).mono ?_); rintro e w7 ⟨rfl, hd⟩; have HPS := Lib.hid (HPS.out.below (hd.below _) (Nat.le_refl _)); have HI := Lib.hid (HI.out.mono (hd.below _) (Nat.le_refl _)); have KW := Lib.hid (KW.out.trans (hd.below _)); clear hd)
       | (go_at_call 12; (with_reducible refine (settled_any _ _ k f P _ HI.out hn1 hn10 HFR.out HPS.out h12 HS.out).mono ?_); rintro e w8 ⟨rfl, hb⟩; have KW := Lib.hid (KW.out.trans (hb.mono KW.out.size)); clear hb)
       | (go_at_call 9; (with_reducible refine (lives_true _).mono ?_); rintro e w9 ⟨rfl, hb⟩; have KW := Lib.hid (KW.out.trans (hb.mono KW.out.size)); clear hb))
      go_ret
      exact ⟨rfl, KW.out⟩
 ·have HB := Lib.hid hB
  clear hB
  go_wp2_with (first
   | (go_at_call 5; refine (HC.out).mono ?_; rintro e w1 ⟨va, vk, rfl, ho, hb⟩; have HI := Lib.hid (ints_of_own ho); have KW := Lib.hid hb; clear ho hb)
   | (go_at_call 6; (with_reducible refine (Groups_no _ n f _ HI.out (by omega) HB.out).mono ?_); rintro e w2 ⟨rfl, rfl⟩)
   | (go_at_call 7; (with_reducible refine (Settle_no _ n f _ HI.out (by omega) HB.out).mono ?_); rintro e w3 ⟨rfl, rfl⟩)
   | (go_at_call 8; (with_reducible refine (rbalances_any _ n f false ⟨fun q => Bool.noConfusion q, fun q => absurd q HB.out⟩ _ HI.out (by omega)).mono ?_); rintro e w4 ⟨rfl, rfl⟩)
   | (go_at_call 9; (with_reducible refine (lives_true _).mono ?_); rintro e w9 ⟨rfl, hb⟩; have KW := Lib.hid (KW.out.trans (hb.mono KW.out.size)); clear hb))
  go_ret
  exact ⟨rfl, KW.out⟩
end Go.Proofs.YtcnaagiicpkcpaaGreat
