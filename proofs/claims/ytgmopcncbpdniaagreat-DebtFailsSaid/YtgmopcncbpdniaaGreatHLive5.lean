/- Keeps of the reference. -/
import Derived.Test.YtgmopcncbpdniaaGreatHRClr
import Derived.Test.YtgmopcncbpdniaaGreatHRecv
import Derived.Test.YtgmopcncbpdniaaGreatHPlainM
import Derived.Test.YtgmopcncbpdniaaGreatHPlainL
import Derived.Test.YtgmopcncbpdniaaGreatHRep
import Derived.Test.YtgmopcncbpdniaaGreatHQMat
set_option linter.unusedVariables false
set_option linter.unusedSimpArgs false
namespace Go.Proofs.YtgmopcncbpdniaaGreat
open Go.RowKit
attribute [local go_sem ↓] Go.wp_at_zero Go.wp_at_succ
set_option maxHeartbeats 4000000 in
set_option maxRecDepth 100000 in
theorem rkeeps_any (vc vd vp : Value) (n : Nat) (cash : Nat → Int) (d : Nat → Nat → Int) (q : Nat → Rat) (K : Nat) (w : World) (hc : Ints w vc n cash) (hm : Mat w vd n (fun _ => n) d) (hp : VSl w vp n q K) (hn : n ≤ 8) (hC : ∀ i, i < n → 0 ≤ cash i ∧ cash i ≤ 1000) (hd : ∀ i j, 0 ≤ d i j) (hR : ∀ i j, i < n → j < n → d i j ≤ 1000) (hT : ∀ i, i < n → sumF (d i) n ≤ 100000) (hK5 : 5 ≤ K) (hK : K ≤ 50000000) :
  Calls Tryz.prog 27 #[vc, vd, vp] w fun ex w' => ∃ va vk xs, ex = .returned (.slice va n vk) ∧ VRow w' w.heap.size (.slice va n vk) n (keepP n cash d q) (2048 * (K + 1) + 3) xs ∧ Below w.heap.size w w' := by
 obtain ⟨i0, hinf, hz0, hz1, hz2⟩ := info_parts infoZQ
 have HDM := Lib.hid hm
 have HP := Lib.hid hp
 obtain ⟨da, b, o, dc, ra, rb, ro, rc, rfl, -⟩ := hm
 obtain ⟨ca, cb, co, cc, rfl, hcs⟩ := hc
 obtain ⟨g, gc, rfl, hgc, hgl, hgv⟩ := hp.val
 have HCS := Lib.hid hcs
 have HV := Lib.hid hgv
 have HGL := Lib.hid hgl
 have HD0 := Lib.hid hd
 have HR0 := Lib.hid hR
 have HT0 := Lib.hid hT
 have HC0 := Lib.hid hC
 have R0 := Lib.hid (vrow_start w (keepP n cash d q) (2048 * (K + 1) + 3))
 have KW0 := Lib.hid (boxes1 w (.cells #[] 40))
 clear hcs hgv hgl hd hR hT hC hp
 go_enter Tryz.func27, Tryz.ntmps27
 go_wp2
 go_loopw [7, 8] (fun v7 v8 wr => ∃ k : Nat, k ≤ n ∧ v8 = .int .i64 (k : Nat) ∧ ∃ va vk xs, v7 = .slice va k vk ∧ Hid (VRow wr w.heap.size (.slice va k vk) k (keepP n cash d q) (2048 * (K + 1) + 3) xs) ∧ Hid (Below w.heap.size w wr)) (fun _ v8 _ => n - (intOf v8).toNat)
 case atStart => exact ⟨0, by omega, rfl, _, 0, [], rfl, R0, KW0⟩
 case round =>
  clear R0 KW0
  obtain ⟨k, hk, rfl, va, vk, xs, rfl, R, KW⟩ := hrel
  by_cases h : k < n
  ·have e1 : decide ((k : Int) < (n : Int)) = true := by simpa using h
   have e1n : decide (k < n) = true := by simpa using h
   have ixp := fun W => ixV g n gc k h W
   have ixc := fun W => ixI HCS.out k cc h W
   obtain ⟨s5, a5, n5, c5, t5, b5, l5, k5, z0, z1, z2, z3, zq⟩ := HV.out k h
   have QK := Lib.hid (QV.mono zq KW.out (Nat.le_refl _))
   have y1 := HCS.out.cell k h
   simp only [ic] at y1
   have HW : Hid (-9223372036854775808 ≤ cash k ∧ cash k < 9223372036854775808) := Lib.hid (by have := HC0.out k h; omega)
   have keepR : Hid (∀ w', Below w.heap.size w w' → w'.cell? ⟨cb, co + k, none⟩ = some (.int .i64 (cash k)) ∧ w'.cell? ⟨g, k * 4, none⟩ = some (.bool s5) ∧ w'.cell? ⟨g, k * 4 + 1, none⟩ = some (.slice a5 n5 c5) ∧ w'.cell? ⟨g, k * 4 + 2, none⟩ = some (.bool t5) ∧ w'.cell? ⟨g, k * 4 + 3, none⟩ = some (.slice b5 l5 k5)) :=
    Lib.hid (fun w' hb => ⟨bel1 hb y1 (HCS.out.lt (by omega)), bel1 hb z0 HGL.out, bel1 hb z1 HGL.out, bel1 hb z2 HGL.out, bel1 hb z3 HGL.out⟩)
   have KW0 := KW
   have KW := Lib.hid KW.out.drew
   have R := Lib.hid R.out.drew
   clear zq z0 z1 z2 z3 y1
   go_wp2
   go_region_held3 (fun w' => w'.cell? ⟨cb, co + k, none⟩ = some (.int .i64 (cash k)) ∧ w'.cell? ⟨g, k * 4, none⟩ = some (.bool s5) ∧ w'.cell? ⟨g, k * 4 + 1, none⟩ = some (.slice a5 n5 c5) ∧ w'.cell? ⟨g, k * 4 + 2, none⟩ = some (.bool t5) ∧ w'.cell? ⟨g, k * 4 + 3, none⟩ = some (.slice b5 l5 k5))
    (first | (with_reducible exact keepR.out _ KW0.out) | (with_reducible exact keepR.out _ KW.out) | (with_reducible exact keepR.out _ KWA.out))
    (first
    | (go_at_call 16; (with_reducible refine (qv_whole (cash k) _ HW.out.1 HW.out.2).mono ?_); rintro e w3 ⟨r3, rfl, hr3, hb3⟩; obtain ⟨s3, a3, n3, c3, t3, b3, l3, k3, rfl, Q3⟩ := hr3.shape; clear hr3; have R := Lib.hid (R.out.below hb3); have QK := Lib.hid (QK.out.mono ((Below.refl wr.heap.size wr).drew.trans hb3) (Nat.le_refl _)); have KW := Lib.hid (KW.out.trans (hb3.mono KW.out.size)))
    | (go_at_call 19; (with_reducible refine (recv_any _ _ n k d q K _ (HDM.out.mono KW.out (Nat.le_refl _)) (HP.out.mono KW.out (Nat.le_refl _)) h hn HD0.out HR0.out HT0.out hK5 (by omega)).mono ?_); rintro e w4 ⟨r4, rfl, hr4, hb4⟩; have hr4 := QV.of hr4; obtain ⟨s4, a4, n4, c4, t4, b4, l4, k4, rfl, Q4⟩ := hr4.shape; clear hr4; have R := Lib.hid (R.out.below hb4); have Q3 := Lib.hid (Q3.out.mono hb4 (Nat.le_refl _)); have QK := Lib.hid (QK.out.mono hb4 (Nat.le_refl _)); have KW := Lib.hid (KW.out.trans (hb4.mono KW.out.size)))
    | (go_at_call 18; (with_reducible refine (qv_add _ _ ((cash k : Int) : Rat) (sumQ (fun j => q j * shQ n d j k) n) (512 * (K + 1)) _ (Q3.out.le (by omega)) Q4.out (by omega)).mono ?_); rintro e w5 ⟨r5, rfl, hr5, hb5⟩; obtain ⟨s6, a6, n6, c6, t6, b6, l6, k6, rfl, Q6⟩ := hr5.shape; clear hr5; have R := Lib.hid (R.out.below hb5); have QK := Lib.hid (QK.out.mono hb5 (Nat.le_refl _)); have KW := Lib.hid (KW.out.trans (hb5.mono KW.out.size)))
    | (go_at_call 28; (with_reducible refine (qv_sub _ _ (((cash k : Int) : Rat) + sumQ (fun j => q j * shQ n d j k) n) (q k) (2 * (512 * (K + 1)) + 1) _ Q6.out (QK.out.le (by omega)) (by omega)).mono ?_); rintro e w6 ⟨r6, rfl, hr6, hb6⟩; obtain ⟨s7, a7, n7, c7, t7, b7, l7, k7, rfl, Q7⟩ := hr6.shape; clear hr6; have R := Lib.hid (R.out.below hb6); have KW := Lib.hid (KW.out.trans (hb6.mono KW.out.size)))
    | (go_at_call 50; (with_reducible refine (qv_low _ (((cash k : Int) : Rat) + sumQ (fun j => q j * shQ n d j k) n - q k) (2 * (2 * (512 * (K + 1)) + 1) + 1) _ Q7.out (by omega)).mono ?_); rintro e w7 ⟨r7, rfl, hr7, hb7⟩; have hr7 := QV.of hr7; obtain ⟨s8, a8, n8, c8, t8, b8, l8, k8, rfl, Q8⟩ := hr7.shape; clear hr7; have R := Lib.hid (R.out.below hb7); have KW := Lib.hid (KW.out.trans (hb7.mono KW.out.size)); have KWA := Lib.hid (KW.out.alloc KW.out.size (.cells #[.bool s8, .slice a8 n8 c8, .bool t8, .slice b8 l8 k8] 40)); have RA := Lib.hid (R.out.alloc (.cells #[.bool s8, .slice a8 n8 c8, .bool t8, .slice b8 l8 k8] 40)); have NEW := Lib.hid (own4_rd (own4_new w7 w7.heap.size rfl (.bool s8) (.slice a8 n8 c8) (.bool t8) (.slice b8 l8 k8) 40)); have QA := Lib.hid (Q8.out.mono (boxes1 w7 (.cells #[.bool s8, .slice a8 n8 c8, .bool t8, .slice b8 l8 k8] 40)) (Nat.le_refl _)); have HA3 := Lib.hid KWA.out.size)
    | ((refine step_append_kindz (by rfl) _ _ _ (by rfl) w.heap.size 40 i0 _ 4 64 Tryz.underlying32 hinf hz0 hz1 hz2 rfl (by decide) (.slice va k vk) k xs (by rfl) RA.out.own RA.out.kind (noInt_4 _ _ _ _ _ _ _ _) ⟨w7.heap.size, 0, none⟩ 1 1 [.bool s8, .slice a8 n8 c8, .bool t8, .slice b8 l8 k8] (by rfl) (by rfl) (cells4' NEW.out) (one4' _ _ _ _ rfl rfl rfl rfl) (noInt_4 _ _ _ _ _ _ _ _) (by unfold maxLen; omega) (by omega) HA3.out (by omega) ?_; intro v' w8 hown hgrow hblk hkind; obtain ⟨va', vk', rfl⟩ := own_shape hown; have R8 := Lib.hid (RA.out.push (QA.out.le (show 2 * (2 * (512 * (K + 1)) + 1) + 1 ≤ 2048 * (K + 1) + 3 by omega)) (show keepP n cash d q k = _ from rfl) hgrow hown hkind); have KWA := Lib.hid (KWA.out.grown hgrow HA3.out (fun kk e => (RA.out.own.lt kk e).1)))))
   all_goals
    go_wp2
    go_roundw
    case rel => exact ⟨k + 1, by omega, by go_num, va', vk', _, rfl, R8, KWA⟩
    case measure => simp [intOf]; omega
  ·obtain rfl : n = k := by omega
   have e1 : decide ((n : Int) < (n : Int)) = false := by simp
   go_wp2
   go_ret
   exact ⟨va, vk, xs, rfl, R.out, KW.out⟩
end Go.Proofs.YtgmopcncbpdniaaGreat

/- ref.Before, Same, SameLists, SameRow of equal lists. -/
namespace Go.Proofs.YtgmopcncbpdniaaGreat
open Go.RowKit
attribute [local go_sem ↓] Go.wp_at_zero Go.wp_at_succ
set_option maxHeartbeats 2000000 in
set_option maxRecDepth 100000 in
theorem before_eq (v1 v2 : Value) (n : Nat) (f : Nat → Int) (w : World) (h1 : Ints w v1 n f) (h2 : Ints w v2 n f) (hn : n ≤ 1048576) :
  Calls Tryz.prog 91 #[v1, v2] w fun e w' => e = .returned (.bool false) ∧ Drawn w w' := by
 obtain ⟨a1, b1, o1, c1, rfl, s1⟩ := h1
 obtain ⟨a2, b2, o2, c2, rfl, s2⟩ := h2
 have S1 := Lib.hid s1
 have S2 := Lib.hid s2
 clear s1 s2
 go_enter Tryz.func91, Tryz.ntmps91
 go_wp2
 go_loopw [5] (fun v5 wr => ∃ k : Nat, k ≤ n ∧ v5 = .int .i64 (k : Nat) ∧ Hid (Drawn w wr)) (fun v5 _ => n - (intOf v5).toNat)
 case atStart => exact ⟨0, by omega, rfl, Lib.hid (Drawn.refl _)⟩
 case round =>
  obtain ⟨k, hk, rfl, hd⟩ := hrel
  by_cases h : k < n
  ·have d1 : decide ((k : Int) < (n : Int)) = true := by simpa using h
   have d1n : decide (k < n) = true := by simpa using h
   have ix1 := fun W => ixI S1.out k c1 h W
   have ix2 := fun W => ixI S2.out k c2 h W
   have x1 := (S1.out.drawn hd.out).cell k h
   have x2 := (S2.out.drawn hd.out).cell k h
   simp only [ic] at x1 x2
   have d2 : (f k != f k) = false := by simp
   go_wp2
   go_quiet (fail)
   go_wp2
   go_roundw
   case rel => exact ⟨k + 1, by omega, by go_num, Lib.hid (hd.out.trans (Drawn.of _ _))⟩
   case measure => simp [intOf]; omega
  ·obtain rfl : k = n := by omega
   have d1 : decide ((k : Int) < (k : Int)) = false := by simp
   go_wp2
   go_ret
   exact ⟨by first | rfl | (simp; done), hd.out⟩
theorem same_eq (v1 v2 : Value) (n : Nat) (f : Nat → Int) (w : World) (h1 : Ints w v1 n f) (h2 : Ints w v2 n f) (hn : n ≤ 1048576) :
  Calls Tryz.prog 56 #[v1, v2] w fun e w' => e = .returned (.bool true) ∧ Drawn w w' := by
 have H1 := Lib.hid h1
 have H2 := Lib.hid h2
 have HD := Lib.hid (Drawn.refl w)
 clear h1 h2
 go_enter Tryz.func56, Tryz.ntmps56
 go_wp2_with (first
  | (go_at_call 91; (with_reducible refine (before_eq v1 v2 n f _ (H1.out.drawn HD.out) (H2.out.drawn HD.out) hn).mono ?_); rintro e w1 ⟨rfl, hd⟩; have HD := Lib.hid (HD.out.trans hd); clear hd)
  | (go_at_call 91; (with_reducible refine (before_eq v2 v1 n f _ (H2.out.drawn HD.out) (H1.out.drawn HD.out) hn).mono ?_); rintro e w2 ⟨rfl, hd⟩; have HD := Lib.hid (HD.out.trans hd); clear hd))
 go_ret
 exact ⟨rfl, HD.out⟩
set_option maxHeartbeats 2000000 in
set_option maxRecDepth 100000 in
theorem sameLists_eq (v1 v2 : Value) (n : Nat) (m : Nat → Nat) (f : Nat → Nat → Int) (w : World) (h1 : Mat w v1 n m f) (h2 : Mat w v2 n m f) (hn : n ≤ 1048576) (hm : ∀ i, i < n → m i ≤ 1048576) :
  Calls Tryz.prog 25 #[v1, v2] w fun e w' => e = .returned (.bool true) ∧ Drawn w w' := by
 obtain ⟨a1, b1, o1, c1, ra1, rb1, ro1, rc1, rfl, s1⟩ := h1
 obtain ⟨a2, b2, o2, c2, ra2, rb2, ro2, rc2, rfl, s2⟩ := h2
 have S1 := Lib.hid s1
 have S2 := Lib.hid s2
 have HM := Lib.hid hm
 clear s1 s2 hm
 have d0 : ((n : Int) != (n : Int)) = false := by simp
 go_enter Tryz.func25, Tryz.ntmps25
 go_wp2
 go_loopw [5] (fun v5 wr => ∃ k : Nat, k ≤ n ∧ v5 = .int .i64 (k : Nat) ∧ Hid (Drawn w wr)) (fun v5 _ => n - (intOf v5).toNat)
 case atStart => exact ⟨0, by omega, rfl, Lib.hid (Drawn.refl _)⟩
 case round =>
  obtain ⟨k, hk, rfl, hd⟩ := hrel
  by_cases h : k < n
  ·have d1 : decide ((k : Int) < (n : Int)) = true := by simpa using h
   have ix1 := fun W => ixM S1.out.top k c1 h W
   have ix2 := fun W => ixM S2.out.top k c2 h W
   have x1 := (S1.out.top.drawn hd.out).cell k h
   have x2 := (S2.out.top.drawn hd.out).cell k h
   go_wp2
   go_region_with (go_at_call 56; refine (same_eq _ _ (m k) (f k) _ ⟨_, _, _, _, rfl, ((S1.out.drawn hd.out).row k h).drew⟩ ⟨_, _, _, _, rfl, ((S2.out.drawn hd.out).row k h).drew⟩ (HM.out k h)).mono ?_; rintro e w1 ⟨rfl, hd1⟩)
   all_goals
    have HDD := Lib.hid (hd.out.drew.trans hd1)
    clear hd1
    go_wp2
    go_roundw
    case rel => exact ⟨k + 1, by omega, by go_num, HDD⟩
    case measure => simp [intOf]; omega
  ·obtain rfl : k = n := by omega
   have d1 : decide ((k : Int) < (k : Int)) = false := by simp
   go_wp2
   go_ret
   exact ⟨rfl, hd.out⟩
set_option maxHeartbeats 2000000 in
set_option maxRecDepth 100000 in
theorem sameRow_eq (v1 v2 : Value) (n : Nat) (f : Nat → ByteArray) (w : World) (h1 : Sl w v1 n (fun j => .string (f j))) (h2 : Sl w v2 n (fun j => .string (f j))) (hn : n ≤ 1048576) :
  Calls Tryz.prog 43 #[v1, v2] w fun e w' => e = .returned (.bool true) ∧ Drawn w w' := by
 obtain ⟨a1, b1, o1, c1, rfl, s1⟩ := h1
 obtain ⟨a2, b2, o2, c2, rfl, s2⟩ := h2
 have S1 := Lib.hid s1
 have S2 := Lib.hid s2
 clear s1 s2
 have d0 : ((n : Int) != (n : Int)) = false := by simp
 go_enter Tryz.func43, Tryz.ntmps43
 go_wp2
 go_loopw [5] (fun v5 wr => ∃ k : Nat, k ≤ n ∧ v5 = .int .i64 (k : Nat) ∧ Hid (Drawn w wr)) (fun v5 _ => n - (intOf v5).toNat)
 case atStart => exact ⟨0, by omega, rfl, Lib.hid (Drawn.refl _)⟩
 case round =>
  obtain ⟨k, hk, rfl, hd⟩ := hrel
  by_cases h : k < n
  ·have d1 : decide ((k : Int) < (n : Int)) = true := by simpa using h
   have g1 : (0 : Int) ≤ (k : Int) := Int.natCast_nonneg k
   have g2 : (k : Int) < (n : Int) := by omega
   obtain rfl := S1.out.at_ (by omega)
   obtain rfl := S2.out.at_ (by omega)
   have x1 := (S1.out.drawn hd.out).cell k h
   have x2 := (S2.out.drawn hd.out).cell k h
   go_wp2
   go_quiet (fail)
   go_wp2
   go_roundw
   case rel => exact ⟨k + 1, by omega, by go_num, Lib.hid (hd.out.trans (Drawn.of _ _))⟩
   case measure => simp [intOf]; omega
  ·obtain rfl : k = n := by omega
   have d1 : decide ((k : Int) < (k : Int)) = false := by simp
   go_wp2
   go_ret
   exact ⟨rfl, hd.out⟩
end Go.Proofs.YtgmopcncbpdniaaGreat

/- Clear and Fails of package debt at the document's example, by the general law. -/
namespace Go.Proofs.YtgmopcncbpdniaaGreat
open Go.RowKit
theorem dL_pos (i j : Nat) : 0 ≤ dL i j := by unfold dL; split <;> (try split) <;> omega
theorem live_has (p : Nat → Rat) : hasP 2 (cashQ cashL) (shQ 2 dL) p 0 = 1 + p 1 ∧ hasP 2 (cashQ cashL) (shQ 2 dL) p 1 = p 0 := by
 have a : shQ 2 dL 0 0 = 0 := by decide +kernel
 have b : shQ 2 dL 1 0 = 1 := by decide +kernel
 have c : shQ 2 dL 0 1 = 1 := by decide +kernel
 have e : shQ 2 dL 1 1 = 0 := by decide +kernel
 have f : cashQ cashL 0 = 1 := by decide +kernel
 have g : cashQ cashL 1 = 0 := by decide +kernel
 unfold hasP
 simp only [sumQ, a, b, c, e, f, g]
 constructor <;> grind
theorem live_tot : totQ 2 dL 0 = 4 ∧ totQ 2 dL 1 = 2 := by constructor <;> decide +kernel
theorem live_pays {ps : (Nat → Bool) → Nat → Rat} {q : Nat} (hps : PsOK 2 cashL dL ps) (h : Last 2 cashL dL ps q) : PS 2 cashL dL ps q 0 = 3 ∧ PS 2 cashL dL ps q 1 = 2 := by
 have hc := (pays_of (rng_of dL_debts cashL_range dL_pos) dL_pos hps h).clr
 generalize PS 2 cashL dL ps q = p at hc
 have h0 := hc.eq 0 (by omega)
 have h1 := hc.eq 1 (by omega)
 have t0 := hc.tot 0 (by omega)
 have t1 := hc.tot 1 (by omega)
 have s0 := hc.has 0 (by omega)
 have s1 := hc.has 1 (by omega)
 rw [live_tot.1, (live_has p).1] at *
 rw [live_tot.2, (live_has p).2] at *
 rcases h0 with a | a <;> rcases h1 with b | b <;> constructor <;> grind
theorem live_zero {ps : (Nat → Bool) → Nat → Rat} (hps : PsOK 2 cashL dL ps) : NW 2 cashL dL ps 0 0 = true ∧ NW 2 cashL dL ps 0 1 = false := by
 have hR := rng_of dL_debts cashL_range dL_pos
 obtain ⟨x, hx⟩ := ps_rdy hps hR dL_pos 0
 have h0 := hx.sol.no 0 (by omega) rfl
 have h1 := hx.sol.no 1 (by omega) rfl
 rw [live_tot.1] at h0
 rw [live_tot.2] at h1
 have e : ∀ i, FS 2 cashL dL ps 0 i = false := fun _ => rfl
 constructor
 ·rw [nw_iff, e, (live_has _).1, live_tot.1, h1]; decide +kernel
 ·rw [nw_iff, e, (live_has _).2, live_tot.2, h0]; decide +kernel
theorem live_one {ps : (Nat → Bool) → Nat → Rat} (hps : PsOK 2 cashL dL ps) : ∀ i, i < 2 → NW 2 cashL dL ps 1 i = false := by
 have hR := rng_of dL_debts cashL_range dL_pos
 obtain ⟨x, hx⟩ := ps_rdy hps hR dL_pos 1
 obtain ⟨n0, n1⟩ := live_zero hps
 have f0 : FS 2 cashL dL ps 1 0 = true := by rw [fs_succ, n0, Bool.or_true]
 have f1 : FS 2 cashL dL ps 1 1 = false := by rw [fs_succ, n1]; rfl
 have h0 := hx.sol.on 0 (by omega) f0
 have h1 := hx.sol.no 1 (by omega) f1
 rw [(live_has _).1] at h0
 rw [live_tot.2] at h1
 intro i hi
 rw [nw_iff]
 match i, hi with
 | 0, _ => rw [f0]; rfl
 | 1, _ =>
  have h2 : PS 2 cashL dL ps 1 0 = 3 := by
   have e : PS 2 cashL dL ps 1 1 = 2 := h1
   have e2 : PS 2 cashL dL ps 1 0 = 1 + PS 2 cashL dL ps 1 1 := h0
   rw [e2, e]; decide +kernel
  rw [f1, (live_has _).2, live_tot.2, h2]; decide +kernel
theorem live_last {ps : (Nat → Bool) → Nat → Rat} {q : Nat} (hps : PsOK 2 cashL dL ps) (h : Last 2 cashL dL ps q) : q = 1 ∧ rwM 2 cashL dL ps 0 = 1 ∧ rwF 2 cashL dL ps 0 0 = 0 := by
 obtain ⟨n0, n1⟩ := live_zero hps
 have e0 : frL (NW 2 cashL dL ps 0) 2 = [0] := by simp [frL, n0, n1]
 have m0 : rwM 2 cashL dL ps 0 = 1 := by unfold rwM rankF; rw [e0]; rfl
 have m1 : rwM 2 cashL dL ps 1 = 0 := by
  unfold rwM rankF
  have : frL (NW 2 cashL dL ps 1) 2 = [] := by simp [frL, live_one hps 0 (by omega), live_one hps 1 (by omega)]
  rw [this]; rfl
 refine ⟨?_, m0, by unfold rwF frN; rw [e0]; rfl⟩
 have h1 := h.zero
 by_cases a : q = 0
 ·subst a; omega
 ·by_cases b : q = 1
  ·exact b
  ·have := h.pos 1 (by omega); omega
theorem live_txt (N : Nat) (h1 : 0 < N) (h2 : N < 10) : FracTxt (digS N) ((N : Nat) : Int) 1 := by
 refine ⟨digS N, ⟨1, ⟨by simpa using h2, fun e => by omega, fun _ => ⟨by omega, by simp; omega⟩⟩, rfl, fun i hi => ?_⟩, .inl ⟨rfl, by rw [if_neg (by omega)]⟩⟩
 have : i = 0 := by rw [digS_size] at hi; omega
 subst this
 have h3 : N = 1 ∨ N = 2 ∨ N = 3 ∨ N = 4 ∨ N = 5 ∨ N = 6 ∨ N = 7 ∨ N = 8 ∨ N = 9 := by omega
 rcases h3 with e | e | e | e | e | e | e | e | e <;> subst e <;> rfl
theorem clear_live2 (vc vd : Value) (w : World) (hc : Ints w vc 2 cashL) (hd : Mat w vd 2 (fun _ => 2) dL) :
  Calls Tryz.prog 11 #[vc, vd] w fun e w' => ∃ v, e = .returned (.tuple #[v, .int .i64 0]) ∧ Sl w' v 2 (fun j => .string (digS (payN j))) ∧ Below w.heap.size w w' := by
 obtain ⟨ps, hps⟩ := ps_ex (rng_of dL_debts cashL_range dL_pos) (by omega) dL_pos
 refine (clear_any vc vd 2 cashL (fun _ => 2) dL ps w hc hd dL_debts cashL_range dL_pos hps).mono ?_
 rintro e w' ⟨q, va, vk, ss, rfl, hl, ht, hs, hb⟩
 obtain ⟨p0, p1⟩ := live_pays hps hl
 obtain ⟨a, b, o, c, e, h2⟩ := hs
 refine ⟨_, rfl, ⟨a, b, o, c, e, h2.congr (fun i hi => ?_)⟩, hb⟩
 congr 1
 have h := ht.txt i hi
 match i, hi with
 | 0, _ => rw [p0] at h; exact h.uniq (live_txt 3 (by omega) (by omega))
 | 1, _ => rw [p1] at h; exact h.uniq (live_txt 2 (by omega) (by omega))
theorem fails_live2 (vc vd : Value) (w : World) (hc : Ints w vc 2 cashL) (hd : Mat w vd 2 (fun _ => 2) dL) :
  Calls Tryz.prog 15 #[vc, vd] w fun e w' => ∃ va vk, e = .returned (.tuple #[.slice va 1 vk, .int .i64 0]) ∧ Mat w' (.slice va 1 vk) 1 (fun _ => 1) (fun _ _ => 0) ∧ Below w.heap.size w w' := by
 obtain ⟨ps, hps⟩ := ps_ex (rng_of dL_debts cashL_range dL_pos) (by omega) dL_pos
 refine (fails_any vc vd 2 cashL (fun _ => 2) dL ps w hc hd dL_debts cashL_range dL_pos hps).mono ?_
 rintro e w' ⟨q, va, vk, rfl, hl, hm, hb⟩
 obtain ⟨rfl, m0, f0⟩ := live_last hps hl
 refine ⟨va, vk, rfl, ?_, hb⟩
 obtain ⟨a, b, o, c, ra, rb, ro, rc, hv, h⟩ := hm.row_len (m' := fun _ => 1) (fun i hi => by
  obtain rfl : i = 0 := by omega
  exact m0)
 refine ⟨a, b, o, c, ra, rb, ro, rc, hv, ⟨h.top, fun i hi => (h.row i hi).congr (fun j hj => ?_)⟩⟩
 obtain rfl : i = 0 := by omega
 obtain rfl : j = 0 := by omega
 unfold ic
 rw [f0]
end Go.Proofs.YtgmopcncbpdniaaGreat
