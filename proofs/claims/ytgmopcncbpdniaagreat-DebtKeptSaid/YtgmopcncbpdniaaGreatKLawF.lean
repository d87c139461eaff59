/- The law DebtKept: its walk. (Printed by gen_lawf.py.) -/
import Derived.Test.YtgmopcncbpdniaaGreatKQV
import Derived.Test.YtgmopcncbpdniaaGreatKRecv
import Derived.Test.YtgmopcncbpdniaaGreatKSame
import Derived.Test.YtgmopcncbpdniaaGreatKLives
set_option linter.unusedVariables false
set_option linter.unusedSimpArgs false
namespace Go.Proofs.YtgmopcncbpdniaaGreat
open Go.RowKit
attribute [local go_sem ↓] Go.wp_at_zero Go.wp_at_succ
theorem keeps_law (vc vd : Value) (n : Nat) (cash : Nat → Int) (m : Nat → Nat) (d : Nat → Nat → Int) (w : World) (hc : Ints w vc n cash) (hm : Mat w vd n m d) (hD : Debts n m d) (hC : ∀ i, i < n → 0 ≤ cash i ∧ cash i ≤ 1000) (hd : ∀ i j, 0 ≤ d i j) :
    Calls Tryz.prog 22 #[vc, vd] w fun e w' => ∃ va vk ss F p, e = .returned (.tuple #[.slice va n vk, .int .i64 0]) ∧ Hid (TxtQs n (keepP n cash d p) ss) ∧ Hid (Pays n cash d F p) ∧ Hid (Strs w' (.slice va n vk) n ss) ∧ Hid (Below w.heap.size w w') := by
  have hR := rng_of hD hC hd
  obtain ⟨ps, hps⟩ := ps_ex hR hD.2.1 hd
  refine (keeps_any vc vd n cash m d ps w hc hm hD hC hd hps).mono ?_
  rintro e w' ⟨q, va, vk, ss, rfl, hl, ht, hs, hb⟩
  exact ⟨va, vk, ss, _, _, rfl, Lib.hid ⟨fun j hj => ⟨ht.txt j hj, (keep_maxD hR hD.2.1 hd hps q j hj).1, (keep_maxD hR hD.2.1 hd hps q j hj).2⟩⟩, Lib.hid (pays_of hR hd hps hl), Lib.hid hs, Lib.hid hb⟩
set_option maxHeartbeats 4000000 in
set_option maxRecDepth 100000 in
theorem lawKept (a0 lx ly : Nat) (vx vy : Value) (fx fy : Nat → Nat) (w : World) (h0 : a0 < 256) (hx : U16s w vx lx fx) (hy : U16s w vy ly fy) (hlx : lx ≤ 9223372036854775807) (hly : ly ≤ 9223372036854775807) :
    Calls Tryz.prog 6 #[.int .u8 (a0 : Nat), vx, vy] w fun e w' => e = .returned (.bool true) ∧ Below w.heap.size w w' := by
  go_enter Tryz.func6, Tryz.ntmps6
  go_wp2_with fail
  refine (lmade_any a0 lx ly vx vy fx fy _ h0 hx hy hlx hly).mono ?_
  rintro e w1 ⟨va, vk, vb, vl, rfl, hc1, hm1, hb1⟩
  have hDB := debtM_debts (a0 % 8 + 1) ly fy (by omega) (by omega)
  have KW := Lib.hid hb1
  obtain ⟨n, hn⟩ : ∃ n, n = a0 % 8 + 1 := ⟨_, rfl⟩
  rw [← hn] at hc1 hm1 hDB ⊢
  have hn1 : 1 ≤ n := by omega
  have hn8 : n ≤ 8 := by omega
  have HDN : Hid (∀ i j, 0 ≤ debtM n ly fy i j) := Lib.hid (fun i j => (debtM_range n ly fy i j).1)
  have HCR : Hid (∀ i, 0 ≤ cashM lx fx i ∧ cashM lx fx i ≤ 1000) := Lib.hid (fun i => cashM_range lx fx i)
  clear hx hy hb1 hn hlx hly h0
  generalize debtM n ly fy = d at hm1 hDB HDN ⊢
  generalize cashM lx fx = c at hc1 HCR ⊢
  have HC := Lib.hid hc1
  have HD := Lib.hid hm1
  have HDB := Lib.hid hDB
  clear hc1 hm1 hDB
  go_wp2_with fail
  refine (keeps_law _ _ n c (fun _ => n) d _ HC.out HD.out HDB.out (fun j _ => HCR.out j) HDN.out).mono ?_
  rintro e w2 ⟨pa, pk, ss, F, p, rfl, TQ, PY, ST, hb2⟩
  have HC := Lib.hid (HC.out.mono hb2.out (Nat.le_refl _))
  have KW := Lib.hid (KW.out.trans (hb2.out.mono KW.out.size))
  have HSUM : Hid (sumQ (fun i => keepP n c d p i - cashQ c i) n = 0) := Lib.hid (keep_sum HDN.out PY.out.clr.pos PY.out.clr.tot)
  clear hb2 HD HDB HDN PY
  go_wp2_with fail
  refine (lnums_any _ n (keepP n c d p) ss _ ST.out hn1 (by omega) TQ.out).mono ?_
  rintro e w4 ⟨ra, rk, rfl, QA, hb4⟩
  have HC := Lib.hid (HC.out.mono hb4.out (Nat.le_refl _))
  have KW := Lib.hid (KW.out.trans (hb4.out.mono KW.out.size))
  clear hb4 ST TQ
  go_wp2_with fail
  refine (lives_true _).mono ?_
  rintro e w6 ⟨rfl, hb6⟩
  have QA := Lib.hid (VSl.mono (VSl.of QA.out) hb6 (Nat.le_refl _))
  have HC := Lib.hid (HC.out.mono hb6 (Nat.le_refl _))
  have KW := Lib.hid (KW.out.trans (hb6.mono KW.out.size))
  clear hb6
  obtain ⟨g, gk, hge, hgc, hgl, hgv⟩ := QA.out.val
  injection hge with e1 e2 e3
  subst e1 e3
  obtain ⟨ca, cb, co, cc, hce, hcs⟩ := HC.out
  injection hce with e1 e2 e3
  subst e1 e3
  have HV := Lib.hid hgv
  have HCS := Lib.hid hcs
  have HGL := Lib.hid hgl
  clear hgv hcs hgl QA HC
  go_wp2_with fail
  refine (qv_whole 0 _ (by omega) (by omega)).mono ?_
  rintro e w7 ⟨r1, rfl, hr1, hb1⟩
  obtain ⟨s1, a1, n1, c1, t1, a2, n2, c2, rfl, Q1⟩ := hr1.shape
  have K60 := Lib.hid (hb1.trans ((boxes1 w7 (.cells #[.bool s1, .slice a1 n1 c1, .bool t1, .slice a2 n2 c2] 40)).mono hb1.size))
  have PS0 := Lib.hid (own4_new w7 w7.heap.size rfl (.bool s1) (.slice a1 n1 c1) (.bool t1) (.slice a2 n2 c2) 40)
  have QS0 := Lib.hid (Q1.out.mono (boxes1 w7 (.cells #[.bool s1, .slice a1 n1 c1, .bool t1, .slice a2 n2 c2] 40)) (Nat.le_refl _))
  have HSB : Hid (w6.heap.size ≤ w7.heap.size) := Lib.hid hb1.size
  obtain ⟨SB, hSB⟩ : ∃ SB, SB = w7.heap.size := ⟨_, rfl⟩
  clear hr1 hb1 Q1
  go_wp2
  rw [← hSB] at PS0 HSB ⊢
  clear hSB
  generalize w7.alloc (.cells #[.bool s1, .slice a1 n1 c1, .bool t1, .slice a2 n2 c2] 40) = w8 at *
  go_loopw [14] (fun v14 wr => ∃ k : Nat, k ≤ n ∧ v14 = .int .i64 (k : Nat) ∧ ∃ s a m c1 t a2 m2 c2 B, Hid (Own4 wr SB (.bool s) (.slice a m c1) (.bool t) (.slice a2 m2 c2)) ∧ Hid (QV wr (.agg #[.bool s, .slice a m c1, .bool t, .slice a2 m2 c2]) (sumQ (fun i => keepP n c d p i - cashQ c i) k) B) ∧ Hid (B + 1 = 2 ^ k * 2002) ∧
    Hid (Below w6.heap.size w6 wr)) (fun v14 _ => n - (intOf v14).toNat)
  case atStart => exact ⟨0, by omega, rfl, s1, a1, n1, c1, t1, a2, n2, c2, 2001, PS0, Lib.hid (QS0.out.le (by omega)), Lib.hid (by omega), K60⟩
  case round =>
    clear PS0 QS0 K60
    obtain ⟨k, hk, rfl, s, a, m, c1, t, a2, m2, c2, B, PS, QS, HB, K6⟩ := hrel
    by_cases h : k < n
    · have e1 : decide ((k : Int) < (n : Int)) = true := by simpa using h
      have e1n : decide (k < n) = true := by simpa using h
      have ixc := fun W => ixI HCS.out k vk h W
      have ixp := fun W => ixV g n rk k h W
      obtain ⟨s5, a5, n5, c5, t5, a6, n6, c6, z0, z1, z2, z3, zq⟩ := HV.out k h
      have y0 := HCS.out.cell k h
      simp only [ic] at y0
      have HQ5 := Lib.hid (QV.mono zq K6.out (Nat.le_refl _))
      have HW1 : Hid (-9223372036854775808 ≤ c k) := Lib.hid (by have := HCR.out k; omega)
      have HW2 : Hid (c k < 9223372036854775808) := Lib.hid (by have := HCR.out k; omega)
      have HB2 : Hid (2 * 1000 + 1 ≤ B ∧ B ≤ 274877906940) := Lib.hid (by
        have h1 : 2 ^ k ≤ 2 ^ 8 := Nat.pow_le_pow_right (by omega) (by omega)
        have h2 : 1 ≤ 2 ^ k := Nat.one_le_two_pow
        have h3 := Nat.mul_le_mul_right 2002 h1
        have h4 := Nat.mul_le_mul_right 2002 h2
        have := HB.out
        omega)
      have VL0 := Lib.hid (Below.refl wr.heap.size wr)
      have VL := Lib.hid VL0.out.drew
      have keepR : Hid (∀ w', Below wr.heap.size wr w' → w'.cell? ⟨SB, 0, none⟩ = some (.bool s) ∧ w'.cell? ⟨SB, 1, none⟩ = some (.slice a m c1) ∧ w'.cell? ⟨SB, 2, none⟩ = some (.bool t) ∧ w'.cell? ⟨SB, 3, none⟩ = some (.slice a2 m2 c2) ∧ w'.cell? ⟨g, k * 4, none⟩ = some (.bool s5) ∧ w'.cell? ⟨g, k * 4 + 1, none⟩ = some (.slice a5 n5 c5) ∧ w'.cell? ⟨g, k * 4 + 2, none⟩ = some (.bool t5) ∧ w'.cell? ⟨g, k * 4 + 3, none⟩ = some (.slice a6 n6 c6) ∧ w'.cell? ⟨cb, co + k, none⟩ = some (.int .i64 (c k))) :=
        Lib.hid (fun w' hb => ⟨bel1 hb PS.out.c0 PS.out.lt, bel1 hb PS.out.c1 PS.out.lt, bel1 hb PS.out.c2 PS.out.lt, bel1 hb PS.out.c3 PS.out.lt,
          bel1 hb (bel1 K6.out z0 HGL.out) (Nat.lt_of_lt_of_le HGL.out K6.out.size), bel1 hb (bel1 K6.out z1 HGL.out) (Nat.lt_of_lt_of_le HGL.out K6.out.size), bel1 hb (bel1 K6.out z2 HGL.out) (Nat.lt_of_lt_of_le HGL.out K6.out.size), bel1 hb (bel1 K6.out z3 HGL.out) (Nat.lt_of_lt_of_le HGL.out K6.out.size),
          bel1 hb (bel1 K6.out y0 (HCS.out.lt (by omega))) (Nat.lt_of_lt_of_le (HCS.out.lt (by omega)) K6.out.size)⟩)
      clear zq z0 z1 z2 z3 y0
      go_wp2
      refine wp_region_last (S := fun w' => w'.cell? ⟨SB, 0, none⟩ = some (.bool s) ∧ w'.cell? ⟨SB, 1, none⟩ = some (.slice a m c1) ∧ w'.cell? ⟨SB, 2, none⟩ = some (.bool t) ∧ w'.cell? ⟨SB, 3, none⟩ = some (.slice a2 m2 c2) ∧ w'.cell? ⟨g, k * 4, none⟩ = some (.bool s5) ∧ w'.cell? ⟨g, k * 4 + 1, none⟩ = some (.slice a5 n5 c5) ∧ w'.cell? ⟨g, k * 4 + 2, none⟩ = some (.bool t5) ∧ w'.cell? ⟨g, k * 4 + 3, none⟩ = some (.slice a6 n6 c6) ∧ w'.cell? ⟨cb, co + k, none⟩ = some (.int .i64 (c k))) (by kernel_rfl) (by kernel_rfl) (keepR.out _ VL.out) (fun hHeld => ?_)
      simp only [List.pop_toArray, List.dropLast_cons_cons, List.dropLast_singleton]
      refine wpAnyH_take (i := 0) (v := ?_) rfl (by kernel_rfl) (by kernel_rfl) (by kernel_rfl) (fun _ _ _ h => h) (Or.inl ⟨by rfl, ?_⟩) (by assumption) ?_
      rotate_left
      · (intro w0 hSw; (try dsimp only at hSw); go_simp; all_goals (with_reducible rfl))
      simp only [Act.put, List.setIfInBounds_toArray, List.set_cons_zero, List.set_cons_succ]
      refine wpAnyH_take (i := 1) (v := ?_) rfl (by kernel_rfl) (by kernel_rfl) (by kernel_rfl) (fun _ _ _ h => h) (Or.inl ⟨by rfl, ?_⟩) (by assumption) ?_
      rotate_left
      · (intro w0 hSw; (try dsimp only at hSw); go_simp; all_goals (with_reducible rfl))
      simp only [Act.put, List.setIfInBounds_toArray, List.set_cons_zero, List.set_cons_succ]
      refine wpAnyH_take (i := 2) (v := ?_) rfl (by kernel_rfl) (by kernel_rfl) (by kernel_rfl) (fun _ _ _ h => h) (Or.inl ⟨by rfl, ?_⟩) (by assumption) ?_
      rotate_left
      · (intro w0 hSw; (try dsimp only at hSw); go_simp; all_goals (with_reducible rfl))
      simp only [Act.put, List.setIfInBounds_toArray, List.set_cons_zero, List.set_cons_succ]
      refine wpAnyH_take (i := 3) (v := ?_) rfl (by kernel_rfl) (by kernel_rfl) (by kernel_rfl) (fun _ _ _ h => h) (Or.inl ⟨by rfl, ?_⟩) (by assumption) ?_
      rotate_left
      · (intro w0 hSw; (try dsimp only at hSw); go_simp; all_goals (with_reducible rfl))
      simp only [Act.put, List.setIfInBounds_toArray, List.set_cons_zero, List.set_cons_succ]
      refine wpAnyH_take (i := 4) (v := ?_) rfl (by kernel_rfl) (by kernel_rfl) (by kernel_rfl) (fun _ _ _ h => h) (Or.inl ⟨by rfl, ?_⟩) (by assumption) ?_
      rotate_left
      · (intro w0 hSw; (try dsimp only at hSw); go_simp; all_goals (with_reducible rfl))
      simp only [Act.put, List.setIfInBounds_toArray, List.set_cons_zero, List.set_cons_succ]
      refine wpAnyH_take (i := 5) (v := ?_) rfl (by kernel_rfl) (by kernel_rfl) (by kernel_rfl) (fun _ _ _ h => h) (Or.inl ⟨by rfl, ?_⟩) (by assumption) ?_
      rotate_left
      · (intro w0 hSw; (try dsimp only at hSw); go_simp; all_goals (with_reducible rfl))
      simp only [Act.put, List.setIfInBounds_toArray, List.set_cons_zero, List.set_cons_succ]
      refine wpAnyH_take (i := 6) (v := ?_) rfl (by kernel_rfl) (by kernel_rfl) (by kernel_rfl) (fun _ _ _ h => h) (Or.inl ⟨by rfl, ?_⟩) (by assumption) ?_
      rotate_left
      · (intro w0 hSw; (try dsimp only at hSw); go_simp; all_goals (with_reducible rfl))
      simp only [Act.put, List.setIfInBounds_toArray, List.set_cons_zero, List.set_cons_succ]
      refine wpAnyH_take (i := 7) (v := ?_) rfl (by kernel_rfl) (by kernel_rfl) (by kernel_rfl) (fun _ _ _ h => h) (Or.inl ⟨by rfl, ?_⟩) (by assumption) ?_
      rotate_left
      · (intro w0 hSw; (try dsimp only at hSw); go_simp; all_goals (with_reducible rfl))
      simp only [Act.put, List.setIfInBounds_toArray, List.set_cons_zero, List.set_cons_succ]
      refine wpAnyH_take (i := 8) (v := ?_) rfl (by kernel_rfl) (by kernel_rfl) (by kernel_rfl) (fun _ _ _ h => h) (Or.inl ⟨by rfl, ?_⟩) (by assumption) ?_
      rotate_left
      · (intro w0 hSw; (try dsimp only at hSw); go_simp; all_goals (with_reducible rfl))
      simp only [Act.put, List.setIfInBounds_toArray, List.set_cons_zero, List.set_cons_succ]
      refine wpAnyH_ready (rs := [9]) (by kernel_rfl) (by simp) ?_
      refine AllReadyH.cons rfl (fun Kn hKn => ?_) AllReadyH.nil
      go_simp
      (go_at_call 16; (with_reducible refine (qv_whole (c k) _ HW1.out HW2.out).mono ?_); rintro e w9 ⟨r4, rfl, hr4, hb4⟩; obtain ⟨s4, a4, n4, c4, t4, a7, n7, c7, rfl, QW⟩ := hr4.shape; clear hr4; have VL := Lib.hid (VL.out.trans (hb4.mono VL.out.size)))
      go_wp2_with fail
      refine hKn.out _ _ ?_ (fun hHeld => ?_)
      · (try dsimp only); exact keepR.out _ VL.out
      clear hKn Kn
      (try simp only [Act.put, List.setIfInBounds_toArray, List.set_cons_zero, List.set_cons_succ])
      refine wpAnyH_ready (rs := [10]) (by kernel_rfl) (by simp) ?_
      refine AllReadyH.cons rfl (fun Kn hKn => ?_) AllReadyH.nil
      go_simp
      (go_at_call 28; (with_reducible refine (qv_sub _ _ (keepP n c d p k) ((c k : Int) : Rat) 1000 _ (HQ5.out.mono VL.out (Nat.le_refl _)) (QW.out.le (by omega)) (by omega)).mono ?_); rintro e w10 ⟨r5, rfl, hr5, hb5⟩; obtain ⟨s8, a8, n8, c8, t8, a9, n9, c9, rfl, QP⟩ := hr5.shape; clear hr5; have VL := Lib.hid (VL.out.trans (hb5.mono VL.out.size)))
      go_wp2_with fail
      refine hKn.out _ _ ?_ (fun hHeld => ?_)
      · (try dsimp only); exact keepR.out _ VL.out
      clear hKn Kn
      (try simp only [Act.put, List.setIfInBounds_toArray, List.set_cons_zero, List.set_cons_succ])
      refine wpAnyH_ready (rs := [11]) (by kernel_rfl) (by simp) ?_
      refine AllReadyH.cons rfl (fun Kn hKn => ?_) AllReadyH.nil
      go_simp
      (go_at_call 18; (with_reducible refine (qv_add _ _ (sumQ (fun i => keepP n c d p i - cashQ c i) k) (keepP n c d p k - ((c k : Int) : Rat)) B _ (QS.out.mono VL.out (Nat.le_refl _)) (QP.out.le HB2.out.1) HB2.out.2).mono ?_); rintro e w11 ⟨r6, rfl, hr6, hb6⟩; obtain ⟨x1, y1, z1, u1, x2, y2, z2, u2, rfl, QA⟩ := hr6.shape; clear hr6; have VL := Lib.hid (VL.out.trans (hb6.mono VL.out.size)); have P6 := Lib.hid (PS.out.below VL.out PS.out.lt); have p0 := P6.out.c0; have p1 := P6.out.c1; have p2 := P6.out.c2; have p3 := P6.out.c3; have pf := P6.out.f; have pl := P6.out.lt)
      go_wp2_with fail
      refine hKn.out _ _ ?_ (fun hHeld => ?_)
      · (try dsimp only); exact keepR.out _ VL.out
      clear hKn Kn
      (try simp only [Act.put, List.setIfInBounds_toArray, List.set_cons_zero, List.set_cons_succ])
      refine wpAnyH_done (by kernel_rfl) ?_ _
      refine lastQ_step rfl (fun Kn hKn => ?_)
      go_simp
      refine hKn.out _ _ ?_
      clear hKn Kn
      (try simp only [Act.put, List.setIfInBounds_toArray, List.set_cons_zero, List.set_cons_succ])
      have QA2 := Lib.hid (QA.out.at4 P6.out (.bool x1) (.slice y1 z1 u1) (.bool x2) (.slice y2 z2 u2))
      have PA2 := Lib.hid (P6.out.anew (.bool x1) (.slice y1 z1 u1) (.bool x2) (.slice y2 z2 u2))
      have KW2 := Lib.hid (below_set4q (K6.out.trans (VL.out.mono K6.out.size)) (b := SB) HSB.out (.bool x1) (.slice y1 z1 u1) (.bool x2) (.slice y2 z2 u2))
      clear p0 p1 p2 p3 pf pl
      go_wp2
      go_roundw
      case rel => exact ⟨k + 1, by omega, by go_num, _, _, _, _, _, _, _, _, 2 * B + 1, PA2, QA2, Lib.hid (by have := HB.out; rw [Nat.pow_succ, Nat.mul_comm (2 ^ k) 2, Nat.mul_assoc]; omega), KW2⟩
      case measure => simp [intOf]; omega
    · obtain rfl : n = k := by omega
      have e1 : decide ((n : Int) < (n : Int)) = false := by simp
      obtain ⟨x0, x1, x2, x3, xf, xl⟩ := PS.out
      have QS0 := QS
      rw [HSUM.out] at QS
      have HZ : Hid (cmpR 0 0 = 0) := Lib.hid (by decide)
      go_wp2_with fail
      refine (qv_sign 0 B _ QS.out).mono ?_
      rintro e w9 ⟨rfl, hb9⟩
      rw [HZ.out]
      go_wp2
      go_ret
      exact ⟨rfl, KW.out.trans ((K6.out.trans (hb9.mono K6.out.size)).mono KW.out.size)⟩
end Go.Proofs.YtgmopcncbpdniaaGreat
