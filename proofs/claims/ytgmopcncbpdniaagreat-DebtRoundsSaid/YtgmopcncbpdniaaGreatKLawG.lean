/- The law DebtRounds: its walk. -/
import Derived.Test.YtgmopcncbpdniaaGreatKPlainM
import Derived.Test.YtgmopcncbpdniaaGreatKRecv
import Derived.Test.YtgmopcncbpdniaaGreatKSame
import Derived.Test.YtgmopcncbpdniaaGreatKLives
import Derived.Deep.DeepCutAuto
import Derived.Deep.CutBlock
set_option linter.unusedVariables false
set_option linter.unusedSimpArgs false
namespace Go.Proofs.YtgmopcncbpdniaaGreat
open Go.RowKit
attribute [local go_sem ↓] Go.wp_at_zero Go.wp_at_succ
set_option maxHeartbeats 8000000 in
set_option maxRecDepth 100000 in
theorem lawRounds (a0 lx ly : Nat) (vx vy : Value) (fx fy : Nat → Nat) (w : World) (h0 : a0 < 256) (hx : U16s w vx lx fx) (hy : U16s w vy ly fy) (hlx : lx ≤ 9223372036854775807) (hly : ly ≤ 9223372036854775807) :
    Calls Tryz.prog 4 #[.int .u8 (a0 : Nat), vx, vy] w fun e w' => e = .returned (.bool true) ∧ Below w.heap.size w w' := by
  go_enter Tryz.func4, Tryz.ntmps4
  go_wp2_with fail
  refine (lmade_any a0 lx ly vx vy fx fy _ h0 hx hy hlx hly).mono ?_
  rintro e w1 ⟨va, vk, vb, vl, rfl, hc1, hm1, hb1⟩
  have hDB := debtM_debts (a0 % 8 + 1) ly fy (by omega) (by omega)
  have KW := Lib.hid hb1
  obtain ⟨n, hn⟩ : ∃ n, n = a0 % 8 + 1 := ⟨_, rfl⟩
  rw [← hn] at hc1 hm1 hDB ⊢
  have hn1 : 1 ≤ n := by omega
  have hn8 : n ≤ 8 := by omega
  have HDN : Hid (∀ i j, 0 ≤ debtM n ly fy i j) := Lib.hid (fun i j => (debtM_range n ly fy i j).1)
  have HCR : Hid (∀ i, 0 ≤ cashM lx fx i ∧ cashM lx fx i ≤ 1000) := Lib.hid (fun i => cashM_range lx fx i)
  clear hx hy hb1 hn hlx hly h0
  generalize debtM n ly fy = d at hm1 hDB HDN ⊢
  generalize cashM lx fx = c at hc1 HCR ⊢
  have HC := Lib.hid hc1
  have HD := Lib.hid hm1
  have HDB := Lib.hid hDB
  have HRG := Lib.hid (rng_of hDB (fun j _ => HCR.out j) HDN.out)
  obtain ⟨ps, hps⟩ := ps_ex HRG.out hn8 HDN.out
  have HPS := Lib.hid hps
  clear hc1 hm1 hDB hps
  go_wp2_with fail
  refine (clear_any _ _ n c (fun _ => n) d ps _ HC.out HD.out HDB.out (fun j _ => HCR.out j) HDN.out HPS.out).mono ?_
  rintro e w2 ⟨q, pa, pk, ss, rfl, hl2, htx, hst, hb2⟩
  have HL := Lib.hid hl2
  have TQ := Lib.hid (txtq_of HRG.out hn8 HDN.out HPS.out htx)
  have ST : Hid (Strs w2 (.slice pa n pk) n ss) := Lib.hid hst
  have HC := Lib.hid (HC.out.mono hb2 (Nat.le_refl _))
  have HD := Lib.hid (HD.out.mono hb2 (Nat.le_refl _))
  have KW := Lib.hid (KW.out.trans (hb2.mono KW.out.size))
  clear hl2 htx hst hb2
  go_wp2_with fail
  refine (fails_any _ _ n c (fun _ => n) d ps _ HC.out HD.out HDB.out (fun j _ => HCR.out j) HDN.out HPS.out).mono ?_
  rintro e w3 ⟨q', qa, qk, rfl, hl3, hmt, hb3⟩
  obtain rfl := last_uniq HL.out hl3
  have HM := Lib.hid hmt
  have ST := Lib.hid (ST.out.mono hb3 (Nat.le_refl _))
  have HC := Lib.hid (HC.out.mono hb3 (Nat.le_refl _))
  have HD := Lib.hid (HD.out.mono hb3 (Nat.le_refl _))
  have KW := Lib.hid (KW.out.trans (hb3.mono KW.out.size))
  clear hl3 hmt hb3
  go_wp2_with fail
  refine (lnums_any _ n (PS n c d ps q) ss _ ST.out hn1 (by omega) TQ.out).mono ?_
  rintro e w4 ⟨ra, rk, rfl, QA, hb4⟩
  have HM := Lib.hid (HM.out.mono hb4.out (Nat.le_refl _))
  have HC := Lib.hid (HC.out.mono hb4.out (Nat.le_refl _))
  have HD := Lib.hid (HD.out.mono hb4.out (Nat.le_refl _))
  have KW := Lib.hid (KW.out.trans (hb4.out.mono KW.out.size))
  clear hb4 ST TQ
  go_wp2_with fail
  refine (lives_true _).mono ?_
  rintro e w6 ⟨rfl, hb6⟩
  have QA := Lib.hid (VSl.mono (VSl.of QA.out) hb6 (Nat.le_refl _))
  have HM := Lib.hid (HM.out.mono hb6 (Nat.le_refl _))
  have HC := Lib.hid (HC.out.mono hb6 (Nat.le_refl _))
  have HD := Lib.hid (HD.out.mono hb6 (Nat.le_refl _))
  have KW := Lib.hid (KW.out.trans (hb6.mono KW.out.size))
  clear hb6
  have hq8 : q ≤ 8 := Nat.le_trans HL.out.le hn8
  have hmk := mkBn n (by omega)
  have OF0 : Hid ((w6.alloc (.cells (madeCells #[.bool false] n) 4)).rowIs w6.heap.size 4 n (bF (FS n c d ps 0))) := Lib.hid ((World.rowIs_made w6 (.bool false) n 4).congr (fun i hi => rfl))
  have K60 := Lib.hid (boxes1 w6 (.cells (madeCells #[.bool false] n) 4))
  obtain ⟨ma, mb, mo, mc, mra, mrb, mro, mrc, hme, hms⟩ := HM.out
  injection hme with e1 e2 e3
  subst e1 e3
  have HMS := Lib.hid hms
  clear hms HM
  go_wp2
  clear hmk
  obtain ⟨fb, hfb⟩ : ∃ fb, fb = w6.heap.size := ⟨_, rfl⟩
  rw [← hfb] at OF0 ⊢
  have HFB := Lib.hid hfb
  clear hfb
  generalize w6.alloc (.cells (madeCells #[.bool false] n) 4) = w7 at *
  go_loopw [16, 17, 18] (fun v16 v17 v18 wr => ∃ r : Nat, r ≤ q ∧ v16 = .int .i64 (r : Nat) ∧ Hid (wr.rowIs fb 4 n (bF (FS n c d ps r))) ∧ Hid (Below w6.heap.size w6 wr)) (fun v16 _ _ _ => q - (intOf v16).toNat)
  case atStart => exact ⟨0, by omega, rfl, OF0, K60⟩
  case round =>
    clear OF0 K60
    obtain ⟨r, hr, rfl, OF, K6⟩ := hrel
    by_cases h : r < q
    · have e1 : decide ((r : Int) < (q : Int)) = true := by simpa using h
      have e1n : decide (r < q) = true := by simpa using h
      have ixm := fun W => ixM HMS.out.top r qk h W
      have HPO := Lib.hid (HL.out.pos r h)
      obtain ⟨M, hM⟩ : ∃ M, M = rwM n c d ps r := ⟨_, rfl⟩
      have HMM := Lib.hid hM
      have hMn : M ≤ n := by rw [hM]; exact rankF_le _ n
      have HROW : Hid (IsSl w6 (mra r) (mrb r) (mro r) (mrc r) M (ic (rwF n c d ps r))) := Lib.hid (by rw [hM]; exact HMS.out.row r h)
      have HTOP : Hid (∀ w', Below w6.heap.size w6 w' → w'.cell? ⟨mb, mo + r, none⟩ = some (.slice (mra r) M (mrc r))) := Lib.hid (fun w' hb => by rw [hM]; exact (HMS.out.top.mono hb (Nat.le_refl _)).cell r h)
      rw [← hM] at HPO
      clear hM
      have y0 := HTOP.out _ K6.out
      have OF1 : Hid (wr.rowIs fb 4 n (bF (mkF n (FS n c d ps r) (NW n c d ps r) 0))) := Lib.hid (OF.out.congr (fun i hi => by unfold bF mkF; simp))
      clear OF
      go_wp2
      obtain ⟨wo, rfl⟩ : ∃ wo : World, wo = wr := ⟨_, rfl⟩
      clear y0
      go_loopw [17, 18] (fun v17 v18 wi => ∃ k : Nat, k ≤ M ∧ v17 = .int .i64 (k : Nat) ∧ Hid (wi.rowIs fb 4 n (bF (mkF n (FS n c d ps r) (NW n c d ps r) k))) ∧ Hid (Below w6.heap.size w6 wi)) (fun v17 _ _ => M - (intOf v17).toNat)
      case atStart => exact ⟨0, by omega, rfl, OF1, K6⟩
      case round =>
        clear OF1 K6
        obtain ⟨k, hk, rfl, OF, K6⟩ := hrel
        have y0 := HTOP.out _ K6.out
        by_cases h2 : k < M
        · have e2 : decide ((k : Int) < (M : Int)) = true := by simpa using h2
          have e2n : decide (k < M) = true := by simpa using h2
          have ixk := fun W => ixI HROW.out k (mrc r) h2 W
          obtain ⟨fi, hfi⟩ : ∃ fi, fi = frN (NW n c d ps r) n k := ⟨_, rfl⟩
          have hsp := frL_spec (NW n c d ps r) n k (by have := HMM.out; unfold rwM at this; omega)
          have HFI : Hid (NW n c d ps r fi = true ∧ rankF (NW n c d ps r) fi = k) := Lib.hid (by rw [hfi]; exact ⟨hsp.1, hsp.2.2⟩)
          have hfin : fi < n := by rw [hfi]; exact hsp.2.1
          have cr := (HROW.out.mono K6.out (Nat.le_refl _)).cell k h2
          have er : ic (rwF n c d ps r) k = .int .i64 (fi : Int) := by unfold ic rwF; rw [← hfi]
          rw [er] at cr
          have HFE := Lib.hid hfi
          have ixf := fun W => ixB fb n n fi hfin W
          have cf := OF.out.cell hfin
          have ff := OF.out.frozen fi
          have hv0 : mkF n (FS n c d ps r) (NW n c d ps r) k fi = false := by
            unfold mkF
            rw [nw_not HFI.out.1, HFI.out.2]; simp
          simp only [bF] at cf
          rw [hv0] at cf
          have d1 : decide ((fi : Int) < 0) = false := by simp
          have d2 : decide ((n : Int) ≤ (fi : Int)) = false := by simp; omega
          have d2n : decide (n ≤ fi) = false := by simp; omega
          clear hfi hsp er hv0
          have fin : Hid (∀ i, i < n → (if i = fi then Value.bool true else bF (mkF n (FS n c d ps r) (NW n c d ps r) k) i) = bF (mkF n (FS n c d ps r) (NW n c d ps r) (k + 1)) i) := Lib.hid (fun i hi => by
            unfold bF mkF
            by_cases ei : i = fi
            · subst ei
              rw [if_pos rfl]; simp [HFI.out.1, HFI.out.2]
            · rw [if_neg ei]
              by_cases hNi : NW n c d ps r i = true
              · have h2 : rankF (NW n c d ps r) i ≠ k := fun e => ei (by
                  have h3 := (frL_rank (NW n c d ps r) n i hi hNi).2
                  rw [HFE.out]; unfold frN; rw [← e, h3])
                by_cases h4 : rankF (NW n c d ps r) i < k
                · simp [hNi, h4, show rankF (NW n c d ps r) i < k + 1 by omega]
                · simp [hNi, h4, show ¬ rankF (NW n c d ps r) i < k + 1 by omega]
              · simp [hNi])
          rcases Nat.eq_zero_or_pos k with hk0 | hk0
          · have d3 : decide ((0 : Int) < (k : Int)) = false := by simp; omega
            have d3n : decide (0 < k) = false := by simp; omega
            have hk1 : ¬ 0 < k := by omega
            clear hk0
            go_wp2
            go_roundw
            case rel => exact ⟨k + 1, by omega, by go_num, Lib.hid ((OF.out.set fi _).congr fin.out), Lib.hid (K6.out.setCell (by rw [HFB.out]; exact Nat.le_refl _) _)⟩
            case measure => simp [intOf]; omega
          · obtain ⟨j, hj⟩ : ∃ j, k = j + 1 := ⟨k - 1, by omega⟩
            have d3 : decide ((0 : Int) < (k : Int)) = true := by simp; omega
            have d3n : decide (0 < k) = true := by simp; omega
            have hki : ((k : Int) - 1) = (j : Int) := by omega
            obtain ⟨fp, hfp⟩ : ∃ fp, fp = frN (NW n c d ps r) n j := ⟨_, rfl⟩
            have hlt := row_inc (NW n c d ps r) n j (by have := HMM.out; unfold rwM at this; omega)
            rw [← hfp, ← hj, ← HFE.out] at hlt
            have cp := (HROW.out.mono K6.out (Nat.le_refl _)).cell j (by omega)
            have er : ic (rwF n c d ps r) j = .int .i64 (fp : Int) := by unfold ic rwF; rw [← hfp]
            rw [er] at cp
            have ixj : ∀ W, (Instr.indexAt 24 (.slice (mra r) M (mrc r)) (.int .i64 ((k : Int) - 1))).run Tryz.prog W = .ok (.pointer (some ⟨mrb r, mro r + j, none⟩)) W := fun W => by rw [hki]; exact ixI HROW.out j (mrc r) (by omega) W
            have d4 : decide ((fi : Int) ≤ (fp : Int)) = false := by simp; omega
            have d4n : decide (fi ≤ fp) = false := by simp; omega
            clear hfp hlt er hki hj hk0
            go_wp2
            go_roundw
            case rel => exact ⟨k + 1, by omega, by go_num, Lib.hid ((OF.out.set fi _).congr fin.out), Lib.hid (K6.out.setCell (by rw [HFB.out]; exact Nat.le_refl _) _)⟩
            case measure => simp [intOf]; omega
        · obtain rfl : M = k := by omega
          have e2 : decide ((M : Int) < (M : Int)) = false := by simp
          have e3 : ((M : Int) == 0) = false := by have := HPO.out; simp; omega
          have e4 : ¬ M = 0 := by have := HPO.out; omega
          have OF7 : Hid (wr.rowIs fb 4 n (bF (FS n c d ps (r + 1)))) := Lib.hid (OF.out.congr (fun i hi => by
            unfold bF mkF
            rw [fs_succ]
            by_cases hNi : NW n c d ps r i = true
            · have h2 := (frL_rank (NW n c d ps r) n i hi hNi).1
              have h3 := HMM.out
              unfold rwM at h3
              rw [← h3] at h2
              simp [hNi, h2]
            · simp [hNi]))
          go_wp2
          go_roundw
          case rel => exact ⟨r + 1, by omega, by go_num, OF7, K6⟩
          case measure => simp [intOf]; omega
    · obtain rfl : q = r := by omega
      have e1 : decide ((q : Int) < (q : Int)) = false := by simp
      obtain ⟨w8, rfl⟩ : ∃ w8 : World, w8 = wr := ⟨_, rfl⟩
      have HF8 := Lib.hid OF.out.lt
      have HDM := HD
      obtain ⟨da, db, d_o, dc, dra, drb, dro, drc, hde, hds⟩ := HD.out
      injection hde with x1 x2 x3
      subst x1 x3
      obtain ⟨ca, cb, co, cc, hce, hcs⟩ := HC.out
      injection hce with x1 x2 x3
      subst x1 x3
      obtain ⟨g, gk, hge, hgc, hgl, hgv⟩ := QA.out.val
      injection hge with x1 x2 x3
      subst x1 x3
      have HDS := Lib.hid hds
      have HCS := Lib.hid hcs
      have HV := Lib.hid hgv
      have HGL := Lib.hid hgl
      obtain ⟨i0, hinf, hz0, hz1, hz2⟩ := info_parts infoZQ
      have R0 := Lib.hid (vrow_start w8 (totQ n d) 5)
      have K80 := Lib.hid (boxes1 w8 (.cells #[] 40))
      clear hds hcs hgv hgl HD HC QA HM ST
      go_wp2
      go_loopw [19, 20] (fun v19 v20 wi => ∃ k : Nat, k ≤ n ∧ v20 = .int .i64 (k : Nat) ∧ ∃ va' vk' xs, v19 = .slice va' k vk' ∧ Hid (VRow wi w8.heap.size (.slice va' k vk') k (totQ n d) 5 xs) ∧ Hid (Below w8.heap.size w8 wi)) (fun _ v20 _ => n - (intOf v20).toNat)
      case atStart => exact ⟨0, by omega, rfl, _, 0, [], rfl, R0, K80⟩
      case round =>
        clear R0 K80
        obtain ⟨k, hk, rfl, va', vk', xs, rfl, R, K8⟩ := hrel
        by_cases h3 : k < n
        · have e3 : decide ((k : Int) < (n : Int)) = true := by simpa using h3
          have e3n : decide (k < n) = true := by simpa using h3
          have K6k := Lib.hid (K6.out.trans (K8.out.mono K6.out.size))
          have ixd := fun W => ixM HDS.out.top k vl h3 W
          have y0 := (HDS.out.top.mono K6k.out (Nat.le_refl _)).cell k h3
          have HROW := Lib.hid (HDS.out.row k h3).ints
          have HDT : Hid (∀ l, l < n → -(1099511627776 : Int) ≤ d k l ∧ d k l ≤ 1099511627776) := Lib.hid (fun l hl => by have := HRG.out.deb k l h3 hl; omega)
          have HT1 : Hid (-9223372036854775808 ≤ sumF (d k) n) := Lib.hid (by have := HRG.out.tot k h3; omega)
          have HT2 : Hid (sumF (d k) n < 9223372036854775808) := Lib.hid (by have := HRG.out.tot k h3; omega)
          obtain ⟨wi, rfl⟩ : ∃ wi : World, wi = wr := ⟨_, rfl⟩
          go_wp2_with (first
            | (go_at_call 17; (with_reducible refine (total_any _ n (d k) _ (HROW.out.mono K6k.out (Nat.le_refl _)) (by omega) HDT.out).mono ?_); rintro e w3 ⟨rfl, hd3⟩; have K8 := Lib.hid (K8.out.trans ((hd3.below _).mono K8.out.size)); have R := Lib.hid (R.out.below (hd3.below _)); clear hd3)
            | (go_at_call 16; (with_reducible refine (qv_whole (sumF (d k) n) _ HT1.out HT2.out).mono ?_); rintro e w4 ⟨r4, rfl, hr4, hb4⟩; obtain ⟨s2, a2, n2, c2, t2, b2, l2, k2, rfl, Q2⟩ := hr4.shape; clear hr4; have K8 := Lib.hid ((K8.out.trans (hb4.mono K8.out.size)).alloc (K8.out.trans (hb4.mono K8.out.size)).size (.cells #[.bool s2, .slice a2 n2 c2, .bool t2, .slice b2 l2 k2] 40)); have R := Lib.hid ((R.out.below hb4).alloc (.cells #[.bool s2, .slice a2 n2 c2, .bool t2, .slice b2 l2 k2] 40)); have NEW := Lib.hid (own4_rd (own4_new w4 w4.heap.size rfl (.bool s2) (.slice a2 n2 c2) (.bool t2) (.slice b2 l2 k2) 40)); have Q3 := Lib.hid (Q2.out.mono (boxes1 w4 (.cells #[.bool s2, .slice a2 n2 c2, .bool t2, .slice b2 l2 k2] 40)) (Nat.le_refl _)); have HA3 : Hid (w8.heap.size ≤ (w4.alloc (.cells #[.bool s2, .slice a2 n2 c2, .bool t2, .slice b2 l2 k2] 40)).heap.size) := Lib.hid K8.out.size; clear hb4)
            | (at_builtin; refine wpList_append_kindz rfl (.tmp 136) (.tmp 143) 32 rfl w8.heap.size 40 i0 (.agg #[.bool false, .slice none 0 0, .bool false, .slice none 0 0]) 4 64 Tryz.underlying32 hinf hz0 hz1 hz2 rfl (by decide) (.slice va' k vk') k xs rfl R.out.own R.out.kind (noInt_4 _ _ _ _ _ _ _ _) ⟨w4.heap.size, 0, none⟩ 1 1 [.bool s2, .slice a2 n2 c2, .bool t2, .slice b2 l2 k2] rfl rfl (cells4' NEW.out) (one4' _ _ _ _ rfl rfl rfl rfl) (noInt_4 _ _ _ _ _ _ _ _) (by unfold maxLen; omega) (by omega) HA3.out (by omega) ?_; intro v' w5 hown hgrow hblk hkind; obtain ⟨va2, vk2, rfl⟩ := own_shape hown; have R5 := Lib.hid (R.out.push Q3.out rfl hgrow hown hkind); have K85 := Lib.hid (K8.out.grown hgrow HA3.out (fun kk e => (R.out.own.lt kk e).1)); clear hown hgrow hblk hkind))
          clear R K8 K6k y0 NEW Q3 Q2 HA3 HT1 HT2 HDT HROW ixd
          have K6k := Lib.hid (K6.out.trans (K85.out.mono K6.out.size))
          obtain ⟨ga, gak, hgae, -, hgal, hgav⟩ := (R5.out.sl (by omega)).val
          injection hgae with x1 x2 x3
          subst x1 x3
          obtain ⟨s6, a6, n6, c6, t6, b6, l6, k6, u0, u1, u2, u3, uq⟩ := hgav k (by omega)
          obtain ⟨s5, a5, n5, c5, t5, b5, l5, k5, z0, z1, z2, z3, zq⟩ := HV.out k h3
          have UQ := Lib.hid uq
          have ZQ := Lib.hid (QV.mono zq K6k.out (Nat.le_refl _))
          have ixp := fun W => ixV g n rk k h3 W
          have ixa := fun W => ixV ga (k + 1) vk2 k (by omega) W
          have ixb := fun W => ixB fb n n k h3 W
          have hfc := OF.out.cell h3
          simp only [bF] at hfc
          have e4 : decide (cmpR (PS n c d ps q k) (totQ n d k) < 0) = FS n c d ps q k := by rw [cmpR_lt, ← fs_less HRG.out HDN.out HPS.out HL.out k h3]
          have VL0 := Lib.hid (Below.refl w5.heap.size w5)
          have VL := Lib.hid VL0.out.drew
          generalize FS n c d ps q k = Fk at hfc e4
          have keepR : Hid (∀ w', Below w5.heap.size w5 w' → w'.cell? ⟨g, k * 4, none⟩ = some (.bool s5) ∧ w'.cell? ⟨g, k * 4 + 1, none⟩ = some (.slice a5 n5 c5) ∧ w'.cell? ⟨g, k * 4 + 2, none⟩ = some (.bool t5) ∧ w'.cell? ⟨g, k * 4 + 3, none⟩ = some (.slice b5 l5 k5) ∧
              w'.cell? ⟨ga, k * 4, none⟩ = some (.bool s6) ∧ w'.cell? ⟨ga, k * 4 + 1, none⟩ = some (.slice a6 n6 c6) ∧ w'.cell? ⟨ga, k * 4 + 2, none⟩ = some (.bool t6) ∧ w'.cell? ⟨ga, k * 4 + 3, none⟩ = some (.slice b6 l6 k6) ∧ w'.cell? ⟨fb, k, none⟩ = some (.bool Fk)) :=
            Lib.hid (fun w' hb => by
              have hg1 : g < w5.heap.size := Nat.lt_of_lt_of_le HGL.out K6k.out.size
              have hf1 : fb < w5.heap.size := Nat.lt_of_lt_of_le HF8.out K85.out.size
              exact ⟨bel1 hb (bel1 K6k.out z0 HGL.out) hg1, bel1 hb (bel1 K6k.out z1 HGL.out) hg1, bel1 hb (bel1 K6k.out z2 HGL.out) hg1, bel1 hb (bel1 K6k.out z3 HGL.out) hg1,
                bel1 hb u0 hgal, bel1 hb u1 hgal, bel1 hb u2 hgal, bel1 hb u3 hgal, bel1 hb (bel1 K85.out hfc HF8.out) hf1⟩)
          clear uq zq z0 z1 z2 z3 u0 u1 u2 u3 hgav hfc
          cases Fk
          · go_region_held3 (fun w' => w'.cell? ⟨g, k * 4, none⟩ = some (.bool s5) ∧ w'.cell? ⟨g, k * 4 + 1, none⟩ = some (.slice a5 n5 c5) ∧ w'.cell? ⟨g, k * 4 + 2, none⟩ = some (.bool t5) ∧ w'.cell? ⟨g, k * 4 + 3, none⟩ = some (.slice b5 l5 k5) ∧
              w'.cell? ⟨ga, k * 4, none⟩ = some (.bool s6) ∧ w'.cell? ⟨ga, k * 4 + 1, none⟩ = some (.slice a6 n6 c6) ∧ w'.cell? ⟨ga, k * 4 + 2, none⟩ = some (.bool t6) ∧ w'.cell? ⟨ga, k * 4 + 3, none⟩ = some (.slice b6 l6 k6) ∧ w'.cell? ⟨fb, k, none⟩ = some (.bool false))
              (first | (with_reducible exact keepR.out _ VL0.out) | (with_reducible exact keepR.out _ VL.out))
              (first
              | (go_at_call 14; (with_reducible refine (qv_cmp _ _ (PS n c d ps q k) (totQ n d k) 1000 _ (ZQ.out.mono VL.out (Nat.le_refl _)) ((UQ.out.mono VL.out (Nat.le_refl _)).le (by omega)) (by omega)).mono ?_); rintro e wc ⟨rfl, hbc⟩; have VL := Lib.hid (VL.out.trans (hbc.mono VL.out.size))))
            all_goals
              go_wp2
              go_roundw
              case rel => exact ⟨k + 1, by omega, by go_num, _, _, _, rfl, Lib.hid (R5.out.below VL.out), Lib.hid (K85.out.trans (VL.out.mono K85.out.size))⟩
              case measure => simp [intOf]; omega
          · go_region_held3 (fun w' => w'.cell? ⟨g, k * 4, none⟩ = some (.bool s5) ∧ w'.cell? ⟨g, k * 4 + 1, none⟩ = some (.slice a5 n5 c5) ∧ w'.cell? ⟨g, k * 4 + 2, none⟩ = some (.bool t5) ∧ w'.cell? ⟨g, k * 4 + 3, none⟩ = some (.slice b5 l5 k5) ∧
              w'.cell? ⟨ga, k * 4, none⟩ = some (.bool s6) ∧ w'.cell? ⟨ga, k * 4 + 1, none⟩ = some (.slice a6 n6 c6) ∧ w'.cell? ⟨ga, k * 4 + 2, none⟩ = some (.bool t6) ∧ w'.cell? ⟨ga, k * 4 + 3, none⟩ = some (.slice b6 l6 k6) ∧ w'.cell? ⟨fb, k, none⟩ = some (.bool true))
              (first | (with_reducible exact keepR.out _ VL0.out) | (with_reducible exact keepR.out _ VL.out))
              (first
              | (go_at_call 14; (with_reducible refine (qv_cmp _ _ (PS n c d ps q k) (totQ n d k) 1000 _ (ZQ.out.mono VL.out (Nat.le_refl _)) ((UQ.out.mono VL.out (Nat.le_refl _)).le (by omega)) (by omega)).mono ?_); rintro e wc ⟨rfl, hbc⟩; have VL := Lib.hid (VL.out.trans (hbc.mono VL.out.size))))
            all_goals
              go_wp2
              go_roundw
              case rel => exact ⟨k + 1, by omega, by go_num, _, _, _, rfl, Lib.hid (R5.out.below VL.out), Lib.hid (K85.out.trans (VL.out.mono K85.out.size))⟩
              case measure => simp [intOf]; omega
        · obtain rfl : n = k := by omega
          have e3 : decide ((n : Int) < (n : Int)) = false := by simp
          obtain ⟨w9, rfl⟩ : ∃ w9 : World, w9 = wr := ⟨_, rfl⟩
          have K69 := Lib.hid (K6.out.trans (K8.out.mono K6.out.size))
          have VA := Lib.hid (R.out.sl (by omega))
          obtain ⟨ga, gak, hgae, -, hgal, hgav⟩ := VA.out.val
          injection hgae with x1 x2 x3
          subst x1 x3
          have HGA := Lib.hid hgav
          have HGAL := Lib.hid hgal
          have K90 := Lib.hid (Below.refl w9.heap.size w9)
          obtain ⟨M0, hM0⟩ : ∃ M0, M0 = rwM n c d ps 0 := ⟨_, rfl⟩
          have HM0 := Lib.hid hM0
          have hM0n : M0 ≤ n := by rw [hM0]; exact rankF_le _ n
          clear R K8 hgav hgal hM0 K6 OF HF8
          go_wp2
          go_loopw [21, 22, 23, 24] (fun v21 v22 v23 v24 wi => ∃ i : Nat, i ≤ n ∧ v21 = .int .i64 (i : Nat) ∧ Hid (Below w9.heap.size w9 wi)) (fun v21 _ _ _ _ => n - (intOf v21).toNat)
          case atStart => exact ⟨0, by omega, rfl, K90⟩
          case round =>
            clear K90
            obtain ⟨i, hi, rfl, K9⟩ := hrel
            by_cases h4 : i < n
            · have e4 : decide ((i : Int) < (n : Int)) = true := by simpa using h4
              have e4n : decide (i < n) = true := by simpa using h4
              have K6i := Lib.hid (K69.out.trans (K9.out.mono K69.out.size))
              have ixc := fun W => ixI HCS.out i vk h4 W
              have ixa := fun W => ixV ga n vk' i h4 W
              have y0 := HCS.out.cell i h4
              simp only [ic] at y0
              obtain ⟨s6, a6, n6, c6, t6, b6, l6, k6, u0, u1, u2, u3, uq⟩ := HGA.out i h4
              have UQ := Lib.hid (QV.mono uq K9.out (Nat.le_refl _))
              obtain ⟨N0, hN0⟩ : ∃ N0, N0 = NW n c d ps 0 i := ⟨_, rfl⟩
              have e5 : decide (cmpR ((c i : Rat) + sumQ (fun j => totQ n d j * shQ n d j i) n) (totQ n d i) < 0) = N0 := by
                rw [cmpR_lt, hN0, ← first_round HRG.out HDN.out HPS.out i]
                rfl
              have HISB : Hid (isB (NW n c d ps 0) n i M0 = N0) := Lib.hid (by rw [hN0, HM0.out]; exact isB_all _ n i h4)
              have HW1 : Hid (-9223372036854775808 ≤ c i) := Lib.hid (by have := HCR.out i; omega)
              have HW2 : Hid (c i < 9223372036854775808) := Lib.hid (by have := HCR.out i; omega)
              have VL0 := Lib.hid (Below.refl wr.heap.size wr)
              have VL := Lib.hid VL0.out.drew
              have keepR : Hid (∀ w', Below wr.heap.size wr w' → w'.cell? ⟨cb, co + i, none⟩ = some (.int .i64 (c i)) ∧ w'.cell? ⟨ga, i * 4, none⟩ = some (.bool s6) ∧ w'.cell? ⟨ga, i * 4 + 1, none⟩ = some (.slice a6 n6 c6) ∧ w'.cell? ⟨ga, i * 4 + 2, none⟩ = some (.bool t6) ∧ w'.cell? ⟨ga, i * 4 + 3, none⟩ = some (.slice b6 l6 k6)) :=
                Lib.hid (fun w' hb => by
                  have hg1 : cb < w6.heap.size := HCS.out.lt (by omega)
                  have hg2 : cb < wr.heap.size := Nat.lt_of_lt_of_le hg1 K6i.out.size
                  have hg3 : ga < wr.heap.size := Nat.lt_of_lt_of_le HGAL.out K9.out.size
                  exact ⟨bel1 hb (bel1 K6i.out y0 hg1) hg2, bel1 hb (bel1 K9.out u0 HGAL.out) hg3, bel1 hb (bel1 K9.out u1 HGAL.out) hg3, bel1 hb (bel1 K9.out u2 HGAL.out) hg3, bel1 hb (bel1 K9.out u3 HGAL.out) hg3⟩)
              have HVA := Lib.hid (VA.out.mono K9.out (Nat.le_refl _))
              have HDMi := Lib.hid (HDM.out.mono K6i.out (Nat.le_refl _))
              clear y0 u0 u1 u2 u3 uq hN0
              go_wp2
              go_region_held3 (fun w' => w'.cell? ⟨cb, co + i, none⟩ = some (.int .i64 (c i)) ∧ w'.cell? ⟨ga, i * 4, none⟩ = some (.bool s6) ∧ w'.cell? ⟨ga, i * 4 + 1, none⟩ = some (.slice a6 n6 c6) ∧ w'.cell? ⟨ga, i * 4 + 2, none⟩ = some (.bool t6) ∧ w'.cell? ⟨ga, i * 4 + 3, none⟩ = some (.slice b6 l6 k6))
                (first | (with_reducible exact keepR.out _ VL0.out) | (with_reducible exact keepR.out _ VL.out))
                (first
                | (go_at_call 16; (with_reducible refine (qv_whole (c i) _ HW1.out HW2.out).mono ?_); rintro e wx ⟨rx, rfl, hrx, hbx⟩; obtain ⟨s7, a7, n7, c7, t7, b7, l7, k7, rfl, QX⟩ := hrx.shape; clear hrx; have VL := Lib.hid (VL.out.trans (hbx.mono VL.out.size)))
                | (go_at_call 19; (with_reducible refine (recv_any _ _ n i d (totQ n d) 5 _ (HDMi.out.mono VL.out (Nat.le_refl _)) (HVA.out.mono VL.out (Nat.le_refl _)) h4 hn8 HDN.out (fun i j hi hj => (HRG.out.deb i j hi hj).2) (fun i hi => (HRG.out.tot i hi).2) (by omega) (by omega)).mono ?_); rintro e wy ⟨ry, rfl, hry, hby⟩; obtain ⟨s8, a8, n8, c8, t8, b8, l8, k8, rfl, QY⟩ := (QV.of hry).shape; clear hry; have QX := Lib.hid (QX.out.mono hby (Nat.le_refl _)); have VL := Lib.hid (VL.out.trans (hby.mono VL.out.size)))
                | (go_at_call 18; (with_reducible refine (qv_add _ _ (c i : Rat) (sumQ (fun j => totQ n d j * shQ n d j i) n) (512 * (5 + 1)) _ (QX.out.le (by omega)) QY.out (by omega)).mono ?_); rintro e wz ⟨rz, rfl, hrz, hbz⟩; obtain ⟨s9, a9, n9, c9, t9, b9, l9, k9, rfl, QZ⟩ := hrz.shape; clear hrz; have VL := Lib.hid (VL.out.trans (hbz.mono VL.out.size)))
                | (go_at_call 14; (with_reducible refine (qv_cmp _ _ ((c i : Rat) + sumQ (fun j => totQ n d j * shQ n d j i) n) (totQ n d i) (2 * (512 * (5 + 1)) + 1) _ QZ.out ((UQ.out.mono VL.out (Nat.le_refl _)).le (by omega)) (by omega)).mono ?_); rintro e wc ⟨rfl, hbc⟩; have VL := Lib.hid (VL.out.trans (hbc.mono VL.out.size))))
              have K9 := Lib.hid (K9.out.trans (VL.out.mono K9.out.size))
              have K6i := Lib.hid (K69.out.trans (K9.out.mono K69.out.size))
              clear keepR VL VL0 QX QY QZ UQ HVA HDMi ixc ixa HW1 HW2
              clear e5
              obtain ⟨wd, rfl⟩ : ∃ wd : World, wd = wc := ⟨_, rfl⟩
              go_wp2
              go_loop [23, 24] (fun v23 v24 => ∃ k : Nat, k ≤ M0 ∧ v24 = .int .i64 (k : Nat) ∧ v23 = .bool (isB (NW n c d ps 0) n i k)) (fun _ v24 => M0 - (intOf v24).toNat)
              case atStart => exact ⟨0, by omega, rfl, rfl⟩
              case round =>
                obtain ⟨k, hk, rfl, rfl⟩ := hrel
                rcases Nat.eq_zero_or_pos q with hq0 | hq0
                · have HZ : Hid (M0 = 0) := Lib.hid (by
                    rw [HM0.out]
                    have h5 := HL.out.zero
                    rw [hq0] at h5
                    exact h5)
                  have hk0 : k = M0 := by have := HZ.out; omega
                  rw [hk0, HISB.out]
                  have f1 : decide ((0 : Int) < (q : Int)) = false := by simp; omega
                  have f1n : decide (0 < q) = false := by simp; omega
                  clear hk0 hq0
                  cases N0
                  all_goals
                    go_wp2
                    go_roundw
                    case rel => exact ⟨i + 1, by omega, by go_num, K9⟩
                    case measure => simp [intOf]; omega
                · have f1 : decide ((0 : Int) < (q : Int)) = true := by simp; omega
                  have f1n : decide (0 < q) = true := by simp; omega
                  have ix0 : ∀ W, (Instr.indexAt 25 (.slice qa q qk) (.int .i64 0)).run Tryz.prog W = .ok (.pointer (some ⟨mb, mo, none⟩)) W := fun W => by
                    have h5 := ixM HMS.out.top 0 qk hq0 W
                    simpa using h5
                  have y0 := (HMS.out.top.mono K6i.out (Nat.le_refl _)).cell 0 hq0
                  rw [← HM0.out, Nat.add_zero] at y0
                  have HR0 : Hid (IsSl w6 (mra 0) (mrb 0) (mro 0) (mrc 0) M0 (ic (rwF n c d ps 0))) := Lib.hid (by rw [HM0.out]; exact HMS.out.row 0 hq0)
                  clear hq0
                  by_cases h5 : k < M0
                  · have f2 : decide ((k : Int) < (M0 : Int)) = true := by simpa using h5
                    have f2n : decide (k < M0) = true := by simpa using h5
                    obtain ⟨fi, hfi⟩ : ∃ fi, fi = frN (NW n c d ps 0) n k := ⟨_, rfl⟩
                    have HFE := Lib.hid hfi
                    have cr := (HR0.out.mono K6i.out (Nat.le_refl _)).cell k h5
                    have er : ic (rwF n c d ps 0) k = .int .i64 (fi : Int) := by unfold ic rwF; rw [← hfi]
                    rw [er] at cr
                    have ixk := fun W => ixI HR0.out k (mrc 0) h5 W
                    have hs : isB (NW n c d ps 0) n i (k + 1) = (isB (NW n c d ps 0) n i k || decide (fi = i)) := by rw [hfi]; rfl
                    have HS := Lib.hid hs
                    clear hfi er hs
                    rcases hb : isB (NW n c d ps 0) n i k with _ | _
                    · have HB := Lib.hid hb
                      clear hb
                      by_cases h6 : fi = i
                      · have f3 : ((fi : Int) == (i : Int)) = true := by simp; omega
                        have f3n : (fi == i) = true := by simpa using h6
                        have HE := Lib.hid h6
                        clear h6
                        go_wp2
                        go_round
                        case rel => exact ⟨k + 1, by omega, by go_num, by rw [HS.out, HB.out, HE.out]; simp⟩
                        case measure => simp [intOf]; omega
                      · have f3 : ((fi : Int) == (i : Int)) = false := by simp; omega
                        have f3n : (fi == i) = false := by simpa using h6
                        have HE := Lib.hid h6
                        clear h6
                        go_wp2
                        go_round
                        case rel => exact ⟨k + 1, by omega, by go_num, by rw [HS.out, HB.out]; simp [HE.out]⟩
                        case measure => simp [intOf]; omega
                    · have HB := Lib.hid hb
                      clear hb
                      go_wp2
                      go_round
                      case rel => exact ⟨k + 1, by omega, by go_num, by rw [HS.out, HB.out]; simp⟩
                      case measure => simp [intOf]; omega
                  · have hk0 : k = M0 := by omega
                    rw [hk0, HISB.out]
                    have f2 : decide ((M0 : Int) < (M0 : Int)) = false := by simp
                    clear hk0
                    cases N0
                    all_goals
                      go_wp2
                      go_roundw
                      case rel => exact ⟨i + 1, by omega, by go_num, K9⟩
                      case measure => simp [intOf]; omega
            · obtain rfl : n = i := by omega
              have e4 : decide ((n : Int) < (n : Int)) = false := by simp
              go_wp2
              go_ret
              exact ⟨rfl, KW.out.trans ((K69.out.trans (K9.out.mono K69.out.size)).mono KW.out.size)⟩
end Go.Proofs.YtgmopcncbpdniaaGreat
