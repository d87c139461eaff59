/- rounds of package debt at any market: the walk. -/
import Derived.Test.YtcnaagiicpkcpaaGreatMRnd
import Derived.Test.YtcnaagiicpkcpaaGreatMNum3
import Derived.Deep.OwnRows
import Derived.RegionTactic
import Derived.ChangeAlike
import Derived.Test.YtcnaagiicpkcpaaGreatMBase
set_option linter.unusedVariables false
set_option linter.unusedSimpArgs false
namespace Go.Proofs.YtcnaagiicpkcpaaGreat
open Go.RowKit
attribute [local go_sem ↓] Go.wp_at_zero Go.wp_at_succ
set_option maxHeartbeats 8000000 in
set_option maxRecDepth 100000 in
theorem rounds_any (b n : Nat) (cash : Nat → Int) (d : Nat → Nat → Int) (vc vd vt : Value) (ps : (Nat → Bool) → Nat → Rat) (w : World) (hm : IsMkt w b n cash d vc vd vt) (h0 : 0 < n) (hn : n ≤ 8) (hR : Rng n cash d) (hd : ∀ i j, 0 ≤ d i j) (hps : PsOK n cash d ps) :
  Calls Tryz.prog 36 #[.pointer (some ⟨b, 0, none⟩)] w fun e w' => ∃ q va vk ra rc P, e = .returned (.tuple #[.slice va q vk, .slice (some ⟨P, 0, none⟩) n n]) ∧ q ≤ n ∧ (∀ r, r < q → 0 < rwM n cash d ps r) ∧ rwM n cash d ps q = 0 ∧
   RowsIn w.heap.size w' q (.slice va q vk) ra rc (rwM n cash d ps) (rwF n cash d ps) ∧ RatRow w' P n (PS n cash d ps q) 200 ∧ Below w.heap.size w w' := by
 have HM := Lib.hid hm
 have HR := Lib.hid hR
 have HD := Lib.hid hd
 have HPS := Lib.hid hps
 obtain ⟨c0, -, -, c3, -, -, ⟨ta, tb, t_o, tc, rfl, hts⟩, hlt⟩ := hm
 have HTS := Lib.hid hts
 have keepS : Hid (∀ w', Below w.heap.size w w' → w'.cell? ⟨b, 0, none⟩ = some (.int .i64 (n : Nat)) ∧ w'.cell? ⟨b, 3, none⟩ = some (.slice ta n tc)) :=
  Lib.hid (fun w' hb => ⟨bel1 hb c0 hlt, bel1 hb c3 hlt⟩)
 obtain ⟨i0, hi, hz0, hz1, hz2⟩ := info_parts infoI
 obtain ⟨j0, hj, hy0, hy1, hy2⟩ := info_parts infoM
 have hmk := mkBn n (by omega)
 have heq1 := eql_nil_some
 have heq2 := eql_nil_none
 have R1 := Lib.hid ((World.rowIs_made w (.bool false) n 4).congr (g := bF (fun _ => false)) (fun i hi => rfl))
 have R2 := Lib.hid ((World.rowIs_made (w.alloc (.cells (madeCells #[.bool false] n) 4)) (.bool false) n 4).congr (g := bF (fun _ => false)) (fun i hi => rfl))
 have KB2 := Lib.hid (boxes2 w (.cells (madeCells #[.bool false] n) 4) (.cells (madeCells #[.bool false] n) 4))
 clear hR hd hps hts c3
 go_enter Tryz.func36, Tryz.ntmps36
 go_wp2
 go_cut [4, 5] (fun v4 v5 wx => ∃ fb nb : Nat, v4 = .slice (some ⟨fb, 0, none⟩) n n ∧ v5 = .slice (some ⟨nb, 0, none⟩) n n ∧ Hid (wx.rowIs fb 4 n (bF (fun _ => false))) ∧ Hid (wx.rowIs nb 4 n (bF (fun _ => false))) ∧ fb ≠ nb ∧ w.heap.size ≤ fb ∧ w.heap.size ≤ nb ∧ Hid (Below w.heap.size w wx))
 case first =>
  go_region
  all_goals
   go_wp2_with fail
   go_meet
   case rel =>
    first
    | exact ⟨w.heap.size, w.heap.size + 1, rfl, by simp, Lib.hid ((R1.out.alloc _).drew), Lib.hid (by have := R2.out.drew; simpa using this), by omega, by omega, by omega, Lib.hid KB2.out.drew⟩
    | exact ⟨w.heap.size + 1, w.heap.size, by simp, rfl, Lib.hid (by have := R2.out.drew; simpa using this), Lib.hid ((R1.out.alloc _).drew), by omega, by omega, by omega, Lib.hid KB2.out.drew⟩
 case rest =>
  obtain ⟨fb, nb, rfl, rfl, OF, ON, hne, hfb, hnb, KW⟩ := hcut
  clear c0 R1 R2 KB2
  obtain ⟨wb, rfl⟩ : ∃ wb : World, wb = wc := ⟨_, rfl⟩
  have HFB := Lib.hid OF.out.lt
  have HNB := Lib.hid ON.out.lt
  have HWB := Lib.hid KW.out.size
  have G0 : Hid (RowsIn wb.heap.size wb 0 (.slice none 0 0) (fun _ => none) (fun _ => 0) (rwM n cash d ps) (rwF n cash d ps)) := Lib.hid (RowsIn.start (World.ownsRow_nil _ _ _ _))
  have OF : Hid (wb.rowIs fb 4 n (bF (FS n cash d ps 0))) := OF
  go_wp2
  go_loopw [6, 7, 8, 9, 11, 30, 63, 64, 65] (fun v6 v7 v8 v9 v11 v30 v63 v64 v65 wr => ∃ q : Nat, Hid (∀ r, r < q → 0 < rwM n cash d ps r) ∧ Hid (q ≤ rankF (FS n cash d ps q) n) ∧ ∃ va vk ra rc, v6 = .slice va q vk ∧ Hid (RowsIn wb.heap.size wr q (.slice va q vk) ra rc (rwM n cash d ps) (rwF n cash d ps)) ∧
   Hid (wr.rowIs fb 4 n (bF (FS n cash d ps q))) ∧ Hid (wr.rowIs nb 4 n (bF (fun _ => false))) ∧ Hid (Below w.heap.size w wr) ∧ Hid (wb.heap.size ≤ wr.heap.size)) (fun v6 _ _ _ _ _ _ _ _ _ => match v6 with | .slice _ q _ => n + 1 - q | _ => 0)
  case atStart => exact ⟨0, Lib.hid (fun r hr => by omega), Lib.hid (Nat.zero_le _), none, 0, _, _, rfl, G0, OF, ON, KW, Lib.hid (Nat.le_refl _)⟩
  case round =>
   clear G0 OF ON KW
   obtain ⟨q, HQ, HQR, va, vk, ra, rc, rfl, G, OF, ON, KW, HWW⟩ := hrel
   obtain ⟨x, hx⟩ := ps_rdy HPS.out HR.out HD.out q
   have HRD := Lib.hid hx
   clear hx
   have HMr := Lib.hid (HM.out.mono KW.out (Nat.le_refl _))
   go_wp2_with (first
    | (go_at_call 53; go_loud ((with_reducible refine (solve_any b n cash d _ _ _ (FS n cash d ps q) (fun _ => false) fb n nb n x 25000000 200 _ HMr.out h0 hn HR.out (bls_of OF.out) (bls_of ON.out) HRD.out.piv HRD.out.siz (by omega) (by omega) HRD.out.res HRD.out.small (by omega)).mono ?_); rintro e w1 ⟨P, rfl, PR1, hPw, hb1⟩; have PR : Hid (RatRow w1 P n (PS n cash d ps q) 200) := Lib.hid (PR1.congr (fun j hj _ => ⟨trivial, (HRD.out.pay j).symm⟩)); have G := Lib.hid (G.out.below hb1); have OF := Lib.hid (rowIs_below OF.out hb1 OF.out.lt); have ON := Lib.hid (rowIs_below ON.out hb1 ON.out.lt); have KW := Lib.hid (KW.out.trans (hb1.mono KW.out.size)); have HWW := Lib.hid (Nat.le_trans HWW.out hb1.size); clear PR1 hPw hb1; have d0 := (keepS.out _ KW.out).1)))
   obtain ⟨ws, rfl⟩ : ∃ ws : World, ws = w1 := ⟨_, rfl⟩
   have VS0 := Lib.hid (Below.refl ws.heap.size ws)
   have HOL := Lib.hid OF.out.lt
   have HWS := Lib.hid KW.out.size
   clear d0
   go_loopw [8, 9, 30] (fun v8 v9 v30 wi => ∃ i : Nat, i ≤ n ∧ v30 = .int .i64 (i : Nat) ∧ ∃ na nk, v8 = .slice na (rankF (NW n cash d ps q) i) nk ∧ Hid (wi.ownsRow ws.heap.size 3 1 (.slice na (rankF (NW n cash d ps q) i) nk) (rankF (NW n cash d ps q) i) (ics (rwF n cash d ps q) (rankF (NW n cash d ps q) i))) ∧
    Hid (rankF (NW n cash d ps q) i = 0 → na = none ∧ nk = 0) ∧ Hid (Below ws.heap.size ws wi)) (fun _ _ v30 _ => n - (intOf v30).toNat)
   case atStart => exact ⟨0, by omega, rfl, none, 0, rfl, Lib.hid (World.ownsRow_nil _ _ _ _), Lib.hid (fun _ => ⟨rfl, rfl⟩), VS0⟩
   case round =>
    clear VS0
    obtain ⟨i, hin, rfl, na, nk, rfl, NO, HNN, VL⟩ := hrel
    by_cases h : i < n
    ·have e1 : decide ((i : Int) < (n : Int)) = true := by simpa using h
     have e1n : decide (i < n) = true := by simpa using h
     have ib := fun W => ixB fb n n i h W
     have ixt := fun W => ixI HTS.out i tc h W
     obtain ⟨Ti, hTi⟩ : ∃ Ti, Ti = sumF (d i) n := ⟨_, rfl⟩
     have qt := (HTS.out.mono KW.out (Nat.le_refl _)).cell i h
     simp only [ic] at qt
     rw [← hTi] at qt
     have HQT := Lib.hid qt
     have HQL := Lib.hid ((HTS.out.mono KW.out (Nat.le_refl _)).lt h0)
     have HTi := Lib.hid hTi
     have hTr := HR.out.tot i h
     rw [← hTi] at hTr
     clear hTi qt
     have HFI := Lib.hid (OF.out.cell h)
     obtain ⟨wi, rfl⟩ : ∃ wi : World, wi = wr := ⟨_, rfl⟩
     have KWi := Lib.hid (KW.out.trans (VL.out.mono KW.out.size))
     have PRi := Lib.hid (PR.out.below VL.out (Nat.le_refl _))
     have keepR : Hid (∀ w', Below wi.heap.size wi w' → w'.cell? ⟨fb, i, none⟩ = some (.bool (FS n cash d ps q i)) ∧ w'.cell? ⟨b, 3, none⟩ = some (.slice ta n tc) ∧ w'.cell? ⟨tb, t_o + i, none⟩ = some (.int .i64 Ti)) :=
      Lib.hid (fun w' hb => ⟨bel1 hb (bel1 VL.out HFI.out HOL.out) (by have := VL.out.size; have := HOL.out; omega), bel1 hb (keepS.out _ KWi.out).2 (by have := HWS.out; have := VL.out.size; omega), bel1 hb (bel1 VL.out HQT.out HQL.out) (by have := VL.out.size; have := HQL.out; omega)⟩)
     have HCS : Hid (0 ≤ cash i ∧ cash i ≤ 100000) := Lib.hid (by have := HR.out.csh i h; omega)
     have HDS : Hid (∀ j, j < n → 0 ≤ d j i ∧ d j i ≤ 1000 ∧ 0 ≤ sumF (d j) n ∧ sumF (d j) n ≤ 100000) := Lib.hid (fun j hj => ⟨(HR.out.deb j i hj h).1, (HR.out.deb j i hj h).2, (HR.out.tot j hj).1, (HR.out.tot j hj).2⟩)
     go_wp2
     go_cut [53] (fun v53 wx => v53 = .bool (NW n cash d ps q i) ∧ Hid (Below wi.heap.size wi wx))
     case first =>
      have VL0 := Lib.hid (Below.refl wi.heap.size wi)
      have VL := Lib.hid VL0.out.drew
      rcases hFi : FS n cash d ps q i with _ | _
      ·have HNW : Hid (decide (cmpQ (hasQ n cash d (PS n cash d ps q) i) ((Ti : Int) : Rat) < 0) = NW n cash d ps q i) := Lib.hid (by rw [cmpQ_lt, nw_iff, hFi, HTi.out]; simp [hasQ_eq, totQ]; exact decide_eq_decide.2 Iff.rfl)
       rw [hFi] at keepR
       clear hFi
       go_region_held3 (fun w' => w'.cell? ⟨fb, i, none⟩ = some (.bool false) ∧ w'.cell? ⟨b, 3, none⟩ = some (.slice ta n tc) ∧ w'.cell? ⟨tb, t_o + i, none⟩ = some (.int .i64 Ti))
        (first | (with_reducible exact keepR.out _ VL0.out) | (with_reducible exact keepR.out _ VL.out))
        (first
        | (go_at_call 54; (with_reducible refine (has_any b n i cash d _ _ _ _ (HM.out.mono (KWi.out.trans (VL.out.mono KWi.out.size)) (Nat.le_refl _)) h hn HDS.out HCS.out P 0 n (PS n cash d ps q) 200 (PRi.out.below VL.out (Nat.le_refl _)).rats (by omega) (by omega)).mono ?_); rintro e wa ⟨ra', rfl, hra, hba⟩; obtain ⟨sa, aa, na', ea, ba, ma, da, rfl, KH⟩ := hra.shape; clear hra; (try have KT := Lib.hid (KT.out.mono hba (Nat.le_refl _))); have VL := Lib.hid (VL.out.trans (hba.mono VL.out.size)))
        | (go_at_call 56; (with_reducible refine (rat_whole Ti (by omega) (by omega) _).mono ?_); rintro e wt ⟨rt, rfl, hrt, hbt⟩; obtain ⟨st, at_, nt, et, bt, mt, dt, rfl, KT⟩ := hrt.shape; clear hrt; (try have KH := Lib.hid (KH.out.mono hbt (Nat.le_refl _))); have VL := Lib.hid (VL.out.trans (hbt.mono VL.out.size)))
        | (go_at_call 55; (with_reducible refine (rat_cmp_val _ _ (hasQ n cash d (PS n cash d ps q) i) ((Ti : Int) : Rat) (512 * (200 + 1)) _ _ KH.out (KT.out.le (by omega)) (by omega) rfl).mono ?_); rintro e wc ⟨rfl, hbc⟩; have VL := Lib.hid (VL.out.trans (hbc.mono VL.out.size))))
       all_goals
        go_wp2_with fail
        go_meet
        case rel => exact ⟨by rw [HNW.out], VL⟩
      ·have HNW : Hid (NW n cash d ps q i = false) := Lib.hid (by rw [nw_iff, hFi]; rfl)
       rw [hFi] at keepR
       clear hFi
       have f0 := (keepR.out _ VL0.out).1
       go_quiet (fail)
       all_goals
        go_wp2_with fail
        go_meet
        case rel => exact ⟨by rw [HNW.out], Lib.hid (VL0.out.trans ((Drawn.of _ _).below _))⟩
     case rest =>
      obtain ⟨rfl, VL2⟩ := hcut
      clear keepR HFI HQT HQL HCS HDS ib ixt
      have NO := Lib.hid (own_kept NO.out VL2.out)
      have VL := Lib.hid (VL.out.trans (VL2.out.mono VL.out.size))
      clear VL2 PRi KWi
      rcases hNi : NW n cash d ps q i with _ | _
      ·have hrk : rankF (NW n cash d ps q) (i + 1) = rankF (NW n cash d ps q) i := by rw [rankF_succ, hNi]; simp
       have HRK := Lib.hid hrk
       clear hrk
       go_wp2
       go_roundw
       case rel => exact ⟨i + 1, by omega, by go_num, na, nk, by rw [HRK.out], Lib.hid (by rw [HRK.out]; exact NO.out), Lib.hid (by rw [HRK.out]; exact HNN.out), VL⟩
       case measure => simp [intOf]; omega
      ·have hrk : rankF (NW n cash d ps q) (i + 1) = rankF (NW n cash d ps q) i + 1 := by rw [rankF_succ, hNi]; simp
       have HRK := Lib.hid hrk
       have hle : rankF (NW n cash d ps q) i ≤ i := rankF_le _ i
       have HFR : Hid (rwF n cash d ps q (rankF (NW n cash d ps q) i) = (i : Int)) := Lib.hid (by unfold rwF frN; rw [(frL_rank (NW n cash d ps q) n i h hNi).2])
       obtain ⟨rk, hrk2⟩ : ∃ rk, rk = rankF (NW n cash d ps q) i := ⟨_, rfl⟩
       rw [← hrk2] at NO HFR HRK hle
       rw [← hrk2]
       clear hrk hrk2 HNN
       have HA3 : Hid (ws.heap.size ≤ (wc.alloc (.cells #[.int .i64 (i : Int)] 3)).heap.size) := Lib.hid (by have := VL.out.size; simp; omega)
       go_wp2_with (first
        | (at_builtin; refine wpList_append_own_at _ rfl (.tmp 54) (.tmp 56) 22 rfl ws.heap.size 3 i0 (.int .i64 0) 1 8 Tryz.underlying22 hi hz0 hz1 hz2 rfl (by decide) (.slice na rk nk) rk (ics (rwF n cash d ps q) rk) rfl (NO.out.alloc _) ⟨wc.heap.size, 0, none⟩ 1 1 [.int .i64 (i : Int)] rfl rfl (new1 _ _ _) (one1 _ rfl) (by unfold maxLen; omega) (by omega) HA3.out ?_; intro v' w7 hown hgrow _ _; rw [← HFR.out, ics_succ] at hown; obtain ⟨na', nk', rfl⟩ := own_shape hown; have VL7 := Lib.hid ((VL.out.alloc VL.out.size (.cells #[.int .i64 (i : Int)] 3)).grown hgrow HA3.out (fun kk e => ((NO.out.alloc (.cells #[.int .i64 (i : Int)] 3)).lt kk e).1)); have NO7 := Lib.hid hown; clear hown hgrow))
       go_roundw
       case rel => exact ⟨i + 1, by omega, by go_num, na', nk', by rw [HRK.out], Lib.hid (by rw [HRK.out]; exact NO7.out), Lib.hid (by rw [HRK.out]; exact fun e => by omega), VL7⟩
       case measure => simp [intOf]; omega
    ·obtain rfl : n = i := by omega
     have e1 : decide ((n : Int) < (n : Int)) = false := by simp
     obtain ⟨M, hM⟩ : ∃ M, M = rankF (NW n cash d ps q) n := ⟨_, rfl⟩
     have HMM : Hid (M = rwM n cash d ps q) := Lib.hid hM
     rw [← hM] at NO HNN
     rw [← hM]
     have hMn : M ≤ n := by rw [hM]; exact rankF_le _ n
     have HM1 := Lib.hid hM
     clear hM
     have HQN : Hid (q ≤ n) := Lib.hid (Nat.le_trans HQR.out (rankF_le _ n))
     have HLV := Lib.hid (fun g e => (G.out.own.lt g e).2)
     have HLR : Hid (∀ i g, i < q → blk (ra i) = some g → g < ws.heap.size) := Lib.hid (fun i g hi e => ((G.out.row i hi).lt g (by rw [ownBlock_blk]; exact e)).2)
     have G := Lib.hid (G.out.below VL.out)
     have OF := Lib.hid (rowIs_below OF.out VL.out OF.out.lt)
     have ON := Lib.hid (rowIs_below ON.out VL.out ON.out.lt)
     have KW := Lib.hid (KW.out.trans (VL.out.mono KW.out.size))
     have PR := Lib.hid (PR.out.below VL.out (Nat.le_refl _))
     rcases Nat.eq_zero_or_pos M with h0M | h0M
     ·subst h0M
      obtain ⟨rfl, rfl⟩ := HNN.out rfl
      go_wp2
      go_ret2
      exact ⟨q, va, vk, ra, rc, P, rfl, HQN.out, HQ.out, HMM.out.symm, G.out.base (by have := HWB.out; omega), PR.out, KW.out⟩
     ·obtain ⟨ng, rfl, hng, hnc⟩ := own_some NO.out h0M
      have HNC := Lib.hid hnc
      have HNG := Lib.hid hng
      clear hng hnc PR HNN
      have HWV := Lib.hid VL.out.size
      have OF : Hid (wr.rowIs fb 4 n (bF (mkF n (FS n cash d ps q) (NW n cash d ps q) 0))) := Lib.hid (OF.out.congr (fun i hi => by unfold bF mkF; simp))
      have HLE : Hid (fb < wb.heap.size ∧ fb < ws.heap.size) := Lib.hid ⟨HFB.out, HOL.out⟩
      clear VL
      go_wp2
      go_loopw [11, 65] (fun v11 v65 wi => ∃ r : Nat, r ≤ M ∧ v65 = .int .i64 (r : Nat) ∧ Hid (RowsIn wb.heap.size wi q (.slice va q vk) ra rc (rwM n cash d ps) (rwF n cash d ps)) ∧ Hid (wi.ownsRow ws.heap.size 3 1 (.slice (some ⟨ng, 0, none⟩) M nk) M (ics (rwF n cash d ps q) M)) ∧
       Hid (wi.rowIs fb 4 n (bF (mkF n (FS n cash d ps q) (NW n cash d ps q) r))) ∧ Hid (wi.rowIs nb 4 n (bF (fun _ => false))) ∧ Hid (Below w.heap.size w wi) ∧ Hid (ws.heap.size ≤ wi.heap.size)) (fun _ v65 _ => M - (intOf v65).toNat)
      case atStart => exact ⟨0, by omega, rfl, G, NO, OF, ON, KW, HWV⟩
      case round =>
       clear G NO OF ON KW HWV HNC
       obtain ⟨r, hrM, rfl, G, NO, OF, ON, KW, HWV⟩ := hrel
       by_cases h : r < M
       ·have e2 : decide ((r : Int) < (M : Int)) = true := by simpa using h
        have e2n : decide (r < M) = true := by simpa using h
        obtain ⟨fi, hfi⟩ : ∃ fi, fi = frN (NW n cash d ps q) n r := ⟨_, rfl⟩
        have hsp := frL_spec (NW n cash d ps q) n r (by rw [← HM1.out]; exact h)
        have HFI : Hid (NW n cash d ps q fi = true ∧ rankF (NW n cash d ps q) fi = r) := Lib.hid (by rw [hfi]; exact ⟨hsp.1, hsp.2.2⟩)
        have hfin : fi < n := by rw [hfi]; exact hsp.2.1
        obtain ⟨ng2, hng2, _, hnc2⟩ := own_some NO.out h0M
        have hgg : ng2 = ng := by injection hng2 with e; injection e with e; exact e.symm
        subst hgg
        have cr := hnc2 r _ (ics_get _ M r h)
        have er : ic (rwF n cash d ps q) r = .int .i64 (fi : Int) := by unfold ic rwF; rw [← hfi]
        rw [er] at cr
        have HFE := Lib.hid hfi
        have ixn : ∀ W, (Instr.indexAt 22 (.slice (some ⟨ng2, 0, none⟩) M nk) (.int .i64 (r : Int))).run Tryz.prog W = .ok (.pointer (some ⟨ng2, r, none⟩)) W := fun W => by
         have h9 := run_indexAt_opt 22 ints_s ints_z (some ⟨ng2, 0, none⟩) ng2 0 M nk (fun _ => rfl) .i64 r (by omega) (by omega) W
         simpa using h9
        have ixf := fun W => ixB fb n n fi hfin W
        have cf := OF.out.cell hfin
        have ff := OF.out.frozen fi
        simp only [bF] at cf
        clear hfi hsp hng2 hnc2 er
        go_wp2
        go_roundw
        case rel =>
         refine ⟨r + 1, by omega, by go_num, Lib.hid (G.out.setFar HLE.out.1 _), Lib.hid (own_setFar NO.out HLE.out.2 _), Lib.hid ((OF.out.set fi _).congr (fun i hi => ?_)), Lib.hid (ON.out.setOther (by exact fun e => hne e.symm) _), Lib.hid (KW.out.setCell hfb _), Lib.hid (by simp only [World.setCell, Array.size_modify]; exact HWV.out)⟩
         unfold bF mkF
         by_cases ei : i = fi
         ·subst ei
          rw [if_pos rfl]; simp [HFI.out.1, HFI.out.2]
         ·rw [if_neg ei]
          by_cases hNi : NW n cash d ps q i = true
          ·have h2 : rankF (NW n cash d ps q) i ≠ r := fun e => ei (by
            have h3 := (frL_rank (NW n cash d ps q) n i hi hNi).2
            rw [HFE.out]; unfold frN; rw [← e, h3])
           by_cases h4 : rankF (NW n cash d ps q) i < r
           ·simp [hNi, h4, show rankF (NW n cash d ps q) i < r + 1 by omega]
           ·simp [hNi, h4, show ¬ rankF (NW n cash d ps q) i < r + 1 by omega]
          ·simp [hNi]
        case measure => simp [intOf]; omega
       ·obtain rfl : M = r := by omega
        have e2 : decide ((M : Int) < (M : Int)) = false := by simp
        have hqn := HQN.out
        have HA3 : Hid (wb.heap.size ≤ (wr.alloc (.cells #[.slice (some ⟨ng, 0, none⟩) M nk] 22)).heap.size) := Lib.hid (by have := HWV.out; have := HWW.out; simp; omega)
        go_wp2_with (first
         | (at_builtin; go_loud (refine wpList_append_own_at _ rfl (.tmp 73) (.tmp 75) 24 rfl wb.heap.size 22 j0 (.slice none 0 0) 1 24 Tryz.underlying24 hj hy0 hy1 hy2 rfl (by decide) (.slice va q vk) q (rowCells ra (rwM n cash d ps) rc q) rfl (G.out.own.alloc _) ⟨wr.heap.size, 0, none⟩ 1 1 [.slice (some ⟨ng, 0, none⟩) M nk] rfl rfl (new1 _ _ _) (one1 _ rfl) (by unfold maxLen; omega) (by omega) HA3.out ?_; intro v' w7 hown hgrow _ hblk; rw [HMM.out] at hown; have NO2 : Hid (wr.ownsRow ws.heap.size 3 1 (.slice (some ⟨ng, 0, none⟩) (rwM n cash d ps q) nk) (rwM n cash d ps q) (ics (rwF n cash d ps q) (rwM n cash d ps q))) := Lib.hid (by rw [← HMM.out]; exact NO.out); obtain ⟨va', vk', rfl⟩ := own_shape hown; have HGR := Lib.hid hgrow; have G7 := Lib.hid (G.out.pushR HWW.out NO2.out HLV.out HLR.out _ hgrow hblk hown); have KW7 := Lib.hid ((KW.out.alloc KW.out.size (.cells #[.slice (some ⟨ng, 0, none⟩) M nk] 22)).grown hgrow (by have := KW.out.size; simp; omega) (fun kk e => by have h1 := ((G.out.own.alloc (.cells #[.slice (some ⟨ng, 0, none⟩) M nk] 22)).lt kk e).1; have h2 := HWB.out; omega)); clear hown hgrow hblk)))
        have OF7 : Hid (w7.rowIs fb 4 n (bF (FS n cash d ps (q + 1)))) := Lib.hid (((OF.out.alloc _).of_block (HGR.out.block fb (by have := OF.out.lt; simp; omega) (fun e => by have := (G.out.own.lt fb e.symm).1; have := HLE.out.1; omega))).congr (fun i hi => by
         unfold bF mkF
         rw [fs_succ]
         by_cases hNi : NW n cash d ps q i = true
         ·have h2 := (frL_rank (NW n cash d ps q) n i hi hNi).1
          rw [← HM1.out] at h2
          simp [hNi, h2]
         ·simp [hNi]))
        have ON7 : Hid (w7.rowIs nb 4 n (bF (fun _ => false))) := Lib.hid ((ON.out.alloc _).of_block (HGR.out.block nb (by have := ON.out.lt; simp; omega) (fun e => by have := (G.out.own.lt nb e.symm).1; have := HNB.out; omega)))
        have HW7 : Hid (wb.heap.size ≤ w7.heap.size) := Lib.hid (Nat.le_trans HA3.out HGR.out.size)
        have HQ7 : Hid (∀ r, r < q + 1 → 0 < rwM n cash d ps r) := Lib.hid (fun r hr => by
         by_cases e : r = q
         ·rw [e, ← HMM.out]; exact h0M
         ·exact HQ.out r (by omega))
        have HQR7 : Hid (q + 1 ≤ rankF (FS n cash d ps (q + 1)) n) := Lib.hid (by rw [fs_rank, ← HM1.out]; have := HQR.out; omega)
        go_roundw
        case rel => exact ⟨q + 1, HQ7, HQR7, va', vk', _, _, rfl, G7, OF7, ON7, KW7, HW7⟩
        case measure => simp only; omega
end Go.Proofs.YtcnaagiicpkcpaaGreat

/- slices.Reverse at bytes, any number of them, in memory of the call's own. -/
namespace Go.Proofs.YtcnaagiicpkcpaaGreat
open Go.RowKit
theorem b8s : Tryz.prog.underlying 138 = some (.slice (Tryz.prog.elem 138)) := by kernel_rfl
theorem b8z (W : World) : (sizeOf (Tryz.prog.elem 138)).run Tryz.prog W = .ok 1 W := by kernel_rfl
theorem ix8 (g n c i : Nat) (hi : i < n) (W : World) :
  (Instr.indexAt 138 (.slice (some ⟨g, 0, none⟩) n c) (.int .i64 (i : Int))).run Tryz.prog W = .ok (.pointer (some ⟨g, i, none⟩)) W := by
 have h := run_indexAt_opt 138 b8s b8z (some ⟨g, 0, none⟩) g 0 n c (fun _ => rfl) .i64 i (by omega) (by omega) W
 simpa using h
/-- the first k and the last k exchanged -/
def revF (F : Nat → Value) (n k : Nat) (i : Nat) : Value := if i < n ∧ (i < k ∨ n < i + 1 + k) then F (n - 1 - i) else F i
set_option maxHeartbeats 2000000 in
theorem reverse_any (g c n cap T : Nat) (F : Nat → Value) (w : World) (G : Nat → Int) (h : w.rowIs g T c F) (hG : ∀ i, i < n → F i = .int .u8 (G i)) (hn : n ≤ c) (hm : n ≤ 4611686018427387904) :
  Calls Tryz.prog 96 #[.slice (some ⟨g, 0, none⟩) n cap] w fun e w' => e = .returned (.tuple #[]) ∧ w'.rowIs g T c (fun i => if i < n then F (n - 1 - i) else F i) ∧ Below g w w' := by
 have HR := Lib.hid h
 have HB := Lib.hid (Below.refl g w)
 have HG := Lib.hid hG
 clear h hG
 go_enter Tryz.func96, Tryz.ntmps96
 go_wp2
 go_loopw [2, 3] (fun v2 v3 wr => ∃ k : Nat, 2 * k ≤ n + 1 ∧ v2 = .int .i64 (k : Nat) ∧ v3 = .int .i64 ((n : Int) - 1 - k) ∧ Hid (wr.rowIs g T c (revF F n k)) ∧ Hid (Below g w wr)) (fun v2 _ _ => n - (intOf v2).toNat)
 case atStart => exact ⟨0, by omega, rfl, by simp, Lib.hid (HR.out.congr (fun i hi => by unfold revF; rw [if_neg (by omega)])), HB⟩
 case round =>
  obtain ⟨k, hk, rfl, rfl, OR, KW⟩ := hrel
  by_cases h : 2 * k + 1 < n
  ·obtain ⟨m, hm2⟩ : ∃ m : Nat, m + k + 1 = n := ⟨n - 1 - k, by omega⟩
   have e3 : (n : Int) - 1 - k = (m : Int) := by omega
   rw [e3]
   have hkm : k < m := by omega
   have i1 := fun W => ix8 g n cap k (by omega) W
   have i2 := fun W => ix8 g n cap m (by omega) W
   have c1 := OR.out.cell (i := k) (by omega)
   have c2 := OR.out.cell (i := m) (by omega)
   have f1 := OR.out.frozen k
   have f2 := OR.out.frozen m
   have e1 : revF F n k k = .int .u8 (G k) := by unfold revF; rw [if_neg (by omega), HG.out k (by omega)]
   have e2 : revF F n k m = .int .u8 (G m) := by unfold revF; rw [if_neg (by omega), HG.out m (by omega)]
   rw [e1] at c1
   rw [e2] at c2
   have ne1 : ¬ k = m := by omega
   have ne2 : ¬ m = k := by omega
   clear e1 e2 e3
   go_wp2
   go_region
   all_goals go_wp2
   all_goals
    go_roundw
    case rel =>
     refine ⟨k + 1, by omega, by go_num, by congr 1; omega, Lib.hid ?_, Lib.hid (by first | exact ((KW.out.setCell (Nat.le_refl _) _).setCell (Nat.le_refl _) _).drew | exact ((KW.out.drew.setCell (Nat.le_refl _) _).setCell (Nat.le_refl _) _))⟩
     refine World.rowIs.congr (((OR.out.set _ _).set _ _).drew) (fun i hi => ?_)
     have q1 : n - 1 - k = m := by omega
     have q2 : n - 1 - m = k := by omega
     have g1 := HG.out k (by omega)
     have g2 := HG.out m (by omega)
     unfold revF
     rcases Nat.lt_trichotomy i k with h | h | h
     ·rw [if_neg (by omega), if_neg (by omega), if_pos (by omega), if_pos (by omega)]
     ·subst h; rw [if_neg (by omega), if_pos rfl, if_pos (by omega), q1, g2]
     ·by_cases h2 : i = m
      ·subst h2; rw [if_pos rfl, if_pos (by omega), q2, g1]
      ·rw [if_neg h2, if_neg (by omega)]
       by_cases h3 : i < n ∧ n < i + 1 + k
       ·rw [if_pos (by omega), if_pos (by omega)]
       ·rw [if_neg (by omega), if_neg (by omega)]
    case measure => simp [intOf]; omega
  ·have hd : decide ((k : Int) < (n : Int) - 1 - k) = false := by simp; omega
   go_wp2
   go_end0
   refine ⟨rfl, OR.out.congr (fun i hi => ?_), KW.out⟩
   unfold revF
   by_cases h1 : i < n
   ·rw [if_pos h1]
    by_cases h2 : i < k ∨ n < i + 1 + k
    ·rw [if_pos ⟨h1, h2⟩]
    ·rw [if_neg (fun q => h2 q.2)]; congr 1; omega
   ·rw [if_neg h1, if_neg (fun q => h1 q.1)]
end Go.Proofs.YtcnaagiicpkcpaaGreat

/- Plain arithmetic: digits in base 10000. No program in sight. (Printed by gen_plaind.py.) -/
namespace Go.Proofs.YtcnaagiicpkcpaaGreat
/-- how many digits a number has -/
def nd (x : Nat) : Nat := if h : x = 0 then 0 else nd (x / 10000) + 1
termination_by x
decreasing_by omega
end Go.Proofs.YtcnaagiicpkcpaaGreat

/- Plain: decimal texts. -/
namespace Go.Proofs.YtcnaagiicpkcpaaGreat
/-- the value of a byte as a decimal digit -/
def dv (c : Nat) : Nat := if 48 ≤ c ∧ c ≤ 57 then c - 48 else 0
end Go.Proofs.YtcnaagiicpkcpaaGreat

/- Plain: the decimal text of a number, of a fraction. -/
namespace Go.Proofs.YtcnaagiicpkcpaaGreat
/-- decimal digit i of x, the least first -/
def d10 (x i : Nat) : Nat := x / 10 ^ i % 10
theorem d10_lt (x i : Nat) : d10 x i < 10 := Nat.mod_lt _ (by omega)
/-- L is the number of decimal digits of x (1 for 0) -/
structure Len10 (x L : Nat) : Prop where
 lt : x < 10 ^ L
 zero : x = 0 → L = 1
 ge : 0 < x → 0 < L ∧ 10 ^ (L - 1) ≤ x
theorem Len10.le {x L K : Nat} (h : Len10 x L) (hK : 1 ≤ K) (hx : x < 10 ^ K) : L ≤ K := by
 rcases Nat.eq_zero_or_pos x with e | e
 ·rw [h.zero e]; omega
 ·obtain ⟨h1, h2⟩ := h.ge e
  rcases Nat.lt_or_ge K L with hlt | hge
  ·exfalso
   have : 10 ^ K ≤ 10 ^ (L - 1) := Nat.pow_le_pow_right (by omega) (by omega)
   omega
  ·exact hge
/-- s is the decimal text of x -/
def IsTxt (s : ByteArray) (x : Nat) : Prop := ∃ L, Len10 x L ∧ s.size = L ∧ ∀ (i : Nat) (h : i < s.size), s[i].toNat = 48 + d10 x (L - 1 - i)
/-- s is the text of the number p / d (in lowest terms) -/
def FracTxt (s : ByteArray) (p : Int) (d : Nat) : Prop :=
 ∃ t, IsTxt t p.natAbs ∧ ((d = 1 ∧ s = (if p < 0 then ⟨#[45]⟩ ++ t else t)) ∨ (d ≠ 1 ∧ ∃ u, IsTxt u d ∧ s = (if p < 0 then ⟨#[45]⟩ ++ t else t) ++ (⟨#[47]⟩ ++ u)))
end Go.Proofs.YtcnaagiicpkcpaaGreat
