/- The law HideMirrored: its walk. -/
import Derived.Test.YtolkchkedieppaaGreatUPlainMi
import Derived.Test.YtolkchkedieppaaGreatUCmC
import Derived.Test.YtolkchkedieppaaGreatULivH
import Derived.Test.YtolkchkedieppaaGreatUMcA
import Derived.BigRegion
import Derived.BigQuiet
set_option linter.unusedVariables false
set_option linter.unusedSimpArgs false
namespace Go.Proofs.YtolkchkedieppaaGreat
open Go.RowKit
attribute [local go_sem ↓] Go.wp_at_zero Go.wp_at_succ
theorem not_mem_take {A : List Nat} (h : A.Pairwise (· < ·)) {j : Nat} (hj : j < A.length) : A.getD j 0 ∉ A.take j := fun hm => by
 obtain ⟨i, hi, e⟩ := List.getElem_of_mem hm
 rw [List.length_take] at hi
 rw [List.getElem_take] at e
 have := List.pairwise_iff_getElem.1 h i j (by omega) hj (by omega)
 have e2 : A.getD j 0 = A[j] := by simp [hj]
 rw [e2] at e
 omega
set_option maxHeartbeats 8000000 in
set_option maxRecDepth 100000 in
theorem lawMirrored (v : Value) (n0 : Nat) (g : Nat → Nat) (w : World) (hv : By8 w v n0 g) (hn0 : n0 ≤ 9223372036854775807) :
  Calls Tryz.prog 12 #[v] w fun e w' => e = .returned (.bool true) ∧ Below w.heap.size w w' := by
 have HMD := madeS_any v n0 16 g w hv hn0 (by omega) (by omega)
 rw [show ((16 : Nat) : Int) = 16 from rfl] at HMD
 obtain ⟨i0, hinf, hz0, hz1, hz2⟩ := info_parts infoSq
 clear hv
 go_enter Tryz.func12, Tryz.ntmps12
 go_upto_region 2 with (first
  | (go_at_call 23; go_loud ((with_reducible refine HMD.mono ?_); rintro e w1 ⟨ma, mk, L, W, H, rfl, MD⟩; have hmk := MD.out.mkc; have hLn := MD.out.len; have hlp : L.Perm (ordL L L.length) := (by have := ordL_perm L L.length (Nat.le_refl _); rw [List.take_length] at this; exact this); have KW := Lib.hid MD.out.kb; have HORD := Lib.hid (order_mk _ L (ordL L L.length) W H _ (ows_of MD.out.own MD.out.mkc.pos) hmk (by omega) hlp (ordL_sorted L _)); have MK := Lib.hid (hmk.perm hlp); have HLP := Lib.hid hlp.length_eq; clear hmk hlp MD))
  | (go_at_call 32; go_loud ((with_reducible refine HORD.out.mono ?_); rintro e w2 ⟨oa, ok, rfl, ho, hb⟩; have OS := Lib.hid ho; have KW := Lib.hid (KW.out.trans (hb.mono KW.out.size)); clear ho hb)))
 clear HMD HORD
 have HSO := Lib.hid (ordL_sorted L L.length)
 obtain ⟨S, hS⟩ : ∃ S, S = ordL L L.length := ⟨_, rfl⟩
 rw [← hS] at OS MK HLP HSO ⊢
 have hSn : S.length ≤ 16 := by have := HLP.out; omega
 clear hS hLn HLP
 have hcp := compound_mk (.slice oa S.length ok) S S W H w2 OS.out MK.out (by omega) (List.Perm.refl S) HSO.out
 go_upto_region 3 with (go_at_call 43; go_loud ((with_reducible refine hcp.mono ?_); rintro e w3 ⟨A, vb, er, hB, hA, rfl, rfl, hbm⟩; have HB := Lib.hid hB; have BM := Lib.hid hbm; have KB := Lib.hid hbm.kb; clear hB hbm))
 clear hcp
 rcases BM.out.sh with ⟨rfl, rfl⟩ | ⟨hne, ga, ca, rfl⟩
 ·rw [if_pos rfl]
  go_wp2_with (go_at_call 18; go_loud ((with_reducible refine (livesH_true _).mono ?_); rintro e w10 ⟨rfl, hb⟩; have KB := Lib.hid (KB.out.trans (hb.mono KB.out.size)); clear hb))
  go_ret
  exact ⟨rfl, KW.out.trans (KB.out.mono KW.out.size)⟩
 ·rw [if_neg hne]
  have hcand := HB.out.is hne
  have hmk := MK.out
  obtain ⟨hinc, hlt, h2, hf⟩ : A.Pairwise (· < ·) ∧ (∀ i, i ∈ A → i < S.length) ∧ 2 ≤ A.length ∧ A.length < S.length := by
   obtain ⟨i, j, hi, hj, hr⟩ := hcand
   have := hr.cand (hmk.cut (by omega)) hi hj
   exact ⟨this.inc, this.lt, this.two, this.few⟩
  have HC := Lib.hid hcand
  have HI := list_ints BM.out.own
  obtain ⟨a9, b9, o9, c9, hv9, s9⟩ := HI
  injection hv9 with u1 u2 u3
  have SL := Lib.hid s9
  have e9 := s9.at_ (by omega)
  rw [← u1] at e9
  injection e9 with e9
  injection e9 with e91 e92
  subst e91 e92
  obtain ⟨go, co, hvo, hgo1, hgo2, hoc, TR0⟩ := OS.out.ex
  injection hvo with v1 v2 v3
  subst v1; subst v3
  have TRK : Hid (∀ wx, Below w2.heap.size w2 wx → TrR wx go 0 S) := Lib.hid (fun wx hb => TR0.below hb hgo2)
  have SLK : Hid (∀ wx, Below w3.heap.size w3 wx → ∀ i, i < A.length → wx.cell? ⟨ga, i, none⟩ = some (.int .i64 ((A.getD i 0 : Nat) : Int))) := Lib.hid (fun wx hb i hi => by
   have := (hb.cell (p := ⟨ga, 0 + i, none⟩) (s9.lt (by omega))).trans (s9.cell i hi)
   rw [Nat.zero_add] at this
   exact this)
  have IXA : Hid (∀ (i : Nat), i < A.length → ∀ X, (Instr.indexAt 22 (.slice (some ⟨ga, 0, none⟩) A.length ca) (.int .i64 (i : Int))).run Tryz.prog X = .ok (.pointer (some ⟨ga, i, none⟩)) X) := Lib.hid (fun i hi X => by
   have := ixI s9 i ca hi X
   rw [← u1, Nat.zero_add] at this
   exact this)
  have HG2 := Lib.hid hgo2
  have HOWN := Lib.hid OS.out.own
  clear u1 u2 u3 v2 hgo1 TR0 s9 SL BM hne hcand HB
  have HRG : Hid (∀ i, i < S.length → RgT (S.getD i default)) := Lib.hid (hmk.cut (by omega)).rg
  have HNX : Hid (∀ i, i + 1 < A.length → A.getD i 0 < A.getD (i + 1) 0) := Lib.hid (fun i hi => by
   have := List.pairwise_iff_getElem.1 hinc i (i + 1) (by omega) hi (by omega)
   have e1 : A.getD i 0 = A[i] := by simp [show i < A.length by omega]
   have e2 : A.getD (i + 1) 0 = A[i + 1] := by simp [hi]
   rw [e1, e2]; exact this)
  have HLT : Hid (∀ i, i < A.length → A.getD i 0 < S.length) := Lib.hid (fun i hi => hlt _ (by simp [hi]))
  have HLT0 := Lib.hid hlt
  have HINC := Lib.hid hinc
  have HOS := OS
  obtain ⟨n, hn⟩ : ∃ n, n = S.length := ⟨_, rfl⟩
  obtain ⟨M, hM⟩ : ∃ M, M = A.length := ⟨_, rfl⟩
  rw [← hn] at hSn hf HLT HRG hoc ⊢
  rw [← hM] at h2 hf hA SLK IXA HNX HLT ⊢
  have HN := Lib.hid hn
  have HMM := Lib.hid hM
  clear hn hM hinc hlt hmk
  have FT0 : Hid (FrTo S (A.take 0) 1000 0) := Lib.hid (FrTo.start S)
  have HD0 : Hid (Drawn w3 w3) := Lib.hid (Drawn.refl _)
  go_wp2
  go_loopw [6, 7, 8] (fun v6 v7 v8 wr => ∃ (i : Nat) (f t : Int), i ≤ M ∧ v8 = .int .i64 (i : Nat) ∧ v6 = .int .i64 f ∧ v7 = .int .i64 t ∧ Hid (FrTo S (A.take i) f t) ∧ Hid (Drawn w3 wr)) (fun _ _ v8 _ => M - (intOf v8).toNat)
  case atStart => exact ⟨0, _, _, by omega, rfl, rfl, rfl, FT0, HD0⟩
  case round =>
   clear FT0 HD0
   obtain ⟨i, f, t, hi, rfl, rfl, rfl, FT, HD⟩ := hrel
   by_cases h : i < M
   ·have e1 : decide ((i : Int) < (M : Int)) = true := by simpa using h
    have e1n : decide (i < M) = true := by simpa using h
    have hb3 := HD.out.below w3.heap.size
    have ixi := IXA.out i h
    have x0 := SLK.out wr hb3 i h
    have han := HLT.out i h
    have hT := take_succ_nat A (j := i) (by have := HMM.out; omega)
    have hT1 := TRK.out wr (KB.out.trans (HD.out.below _))
    have y0 := hT1.c0 (A.getD i 0) (by have := HN.out; omega)
    have y2 := hT1.c2 (A.getD i 0) (by have := HN.out; omega)
    simp only [Nat.zero_add] at y0 y2
    have hr := HRG.out _ han
    have hpush := FT.out.push (k := A.getD i 0)
    rw [← hT] at hpush
    have hpre : 0 < i → A.getD (i - 1) 0 < A.getD i 0 := fun h0 => by
     have := HNX.out (i - 1) (by omega)
     rwa [show i - 1 + 1 = i by omega] at this
    obtain ⟨a, ha⟩ : ∃ a, a = A.getD i 0 := ⟨_, rfl⟩
    rw [← ha] at x0 han y0 y2 hr hpush hpre
    obtain ⟨q, hq⟩ : ∃ q, q = S.getD a default := ⟨_, rfl⟩
    rw [← hq] at y0 y2 hr hpush
    have ixa := fun X => ixSq go n ok a han X
    have r0 := hr.a0; have r1 := hr.c0; have r2 := hr.c1; have r3 := hr.a1
    have w6 : IntKind.i64.wrap (q.a + q.c) = q.a + q.c := by rw [IntKind.wrap_i64]; omega
    have t1 : decide ((a : Int) < 0) = false := by simp
    have t2 : decide ((a : Int) ≥ (n : Int)) = false := by simp; omega
    have t2b : decide ((n : Int) ≤ (a : Int)) = false := by simp; omega
    have t2n : decide (n ≤ a) = false := by simp; omega
    have t2g : decide (a ≥ n) = false := by simp; omega
    obtain ⟨f2, hf2⟩ : ∃ f2, f2 = min f q.a := ⟨_, rfl⟩
    obtain ⟨t3, ht3⟩ : ∃ t3, t3 = max t (q.a + q.c) := ⟨_, rfl⟩
    have HPS : Hid (FrTo S (A.take (i + 1)) f2 t3) := Lib.hid (by rw [hf2, ht3]; exact hpush)
    have g1 : (if q.a < f then q.a else f) = f2 := by rw [hf2]; split <;> omega
    have g2 : (if t < q.a + q.c then q.a + q.c else t) = t3 := by rw [ht3]; split <;> omega
    have g3 : min f q.a = f2 := hf2.symm
    have g4 : max t (q.a + q.c) = t3 := ht3.symm
    have HPRE := Lib.hid hpre
    clear hb3 hT hT1 hr hpush ha hq r0 r1 r2 r3 hf2 ht3 hpre han
    by_cases hi0 : 0 < i
    ·have k1 : decide ((i : Int) > 0) = true := by simp; omega
     have k1b : decide ((0 : Int) < (i : Int)) = true := by simp; omega
     have k1n : decide (0 < i) = true := by simpa using hi0
     have kw : IntKind.i64.wrap ((i : Int) - 1) = (i : Int) - 1 := by rw [IntKind.wrap_i64]; omega
     have hkc : (i : Int) - 1 = ((i - 1 : Nat) : Int) := by omega
     have ixp : ∀ X, (Instr.indexAt 22 (.slice (some ⟨ga, 0, none⟩) M ca) (.int .i64 ((i : Int) - 1))).run Tryz.prog X = .ok (.pointer (some ⟨ga, i - 1, none⟩)) X := fun X => by rw [hkc]; exact IXA.out (i - 1) (by omega) X
     have xp := SLK.out wr (HD.out.below w3.heap.size) (i - 1) (by omega)
     have hlt2 := HPRE.out hi0
     obtain ⟨p, hp⟩ : ∃ p, p = A.getD (i - 1) 0 := ⟨_, rfl⟩
     rw [← hp] at xp hlt2
     have k2 : decide ((p : Int) ≥ (a : Int)) = false := by simp; omega
     have k2b : decide ((a : Int) ≤ (p : Int)) = false := by simp; omega
     have k2n : decide (a ≤ p) = false := by simp; omega
     clear hkc hp hlt2 hi0
     go_wp2
     go_quiet (fail)
     go_wp2
     go_quiet (fail)
     go_wp2
     go_roundw
     case rel => exact ⟨i + 1, f2, t3, by omega, by go_num, rfl, rfl, HPS, Lib.hid (HD.out.trans (Drawn.of _ _))⟩
     case measure => simp [intOf]; omega
    ·have hi00 : i = 0 := by omega
     subst hi00
     have k1 : decide (((0 : Nat) : Int) > 0) = false := by simp
     clear hi0
     go_wp2
     go_quiet (fail)
     go_wp2
     go_quiet (fail)
     go_wp2
     go_roundw
     case rel => exact ⟨0 + 1, f2, t3, by omega, by go_num, rfl, rfl, HPS, Lib.hid (HD.out.trans (Drawn.of _ _))⟩
     case measure => simp [intOf]; omega
   ·have hMi : M = i := by omega
    subst hMi
    have e1 : decide ((M : Int) < (M : Int)) = false := by simp
    have HFT : Hid (FrTo S A f t) := Lib.hid (by have := FT.out; rw [HMM.out, List.take_length] at this; exact this)
    have K3 := Lib.hid (HD.out.below w3.heap.size)
    have hft := HFT.out
    have hfb : 0 ≤ f ∧ f ≤ 1000 := by
     rcases hft.fa with q | ⟨k, hk, q⟩
     ·omega
     ·have r := HRG.out k (by have := HLT0.out k hk; have := HN.out; omega)
      have := r.a0; have := r.a1; have := r.c0; omega
    have htb : 0 ≤ t ∧ t ≤ 1000 := by
     rcases hft.ta with q | ⟨k, hk, q⟩
     ·omega
     ·have r := HRG.out k (by have := HLT0.out k hk; have := HN.out; omega)
      have := r.a0; have := r.a1; have := r.c0; omega
    clear FT HD hft
    obtain ⟨wa, hwa⟩ : ∃ wa : World, wa = wr := ⟨_, rfl⟩
    have KWA : Hid (Below w2.heap.size w2 wa) := Lib.hid (by rw [hwa]; exact KB.out.trans (K3.out.mono KB.out.size))
    have K3A : Hid (Below w3.heap.size w3 wa) := Lib.hid (by rw [hwa]; exact K3.out)
    have HLNS := Lib.hid (show (trL S).length = n * 3 by rw [trL_len, ← HN.out])
    have HNW : Hid (∀ j u, (trL S)[j]? = some u → (wr.alloc (.cells #[] 47)).cell? ((⟨go, 0, none⟩ : Addr).add j) = some u) := Lib.hid (trR_news (TRK.out _ (by rw [← hwa]; exact KWA.out.alloc KWA.out.size _)))
    have OW0 : Hid ((wr.alloc (.cells #[] 47)).ownsRow wr.heap.size 47 3 (.slice (some ⟨wr.heap.size, 0, none⟩) 0 0) 0 []) := Lib.hid (World.ownsRow_made wr #[] 0 (Nat.le_refl _) (by unfold maxLen; omega) rfl)
    have HWA := Lib.hid hwa
    clear K3 hwa
    go_wp2_with (at_builtin; refine wpList_append_own _ rfl (.tmp 103) (.tmp 104) 23 rfl wr.heap.size 47 i0 _ 3 24 Tryz.underlying23 hinf hz0 hz1 hz2 rfl (by decide) (.slice (some ⟨wr.heap.size, 0, none⟩) 0 0) 0 [] rfl OW0.out ⟨go, 0, none⟩ n ok (trL S) rfl HLNS.out HNW.out (trL_one _) (by unfold maxLen; omega) (by omega) (by simp) ?_; intro v' w5 hown hgrow _; rw [Nat.zero_add, List.nil_append] at hown; have K5 := Lib.hid ((boxes1 wr (.cells #[] 47)).grown hgrow (by simp) (fun kk e => (OW0.out.lt kk e).1)); rw [← HWA.out] at hown K5; obtain ⟨gm, cm, rfl, hgm, hgm2⟩ := hown.form (by omega); have OWM := Lib.hid hown; clear hown hgrow)
    have OWM0 : Hid (w5.ownsRow wa.heap.size 47 3 (.slice (some ⟨gm, 0, none⟩) n cm) n (trL (mirF S A f t 0))) := OWM
    have HGM := Lib.hid hgm
    have HSA := Lib.hid (show MkC (mirF S A f t A.length) W H from mir_mk MK.out (by have := HN.out; omega) HC.out HFT.out)
    clear OW0 HNW HWA OWM
    go_loopw [10, 11] (fun v10 v11 wi => ∃ j : Nat, j ≤ M ∧ v10 = .int .i64 (j : Nat) ∧ Hid (wi.ownsRow wa.heap.size 47 3 (.slice (some ⟨gm, 0, none⟩) n cm) n (trL (mirF S A f t j))) ∧ Hid (Below wa.heap.size wa wi)) (fun v10 _ _ => M - (intOf v10).toNat)
    case atStart => exact ⟨0, by omega, rfl, OWM0, K5⟩
    case round =>
     clear OWM0 K5
     obtain ⟨j, hj, rfl, OW, KA⟩ := hrel
     have K2N := Lib.hid (KWA.out.trans (KA.out.mono KWA.out.size))
     by_cases h5 : j < M
     ·have e2 : decide ((j : Int) < (M : Int)) = true := by simpa using h5
      have e2n : decide (j < M) = true := by simpa using h5
      have K3N := Lib.hid (K3A.out.trans (KA.out.mono K3A.out.size))
      have ixj := IXA.out j h5
      have han := HLT.out j h5
      have hnm := not_mem_take HINC.out (j := j) (by have := HMM.out; omega)
      have x0 := SLK.out wr K3N.out j h5
      have hT1 := TRK.out wr K2N.out
      have y0 := hT1.c0 (A.getD j 0) (by have := HN.out; omega)
      have y1 := hT1.c1 (A.getD j 0) (by have := HN.out; omega)
      have y2 := hT1.c2 (A.getD j 0) (by have := HN.out; omega)
      simp only [Nat.zero_add] at y0 y1 y2
      have hr := HRG.out _ han
      have hmg := mirF_get S A f t HLT0.out j (by have := HMM.out; omega) (A.getD j 0) (by have := HN.out; omega)
      rw [if_neg hnm] at hmg
      have hstep : mirF S A f t (j + 1) = (mirF S A f t j).set (A.getD j 0) (mirT f t (S.getD (A.getD j 0) default)) := rfl
      have hml := mirF_len S A f t j
      obtain ⟨a, ha⟩ : ∃ a, a = A.getD j 0 := ⟨_, rfl⟩
      rw [← ha] at x0 han y0 y1 y2 hr hmg hstep
      obtain ⟨q, hq⟩ : ∃ q, q = S.getD a default := ⟨_, rfl⟩
      rw [← hq] at y0 y1 y2 hr hmg hstep
      have ixa := fun X => ixSq go n ok a han X
      have ixm := fun X => ixSq gm n cm a han X
      have r0 := hr.a0; have r1 := hr.c0; have r2 := hr.c1; have r3 := hr.a1
      have HAE := Lib.hid ha
      have HST := Lib.hid hstep
      have HMG := Lib.hid hmg
      have HML := Lib.hid hml
      clear ha hq hT1 hnm hstep hmg hml hr
      go_upto_region 17 with (fail)
      have hgq : gm ≠ wr.heap.size := by have := (OW.out.lt gm rfl).2; omega
      have OW := Lib.hid (OW.out.alloc (.cells #[.int .i64 q.a, .int .i64 q.b, .int .i64 q.c] 47))
      have KA := Lib.hid (KA.out.alloc KA.out.size (.cells #[.int .i64 q.a, .int .i64 q.b, .int .i64 q.c] 47))
      have BX := box3_new wr (.int .i64 q.a) (.int .i64 q.b) (.int .i64 q.c) 47
      generalize wr.alloc (.cells #[.int .i64 q.a, .int .i64 q.b, .int .i64 q.c] 47) = w4 at OW KA BX ⊢
      obtain ⟨qb, hqb⟩ : ∃ qb, qb = wr.heap.size := ⟨_, rfl⟩
      rw [← hqb] at BX hgq ⊢
      clear x0 y0 y1 y2 ixa hqb
      have K3N := Lib.hid (K3A.out.trans (KA.out.mono K3A.out.size))
      have x0 := SLK.out w4 K3N.out j h5
      rw [← HAE.out] at x0
      have y0 := BX.c0
      have y2 := BX.c2
      have hx := trR_own (P := mirF S A f t j) (cap := cm) (g := gm) (w := w4) (by rw [HML.out, ← HN.out]; exact OW.out)
      have z0 := hx.c0 a (by rw [HML.out, ← HN.out]; exact han)
      rw [HMG.out, Nat.zero_add] at z0
      have fz := OW.out.frozenAt (a * 3)
      have w8 : IntKind.i64.wrap (f + t) = f + t := by rw [IntKind.wrap_i64]; omega
      have w9 : IntKind.i64.wrap (f + t - q.a) = f + t - q.a := by rw [IntKind.wrap_i64]; omega
      have w10 : IntKind.i64.wrap (f + t - q.a - q.c) = f + t - q.a - q.c := by rw [IntKind.wrap_i64]; omega
      have HSET : Hid ((w4.setCell ⟨gm, a * 3, none⟩ (.int .i64 (f + t - q.a - q.c))).ownsRow wa.heap.size 47 3 (.slice (some ⟨gm, 0, none⟩) n cm) n (trL (mirF S A f t (j + 1)))) := Lib.hid (by
       have := (OW.out.stored (a * 3) (.int .i64 (f + t - q.a - q.c))).1
       rw [trL_set0 _ _ _ (by rw [HML.out, ← HN.out]; exact han), HMG.out] at this
       rw [HST.out]; exact this)
      have KSET := Lib.hid (KA.out.setCell (p := ⟨gm, a * 3, none⟩) HGM.out (.int .i64 (f + t - q.a - q.c)))
      clear hx BX r0 r1 r2 r3 han
      go_region
      all_goals
       go_wp2
       go_roundw
       case rel => exact ⟨j + 1, by omega, by go_num, HSET, Lib.hid KSET.out.drew⟩
       case measure => simp [intOf]; omega
     ·have hMj : M = j := by omega
      subst hMj
      have e2 : decide ((M : Int) < (M : Int)) = false := by simp
      have OSL : Hid (OwS w1.heap.size wr (.slice (some ⟨go, 0, none⟩) n ok) S) := Lib.hid (by rw [HN.out]; exact OS.out.below K2N.out)
      have OSM : Hid (OwS wa.heap.size wr (.slice (some ⟨gm, 0, none⟩) n cm) (mirF S A f t A.length)) := Lib.hid (by
       have hl := mirF_len S A f t A.length
       have h := OW.out
       rw [HMM.out] at h
       have := ows_of (L := mirF S A f t A.length) (v := .slice (some ⟨gm, 0, none⟩) n cm) (by rw [hl, ← HN.out]; exact h) (by rw [hl]; have := HN.out; omega)
       exact this)
      have KV := Lib.hid (Below.refl wr.heap.size wr)
      have t1 : decide ((M : Int) > 1) = true := by simp; omega
      have t1b : decide ((1 : Int) < (M : Int)) = true := by simp; omega
      have t1n : decide (1 < M) = true := by simp; omega
      have t2 : decide ((M : Int) < (n : Int)) = true := by simp; omega
      have t2n : decide (M < n) = true := by simp; omega
      have hml24 : (mirF S A f t A.length).length ≤ 24 := by rw [mirF_len]; have := HN.out; omega
      have hs24 : S.length ≤ 24 := by have := HN.out; omega
      clear OW HRG TRK SLK IXA HNX HLT h5 e1
      go_wp2_with (first
       | (go_at_call 30; (first
        | (with_reducible refine (measure_mk (.slice (some ⟨go, 0, none⟩) n ok) S W H _ (OSL.out.below KV.out) MK.out hs24).mono ?_; rintro e wy ⟨rfl, hb⟩; have KV := Lib.hid (KV.out.trans (hb.mono KV.out.size)); clear hb)
        | (with_reducible refine (measure_mk (.slice (some ⟨gm, 0, none⟩) n cm) (mirF S A f t A.length) W H _ (OSM.out.below KV.out) HSA.out hml24).mono ?_; rintro e wy ⟨rfl, hb⟩; have KV := Lib.hid (KV.out.trans (hb.mono KV.out.size)); clear hb)))
       | (go_at_call 18; go_loud ((with_reducible refine (livesH_true _).mono ?_); rintro e w10 ⟨rfl, hb⟩; have KV := Lib.hid (KV.out.trans (hb.mono KV.out.size)); clear hb)))
      go_ret
      exact ⟨rfl, (KW.out.trans (K2N.out.mono KW.out.size)).trans (KV.out.mono (Nat.le_trans KW.out.size K2N.out.size))⟩
end Go.Proofs.YtolkchkedieppaaGreat
