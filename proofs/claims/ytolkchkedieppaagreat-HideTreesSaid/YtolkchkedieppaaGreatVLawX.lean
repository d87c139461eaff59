/- The law HideTrees: its walk. -/
import Derived.Test.YtolkchkedieppaaGreatVFig
import Derived.Test.YtolkchkedieppaaGreatVPlainBt
import Derived.Test.YtolkchkedieppaaGreatVLivH
import Derived.Test.YtolkchkedieppaaGreatVPlainTz
import Derived.Test.YtolkchkedieppaaGreatVLawQ
set_option linter.unusedVariables false
set_option linter.unusedSimpArgs false
namespace Go.Proofs.YtolkchkedieppaaGreat
open Go.RowKit
attribute [local go_sem ↓] Go.wp_at_zero Go.wp_at_succ
theorem bit_of0 (s i : Nat) : (bits .and .i64 ((s : Int) / 2 ^ i) 1 == 0) = !s.testBit i := by
 have hdiv : (s : Int) / 2 ^ i = ((s / 2 ^ i : Nat) : Int) := by simp
 rw [i64_and1, hdiv, Nat.testBit_eq_decide_div_mod_eq]
 by_cases h : s / 2 ^ i % 2 = 1
 ·rw [decide_eq_true h]
  have : (((s / 2 ^ i : Nat) : Int) % 2) = 1 := by omega
  rw [this]; rfl
 ·rw [decide_eq_false h]
  have : (((s / 2 ^ i : Nat) : Int) % 2) = 0 := by omega
  rw [this]; rfl
/-- the labels of the nodes, in a row of the call's own -/
structure OfM (w wx : World) (g N : Nat) (f : Nat → Nat) : Prop where
 row : wx.rowIs g 3 N (ic (fun i => ((f i : Nat) : Int)))
 kb : Below w.heap.size w wx
 fr : w.heap.size ≤ g
section
variable {w wx : World} {g N : Nat} {f : Nat → Nat}
theorem OfM.set (h : OfM w wx g N f) (i x : Nat) : OfM w (wx.setCell ⟨g, i, none⟩ (.int .i64 (x : Nat))) g N (fun j => if j = i then x else f j) :=
 ⟨(h.row.set i _).congr (fun j _ => by simp only [ic]; split <;> rfl), h.kb.setCell (p := ⟨g, i, none⟩) h.fr _, h.fr⟩
theorem OfM.congr {f' : Nat → Nat} (h : OfM w wx g N f) (e : ∀ i, i < N → f i = f' i) : OfM w wx g N f' :=
 ⟨h.row.congr (fun i hi => by simp only [ic, e i hi]), h.kb, h.fr⟩
theorem OfM.drawn {wy : World} (h : OfM w wx g N f) (hd : Drawn wx wy) : OfM w wy g N f := ⟨h.row.of_block ((hd.below (g + 1)).block g (by omega)), h.kb.trans (hd.below _), h.fr⟩
theorem OfM.made {wr : World} (hb : Below w.heap.size w wr) : OfM w (wr.alloc (.cells (madeCells #[.int .i64 0] N) 3)) wr.heap.size N (fun _ => 0) :=
 ⟨World.rowIs_made wr (.int .i64 0) N 3, hb.alloc hb.size _, hb.size⟩
end
theorem lab_take {a b : Nat → Nat} {S : Nat → Bool} {k : Nat} {f : Nat → Nat} (hf : f = lab a b S k) (hs : S k = true) : lab a b S (k + 1) = mrg f (f (a k)) (f (b k)) := by
 show (if S k = true then mrg (lab a b S k) (lab a b S k (a k)) (lab a b S k (b k)) else lab a b S k) = _
 rw [if_pos hs, hf]
theorem lab_skip {a b : Nat → Nat} {S : Nat → Bool} {k : Nat} (hs : S k = false) : lab a b S (k + 1) = lab a b S k ∧ crd S (k + 1) = crd S k ∧ mcn a b S (k + 1) = mcn a b S k := by
 simp [lab, crd, mcn, hs]
theorem crd_take {S : Nat → Bool} {k : Nat} (hs : S k = true) : crd S (k + 1) = crd S k + 1 := by simp [crd, hs]
theorem mcn_take {a b : Nat → Nat} {S : Nat → Bool} {k : Nat} (hs : S k = true) : mcn a b S (k + 1) = mcn a b S k + (if lab a b S k (a k) ≠ lab a b S k (b k) then 1 else 0) := by simp [mcn, hs]
theorem cntM_succ (n m : Nat) (a b : Nat → Nat) (t : Nat) : cntM n m a b (t + 1) = cntM n m a b t + (if isT n m a b (fun k => t.testBit k) = true then 1 else 0) := rfl
set_option maxHeartbeats 8000000 in
set_option maxRecDepth 100000 in
theorem lawTrees (v : Value) (n0 : Nat) (g : Nat → Nat) (w : World) (hv : By8 w v n0 g) (hn0 : n0 ≤ 9223372036854775807) :
  Calls Tryz.prog 5 #[v] w fun e w' => e = .returned (.bool true) ∧ Below w.heap.size w w' := by
 have HMD := madeS_any v n0 9 g w hv hn0 (by omega) (by omega)
 rw [show ((9 : Nat) : Int) = 9 from rfl] at HMD
 obtain ⟨⟨xa, xb, xo, xc, rfl, hsx⟩, hgx⟩ := hv
 clear hsx hgx
 go_enter Tryz.func5, Tryz.ntmps5
 go_upto_region 2 with (first
  | (go_at_call 23; (with_reducible refine HMD.mono ?_); rintro e w1 ⟨ma, mk, L, W, H, rfl, MD⟩))
 have MK := Lib.hid MD.out.mkc
 have HO := Lib.hid (ows_of MD.out.own MD.out.mkc.pos)
 have KB := Lib.hid MD.out.kb
 have hL9 := MD.out.len
 have hL1 := MD.out.mkc.pos
 clear MD HMD
 obtain ⟨m, hN⟩ : ∃ m, m = L.length := ⟨_, rfl⟩
 rw [← hN] at hL9 hL1 ⊢
 have HLN := Lib.hid hN.symm
 rw [← hN] at HO
 clear hN
 have hw1 := MK.out.w1
 have hw2 := MK.out.wb
 have hh1 := MK.out.h1
 have hh2 := MK.out.hb
 go_upto_region 3 with (go_at_call 24; go_loud ((with_reducible refine (rmeas_mk _ L W H _ HO.out MK.out (by rw [HLN.out]; omega)).mono ?_); rintro e w2 ⟨rfl, hb⟩; have HO := Lib.hid (HO.out.below hb); have KB := Lib.hid (KB.out.trans (hb.mono KB.out.size)); clear hb))
 have KW := Lib.hid (Below.refl w2.heap.size w2)
 have HG0 : Hid (Nat.gcd W H = Nat.gcd W H) := Lib.hid rfl
 go_wp2
 go_loopw [6, 7] (fun v6 v7 wr => ∃ x y : Nat, x ≤ 1000 ∧ y ≤ 1000 ∧ v6 = .int .i64 (x : Nat) ∧ v7 = .int .i64 (y : Nat) ∧ Hid (Nat.gcd x y = Nat.gcd W H) ∧ Hid (Below w2.heap.size w2 wr)) (fun _ v7 _ => (intOf v7).toNat)
 case atStart => exact ⟨W, H, by omega, by omega, rfl, rfl, Lib.hid rfl, KW⟩
 case round =>
  clear KW HG0
  obtain ⟨x, y, hx, hy, rfl, rfl, HXY, KW⟩ := hrel
  by_cases h0 : y = 0
  ·subst h0
   have e1 : decide ((0 : Int) < ((0 : Nat) : Int)) = false := by simp
   by_cases h1 : 1 < x
   ·have e2 : decide ((1 : Int) < (x : Int)) = true := by simp; omega
    have e2n : decide (1 < x) = true := by simpa using h1
    go_wp2_with (go_at_call 18; go_loud ((with_reducible refine (livesH_true _).mono ?_); rintro e w3 ⟨rfl, hb⟩; have KB := Lib.hid ((KB.out.trans (KW.out.mono KB.out.size)).trans (hb.mono (Nat.le_trans KB.out.size KW.out.size))); clear hb))
    go_ret
    exact ⟨rfl, KB.out⟩
   ·have e2 : decide ((1 : Int) < (x : Int)) = false := by simp; omega
    have e2n : decide (1 < x) = false := by simpa using h1
    have HCO : Hid (Nat.gcd W H = 1) := Lib.hid (by
     have h2 := HXY.out
     rw [Nat.gcd_zero_right] at h2
     have h3 : 0 < Nat.gcd W H := Nat.gcd_pos_of_pos_left _ hw1
     omega)
    have HO := Lib.hid (HO.out.below KW.out)
    have KB := Lib.hid (KB.out.trans (KW.out.mono KB.out.size))
    generalize wr = wz at *
    clear wr HXY KW h1 hx hy
    go_upto_region 9 with (go_at_call 20; go_loud ((with_reducible refine (net_n _ L W H m _ HO.out MK.out HLN.out (by omega)).mono ?_); rintro e w3 ⟨gp, pk, S, J, hnp, hp, hs, hsl, rfl, hpr, hgp, hb⟩; have HNP := Lib.hid hnp; have HPR := Lib.hid hpr; have HGP := Lib.hid hgp; have HSL := Lib.hid hsl; have HO := Lib.hid (HO.out.below hb); have KB := Lib.hid (KB.out.trans (hb.mono KB.out.size)); clear hnp hp hs hsl hpr hgp hb))
    have HN2 := HNP.out.last.1
    have HN25 := HNP.out.many
    rw [HSL.out] at HN25
    have HTG : Hid (W ≤ cntM J.length m (wA (netW S J)) (wB (netW S J)) (2 ^ m)) := Lib.hid (by
     have := trees_ge HNP.out HCO.out
     rw [HSL.out] at this; exact this)
    have HOK := Lib.hid HNP.out.ok
    have hlw : (netW S J).length = m := by rw [netF_len]; exact HSL.out
    have HLW := Lib.hid hlw
    clear hlw
    obtain ⟨N, hN⟩ : ∃ N, N = J.length := ⟨_, rfl⟩
    rw [← hN] at HN2 HN25 HTG HOK ⊢
    clear hN
    have n1 : decide ((N : Int) < 2) = false := by simp; omega
    have n1n : decide (N < 2) = false := by simp; omega
    have n2 : decide ((25 : Int) < (N : Int)) = false := by simp; omega
    have n2n : decide (25 < N) = false := by simp; omega
    go_upto_region 11 with (go_at_call 18; go_loud ((with_reducible refine (livesH_true _).mono ?_); rintro e w4 ⟨rfl, hb⟩; have HPR := Lib.hid (HPR.out.below hb HGP.out); have HGP := Lib.hid (Nat.lt_of_lt_of_le HGP.out hb.size); have HO := Lib.hid (HO.out.below hb); have KB := Lib.hid (KB.out.trans (hb.mono KB.out.size)); clear hb))
    obtain ⟨a, ha⟩ : ∃ a, a = wA (netW S J) := ⟨_, rfl⟩
    obtain ⟨b, hb⟩ : ∃ b, b = wB (netW S J) := ⟨_, rfl⟩
    have WI : Hid (∀ wx, Below w4.heap.size w4 wx → ∀ i, i < m → wx.cell? ⟨gp, i * 2, none⟩ = some (.int .i64 (a i : Nat)) ∧ wx.cell? ⟨gp, i * 2 + 1, none⟩ = some (.int .i64 (b i : Nat)) ∧ a i < N ∧ b i < N) := Lib.hid (fun wx hx i hi => by
     have hi2 : i < (netW S J).length := by rw [HLW.out]; exact hi
     have P := HPR.out.below hx HGP.out
     have c0 := P.c0 i hi2
     have c1 := P.c1 i hi2
     rw [Nat.zero_add] at c0 c1
     have o1 := HOK.out.a hi2
     have o2 := HOK.out.b hi2
     rw [o1.1] at c0
     rw [o2.1] at c1
     rw [ha, hb]
     exact ⟨c0, c1, o1.2, o2.2⟩)
    rw [← ha, ← hb] at HTG
    have LSZ : Hid (∀ i, i < m → 1 ≤ (L.getD i default).c ∧ (L.getD i default).c ≤ (W : Int)) := Lib.hid (fun i hi => by
     have := MK.out.rg _ (getD_memT (i := i) (by rw [HLN.out]; exact hi))
     omega)
    obtain ⟨gl, cl, hlv, hl1, hl2, hl3, hl4⟩ := HO.out.ex
    rw [HLN.out] at hlv
    injection hlv with u1 u2 u3
    subst u1
    have LI : Hid (∀ wx, Below w4.heap.size w4 wx → ∀ i, i < m → wx.cell? ⟨gl, i * 3 + 2, none⟩ = some (.int .i64 (L.getD i default).c)) := Lib.hid (fun wx hx i hi => by
     have c2 := (hl4.below hx hl2).c2 i (by rw [HLN.out]; exact hi)
     rw [Nat.zero_add] at c2
     exact c2)
    have KX := Lib.hid (Below.refl w4.heap.size w4)
    have hp512 : 2 ^ m ≤ 512 := Nat.le_trans (Nat.pow_le_pow_right (n := 2) (by omega) hL9) (by decide)
    have hwp := wrap_pow m (Nat.le_trans hp512 (by decide))
    clear ha hb hl1 hl2 hl3 hl4 HPR HGP HNP HOK HLW HSL HO HCO MK u2 u3
    obtain ⟨P, hP⟩ : ∃ P, P = 2 ^ m := ⟨_, rfl⟩
    rw [← hP] at hwp hp512 HTG
    clear hP
    have hmk := run_make_row' (P := Tryz.prog) 22 3 (.int .i64 0) 8 Tryz.underlying22 infoF rfl .i64 .i64 N (by omega) (by omega)
    go_wp2
    go_loopw [11] (fun v11 wr => ∃ i : Nat, i ≤ m ∧ v11 = .int .i64 (i : Nat) ∧ Hid (Below w4.heap.size w4 wr)) (fun v11 _ => m - (intOf v11).toNat)
    case atStart => exact ⟨0, by omega, rfl, KX⟩
    case round =>
     clear KX
     obtain ⟨i, hi, rfl, KX⟩ := hrel
     by_cases h : i < m
     ·have e3 : decide ((i : Int) < (m : Int)) = true := by simpa using h
      have e3n : decide (i < m) = true := by simpa using h
      have ix := fun X => ixPr gp m pk i h X
      obtain ⟨c0, c1, l0, l1⟩ := WI.out _ KX.out i h
      obtain ⟨p, hp⟩ : ∃ p, p = a i := ⟨_, rfl⟩
      obtain ⟨q, hq⟩ : ∃ q, q = b i := ⟨_, rfl⟩
      rw [← hp] at c0 l0
      rw [← hq] at c1 l1
      have f1 : decide ((p : Int) < 0) = false := by simp
      have f2 : decide ((N : Int) ≤ (p : Int)) = false := by simp; omega
      have f2n : decide (N ≤ p) = false := by simp; omega
      have f3 : decide ((q : Int) < 0) = false := by simp
      have f4 : decide ((N : Int) ≤ (q : Int)) = false := by simp; omega
      have f4n : decide (N ≤ q) = false := by simp; omega
      clear hp hq hmk hwp
      go_wp2
      go_roundw
      case rel => exact ⟨i + 1, by omega, by go_num, KX⟩
      case measure => simp [intOf]; omega
     ·have e3 : decide ((i : Int) < (m : Int)) = false := by simpa using h
      have e3n : decide (i < m) = false := by simpa using h
      generalize wr = wy at *
      clear wr h hi
      go_wp2
      go_loopw [12, 13, 14, 15, 16, 17, 18, 19, 20] (fun v12 v13 v14 v15 v16 v17 v18 v19 v20 wr => ∃ t : Nat, t ≤ P ∧ v13 = .int .i64 (t : Nat) ∧ v12 = .int .i64 (cntM N m a b t : Nat) ∧ Hid (Below w4.heap.size w4 wr)) (fun _ v13 _ _ _ _ _ _ _ _ => P - (intOf v13).toNat)
      case atStart => exact ⟨0, by omega, rfl, rfl, KX⟩
      case round =>
       clear KX
       obtain ⟨t, ht, rfl, rfl, KX⟩ := hrel
       have hcl := cntM_le N m a b t
       by_cases h : t < P
       ·have e4 : decide ((t : Int) < (P : Int)) = true := by simpa using h
        have e4n : decide (t < P) = true := by simpa using h
        have OM : Hid (OfM w4 (wr.alloc (.cells (madeCells #[.int .i64 0] N) 3)) wr.heap.size N (fun i => if i < 0 then i else 0)) := Lib.hid ((OfM.made KX.out).congr (fun i _ => by simp))
        obtain ⟨T, hT⟩ : ∃ T, T = cntM N m a b t := ⟨_, rfl⟩
        have HST := Lib.hid (cntM_succ N m a b t)
        rw [← hT] at HST hcl ⊢
        clear hT
        obtain ⟨B, hB⟩ : ∃ B : Nat → Bool, B = fun k => t.testBit k := ⟨_, rfl⟩
        rw [← hB] at HST
        have HB : Hid (∀ k, t.testBit k = B k) := Lib.hid (fun k => by rw [hB])
        clear hB
        go_wp2
        obtain ⟨gB, hgB⟩ : ∃ gB, gB = wr.heap.size := ⟨_, rfl⟩
        rw [← hgB] at OM ⊢
        generalize (wr.alloc (.cells (madeCells #[.int .i64 0] N) 3)) = wk at OM ⊢
        clear hgB KX hmk
        go_loopw [16] (fun v16 wi => ∃ k : Nat, k ≤ N ∧ v16 = .int .i64 (k : Nat) ∧ Hid (OfM w4 wi gB N (fun i => if i < k then i else 0))) (fun v16 _ => N - (intOf v16).toNat)
        case atStart => exact ⟨0, by omega, rfl, OM⟩
        case round =>
         clear OM
         obtain ⟨k, hk, rfl, OM⟩ := hrel
         by_cases h5 : k < N
         ·have e5 : decide ((k : Int) < (N : Int)) = true := by simpa using h5
          have e5n : decide (k < N) = true := by simpa using h5
          have ix := fun W' => ixI (rowIs_sl OM.out.row) k N h5 W'
          have cc := OM.out.row.cell (i := k) h5
          have fc := OM.out.row.frozen k
          simp only [ic, Nat.zero_add, Nat.lt_irrefl, if_false] at ix cc
          have OM2 := Lib.hid ((OM.out.set k k).congr (f' := fun i => if i < k + 1 then i else 0) (fun i _ => by
           by_cases q : i = k
           ·rw [if_pos q, if_pos (by omega), q]
           ·rw [if_neg q]
            by_cases q2 : i < k
            ·rw [if_pos q2, if_pos (by omega)]
            ·rw [if_neg q2, if_neg (by omega)]))
          clear hwp
          go_wp2
          go_roundw
          case rel => exact ⟨k + 1, by omega, by go_num, OM2⟩
          case measure => simp [intOf]; omega
         ·have e5 : decide ((k : Int) < (N : Int)) = false := by simpa using h5
          have e5n : decide (k < N) = false := by simpa using h5
          have OM := Lib.hid (OM.out.congr (f' := lab a b B 0) (fun i hi => by rw [if_pos (by omega)]; rfl))
          generalize wr = wu at *
          clear wr h5 hk
          go_wp2
          go_loopw [15, 17, 18, 19, 20] (fun v15 v17 v18 v19 v20 wi => ∃ (i c : Nat) (f : Nat → Nat), i ≤ m ∧ c ≤ i ∧ v17 = .int .i64 (i : Nat) ∧ v15 = .int .i64 (c : Nat) ∧ Hid (c = crd B i) ∧ Hid (mcn a b B i = crd B i) ∧ Hid (f = lab a b B i) ∧ Hid (OfM w4 wi gB N f)) (fun _ v17 _ _ _ _ => m - (intOf v17).toNat)
          case atStart => exact ⟨0, 0, _, by omega, by omega, rfl, rfl, Lib.hid rfl, Lib.hid rfl, Lib.hid rfl, OM⟩
          case round =>
           clear OM
           obtain ⟨i, c, f, hi, hci, rfl, rfl, HC, HMC, HF, OM⟩ := hrel
           have ec : decide ((0 : Int) ≤ (c : Int)) = true := by simp
           by_cases h6 : i < m
           ·have e6 : decide ((i : Int) < (m : Int)) = true := by simpa using h6
            have e6n : decide (i < m) = true := by simpa using h6
            have hi64 : i < 64 := by omega
            have hbit := bit_of0 t i
            rw [HB.out i] at hbit
            rcases hbi : B i with _ | _
            ·rw [hbi] at hbit
             have HSK := Lib.hid (lab_skip (a := a) (b := b) hbi)
             clear hbi
             go_wp2
             go_roundw
             case rel => exact ⟨i + 1, c, f, by omega, by omega, by go_num, rfl, Lib.hid (by rw [HSK.out.2.1]; exact HC.out), Lib.hid (by rw [HSK.out.2.1, HSK.out.2.2]; exact HMC.out), Lib.hid (by rw [HSK.out.1]; exact HF.out), OM⟩
             case measure => simp [intOf]; omega
            ·rw [hbi] at hbit
             have HBI := Lib.hid hbi
             obtain ⟨c0, c1, l0, l1⟩ := WI.out _ OM.out.kb i h6
             have ix := fun X => ixPr gp m pk i h6 X
             obtain ⟨p, hp⟩ : ∃ p, p = a i := ⟨_, rfl⟩
             obtain ⟨q, hq⟩ : ∃ q, q = b i := ⟨_, rfl⟩
             have HPQ : Hid (a i = p ∧ b i = q) := Lib.hid ⟨hp.symm, hq.symm⟩
             rw [← hp] at c0 l0
             rw [← hq] at c1 l1
             clear hp hq
             have ixp := fun W' => ixI (rowIs_sl OM.out.row) p N l0 W'
             have cp := OM.out.row.cell (i := p) l0
             have ixq := fun W' => ixI (rowIs_sl OM.out.row) q N l1 W'
             have cq := OM.out.row.cell (i := q) l1
             simp only [ic, Nat.zero_add] at ixp cp ixq cq
             obtain ⟨x, hx⟩ : ∃ x, x = f p := ⟨_, rfl⟩
             obtain ⟨y, hy⟩ : ∃ y, y = f q := ⟨_, rfl⟩
             rw [← hx] at cp
             rw [← hy] at cq
             have HXY : Hid (f (a i) = x ∧ f (b i) = y) := Lib.hid (by rw [HPQ.out.1, HPQ.out.2]; exact ⟨hx.symm, hy.symm⟩)
             clear hx hy hbi
             have HMT := Lib.hid (mcn_take (a := a) (b := b) HBI.out)
             rw [← HF.out, HXY.out.1, HXY.out.2] at HMT
             by_cases hxy : x = y
             ·have e7 : ((x : Int) == (y : Int)) = true := by rw [hxy, beq_self_eq_true]
              have e7n : (x == y) = true := by rw [hxy, beq_self_eq_true]
              have HTF : Hid (isT N m a b B = false) := Lib.hid (isT_ring (k := i + 1) (by
               rw [HMT.out, if_neg (fun z => z hxy), crd_take HBI.out, HMC.out]; omega) (by omega))
              have e8 : ((-1 : Int) == (N : Int) - 1) = false := by rw [beq_eq_false_iff_ne]; omega
              clear hxy HMT HXY HPQ HB HF HMC HC
              go_wp2
              go_quiet (fail)
              go_wp2
              go_roundw
              case rel => exact ⟨t + 1, by omega, by go_num, by rw [HST.out, HTF.out]; rfl, Lib.hid (OM.out.kb.trans ((Drawn.of _ _).below _))⟩
              case measure => simp [intOf]; omega
             ·have e7 : ((x : Int) == (y : Int)) = false := by rw [beq_eq_false_iff_ne]; omega
              have e7n : (x == y) = false := by simpa using hxy
              have HMT2 : Hid (mcn a b B (i + 1) = crd B (i + 1)) := Lib.hid (by rw [HMT.out, if_pos hxy, crd_take HBI.out, HMC.out])
              have HCT : Hid (c + 1 = crd B (i + 1)) := Lib.hid (by rw [crd_take HBI.out, HC.out])
              have HLT : Hid (lab a b B (i + 1) = mrg f x y) := Lib.hid (by rw [lab_take HF.out HBI.out, HXY.out.1, HXY.out.2])
              have OM := Lib.hid (OM.out.congr (f' := fun k => if k < 0 ∧ f k = x then y else f k) (fun k _ => by rw [if_neg (by omega)]))
              clear hxy HMT HXY HPQ HB HF HMC HC HBI
              go_wp2
              go_quiet (fail)
              go_wp2

              go_loopw [20] (fun v20 wj => ∃ k : Nat, k ≤ N ∧ v20 = .int .i64 (k : Nat) ∧ Hid (OfM w4 wj gB N (fun j => if j < k ∧ f j = x then y else f j))) (fun v20 _ => N - (intOf v20).toNat)
              case atStart => exact ⟨0, by omega, rfl, Lib.hid (OM.out.drawn (Drawn.of _ _))⟩
              case round =>
               clear OM c0 c1 cp cq ix ixp ixq
               obtain ⟨k, hk, rfl, OM⟩ := hrel
               by_cases h8 : k < N
               ·have e8 : decide ((k : Int) < (N : Int)) = true := by simpa using h8
                have e8n : decide (k < N) = true := by simpa using h8
                have ix := fun W' => ixI (rowIs_sl OM.out.row) k N h8 W'
                have cc := OM.out.row.cell (i := k) h8
                have fc := OM.out.row.frozen k
                simp only [ic, Nat.zero_add, Nat.lt_irrefl, false_and, if_false] at ix cc
                obtain ⟨z, hz⟩ : ∃ z, z = f k := ⟨_, rfl⟩
                rw [← hz] at cc
                by_cases hzx : z = x
                ·have e9 : ((z : Int) == (x : Int)) = true := by rw [hzx, beq_self_eq_true]
                 have e9n : (z == x) = true := by rw [hzx, beq_self_eq_true]
                 have OM2 := Lib.hid ((OM.out.set k y).congr (f' := fun j => if j < k + 1 ∧ f j = x then y else f j) (fun j _ => by
                  by_cases q : j = k
                  ·rw [if_pos q, if_pos ⟨by omega, by rw [q, ← hz]; exact hzx⟩]
                  ·rw [if_neg q]
                   by_cases q2 : j < k ∧ f j = x
                   ·rw [if_pos q2, if_pos ⟨by omega, q2.2⟩]
                   ·rw [if_neg q2, if_neg (fun r => q2 ⟨by omega, r.2⟩)]))
                 clear hz hzx
                 go_wp2
                 go_roundw
                 case rel => exact ⟨k + 1, by omega, by go_num, OM2⟩
                 case measure => simp [intOf]; omega
                ·have e9 : ((z : Int) == (x : Int)) = false := by rw [beq_eq_false_iff_ne]; omega
                 have e9n : (z == x) = false := by simpa using hzx
                 have OM2 := Lib.hid (OM.out.congr (f' := fun j => if j < k + 1 ∧ f j = x then y else f j) (fun j _ => by
                  by_cases q2 : j < k ∧ f j = x
                  ·rw [if_pos q2, if_pos ⟨by omega, q2.2⟩]
                  ·rw [if_neg q2, if_neg (fun r => by
                    by_cases q : j = k
                    ·rw [q, ← hz] at r; exact hzx r.2
                    ·exact q2 ⟨by omega, r.2⟩)]))
                 clear hz hzx
                 go_wp2
                 go_roundw
                 case rel => exact ⟨k + 1, by omega, by go_num, OM2⟩
                 case measure => simp [intOf]; omega
               ·have e8 : decide ((k : Int) < (N : Int)) = false := by simpa using h8
                have e8n : decide (k < N) = false := by simpa using h8
                have OM2 := Lib.hid (OM.out.congr (f' := lab a b B (i + 1)) (fun j hj => by
                 rw [HLT.out]
                 unfold mrg
                 by_cases q : f j = x
                 ·rw [if_pos ⟨by omega, q⟩, if_pos q]
                 ·rw [if_neg (fun r => q r.2), if_neg q]))
                clear h8 hk HLT
                go_wp2
                go_roundw
                case rel => exact ⟨i + 1, c + 1, _, by omega, by omega, by go_num, by go_num, HCT, HMT2, Lib.hid rfl, OM2⟩
                case measure => simp [intOf]; omega
           ·have him : i = m := by omega
            subst him
            have e6 : decide ((i : Int) < (i : Int)) = false := by simp
            have HTI : Hid (isT N i a b B = decide (c = N - 1)) := Lib.hid (by rw [isT_no HMC.out, ← HC.out])
            have KX := Lib.hid OM.out.kb
            clear HB HF HMC HC h6 hi OM
            by_cases hcn : c = N - 1
            ·have e7 : ((c : Int) == (N : Int) - 1) = true := by rw [beq_iff_eq]; omega
             have HST2 : Hid (cntM N i a b (t + 1) = T + 1) := Lib.hid (by rw [HST.out, HTI.out, decide_eq_true hcn]; rfl)
             clear hcn HST HTI
             go_wp2
             go_roundw
             case rel => exact ⟨t + 1, by omega, by go_num, by rw [HST2.out]; go_num, KX⟩
             case measure => simp [intOf]; omega
            ·have e7 : ((c : Int) == (N : Int) - 1) = false := by rw [beq_eq_false_iff_ne]; omega
             have HST2 : Hid (cntM N i a b (t + 1) = T) := Lib.hid (by rw [HST.out, HTI.out, decide_eq_false hcn]; rfl)
             clear hcn HST HTI
             go_wp2
             go_roundw
             case rel => exact ⟨t + 1, by omega, by go_num, by rw [HST2.out], KX⟩
             case measure => simp [intOf]; omega
       ·have htP : t = P := by omega
        subst htP
        have e4 : decide ((t : Int) < (t : Int)) = false := by simp
        obtain ⟨T, hT⟩ : ∃ T, T = cntM N m a b t := ⟨_, rfl⟩
        rw [← hT] at HTG hcl ⊢
        have htg := HTG.out
        clear hT HTG
        have KY := KX
        clear KX hmk
        go_wp2
        go_loopw [21] (fun v21 wi => ∃ i : Nat, i ≤ m ∧ v21 = .int .i64 (i : Nat) ∧ Hid (Below w4.heap.size w4 wi)) (fun v21 _ => m - (intOf v21).toNat)
        case atStart => exact ⟨0, by omega, rfl, KY⟩
        case round =>
         clear KY
         obtain ⟨i, hi, rfl, KY⟩ := hrel
         by_cases h7 : i < m
         ·have e5 : decide ((i : Int) < (m : Int)) = true := by simpa using h7
          have e5n : decide (i < m) = true := by simpa using h7
          have cs := LI.out _ KY.out i h7
          have ls := LSZ.out i h7
          have ix : ∀ X, (Instr.indexAt 23 (.slice (some ⟨gl, 0, none⟩) m mk) (.int .i64 (i : Int))).run Tryz.prog X = .ok (.pointer (some ⟨gl, i * 3, none⟩)) X := fun X => by
           have := ixSqo gl 0 m mk i h7 X
           rw [Nat.zero_add] at this
           exact this
          obtain ⟨z, hz⟩ : ∃ z, z = (L.getD i default).c := ⟨_, rfl⟩
          rw [← hz] at cs ls
          have e6 : decide ((T : Int) < z) = false := by simp; omega
          clear hz
          go_wp2
          go_roundw
          case rel => exact ⟨i + 1, by omega, by go_num, KY⟩
          case measure => simp [intOf]; omega
         ·have e5 : decide ((i : Int) < (m : Int)) = false := by simpa using h7
          have e5n : decide (i < m) = false := by simpa using h7
          go_wp2
          go_ret
          exact ⟨rfl, KB.out.trans (KY.out.mono KB.out.size)⟩
  ·have e1 : decide ((0 : Int) < (y : Int)) = true := by simp; omega
   have e1n : decide (0 < y) = true := by simp; omega
   have e2 : ((y : Int) == 0) = false := by rw [beq_eq_false_iff_ne]; omega
   have e2n : (y == 0) = false := by rw [beq_eq_false_iff_ne]; exact h0
   obtain ⟨z, hz⟩ : ∃ z, z = x % y := ⟨_, rfl⟩
   have hzy : z < y := by rw [hz]; exact Nat.mod_lt _ (by omega)
   have t1 : Int.tmod (x : Int) (y : Int) = (z : Int) := by rw [hz]; rfl
   have t2 : (x : Int) % (y : Int) = (z : Int) := by rw [hz]; rfl
   have w3 : IntKind.i64.wrap (z : Int) = (z : Int) := by rw [IntKind.wrap_i64]; omega
   have hne : ¬ (y : Int) = 0 := by omega
   have HX : Hid (Nat.gcd y z = Nat.gcd W H) := Lib.hid (by rw [← HXY.out, hz, Nat.gcd_comm y (x % y), ← Nat.gcd_rec, Nat.gcd_comm])
   clear hz
   go_wp2
   go_quiet (fail)
   go_wp2
   go_roundw
   case rel => exact ⟨y, z, by omega, by omega, rfl, rfl, HX, Lib.hid (KW.out.trans ((Drawn.of _ _).below _))⟩
   case measure => simp [intOf]; omega
end Go.Proofs.YtolkchkedieppaaGreat
