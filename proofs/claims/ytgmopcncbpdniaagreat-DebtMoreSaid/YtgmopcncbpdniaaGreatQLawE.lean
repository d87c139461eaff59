/- The law DebtMore: its walk. -/
import Derived.Test.YtgmopcncbpdniaaGreatQArcs
import Derived.Test.YtgmopcncbpdniaaGreatQSame
import Derived.Test.YtgmopcncbpdniaaGreatQLives
import Derived.Deep.DeepCutAuto
import Derived.Deep.CutBlock
set_option linter.unusedVariables false
set_option linter.unusedSimpArgs false
namespace Go.Proofs.YtgmopcncbpdniaaGreat
open Go.RowKit

theorem zq_s : Tryz.prog.underlying 32 = some (.slice (Tryz.prog.elem 32)) := by kernel_rfl
theorem zq_z (W : World) : (sizeOf (Tryz.prog.elem 32)).run Tryz.prog W = .ok 4 W := by kernel_rfl
theorem ixZQ (b n c i : Nat) (hi : i < n) (W : World) :
    (Instr.indexAt 32 (.slice (some ⟨b, 0, none⟩) n c) (.int .i64 (i : Int))).run Tryz.prog W = .ok (.pointer (some ⟨b, i * 4, none⟩)) W := by
  rw [run_indexAt_slice W _ _ _ _ _ _ zq_s, if_pos ⟨by omega, by omega⟩, zq_z]
  simp only [Result.andThen, Int.toNat_natCast]
  congr 3
  unfold Addr.add
  split
  · rename_i h; simp [show i = 0 by omega]
  · simp

set_option maxHeartbeats 4000000 in
set_option maxRecDepth 100000 in
theorem lawMore (a0 a1 a2 lx ly : Nat) (vx vy : Value) (fx fy : Nat → Nat) (w : World) (h0 : a0 < 256) (h1 : a1 < 256) (h2 : a2 < 256) (hx : U16s w vx lx fx) (hy : U16s w vy ly fy) (hlx : lx ≤ 9223372036854775807) (hly : ly ≤ 9223372036854775807) :
    Calls Tryz.prog 3 #[.agg #[.int .u8 (a0 : Nat), .int .u8 (a1 : Nat), .int .u8 (a2 : Nat)], vx, vy] w fun e w' => e = .returned (.bool true) ∧ Below w.heap.size w w' := by
  have KW := Lib.hid (boxes1 w (.cells #[.int .u8 (a0 : Nat), .int .u8 (a1 : Nat), .int .u8 (a2 : Nat)] 22))
  have HX : Hid (U16s (w.alloc (.cells #[.int .u8 (a0 : Nat), .int .u8 (a1 : Nat), .int .u8 (a2 : Nat)] 22)) vx lx fx) := Lib.hid ⟨Sl.mono hx.1 KW.out (Nat.le_refl _), hx.2⟩
  have HY : Hid (U16s (w.alloc (.cells #[.int .u8 (a0 : Nat), .int .u8 (a1 : Nat), .int .u8 (a2 : Nat)] 22)) vy ly fy) := Lib.hid ⟨Sl.mono hy.1 KW.out (Nat.le_refl _), hy.2⟩
  clear hx hy
  obtain ⟨i0, hinf, hz0, hz1, hz2⟩ := info_parts infoI
  go_enter Tryz.func3, Tryz.ntmps3
  go_wp2_with fail
  refine (lmade_any a0 lx ly vx vy fx fy _ h0 HX.out HY.out hlx hly).mono ?_
  rintro e w1 ⟨va, vk, vb, vl, rfl, hc1, hm1, hb1⟩
  have hDB := debtM_debts (a0 % 8 + 1) ly fy (by omega) (by omega)
  have b1 : (w.alloc (.cells #[.int .u8 (a0 : Nat), .int .u8 (a1 : Nat), .int .u8 (a2 : Nat)] 22)).heap.size = w.heap.size + 1 := by simp
  have X1 : Hid (∀ w', Below w1.heap.size w1 w' → w'.cell? ⟨w.heap.size, 1, none⟩ = some (.int .u8 (a1 : Nat)) ∧ w'.cell? ⟨w.heap.size, 2, none⟩ = some (.int .u8 (a2 : Nat))) := Lib.hid (fun w' hb => by
    have h3 := hb1.size
    refine ⟨?_, ?_⟩
    · rw [hb.cell (p := ⟨w.heap.size, 1, none⟩) (by rw [b1] at h3; show w.heap.size < w1.heap.size; omega), hb1.cell (p := ⟨w.heap.size, 1, none⟩) (by rw [b1]; show w.heap.size < w.heap.size + 1; omega)]; simp [go_sem]
    · rw [hb.cell (p := ⟨w.heap.size, 2, none⟩) (by rw [b1] at h3; show w.heap.size < w1.heap.size; omega), hb1.cell (p := ⟨w.heap.size, 2, none⟩) (by rw [b1]; show w.heap.size < w.heap.size + 1; omega)]; simp [go_sem])
  have KW := Lib.hid (KW.out.trans (hb1.mono KW.out.size))
  obtain ⟨n, hn⟩ : ∃ n, n = a0 % 8 + 1 := ⟨_, rfl⟩
  rw [← hn] at hc1 hm1 hDB ⊢
  have hn1 : 1 ≤ n := by omega
  have hn8 : n ≤ 8 := by omega
  have HDN : Hid (∀ i j, 0 ≤ debtM n ly fy i j) := Lib.hid (fun i j => (debtM_range n ly fy i j).1)
  have HCR : Hid (∀ i, 0 ≤ cashM lx fx i ∧ cashM lx fx i ≤ 1000) := Lib.hid (fun i => cashM_range lx fx i)
  clear HX HY hb1 b1 hn hlx hly h0
  generalize debtM n ly fy = d at hm1 hDB HDN ⊢
  generalize cashM lx fx = c at hc1 HCR ⊢
  have HC := Lib.hid hc1
  have HD := Lib.hid hm1
  have HDB := Lib.hid hDB
  obtain ⟨ca, cb, co, cc, hce, hcs⟩ := hc1
  injection hce with e1 e2 e3
  subst e1 e3
  obtain rfl := hcs.at_ (by omega)
  have HCS := Lib.hid hcs
  have OW0 := Lib.hid (World.ownsRow_made (e := 3) (base := w1.heap.size) (size := 1) w1 #[] 0 (Nat.le_refl _) (by unfold maxLen; omega) rfl)
  have HNW := Lib.hid (news_of (hcs.alloc (.cells #[] 3)) n (Nat.le_refl n))
  have HONE := Lib.hid (ics_one c n)
  have HLEN := Lib.hid (show (ics c n).length = n * 1 by rw [ics_length]; omega)
  obtain ⟨i, hi⟩ : ∃ i, i = a1 % n := ⟨_, rfl⟩
  have hin : i < n := by rw [hi]; exact Nat.mod_lt _ hn1
  have m1 : ((a1 : Nat) : Int) % (n : Int) = (i : Int) := by rw [hi]; rfl
  have m1t : ((a1 : Nat) : Int).tmod (n : Int) = (i : Int) := by rw [hi]; rfl
  have wa : IntKind.i64.wrap (i : Int) = (i : Int) := by rw [IntKind.wrap_i64]; omega
  have wz1 : IntKind.i64.wrap ((a1 : Nat) : Int) = ((a1 : Nat) : Int) := by rw [IntKind.wrap_i64]; omega
  have wz2 : IntKind.i64.wrap ((a2 : Nat) : Int) = ((a2 : Nat) : Int) := by rw [IntKind.wrap_i64]; omega
  have q0 : ¬ (n : Int) = 0 := by omega
  have q0b : ((n : Int) == 0) = false := by simp; omega
  have hq0 : ¬ n = 0 := by omega
  have g0 : (0 : Int) ≤ (i : Int) := Int.natCast_nonneg i
  have g1 : (i : Int) < (n : Int) := by omega
  have hci := HCR.out i
  have wpy : IntKind.i64.wrap (c i + ((a2 : Nat) : Int)) = c i + ((a2 : Nat) : Int) := by rw [IntKind.wrap_i64]; omega
  obtain ⟨y, hy⟩ : ∃ y : Int, y = min 1000 (c i + ((a2 : Nat) : Int)) := ⟨_, rfl⟩
  have hmin : min 1000 (c i + ((a2 : Nat) : Int)) = y := hy.symm
  have HYR : Hid (0 ≤ y ∧ y ≤ 1000 ∧ c i ≤ y) := Lib.hid (by omega)
  clear hcs hm1 hDB hi hy hci
  go_upto_region 4 with (first
    | (at_builtin; refine wpList_append_own _ rfl (.tmp 28) (.tmp 29) 24 rfl w1.heap.size 3 i0 (.int .i64 0) 1 8 Tryz.underlying24 hinf hz0 hz1 hz2 rfl (by decide) (.slice (some ⟨w1.heap.size, 0, none⟩) 0 0) 0 [] rfl OW0.out ⟨cb, co, none⟩ n vk (ics c n) rfl HLEN.out HNW.out HONE.out (by unfold maxLen; omega) (by omega) (by simp) ?_; intro v' w9 hown hgrow _; rw [Nat.zero_add, List.nil_append] at hown; obtain ⟨M, vk6, rfl, _, hMl⟩ := hown.form hn1; have OW := Lib.hid hown; have HB2 := Lib.hid (((Below.refl w1.heap.size w1).alloc (Nat.le_refl _) (.cells #[] 3)).grown hgrow (by simp) (fun kk e => by cases e; exact Nat.le_refl _)); have x1 := (X1.out _ HB2.out).1; have x2 := (X1.out _ HB2.out).2; clear hown hgrow hMl))
  have mx := fun W => ixI (rowIs_own OW.out hn1) i vk6 hin W
  have mc := OW.out.cellAt i (by omega)
  rw [ics_get _ _ _ hin] at mc
  have mf := OW.out.frozenAt i
  simp only [Nat.zero_add, ic] at mx mc
  have OW2 := Lib.hid (own_ints_set OW.out i y)
  have HB3 := Lib.hid (HB2.out.setCell (p := ⟨M, i, none⟩) ((OW.out.lt M rfl).1) (.int .i64 y))
  go_region
  have KA : Hid (Below w1.heap.size w1 (w9.setCell ⟨M, i, none⟩ (.int .i64 y)).drew) := Lib.hid HB3.out.drew
  have HMO : Hid (Ints (w9.setCell ⟨M, i, none⟩ (.int .i64 y)).drew (.slice (some ⟨M, 0, none⟩) n vk6) n (setN c i y)) := Lib.hid ((ints_of_own OW2.out).drawn (Drawn.of _ 1))
  clear HB3 OW2 OW HB2 mx mc mf x1 x2 OW0 HNW HONE HLEN m1 m1t wa wz1 wz2 q0 q0b hq0 g0 g1 wpy hmin X1 HCS
  generalize (w9.setCell ⟨M, i, none⟩ (.int .i64 y)).drew = wq at *
  have HC := Lib.hid (HC.out.mono KA.out (Nat.le_refl _))
  have HD := Lib.hid (HD.out.mono KA.out (Nat.le_refl _))
  have KW := Lib.hid (KW.out.trans (KA.out.mono KW.out.size))
  have HCS : Hid (∀ j, j < n → 0 ≤ setN c i y j ∧ setN c i y j ≤ 1000) := Lib.hid (fun j _ => by
    unfold setN
    split
    · exact ⟨HYR.out.1, HYR.out.2.1⟩
    · exact HCR.out j)
  have HCL : Hid (∀ j, j < n → c j ≤ setN c i y j) := Lib.hid (fun j _ => by
    unfold setN
    split
    · rename_i e; rw [e]; exact HYR.out.2.2
    · exact Int.le_refl _)
  clear KA hin HYR
  go_wp2_with fail
  refine (clear_law _ _ n c (fun _ => n) d _ HC.out HD.out HDB.out (fun j _ => HCR.out j) HDN.out).mono ?_
  rintro e w2 ⟨pa, pk, ss, F, p, rfl, TQ, PY, ST, hb2⟩
  have HD := Lib.hid (HD.out.mono hb2.out (Nat.le_refl _))
  have HMO := Lib.hid (HMO.out.mono hb2.out (Nat.le_refl _))
  have KW := Lib.hid (KW.out.trans (hb2.out.mono KW.out.size))
  clear hb2 HC
  go_wp2_with fail
  refine (clear_law _ _ n (setN c i y) (fun _ => n) d _ HMO.out HD.out HDB.out HCS.out HDN.out).mono ?_
  rintro e w3 ⟨qa, qk, ss2, F2, p2, rfl, TQ2, PY2, ST2, hb3⟩
  have ST := Lib.hid (ST.out.mono hb3.out (Nat.le_refl _))
  have KW := Lib.hid (KW.out.trans (hb3.out.mono KW.out.size))
  have HLE : Hid (∀ j, j < n → p j ≤ p2 j) := Lib.hid (pays_more (rng_of HDB.out HCS.out HDN.out) HDN.out PY.out PY2.out HCL.out)
  clear hb3 HD HMO PY PY2 HCL HCS HCR HDN HDB
  go_wp2_with fail
  refine (lnums_any _ n p ss _ ST.out hn1 (by omega) TQ.out).mono ?_
  rintro e w4 ⟨ra, rk, rfl, QA, hb4⟩
  have ST2 := Lib.hid (ST2.out.mono hb4.out (Nat.le_refl _))
  have KW := Lib.hid (KW.out.trans (hb4.out.mono KW.out.size))
  clear hb4 ST TQ
  go_wp2_with fail
  refine (lnums_any _ n p2 ss2 _ ST2.out hn1 (by omega) TQ2.out).mono ?_
  rintro e w5 ⟨ta, tk, rfl, QB, hb5⟩
  have QA := Lib.hid (QA.out.mono hb5.out (Nat.le_refl _))
  have KW := Lib.hid (KW.out.trans (hb5.out.mono KW.out.size))
  clear hb5 ST2 TQ2
  go_wp2_with fail
  refine (lives_true _).mono ?_
  rintro e w6 ⟨rfl, hb6⟩
  have QA := Lib.hid (QA.out.mono hb6 (Nat.le_refl _))
  have QB := Lib.hid (QB.out.mono hb6 (Nat.le_refl _))
  have KW := Lib.hid (KW.out.trans (hb6.mono KW.out.size))
  clear hb6
  obtain ⟨ga, ka, hea, -, gla, QAV⟩ := QA.out.val
  obtain ⟨gb, kb, heb, -, glb, QBV⟩ := QB.out.val
  injection hea with e1 e2 e3
  subst e1 e3
  injection heb with e1 e2 e3
  subst e1 e3
  have QAV := Lib.hid QAV
  have QBV := Lib.hid QBV
  clear QA QB
  have VL0 := Lib.hid (Below.refl w6.heap.size w6)
  go_wp2_with fail
  go_loopw [19] (fun v19 wr => ∃ k : Nat, k ≤ n ∧ v19 = .int .i64 (k : Nat) ∧ Hid (Below w6.heap.size w6 wr)) (fun v19 _ => n - (intOf v19).toNat)
  case atStart => exact ⟨0, by omega, rfl, VL0⟩
  case round =>
    clear VL0
    obtain ⟨k, hk, rfl, VL⟩ := hrel
    by_cases h : k < n
    · obtain ⟨s1, b1, m1, c1, t1, d1, l1, e1, xa0, xa1, xa2, xa3, QA1⟩ := QAV.out k h
      obtain ⟨s2, b2, m2, c2, t2, d2, l2, e2, xb0, xb1, xb2, xb3, QB1⟩ := QBV.out k h
      have QA1 := Lib.hid QA1
      have QB1 := Lib.hid QB1
      have hka : ∀ w', Below w6.heap.size w6 w' → ∀ o, w'.cell? ⟨ga, o, none⟩ = w6.cell? ⟨ga, o, none⟩ := fun w' hb o => hb.cell (p := ⟨ga, o, none⟩) gla
      have hkb : ∀ w', Below w6.heap.size w6 w' → ∀ o, w'.cell? ⟨gb, o, none⟩ = w6.cell? ⟨gb, o, none⟩ := fun w' hb o => hb.cell (p := ⟨gb, o, none⟩) glb
      have keepR : Hid (∀ w', Below w6.heap.size w6 w' → w'.cell? ⟨ga, k * 4, none⟩ = some (.bool s1) ∧ w'.cell? ⟨ga, k * 4 + 1, none⟩ = some (.slice b1 m1 c1) ∧ w'.cell? ⟨ga, k * 4 + 2, none⟩ = some (.bool t1) ∧ w'.cell? ⟨ga, k * 4 + 3, none⟩ = some (.slice d1 l1 e1) ∧
          w'.cell? ⟨gb, k * 4, none⟩ = some (.bool s2) ∧ w'.cell? ⟨gb, k * 4 + 1, none⟩ = some (.slice b2 m2 c2) ∧ w'.cell? ⟨gb, k * 4 + 2, none⟩ = some (.bool t2) ∧ w'.cell? ⟨gb, k * 4 + 3, none⟩ = some (.slice d2 l2 e2)) :=
        Lib.hid (fun w' hb => ⟨(hka w' hb _).trans xa0, (hka w' hb _).trans xa1, (hka w' hb _).trans xa2, (hka w' hb _).trans xa3, (hkb w' hb _).trans xb0, (hkb w' hb _).trans xb1, (hkb w' hb _).trans xb2, (hkb w' hb _).trans xb3⟩)
      have ixa := fun W => ixZQ ga n rk k h W
      have ixb := fun W => ixZQ gb n tk k h W
      have HS : Hid (decide (0 < sgZ (qN p k * qD p2 k - qN p2 k * qD p k)) = false) := Lib.hid (sgZ_le (HLE.out k h))
      clear hka hkb xa0 xa1 xa2 xa3 xb0 xb1 xb2 xb3
      go_wp2
      have VL0 := VL
      have VL := Lib.hid VL.out.drew
      go_region_held3 (fun w' => w'.cell? ⟨ga, k * 4, none⟩ = some (.bool s1) ∧ w'.cell? ⟨ga, k * 4 + 1, none⟩ = some (.slice b1 m1 c1) ∧ w'.cell? ⟨ga, k * 4 + 2, none⟩ = some (.bool t1) ∧ w'.cell? ⟨ga, k * 4 + 3, none⟩ = some (.slice d1 l1 e1) ∧
          w'.cell? ⟨gb, k * 4, none⟩ = some (.bool s2) ∧ w'.cell? ⟨gb, k * 4 + 1, none⟩ = some (.slice b2 m2 c2) ∧ w'.cell? ⟨gb, k * 4 + 2, none⟩ = some (.bool t2) ∧ w'.cell? ⟨gb, k * 4 + 3, none⟩ = some (.slice d2 l2 e2))
        (first | (with_reducible exact keepR.out _ VL0.out) | (with_reducible exact keepR.out _ VL.out))
        (first
        | (go_at_call 14; (with_reducible refine (qcmp_any _ _ _ _ _ _ 1000 _ (QA1.out.mono VL.out (Nat.le_refl _)) (QB1.out.mono VL.out (Nat.le_refl _)) (by omega)).mono ?_); rintro e wc ⟨rfl, hbc⟩; have VL := Lib.hid (VL.out.trans (hbc.mono VL.out.size))))
      have hs := of_decide_eq_false HS.out
      go_wp2
      go_roundw
      case rel => exact ⟨k + 1, by omega, by go_num, VL⟩
      case measure => simp [intOf]; omega
    · obtain rfl : n = k := by omega
      go_wp2
      go_ret
      exact ⟨rfl, KW.out.trans (VL.out.mono KW.out.size)⟩

end Go.Proofs.YtgmopcncbpdniaaGreat
