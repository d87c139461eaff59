/- Fewest of package hide: the closure that lays on. (Printed by gen_fwa.py.) -/
import Derived.Test.YtolkchkedieppaaGreatVOwnI
import Derived.Test.YtolkchkedieppaaGreatVLayB
import Derived.Test.YtolkchkedieppaaGreatVSqA
import Derived.Test.YtolkchkedieppaaGreatVNetB
import Derived.Test.YtolkchkedieppaaGreatVPlainCv
import Derived.Test.YtolkchkedieppaaGreatVRCm
import Derived.BigQuiet
import Derived.Deep.RegionHeld3
set_option linter.unusedVariables false
set_option linter.unusedSimpArgs false
namespace Go.Proofs.YtolkchkedieppaaGreat
open Go.RowKit
attribute [local go_sem ↓] Go.wp_at_zero Go.wp_at_succ
theorem grown_of {w w' : World} {g : Nat} (h : Below w.heap.size w w') : w.grownBy w' (some g) := ⟨h.os, h.tape, h.output, h.size, fun k hk _ => h.block k hk⟩
/-- the closure's captured variables, and the floor -/
structure FwM (w : World) (W : Nat) (H : Int) (g fb hb lb : Nat) (F : Nat → Int) : Prop where
 f : w.cell? ⟨fb, 0, none⟩ = some (.slice (some ⟨g, 0, none⟩) W W)
 h : w.cell? ⟨hb, 0, none⟩ = some (.int .i64 H)
 l : w.cell? ⟨lb, 0, none⟩ = some (.func (.func 94) #[] #[.pointer (some ⟨fb, 0, none⟩), .pointer (some ⟨hb, 0, none⟩), .pointer (some ⟨lb, 0, none⟩)])
 row : w.rowIs g 3 W (ic F)
 lf : fb < w.heap.size
 lh : hb < w.heap.size
 ll : lb < w.heap.size
 nf : fb ≠ g
 nh : hb ≠ g
 nl : lb ≠ g
theorem FwM.below {w w' : World} {W : Nat} {H : Int} {g fb hb lb : Nat} {F : Nat → Int} (h : FwM w W H g fb hb lb F) (k : Below w.heap.size w w') : FwM w' W H g fb hb lb F :=
 ⟨(k.cell (p := ⟨fb, 0, none⟩) h.lf).trans h.f, (k.cell (p := ⟨hb, 0, none⟩) h.lh).trans h.h, (k.cell (p := ⟨lb, 0, none⟩) h.ll).trans h.l, rowIs_below h.row k h.row.lt,
  Nat.lt_of_lt_of_le h.lf k.size, Nat.lt_of_lt_of_le h.lh k.size, Nat.lt_of_lt_of_le h.ll k.size, h.nf, h.nh, h.nl⟩
theorem FwM.grown {w w' : World} {W : Nat} {H : Int} {g fb hb lb : Nat} {F F' : Nat → Int} (h : FwM w W H g fb hb lb F) (k : w.grownBy w' (some g)) (hr : w'.rowIs g 3 W (ic F')) : FwM w' W H g fb hb lb F' :=
 ⟨(World.cell?_of_block (a := ⟨fb, 0, none⟩) (k.block fb h.lf (fun e => h.nf (Option.some.inj e)))).trans h.f, (World.cell?_of_block (a := ⟨hb, 0, none⟩) (k.block hb h.lh (fun e => h.nh (Option.some.inj e)))).trans h.h, (World.cell?_of_block (a := ⟨lb, 0, none⟩) (k.block lb h.ll (fun e => h.nl (Option.some.inj e)))).trans h.l, hr,
  Nat.lt_of_lt_of_le h.lf k.size, Nat.lt_of_lt_of_le h.lh k.size, Nat.lt_of_lt_of_le h.ll k.size, h.nf, h.nh, h.nl⟩
theorem raise_back (F : Nat → Int) (p s : Nat) : ∀ i, raiseF (raiseF F p (p + s) (s : Int)) p (p + s) (-(s : Int)) i = F i := fun i => by
 unfold raiseF
 by_cases e : p ≤ i ∧ i < p + s
 ·rw [if_pos e, if_pos e]; omega
 ·rw [if_neg e, if_neg e]
theorem CodeV.shape {w : World} {g : Nat} {v : Value} {C : List Nat} (h : CodeV w g v C) (h0 : C ≠ []) : ∃ b c, v = .slice (some ⟨b, 0, none⟩) C.length c := by
 rcases h.sh with ⟨e, _⟩ | ⟨_, b, c, e, _⟩
 ·exact absurd e h0
 ·exact ⟨b, c, e⟩
/-- what the closure answers -/
structure FwR (w w' : World) (W : Nat) (H : Int) (g fb hb lb : Nat) (F : Nat → Int) (C : List Nat) (left : Nat) (v : Value) : Prop where
 m : FwM w' W H g fb hb lb F
 k : w.grownBy w' (some g)
 r : (v = .slice none 0 0 ∧ NoS W H F left) ∨ (∃ l, BestS W H F left l ∧ C ++ l ≠ [] ∧ CodeV w' g v (C ++ l))
set_option maxHeartbeats 8000000 in
set_option maxRecDepth 100000 in
theorem flay_any (W : Nat) (H : Int) (g fb hb lb : Nat) (hW : 1 ≤ W) (hW2 : W ≤ 1000) (hH : 0 ≤ H ∧ H ≤ 1000) : ∀ (left : Nat) (F : Nat → Int) (C : List Nat) (vc : Value) (w : World), FwM w W H g fb hb lb F → FlR W H F → CodeV w g vc C → C.length + left ≤ 900 → NoLess W H F left → (C ≠ [] ∨ F (loP W F) ≠ H) →
  Calls Tryz.prog 94 #[vc, .int .i64 (left : Nat), .pointer (some ⟨fb, 0, none⟩), .pointer (some ⟨hb, 0, none⟩), .pointer (some ⟨lb, 0, none⟩)] w fun e w' => ∃ v', e = .returned v' ∧ FwR w w' W H g fb hb lb F C left v' := fun left => by
 obtain ⟨i0, hinf, hz0, hz1, hz2⟩ := info_parts infoI
 have hnil : ∀ (W : World) (x : Option Addr) (n c : Nat), (binOp .neq 22 (.slice x n c) (.slice none 0 0)).run Tryz.prog W = .ok (.bool (!x.isNone)) W := fun W x n c => run_neq_nil W 22 3 x n c 0 0 Tryz.underlying22
 induction left with
 | zero =>
  intro F C vc w hM hF hC hcl hNL hne
  have HM := Lib.hid hM
  have HFR := Lib.hid hF
  have HC := Lib.hid hC
  have x0 := hM.f
  have x1 := hM.h
  have HIF := Lib.hid (show Ints w (.slice (some ⟨g, 0, none⟩) W W) W F from ⟨_, _, _, _, rfl, rowIs_sl hM.row⟩)
  have HNE := Lib.hid hne
  clear hM hF hC hNL hne
  go_enter Tryz.func94, Tryz.ntmps94
  go_upto_region 2 with (go_at_call 49; go_loud ((with_reducible refine (fnext_any _ W F _ HIF.out hW hW2).mono ?_); rintro e w1 ⟨r, hrun, rfl, hd⟩; have HRUN := Lib.hid hrun; have HD := Lib.hid hd; clear hrun hd))
  clear HIF x0 x1
  obtain ⟨p, hpe⟩ : ∃ p, p = minAt F (W - 1) := ⟨_, rfl⟩
  rw [← hpe] at HRUN ⊢
  have HPE : Hid (p = loP W F) := Lib.hid hpe
  have hpW : p < W := by rw [HPE.out]; exact loP_lt hW
  clear hpe
  have HM1 := Lib.hid (HM.out.below (HD.out.below _))
  have x0 := HM1.out.f
  have x1 := HM1.out.h
  have ipx := fun X => ixFl (rowIs_sl HM1.out.row) p W hpW X
  have cp := HM1.out.row.cell (i := p) hpW
  have hfp := HFR.out p hpW
  simp only [ic, Nat.zero_add] at ipx cp
  have hwr : IntKind.i64.wrap (H - F p) = H - F p := by rw [IntKind.wrap_i64]; omega
  have HB0 := Lib.hid (HD.out.below w.heap.size)
  go_quiet (fail)
  by_cases h0 : F p = H
  ·have HQ := Lib.hid h0
   have e1 : (H - F p == 0) = true := by rw [beq_iff_eq]; omega
   have e1d : H - F p = 0 := by omega
   clear h0 hfp
   go_wp2
   have HB := Lib.hid (HB0.out.trans ((Drawn.of w1 nq).below w.heap.size))
   go_ret
   have h8 : C ≠ [] := HNE.out.elim id (fun q => absurd (by rw [← HPE.out]; exact HQ.out) q)
   exact ⟨_, rfl, HM.out.below HB.out, grown_of HB.out, .inr ⟨[], bestS_nil (by rw [← HPE.out]; exact HQ.out), by rw [List.append_nil]; exact h8, by rw [List.append_nil]; exact HC.out.below HB.out⟩⟩
  ·have HQ := Lib.hid h0
   have e1 : (H - F p == 0) = false := by rw [beq_eq_false_iff_ne]; omega
   have HB := Lib.hid (HB0.out.trans ((Drawn.of w1 nq).below w.heap.size))
   have e2 : (((0 : Nat) : Int) == 0) = true := by simp
   go_wp2
   go_ret
   exact ⟨_, rfl, HM.out.below HB.out, grown_of HB.out, .inl ⟨rfl, noS_zero (by rw [← HPE.out]; exact HQ.out)⟩⟩
 | succ m ih =>
  intro F C vc w hM hF hC hcl hNL hne
  have HIH := Lib.hid ih
  have HM := Lib.hid hM
  have HFR := Lib.hid hF
  have HC := Lib.hid hC
  have x0 := hM.f
  have x1 := hM.h
  have HIF := Lib.hid (show Ints w (.slice (some ⟨g, 0, none⟩) W W) W F from ⟨_, _, _, _, rfl, rowIs_sl hM.row⟩)
  have HNE := Lib.hid hne
  have HNL := Lib.hid hNL
  clear hM hF hC hNL hne ih
  go_enter Tryz.func94, Tryz.ntmps94
  go_upto_region 2 with (go_at_call 49; go_loud ((with_reducible refine (fnext_any _ W F _ HIF.out hW hW2).mono ?_); rintro e w1 ⟨r, hrun, rfl, hd⟩; have HRUN := Lib.hid hrun; have HD := Lib.hid hd; clear hrun hd))
  clear HIF x0 x1
  obtain ⟨p, hpe⟩ : ∃ p, p = minAt F (W - 1) := ⟨_, rfl⟩
  rw [← hpe] at HRUN ⊢
  have HPE : Hid (p = loP W F) := Lib.hid hpe
  have hpW : p < W := by rw [HPE.out]; exact loP_lt hW
  clear hpe
  have HM1 := Lib.hid (HM.out.below (HD.out.below _))
  have x0 := HM1.out.f
  have x1 := HM1.out.h
  have ipx := fun X => ixFl (rowIs_sl HM1.out.row) p W hpW X
  have cp := HM1.out.row.cell (i := p) hpW
  have hfp := HFR.out p hpW
  simp only [ic, Nat.zero_add] at ipx cp
  have hwr : IntKind.i64.wrap (H - F p) = H - F p := by rw [IntKind.wrap_i64]; omega
  have HB0 := Lib.hid (HD.out.below w.heap.size)
  go_quiet (fail)
  by_cases h0 : F p = H
  ·have HQ := Lib.hid h0
   have e1 : (H - F p == 0) = true := by rw [beq_iff_eq]; omega
   have e1d : H - F p = 0 := by omega
   clear h0 hfp
   go_wp2
   have HB := Lib.hid (HB0.out.trans ((Drawn.of w1 nq).below w.heap.size))
   go_ret
   have h8 := HNL.out [] (show SolP W H [] F by rw [HPE.out] at HQ; exact HQ.out)
   simp at h8
  ·have HQ := Lib.hid h0
   have e1 : (H - F p == 0) = false := by rw [beq_eq_false_iff_ne]; omega
   have HB := Lib.hid (HB0.out.trans ((Drawn.of w1 nq).below w.heap.size))
   have e2 : (((m + 1 : Nat) : Int) == 0) = false := by rw [beq_eq_false_iff_ne]; omega
   have e2b : ((m : Int) + 1 == 0) = false := by rw [beq_eq_false_iff_ne]; omega
   have hdp : 0 ≤ H - F p := by have := (HFR.out p hpW).2; omega
   obtain ⟨w2, hw2⟩ : ∃ w2 : World, w2 = w1.drewN nq := ⟨_, rfl⟩
   rw [← hw2] at HB ⊢
   have HM2 := Lib.hid (HM.out.below HB.out)
   clear x0 x1 ipx cp hwr HM1 HB0 HD hw2 h0
   go_upto_region 5 with (fail)
   go_cut [37] (fun v37 wx => ∃ t : Bool, v37 = .bool t ∧ Hid (t = true → NoS W H F (m + 1)) ∧ wx = w2)
   case first =>
    by_cases hm : m = 0
    ·subst hm
     have e3 : (((0 + 1 : Nat) : Int) == 1) = true := by simp
     have e3b : ((0 : Int) + 1 == 1) = true := by simp
     by_cases hr : (r : Int) = H - F p
     ·have e4 : ((r : Int) != H - F p) = false := by rw [bne_eq_false_iff_eq]; exact hr
      clear hr
      go_wp2
      go_meet
      case rel => exact ⟨false, rfl, Lib.hid (fun e => Bool.noConfusion e), rfl⟩
     ·have e4 : ((r : Int) != H - F p) = true := by rw [bne_iff_ne]; exact hr
      have HN1 : Hid (NoS W H F (0 + 1)) := Lib.hid (noS_one hW (by rw [← HPE.out]; exact HRUN.out) (by rw [← HPE.out]; exact hr) (by rw [← HPE.out]; exact HQ.out))
      clear hr
      go_wp2
      go_meet
      case rel => exact ⟨true, rfl, Lib.hid (fun _ => HN1.out), rfl⟩
    ·have e3 : (((m + 1 : Nat) : Int) == 1) = false := by rw [beq_eq_false_iff_ne]; omega
     have e3b : ((m : Int) + 1 == 1) = false := by rw [beq_eq_false_iff_ne]; omega
     have e3c : ((m : Int) == 0) = false := by rw [beq_eq_false_iff_ne]; omega
     have e3d : (m == 0) = false := by rw [beq_eq_false_iff_ne]; omega
     have e3e : decide (m = 0) = false := decide_eq_false hm
     clear hm
     go_wp2
     go_meet
     case rel => exact ⟨false, rfl, Lib.hid (fun e => Bool.noConfusion e), rfl⟩
   case rest =>
    obtain ⟨t0, rfl, HT, hw⟩ := hcut
    rw [hw]
    clear hw
    rcases t0 with _ | _
    ·clear HT e2 e2b
     obtain ⟨K, hK⟩ : ∃ K, K = min r (H - F p).toNat := ⟨_, rfl⟩
     have hm1 : min (r : Int) (H - F p) = (K : Int) := by rw [hK]; omega
     have hm2 : (if H - F p < (r : Int) then H - F p else (r : Int)) = (K : Int) := by rw [hK]; split <;> omega
     have hKr : K ≤ r ∧ F p + (K : Int) ≤ H := by rw [hK]; omega
     have hrl := HRUN.out.le
     have NF0 : Hid (NoFst W H F m 1) := Lib.hid (NoFst.one W H F m)
     have HFB : Hid (∀ i, i < W → -1000 ≤ F i ∧ F i ≤ 1000) := Lib.hid (fun i hi => by have := HFR.out i hi; omega)
     have HKE : Hid (∀ (s : Nat), K < s → s ≤ K + 1 → NoFst W H F m s → NoS W H F (m + 1)) := Lib.hid (fun s h1 h2 h3 => NoFst.none hW (by rw [← HPE.out]; exact HRUN.out) (by rw [← HPE.out, ← hK, show K + 1 = s by omega]; exact h3))
     have G0 : Hid (w.grownBy w2 (some g)) := Lib.hid (grown_of HB.out)
     clear hK
     go_wp2
     go_loopw [11, 12] (fun v11 v12 wi => ∃ s : Nat, 1 ≤ s ∧ s ≤ K + 1 ∧ v11 = .int .i64 (s : Nat) ∧ Hid (NoFst W H F m s) ∧ Hid (FwM wi W H g fb hb lb F) ∧ Hid (w.grownBy wi (some g))) (fun v11 _ _ => K + 1 - (intOf v11).toNat)
     case atStart => exact ⟨1, by omega, by omega, rfl, NF0, HM2, G0⟩
     case round =>
      clear NF0 HM2 G0
      obtain ⟨s, hs1, hsK, rfl, NF, FM, KG⟩ := hrel
      by_cases h5 : s ≤ K
      ·have e5 : decide ((s : Int) ≤ (K : Int)) = true := by simpa using h5
       have e5n : decide (s ≤ K) = true := by simpa using h5
       have hps : p + s ≤ W := by omega
       have x0 := FM.out.f
       have hsame : ∀ i, i < s → F (p + i) = F p := fun i hi => HRUN.out.same i (by omega)
       have HSM : Hid (F (loP W F) < H ∧ loP W F + s ≤ W ∧ (∀ i, i < s → F (loP W F + i) = F (loP W F)) ∧ F (loP W F) + (s : Int) ≤ H) := Lib.hid (by
        rw [← HPE.out]
        have := HQ.out
        exact ⟨by omega, hps, hsame, by omega⟩)
       have HPUT : Hid (FlR W H (putF F p s)) := Lib.hid (by rw [HPE.out]; exact HFR.out.put HSM.out.2.2.1 HSM.out.2.2.2)
       have hsz1000 : (s : Int) ≤ 1000 := by omega
       clear hsame
       go_upto_region 11 with (go_at_call 50; go_loud ((with_reducible refine (fput_any g W s p (s : Int) F _ FM.out.row hps hW2 HFB.out (by omega)).mono ?_); rintro e wP ⟨rfl, hr, hgr⟩; have FP := Lib.hid (FM.out.grown hgr hr); have KG := Lib.hid (KG.out.trans hgr); clear hr hgr))
       have HCP := Lib.hid (HC.out.grown KG.out)
       have HCALL : Hid (∀ wx v', Below wP.heap.size wP wx → CodeV wx g v' (C ++ [s]) → Calls Tryz.prog 94 #[v', .int .i64 (m : Nat), .pointer (some ⟨fb, 0, none⟩), .pointer (some ⟨hb, 0, none⟩), .pointer (some ⟨lb, 0, none⟩)] wx fun e w' => ∃ v2, e = .returned v2 ∧ FwR wx w' W H g fb hb lb (putF F p s) (C ++ [s]) m v2) := Lib.hid (fun wx v' hb' hcv =>
        HIH.out (putF F p s) (C ++ [s]) v' wx (FP.out.below hb') HPUT.out hcv (by simp; omega) (by rw [HPE.out]; exact HNL.out.step HSM.out.1 hs1 HSM.out.2.1 HSM.out.2.2.1 HSM.out.2.2.2) (.inl (by simp)))
       have HQ1 : Hid (intC C ++ [.int .i64 (s : Nat)] = intC (C ++ [s])) := Lib.hid (intC_app C s)
       have HQL : Hid ((C ++ [s]).length = C.length + 1) := Lib.hid (by simp)
       have HGP : Hid (g < wP.heap.size) := Lib.hid FP.out.row.lt
       have hwm : IntKind.i64.wrap (((m + 1 : Nat) : Int) - 1) = (m : Int) := by rw [IntKind.wrap_i64]; omega
       have hwm2 : IntKind.i64.wrap ((m : Int) + 1 - 1) = (m : Int) := by rw [IntKind.wrap_i64]; omega
       have hwm3 : IntKind.i64.wrap (m : Int) = (m : Int) := by rw [IntKind.wrap_i64]; omega
       obtain ⟨wO, hwO⟩ : ∃ x : World, x = wP.drew := ⟨_, rfl⟩
       have VL := Lib.hid (show Below wP.heap.size wP wO by rw [hwO]; exact (Below.refl _ _).drew)
       have HWO := Lib.hid hwO
       have keepR : Hid (∀ w', Below wP.heap.size wP w' → w'.cell? ⟨lb, 0, none⟩ = some (.func (.func 94) #[] #[.pointer (some ⟨fb, 0, none⟩), .pointer (some ⟨hb, 0, none⟩), .pointer (some ⟨lb, 0, none⟩)])) := Lib.hid (fun w' hb' => (FP.out.below hb').l)
       clear hwO x0
       refine wp_region_held_drew (S := fun w' => w'.cell? ⟨lb, 0, none⟩ = some (.func (.func 94) #[] #[.pointer (some ⟨fb, 0, none⟩), .pointer (some ⟨hb, 0, none⟩), .pointer (some ⟨lb, 0, none⟩)])) (by kernel_rfl) (by rw [← HWO.out]; exact keepR.out _ VL.out) (fun hHeld => ?_)
       rw [← HWO.out] at hHeld ⊢
       refine wpAnyH_take (i := 0) (v := ?_) rfl (by kernel_rfl) (by kernel_rfl) (by kernel_rfl) (fun _ _ _ h => h) (Or.inl ⟨by kernel_rfl, ?_⟩) (by assumption) ?_
       rotate_left
       ·(intro w0 hSw; (try dsimp only at hSw); go_simp; all_goals (with_reducible rfl))
       simp only [Act.put, List.setIfInBounds_toArray, List.set_cons_zero, List.set_cons_succ]
       refine wpAnyH_take (i := 1) (v := ?_) rfl (by kernel_rfl) (by kernel_rfl) (by kernel_rfl) (fun _ _ _ h => h) (Or.inl ⟨by kernel_rfl, ?_⟩) (by assumption) ?_
       rotate_left
       ·(intro w0 hSw; (try dsimp only at hSw); go_simp; all_goals (with_reducible rfl))
       simp only [Act.put, List.setIfInBounds_toArray, List.set_cons_zero, List.set_cons_succ]
       refine wpAnyH_take (i := 3) (v := ?_) rfl (by kernel_rfl) (by kernel_rfl) (by kernel_rfl) (fun _ _ _ h => h) (Or.inl ⟨by kernel_rfl, ?_⟩) (by assumption) ?_
       rotate_left
       ·(intro w0 hSw; (try dsimp only at hSw); go_simp; all_goals (with_reducible rfl))
       simp only [Act.put, List.setIfInBounds_toArray, List.set_cons_zero, List.set_cons_succ]
       refine wpAnyH_take (i := 6) (v := ?_) rfl (by kernel_rfl) (by kernel_rfl) (by kernel_rfl) (fun _ _ _ h => h) (Or.inl ⟨by kernel_rfl, ?_⟩) (by assumption) ?_
       rotate_left
       ·(intro w0 hSw; (try dsimp only at hSw); go_simp; all_goals (with_reducible rfl))
       simp only [Act.put, List.setIfInBounds_toArray, List.set_cons_zero, List.set_cons_succ]
       refine wpAnyH_take (i := 7) (v := ?_) rfl (by kernel_rfl) (by kernel_rfl) (by kernel_rfl) (fun _ _ _ h => h) (Or.inl ⟨by kernel_rfl, ?_⟩) (by assumption) ?_
       rotate_left
       ·(intro w0 hSw; (try dsimp only at hSw); go_simp; all_goals (with_reducible rfl))
       simp only [Act.put, List.setIfInBounds_toArray, List.set_cons_zero, List.set_cons_succ]
       refine wpAnyH_ready (rs := [2, 4]) (by kernel_rfl) (by simp) ?_
       refine AllReadyH.cons rfl (fun Kn hKn => ?_) (AllReadyH.cons rfl (fun Kn hKn => ?_) AllReadyH.nil)
       ·go_simp
        (go_at_call 95; (with_reducible refine (clone_code vc C _ (HCP.out.below VL.out) (by omega)).mono ?_); rintro e wA ⟨va, vk, rfl, ho, hbc⟩; have OC := Lib.hid (own_le ho VL.out.size); have VL := Lib.hid (VL.out.trans (hbc.mono VL.out.size)); clear ho hbc)
        go_wp2_with fail
        refine hKn.out _ _ ?_ (fun hHeld => ?_)
        ·(try dsimp only); exact keepR.out _ VL.out
        clear hKn Kn
        (try simp only [Act.put, List.setIfInBounds_toArray, List.set_cons_zero, List.set_cons_succ])
        refine wpAnyH_ready (rs := [4]) (by kernel_rfl) (by simp) ?_
        refine AllReadyH.cons rfl (fun Kn hKn => ?_) AllReadyH.nil
        go_simp
        have B1 := Lib.hid (Bx.new1 wA (.int .i64 (s : Nat)) 3)
        have OC := Lib.hid (OC.out.alloc (.cells #[.int .i64 (s : Nat)] 3))
        have VL := Lib.hid (VL.out.alloc VL.out.size (.cells #[.int .i64 (s : Nat)] 3))
        refine hKn.out _ _ ?_ (fun hHeld => ?_)
        ·(try dsimp only); exact keepR.out _ VL.out
        clear hKn Kn
        (try simp only [Act.put, List.setIfInBounds_toArray, List.set_cons_zero, List.set_cons_succ])
        obtain ⟨b1, hb1⟩ : ∃ b1, b1 = wA.heap.size := ⟨_, rfl⟩
        rw [← hb1] at B1 ⊢
        clear hb1
        generalize wA.alloc (.cells #[.int .i64 (s : Nat)] 3) = wB at B1 VL OC hHeld ⊢
        refine wpAnyH_ready (rs := [5]) (by kernel_rfl) (by simp) ?_
        refine AllReadyH.cons rfl (fun Kn hKn => ?_) AllReadyH.nil
        refine step_append_own (by rfl) _ _ _ (by rfl) wP.heap.size 3 i0 (.int .i64 0) 1 8 Tryz.underlying22 hinf hz0 hz1 hz2 rfl (by decide) (.slice va C.length vk) C.length (intC C) (by rfl) OC.out ⟨b1, 0, none⟩ 1 1 [.int .i64 (s : Nat)] (by rfl) (by rfl) B1.out.c (one1 _ rfl) (by unfold maxLen; omega) (by omega) VL.out.size ?_
        intro v9 wC hown hgrow
        rw [HQ1.out, ← HQL.out] at hown
        have VL := Lib.hid (VL.out.grown hgrow VL.out.size (fun kk e => (OC.out.lt kk e).1))
        have CV := Lib.hid (CodeV.own (g := g) hown (by simp) HGP.out)
        clear hown hgrow
        refine hKn.out _ _ ?_ (fun hHeld => ?_)
        ·(try dsimp only); exact keepR.out _ VL.out
        clear hKn Kn
        (try simp only [Act.put, List.setIfInBounds_toArray, List.set_cons_zero, List.set_cons_succ])
        refine wpAnyH_ready (rs := [8]) (by kernel_rfl) (by simp) ?_
        refine AllReadyH.cons rfl (fun Kn hKn => ?_) AllReadyH.nil
        go_simp
        (go_at_call 94; (with_reducible refine (HCALL.out _ v9 VL.out CV.out).mono ?_); rintro e wR ⟨v2, rfl, hR⟩; have HR := Lib.hid hR; clear hR)
        go_wp2_with fail
        refine hKn.out _ _ ?_ (fun hHeld => ?_)
        ·(try dsimp only); exact HR.out.m.l
        clear hKn Kn
        (try simp only [Act.put, List.setIfInBounds_toArray, List.set_cons_zero, List.set_cons_succ])
        refine wpAnyH_take (i := 9) (v := ?_) rfl (by kernel_rfl) (by kernel_rfl) (by kernel_rfl) (fun _ _ _ h => h) (Or.inl ⟨by kernel_rfl, ?_⟩) (by assumption) ?_
        rotate_left
        ·(intro w0 hSw; (try dsimp only at hSw); go_simp; all_goals (with_reducible rfl))
        simp only [List.getElem_toArray, List.getElem_cons_succ, List.getElem_cons_zero, Act.put, List.setIfInBounds_toArray, List.set_cons_zero, List.set_cons_succ]
        refine wpAnyH_done (by kernel_rfl) ?_ _
        have x0 := HR.out.m.f
        have hfb2 : ∀ i, i < W → -1000 ≤ putF F p s i ∧ putF F p s i ≤ 1000 := fun i hi => by have := HPUT.out i hi; omega
        have hng : IntKind.i64.wrap (-(s : Int)) = -(s : Int) := by rw [IntKind.wrap_i64]; omega
        have HRS := Lib.hid HR.out.r
        have HRM := Lib.hid HR.out.m
        have KG2 := Lib.hid ((KG.out.trans (grown_of VL.out)).trans HR.out.k)
        clear hHeld
        go_upto_region 13 with (go_at_call 50; go_loud ((with_reducible refine (fput_any g W s p (-(s : Int)) (putF F p s) _ HRM.out.row hps hW2 hfb2 (by omega)).mono ?_); rintro e wQ ⟨rfl, hr, hgr⟩; have FQ := Lib.hid (HRM.out.grown hgr (hr.congr (fun i hi => congrArg (Value.int .i64) (raise_back F p s i)))); have KG3 := Lib.hid (KG2.out.trans hgr); have HGR := Lib.hid hgr; clear hr hgr))
        rcases HRS.out with ⟨rfl, hno⟩ | ⟨l, hbest, hne9, hcv⟩
        ·have HNX : Hid (NoFst W H F m (s + 1)) := Lib.hid (NF.out.next (by rw [← HPE.out]; exact hno))
         go_wp2
         go_roundw
         case rel => exact ⟨s + 1, by omega, by omega, by go_num, HNX, FQ, KG3⟩
         case measure => simp [intOf]; omega
        ·have HBS : Hid (BestS W H F (m + 1) (s :: l)) := Lib.hid (NF.out.best (by rw [← HPE.out]; exact hbest) HSM.out.1 hs1 HSM.out.2.1 HSM.out.2.2.1 HSM.out.2.2.2)
         have e9 : C ++ [s] ++ l = C ++ s :: l := by simp
         rw [e9] at hcv hne9
         have HCV2 := Lib.hid (hcv.grown HGR.out)
         have HNE9 := Lib.hid hne9
         obtain ⟨b8, c8, rfl⟩ := HCV2.out.shape HNE9.out
         clear hbest hne9 hcv e9
         go_wp2
         go_ret
         exact ⟨_, rfl, FQ.out, KG3.out, .inr ⟨s :: l, HBS.out, HNE9.out, HCV2.out⟩⟩
       ·go_simp
        have B1 := Lib.hid (Bx.new1 wO (.int .i64 (s : Nat)) 3)
        have VL := Lib.hid (VL.out.alloc VL.out.size (.cells #[.int .i64 (s : Nat)] 3))
        refine hKn.out _ _ ?_ (fun hHeld => ?_)
        ·(try dsimp only); exact keepR.out _ VL.out
        clear hKn Kn
        (try simp only [Act.put, List.setIfInBounds_toArray, List.set_cons_zero, List.set_cons_succ])
        obtain ⟨b1, hb1⟩ : ∃ b1, b1 = wO.heap.size := ⟨_, rfl⟩
        rw [← hb1] at B1 ⊢
        clear hb1
        generalize wO.alloc (.cells #[.int .i64 (s : Nat)] 3) = wA at B1 VL hHeld ⊢
        refine wpAnyH_ready (rs := [2]) (by kernel_rfl) (by simp) ?_
        refine AllReadyH.cons rfl (fun Kn hKn => ?_) AllReadyH.nil
        go_simp
        (go_at_call 95; (with_reducible refine (clone_code vc C _ (HCP.out.below VL.out) (by omega)).mono ?_); rintro e wB ⟨va, vk, rfl, ho, hbc⟩; have OC := Lib.hid (own_le ho VL.out.size); have VL := Lib.hid (VL.out.trans (hbc.mono VL.out.size)); have B1 := Lib.hid (B1.out.below hbc); clear ho hbc)
        go_wp2_with fail
        refine hKn.out _ _ ?_ (fun hHeld => ?_)
        ·(try dsimp only); exact keepR.out _ VL.out
        clear hKn Kn
        (try simp only [Act.put, List.setIfInBounds_toArray, List.set_cons_zero, List.set_cons_succ])
        refine wpAnyH_ready (rs := [5]) (by kernel_rfl) (by simp) ?_
        refine AllReadyH.cons rfl (fun Kn hKn => ?_) AllReadyH.nil
        refine step_append_own (by rfl) _ _ _ (by rfl) wP.heap.size 3 i0 (.int .i64 0) 1 8 Tryz.underlying22 hinf hz0 hz1 hz2 rfl (by decide) (.slice va C.length vk) C.length (intC C) (by rfl) OC.out ⟨b1, 0, none⟩ 1 1 [.int .i64 (s : Nat)] (by rfl) (by rfl) B1.out.c (one1 _ rfl) (by unfold maxLen; omega) (by omega) VL.out.size ?_
        intro v9 wC hown hgrow
        rw [HQ1.out, ← HQL.out] at hown
        have VL := Lib.hid (VL.out.grown hgrow VL.out.size (fun kk e => (OC.out.lt kk e).1))
        have CV := Lib.hid (CodeV.own (g := g) hown (by simp) HGP.out)
        clear hown hgrow
        refine hKn.out _ _ ?_ (fun hHeld => ?_)
        ·(try dsimp only); exact keepR.out _ VL.out
        clear hKn Kn
        (try simp only [Act.put, List.setIfInBounds_toArray, List.set_cons_zero, List.set_cons_succ])
        refine wpAnyH_ready (rs := [8]) (by kernel_rfl) (by simp) ?_
        refine AllReadyH.cons rfl (fun Kn hKn => ?_) AllReadyH.nil
        go_simp
        (go_at_call 94; (with_reducible refine (HCALL.out _ v9 VL.out CV.out).mono ?_); rintro e wR ⟨v2, rfl, hR⟩; have HR := Lib.hid hR; clear hR)
        go_wp2_with fail
        refine hKn.out _ _ ?_ (fun hHeld => ?_)
        ·(try dsimp only); exact HR.out.m.l
        clear hKn Kn
        (try simp only [Act.put, List.setIfInBounds_toArray, List.set_cons_zero, List.set_cons_succ])
        refine wpAnyH_take (i := 9) (v := ?_) rfl (by kernel_rfl) (by kernel_rfl) (by kernel_rfl) (fun _ _ _ h => h) (Or.inl ⟨by kernel_rfl, ?_⟩) (by assumption) ?_
        rotate_left
        ·(intro w0 hSw; (try dsimp only at hSw); go_simp; all_goals (with_reducible rfl))
        simp only [List.getElem_toArray, List.getElem_cons_succ, List.getElem_cons_zero, Act.put, List.setIfInBounds_toArray, List.set_cons_zero, List.set_cons_succ]
        refine wpAnyH_done (by kernel_rfl) ?_ _
        have x0 := HR.out.m.f
        have hfb2 : ∀ i, i < W → -1000 ≤ putF F p s i ∧ putF F p s i ≤ 1000 := fun i hi => by have := HPUT.out i hi; omega
        have hng : IntKind.i64.wrap (-(s : Int)) = -(s : Int) := by rw [IntKind.wrap_i64]; omega
        have HRS := Lib.hid HR.out.r
        have HRM := Lib.hid HR.out.m
        have KG2 := Lib.hid ((KG.out.trans (grown_of VL.out)).trans HR.out.k)
        clear hHeld
        go_upto_region 13 with (go_at_call 50; go_loud ((with_reducible refine (fput_any g W s p (-(s : Int)) (putF F p s) _ HRM.out.row hps hW2 hfb2 (by omega)).mono ?_); rintro e wQ ⟨rfl, hr, hgr⟩; have FQ := Lib.hid (HRM.out.grown hgr (hr.congr (fun i hi => congrArg (Value.int .i64) (raise_back F p s i)))); have KG3 := Lib.hid (KG2.out.trans hgr); have HGR := Lib.hid hgr; clear hr hgr))
        rcases HRS.out with ⟨rfl, hno⟩ | ⟨l, hbest, hne9, hcv⟩
        ·have HNX : Hid (NoFst W H F m (s + 1)) := Lib.hid (NF.out.next (by rw [← HPE.out]; exact hno))
         go_wp2
         go_roundw
         case rel => exact ⟨s + 1, by omega, by omega, by go_num, HNX, FQ, KG3⟩
         case measure => simp [intOf]; omega
        ·have HBS : Hid (BestS W H F (m + 1) (s :: l)) := Lib.hid (NF.out.best (by rw [← HPE.out]; exact hbest) HSM.out.1 hs1 HSM.out.2.1 HSM.out.2.2.1 HSM.out.2.2.2)
         have e9 : C ++ [s] ++ l = C ++ s :: l := by simp
         rw [e9] at hcv hne9
         have HCV2 := Lib.hid (hcv.grown HGR.out)
         have HNE9 := Lib.hid hne9
         obtain ⟨b8, c8, rfl⟩ := HCV2.out.shape HNE9.out
         clear hbest hne9 hcv e9
         go_wp2
         go_ret
         exact ⟨_, rfl, FQ.out, KG3.out, .inr ⟨s :: l, HBS.out, HNE9.out, HCV2.out⟩⟩
      ·have HNO : Hid (NoS W H F (m + 1)) := Lib.hid (HKE.out s (by omega) hsK NF.out)
       have e5 : decide ((s : Int) ≤ (K : Int)) = false := by simpa using h5
       have e5n : decide (s ≤ K) = false := by simpa using h5
       go_wp2
       go_ret
       exact ⟨_, rfl, FM.out, KG.out, .inl ⟨rfl, HNO.out⟩⟩
    ·have HNO := Lib.hid (HT.out rfl)
     clear HT
     go_wp2
     go_ret
     exact ⟨_, rfl, HM2.out, grown_of HB.out, .inl ⟨rfl, HNO.out⟩⟩
end Go.Proofs.YtolkchkedieppaaGreat
