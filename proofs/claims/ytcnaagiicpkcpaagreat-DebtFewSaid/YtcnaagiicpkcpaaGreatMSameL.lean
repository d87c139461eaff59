/- Settled of the reference. (Printed by gen_setr.py.) -/
import Derived.Test.YtcnaagiicpkcpaaGreatMTakes
import Derived.Test.YtcnaagiicpkcpaaGreatMStlD
import Derived.Deep.DeepCutAuto
import Derived.Deep.CutBlock
import Derived.Test.YtcnaagiicpkcpaaGreatMGrpC
set_option linter.unusedVariables false
set_option linter.unusedSimpArgs false
namespace Go.Proofs.YtcnaagiicpkcpaaGreat
open Go.RowKit
attribute [local go_sem ↓] Go.wp_at_zero Go.wp_at_succ
theorem pays_s : Tryz.prog.underlying 28 = some (.slice (Tryz.prog.elem 28)) := by kernel_rfl
theorem pays_z (W : World) : (sizeOf (Tryz.prog.elem 28)).run Tryz.prog W = .ok 3 W := by kernel_rfl
theorem ixP (b n c i : Nat) (hi : i < n) (W : World) :
  (Instr.indexAt 28 (.slice (some ⟨b, 0, none⟩) n c) (.int .i64 (i : Int))).run Tryz.prog W = .ok (.pointer (some ⟨b, i * 3, none⟩)) W := by
 rw [run_indexAt_slice W _ _ _ _ _ _ pays_s, if_pos ⟨by omega, by omega⟩, pays_z]
 simp only [Result.andThen, Int.toNat_natCast]
 congr 3
 unfold Addr.add
 split
 ·rename_i h; simp [show i = 0 by omega]
 ·simp
/-- what is left behind i payments -/
def leftK (f : Nat → Int) (P : List Pmt) (i : Nat) : Nat → Int := fun j => f j + outS (P.take i) j - inS (P.take i) j
theorem leftK_step (f : Nat → Int) (P : List Pmt) (i : Nat) (h : i < P.length) (x : Pmt) (hx : x = P.getD i default) (hne : x.fr ≠ x.rc) :
  setN (setN (leftK f P i) x.fr (leftK f P i x.fr + x.am)) x.rc (leftK f P i x.rc - x.am) = leftK f P (i + 1) := by
 funext j
 have e : P.take (i + 1) = P.take i ++ [x] := by rw [hx, List.take_add_one]; simp [h]
 unfold setN
 by_cases e1 : j = x.rc
 ·subst e1
  rw [if_pos rfl]
  simp only [leftK, e, outS_push, inS_push]
  rw [if_neg hne, if_pos trivial]; omega
 ·rw [if_neg e1]
  by_cases e2 : j = x.fr
  ·subst e2
   rw [if_pos rfl]
   simp only [leftK, e, outS_push, inS_push]
   rw [if_pos trivial, if_neg (Ne.symm hne)]; omega
  ·rw [if_neg e2]
   simp only [leftK, e, outS_push, inS_push]
   rw [if_neg (Ne.symm e2), if_neg (Ne.symm e1)]; omega
theorem out_bound {n : Nat} : ∀ (P : List Pmt), (∀ q ∈ P, PayOK n q) → ∀ j, 0 ≤ outS P j ∧ outS P j ≤ 10000 * (P.length : Int) ∧ 0 ≤ inS P j ∧ inS P j ≤ 10000 * (P.length : Int)
 | [], _, j => by simp [outS, inS]
 | q :: l, h, j => by
  have ih := out_bound l (fun q hq => h q (by simp [hq])) j
  have hq := h q (by simp)
  have h1 := hq.low
  have h2 := hq.high
  simp only [outS, inS, List.length_cons]
  refine ⟨?_, ?_, ?_, ?_⟩ <;> split <;> omega
theorem leftK_bound {n : Nat} {f : Nat → Int} {P : List Pmt} (hP : ∀ q ∈ P, PayOK n q) (hf : ∀ j, j < n → -10000 ≤ f j ∧ f j ≤ 10000) (h12 : P.length ≤ 12) (i j : Nat) (hj : j < n) : -200000 ≤ leftK f P i j ∧ leftK f P i j ≤ 200000 := by
 have h1 := out_bound (P.take i) (fun q hq => hP q (List.mem_of_mem_take hq)) j
 have h2 := hf j hj
 have h3 : (P.take i).length ≤ 12 := by rw [List.length_take]; omega
 unfold leftK; omega
set_option maxHeartbeats 8000000 in
set_option maxRecDepth 100000 in
theorem settled_any (vl vp : Value) (n : Nat) (f : Nat → Int) (P : List Pmt) (w : World) (hl : Ints w vl n f) (hn1 : 1 ≤ n) (hn : n ≤ 10) (hf : ∀ j, j < n → -10000 ≤ f j ∧ f j ≤ 10000) (hp : PayS w vp P) (h12 : P.length ≤ 12) (hS : SetOK n f P) :
  Calls Tryz.prog 12 #[vl, vp] w fun e w' => e = .returned (.bool true) ∧ Below w.heap.size w w' := by
 obtain ⟨la, b, o, c, rfl, hs⟩ := hl
 obtain ⟨a, pc, rfl, hp⟩ := hp
 obtain ⟨i0, hinf, hz0, hz1, hz2⟩ := info_parts infoI
 obtain rfl := hs.at_ (by omega)
 have HP := Lib.hid hp
 have HS := Lib.hid hS
 have HF := Lib.hid hf
 have HBD := Lib.hid (fun i j hj => leftK_bound hS.ok hf h12 i j hj)
 have KW := Lib.hid ((Below.refl w.heap.size w).alloc (Nat.le_refl _) (.cells #[] 3))
 have OW : Hid ((w.alloc (.cells #[] 3)).ownsRow w.heap.size 3 1 (.slice (some ⟨w.heap.size, 0, none⟩) 0 0) 0 []) := Lib.hid (World.ownsRow_made w #[] 0 (Nat.le_refl _) (by unfold maxLen; omega) rfl)
 have HSA := Lib.hid (hs.alloc (.cells #[] 3))
 have HONE := Lib.hid (ics_one f n)
 have HLEN := Lib.hid (show (ics f n).length = n * 1 by rw [ics_length]; omega)
 have HNW := Lib.hid (news_of HSA.out n (Nat.le_refl _))
 clear hs hp hS hf
 go_enter Tryz.func12, Tryz.ntmps12
 go_wp2_with (at_builtin; refine wpList_append_own _ rfl (.tmp 8) (.tmp 9) 22 rfl w.heap.size 3 i0 (.int .i64 0) 1 8 Tryz.underlying22 hinf hz0 hz1 hz2 rfl (by decide) (.slice (some ⟨w.heap.size, 0, none⟩) 0 0) 0 [] rfl OW.out ⟨b, o, none⟩ n c (ics f n) rfl HLEN.out HNW.out HONE.out (by unfold maxLen; omega) (by omega) (by simp) ?_; intro v' w3 hown hgrow _; have KW := Lib.hid (KW.out.grown hgrow (by simp) (fun kk e => by cases e; exact Nat.le_refl _)); rw [Nat.zero_add, List.nil_append] at hown; obtain ⟨gl, cl, rfl, _, _⟩ := hown.form (by omega); have HOWN := Lib.hid hown; clear hown hgrow)
 have hlk : f = leftK f P 0 := by funext j; simp [leftK, outS, inS]
 have HO : Hid (w3.ownsRow w.heap.size 3 1 (.slice (some ⟨gl, 0, none⟩) n cl) n (ics (leftK f P 0) n)) := Lib.hid (by rw [← hlk]; exact HOWN.out)
 clear HOWN hlk OW HSA HONE HLEN HNW
 go_loopw [6] (fun v6 wr => ∃ i : Nat, i ≤ P.length ∧ v6 = .int .i64 (i : Nat) ∧ Hid (wr.ownsRow w.heap.size 3 1 (.slice (some ⟨gl, 0, none⟩) n cl) n (ics (leftK f P i) n)) ∧ Hid (Below w.heap.size w wr)) (fun v6 _ => P.length - (intOf v6).toNat)
 case atStart => exact ⟨0, by omega, rfl, HO, KW⟩
 case round =>
  clear HO KW
  obtain ⟨i, hi, rfl, HO, KW⟩ := hrel
  by_cases h : i < P.length
  ·have e1 : decide ((i : Int) < ((P.length : Nat) : Int)) = true := by simpa using h
   have e1n : decide (i < P.length) = true := by simpa using h
   obtain ⟨g, ha, hgs, hpr⟩ := HP.out (by omega)
   subst ha
   obtain ⟨x, hx⟩ : ∃ x, x = P.getD i default := ⟨_, rfl⟩
   have hmem : P.getD i default ∈ P := by simp [h]
   rw [← hx] at hmem
   have hok := HS.out.ok x hmem
   have ix := fun W => ixP g P.length pc i h W
   have c0 := bel1 KW.out (hpr.c0 i h) hgs
   have c1 := bel1 KW.out (hpr.c1 i h) hgs
   have c2 := bel1 KW.out (hpr.c2 i h) hgs
   rw [← hx] at c0 c1 c2
   have HPR := Lib.hid hpr
   have hgw : g < wr.heap.size := Nat.lt_of_lt_of_le hgs KW.out.size
   have HI0 : Hid (decide ((0 : Int) ≤ (x.fr : Int) ∧ (x.fr : Int) ≤ (n : Int) - 1) = true) := Lib.hid (decide_eq_true (by have := hok.fr; omega))
   have HI1 : Hid (decide ((0 : Int) ≤ (x.rc : Int) ∧ (x.rc : Int) ≤ (n : Int) - 1) = true) := Lib.hid (decide_eq_true (by have := hok.rc; omega))
   have HI2 : Hid (decide ((1 : Int) ≤ x.am ∧ x.am ≤ 1000000) = true) := Lib.hid (decide_eq_true (by have := hok.low; have := hok.high; omega))
   have hwn : IntKind.i64.wrap ((n : Int) - 1) = (n : Int) - 1 := by rw [IntKind.wrap_i64]; omega
   have dN : ((x.fr : Int) == (x.rc : Int)) = false := by have := hok.ne; simp; omega
   have dNn : (x.fr == x.rc) = false := by have := hok.ne; simp; omega
   have C0 := Lib.hid c0
   have C1 := Lib.hid c1
   have C2 := Lib.hid c2
   have keepR : Hid (∀ w', Below wr.heap.size wr w' → w'.cell? ⟨g, i * 3, none⟩ = some (.int .i64 (x.fr : Nat)) ∧ w'.cell? ⟨g, i * 3 + 1, none⟩ = some (.int .i64 (x.rc : Nat)) ∧ w'.cell? ⟨g, i * 3 + 2, none⟩ = some (.int .i64 x.am)) := Lib.hid (fun w' hb => ⟨bel1 hb C0.out hgw, bel1 hb C1.out hgw, bel1 hb C2.out hgw⟩)
   have VL := Lib.hid (Below.refl wr.heap.size wr).drew
   have HOK := Lib.hid hok
   have HX := Lib.hid hx
   clear c0 c1 c2 hmem hok hpr hx
   go_upto_region 5 with (fail)
   go_cut [60] (fun v60 wx => v60 = .bool false ∧ Hid (Below wr.heap.size wr wx))
   case first =>
    refine wp_region_held_drew (S := fun w' => w'.cell? ⟨g, i * 3, none⟩ = some (.int .i64 (x.fr : Nat)) ∧ w'.cell? ⟨g, i * 3 + 1, none⟩ = some (.int .i64 (x.rc : Nat)) ∧ w'.cell? ⟨g, i * 3 + 2, none⟩ = some (.int .i64 x.am)) (by kernel_rfl) (keepR.out _ VL.out) (fun hHeld => ?_)
    refine wtk_begin [0, 1, 2, 3, 4, 5, 6, 7] ?_
    iterate 8 (refine wtk (v := ?_) rfl (by kernel_rfl) (fun _ _ _ h => h) (by kernel_rfl) ?_ (by assumption) ?_; rotate_left; (focus intro w0 hSw; (try dsimp only at hSw); go_simp; all_goals (with_reducible rfl)); simp only [Act.put, List.setIfInBounds_toArray, List.set_cons_zero, List.set_cons_succ])
    refine wtk_end ?_
    refine wpAnyH_ready (rs := [8]) (by kernel_rfl) (by simp) ?_
    refine AllReadyH.cons rfl (fun Kn hKn => ?_) AllReadyH.nil
    go_simp
    (go_at_call 23; (with_reducible refine (in_any _ _ _ true HI0.out _).mono ?_); rintro e w3 ⟨rfl, rfl⟩)
    go_wp2_with fail
    refine hKn.out _ _ ?_ (fun hHeld => ?_)
    ·(try dsimp only); exact keepR.out _ VL.out
    clear hKn Kn
    (try simp only [Act.put, List.setIfInBounds_toArray, List.set_cons_zero, List.set_cons_succ])
    refine wtk_begin [9, 10, 11, 12, 13, 14, 15, 16, 17, 18] ?_
    iterate 10 (refine wtk (v := ?_) rfl (by kernel_rfl) (fun _ _ _ h => h) (by kernel_rfl) ?_ (by assumption) ?_; rotate_left; (focus intro w0 hSw; (try dsimp only at hSw); go_simp; all_goals (with_reducible rfl)); simp only [Act.put, List.setIfInBounds_toArray, List.set_cons_zero, List.set_cons_succ])
    refine wtk_end ?_
    refine wpAnyH_ready (rs := [19]) (by kernel_rfl) (by simp) ?_
    refine AllReadyH.cons rfl (fun Kn hKn => ?_) AllReadyH.nil
    go_simp
    (go_at_call 23; (with_reducible refine (in_any _ _ _ true HI1.out _).mono ?_); rintro e w3 ⟨rfl, rfl⟩)
    go_wp2_with fail
    refine hKn.out _ _ ?_ (fun hHeld => ?_)
    ·(try dsimp only); exact keepR.out _ VL.out
    clear hKn Kn
    (try simp only [Act.put, List.setIfInBounds_toArray, List.set_cons_zero, List.set_cons_succ])
    refine wtk_begin [20, 21, 22, 23, 24, 25, 26, 27, 28, 29, 30, 31, 32, 33, 34, 35, 36, 37, 38, 39, 40] ?_
    iterate 21 (refine wtk (v := ?_) rfl (by kernel_rfl) (fun _ _ _ h => h) (by kernel_rfl) ?_ (by assumption) ?_; rotate_left; (focus intro w0 hSw; (try dsimp only at hSw); go_simp; all_goals (with_reducible rfl)); simp only [Act.put, List.setIfInBounds_toArray, List.set_cons_zero, List.set_cons_succ])
    refine wtk_end ?_
    refine wpAnyH_ready (rs := [41]) (by kernel_rfl) (by simp) ?_
    refine AllReadyH.cons rfl (fun Kn hKn => ?_) AllReadyH.nil
    go_simp
    (go_at_call 23; (with_reducible refine (in_any _ _ _ true HI2.out _).mono ?_); rintro e w3 ⟨rfl, rfl⟩)
    go_wp2_with fail
    refine hKn.out _ _ ?_ (fun hHeld => ?_)
    ·(try dsimp only); exact keepR.out _ VL.out
    clear hKn Kn
    (try simp only [Act.put, List.setIfInBounds_toArray, List.set_cons_zero, List.set_cons_succ])
    refine wtk_begin [42, 43] ?_
    iterate 2 (refine wtk (v := ?_) rfl (by kernel_rfl) (fun _ _ _ h => h) (by kernel_rfl) ?_ (by assumption) ?_; rotate_left; (focus intro w0 hSw; (try dsimp only at hSw); go_simp; all_goals (with_reducible rfl)); simp only [Act.put, List.setIfInBounds_toArray, List.set_cons_zero, List.set_cons_succ])
    refine wtk_end ?_
    refine wpAnyH_done (by kernel_rfl) ?_ _
    (try simp only [List.getElem_toArray, List.getElem_cons_succ, List.getElem_cons_zero, Act.put, List.setIfInBounds_toArray, List.set_cons_zero, List.set_cons_succ])
    go_wp2
    go_meet
    case rel => exact ⟨rfl, VL⟩
   case rest =>
    clear VL keepR HI0 HI1 HI2 dN dNn
    obtain ⟨rfl, VL⟩ := hcut
    have KW := Lib.hid (KW.out.trans (VL.out.mono KW.out.size))
    have HO := Lib.hid (own_kept HO.out VL.out)
    have hgw := Nat.lt_of_lt_of_le hgw VL.out.size
    have C0 := Lib.hid (bel1 KW.out (HPR.out.c0 i h) hgs)
    have C1 := Lib.hid (bel1 KW.out (HPR.out.c1 i h) hgs)
    have C2 := Lib.hid (bel1 KW.out (HPR.out.c2 i h) hgs)
    rw [← HX.out] at C0 C1 C2
    clear VL
    generalize wc = wd at *
    clear wc
    have VL := Lib.hid (Below.refl wd.heap.size wd).drew
    go_upto_region 7 with (fail)
    go_cut [104] (fun v104 wx => v104 = .bool false ∧ Hid (Below wd.heap.size wd wx))
    case first =>
     by_cases hi0 : i = 0
     ·have d2 : decide ((0 : Int) < (i : Int)) = false := by simp [hi0]
      have d2n : decide (0 < i) = false := by simp [hi0]
      have keepR : Hid (∀ w', Below wd.heap.size wd w' → w'.cell? ⟨g, i * 3, none⟩ = some (.int .i64 (x.fr : Nat)) ∧ w'.cell? ⟨g, i * 3 + 1, none⟩ = some (.int .i64 (x.rc : Nat)) ∧ w'.cell? ⟨g, i * 3 + 2, none⟩ = some (.int .i64 x.am)) := Lib.hid (fun w' hb => ⟨bel1 hb C0.out hgw, bel1 hb C1.out hgw, bel1 hb C2.out hgw⟩)
      clear hi0
      refine wp_region_held_drew (S := fun w' => w'.cell? ⟨g, i * 3, none⟩ = some (.int .i64 (x.fr : Nat)) ∧ w'.cell? ⟨g, i * 3 + 1, none⟩ = some (.int .i64 (x.rc : Nat)) ∧ w'.cell? ⟨g, i * 3 + 2, none⟩ = some (.int .i64 x.am)) (by kernel_rfl) (keepR.out _ VL.out) (fun hHeld => ?_)
      refine wtk_begin [0, 1, 2] ?_
      iterate 3 (refine wtk (v := ?_) rfl (by kernel_rfl) (fun _ _ _ h => h) (by kernel_rfl) ?_ (by assumption) ?_; rotate_left; (focus intro w0 hSw; (try dsimp only at hSw); go_simp; all_goals (with_reducible rfl)); simp only [Act.put, List.setIfInBounds_toArray, List.set_cons_zero, List.set_cons_succ])
      refine wtk_end ?_
      refine wtk_begin [3, 4, 5, 6, 7, 8, 9, 10, 11, 12, 13, 14, 15, 16, 17, 18, 19, 20, 21, 22, 23, 24, 25, 26, 27, 28, 29, 30, 31, 32, 33, 34, 35, 36, 37, 38, 39, 40, 41, 42] ?_
      iterate 40 (refine wtk_un rfl (by kernel_rfl) (fun _ _ _ h => h) (by kernel_rfl) (by assumption) ?_; simp only [List.getElem_toArray, List.getElem_cons_succ, List.getElem_cons_zero, Act.put, List.setIfInBounds_toArray, List.set_cons_zero, List.set_cons_succ])
      refine wtk_end ?_
      refine wtk_begin [43] ?_
      (refine wtk (v := ?_) rfl (by kernel_rfl) (fun _ _ _ h => h) (by kernel_rfl) ?_ (by assumption) ?_; rotate_left; (focus intro w0 hSw; (try dsimp only at hSw); go_simp; all_goals (with_reducible rfl)); simp only [Act.put, List.setIfInBounds_toArray, List.set_cons_zero, List.set_cons_succ])
      refine wtk_end ?_
      refine wpAnyH_done (by kernel_rfl) ?_ _
      (try simp only [List.getElem_toArray, List.getElem_cons_succ, List.getElem_cons_zero, Act.put, List.setIfInBounds_toArray, List.set_cons_zero, List.set_cons_succ])
      go_wp2
      go_meet
      case rel => exact ⟨rfl, VL⟩
     ·have d2 : decide ((0 : Int) < (i : Int)) = true := by simp; omega
      have d2n : decide (0 < i) = true := by simp; omega
      obtain ⟨y, hy⟩ : ∃ y, y = P.getD (i - 1) default := ⟨_, rfl⟩
      have hi1 : i - 1 < P.length := by omega
      have iy := fun W => ixP g P.length pc (i - 1) hi1 W
      have D0 := Lib.hid (bel1 KW.out (HPR.out.c0 (i - 1) hi1) hgs)
      have D1 := Lib.hid (bel1 KW.out (HPR.out.c1 (i - 1) hi1) hgs)
      rw [← hy] at D0 D1
      have hsort : ltK y x := by
       have := (List.pairwise_iff_getElem.1 HS.out.sorted) (i - 1) i hi1 h (by omega)
       rw [hy, HX.out]
       simpa [h, hi1] using this
      unfold ltK at hsort
      have hw1 : IntKind.i64.wrap ((i : Int) - 1) = ((i - 1 : Nat) : Int) := by rw [IntKind.wrap_i64]; omega
      have dL : decide ((x.fr : Int) < (y.fr : Int)) = false := by simp; omega
      have dLn : decide (x.fr < y.fr) = false := by simp; omega
      have keepR : Hid (∀ w', Below wd.heap.size wd w' → w'.cell? ⟨g, i * 3, none⟩ = some (.int .i64 (x.fr : Nat)) ∧ w'.cell? ⟨g, i * 3 + 1, none⟩ = some (.int .i64 (x.rc : Nat)) ∧ w'.cell? ⟨g, (i - 1) * 3, none⟩ = some (.int .i64 (y.fr : Nat)) ∧ w'.cell? ⟨g, (i - 1) * 3 + 1, none⟩ = some (.int .i64 (y.rc : Nat))) := Lib.hid (fun w' hb => ⟨bel1 hb C0.out hgw, bel1 hb C1.out hgw, bel1 hb D0.out hgw, bel1 hb D1.out hgw⟩)
      clear hy hi0
      by_cases hxy : x.fr = y.fr
      ·have dE : ((x.fr : Int) == (y.fr : Int)) = true := by rw [hxy]; simp
       have dEn : (x.fr == y.fr) = true := by rw [hxy]; simp
       have dR : decide ((x.rc : Int) ≤ (y.rc : Int)) = false := by simp; omega
       have dRn : decide (x.rc ≤ y.rc) = false := by simp; omega
       clear hsort hxy
       refine wp_region_held_drew (S := fun w' => w'.cell? ⟨g, i * 3, none⟩ = some (.int .i64 (x.fr : Nat)) ∧ w'.cell? ⟨g, i * 3 + 1, none⟩ = some (.int .i64 (x.rc : Nat)) ∧ w'.cell? ⟨g, (i - 1) * 3, none⟩ = some (.int .i64 (y.fr : Nat)) ∧ w'.cell? ⟨g, (i - 1) * 3 + 1, none⟩ = some (.int .i64 (y.rc : Nat))) (by kernel_rfl) (keepR.out _ VL.out) (fun hHeld => ?_)
       refine wtk_begin [0, 1, 2, 3, 4, 5, 6, 7, 8, 9, 10, 11, 12, 13, 14, 15, 16, 17, 18, 19, 20, 21, 22, 23, 24, 25, 26, 27, 28, 29, 30, 31, 32, 33, 34, 35, 36, 37, 38, 39, 40, 41, 42, 43] ?_
       iterate 44 (refine wtk (v := ?_) rfl (by kernel_rfl) (fun _ _ _ h => h) (by kernel_rfl) ?_ (by assumption) ?_; rotate_left; (focus intro w0 hSw; (try dsimp only at hSw); go_simp; all_goals (with_reducible rfl)); simp only [Act.put, List.setIfInBounds_toArray, List.set_cons_zero, List.set_cons_succ])
       refine wtk_end ?_
       refine wpAnyH_done (by kernel_rfl) ?_ _
       (try simp only [List.getElem_toArray, List.getElem_cons_succ, List.getElem_cons_zero, Act.put, List.setIfInBounds_toArray, List.set_cons_zero, List.set_cons_succ])
       go_wp2
       go_meet
       case rel => exact ⟨rfl, VL⟩
      ·have dE : ((x.fr : Int) == (y.fr : Int)) = false := by simp; omega
       have dEn : (x.fr == y.fr) = false := by simp; omega
       clear hsort hxy
       refine wp_region_held_drew (S := fun w' => w'.cell? ⟨g, i * 3, none⟩ = some (.int .i64 (x.fr : Nat)) ∧ w'.cell? ⟨g, i * 3 + 1, none⟩ = some (.int .i64 (x.rc : Nat)) ∧ w'.cell? ⟨g, (i - 1) * 3, none⟩ = some (.int .i64 (y.fr : Nat)) ∧ w'.cell? ⟨g, (i - 1) * 3 + 1, none⟩ = some (.int .i64 (y.rc : Nat))) (by kernel_rfl) (keepR.out _ VL.out) (fun hHeld => ?_)
       refine wtk_begin [0, 1, 2, 3, 4, 5, 6, 7, 8, 9, 10, 11, 12, 13, 14, 15, 16, 17, 18, 19, 20, 21, 22, 23, 24, 25, 26, 27, 28] ?_
       iterate 29 (refine wtk (v := ?_) rfl (by kernel_rfl) (fun _ _ _ h => h) (by kernel_rfl) ?_ (by assumption) ?_; rotate_left; (focus intro w0 hSw; (try dsimp only at hSw); go_simp; all_goals (with_reducible rfl)); simp only [Act.put, List.setIfInBounds_toArray, List.set_cons_zero, List.set_cons_succ])
       refine wtk_end ?_
       refine wtk_begin [29, 30, 31, 32, 33, 34, 35, 36, 37, 38, 39, 40] ?_
       iterate 12 (refine wtk_un rfl (by kernel_rfl) (fun _ _ _ h => h) (by kernel_rfl) (by assumption) ?_; simp only [List.getElem_toArray, List.getElem_cons_succ, List.getElem_cons_zero, Act.put, List.setIfInBounds_toArray, List.set_cons_zero, List.set_cons_succ])
       refine wtk_end ?_
       refine wtk_begin [41, 42, 43] ?_
       iterate 3 (refine wtk (v := ?_) rfl (by kernel_rfl) (fun _ _ _ h => h) (by kernel_rfl) ?_ (by assumption) ?_; rotate_left; (focus intro w0 hSw; (try dsimp only at hSw); go_simp; all_goals (with_reducible rfl)); simp only [Act.put, List.setIfInBounds_toArray, List.set_cons_zero, List.set_cons_succ])
       refine wtk_end ?_
       refine wpAnyH_done (by kernel_rfl) ?_ _
       (try simp only [List.getElem_toArray, List.getElem_cons_succ, List.getElem_cons_zero, Act.put, List.setIfInBounds_toArray, List.set_cons_zero, List.set_cons_succ])
       go_wp2
       go_meet
       case rel => exact ⟨rfl, VL⟩
    case rest =>
     clear VL
     obtain ⟨rfl, VL⟩ := hcut
     have KW := Lib.hid (KW.out.trans (VL.out.mono KW.out.size))
     have HO := Lib.hid (own_kept HO.out VL.out)
     have c0 := bel1 KW.out (HPR.out.c0 i h) hgs
     have c2 := bel1 KW.out (HPR.out.c2 i h) hgs
     rw [← HX.out] at c0 c2
     clear VL C0 C1 C2
     generalize wc = wf at *
     clear wc
     have hfr := HOK.out.fr
     have hrc := HOK.out.rc
     have hne := HOK.out.ne
     have hlow := HOK.out.low
     have hhigh := HOK.out.high
     have hlr := rowIs_own HO.out (by omega)
     have il := fun W => ixI hlr x.fr cl hfr W
     have cc := hlr.cell x.fr hfr
     have fr := HO.out.frozenAt x.fr
     have hb1 := HBD.out i x.fr hfr
     have hb2 := HBD.out i x.rc hrc
     have hw : IntKind.i64.wrap (leftK f P i x.fr + x.am) = leftK f P i x.fr + x.am := by rw [IntKind.wrap_i64]; omega
     simp only [ic, Nat.zero_add] at il cc
     go_wp2
     go_region
     have HO2 := Lib.hid (own_kept (own_ints_set HO.out x.fr (leftK f P i x.fr + x.am)) (Below.refl _ _).drew)
     have KW := Lib.hid (KW.out.setCell (show w.heap.size ≤ (⟨gl, x.fr, none⟩ : Addr).block from (HO.out.lt gl rfl).1) (.int .i64 (leftK f P i x.fr + x.am))).drew
     clear il cc fr hlr hw c0 c2
     generalize (wf.setCell ⟨gl, x.fr, none⟩ (.int .i64 (leftK f P i x.fr + x.am))).drew = wg at HO2 KW ⊢
     have c1 := bel1 KW.out (HPR.out.c1 i h) hgs
     have c2 := bel1 KW.out (HPR.out.c2 i h) hgs
     rw [← HX.out] at c1 c2
     have hlr := rowIs_own HO2.out (by omega)
     have il := fun W => ixI hlr x.rc cl hrc W
     have cc := hlr.cell x.rc hrc
     have fr := HO2.out.frozenAt x.rc
     have hw : IntKind.i64.wrap (leftK f P i x.rc - x.am) = leftK f P i x.rc - x.am := by rw [IntKind.wrap_i64]; omega
     simp only [ic, Nat.zero_add, setN, if_neg (show ¬ x.rc = x.fr from fun e => hne e.symm)] at il cc
     go_wp2
     go_region
     have HO3 := Lib.hid (own_kept (own_ints_set HO2.out x.rc (leftK f P i x.rc - x.am)) (Below.refl _ _).drew)
     have KW := Lib.hid (KW.out.setCell (show w.heap.size ≤ (⟨gl, x.rc, none⟩ : Addr).block from (HO2.out.lt gl rfl).1) (.int .i64 (leftK f P i x.rc - x.am))).drew
     rw [leftK_step f P i h x HX.out hne] at HO3
     clear il cc fr hlr hw c1 c2
     generalize (wg.setCell ⟨gl, x.rc, none⟩ (.int .i64 (leftK f P i x.rc - x.am))).drew = wh at HO3 KW ⊢
     go_wp2
     go_roundw
     case rel => exact ⟨i + 1, by omega, by go_num, HO3, KW⟩
     case measure => simp [intOf]; omega
  ·obtain rfl : i = P.length := by omega
   have e1 : decide (((P.length : Nat) : Int) < ((P.length : Nat) : Int)) = false := by simp
   have hz : ∀ j, j < n → leftK f P P.length j = 0 := fun j hj => by unfold leftK; rw [List.take_length]; exact HS.out.bal j hj
   have HZ := Lib.hid hz
   clear hz
   generalize wr = wz at *
   clear wr
   have hlr := Lib.hid (rowIs_own HO.out (by omega))
   go_wp2
   go_loopw [7] (fun v7 wr => ∃ j : Nat, j ≤ n ∧ v7 = .int .i64 (j : Nat) ∧ wr = wz) (fun v7 _ => n - (intOf v7).toNat)
   case atStart => exact ⟨0, by omega, rfl, rfl⟩
   case round =>
    obtain ⟨j, hj, rfl, rfl⟩ := hrel
    by_cases h2 : j < n
    ·have e2 : decide ((j : Int) < (n : Int)) = true := by simpa using h2
     have e2n : decide (j < n) = true := by simpa using h2
     have il := fun W => ixI hlr.out j cl h2 W
     have cc := hlr.out.cell j h2
     simp only [ic, Nat.zero_add, HZ.out j h2] at il cc
     go_wp2
     go_roundw
     case rel => exact ⟨j + 1, by omega, by go_num, by first | rfl | trivial⟩
     case measure => simp [intOf]; omega
    ·obtain rfl : j = n := by omega
     have e2 : decide ((j : Int) < (j : Int)) = false := by simp
     go_wp2
     go_ret
     exact ⟨rfl, KW.out⟩
end Go.Proofs.YtcnaagiicpkcpaaGreat

/- The reference's Balances, its sums and members of sets, Before. -/
namespace Go.Proofs.YtcnaagiicpkcpaaGreat
open Go.RowKit
attribute [local go_sem ↓] Go.wp_at_zero Go.wp_at_succ
set_option maxHeartbeats 2000000 in
set_option maxRecDepth 100000 in
theorem before_any (v1 v2 : Value) (n m : Nat) (f g : Nat → Int) (w : World) (h1 : Ints w v1 n f) (h2 : Ints w v2 m g) (hn : n ≤ 1048576) (hm : m ≤ 1048576) :
  Calls Tryz.prog 30 #[v1, v2] w fun e w' => e = .returned (.bool (decide (lexC f g n m n 0 < 0))) ∧ Drawn w w' := by
 obtain ⟨a1, b1, o1, c1, rfl, s1⟩ := h1
 obtain ⟨a2, b2, o2, c2, rfl, s2⟩ := h2
 have S1 := Lib.hid s1
 have S2 := Lib.hid s2
 clear s1 s2
 go_enter Tryz.func30, Tryz.ntmps30
 go_wp2
 go_loopw [5] (fun v5 wr => ∃ k : Nat, k ≤ n ∧ k ≤ m ∧ v5 = .int .i64 (k : Nat) ∧ Hid (lexC f g n m n 0 = lexC f g n m (n - k) k) ∧ Hid (Drawn w wr)) (fun v5 _ => n - (intOf v5).toNat)
 case atStart => exact ⟨0, by omega, by omega, rfl, Lib.hid rfl, Lib.hid (Drawn.refl _)⟩
 case round =>
  obtain ⟨k, hk, hkm, rfl, HX, hd⟩ := hrel
  by_cases h : k < n
  ·have d1 : decide ((k : Int) < (n : Int)) = true := by simpa using h
   have d1n : decide (k < n) = true := by simpa using h
   have hstep : lexC f g n m (n - k) k = if m ≤ k then 1 else if cmp3 (f k) (g k) = 0 then lexC f g n m (n - (k + 1)) (k + 1) else cmp3 (f k) (g k) := by
    rw [show n - k = (n - (k + 1)) + 1 by omega]; rfl
   by_cases h2 : k < m
   ·rw [if_neg (by omega)] at hstep
    have d2 : decide ((k : Int) < (m : Int)) = true := by simpa using h2
    have d2n : decide (k < m) = true := by simpa using h2
    have ix1 := fun W => ixI S1.out k c1 h W
    have ix2 := fun W => ixI S2.out k c2 h2 W
    have x1 := (S1.out.drawn hd.out).cell k h
    have x2 := (S2.out.drawn hd.out).cell k h2
    simp only [ic] at x1 x2
    by_cases he : f k = g k
    ·have d3 : (f k != g k) = false := by simpa using he
     rw [if_pos (by unfold cmp3; rw [if_neg (by omega), if_neg (by omega)])] at hstep
     have HST := Lib.hid hstep
     clear hstep he
     go_wp2
     go_quiet (fail)
     go_wp2
     go_roundw
     case rel => exact ⟨k + 1, by omega, by omega, by go_num, Lib.hid (HX.out.trans HST.out), Lib.hid (hd.out.trans (Drawn.of _ _))⟩
     case measure => simp [intOf]; omega
    ·have d3 : (f k != g k) = true := by simpa using he
     have hlt : (lexC f g n m n 0 < 0) ↔ f k < g k := by
      rw [HX.out, hstep, if_neg (by unfold cmp3; split <;> (try split) <;> omega)]
      unfold cmp3
      split <;> (try split) <;> omega
     have HLT := Lib.hid hlt
     have y1 := x1
     have y2 := x2
     clear hstep he hlt
     go_wp2
     go_quiet (fail)
     go_wp2
     go_quiet (fail)
     go_wp2
     go_ret
     refine ⟨?_, (hd.out.step _).step _⟩
     all_goals (rw [decide_eq_decide.2 HLT.out]; rfl)
   ·obtain rfl : k = m := by omega
    rw [if_pos (Nat.le_refl _)] at hstep
    have d2 : decide ((k : Int) < (k : Int)) = false := by simp
    have d3 : decide ((n : Int) < (k : Int)) = false := by simp; omega
    have d3n : decide (n < k) = false := by simp; omega
    have HST := Lib.hid hstep
    clear hstep h2
    go_wp2
    go_ret
    refine ⟨?_, hd.out⟩
    rw [HX.out, HST.out]; rfl
  ·obtain rfl : k = n := by omega
   have d1 : decide ((k : Int) < (k : Int)) = false := by simp
   have HST : Hid (lexC f g k m (k - k) k = if k < m then -1 else 0) := Lib.hid (by rw [Nat.sub_self]; rfl)
   go_wp2
   go_ret
   refine ⟨?_, hd.out⟩
   rw [HX.out, HST.out]
   by_cases e : k < m
   ·simp [e]
   ·simp [e]
end Go.Proofs.YtcnaagiicpkcpaaGreat

/- ref.SameLists of equal lists, by Before of any two. -/
namespace Go.Proofs.YtcnaagiicpkcpaaGreat
open Go.RowKit
attribute [local go_sem ↓] Go.wp_at_zero Go.wp_at_succ
theorem lexC_same (f : Nat → Int) (n : Nat) : ∀ u k, u + k = n → lexC f f n n u k = 0
 | 0, k, h => by simp [lexC]
 | u + 1, k, h => by
  unfold lexC
  rw [if_neg (by omega), if_pos (by unfold cmp3; rw [if_neg (by omega), if_neg (by omega)])]
  exact lexC_same f n u (k + 1) (by omega)
theorem before_same (v1 v2 : Value) (n : Nat) (f : Nat → Int) (w : World) (h1 : Ints w v1 n f) (h2 : Ints w v2 n f) (hn : n ≤ 1048576) :
  Calls Tryz.prog 30 #[v1, v2] w fun e w' => e = .returned (.bool false) ∧ Drawn w w' := by
 have h := before_any v1 v2 n n f f w h1 h2 hn hn
 rw [lexC_same f n n 0 (by omega)] at h
 exact h
theorem same_same (v1 v2 : Value) (n : Nat) (f : Nat → Int) (w : World) (h1 : Ints w v1 n f) (h2 : Ints w v2 n f) (hn : n ≤ 1048576) :
  Calls Tryz.prog 31 #[v1, v2] w fun e w' => e = .returned (.bool true) ∧ Drawn w w' := by
 have H1 := Lib.hid h1
 have H2 := Lib.hid h2
 have HD := Lib.hid (Drawn.refl w)
 clear h1 h2
 go_enter Tryz.func31, Tryz.ntmps31
 go_wp2_with (first
  | (go_at_call 30; (with_reducible refine (before_same v1 v2 n f _ (H1.out.drawn HD.out) (H2.out.drawn HD.out) hn).mono ?_); rintro e w1 ⟨rfl, hd⟩; have HD := Lib.hid (HD.out.trans hd); clear hd)
  | (go_at_call 30; (with_reducible refine (before_same v2 v1 n f _ (H2.out.drawn HD.out) (H1.out.drawn HD.out) hn).mono ?_); rintro e w2 ⟨rfl, hd⟩; have HD := Lib.hid (HD.out.trans hd); clear hd))
 go_ret
 exact ⟨rfl, HD.out⟩
set_option maxHeartbeats 2000000 in
set_option maxRecDepth 100000 in
theorem lists_same (v1 v2 : Value) (n : Nat) (m : Nat → Nat) (f : Nat → Nat → Int) (w : World) (h1 : Mat w v1 n m f) (h2 : Mat w v2 n m f) (hn : n ≤ 1048576) (hm : ∀ i, i < n → m i ≤ 1048576) :
  Calls Tryz.prog 11 #[v1, v2] w fun e w' => e = .returned (.bool true) ∧ Drawn w w' := by
 obtain ⟨a1, b1, o1, c1, ra1, rb1, ro1, rc1, rfl, s1⟩ := h1
 obtain ⟨a2, b2, o2, c2, ra2, rb2, ro2, rc2, rfl, s2⟩ := h2
 have S1 := Lib.hid s1
 have S2 := Lib.hid s2
 have HM := Lib.hid hm
 clear s1 s2 hm
 have d0 : ((n : Int) != (n : Int)) = false := by simp
 go_enter Tryz.func11, Tryz.ntmps11
 go_wp2
 go_loopw [5] (fun v5 wr => ∃ k : Nat, k ≤ n ∧ v5 = .int .i64 (k : Nat) ∧ Hid (Drawn w wr)) (fun v5 _ => n - (intOf v5).toNat)
 case atStart => exact ⟨0, by omega, rfl, Lib.hid (Drawn.refl _)⟩
 case round =>
  obtain ⟨k, hk, rfl, hd⟩ := hrel
  by_cases h : k < n
  ·have d1 : decide ((k : Int) < (n : Int)) = true := by simpa using h
   have ix1 := fun W => ixM S1.out.top k c1 h W
   have ix2 := fun W => ixM S2.out.top k c2 h W
   have x1 := (S1.out.top.drawn hd.out).cell k h
   have x2 := (S2.out.top.drawn hd.out).cell k h
   go_wp2
   go_region_with (go_at_call 31; refine (same_same _ _ (m k) (f k) _ ⟨_, _, _, _, rfl, ((S1.out.drawn hd.out).row k h).drew⟩ ⟨_, _, _, _, rfl, ((S2.out.drawn hd.out).row k h).drew⟩ (HM.out k h)).mono ?_; rintro e w1 ⟨rfl, hd1⟩)
   all_goals
    have HDD := Lib.hid (hd.out.drew.trans hd1)
    clear hd1
    go_wp2
    go_roundw
    case rel => exact ⟨k + 1, by omega, by go_num, HDD⟩
    case measure => simp [intOf]; omega
  ·obtain rfl : k = n := by omega
   have d1 : decide ((k : Int) < (k : Int)) = false := by simp
   go_wp2
   go_ret
   exact ⟨rfl, hd.out⟩
end Go.Proofs.YtcnaagiicpkcpaaGreat
