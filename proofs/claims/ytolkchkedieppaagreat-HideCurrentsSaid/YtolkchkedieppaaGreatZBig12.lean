/- The reference's numbers: the walk of Mul; Cmp. -/
import Derived.Test.YtolkchkedieppaaGreatZBig7
set_option linter.unusedVariables false
set_option linter.unusedSimpArgs false
namespace Go.Proofs.YtolkchkedieppaaGreat
open Go.RowKit
attribute [local go_sem ↓] Go.wp_at_zero Go.wp_at_succ
set_option maxHeartbeats 8000000 in
set_option maxRecDepth 100000 in
theorem bmul_dg (u v : Value) (s t : Bool) (x y : Nat) (w : World) (hu : Dg w u x) (hv : Dg w v y) (bxy : nd x + nd y ≤ 549755813888) :
    Calls Tryz.prog 129 #[.agg #[.bool s, u], .agg #[.bool t, v]] w fun e w' => ∃ r, e = .returned (.agg #[.bool ((s != t) && decide (0 < x * y)), r]) ∧ Dg w' r (x * y) ∧ Below w.heap.size w w' := by
  obtain ⟨a1, b1, o1, c1', rfl, s1⟩ := hu
  obtain ⟨a2, b2, o2, c2', rfl, s2⟩ := hv
  have S1 := Lib.hid s1
  have S2 := Lib.hid s2
  obtain ⟨N, hN⟩ : ∃ N, N = nd x + nd y + 1 := ⟨_, rfl⟩
  have hmk := run_make_row' (P := Tryz.prog) 22 3 (.int .i64 0) 8 Tryz.underlying22 infoI rfl .i64 .i64 N (by omega) (by omega)
  have hw1 : IntKind.i64.wrap (((nd x : Nat) : Int) + ((nd y : Nat) : Int) + 1) = (N : Int) := by rw [IntKind.wrap_i64]; omega
  have hN1 : nd x + nd y < N := by omega
  have hN2 : N ≤ 549755813889 := by omega
  clear s1 s2
  have MS0 : Hid (MulS w ((((w.alloc (.cells #[.bool s, .slice a1 (nd x) c1'] 57)).alloc (.cells #[.bool t, .slice a2 (nd y) c2'] 57)).alloc (.cells #[.bool false, .slice none 0 0] 57)).alloc (.cells (madeCells #[.int .i64 0] N) 3)) (w.heap.size + 1 + 1 + 1) N s t (.slice a1 (nd x) c1') (.slice a2 (nd y) c2') (fun _ => 0)) := Lib.hid (by
    have hr := World.rowIs_made (((w.alloc (.cells #[.bool s, .slice a1 (nd x) c1'] 57)).alloc (.cells #[.bool t, .slice a2 (nd y) c2'] 57)).alloc (.cells #[.bool false, .slice none 0 0] 57)) (.int .i64 0) N 3
    simp only [World.size_alloc] at hr
    exact ⟨(((own2_new w _ rfl _ _ _).alloc _).alloc _).alloc _, ((own2_new _ _ (by simp) _ _ _).alloc _).alloc _, (own2_new _ _ (by simp) _ _ _).alloc _, hr, ((boxes3 w _ _ _).alloc (by simp; omega) _), by omega⟩)
  have HN := Lib.hid hN
  clear hN
  go_enter Tryz.func129, Tryz.ntmps129
  go_wp2_with fail
  generalize World.alloc _ _ = w4 at MS0 ⊢
  clear hmk hw1
  go_loopw [6, 7, 8, 9] (fun v6 _ _ _ wr => ∃ i : Nat, i ≤ nd x ∧ v6 = .int .i64 (i : Nat) ∧ ∃ f, Hid (MulI x y i f) ∧ Hid (MulS w wr (w.heap.size + 1 + 1 + 1) N s t (.slice a1 (nd x) c1') (.slice a2 (nd y) c2') f)) (fun v6 _ _ _ _ => nd x - (intOf v6).toNat)
  case atStart => exact ⟨0, by omega, rfl, fun _ => 0, Lib.hid ⟨fun _ => by omega, fun _ _ => rfl, by
    have : ∀ n, valD (fun _ => 0) n = 0 := fun n => by induction n with | zero => rfl | succ n ih => simp [valD, ih]
    rw [this]; simp [valD]⟩, MS0⟩
  case round =>
    clear MS0
    obtain ⟨i, hi, rfl, f0, MI, MS⟩ := hrel
    have pa0 := MS.out.oa.c0
    have pa1 := MS.out.oa.c1
    have pb0 := MS.out.ob.c0
    have pb1 := MS.out.ob.c1
    by_cases h : i < nd x
    · have d1 : decide ((i : Int) < ((nd x : Nat) : Int)) = true := by simpa using h
      have d1n : decide (i < nd x) = true := by simpa using h
      go_wp2_with fail
      clear pa0 pa1 pb0 pb1
      go_loopw [7, 8, 9] (fun v7 v8 _ wr => ∃ k c : Nat, k ≤ nd y + 1 ∧ v8 = .int .i64 (k : Nat) ∧ v7 = .int .i64 (c : Nat) ∧ c < 10000 ∧ ∃ f, Hid (MulK x y i k c f0 f) ∧ Hid (k ≤ nd y ∨ c = 0) ∧ Hid (MulS w wr (w.heap.size + 1 + 1 + 1) N s t (.slice a1 (nd x) c1') (.slice a2 (nd y) c2') f)) (fun _ v8 _ _ => nd y + 1 - (intOf v8).toNat)
      case atStart => exact ⟨0, 0, by omega, rfl, rfl, by omega, f0, Lib.hid (MulK.start MI.out.lt), Lib.hid (.inl (by omega)), MS⟩
      case round =>
        clear MS
        obtain ⟨k, c, hk, rfl, rfl, hc, f, MK, HC, MS⟩ := hrel
        have pa1 := MS.out.oa.c1
        have pb1 := MS.out.ob.c1
        go_upto_region 7 with (fail)
        go_cut [34] (fun v34 wx => v34 = .bool (decide (k < nd y ∨ 0 < c)) ∧ Hid (MulS w wx (w.heap.size + 1 + 1 + 1) N s t (.slice a1 (nd x) c1') (.slice a2 (nd y) c2') f))
        case first =>
          by_cases q1 : k < nd y
          · have d2 : decide ((k : Int) < ((nd y : Nat) : Int)) = true := by simpa using q1
            have d2n : decide (k < nd y) = true := by simpa using q1
            have HE : Hid (decide (k < nd y ∨ 0 < c) = true) := Lib.hid (by simp [q1])
            go_wp2
            go_meet
            case rel => exact ⟨by rw [HE.out], MS⟩
          · have d2 : decide ((k : Int) < ((nd y : Nat) : Int)) = false := by simpa using q1
            have d2n : decide (k < nd y) = false := by simpa using q1
            by_cases q2 : 0 < c
            · have d3 : decide ((0 : Int) < (c : Int)) = true := by simpa using q2
              have HE : Hid (decide (k < nd y ∨ 0 < c) = true) := Lib.hid (by simp [q2])
              go_wp2
              go_meet
              case rel => exact ⟨by rw [HE.out], MS⟩
            · have d3 : decide ((0 : Int) < (c : Int)) = false := by simpa using q2
              have HE : Hid (decide (k < nd y ∨ 0 < c) = false) := Lib.hid (by simp [q1, q2])
              go_wp2
              go_meet
              case rel => exact ⟨by rw [HE.out], MS⟩
        case rest =>
          clear MS pa1 pb1
          obtain ⟨rfl, MS⟩ := hcut
          by_cases cc : k < nd y ∨ 0 < c
          · have e0 : decide (k < nd y ∨ 0 < c) = true := by simpa using cc
            rw [e0]
            have hky : k ≤ nd y := by have := HC.out; omega
            have hik : i + k < N := by omega
            have hdx := dg_lt x i
            have hdy := dg_lt y k
            have hfl := MK.out.lt (i + k)
            have pa1 := MS.out.oa.c1
            have pb1 := MS.out.ob.c1
            have bx := fun W => ixI (rowIs_sl MS.out.row) (i + k) N hik W
            have bc := MS.out.row.cell hik
            simp only [Nat.zero_add, ic, dI, Int.natCast_add] at bx bc
            have hw2 : IntKind.i64.wrap ((i : Int) + (k : Int)) = (i : Int) + (k : Int) := by rw [IntKind.wrap_i64]; omega
            have g0 : (0 : Int) ≤ (i : Int) + (k : Int) := by omega
            have g1 : (i : Int) + (k : Int) < (N : Int) := by omega
            have g2 : ((i : Int) + (k : Int)).toNat = i + k := by omega
            clear e0 cc
            go_upto_if 49 with (fail)
            clear bx bc
            have hpp : dg x i * dg y k ≤ 9999 * 9999 := Nat.mul_le_mul (by omega) (by omega)
            obtain ⟨pr, hpr⟩ : ∃ pr, pr = dg x i * dg y k := ⟨_, rfl⟩
            have hpi : ((dg x i : Nat) : Int) * ((dg y k : Nat) : Int) = (pr : Int) := by rw [hpr, Int.natCast_mul]
            have hwp : IntKind.i64.wrap (((dg x i : Nat) : Int) * ((dg y k : Nat) : Int)) = (pr : Int) := by rw [hpi, IntKind.wrap_i64]; omega
            have HPR := Lib.hid hpr
            rw [← hpr] at hpp
            obtain ⟨sm, hsm⟩ : ∃ sm, sm = f (i + k) + c := ⟨_, rfl⟩
            have hsi : ((f (i + k) : Nat) : Int) + (c : Int) = (sm : Int) := by omega
            rw [hsi]
            have hsl : sm ≤ 20000 := by omega
            have HSM := Lib.hid hsm
            clear hpr hsm hsi
            go_cut [9] (fun v9 wx => v9 = .int .i64 ((sm + pr : Nat) : Int) ∧ Hid (MulS w wx (w.heap.size + 1 + 1 + 1) N s t (.slice a1 (nd x) c1') (.slice a2 (nd y) c2') f))
            case first =>
              by_cases q1 : k < nd y
              · have d2 : decide ((k : Int) < ((nd y : Nat) : Int)) = true := by simpa using q1
                have d2n : decide (k < nd y) = true := by simpa using q1
                have ix1 := fun W => ixI S1.out i c1' h W
                have cl1 := (S1.out.mono MS.out.kw (Nat.le_refl _)).cell i h
                have ix2 := fun W => ixI S2.out k c2' q1 W
                have cl2 := (S2.out.mono MS.out.kw (Nat.le_refl _)).cell k q1
                simp only [ic, dI] at cl1 cl2
                have hw3 : IntKind.i64.wrap ((sm : Int) + (pr : Int)) = ((sm + pr : Nat) : Int) := by rw [IntKind.wrap_i64]; omega
                go_wp2
                go_quiet (fail)
                go_wp2
                go_meet
                case rel => exact ⟨by first | rfl | simp, Lib.hid (MS.out.drawn (Drawn.of _ _))⟩
              · have d2 : decide ((k : Int) < ((nd y : Nat) : Int)) = false := by simpa using q1
                have d2n : decide (k < nd y) = false := by simpa using q1
                have HZ : Hid (pr = 0) := Lib.hid (by rw [HPR.out, dg_far y k (by omega)]; simp)
                go_wp2
                go_meet
                case rel => exact ⟨by rw [HZ.out]; simp, MS⟩
            case rest =>
              clear MS pa1 pb1
              obtain ⟨rfl, MS⟩ := hcut
              obtain ⟨z, hz⟩ : ∃ z, z = sm + pr := ⟨_, rfl⟩
              rw [← hz]
              have hzl : z ≤ 99999999 := by rw [hz]; have := HSM.out; omega
              have hst := MK.out.step
              rw [show f (i + k) + c + dg x i * dg y k = z by rw [hz, HSM.out, HPR.out]] at hst
              have HC2 : Hid (k + 1 ≤ nd y ∨ z / 10000 = 0) := Lib.hid (by
                by_cases e : k = nd y
                · right
                  have z1 := MI.out.zero (i + k) (by omega)
                  have z2 := MK.out.same (i + k) (Nat.le_refl _)
                  have z3 := dg_far y k (by omega)
                  rw [hz, HSM.out, HPR.out, z2, z1, z3]; simp; omega
                · left; omega)
              have hq : ((z : Nat) : Int) / 10000 = ((z / 10000 : Nat) : Int) := rfl
              have hm : ((z : Nat) : Int) % 10000 = ((z % 10000 : Nat) : Int) := rfl
              obtain ⟨d, hd⟩ : ∃ d, d = z % 10000 := ⟨_, rfl⟩
              obtain ⟨cz, hcz⟩ : ∃ cz, cz = z / 10000 := ⟨_, rfl⟩
              have hczl : cz < 10000 := by rw [hcz]; omega
              rw [← hd] at hm hst
              rw [← hcz] at hq hst HC2
              have HST := Lib.hid hst
              have bx := fun W => ixI (rowIs_sl MS.out.row) (i + k) N hik W
              have bc := MS.out.row.cell hik
              have bf := MS.out.row.frozen (i + k)
              simp only [Nat.zero_add, ic, dI, Int.natCast_add] at bx bc
              clear hz hd hcz hst
              go_wp2
              go_roundw
              case rel => exact ⟨k + 1, cz, by omega, by go_num, rfl, hczl, _, HST, HC2, Lib.hid (MS.out.set (i + k) d)⟩
              case measure => simp [intOf]; omega
          · have e0 : decide (k < nd y ∨ 0 < c) = false := by simpa using cc
            rw [e0]
            have hc0 : c = 0 := by omega
            subst hc0
            have HD := Lib.hid (MI.out.done MK.out (by omega) hk)
            clear e0 cc
            go_wp2
            go_roundw
            case rel => exact ⟨i + 1, by omega, by go_num, f, HD, MS⟩
            case measure => simp [intOf]; omega
    · obtain rfl : i = nd x := by omega
      have d1 : decide (((nd x : Nat) : Int) < ((nd x : Nat) : Int)) = false := by simp
      have HVAL : Hid (valD f0 N = x * y) := Lib.hid (by
        rw [HN.out]
        simp only [valD]
        rw [MI.out.zero (nd x + nd y) (Nat.le_refl _), MI.out.val, valD_nd]; omega)
      have HRAW : Hid (Raw wr (.slice (some ⟨w.heap.size + 1 + 1 + 1, 0, none⟩) N N) N f0) := Lib.hid ⟨_, _, _, _, rfl, rowIs_sl MS.out.row⟩
      have HLT : Hid (∀ j, j < N → f0 j < 10000) := Lib.hid (fun j _ => MI.out.lt j)
      have hn40 : N ≤ 1099511627776 := by omega
      have OR := Lib.hid MS.out.orr
      have KW := Lib.hid MS.out.kw
      go_wp2_with (go_at_call 153; (refine (lean_val _ (s != t) N f0 (x * y) _ HRAW.out HLT.out HVAL.out hn40).mono ?_); rintro e w5 ⟨a5, c5, rfl, hm5, hb5⟩; have HM5 := Lib.hid hm5; have OR := Lib.hid (OR.out.below hb5 OR.out.lt); have KW := Lib.hid (KW.out.trans (hb5.mono KW.out.size)); have r0 := OR.out.c0; have r1 := OR.out.c1; have rf := OR.out.f; have rl := OR.out.lt; clear hm5 hb5)
      refine bodyPost_ret (v := .agg #[.bool ((s != t) && decide (0 < x * y)), .slice a5 (nd (x * y)) c5]) (by simp [results, Tryz.results129, go_sem, r0, r1, rf, rl]) rfl ?_
      exact ⟨_, rfl, HM5.out.store2 _ _ (v0 := .bool false) (v1 := .slice none 0 0) r0 r1 (noInt_bool _) (noInt_slice _ _ _), (KW.out.setCell (by dsimp only; omega) _).setCell (by dsimp only; omega) _⟩
end Go.Proofs.YtolkchkedieppaaGreat

/- The reference's numbers: Mul whole, Cmp. -/
namespace Go.Proofs.YtolkchkedieppaaGreat
open Go.RowKit
attribute [local go_sem ↓] Go.wp_at_zero Go.wp_at_succ
theorem zmul_any (x y : Value) (p q : Int) (k l : Nat) (w : World) (ha : ZIs w x p k) (hb : ZIs w y q l) (hk : k + l ≤ 549755813888) :
    Calls Tryz.prog 129 #[x, y] w fun e w' => ∃ r, e = .returned r ∧ ZIs w' r (p * q) (k + l) ∧ Below w.heap.size w w' := by
  obtain ⟨u, rfl, hu, bu⟩ := ha
  obtain ⟨v, rfl, hv, bv⟩ := hb
  refine (bmul_dg u v _ _ _ _ w hu hv (by omega)).mono ?_
  rintro e w' ⟨r, rfl, hm, hb⟩
  refine ⟨_, rfl, ZIs.mk ?_ hm (nd_mul _ _ _ _ bu bv), hb⟩
  have e1 := sgn_of p
  have e2 := sgn_of q
  conv => lhs; rw [← e1, ← e2]
  unfold sgn
  by_cases h1 : p < 0 <;> by_cases h2 : q < 0 <;> simp [h1, h2, Int.neg_mul, Int.mul_neg]
set_option maxHeartbeats 2000000 in
theorem zcmp_any (x y : Value) (p q : Int) (k : Nat) (w : World) (ha : ZIs w x p k) (hb : ZIs w y q k) (hk : k ≤ 549755813888) :
    Calls Tryz.prog 86 #[x, y] w fun e w' => e = .returned (.int .i64 (sgZ (p - q))) ∧ Below w.heap.size w w' := by
  obtain ⟨s1, a1, n1, c1, rfl, HA⟩ := ha.shape
  obtain ⟨s2, a2, n2, c2, rfl, HQ⟩ := hb.shape
  clear ha hb
  have HB : Hid (Below w.heap.size w ((w.alloc (Obj.cells #[Value.bool s1, Value.slice a1 n1 c1] 57)).alloc (Obj.cells #[Value.bool s2, Value.slice a2 n2 c2] 57))) := boxes2 w _ _
  go_enter Tryz.func86, Tryz.ntmps86
  go_wp2_with (first | (go_at_call 130; refine (bsub_any _ _ p q k _ (HA.out.mono HB.out (Nat.le_refl _)) (HQ.out.mono HB.out (Nat.le_refl _)) hk).mono ?_; rintro e w1 ⟨r, rfl, hr, hb1⟩) | (go_at_call 83; refine (bsign_any _ (p - q) (k + 1) _ hr).mono ?_; rintro e w2 ⟨rfl, hb2⟩))
  go_ret
  exact ⟨rfl, HB.out.trans ((hb1.mono (by simp; omega)).trans (hb2.mono (by have := hb1.size; simp at this; omega)))⟩
end Go.Proofs.YtolkchkedieppaaGreat

/- The reference's numbers: Int. -/
namespace Go.Proofs.YtolkchkedieppaaGreat
open Go.RowKit
attribute [local go_sem ↓] Go.wp_at_zero Go.wp_at_succ
/-- a round of Int: the result's block, z's block, and z's digits so far -/
structure IntS (w wr : World) (s : Bool) (k V : Nat) (va : Option Addr) (vk : Nat) : Prop where
  orr : Own2 wr w.heap.size (.bool false) (.slice none 0 0)
  oz : Own2 wr (w.heap.size + 1) (.bool s) (.slice va k vk)
  row : wr.ownsRow (w.heap.size + 2) 3 1 (.slice va k vk) k (ics (dI (dg V)) k)
  kw : Below w.heap.size w wr
  sz : w.heap.size + 2 ≤ wr.heap.size
theorem IntS.start (w : World) (s : Bool) (V : Nat) : IntS w ((w.alloc (.cells #[.bool false, .slice none 0 0] 57)).alloc (.cells #[.bool s, .slice none 0 0] 57)) s 0 V none 0 :=
  ⟨(own2_new w _ rfl _ _ _).alloc _, own2_new _ _ (by simp) _ _ _, World.ownsRow_nil _ _ _ _, boxes2 w _ _, by simp⟩
theorem IntS.grown {w wr w5 : World} {s : Bool} {k V vk : Nat} {va : Option Addr} {v' : Value} {o : Obj} (h : IntS w wr s k V va vk) (hg : (wr.alloc o).grownBy w5 (Value.slice va k vk).ownBlock)
    (hown : w5.ownsRow (w.heap.size + 2) 3 1 v' (k + 1) (ics (dI (dg V)) k ++ [.int .i64 ((dg V k : Nat) : Int)])) :
    ∃ va' vk', v' = .slice va' (k + 1) vk' ∧ Own2 w5 (w.heap.size + 1) (.bool s) (.slice va k vk) ∧ IntS w (w5.setCell ⟨w.heap.size + 1, 1, none⟩ (.slice va' (k + 1) vk')) s (k + 1) V va' vk' := by
  obtain ⟨va', vk', rfl⟩ := own_shape hown
  have hl := h.row.lt
  have q1 := own2_block (h.orr.alloc o) hg (by intro e; have := (hl _ e.symm).1; omega)
  have q2 := own2_block (h.oz.alloc o) hg (by intro e; have := (hl _ e.symm).1; omega)
  rw [show ics (dI (dg V)) k ++ [Value.int .i64 ((dg V k : Nat) : Int)] = ics (dI (dg V)) (k + 1) from ics_succ _ _] at hown
  have hsz := hg.size
  have hs0 := h.sz
  simp only [World.size_alloc] at hsz
  refine ⟨va', vk', rfl, q2, q1.setCell _ _ _ (by omega), ⟨off_set (by decide) q2.c0, self_set q2.c1, fun o => by rw [World.frozen?_setCell]; exact q2.f o, by simp only [World.setCell, Array.size_modify]; exact q2.lt⟩, ownsRow_setCell_below hown (by dsimp only; omega) _, ?_, by simp only [World.setCell, Array.size_modify]; omega⟩
  exact ((h.kw.alloc h.kw.size o).grown hg (by simp; omega) (fun kk e => by have := (hl _ e).1; omega)).setCell (by dsimp only; omega) _
theorem IntS.done {w wr : World} {s : Bool} {V vk : Nat} {va : Option Addr} (h : IntS w wr s (nd V) V va vk) (u0 u1 : Value) : Dg ((wr.setCell ⟨w.heap.size, 0, none⟩ u0).setCell ⟨w.heap.size, 1, none⟩ u1) (.slice va (nd V) vk) V ∧ Below w.heap.size w ((wr.setCell ⟨w.heap.size, 0, none⟩ u0).setCell ⟨w.heap.size, 1, none⟩ u1) :=
  ⟨ints_of_own (ownsRow_setCell_below (ownsRow_setCell_below h.row (by dsimp only; omega) _) (by dsimp only; omega) _), (h.kw.setCell (by dsimp only; omega) _).setCell (by dsimp only; omega) _⟩
set_option maxHeartbeats 4000000 in
set_option maxRecDepth 100000 in
theorem zint_pos (V : Nat) (hV : V < 9223372036854775808) (w : World) :
    Calls Tryz.prog 76 #[.int .i64 (V : Nat)] w fun e w' => ∃ va vk, e = .returned (.agg #[.bool false, .slice va (nd V) vk]) ∧ Dg w' (.slice va (nd V) vk) V ∧ Below w.heap.size w w' := by
  obtain ⟨i0, hinf, hz0, hz1, hz2⟩ := info_parts infoI
  have hN2 : (V : Int) ≤ 9223372036854775808 := by omega
  have hdn : decide ((V : Nat) < 0) = false := by simp
  have hnd : nd V ≤ 5 := by rw [nd_le]; omega
  have HND := Lib.hid hnd
  have IS0 := Lib.hid (IntS.start w false V)
  clear hnd
  go_enter Tryz.func76, Tryz.ntmps76
  go_wp2_with fail
  clear hdn
  go_loopw [0, 4] (fun v0 _ wr => ∃ k X : Nat, k ≤ nd V ∧ v0 = .int .i64 (X : Nat) ∧ X ≤ V ∧ Hid (X = V / 10000 ^ k) ∧ ∃ va vk, Hid (IntS w wr false k V va vk)) (fun v0 _ _ => (intOf v0).natAbs)
  case atStart => exact ⟨0, V, by omega, rfl, Nat.le_refl _, Lib.hid (by simp), none, 0, IS0⟩
  case round =>
    clear IS0
    obtain ⟨k, X, hk, rfl, hXV, HX, va, vk, IS⟩ := hrel
    have p0 := IS.out.oz.c0
    have p1 := IS.out.oz.c1
    have pf := IS.out.oz.f
    have pl := IS.out.oz.lt
    have r0 := IS.out.orr.c0
    have r1 := IS.out.orr.c1
    have rf := IS.out.orr.f
    have rl := IS.out.orr.lt
    by_cases h0 : X = 0
    · have HK : Hid (k = nd V) := Lib.hid (by
        have h1 := HX.out
        have h2 : nd V ≤ k := by
          rw [nd_le]
          exact (Nat.div_eq_zero_iff_lt (Nat.pow_pos (by omega))).1 (by omega)
        omega)
      subst h0
      go_wp2_with fail
      obtain rfl := HK.out
      obtain ⟨g1, g2⟩ := IS.out.done (.bool false) (.slice va (nd V) vk)
      refine bodyPost_ret (v := .agg #[.bool false, .slice va (nd V) vk]) (by simp [results, Tryz.results76, go_sem, p0, p1, pf, pl, r0, r1, rf, rl]) rfl ?_
      exact ⟨va, vk, rfl, g1, g2⟩
    · have hkl : k < nd V := by
        rw [lt_nd]
        rcases Nat.lt_or_ge V (10000 ^ k) with h | h
        · exact absurd (HX.out.trans (Nat.div_eq_of_lt h)) h0
        · exact h
      have d1 : (((X : Nat) : Int) != 0) = true := by simp; omega
      obtain ⟨d, hd⟩ : ∃ d, d = X % 10000 := ⟨_, rfl⟩
      have hdl : d < 10000 := by rw [hd]; exact Nat.mod_lt _ (by omega)
      have HD : Hid (dg V k = d) := Lib.hid (by rw [hd, HX.out]; rfl)
      obtain ⟨Y, hY⟩ : ∃ Y, Y = X / 10000 := ⟨_, rfl⟩
      have HY : Hid (Y = V / 10000 ^ (k + 1)) := Lib.hid (by rw [hY, HX.out, Nat.pow_succ, Nat.div_div_eq_div_mul])
      have HYX : Hid (Y < X) := Lib.hid (by omega)
      have hYX : Y ≤ X := by omega
      have hm : ((X : Nat) : Int) % 10000 = ((d : Nat) : Int) := by omega
      have hmt : Int.tmod ((X : Nat) : Int) 10000 = ((d : Nat) : Int) := by rw [Int.tmod_eq_emod_of_nonneg (by omega)]; exact hm
      have hq : ((X : Nat) : Int) / 10000 = ((Y : Nat) : Int) := by omega
      have hqt : Int.tdiv ((X : Nat) : Int) 10000 = ((Y : Nat) : Int) := by rw [Int.tdiv_eq_ediv_of_nonneg (by omega)]; exact hq
      have d2 : decide (((d : Nat) : Int) < 0) = false := by simp
      have HKL := Lib.hid hkl
      have hk5 : k < 5 := by have := HND.out; omega
      have hdg := HD.out.symm
      clear hd hY h0 hkl
      subst hdg
      go_wp2_with (at_builtin; refine wpList_append_own _ rfl (.tmp 17) (.tmp 19) 22 rfl (w.heap.size + 2) 3 i0 (.int .i64 0) 1 8 Tryz.underlying22 hinf hz0 hz1 hz2 rfl (by decide) (.slice va k vk) k (ics (dI (dg V)) k) rfl (IS.out.row.alloc _) ⟨wr.heap.size, 0, none⟩ 1 1 [.int .i64 ((dg V k : Nat) : Int)] rfl rfl (new1 wr (.int .i64 ((dg V k : Nat) : Int)) 3) (one1 _ rfl) (by unfold maxLen; omega) (by omega) (by have := IS.out.sz; simp; omega) ?_; intro v' w5 hown hgrow _; obtain ⟨va5, vk5, rfl, hz5, hi5⟩ := IS.out.grown hgrow hown; have IS5 := Lib.hid hi5; have z1 := hz5.c1; have zl := hz5.lt; have zf := hz5.f; clear hown hgrow hz5 hi5 p0 p1 pf pl r0 r1 rf rl)
      go_roundw
      case rel => exact ⟨k + 1, Y, HKL.out, by go_num, by omega, HY, va5, vk5, IS5⟩
      case measure => have := HYX.out; simp [intOf]; omega
set_option maxHeartbeats 4000000 in
set_option maxRecDepth 100000 in
theorem zint_neg (V : Nat) (hV : V ≤ 9223372036854775808) (hV0 : 0 < V) (w : World) :
    Calls Tryz.prog 76 #[.int .i64 (-(V : Nat) : Int)] w fun e w' => ∃ va vk, e = .returned (.agg #[.bool true, .slice va (nd V) vk]) ∧ Dg w' (.slice va (nd V) vk) V ∧ Below w.heap.size w w' := by
  obtain ⟨i0, hinf, hz0, hz1, hz2⟩ := info_parts infoI
  have hN2 : (V : Int) ≤ 9223372036854775808 := by omega
  have hdn : decide ((-(V : Nat) : Int) < 0) = true := by simp; omega
  have hnd : nd V ≤ 5 := by rw [nd_le]; omega
  have HND := Lib.hid hnd
  have IS0 := Lib.hid (IntS.start w true V)
  clear hnd
  go_enter Tryz.func76, Tryz.ntmps76
  go_wp2_with fail
  clear hdn
  go_loopw [0, 4] (fun v0 _ wr => ∃ k X : Nat, k ≤ nd V ∧ v0 = .int .i64 (-(X : Nat) : Int) ∧ X ≤ V ∧ Hid (X = V / 10000 ^ k) ∧ ∃ va vk, Hid (IntS w wr true k V va vk)) (fun v0 _ _ => (intOf v0).natAbs)
  case atStart => exact ⟨0, V, by omega, rfl, Nat.le_refl _, Lib.hid (by simp), none, 0, IS0⟩
  case round =>
    clear IS0
    obtain ⟨k, X, hk, rfl, hXV, HX, va, vk, IS⟩ := hrel
    have p0 := IS.out.oz.c0
    have p1 := IS.out.oz.c1
    have pf := IS.out.oz.f
    have pl := IS.out.oz.lt
    have r0 := IS.out.orr.c0
    have r1 := IS.out.orr.c1
    have rf := IS.out.orr.f
    have rl := IS.out.orr.lt
    by_cases h0 : X = 0
    · have HK : Hid (k = nd V) := Lib.hid (by
        have h1 := HX.out
        have h2 : nd V ≤ k := by
          rw [nd_le]
          exact (Nat.div_eq_zero_iff_lt (Nat.pow_pos (by omega))).1 (by omega)
        omega)
      subst h0
      go_wp2_with fail
      obtain rfl := HK.out
      obtain ⟨g1, g2⟩ := IS.out.done (.bool true) (.slice va (nd V) vk)
      refine bodyPost_ret (v := .agg #[.bool true, .slice va (nd V) vk]) (by simp [results, Tryz.results76, go_sem, p0, p1, pf, pl, r0, r1, rf, rl]) rfl ?_
      exact ⟨va, vk, rfl, g1, g2⟩
    · have hkl : k < nd V := by
        rw [lt_nd]
        rcases Nat.lt_or_ge V (10000 ^ k) with h | h
        · exact absurd (HX.out.trans (Nat.div_eq_of_lt h)) h0
        · exact h
      have d1 : ((-((X : Nat) : Int)) != 0) = true := by simp; omega
      obtain ⟨d, hd⟩ : ∃ d, d = X % 10000 := ⟨_, rfl⟩
      have hdl : d < 10000 := by rw [hd]; exact Nat.mod_lt _ (by omega)
      have HD : Hid (dg V k = d) := Lib.hid (by rw [hd, HX.out]; rfl)
      obtain ⟨Y, hY⟩ : ∃ Y, Y = X / 10000 := ⟨_, rfl⟩
      have HY : Hid (Y = V / 10000 ^ (k + 1)) := Lib.hid (by rw [hY, HX.out, Nat.pow_succ, Nat.div_div_eq_div_mul])
      have HYX : Hid (Y < X) := Lib.hid (by omega)
      have hYX : Y ≤ X := by omega
      have hm : Int.tmod (-((X : Nat) : Int)) 10000 = -((d : Nat) : Int) := by rw [Int.neg_tmod, Int.tmod_eq_emod_of_nonneg (by omega)]; omega
      have hq : Int.tdiv (-((X : Nat) : Int)) 10000 = -((Y : Nat) : Int) := by rw [Int.neg_tdiv, Int.tdiv_eq_ediv_of_nonneg (by omega)]; omega
      have HKL := Lib.hid hkl
      have hk5 : k < 5 := by have := HND.out; omega
      have hdg := HD.out.symm
      clear hd hY h0 hkl
      subst hdg
      by_cases e0 : dg V k = 0
      · have d2 : decide (((dg V k : Nat) : Int) < 0) = false := by simp
        rw [show -((dg V k : Nat) : Int) = ((dg V k : Nat) : Int) by omega] at hm
        clear e0
        go_wp2_with (at_builtin; refine wpList_append_own _ rfl (.tmp 17) (.tmp 19) 22 rfl (w.heap.size + 2) 3 i0 (.int .i64 0) 1 8 Tryz.underlying22 hinf hz0 hz1 hz2 rfl (by decide) (.slice va k vk) k (ics (dI (dg V)) k) rfl (IS.out.row.alloc _) ⟨wr.heap.size, 0, none⟩ 1 1 [.int .i64 ((dg V k : Nat) : Int)] rfl rfl (new1 wr (.int .i64 ((dg V k : Nat) : Int)) 3) (one1 _ rfl) (by unfold maxLen; omega) (by omega) (by have := IS.out.sz; simp; omega) ?_; intro v' w5 hown hgrow _; obtain ⟨va5, vk5, rfl, hz5, hi5⟩ := IS.out.grown hgrow hown; have IS5 := Lib.hid hi5; have z1 := hz5.c1; have zl := hz5.lt; have zf := hz5.f; clear hown hgrow hz5 hi5 p0 p1 pf pl r0 r1 rf rl)
        go_roundw
        case rel => exact ⟨k + 1, Y, HKL.out, by go_num, by omega, HY, va5, vk5, IS5⟩
        case measure => have := HYX.out; simp [intOf]; omega
      · have d2 : decide (-((dg V k : Nat) : Int) < 0) = true := by simp; omega
        have d3 : decide ((0 : Int) < ((dg V k : Nat) : Int)) = true := by simp; omega
        have d4 : decide (0 < dg V k) = true := by simp; omega
        have e1 : 0 < dg V k := by omega
        clear e0
        go_wp2_with (at_builtin; refine wpList_append_own _ rfl (.tmp 17) (.tmp 19) 22 rfl (w.heap.size + 2) 3 i0 (.int .i64 0) 1 8 Tryz.underlying22 hinf hz0 hz1 hz2 rfl (by decide) (.slice va k vk) k (ics (dI (dg V)) k) rfl (IS.out.row.alloc _) ⟨wr.heap.size, 0, none⟩ 1 1 [.int .i64 ((dg V k : Nat) : Int)] rfl rfl (new1 wr (.int .i64 ((dg V k : Nat) : Int)) 3) (one1 _ rfl) (by unfold maxLen; omega) (by omega) (by have := IS.out.sz; simp; omega) ?_; intro v' w5 hown hgrow _; obtain ⟨va5, vk5, rfl, hz5, hi5⟩ := IS.out.grown hgrow hown; have IS5 := Lib.hid hi5; have z1 := hz5.c1; have zl := hz5.lt; have zf := hz5.f; clear hown hgrow hz5 hi5 p0 p1 pf pl r0 r1 rf rl)
        go_roundw
        case rel => exact ⟨k + 1, Y, HKL.out, by go_num, by omega, HY, va5, vk5, IS5⟩
        case measure => have := HYX.out; simp [intOf]; omega
theorem zint_any (v : Int) (h1 : -9223372036854775808 ≤ v) (h2 : v < 9223372036854775808) (w : World) :
    Calls Tryz.prog 76 #[.int .i64 v] w fun e w' => ∃ r, e = .returned r ∧ ZIs w' r v 5 ∧ Below w.heap.size w w' := by
  by_cases h : 0 ≤ v
  · obtain ⟨V, rfl⟩ := Int.eq_ofNat_of_zero_le h
    refine (zint_pos V (by omega) w).mono ?_
    rintro e w' ⟨va, vk, rfl, hd, hb⟩
    have e1 : decide ((V : Int) < 0) = false := by simp
    exact ⟨_, rfl, ⟨.slice va (nd V) vk, by rw [e1], by simpa using hd, by rw [nd_le]; omega⟩, hb⟩
  · obtain ⟨V, hN⟩ := Int.eq_ofNat_of_zero_le (a := -v) (by omega)
    obtain rfl : v = -(V : Int) := by omega
    refine (zint_neg V (by omega) (by omega) w).mono ?_
    rintro e w' ⟨va, vk, rfl, hd, hb⟩
    have e1 : decide (-(V : Int) < 0) = true := by simp; omega
    exact ⟨_, rfl, ⟨.slice va (nd V) vk, by rw [e1], by simpa using hd, by rw [nd_le]; omega⟩, hb⟩
end Go.Proofs.YtolkchkedieppaaGreat

/- The reference's numbers: times. -/
namespace Go.Proofs.YtolkchkedieppaaGreat
open Go.RowKit
attribute [local go_sem ↓] Go.wp_at_zero Go.wp_at_succ
attribute [local go_sem] Go.Instr.field Go.asAgg
/-- lean of digits that are lean already -/
theorem lean_dg (u : Value) (s : Bool) (x : Nat) (w : World) (hu : Dg w u x) (hn : nd x ≤ 1099511627776) :
    Calls Tryz.prog 153 #[.agg #[.bool s, u]] w fun e w' => ∃ a c, e = .returned (.agg #[.bool (s && decide (0 < x)), .slice a (nd x) c]) ∧ Dg w' (.slice a (nd x) c) x ∧ Below w.heap.size w w' :=
  lean_val u s (nd x) (dg x) x w hu (fun i _ => dg_lt x i) (valD_nd x) hn
set_option maxHeartbeats 2000000 in
set_option maxRecDepth 100000 in
theorem btimes_any (u : Value) (x d : Nat) (w : World) (hu : Dg w u x) (hd : d ≤ 10000) (hx : nd x ≤ 549755813880) :
    Calls Tryz.prog 155 #[u, .int .i64 (d : Nat)] w fun e w' => ∃ a c, e = .returned (.slice a (nd (x * d)) c) ∧ Dg w' (.slice a (nd (x * d)) c) (x * d) ∧ Below w.heap.size w w' := by
  have HU := Lib.hid hu
  obtain ⟨a1, b1, o1, c1, rfl, s1⟩ := hu
  have n1 : nd d ≤ 2 := by rw [nd_le]; omega
  have n2 : nd (x * d) ≤ nd x + 2 := nd_mul _ _ _ _ (Nat.le_refl _) n1
  have n3 : nd (x * d) ≤ 1099511627776 := by omega
  have n4 : nd x + nd d ≤ 549755813888 := by omega
  have N3 := Lib.hid n3
  have N4 := Lib.hid n4
  have HDD := Lib.hid (show d < 9223372036854775808 by omega)
  clear s1 n1 n2 n3 n4
  go_enter Tryz.func155, Tryz.ntmps155
  go_wp2_with (first | (go_at_call 76; refine (zint_pos d HDD.out _).mono ?_; rintro e w1 ⟨va, vk, rfl, hr, hb1⟩) | (go_at_call 129; refine (bmul_dg _ _ false false x d _ (HU.out.mono hb1 (Nat.le_refl _)) hr N4.out).mono ?_; rintro e w2 ⟨r, rfl, hr2, hb2⟩) | (go_at_call 153; refine (lean_dg r _ (x * d) _ hr2 N3.out).mono ?_; rintro e w3 ⟨a, c, rfl, hr3, hb3⟩))
  go_ret
  exact ⟨a, c, rfl, hr3, hb1.trans ((hb2.mono hb1.size).trans (hb3.mono (Nat.le_trans hb1.size hb2.size)))⟩
end Go.Proofs.YtolkchkedieppaaGreat

/- The reference's numbers: the long division, plain. -/
namespace Go.Proofs.YtolkchkedieppaaGreat
open Go.RowKit
/-- the rest before and after a digit of the long division -/
theorem divD_step (x y i : Nat) (hy : 0 < y) :
    ((x / 10000 ^ (i + 1)) % y * 10000 + dg x i) / y = dg (x / y) i ∧ ((x / 10000 ^ (i + 1)) % y * 10000 + dg x i) % y = (x / 10000 ^ i) % y := by
  have h1 := div_stepD x i
  have hd := dg_lt x i
  obtain ⟨A, hA⟩ : ∃ A, A = x / 10000 ^ (i + 1) := ⟨_, rfl⟩
  obtain ⟨d, hdd⟩ : ∃ d, d = dg x i := ⟨_, rfl⟩
  rw [← hA, ← hdd] at h1 ⊢
  rw [← hdd] at hd
  have h2 : dg (x / y) i = (A * 10000 + d) / y % 10000 := by
    unfold dg
    rw [Nat.div_div_eq_div_mul, Nat.mul_comm, ← Nat.div_div_eq_div_mul, h1]
  have h3 := Nat.div_add_mod A y
  have h4 : A * 10000 + d = (A % y * 10000 + d) + y * (A / y * 10000) := by
    conv => lhs; rw [← h3]
    rw [Nat.add_mul, Nat.mul_assoc]; omega
  have hr := Nat.mod_lt A hy
  have hlt : (A % y * 10000 + d) / y < 10000 := by
    rw [Nat.div_lt_iff_lt_mul hy]
    have : (A % y + 1) * 10000 ≤ y * 10000 := Nat.mul_le_mul_right _ hr
    rw [Nat.mul_comm 10000 y]; omega
  refine ⟨?_, ?_⟩
  · rw [h2, h4, Nat.add_mul_div_left _ _ hy, Nat.add_mul_mod_self_right, Nat.mod_eq_of_lt hlt]
  · rw [h1, h4, Nat.add_mul_mod_self_left]
/-- the digits of the quotient from i up, zeros below -/
structure DivI (x y i : Nat) (qf : Nat → Nat) : Prop where
  hi : ∀ j, i ≤ j → qf j = dg (x / y) j
  lo : ∀ j, j < i → qf j = 0
theorem DivI.start (x y : Nat) (hy : 0 < y) : DivI x y (nd x) (fun _ => 0) :=
  ⟨fun j hj => (dg_far (x / y) j (Nat.le_trans (nd_mono (Nat.div_le_self _ _)) hj)).symm, fun _ _ => rfl⟩
theorem DivI.step {x y i : Nat} {qf : Nat → Nat} (h : DivI x y (i + 1) qf) {d : Nat} (hd : d = dg (x / y) i) : DivI x y i (setN qf i d) :=
  ⟨fun j hj => by
    by_cases e : j = i
    · rw [e, setN_self]; exact hd
    · rw [setN_ne _ _ e]; exact h.hi j (by omega),
   fun j hj => by rw [setN_ne _ _ (by omega)]; exact h.lo j (by omega)⟩
theorem DivI.lt {x y i : Nat} {qf : Nat → Nat} (h : DivI x y i qf) (j : Nat) : qf j < 10000 := by
  by_cases e : i ≤ j
  · rw [h.hi j e]; exact dg_lt _ _
  · rw [h.lo j (by omega)]; omega
theorem DivI.val {x y : Nat} {qf : Nat → Nat} (h : DivI x y 0 qf) : valD qf (nd x) = x / y := by
  rw [valD_congr (g := dg (x / y)) fun i _ => h.hi i (Nat.zero_le _)]
  exact valD_dg_le _ _ (nd_mono (Nat.div_le_self _ _))
/-- the rest with a digit put ahead -/
def consN (d : Nat) (f : Nat → Nat) : Nat → Nat
  | 0 => d
  | j + 1 => f j
theorem valD_cons (d : Nat) (f : Nat → Nat) : ∀ n, valD (consN d f) (n + 1) = d + 10000 * valD f n
  | 0 => by simp [valD, consN]
  | n + 1 => by
    rw [show valD (consN d f) (n + 1 + 1) = valD (consN d f) (n + 1) + consN d f (n + 1) * 10000 ^ (n + 1) from rfl, valD_cons d f n]
    show d + 10000 * valD f n + f n * 10000 ^ (n + 1) = d + 10000 * (valD f n + f n * 10000 ^ n)
    rw [Nat.pow_succ, Nat.mul_add, ← Nat.mul_assoc, Nat.mul_comm 10000 (f n * 10000 ^ n)]
    omega
theorem cons_lt {d : Nat} {f : Nat → Nat} (hd : d < 10000) (hf : ∀ j, f j < 10000) : ∀ j, consN d f j < 10000
  | 0 => hd
  | j + 1 => hf j
theorem ics_cons (d : Nat) (f : Nat → Nat) (n : Nat) : Value.int .i64 ((d : Nat) : Int) :: ics (dI f) n = ics (dI (consN d f)) (n + 1) := by
  unfold ics
  rw [List.range_succ_eq_map, List.map_cons, List.map_map]
  rfl
/-- the rest and the middle of the search -/
theorem search_done {y R l : Nat} (hy : 0 < y) (h1 : y * l ≤ R) (h2 : R < y * (l + 1)) : l = R / y ∧ R - y * l = R % y := by
  have e : l = R / y := by
    apply Nat.le_antisymm
    · rw [Nat.le_div_iff_mul_le hy, Nat.mul_comm]; exact h1
    · have : R / y < l + 1 := by rw [Nat.div_lt_iff_lt_mul hy, Nat.mul_comm]; exact h2
      omega
  refine ⟨e, ?_⟩
  have := Nat.div_add_mod R y
  rw [e]; omega
end Go.Proofs.YtolkchkedieppaaGreat
