/- connected of package hide: the walk. -/
import Derived.Test.YtolkchkedieppaaGreatZPlainD
import Derived.Test.YtolkchkedieppaaGreatZPlainR
set_option linter.unusedVariables false
set_option linter.unusedSimpArgs false
namespace Go.Proofs.YtolkchkedieppaaGreat
open Go.RowKit
attribute [local go_sem ↓] Go.wp_at_zero Go.wp_at_succ
theorem indexB_any (g n : Nat) (f : Nat → Bool) (w : World) (hn : n ≤ 1000) (hc : ∀ i, i < n → w.cell? ⟨g, i, none⟩ = some (.bool (f i))) :
  Calls Tryz.prog 186 #[.slice (some ⟨g, 0, none⟩) n n, .bool false] w fun e w' => ((e = .returned (.int .i64 (-1)) ∧ ∀ i, i < n → f i = true) ∨ ∃ k : Nat, k < n ∧ f k = false ∧ e = .returned (.int .i64 (k : Nat))) ∧ w = w' := by
 have HC := Lib.hid hc
 clear hc
 go_enter Tryz.func186, Tryz.ntmps186
 go_wp2
 go_loopw [5, 8] (fun _ v8 wr => ∃ k : Nat, k ≤ n ∧ v8 = .int .i64 (k : Nat) ∧ Hid (∀ i, i < k → f i = true) ∧ w = wr) (fun _ v8 _ => n - (intOf v8).toNat)
 case atStart => exact ⟨0, by omega, rfl, Lib.hid (fun i hi => by omega), rfl⟩
 case round =>
  obtain ⟨k, hk, rfl, HF, rfl⟩ := hrel
  by_cases h : k < n
  ·have e1 : decide ((k : Int) < (n : Int)) = true := by simpa using h
   have e1n : decide (k < n) = true := by simpa using h
   have hix := fun W => ixBc g n n k h W
   have hc := HC.out k h
   rcases hq : f k with _ | _
   ·rw [hq] at hc
    have HQ := Lib.hid hq
    clear hq
    go_wp2
    go_ret
    exact ⟨.inr ⟨k, h, HQ.out, rfl⟩, rfl⟩
   ·rw [hq] at hc
    have HQ := Lib.hid hq
    clear hq
    go_wp2
    go_roundw
    case rel => exact ⟨k + 1, by omega, by go_num, Lib.hid (fun j hj => by
     by_cases e : j = k
     ·rw [e]; exact HQ.out
     ·exact HF.out j (by omega)), by first | rfl | trivial⟩
    case measure => simp [intOf]; omega
  ·obtain rfl : k = n := by omega
   have e1 : decide ((k : Int) < (k : Int)) = false := by simp
   go_wp2
   go_ret
   exact ⟨.inl ⟨rfl, HF.out⟩, rfl⟩
theorem contB_any (g n : Nat) (f : Nat → Bool) (w : World) (hn : n ≤ 1000) (hc : ∀ i, i < n → w.cell? ⟨g, i, none⟩ = some (.bool (f i))) (r : Bool) (hr : r = true ↔ ∃ i, i < n ∧ f i = false) :
  Calls Tryz.prog 138 #[.slice (some ⟨g, 0, none⟩) n n, .bool false] w fun e w' => e = .returned (.bool r) ∧ w = w' := by
 have hcon := indexB_any g n f w hn hc
 clear hc
 go_enter Tryz.func138, Tryz.ntmps138
 go_wp2_with (go_at_call 186; (with_reducible refine hcon.mono ?_); rintro e w' ⟨(⟨rfl, hq⟩ | ⟨k, hk, hq, rfl⟩), rfl⟩)
 ·go_ret
  refine ⟨?_, rfl⟩
  have : r = false := by
   rcases e : r with _ | _
   ·rfl
   ·obtain ⟨i, hi, h2⟩ := hr.1 e; rw [hq i hi] at h2; cases h2
  rw [this]; rfl
 ·have d1 : decide ((k : Int) ≥ 0) = true := by simp
  have d2 : decide ((0 : Int) ≤ (k : Int)) = true := by simp
  go_wp2
  go_ret
  refine ⟨?_, rfl⟩
  have : r = true := hr.2 ⟨k, hk, hq⟩
  rw [this]; rfl
/-- pairs, as read -/
structure PrR (w : World) (g o : Nat) (W : List (Int × Int)) : Prop where
 c0 : ∀ i, i < W.length → w.cell? ⟨g, o + i * 2, none⟩ = some (.int .i64 (W.getD i (0, 0)).1)
 c1 : ∀ i, i < W.length → w.cell? ⟨g, o + i * 2 + 1, none⟩ = some (.int .i64 (W.getD i (0, 0)).2)
theorem PrR.below {w w' : World} {g o B : Nat} {W : List (Int × Int)} (h : PrR w g o W) (hb : Below B w w') (hg : g < B) : PrR w' g o W :=
 ⟨fun i hi => (hb.cell (p := ⟨g, o + i * 2, none⟩) hg).trans (h.c0 i hi), fun i hi => (hb.cell (p := ⟨g, o + i * 2 + 1, none⟩) hg).trans (h.c1 i hi)⟩
theorem prs_s : Tryz.prog.underlying 33 = some (.slice (Tryz.prog.elem 33)) := by kernel_rfl
theorem prs_z (W : World) : (sizeOf (Tryz.prog.elem 33)).run Tryz.prog W = .ok 2 W := by kernel_rfl
theorem ixPr (b n c i : Nat) (hi : i < n) (W : World) :
  (Instr.indexAt 33 (.slice (some ⟨b, 0, none⟩) n c) (.int .i64 (i : Int))).run Tryz.prog W = .ok (.pointer (some ⟨b, i * 2, none⟩)) W := by
 rw [run_indexAt_slice W _ _ _ _ _ _ prs_s, if_pos ⟨by omega, by omega⟩, prs_z]
 simp only [Result.andThen, Int.toNat_natCast]
 congr 3
 unfold Addr.add
 split
 ·rename_i h; simp [show i = 0 by omega]
 ·simp
/-- what a row of bools holds -/
def celB (w : World) (g i : Nat) : Bool := match w.cell? ⟨g, i, none⟩ with | some (.bool b) => b | _ => false
def bitOf (v : Value) : Nat := match v with | .bool true => 1 | _ => 0
abbrev BlO (w : World) (base g n : Nat) (f : Nat → Bool) : Prop := w.ownsRow base 4 1 (.slice (some ⟨g, 0, none⟩) n n) n (bls f n)
theorem BlO.cell {w : World} {base g n : Nat} {f : Nat → Bool} (h : BlO w base g n f) {i : Nat} (hi : i < n) : w.cell? ⟨g, i, none⟩ = some (.bool (f i)) := by
 have h' : w.ownsRow base 4 1 (.slice (some ⟨g, 0, none⟩) n n) n (bls f n) := h
 have := h'.cellAt i (by omega)
 rw [this, bls_get _ _ _ hi]
theorem cntC_congr {f h : Nat → Bool} : ∀ n, (∀ i, i < n → f i = h i) → cntC f n = cntC h n
 | 0, _ => rfl
 | n + 1, e => by simp only [cntC, cntC_congr n (fun i hi => e i (by omega)), e n (by omega)]
theorem BlO.cnt {w : World} {base g n : Nat} {f : Nat → Bool} (h : BlO w base g n f) : cntC (celB w g) n = cntC f n :=
 cntC_congr n (fun i hi => by unfold celB; rw [h.cell hi])
theorem BlO.set {w : World} {base g n : Nat} {f : Nat → Bool} (h : BlO w base g n f) (i : Nat) : BlO (w.setCell ⟨g, i, none⟩ (.bool true)) base g n (setB f i) := by
 have h' : w.ownsRow base 4 1 (.slice (some ⟨g, 0, none⟩) n n) n (bls f n) := h
 have := (h'.stored i (.bool true)).1
 rw [bls_set] at this
 exact this
/-- one step of connected: the ends of a wire with one end seen -/
theorem step_set {n : Nat} {W : List (Int × Int)} {f : Nat → Bool} {k : Nat} (hk : k < W.length) (hok : WiresOK n W) (h0 : f 0 = true) (hr : ∀ i, f i = true → Rea W i) (hne : f (wA W k) ≠ f (wB W k)) :
  setB (setB f (wA W k)) (wB W k) 0 = true ∧ (∀ i, setB (setB f (wA W k)) (wB W k) i = true → Rea W i) ∧ cntC (setB (setB f (wA W k)) (wB W k)) n = cntC f n + 1 := by
 have ha := (hok.a hk).2
 have hb := (hok.b hk).2
 have hboth : Rea W (wA W k) ∧ Rea W (wB W k) := by
  rcases ea : f (wA W k) with _ | _
  ·rcases eb : f (wB W k) with _ | _
   ·rw [ea, eb] at hne; exact absurd rfl hne
   ·have := hr _ eb; exact ⟨.bw k hk this, this⟩
  ·have := hr _ ea; exact ⟨this, .fw k hk this⟩
 refine ⟨by simp [setB, h0], fun i hi => ?_, ?_⟩
 ·unfold setB at hi
  by_cases e1 : i = wB W k
  ·rw [e1]; exact hboth.2
  ·rw [if_neg e1] at hi
   by_cases e2 : i = wA W k
   ·rw [e2]; exact hboth.1
   ·rw [if_neg e2] at hi; exact hr i hi
 ·rcases ea : f (wA W k) with _ | _
  ·rcases eb : f (wB W k) with _ | _
   ·rw [ea, eb] at hne; exact absurd rfl hne
   ·rw [setB_same (f := setB f (wA W k)) (by simp [setB, eb])]
    exact cntC_set f _ ea n ha
  ·rcases eb : f (wB W k) with _ | _
   ·rw [setB_same ea]; exact cntC_set f _ eb n hb
   ·rw [ea, eb] at hne; exact absurd rfl hne
set_option maxHeartbeats 4000000 in
set_option maxRecDepth 100000 in
theorem connected_any (g0 c0 n : Nat) (W : List (Int × Int)) (w : World) (hW : PrR w g0 0 W) (hg : g0 < w.heap.size) (hl : W.length ≤ 100) (h1 : 1 ≤ n) (hn : n ≤ 100) (hok : WiresOK n W) (r : Bool) (hr : r = true ↔ ConOK n W) :
  Calls Tryz.prog 109 #[.int .i64 (n : Nat), .slice (some ⟨g0, 0, none⟩) W.length c0] w fun e w' => e = .returned (.bool r) ∧ Below w.heap.size w w' := by
 have hmk := mkBls n (by omega)
 have HW := Lib.hid hW
 have HOK := Lib.hid hok
 have HR := Lib.hid hr
 have M0 : Hid ((w.alloc (.cells (madeCells #[.bool false] n) 4)).ownsRow w.heap.size 4 1 (.slice (some ⟨w.heap.size, 0, none⟩) n n) n (bls (fun _ => false) n)) := Lib.hid
  ⟨by simp [bls_len], .inr ⟨w.heap.size, n, _, rfl, Nat.le_refl _, heap_alloc_new w _, Nat.le_refl _, by unfold maxLen; omega, by simp [madeCells], by rw [Nat.mul_one, madeB_bls, List.take_of_length_le (by rw [bls_len]; exact Nat.le_refl _)]⟩⟩
 have KB0 := Lib.hid ((Below.refl w.heap.size w).alloc (Nat.le_refl _) (.cells (madeCells #[.bool false] n) 4))
 clear hW hok hr
 go_enter Tryz.func109, Tryz.ntmps109
 go_upto_region 2 with (fail)
 obtain ⟨g, hgd⟩ : ∃ g, g = w.heap.size := ⟨_, rfl⟩
 have hgw : w.heap.size ≤ g := by omega
 have M0 : Hid (BlO (w.alloc (.cells (madeCells #[.bool false] n) 4)) w.heap.size g n (fun _ => false)) := Lib.hid (by rw [hgd]; exact M0.out)
 rw [← hgd]
 generalize w.alloc (.cells (madeCells #[.bool false] n) 4) = w1 at M0 KB0 ⊢
 clear hgd hmk
 have ix0 := fun W => ixBc g n n 0 (by omega) W
 have z0 := M0.out.cell (i := 0) (by omega)
 have f0 : w1.frozen? ⟨g, 0, none⟩ = false := World.ownsRow.frozenAt M0.out 0
 have M1 := Lib.hid (M0.out.set 0)
 have KB1 := Lib.hid (KB0.out.setCell (p := ⟨g, 0, none⟩) hgw (.bool true))
 have HA : Hid (setB (fun _ => false) 0 0 = true) := Lib.hid rfl
 have HB : Hid (∀ i, setB (fun _ => false) 0 i = true → Rea W i) := Lib.hid (fun i hi => by
  unfold setB at hi
  split at hi
  ·rename_i e; rw [e]; exact .zero
  ·cases hi)
 generalize setB (fun _ => false) 0 = fz at M1 HA HB
 clear M0 KB0
 go_wp2
 generalize w1.setCell ⟨g, 0, none⟩ (.bool true) = w2 at M1 KB1 ⊢
 clear z0 f0 ix0
 go_loopw [6, 8] (fun v6 v8 wr => ∃ (f : Nat → Bool) (mo : Bool), v6 = .bool mo ∧ Hid (BlO wr w.heap.size g n f) ∧ Hid (f 0 = true) ∧ Hid (∀ i, f i = true → Rea W i) ∧ Hid (mo = false → ∀ k, k < W.length → f (wA W k) = f (wB W k)) ∧ Hid (Below w.heap.size w wr)) (fun v6 _ wr => n - cntC (celB wr g) n + bitOf v6)
 case atStart => exact ⟨fz, true, rfl, M1, HA, HB, Lib.hid (fun e => absurd e (by decide)), KB1⟩
 case round =>
  clear M1 HA HB KB1
  obtain ⟨f, mo, rfl, HF, HA, HB, HM, KB⟩ := hrel
  have hcn := HF.out.cnt
  have hcl := cntC_le f n
  rcases mo with _ | _
  ·have HR2 : Hid (r = decide (∀ i, i < n → f i = true)) := Lib.hid (by
    have hcl := HM.out rfl
    by_cases q : ∀ i, i < n → f i = true
    ·rw [decide_eq_true q]; exact HR.out.2 (fun i hi => HB.out i (q i hi))
    ·rw [decide_eq_false q]
     rcases e : r with _ | _
     ·rfl
     ·exact absurd (fun i hi => rea_closed HA.out hcl (HR.out.1 e i hi)) q)
   have hcon := fun rr hrr => contB_any g n f wr (by omega) (fun i hi => HF.out.cell hi) rr hrr
   clear hcn hcl
   by_cases q : ∀ i, i < n → f i = true
   ·rw [decide_eq_true q] at HR2
    have hc1 := hcon false ⟨fun e => absurd e (by decide), fun ⟨i, hi, e⟩ => by rw [q i hi] at e; cases e⟩
    clear hcon q
    go_wp2_with (go_at_call 138; (with_reducible refine hc1.mono ?_); rintro e w' ⟨rfl, rfl⟩)
    go_ret
    exact ⟨by rw [HR2.out]; rfl, KB.out⟩
   ·rw [decide_eq_false q] at HR2
    have hc1 := hcon true ⟨fun _ => by
     refine Classical.byContradiction (fun h => q (fun i hi => ?_))
     rcases e : f i with _ | _
     ·exact absurd ⟨i, hi, e⟩ h
     ·rfl, fun _ => rfl⟩
    clear hcon q
    go_wp2_with (go_at_call 138; (with_reducible refine hc1.mono ?_); rintro e w' ⟨rfl, rfl⟩)
    go_ret
    exact ⟨by rw [HR2.out]; rfl, KB.out⟩
  ·have e0 : bitOf (.bool true) = 1 := rfl
   have HF0 : Hid (n - cntC (celB wr g) n = n - cntC f n) := Lib.hid (by rw [hcn])
   have KB0 := Lib.hid (Below.refl wr.heap.size wr)
   clear hcn
   generalize n - cntC (celB wr g) n = M at HF0 ⊢
   go_wp2
   go_loopw [6, 8, 16] (fun v6 v8 v16 wy => ∃ (k : Nat) (f2 : Nat → Bool) (mo : Bool), k ≤ W.length ∧ v16 = .int .i64 (k : Nat) ∧ v6 = .bool mo ∧ Hid (BlO wy w.heap.size g n f2) ∧ Hid (f2 0 = true) ∧ Hid (∀ i, f2 i = true → Rea W i) ∧ Hid (mo = false → f2 = f ∧ ∀ j, j < k → f (wA W j) = f (wB W j)) ∧ Hid (mo = true → cntC f n < cntC f2 n) ∧ Hid (Below w.heap.size w wy)) (fun _ _ v16 _ => W.length - (intOf v16).toNat)
   case atStart => exact ⟨0, f, false, by omega, rfl, rfl, HF, HA, HB, Lib.hid (fun _ => ⟨rfl, fun j hj => by omega⟩), Lib.hid (fun e => absurd e (by decide)), KB⟩
   case round =>
    clear HF HA HB HM KB KB0
    obtain ⟨k, f2, mo, hk, rfl, rfl, HF, HA, HB, HC, HD, KB⟩ := hrel
    by_cases h : k < W.length
    ·have e1 : decide ((k : Int) < ((W.length : Nat) : Int)) = true := by simpa using h
     have e1n : decide (k < W.length) = true := by simpa using h
     have ix := fun X => ixPr g0 W.length c0 k h X
     have HWR := Lib.hid (HW.out.below KB.out hg)
     have x0 := HWR.out.c0 k h
     have x1 := HWR.out.c1 k h
     simp only [Nat.zero_add] at x0 x1
     obtain ⟨ea, la⟩ := HOK.out.a h
     obtain ⟨eb, lb⟩ := HOK.out.b h
     rw [ea] at x0
     rw [eb] at x1
     have HST := Lib.hid (fun hne => step_set h HOK.out HA.out HB.out hne)
     have hsucc : Hid (∀ j, j < k + 1 → j < k ∨ j = k) := Lib.hid (fun j hj => by omega)
     obtain ⟨a, hA⟩ : ∃ a, a = wA W k := ⟨_, rfl⟩
     obtain ⟨b, hB⟩ : ∃ b, b = wB W k := ⟨_, rfl⟩
     rw [← hA] at x0 la HST
     rw [← hB] at x1 lb HST
     have HAA := Lib.hid hA
     have HBB := Lib.hid hB
     clear ea eb hA hB
     have hgl : g < wr.heap.size := (World.ownsRow.lt HF.out g rfl).2
     go_upto_region 9 with (fail)
     have AL := Lib.hid ((Below.refl wr.heap.size wr).alloc (Nat.le_refl _) (.cells #[.int .i64 (a : Int), .int .i64 (b : Int)] 40))
     have HF := Lib.hid (show BlO _ _ _ _ _ from own_kept HF.out AL.out)
     have KB := Lib.hid (KB.out.trans (AL.out.mono KB.out.size))
     have y0 : (wr.alloc (.cells #[.int .i64 (a : Int), .int .i64 (b : Int)] 40)).cell? ⟨wr.heap.size, 0, none⟩ = some (.int .i64 (a : Int)) := by simp [go_sem]
     have y1 : (wr.alloc (.cells #[.int .i64 (a : Int), .int .i64 (b : Int)] 40)).cell? ⟨wr.heap.size, 1, none⟩ = some (.int .i64 (b : Int)) := by simp [go_sem]
     obtain ⟨sb, hsb⟩ : ∃ sb, sb = wr.heap.size := ⟨_, rfl⟩
     have hne : ¬ g = sb := by omega
     have hne2 : ¬ sb = g := by omega
     rw [← hsb] at y0 y1 ⊢
     generalize wr.alloc (.cells #[.int .i64 (a : Int), .int .i64 (b : Int)] 40) = w4 at HF KB y0 y1 ⊢
     have za := HF.out.cell la
     have zb := HF.out.cell lb
     have ia := fun X => ixBc g n n a la X
     have ib := fun X => ixBc g n n b lb X
     clear x0 x1 ix HWR hsb hgl
     go_cut [30] (fun v30 wx => v30 = .bool (f2 a != f2 b) ∧ ∃ nq, wx = w4.drewN nq)
     case first =>
      rcases qa : f2 a with _ | _
      ·rw [qa] at za
       rcases qb : f2 b with _ | _
       ·rw [qb] at zb
        have QA := Lib.hid qa
        have QB := Lib.hid qb
        clear qa qb
        go_quiet (fail)
        go_wp2
        go_meet
        case rel => exact ⟨by rw [QA.out, QB.out]; rfl, _, rfl⟩
       ·rw [qb] at zb
        have QA := Lib.hid qa
        have QB := Lib.hid qb
        clear qa qb
        go_quiet (fail)
        go_wp2
        go_meet
        case rel => exact ⟨by rw [QA.out, QB.out]; rfl, _, rfl⟩
      ·rw [qa] at za
       rcases qb : f2 b with _ | _
       ·rw [qb] at zb
        have QA := Lib.hid qa
        have QB := Lib.hid qb
        clear qa qb
        go_quiet (fail)
        go_wp2
        go_meet
        case rel => exact ⟨by rw [QA.out, QB.out]; rfl, _, rfl⟩
       ·rw [qb] at zb
        have QA := Lib.hid qa
        have QB := Lib.hid qb
        clear qa qb
        go_quiet (fail)
        go_wp2
        go_meet
        case rel => exact ⟨by rw [QA.out, QB.out]; rfl, _, rfl⟩
     case rest =>
      obtain ⟨rfl, nq, rfl⟩ := hcut
      have HF := Lib.hid (show BlO _ _ _ _ _ from own_kept HF.out (below_drawN (Below.refl w4.heap.size w4) nq))
      have KB := Lib.hid (KB.out.trans (below_drawN (Below.refl w.heap.size w4) nq))
      change (w4.drewN nq).cell? _ = _ at y0
      change (w4.drewN nq).cell? _ = _ at y1
      change (w4.drewN nq).cell? _ = _ at za
      change (w4.drewN nq).cell? _ = _ at zb
      generalize w4.drewN nq = w5 at HF KB y0 y1 za zb ⊢
      by_cases hab : f2 a = f2 b
      ·have dab : (f2 a != f2 b) = false := by rw [hab]; simp
       rw [dab]
       have HAB := Lib.hid hab
       clear hab dab HST y0 y1 za zb ia ib
       go_wp2
       go_roundw
       case rel => exact ⟨k + 1, f2, mo, by omega, by go_num, rfl, HF, HA, HB, Lib.hid (fun e => ⟨(HC.out e).1, fun j hj => by
        rcases hsucc.out j hj with q | q
        ·exact (HC.out e).2 j q
        ·rw [q, ← HAA.out, ← HBB.out, ← (HC.out e).1]; exact HAB.out⟩), HD, KB⟩
       case measure => simp [intOf]; omega
      ·have dab : (f2 a != f2 b) = true := by simpa using hab
       rw [dab]
       have hnab : ¬ a = b := fun e => hab (by rw [e])
       have hnba : ¬ b = a := fun e => hab (by rw [e])
       have zab := (HF.out.set a).cell lb
       obtain ⟨s0, s1, s2⟩ := HST.out hab
       have S0 := Lib.hid s0
       have S1 := Lib.hid s1
       have S2 := Lib.hid s2
       have fa : w5.frozen? ⟨g, a, none⟩ = false := World.ownsRow.frozenAt HF.out a
       have fb : w5.frozen? ⟨g, b, none⟩ = false := World.ownsRow.frozenAt HF.out b
       have HF2 := Lib.hid ((HF.out.set a).set b)
       have KB2 := Lib.hid (((KB.out.setCell (p := ⟨g, a, none⟩) hgw (.bool true)).setCell (p := ⟨g, b, none⟩) hgw (.bool true)).drew)
       clear hab dab HST s0 s1 s2
       go_upto_region 10 with (fail)
       go_region
       all_goals
        go_wp2
        go_roundw
        case rel => exact ⟨k + 1, _, true, by omega, by go_num, rfl, own_kept HF2.out ((Below.refl _ _).drew), S0, S1, Lib.hid (fun e => absurd e (by decide)), Lib.hid (fun _ => by
         rw [S2.out]
         rcases mo with _ | _
         ·rw [(HC.out rfl).1]; omega
         ·have := HD.out rfl; omega), KB2⟩
        case measure => simp [intOf]; omega
    ·obtain rfl : k = W.length := by omega
     have e1 : decide (((W.length : Nat) : Int) < ((W.length : Nat) : Int)) = false := by simp
     have hcf := cntC_le f2 n
     have hcn := HF.out.cnt
     go_wp2
     go_roundw
     case rel => exact ⟨f2, mo, rfl, HF, HA, HB, Lib.hid (fun e => by rw [(HC.out e).1]; exact (HC.out e).2), KB⟩
     case measure =>
      have h1 := HF0.out
      have hcl := cntC_le f n
      rw [hcn]
      rcases mo with _ | _
      ·have := (HC.out rfl).1
       rw [this, h1]
       simp [bitOf]
      ·have := HD.out rfl
       rw [h1]
       simp [bitOf]; omega
end Go.Proofs.YtolkchkedieppaaGreat

/- Package linear: Add; Zero at one row. -/
namespace Go.Proofs.YtolkchkedieppaaGreat
open Go.RowKit
attribute [local go_sem ↓] Go.wp_at_zero Go.wp_at_succ
set_option maxHeartbeats 4000000 in
theorem madd_any (g n gc i r m rc j : Nat) (q : Nat → Rat) (P : Nat → Prop) (K : Nat) (xv : Value) (x : Rat) (w : World) (hg : w.cell? ⟨g, i, none⟩ = some (.slice (some ⟨r, 0, none⟩) m rc)) (hi : i < n) (hj : j < m)
  (hr : RowP w r m P q K) (hP : P j) (hx : RatIs w xv x K) (hK : 1 ≤ K) (hK2 : 2 * K + 1 ≤ 549755813888) :
  Calls Tryz.prog 111 #[.slice (some ⟨g, 0, none⟩) n gc, .int .i64 (i : Nat), .int .i64 (j : Nat), xv] w fun e w' => ∃ w1 s a m c a2 m2 c2, e = .returned (.tuple #[]) ∧
   w' = st4 w1 r (j * 4) (.bool s) (.slice a m c) (.bool false) (.slice a2 m2 c2) ∧ Below w.heap.size w w1 ∧ RatIs w1 (.agg #[.bool s, .slice a m c, .bool false, .slice a2 m2 c2]) (q j + x) (2 * K + 1) := by
 obtain ⟨s1, a1, n1, c1, a2, n2, c2, rfl, H1⟩ := hx.shape
 clear hx
 have hgl : g < w.heap.size := by
  rcases Nat.lt_or_ge g w.heap.size with h | h
  ·exact h
  ·have : w.cell? ⟨g, i, none⟩ = none := by simp [World.cell?, Array.getElem?_eq_none h]
   rw [this] at hg; cases hg
 obtain ⟨s2, a3, n3, c3, a4, n4, c4, hr4, hv⟩ := hr.cell j hj
 have KE := Lib.hid (hv hP)
 have HF := hr.f
 have hrl := hr.lt
 have ix1 := fun W => ixL g 0 n gc i hi W
 have ix2 := fun W => rowIx r m rc j hj W
 simp only [Nat.zero_add] at ix1
 have HB0 := Lib.hid (boxes1 w (Obj.cells #[.bool s1, .slice a1 n1 c1, .bool false, .slice a2 n2 c2] 115))
 have R4 := Lib.hid hr4
 have HX := Lib.hid (H1.out.mono HB0.out (Nat.le_refl _)).drew
 have KE := Lib.hid (KE.out.mono HB0.out (Nat.le_refl _)).drew
 have KW := Lib.hid HB0.out.drew
 have O1 := Lib.hid (own4_new w _ rfl (.bool s1) (.slice a1 n1 c1) (.bool false) (.slice a2 n2 c2) 115)
 have g0 := bel1 HB0.out hg hgl
 have G0 := Lib.hid hg
 obtain ⟨x0, x1, x2, x3, _⟩ := (R4.out.below HB0.out hrl)
 obtain ⟨y0, y1, y2, y3, _, _⟩ := O1.out
 clear hr hv hr4 hg
 have HF := Lib.hid HF
 go_enter Tryz.func111, Tryz.ntmps111
 go_wp2
 go_region_with (first
  | (go_at_call 117; (with_reducible refine (rat_add _ _ (q j) x K _ KE.out HX.out hK hK2).mono ?_); rintro e w2 ⟨r2, rfl, hr2, hb2⟩; obtain ⟨s5, a5, n5, c5, a6, n6, c6, rfl, KR⟩ := hr2.shape; clear hr2; have KW := Lib.hid (KW.out.trans (hb2.mono KW.out.size)); obtain ⟨z0, z1, z2, z3, _⟩ := R4.out.below KW.out hrl; have zf := fun o => (KW.out.frozen (p := ⟨r, o, none⟩) hrl).trans (HF.out o); have g2 := bel1 KW.out G0.out hgl))
 all_goals go_wp2
 all_goals go_end0
 all_goals exact ⟨w2, s5, a5, n5, c5, a6, n6, c6, rfl, rfl, KW.out, KR.out⟩
end Go.Proofs.YtolkchkedieppaaGreat
