/- The law DebtRings: its walk. -/
import Derived.Test.YtgmopcncbpdniaaQLawB
import Derived.Test.YtgmopcncbpdniaaQMade
set_option linter.unusedVariables false
set_option linter.unusedSimpArgs false
namespace Go.Proofs.Ytgmopcncbpdniaa
open Go.RowKit

/-- how many firms are left -/
def cnt (g : Nat → Bool) : Nat → Nat
  | 0 => 0
  | n + 1 => cnt g n + if g n then 0 else 1
theorem cnt_le (g : Nat → Bool) : ∀ n, cnt g n ≤ n
  | 0 => Nat.le_refl _
  | n + 1 => by have := cnt_le g n; simp only [cnt]; split <;> omega
theorem cnt_mono {g g' : Nat → Bool} : ∀ {n : Nat}, (∀ i, i < n → g i = true → g' i = true) → cnt g' n ≤ cnt g n
  | 0, _ => Nat.le_refl _
  | n + 1, h => by
    have h1 := cnt_mono (n := n) (fun i hi => h i (by omega))
    have h2 := h n (by omega)
    simp only [cnt]
    cases hg : g n <;> cases hg' : g' n <;> simp_all <;> omega
theorem cnt_lt {g g' : Nat → Bool} : ∀ {n : Nat}, (∀ i, i < n → g i = true → g' i = true) → (∃ i, i < n ∧ g i = false ∧ g' i = true) → cnt g' n < cnt g n
  | 0, _, ⟨i, hi, _⟩ => by omega
  | n + 1, h, ⟨i, hi, a, b⟩ => by
    have h1 := cnt_mono (n := n) (fun i hi => h i (by omega))
    have h2 := h n (by omega)
    simp only [cnt]
    by_cases e : i = n
    · subst e; simp [a, b]; omega
    · have h3 := cnt_lt (n := n) (fun i hi => h i (by omega)) ⟨i, by omega, a, b⟩
      cases hg : g n <;> cases hg' : g' n <;> simp_all <;> omega
theorem cnt_zero {g : Nat → Bool} : ∀ {n : Nat}, cnt g n = 0 → ∀ i, i < n → g i = true
  | 0, _, i, hi => by omega
  | n + 1, e, i, hi => by
    simp only [cnt] at e
    by_cases q : i = n
    · subst q
      cases hg : g i
      · rw [hg] at e; simp at e
      · rfl
    · exact cnt_zero (n := n) (by omega) i (by omega)
/-- one round, as far as firm i -/
structure StepP (n : Nat) (p : Nat → Int) (g g' : Nat → Bool) (i : Nat) : Prop where
  keep : ∀ j, j < n → g j = true → g' j = true
  go : ∀ j, j < i → (∀ l, l < n → g l = false → p l ≤ p j) → g' j = true
theorem StepP.start (n : Nat) (p : Nat → Int) (g : Nat → Bool) : StepP n p g g 0 := ⟨fun _ _ h => h, fun j h => by omega⟩
theorem StepP.done {n q : Nat} {p : Nat → Int} {g g' : Nat → Bool} (h : StepP n p g g' n) (hq : q < n) (hc : cnt g n + q ≤ n) : cnt g' n + (q + 1) ≤ n := by
  by_cases h0 : cnt g n = 0
  · have := cnt_mono h.keep; omega
  · have hex : ∃ i, i < n ∧ g i = false := by
      apply Classical.byContradiction
      intro hx
      have : ∀ i, i < n → g i = true := fun i hi => by
        cases hg : g i
        · exact absurd ⟨i, hi, hg⟩ hx
        · rfl
      have hz : ∀ m, m ≤ n → cnt g m = 0 := by
        intro m
        induction m with
        | zero => intro _; rfl
        | succ m ih => intro hm; simp only [cnt]; rw [ih (by omega), this m (by omega)]; rfl
      exact h0 (hz n (Nat.le_refl _))
    obtain ⟨i, hi, gi, mi⟩ := most_price p (fun i => g i = false) n hex
    have := cnt_lt h.keep ⟨i, hi, gi, h.go i hi (fun l hl gl => mi l hl gl)⟩
    omega
/-- what a firm owes to those that are left -/
def oF (g : Nat → Bool) (r : Nat → Nat → Int) (i l : Nat) : Int := sumF (fun j => if g j then 0 else r i j) l
theorem oF_bound {n : Nat} {g : Nat → Bool} {r : Nat → Nat → Int} {i l : Nat} (hi : i < n) (hl : l ≤ n) (hn : n ≤ 8) (hr : ∀ i j, i < n → j < n → 0 ≤ r i j ∧ r i j ≤ 1000) : -8000 ≤ oF g r i l ∧ oF g r i l ≤ 8000 := by
  have := sumF_bound (fun j => if g j then 0 else r i j) l 1000 (fun j hj => by have := hr i j hi (by omega); split <;> omega)
  unfold oF; omega
theorem oF_zero {n : Nat} {d r : Nat → Nat → Int} {p : Nat → Int} {g g' : Nat → Bool} {i : Nat} (h : Opt n d r p) (hi : i < n) (hk : ∀ j, j < n → g j = true → g' j = true) (hm : ∀ l, l < n → g l = false → p l ≤ p i) : oF g' r i n = 0 := by
  unfold oF
  rw [sumF_congr (g := fun _ => 0) (fun j hj => ?_), sumF_zero]
  cases hg : g' j
  · have hgj : g j = false := by
      cases hgg : g j
      · rfl
      · rw [hk j hj hgg] at hg; cases hg
    have h1 := hm j hj hgj
    have h2 := h.inv.range i j hi hj
    simp only [Bool.false_eq_true, if_false]
    by_cases h3 : 0 < r i j
    · have := h.down i j hi hj h3; omega
    · omega
  · simp
theorem StepP.set {n : Nat} {d r : Nat → Nat → Int} {p : Nat → Int} {g g' : Nat → Bool} {i : Nat} (h : StepP n p g g' i) (ho : Opt n d r p) (hi : i < n) (b : Bool) (hb : b = (g' i || decide (oF g' r i n = 0))) : StepP n p g (setN g' i b) (i + 1) := by
  refine ⟨fun j hj gj => ?_, fun j hj mj => ?_⟩
  · by_cases e : j = i
    · subst e; rw [setN_self, hb, h.keep j hj gj]; rfl
    · rw [setN_ne _ _ e]; exact h.keep j hj gj
  · by_cases e : j = i
    · subst e; rw [setN_self, hb, oF_zero ho hi h.keep mj]; simp
    · rw [setN_ne _ _ e]; exact h.go j (by omega) mj

/-- truth values as cells -/
def bc (g : Nat → Bool) (i : Nat) : Value := .bool (g i)
theorem infoBl : (Try.prog.info? 4).map (fun i => (i.zero, i.size, i.bytes)) = some (some (.bool false), 1, 1) := by kernel_rfl
theorem boolsl_s : Try.prog.underlying 33 = some (.slice (Try.prog.elem 33)) := by kernel_rfl
theorem boolsl_z (W : World) : (sizeOf (Try.prog.elem 33)).run Try.prog W = .ok 1 W := by kernel_rfl
theorem ixBl {w : World} {a : Option Addr} {b o c n : Nat} {g : Nat → Value} (h : IsSl w a b o c n g) (i d : Nat) (hi : i < n) (W : World) :
   (Instr.indexAt 33 (.slice a n d) (.int .i64 (i : Int))).run Try.prog W = .ok (.pointer (some ⟨b, o + i, none⟩)) W :=
  run_indexAt_opt 33 boolsl_s boolsl_z a b o n d (fun q => h.at_ q) .i64 i (by omega) (by omega) W

set_option maxHeartbeats 8000000 in
set_option maxRecDepth 100000 in
theorem lawRings (nv ly : Nat) (vy : Value) (fy : Nat → Nat) (w : World) (hnv : nv < 256) (hy : U16s w vy ly fy) (hly : ly ≤ 9223372036854775807) :
    Calls Try.prog 3 #[.int .u8 (nv : Nat), vy] w fun e w' => e = .returned (.bool true) ∧ Below w.heap.size w w' := by
  have HY := Lib.hid hy
  clear hy
  have HX : Hid (U16s w (.slice none 0 0) 0 (fun _ => 0)) := Lib.hid ⟨⟨none, 0, 0, 0, rfl, ⟨Nat.le_refl _, fun q => by omega, fun q => by omega, fun i hi => by omega, fun _ => rfl⟩⟩, fun i hi => by omega⟩
  go_enter Try.func3, Try.ntmps3
  go_wp2_with fail
  refine (lmade_any nv 0 ly _ vy (fun _ => 0) fy _ hnv HX.out HY.out (by omega) hly).mono ?_
  rintro e w1 ⟨va, vk, vb, vl, rfl, _, hm1, hb1⟩
  have HD := Lib.hid hm1
  have KW := Lib.hid hb1
  have hDB := debtM_debts (nv % 8 + 1) ly fy (by omega) (by omega)
  clear hm1 hb1 HY HX
  obtain ⟨n, hn⟩ : ∃ n, n = nv % 8 + 1 := ⟨_, rfl⟩
  rw [← hn] at HD hDB ⊢
  have hn1 : 1 ≤ n := by omega
  have hn8 : n ≤ 8 := by omega
  clear hn
  generalize debtM n ly fy = d at HD hDB ⊢
  have HDB := Lib.hid hDB
  have HDD : Hid (∀ i j, i < n → j < n → 0 ≤ d i j ∧ d i j ≤ 1000) := Lib.hid (fun i j hi hj => (hDB.2.2 i hi).2.2 j hj)
  clear hDB
  go_wp2_with fail
  refine (Cancel_ok _ n (fun _ => n) d _ HD.out HDB.out).mono ?_
  rintro e w2 ⟨R, r, p, rfl, hom, hopt, _, _, hb2⟩
  have HR := Lib.hid hom.mat
  have HRI := Lib.hid hom.isMat
  have HO := Lib.hid hopt
  have HD := Lib.hid (HD.out.mono hb2 (Nat.le_refl _))
  have KW := Lib.hid (KW.out.trans (hb2.mono KW.out.size))
  have HRB : Hid (∀ i j, i < n → j < n → 0 ≤ r i j ∧ r i j ≤ 1000) := Lib.hid (fun i j hi hj => by have := HO.out.inv.range i j hi hj; have := HDD.out i j hi hj; omega)
  have HRD : Hid (Debts n (fun _ => n) r) := Lib.hid ⟨hn1, hn8, fun i hi => ⟨rfl, by have := HO.out.inv.range i i hi hi; have := (HDB.out.2.2 i hi).2.1; omega, fun j hj => HRB.out i j hi hj⟩⟩
  have HRR : Hid (∀ i j, i < n → j < n → 0 ≤ r i j ∧ r i j ≤ d i j ∧ d i j ≤ 1000) := Lib.hid (fun i j hi hj => ⟨(HO.out.inv.range i j hi hj).1, (HO.out.inv.range i j hi hj).2, (HDD.out i j hi hj).2⟩)
  have s1 := sum2_small hn8 HDD.out
  have s2 := sum2_small hn8 HRB.out
  have hwr : IntKind.i64.wrap (sum2 n d - sum2 n r) = sum2 n d - sum2 n r := by rw [IntKind.wrap_i64]; omega
  have e2 : ((sum2 n d - sum2 n r) != (sum2 n d - sum2 n r)) = false := by simp
  have hmk := run_make_row' (P := Try.prog) 33 4 (.bool false) 1 Try.underlying33 infoBl rfl .i64 .i64 n (by omega) (by omega)
  clear hom hopt hb2 s1 s2
  go_wp2_with (first
    | (go_at_call 9; (with_reducible refine (shape_any _ _ n n (fun _ => n) (fun _ => n) d r true ⟨fun _ => ⟨rfl, fun _ _ => rfl⟩, fun _ => rfl⟩ _ HD.out HR.out (by omega) (by omega)).mono ?_); rintro e w3 ⟨rfl, hd3⟩; have HD := Lib.hid (HD.out.drawn hd3); have HR := Lib.hid (HR.out.drawn hd3); have HRI := Lib.hid (HRI.out.drawn hd3); have KW := Lib.hid (KW.out.trans (hd3.below _)); clear hd3)
    | (go_at_call 10; (with_reducible refine (rest_any _ _ n d r true ⟨fun _ => HO.out.inv.bal, fun _ => rfl⟩ _ HD.out HR.out hn8 HRR.out).mono ?_); rintro e w4 ⟨rfl, hd4⟩; have HD := Lib.hid (HD.out.drawn hd4); have HR := Lib.hid (HR.out.drawn hd4); have HRI := Lib.hid (HRI.out.drawn hd4); have KW := Lib.hid (KW.out.trans (hd4.below _)); clear hd4)
    | (go_at_call 11; (with_reducible refine (refSum_any _ n d _ HD.out hn8 HDD.out).mono ?_); rintro e w5 ⟨rfl, hd5⟩; have HR := Lib.hid (HR.out.drawn hd5); have HRI := Lib.hid (HRI.out.drawn hd5); have KW := Lib.hid (KW.out.trans (hd5.below _)); clear hd5)
    | (go_at_call 11; (with_reducible refine (refSum_any _ n r _ HR.out hn8 HRB.out).mono ?_); rintro e w6 ⟨rfl, hd6⟩; have HR := Lib.hid (HR.out.drawn hd6); have HRI := Lib.hid (HRI.out.drawn hd6); have KW := Lib.hid (KW.out.trans (hd6.below _)); clear hd6)
    | (go_at_call 12; (with_reducible refine (lives_true _).mono ?_); rintro e w7 ⟨rfl, hb7⟩; have HR := Lib.hid (HR.out.mono hb7 (Nat.le_refl _)); have HRI := Lib.hid (HRI.out.mono hb7 (Nat.le_refl _)); have KW := Lib.hid (KW.out.trans (hb7.mono KW.out.size)); clear hb7))
  have BL : Hid ((w7.alloc (.cells (madeCells #[.bool false] n) 4)).rowIs w7.heap.size 4 n (bc (fun _ => false))) := Lib.hid (World.rowIs_made w7 (.bool false) n 4)
  have KB := Lib.hid ((Below.refl w7.heap.size w7).alloc (Nat.le_refl _) (.cells (madeCells #[.bool false] n) 4))
  generalize w7.alloc (.cells (madeCells #[.bool false] n) 4) = w8 at BL KB ⊢
  generalize hC : w7.heap.size = C at BL KB ⊢
  have HC := Lib.hid (Nat.le_of_eq hC)
  clear hC hmk hwr e2
  go_loopw [11, 12, 13, 14] (fun v11 _ _ _ wr => ∃ q : Nat, q ≤ n ∧ v11 = .int .i64 (q : Nat) ∧ ∃ g, Hid (cnt g n + q ≤ n) ∧ Hid (wr.rowIs C 4 n (bc g)) ∧ Hid (Below C w7 wr)) (fun v11 _ _ _ _ => n - (intOf v11).toNat)
  case atStart => exact ⟨0, by omega, rfl, _, Lib.hid (cnt_le _ _), BL, KB⟩
  case round =>
    clear BL KB
    obtain ⟨q, hq, rfl, g, CN, BL, KB⟩ := hrel
    by_cases h : q < n
    · have f1 : decide ((q : Int) < (n : Int)) = true := by simpa using h
      go_wp2
      go_loopw [12, 13, 14] (fun v12 _ _ wr => ∃ i : Nat, i ≤ n ∧ v12 = .int .i64 (i : Nat) ∧ ∃ g', Hid (StepP n p g g' i) ∧ Hid (wr.rowIs C 4 n (bc g')) ∧ Hid (Below C w7 wr)) (fun v12 _ _ _ => n - (intOf v12).toNat)
      case atStart => exact ⟨0, by omega, rfl, g, Lib.hid (StepP.start n p g), BL, KB⟩
      case round =>
        clear BL KB
        obtain ⟨i, hi, rfl, g', SP, BL, KB⟩ := hrel
        by_cases h2 : i < n
        · have f2 : decide ((i : Int) < (n : Int)) = true := by simpa using h2
          go_wp2
          go_loop [13, 14] (fun v13 v14 => ∃ l : Nat, l ≤ n ∧ v14 = .int .i64 (l : Nat) ∧ v13 = .int .i64 (oF g' r i l)) (fun _ v14 => n - (intOf v14).toNat)
          case atStart => exact ⟨0, by omega, rfl, rfl⟩
          case round =>
            obtain ⟨l, hl, rfl, rfl⟩ := hrel
            by_cases h3 : l < n
            · have f3 : decide ((l : Int) < (n : Int)) = true := by simpa using h3
              have bx := fun W => ixBl (rowIs_sl BL.out) l n h3 W
              simp only [Nat.zero_add] at bx
              have bcl := BL.out.cell h3
              simp only [bc] at bcl
              cases hg : g' l with
              | true =>
                rw [hg] at bcl
                have HO2 : Hid (oF g' r i (l + 1) = oF g' r i l) := Lib.hid (by unfold oF; simp only [sumF]; rw [hg]; simp)
                clear hg
                go_wp2
                go_round
                case rel => exact ⟨l + 1, by omega, by go_num, by rw [HO2.out]⟩
                case measure => simp [intOf]; omega
              | false =>
                rw [hg] at bcl
                have HO2 : Hid (oF g' r i (l + 1) = oF g' r i l + r i l) := Lib.hid (by unfold oF; simp only [sumF]; rw [hg]; simp)
                have hm := HRI.out.mono KB.out HC.out
                have ix := fun W => ixM hm.top i n h2 W
                have x1 := hm.top.cell i h2
                have iy := fun W => ixI (hm.row i h2) l n h3 W
                have y1 := (hm.row i h2).cell l h3
                simp only [ic, Nat.zero_add] at x1 y1 ix iy
                have b1 := oF_bound (g := g') h2 hl hn8 HRB.out
                have b2 := HRB.out i l h2 h3
                have hw : IntKind.i64.wrap (oF g' r i l + r i l) = oF g' r i l + r i l := by rw [IntKind.wrap_i64]; omega
                clear hg b1 b2 hm
                go_wp2
                go_round
                case rel => exact ⟨l + 1, by omega, by go_num, by rw [HO2.out]⟩
                case measure => simp [intOf]; omega
            · obtain rfl : l = n := by omega
              have f3 : decide ((l : Int) < (l : Int)) = false := by simp
              have bx := fun W => ixBl (rowIs_sl BL.out) i l h2 W
              simp only [Nat.zero_add] at bx
              have bcl := BL.out.cell h2
              have bf := BL.out.frozen i
              simp only [bc] at bcl
              have hset : ∀ b, b = (g' i || decide (oF g' r i l = 0)) → StepP l p g (setN g' i b) (i + 1) ∧ (wr.setCell ⟨C, i, none⟩ (.bool b)).rowIs C 4 l (bc (setN g' i b)) ∧ Below C w7 (wr.setCell ⟨C, i, none⟩ (.bool b)) := fun b hb =>
                ⟨SP.out.set HO.out h2 b hb, (BL.out.set i _).congr (fun a ha => by
                  by_cases e : a = i
                  · subst e; simp [bc, setN]
                  · simp [bc, setN, e]), KB.out.setCell (Nat.le_refl _) _⟩
              have HSET := Lib.hid hset
              clear hset
              cases hg : g' i with
              | true =>
                rw [hg] at bcl
                have HS := Lib.hid (HSET.out true (by rw [hg]; rfl))
                clear hg HSET
                go_wp2
                go_roundw
                case rel => exact ⟨i + 1, by omega, by go_num, _, Lib.hid HS.out.1, Lib.hid HS.out.2.1, Lib.hid HS.out.2.2⟩
                case measure => simp [intOf]; omega
              | false =>
                rw [hg] at bcl
                by_cases ho : oF g' r i l = 0
                · have d1 : (oF g' r i l == 0) = true := by simpa using ho
                  have HS := Lib.hid (HSET.out true (by rw [hg, ho]; rfl))
                  clear hg ho HSET
                  go_wp2
                  go_roundw
                  case rel => exact ⟨i + 1, by omega, by go_num, _, Lib.hid HS.out.1, Lib.hid HS.out.2.1, Lib.hid HS.out.2.2⟩
                  case measure => simp [intOf]; omega
                · have d1 : (oF g' r i l == 0) = false := by simpa using ho
                  have HS := Lib.hid (HSET.out false (by rw [hg]; simp [ho]))
                  clear hg ho HSET
                  go_wp2
                  go_roundw
                  case rel => exact ⟨i + 1, by omega, by go_num, _, Lib.hid HS.out.1, Lib.hid HS.out.2.1, Lib.hid HS.out.2.2⟩
                  case measure => simp [intOf]; omega
        · obtain rfl : i = n := by omega
          have f2 : decide ((i : Int) < (i : Int)) = false := by simp
          go_wp2
          go_roundw
          case rel => exact ⟨q + 1, by omega, by go_num, g', Lib.hid (SP.out.done h CN.out), BL, KB⟩
          case measure => simp [intOf]; omega
    · obtain rfl : q = n := by omega
      have f1 : decide ((q : Int) < (q : Int)) = false := by simp
      have ALL := Lib.hid (cnt_zero (g := g) (n := q) (by have := CN.out; omega))
      go_wp2
      go_loop [15] (fun v15 => ∃ i : Nat, i ≤ q ∧ v15 = .int .i64 (i : Nat)) (fun v15 => q - (intOf v15).toNat)
      case atStart => exact ⟨0, by omega, rfl⟩
      case round =>
        obtain ⟨i, hi, rfl⟩ := hrel
        by_cases h2 : i < q
        · have f2 : decide ((i : Int) < (q : Int)) = true := by simpa using h2
          have bx := fun W => ixBl (rowIs_sl BL.out) i q h2 W
          simp only [Nat.zero_add] at bx
          have bcl := BL.out.cell h2
          simp only [bc] at bcl
          rw [ALL.out i h2] at bcl
          go_wp2
          go_round
          case rel => exact ⟨i + 1, by omega, by go_num⟩
          case measure => simp [intOf]; omega
        · obtain rfl : i = q := by omega
          have f2 : decide ((i : Int) < (i : Int)) = false := by simp
          have HR2 := Lib.hid (HR.out.mono KB.out HC.out)
          have KW2 := Lib.hid (KW.out.trans (KB.out.mono (Nat.le_trans KW.out.size HC.out)))
          clear KB BL
          go_wp2_with fail
          refine (Cancel_ok _ i (fun _ => i) r _ HR2.out HRD.out).mono ?_
          rintro e w9 ⟨R2, r2, p2, rfl, hom2, hopt2, _, _, hb9⟩
          have hsame := opt_again HO.out hopt2
          have HA := Lib.hid hom2.mat
          have HO2 := Lib.hid hopt2
          have HR3 := Lib.hid (HR2.out.mono hb9 (Nat.le_refl _))
          have KW3 := Lib.hid (KW2.out.trans (hb9.mono KW2.out.size))
          have HRB2 : Hid (∀ a b, a < i → b < i → 0 ≤ r2 a b ∧ r2 a b ≤ 1000) := Lib.hid (fun a b ha hb => by have := HO2.out.inv.range a b ha hb; have := HRB.out a b ha hb; omega)
          have hz : sum2 i r - sum2 i r2 = 0 := by omega
          have hq2 : (sum2 i r2 == sum2 i r) = true := by rw [hsame]; simp
          rw [hz]
          clear hom2 hopt2 hb9 hsame hz
          go_wp2_with (first
            | (go_at_call 9; (with_reducible refine (shape_any _ _ i i (fun _ => i) (fun _ => i) r r2 true ⟨fun _ => ⟨rfl, fun _ _ => rfl⟩, fun _ => rfl⟩ _ HR3.out HA.out (by omega) (by omega)).mono ?_); rintro e w10 ⟨rfl, hd10⟩; have HR3 := Lib.hid (HR3.out.drawn hd10); have HA := Lib.hid (HA.out.drawn hd10); have KW3 := Lib.hid (KW3.out.trans (hd10.below _)); clear hd10)
            | (go_at_call 11; (with_reducible refine (refSum_any _ i r2 _ HA.out hn8 HRB2.out).mono ?_); rintro e w11 ⟨rfl, hd11⟩; have HR3 := Lib.hid (HR3.out.drawn hd11); have KW3 := Lib.hid (KW3.out.trans (hd11.below _)); clear hd11)
            | (go_at_call 11; (with_reducible refine (refSum_any _ i r _ HR3.out hn8 HRB.out).mono ?_); rintro e w12 ⟨rfl, hd12⟩; have KW3 := Lib.hid (KW3.out.trans (hd12.below _)); clear hd12))
          go_ret
          exact ⟨rfl, KW3.out⟩

end Go.Proofs.Ytgmopcncbpdniaa
