/- The market of the document's example: rounds of package debt. -/
import Derived.Test.YtgmopcncbpdniaaQSolve2
import Derived.Deep.DeepCutAuto
import Derived.Deep.CutBlock
set_option linter.unusedVariables false
set_option linter.unusedSimpArgs false
namespace Go.Proofs.Ytgmopcncbpdniaa
open Go.RowKit
attribute [local go_sem ↓] Go.wp_at_zero Go.wp_at_succ

/-- the document's example: firm 0 owes firm 1 four, and firm 1 owes it two; firm 0 has one -/
def cashL (i : Nat) : Int := if i = 0 then 1 else 0
def dL (i j : Nat) : Int := if i = 0 ∧ j = 1 then 4 else if i = 1 ∧ j = 0 then 2 else 0
theorem dL_range (j i : Nat) (hj : j < 2) : 0 ≤ dL j i ∧ dL j i ≤ 1000 ∧ 0 ≤ sumF (dL j) 2 ∧ sumF (dL j) 2 ≤ 100000 := by
  have h1 : 0 ≤ dL j i ∧ dL j i ≤ 1000 := by unfold dL; split <;> (try split) <;> omega
  refine ⟨h1.1, h1.2, ?_⟩
  match j, hj with
  | 0, _ => decide
  | 1, _ => decide
theorem dL_tot0 : sumF (dL 0) 2 = 4 := by decide
theorem dL_tot1 : sumF (dL 1) 2 = 2 := by decide

theorem infoB : (Try.prog.info? 4).map (fun i => (i.zero, i.size, i.bytes)) = some (some (.bool false), 1, 1) := by kernel_rfl
theorem mkB2 (W : World) : (Instr.makeSlice 33 (.int .i64 2) (.int .i64 2)).run Try.prog W = .ok (.slice (some ⟨W.heap.size, 0, none⟩) 2 2) (W.alloc (.cells #[.bool false, .bool false] 4)) := by
  obtain ⟨i0, hi, hz0, hz1, hz2⟩ := info_parts infoB
  have h := run_make (P := Try.prog) W 33 4 i0 _ Try.underlying33 hi hz0 .i64 .i64 2 2 (by omega) (by omega) (by rw [hz2]; omega) (by omega)
  have e : madeCells (Value.bool false).cells ((2 : Int).toNat * 1) = #[.bool false, .bool false] := by kernel_rfl
  rw [h, hz1, e]
  rfl

theorem has_l0 (b : Nat) (vc vd vt : Value) (w : World) (hm : IsMkt w b 2 cashL dL vc vd vt) (pb pc : Nat) (q : Nat → Rat) (K : Nat) (hp : IsRats w pb 0 2 q K) (hK : 4 ≤ K) (hK2 : K ≤ 268435456) (x : Rat) (hx : hasQ 2 cashL dL q 0 = x) :
    Calls Try.prog 51 #[.pointer (some ⟨b, 0, none⟩), .int .i64 0, .slice (some ⟨pb, 0, none⟩) 2 pc] w fun e w' => ∃ r, e = .returned r ∧ RatIs w' r x (512 * (K + 1)) ∧ Below w.heap.size w w' := by
  have h := has_any b 2 0 cashL dL vc vd vt w hm (by omega) (by omega) (fun j hj => dL_range j 0 hj) (by decide) pb 0 pc q K hp hK hK2
  rw [hx] at h
  exact h
theorem has_l1 (b : Nat) (vc vd vt : Value) (w : World) (hm : IsMkt w b 2 cashL dL vc vd vt) (pb pc : Nat) (q : Nat → Rat) (K : Nat) (hp : IsRats w pb 0 2 q K) (hK : 4 ≤ K) (hK2 : K ≤ 268435456) (x : Rat) (hx : hasQ 2 cashL dL q 1 = x) :
    Calls Try.prog 51 #[.pointer (some ⟨b, 0, none⟩), .int .i64 1, .slice (some ⟨pb, 0, none⟩) 2 pc] w fun e w' => ∃ r, e = .returned r ∧ RatIs w' r x (512 * (K + 1)) ∧ Below w.heap.size w w' := by
  have h := has_any b 2 1 cashL dL vc vd vt w hm (by omega) (by omega) (fun j hj => dL_range j 1 hj) (by decide) pb 0 pc q K hp hK hK2
  rw [hx] at h
  exact h

theorem hasQ_congr (n : Nat) (cash : Nat → Int) (d : Nat → Nat → Int) (q q' : Nat → Rat) (i : Nat) (h : ∀ j, j < n → q j = q' j) : hasQ n cash d q i = hasQ n cash d q' i := by
  unfold hasQ
  congr 1
  have : ∀ (m : Nat) (f g : Nat → Rat), (∀ j, j < m → f j = g j) → sumQ f m = sumQ g m := by
    intro m f g hfg
    induction m with
    | zero => rfl
    | succ m ih => simp only [sumQ]; rw [ih (fun j hj => hfg j (by omega)), hfg m (by omega)]
  exact this n _ _ (fun j hj => by rw [h j hj])

theorem has_42_0 : hasQ 2 cashL dL (twoQ 4 2) 0 = 3 := by decide +kernel
theorem has_42_1 : hasQ 2 cashL dL (twoQ 4 2) 1 = 4 := by decide +kernel
theorem has_32_1 : hasQ 2 cashL dL (twoQ 3 2) 1 = 3 := by decide +kernel
theorem has_02_0 : hasQ 2 cashL dL (twoQ 0 2) 0 = 3 := by decide +kernel

/-- solve where nobody has failed: both pay their totals -/
theorem solve_l0 (b : Nat) (vc vd vt : Value) (w : World) (hm : IsMkt w b 2 cashL dL vc vd vt) (fb nb fc nc : Nat) (hf : Bools2 w fb false false) (hn : Bools2 w nb false false) :
    Calls Try.prog 50 #[.pointer (some ⟨b, 0, none⟩), .slice (some ⟨fb, 0, none⟩) 2 fc, .slice (some ⟨nb, 0, none⟩) 2 nc] w fun e w' => ∃ g, e = .returned (.slice (some ⟨g, 0, none⟩) 2 2) ∧
      IsRats w' g 0 2 (twoQ 4 2) 4 ∧ Below w.heap.size w w' := by
  refine (solve_none b cashL dL vc vd vt w hm (by decide) (by decide) fb nb fc nc hf hn).mono ?_
  rintro e w' ⟨g, rfl, h, hb⟩
  refine ⟨g, rfl, fun j hj => ?_, hb⟩
  obtain ⟨s, a, m, c, a2, m2, c2, h1, h2⟩ := h j hj
  refine ⟨s, a, m, c, a2, m2, c2, h1, ?_⟩
  match j, hj, h2 with
  | 0, _, h2 => rw [twoQ_zero]; have h3 : RatIs w' _ ((sumF (dL 0) 2 : Int) : Rat) 4 := h2; rw [dL_tot0] at h3; exact h3
  | 1, _, h2 => rw [twoQ_one]; have h3 : RatIs w' _ ((sumF (dL 1) 2 : Int) : Rat) 4 := h2; rw [dL_tot1] at h3; exact h3

/-- solve where firm 0 has failed -/
theorem solve_l1 (b : Nat) (vc vd vt : Value) (w : World) (hm : IsMkt w b 2 cashL dL vc vd vt) (fb nb fc nc : Nat) (hf : Bools2 w fb true false) (hn : Bools2 w nb false false) :
    Calls Try.prog 50 #[.pointer (some ⟨b, 0, none⟩), .slice (some ⟨fb, 0, none⟩) 2 fc, .slice (some ⟨nb, 0, none⟩) 2 nc] w fun e w' => ∃ g, e = .returned (.slice (some ⟨g, 0, none⟩) 2 2) ∧
      IsRats w' g 0 2 (twoQ 3 2) 5120 ∧ Below w.heap.size w w' := by
  refine (solve_first b cashL dL vc vd vt w hm (by decide) (by decide) (fun j hj => dL_range j 0 hj) (by decide) fb nb fc nc hf hn (by decide +kernel)).mono ?_
  rintro e w' ⟨g, rfl, h, hb⟩
  rw [dL_tot0, dL_tot1, show (((2 : Int) : Rat)) = 2 from rfl, has_02_0, show (3 : Rat) / (0 + ((1 : Int) : Rat) + -(shareQ 4 (dL 0 0))) = 3 from by decide +kernel] at h
  exact ⟨g, rfl, h, hb⟩

end Go.Proofs.Ytgmopcncbpdniaa
