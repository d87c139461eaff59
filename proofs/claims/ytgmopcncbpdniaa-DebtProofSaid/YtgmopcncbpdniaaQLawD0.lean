/- A matrix in memory of its own whose cells are written; prices that are out of their range. -/
import Derived.Test.YtgmopcncbpdniaaQLawB
import Derived.Test.YtgmopcncbpdniaaQMade
import Derived.Deep.AppendLies
set_option linter.unusedVariables false
set_option linter.unusedSimpArgs false
namespace Go.Proofs.Ytgmopcncbpdniaa
open Go.RowKit

theorem ics_set (f : Nat → Int) (n j : Nat) (x : Int) : (ics f n).set j (.int .i64 x) = ics (setN f j x) n := by
  apply List.ext_getElem?
  intro i
  rw [List.getElem?_set]
  by_cases h : j = i
  · subst h
    rw [if_pos rfl, ics_length]
    by_cases hj : j < n
    · rw [if_pos hj, ics_get _ _ _ hj]; simp [ic, setN]
    · rw [if_neg hj]; symm; rw [List.getElem?_eq_none_iff, ics_length]; omega
  · rw [if_neg h]
    by_cases hi : i < n
    · rw [ics_get _ _ _ hi, ics_get _ _ _ hi]; simp [ic, setN, Ne.symm h]
    · rw [List.getElem?_eq_none_iff.2 (by rw [ics_length]; omega), List.getElem?_eq_none_iff.2 (by rw [ics_length]; omega)]

/-- a matrix of n rows of n integers in memory of its own -/
structure OwnM (B : Nat) (w : World) (n t cap : Nat) (g rc : Nat → Nat) (f : Nat → Nat → Int) : Prop where
  top : w.ownsRow B 23 1 (.slice (some ⟨t, 0, none⟩) n cap) n (rowCells (fun i => some ⟨g i, 0, none⟩) (fun _ => n) rc n)
  row : ∀ i, i < n → w.ownsRow B 3 1 (.slice (some ⟨g i, 0, none⟩) n (rc i)) n (ics (f i) n)
  far : ∀ i, i < n → g i ≠ t
  apart : ∀ i j, i < n → j < n → i ≠ j → g i ≠ g j

section
variable {B : Nat} {w w' : World} {n t cap : Nat} {g rc : Nat → Nat} {f : Nat → Nat → Int}
theorem RowsIn.ownM {v : Value} {ra : Nat → Option Addr} (G : RowsIn B w n v ra rc (fun _ => n) f) (h0 : 0 < n) : ∃ t cap g, v = .slice (some ⟨t, 0, none⟩) n cap ∧ OwnM B w n t cap g rc f := by
  obtain ⟨t, cap, hv, _, _⟩ := G.own.form h0
  have hra : ∀ i, ∃ b, i < n → ra i = some ⟨b, 0, none⟩ := fun i => by
    by_cases hi : i < n
    · obtain ⟨b, c, he, _, _⟩ := (G.row i hi).form h0
      have e1 : ra i = some ⟨b, 0, none⟩ := by injection he
      exact ⟨b, fun _ => e1⟩
    · exact ⟨0, fun e => absurd e hi⟩
  obtain ⟨g, hg⟩ := Classical.axiomOfChoice hra
  subst hv
  refine ⟨t, cap, g, rfl, ⟨?_, fun i hi => ?_, fun i hi e => ?_, fun i j hi hj hij e => ?_⟩⟩
  · have e : rowCells ra (fun _ => n) rc n = rowCells (fun i => some ⟨g i, 0, none⟩) (fun _ => n) rc n := by
      unfold rowCells
      exact List.map_congr_left fun i hi => by rw [hg i (List.mem_range.1 hi)]
    rw [← e]; exact G.own
  · have := G.row i hi
    rw [hg i hi] at this; exact this
  · have h1 : blk (ra i) = some (g i) := by rw [hg i hi]; rfl
    refine G.far i _ hi h1 ?_
    have e' : g i = t := e
    rw [e']; rfl
  · have h1 : blk (ra i) = some (g i) := by rw [hg i hi]; rfl
    have h2 : blk (ra j) = some (g j) := by rw [hg j hj]; rfl
    have e' : g i = g j := e
    rcases Nat.lt_or_gt_of_ne hij with q | q
    · exact G.apart i j _ q hj h1 (by rw [h2, e'])
    · exact G.apart j i _ q hi h2 (by rw [h1, e'])
theorem OwnM.below (G : OwnM B w n t cap g rc f) (hb : Below w.heap.size w w') : OwnM B w' n t cap g rc f :=
  ⟨own_kept G.top hb, fun i hi => own_kept (G.row i hi) hb, G.far, G.apart⟩
theorem OwnM.cellTop (G : OwnM B w n t cap g rc f) {i : Nat} (hi : i < n) : w.cell? ⟨t, i, none⟩ = some (.slice (some ⟨g i, 0, none⟩) n (rc i)) := by
  rw [G.top.cellAt i (by omega), rowCells_get _ _ _ _ _ hi]
theorem OwnM.cell (G : OwnM B w n t cap g rc f) {i j : Nat} (hi : i < n) (hj : j < n) : w.cell? ⟨g i, j, none⟩ = some (.int .i64 (f i j)) := by
  rw [(G.row i hi).cellAt j (by omega), ics_get _ _ _ hj]; rfl
theorem OwnM.frozen (G : OwnM B w n t cap g rc f) {i : Nat} (hi : i < n) (j : Nat) : w.frozen? ⟨g i, j, none⟩ = false := (G.row i hi).frozenAt j
theorem OwnM.set (G : OwnM B w n t cap g rc f) {i : Nat} (hi : i < n) (j : Nat) (x : Int) : OwnM B (w.setCell ⟨g i, j, none⟩ (.int .i64 x)) n t cap g rc (fun a => if a = i then setN (f i) j x else f a) := by
  obtain ⟨h1, h2⟩ := (G.row i hi).stored j (.int .i64 x)
  refine ⟨G.top.kept h2 (.inr ?_), fun a ha => ?_, G.far, G.apart⟩
  · intro e
    exact G.far i hi (Option.some.inj e).symm
  · by_cases e : a = i
    · subst e
      simp only [if_true]
      rw [← ics_set]; exact h1
    · simp only [e, if_false]
      exact (G.row a ha).kept h2 (.inr (fun e2 => G.apart a i ha hi e (Option.some.inj e2)))
theorem OwnM.isSlTop (G : OwnM B w n t cap g rc f) (h0 : 0 < n) : IsSl w (some ⟨t, 0, none⟩) t 0 cap n (fun i => .slice (some ⟨g i, 0, none⟩) n (rc i)) :=
  ⟨own_cap G.top, fun _ => rfl, fun _ => (G.top.lt t rfl).2, fun i hi => by rw [Nat.zero_add]; exact G.cellTop hi, fun e => by cases e⟩
theorem OwnM.isSlRow (G : OwnM B w n t cap g rc f) {i : Nat} (hi : i < n) : IsSl w (some ⟨g i, 0, none⟩) (g i) 0 (rc i) n (ic (f i)) :=
  ⟨own_cap (G.row i hi), fun _ => rfl, fun _ => ((G.row i hi).lt (g i) rfl).2, fun j hj => by rw [Nat.zero_add]; exact G.cell hi hj, fun e => by cases e⟩
theorem OwnM.mat (G : OwnM B w n t cap g rc f) (h0 : 0 < n) : Mat w (.slice (some ⟨t, 0, none⟩) n cap) n (fun _ => n) f :=
  ⟨_, _, _, _, fun i => some ⟨g i, 0, none⟩, g, fun _ => 0, rc, rfl, ⟨G.isSlTop h0, fun i hi => G.isSlRow hi⟩⟩
theorem OwnM.congr {f' : Nat → Nat → Int} (G : OwnM B w n t cap g rc f) (e : ∀ i j, i < n → j < n → f i j = f' i j) : OwnM B w n t cap g rc f' :=
  ⟨G.top, fun i hi => by
    have h := G.row i hi
    have : ics (f i) n = ics (f' i) n := by
      unfold ics
      exact List.map_congr_left fun j hj => by simp only [ic]; rw [e i j hi (List.mem_range.1 hj)]
    rw [← this]; exact h, G.far, G.apart⟩
end

/-- one element is changed by y -/
def bump (f : Nat → Nat → Int) (a b : Nat) (y : Int) : Nat → Nat → Int := fun i => if i = a then setN (f a) b (f a b + y) else f i
theorem OwnM.bump {B : Nat} {w : World} {n t cap : Nat} {g rc : Nat → Nat} {f : Nat → Nat → Int} (G : OwnM B w n t cap g rc f) {a : Nat} (ha : a < n) (b : Nat) (y : Int) : OwnM B (w.setCell ⟨g a, b, none⟩ (.int .i64 (f a b + y))) n t cap g rc (Go.Proofs.Ytgmopcncbpdniaa.bump f a b y) := G.set ha b _
theorem bump_bound {f : Nat → Nat → Int} {lo hi : Int} {n a b : Nat} {y : Int} (h : ∀ i j, i < n → j < n → lo ≤ f i j ∧ f i j ≤ hi) (h1 : -1 ≤ y) (h2 : y ≤ 1) (ha : a < n) (hb : b < n) : ∀ i j, i < n → j < n → lo - 1 ≤ bump f a b y i j ∧ bump f a b y i j ≤ hi + 1 := fun i j hi' hj => by
  have q1 := h i j hi' hj
  have q2 := h a b ha hb
  unfold bump
  by_cases e : i = a
  · rw [if_pos e]
    by_cases e2 : j = b
    · rw [e2, setN_self]; omega
    · rw [setN_ne _ _ e2, ← e]; omega
  · rw [if_neg e]; omega

/-- a row of the call's own, written -/
theorem own_ints_set {w : World} {B n g cap : Nat} {f : Nat → Int} (h : w.ownsRow B 3 1 (.slice (some ⟨g, 0, none⟩) n cap) n (ics f n)) (j : Nat) (x : Int) :
    (w.setCell ⟨g, j, none⟩ (.int .i64 x)).ownsRow B 3 1 (.slice (some ⟨g, 0, none⟩) n cap) n (ics (setN f j x) n) := by
  rw [← ics_set]; exact (h.stored j _).1

theorem rowIs_own {w : World} {B n g cap : Nat} {f : Nat → Int} (h : w.ownsRow B 3 1 (.slice (some ⟨g, 0, none⟩) n cap) n (ics f n)) (h0 : 0 < n) : IsSl w (some ⟨g, 0, none⟩) g 0 cap n (ic f) :=
  ⟨own_cap h, fun _ => rfl, fun _ => (h.lt g rfl).2, fun i hi => by rw [Nat.zero_add, h.cellAt i (by omega)]; exact ics_get f n i hi, fun e => by cases e⟩

/-- short numbers that are read -/
def U8s (w : World) (v : Value) (n : Nat) (g : Nat → Nat) : Prop := Sl w v n (fun i => .int .u8 (g i : Nat)) ∧ ∀ i, i < n → g i < 256
theorem u8_s : Try.prog.underlying 44 = some (.slice (Try.prog.elem 44)) := by kernel_rfl
theorem u8_z (W : World) : (sizeOf (Try.prog.elem 44)).run Try.prog W = .ok 1 W := by kernel_rfl
theorem ixU {w : World} {a : Option Addr} {b o c n : Nat} {g : Nat → Value} (h : IsSl w a b o c n g) (i d : Nat) (hi : i < n) (W : World) :
   (Instr.indexAt 44 (.slice a n d) (.int .i64 (i : Int))).run Try.prog W = .ok (.pointer (some ⟨b, o + i, none⟩)) W :=
  run_indexAt_opt 44 u8_s u8_z a b o n d (fun q => h.at_ q) .i64 i (by omega) (by omega) W

end Go.Proofs.Ytgmopcncbpdniaa
