/- The arguments of the laws, opened: slices of pairs. -/
import Derived.Test.YtolkchkedieppaaGreatZTakes
import Derived.Test.YtolkchkedieppaaGreatZLin1
import Derived.Deep.Slices
import Derived.Deep.SlicePairs
set_option linter.unusedVariables false
set_option linter.unusedSimpArgs false
namespace Go.Proofs.YtolkchkedieppaaGreat
open Go.ChangeShapes Go.WideShapes Go.ChangeAt Go.RowKit Go.Deep
/-- a slice of pairs, as read, with its capacity -/
structure PrA (w : World) (v : Value) (W : List (Int × Int)) : Prop where
 ex : ∃ a c, v = .slice a W.length c ∧ W.length ≤ c ∧ c ≤ 9223372036854775807 ∧ (a = none → c = 0) ∧ (0 < W.length → ∃ g o, a = some ⟨g, o, none⟩ ∧ PrR w g o W ∧ g < w.heap.size)
theorem prStruct : ∃ f0 f1, Tryz.prog.underlying 40 = some (.struct #[f0, f1]) ∧ Tryz.prog.cellsOf 40 = 2 ∧ f0.offset = 0 ∧ f1.offset = 1 ∧ Tryz.prog.underlying f0.type = some (.int .i64) ∧ Tryz.prog.underlying f1.type = some (.int .i64) ∧ Tryz.prog.cellsOf f0.type = 1 ∧ Tryz.prog.cellsOf f1.type = 1 :=
 ⟨_, _, Tryz.underlying40, by kernel_rfl, by kernel_rfl, by kernel_rfl, by kernel_rfl, by kernel_rfl, by kernel_rfl, by kernel_rfl⟩
section
variable {H : Type} {enc : TypeId × Value → H}
set_option maxRecDepth 100000 in
theorem pairs_of_trod {W : World} {base : Nat} {v : Value} {d : DataW H} {ps : List MemPlace} (hv : Value.okWide Tryz.prog W .any base 33 v) (h : DataW.Trod enc Tryz.prog W 0 (fun _ => true) true 33 v d ps) :
  ∃ S, PrA W v S := by
 obtain ⟨a0, len, cap, rfl⟩ := okWide_slice Tryz.underlying33 hv
 obtain ⟨fuel, hf⟩ := h
 obtain ⟨f0, f1, he, ce, o0, o1, t0, t1, c0, c1⟩ := prStruct
 rcases open_slice Tryz.underlying33 hf with ⟨hcs, _⟩ | ⟨a, len', cap', m, n, D, Pl, hcs, _, hl, hm, hmm, _, hx⟩
 ·simp [Value.cells] at hcs
  obtain ⟨rfl, rfl, rfl⟩ := hcs
  exact ⟨[], _, _, rfl, Nat.le_refl _, Nat.zero_le _, fun _ => rfl, fun q => absurd q (by simp)⟩
 ·simp [Value.cells] at hcs
  obtain ⟨rfl, rfl, rfl⟩ := hcs
  simp only [if_true] at hmm
  unfold maxLen at hm
  have each : ∀ i, i < len → ∃ q : Int × Int, W.cell? (a.add (i * 2)) = some (.int .i64 q.1) ∧ W.cell? (a.add (i * 2 + 1)) = some (.int .i64 q.2) := by
   intro i hi
   obtain ⟨cs', h1, h2⟩ := hx i (by omega)
   rw [ce] at h1
   obtain ⟨_, hlen, hcell⟩ := World.cells?_some h1
   obtain ⟨xs, k, hk, hxy, _, hxl, hf⟩ := DataW.trod_struct he h2
   match xs, hxl, cs', hlen with
   | [y0, y1], _, [v0, v1], _ =>
    have g0 := hf 0 f0 rfl
    have g1 := hf 1 f1 rfl
    simp [o0, o1, c0, c1] at g0 g1
    have e0 := hcell 0 (by omega)
    have e1 := hcell 1 (by omega)
    rw [Go.Deep.add_add] at e0 e1
    obtain ⟨n0, q0, _, _⟩ := DataW.trod_int t0 g0
    obtain ⟨n1, q1, _, _⟩ := DataW.trod_int t1 g1
    simp at q0 q1
    subst q0 q1
    exact ⟨⟨n0, n1⟩, by simpa using e0, by simpa using e1⟩
  obtain ⟨q, hq⟩ := choose_lt each
  refine ⟨(List.range len).map q, some a, cap, by simp, by simpa using hl, by omega, fun e => (by cases e), fun h0 => ?_⟩
  have h0 : 0 < len := by simpa using h0
  have e := plain_addr (a := a) (u := .int .i64 (q 0).1) (by simpa using (hq 0 h0).1)
  rw [e]
  have hq2 := hq
  rw [e] at hq2
  simp only [addr_add] at hq2
  have hgt : ∀ i, i < len → ((List.range len).map q).getD i (0, 0) = q i := fun i hi => by simp [hi]
  refine ⟨a.block, a.off, rfl, ⟨fun i hi => ?_, fun i hi => ?_⟩, World.block_lt_of_cell? W ⟨a.block, a.off + 0 * 2, none⟩ (hq2 0 h0).1⟩
  ·have hi : i < len := by simpa using hi
   rw [hgt i hi]; exact (hq2 i hi).1
  ·have hi : i < len := by simpa using hi
   rw [hgt i hi]; exact (hq2 i hi).2
end
end Go.Proofs.YtolkchkedieppaaGreat
