/- The arguments of the laws, opened: slices and matrices of integers; the last step of a row. -/
import Derived.Test.YtgmopcncbpdniaaQMat
import Derived.Below
import Derived.ChangeSame
import Derived.ChangeSlices
import Derived.ProofKit
import Derived.OpenShut
import Derived.WideKeyArgs
import Derived.Deep.Matrix
set_option linter.unusedVariables false
set_option linter.unusedSimpArgs false
namespace Go.Proofs.Ytgmopcncbpdniaa
open Go.ChangeShapes Go.WideShapes Go.ChangeAt Go.RowKit Go.Deep

section
variable {H : Type} {enc : TypeId × Value → H} {P : Program}
theorem post_of_below {f : Func} {s : ChangeSpec} {apart fresh handsOn again : Bool} {W W' : World} {args : Array Value} {v : Value} {ds gs : List (DataW H)} {before pa pv : List MemPlace}
    (hW : DataW.Whole enc P f.params.toList s.vars apart W args.toList ds gs before)
    (hres : ∀ (b : Nat) (sp : Nat → Bool) (hd : Bool), DataW.TrodAll enc P W' b sp hd f.resultTypes.toList (v.resultList f.resultTypes.size) (s.fn H (ds ++ gs)).results [])
    (hargs : ∀ sp : Nat → Bool, (∀ p ∈ before, sp p.block = true) → DataW.TrodAll enc P W' 0 sp true f.params.toList args.toList (s.fn H (ds ++ gs)).args pa)
    (hvars : ∀ sp : Nat → Bool, (∀ p ∈ before, sp p.block = true) → DataW.TrodVars enc P W' sp s.vars (s.fn H (ds ++ gs)).vars pv)
    (hps : before = pa ++ pv) (hb : Below W.heap.size W W')
    (hok : ∀ (j : Nat) (t : TypeId) (r : Value), f.resultTypes[j]? = some t → (v.resultList f.resultTypes.size)[j]? = some r → Value.okWide P W' .any 0 t r) :
    s.post enc P f apart fresh handsOn again W args v W' := by
  have hlt : ∀ p ∈ before, p.block < W.heap.size := fun p hp => hW.lt p hp
  have hold : ∀ p ∈ before, (fun b => decide (b < W.heap.size)) p.block = true := fun p hp => by simpa using hlt p hp
  refine ⟨ds, gs, before, [], pa, pv, hW, hres _ _ _, hargs _ hold, hvars _ hold, World.keptBut_mono (fun p hp => ⟨hp, ?_⟩) (hb.frame (· ∈ before)), fun _ => ?_⟩
  · rw [hps, List.mem_append] at hp
    exact Or.inr hp
  · obtain ⟨_, _, _, _, _, hz, hn⟩ := hW
    refine ⟨hok, _, _, ([] ++ pa) ++ pv, ⟨[] ++ pa, pv, trodAll_append (hargs _ (fun _ _ => rfl)) (hres _ _ _), hvars _ (fun _ _ => rfl), rfl, ?_, ?_⟩, ?_⟩
    · intro b off hp
      have hin : MemPlace.cell b off ∈ before := by rw [hps]; simpa using hp
      rw [hb.frozen (hlt _ hin)]
      exact hz b off hin
    · intro ha
      have := hn ha
      rw [hps] at this
      simpa using this
    · intro p hp _
      rw [hps]
      simpa using hp
end

theorem ownGodebug : ownKnob Try.prog.godebug = none := by kernel_rfl
theorem laidOutP : laidOutB Try.prog = true := by kernel_rfl
theorem cellsM : Try.prog.cellsOf 23 = 1 := by kernel_rfl
theorem cellsI : Try.prog.cellsOf 3 = 1 := by kernel_rfl

section
variable {H : Type} {enc : TypeId × Value → H}
theorem plain_addr {w : World} {a : Addr} {u : Value} (h : w.cell? (a.add 0) = some u) : a = ⟨a.block, a.off, none⟩ := by
  obtain ⟨b, o, s⟩ := a
  have : s = none := by simpa [Addr.add] using World.cell?_spot h
  subst this; rfl
theorem addr_add (b o j : Nat) : (⟨b, o, none⟩ : Addr).add j = ⟨b, o + j, none⟩ := by unfold Addr.add; split <;> simp_all
theorem sl_of_cells {w : World} {a : Addr} {n c : Nat} {g : Nat → Value} (hc : n ≤ c) (h : ∀ i, i < n → w.cell? (a.add i) = some (g i)) : ∃ b o, IsSl w (some a) b o c n g := by
  by_cases h0 : 0 < n
  · have e := plain_addr (h 0 h0)
    have h2 : ∀ i, i < n → w.cell? ⟨a.block, a.off + i, none⟩ = some (g i) := fun i hi => by
      have h1 := h i hi
      rw [e, addr_add] at h1; exact h1
    exact ⟨a.block, a.off, hc, fun _ => by rw [← e], fun _ => World.block_lt_of_cell? w ⟨a.block, a.off + 0, none⟩ (h2 0 h0), h2, fun e => by cases e⟩
  · exact ⟨0, 0, hc, fun q => absurd q h0, fun q => absurd q h0, fun i hi => by omega, fun e => by cases e⟩
theorem sl_none (w : World) (g : Nat → Value) : IsSl w none 0 0 0 0 g := ⟨Nat.le_refl _, fun q => by omega, fun q => by omega, fun i hi => by omega, fun _ => rfl⟩

set_option maxRecDepth 100000 in
theorem ints_of_trod {W : World} {base : Nat} {v : Value} {d : DataW H} {ps : List MemPlace} (hv : Value.okWide Try.prog W .any base 23 v) (h : DataW.Trod enc Try.prog W 0 (fun _ => true) true 23 v d ps) :
    ∃ n f, Ints W v n f ∧ n ≤ 9223372036854775807 := by
  obtain ⟨a0, len, cap, rfl⟩ := okWide_slice Try.underlying23 hv
  obtain ⟨fuel, hf⟩ := h
  rcases open_ints Try.underlying23 Try.underlying3 cellsI hf with ⟨hcs, hx⟩ | ⟨a, len', cap', zs, hcs, _, hl, hm, hz, hx, hcell, hwz⟩
  · simp [Value.cells] at hcs
    obtain ⟨rfl, rfl, rfl⟩ := hcs
    exact ⟨0, fun _ => 0, ⟨_, _, _, _, rfl, sl_none W _⟩, Nat.zero_le _⟩
  · simp [Value.cells] at hcs
    obtain ⟨rfl, rfl, rfl⟩ := hcs
    simp only [if_true] at hz
    unfold maxLen at hm
    obtain ⟨b, o, hs⟩ := sl_of_cells (w := W) (a := a) (g := ic (fun i => zs.getD i 0)) hl (fun i hi => hcell i (by omega))
    exact ⟨len, fun i => zs.getD i 0, ⟨_, _, _, _, rfl, hs⟩, by omega⟩

set_option maxRecDepth 100000 in
theorem mat_of_trod {W : World} {base : Nat} {v : Value} {d : DataW H} {ps : List MemPlace} (hv : Value.okWide Try.prog W .any base 24 v) (h : DataW.Trod enc Try.prog W 0 (fun _ => true) true 24 v d ps) :
    ∃ n m f, Mat W v n m f ∧ n ≤ 9223372036854775807 ∧ ∀ i, i < n → m i ≤ 9223372036854775807 := by
  obtain ⟨a0, len, cap, rfl⟩ := okWide_slice Try.underlying24 hv
  obtain ⟨fuel, hf⟩ := h
  rcases open_int_rows Try.underlying24 Try.underlying23 Try.underlying3 cellsM cellsI hf with ⟨hcs, hx⟩ | ⟨a, len', cap', A, L, C, Z, hcs, _, hl, hm, hx, hrows⟩
  · simp [Value.cells] at hcs
    obtain ⟨rfl, rfl, rfl⟩ := hcs
    exact ⟨0, fun _ => 0, fun _ _ => 0, ⟨none, 0, 0, 0, fun _ => none, fun _ => 0, fun _ => 0, fun _ => 0, rfl, ⟨sl_none W _, fun i hi => absurd hi (Nat.not_lt_zero i)⟩⟩, Nat.zero_le _, fun i hi => absurd hi (Nat.not_lt_zero i)⟩
  · simp [Value.cells] at hcs
    obtain ⟨rfl, rfl, rfl⟩ := hcs
    unfold maxLen at hm hrows
    obtain ⟨b, o, hs⟩ := sl_of_cells (w := W) (a := a) (g := fun i => .slice (A i) (L i) (C i)) hl (fun i hi => (hrows i (by omega)).1)
    have hrow : ∀ i, ∃ p : Nat × Nat, i < len → IsSl W (A i) p.1 p.2 (C i) (L i) (ic (fun j => (Z i).getD j 0)) := fun i => by
      by_cases hi : i < len
      · obtain ⟨_, h2, h3, h4, h5, h6, h7⟩ := hrows i (by omega)
        cases hA : A i with
        | none =>
          have hc := h6 hA
          refine ⟨(0, 0), fun _ => ?_⟩
          have hL : L i = 0 := by omega
          rw [hc, hL]; exact sl_none W _
        | some a' =>
          obtain ⟨b', o', hs'⟩ := sl_of_cells (w := W) (a := a') (g := ic (fun j => (Z i).getD j 0)) h2 (fun j hj => (h7 a' hA).2 j (by omega))
          exact ⟨(b', o'), fun _ => hs'⟩
      · exact ⟨(0, 0), fun e => absurd e hi⟩
    refine ⟨len, L, fun i j => (Z i).getD j 0, ⟨some a, b, o, cap, A, fun i => (Classical.choose (hrow i)).1, fun i => (Classical.choose (hrow i)).2, C, rfl, ⟨hs, fun i hi => Classical.choose_spec (hrow i) hi⟩⟩, by omega, fun i hi => ?_⟩
    obtain ⟨_, h2, h3, _⟩ := hrows i (by omega)
    omega
end

end Go.Proofs.Ytgmopcncbpdniaa
