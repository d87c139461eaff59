/- Arguments of the laws, opened: numbers without a sign. -/
import Derived.Test.YtgmopcncbpdniaaQOpen
set_option linter.unusedVariables false
set_option linter.unusedSimpArgs false
namespace Go.Proofs.Ytgmopcncbpdniaa
open Go.ChangeShapes Go.WideShapes Go.ChangeAt Go.RowKit Go.Deep

section
variable {H : Type} {enc : TypeId × Value → H}
set_option maxRecDepth 100000 in
/-- numbers without a sign, opened -/
theorem nats_of_trod {W : World} {base t e : Nat} {k : IntKind} {v : Value} {d : DataW H} {ps : List MemPlace} {B : Int} (ht : Try.prog.underlying t = some (.slice e)) (he : Try.prog.underlying e = some (.int k)) (hc : Try.prog.cellsOf e = 1)
    (hB : ∀ z, (Lit.int k z).wf = true → 0 ≤ z ∧ z < B) (hv : Value.okWide Try.prog W .any base t v) (h : DataW.Trod enc Try.prog W 0 (fun _ => true) true t v d ps) :
    ∃ (n : Nat) (g : Nat → Nat), Sl W v n (fun i => .int k (g i : Nat)) ∧ (∀ i, i < n → ((g i : Nat) : Int) < B) ∧ n ≤ maxLen := by
  obtain ⟨a0, len, cap, rfl⟩ := okWide_slice ht hv
  obtain ⟨fuel, hf⟩ := h
  rcases open_ints ht he hc hf with ⟨hcs, hx⟩ | ⟨a, len', cap', zs, hcs, _, hl, hm, hz, hx, hcell, hwz⟩
  · simp [Value.cells] at hcs
    obtain ⟨rfl, rfl, rfl⟩ := hcs
    exact ⟨0, fun _ => 0, ⟨_, _, _, _, rfl, sl_none W _⟩, fun i hi => absurd hi (Nat.not_lt_zero i), Nat.zero_le _⟩
  · simp [Value.cells] at hcs
    obtain ⟨rfl, rfl, rfl⟩ := hcs
    simp only [if_true] at hz
    have hb : ∀ i, i < len → 0 ≤ zs.getD i 0 ∧ zs.getD i 0 < B := fun i hi => hB _ (hwz _ (by
      have : i < zs.length := by omega
      rw [List.getD_eq_getElem?_getD, List.getElem?_eq_getElem this]
      exact List.getElem_mem this))
    obtain ⟨b, o, hs⟩ := sl_of_cells (w := W) (a := a) (g := fun i => .int k (((zs.getD i 0).toNat : Nat) : Int)) hl (fun i hi => by
      rw [hcell i (by omega), Int.toNat_of_nonneg (hb i hi).1])
    exact ⟨len, fun i => (zs.getD i 0).toNat, ⟨_, _, _, _, rfl, hs⟩, fun i hi => by rw [Int.toNat_of_nonneg (hb i hi).1]; exact (hb i hi).2, Nat.le_trans hl hm⟩
theorem wf_u16 (z : Int) (h : (Lit.int .u16 z).wf = true) : 0 ≤ z ∧ z < 65536 := by
  have : 0 ≤ z ∧ z ≤ 65535 := by simpa [Lit.wf, IntKind.min, IntKind.max, IntKind.signed, IntKind.bits] using h
  omega
theorem wf_u8 (z : Int) (h : (Lit.int .u8 z).wf = true) : 0 ≤ z ∧ z < 256 := by
  have : 0 ≤ z ∧ z ≤ 255 := by simpa [Lit.wf, IntKind.min, IntKind.max, IntKind.signed, IntKind.bits] using h
  omega
end

end Go.Proofs.Ytgmopcncbpdniaa
