/- The law HideLays: its walk. -/
import Derived.Test.YtolkchkedieppaaGreatVOrd
import Derived.Test.YtolkchkedieppaaGreatVLayB
import Derived.Test.YtolkchkedieppaaGreatVLivH
set_option linter.unusedVariables false
set_option linter.unusedSimpArgs false
namespace Go.Proofs.YtolkchkedieppaaGreat
open Go.RowKit
attribute [local go_sem ↓] Go.wp_at_zero Go.wp_at_succ
/-- a size is out of range -/
def badS (z : Int) : Prop := z < 1 ∨ 1000 < z
instance (z : Int) : Decidable (badS z) := by unfold badS; infer_instance
theorem some_inj2 {α β : Type} {a a' : α} {b b' : β} {o : Option (α × β)} (h1 : o = some (a, b)) (h2 : o = some (a', b')) : a = a' ∧ b = b' := by
 rw [h1] at h2
 injection h2 with h2
 injection h2 with h3 h4
 exact ⟨h3, h4⟩
section
variable (v : Value) (W : Nat) (S : List Nat) (w : World) (hv : Ints w v S.length (eF S)) (hW : 1 ≤ W) (hW2 : W ≤ 1000) (hS24 : S.length ≤ 24) (hS : ∀ s ∈ S, 1 ≤ s ∧ s ≤ 1000)
include hv hW hW2 hS24 hS
theorem lay_ok (hS0 : 0 < S.length) (out : List Sq) (F : Nat → Int) (h1 : layF W S (fun _ => 0) [] = some (out, F)) (h2 : Lvl W F) :
  Calls Tryz.prog 15 #[.int .i64 (W : Nat), v] w fun e w' => ∃ va vk, e = .returned (.tuple #[.slice va out.length vk, .int .i64 0]) ∧ w'.ownsRow w.heap.size 47 3 (.slice va out.length vk) out.length (sqL out) ∧ Below w.heap.size w w' := by
 refine (lay_good v W S w hv hW hW2 hS0 hS24 hS).mono ?_
 rintro e w' ⟨⟨o, G, h3, h4, va, vk, rfl, ho⟩ | ⟨h3, _⟩, hb⟩
 ·obtain ⟨rfl, rfl⟩ := some_inj2 h1 h3
  exact ⟨va, vk, rfl, ho, hb⟩
 ·exact absurd h2 (h3 _ _ h1)
end
end Go.Proofs.YtolkchkedieppaaGreat
