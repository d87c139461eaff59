/- The law HideLays: its walk. -/
import Derived.Test.YtolkchkedieppaaGreatZSameR
import Derived.RegionTactic
import Derived.Test.YtolkchkedieppaaGreatZLayB
import Derived.Test.YtolkchkedieppaaGreatZLnA
import Derived.Deep.LoopGhost
import Derived.Test.YtolkchkedieppaaGreatZLivH
set_option linter.unusedVariables false
set_option linter.unusedSimpArgs false
namespace Go.Proofs.YtolkchkedieppaaGreat
open Go.RowKit
attribute [local go_sem ↓] Go.wp_at_zero Go.wp_at_succ
/-- a size is out of range -/
def badS (z : Int) : Prop := z < 1 ∨ 1000 < z
instance (z : Int) : Decidable (badS z) := by unfold badS; infer_instance
section
variable (v : Value) (W : Nat) (S : List Nat) (w : World) (hv : Ints w v S.length (eF S)) (hW : 1 ≤ W) (hW2 : W ≤ 1000) (hS24 : S.length ≤ 24) (hS : ∀ s ∈ S, 1 ≤ s ∧ s ≤ 1000)
include hv hW hW2 hS24 hS
end
end Go.Proofs.YtolkchkedieppaaGreat
