/- Compound of the reference of hide. (Printed by gen_rcm.py.) -/
import Derived.Test.YtolkchkedieppaaGreatVLast
import Derived.Test.YtolkchkedieppaaGreatVMcA
import Derived.Test.YtolkchkedieppaaGreatVRdB
import Derived.BigQuiet
import Derived.Lib.SliceRun
import Derived.Test.YtolkchkedieppaaGreatVOrd
import Derived.BigRegion
import Derived.Test.YtolkchkedieppaaGreatVNetB
import Derived.Deep.RegionHeld3
import Derived.Deep.DeepCutAuto
import Derived.Deep.CutBlock
import Derived.Test.YtolkchkedieppaaGreatVPlainCv
import Derived.Test.YtolkchkedieppaaGreatVLivH
import Derived.Test.YtolkchkedieppaaGreatVOwnI
set_option linter.unusedVariables false
set_option linter.unusedSimpArgs false
namespace Go.Proofs.YtolkchkedieppaaGreat
open Go.RowKit
attribute [local go_sem ↓] Go.wp_at_zero Go.wp_at_succ
theorem run_neq_nil {P : Program} (w : World) (t e : TypeId) (a : Option Addr) (n c n' c' : Nat) (h : P.underlying t = some (.slice e)) :
  (binOp .neq t (.slice a n c) (.slice none n' c')).run P w = .ok (.bool (!a.isNone)) w := by
 simp only [binOp]
 simp [Op.equal, Op.maxDepth, Lib.run_equalIn_slice_nil w 9999 t e a n c n' c' h]
end Go.Proofs.YtolkchkedieppaaGreat
