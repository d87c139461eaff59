/- The law HideMeasures: its walk. -/
import Derived.Test.YtolkchkedieppaaGreatVRdC
import Derived.Test.YtolkchkedieppaaGreatVRdB
import Derived.BigQuiet
import Derived.Shelf.Sort.Plain
import Derived.Shelf.Slices.CompactI
import Derived.Shelf.Slices.Cells
import Derived.Shelf.Slices.In.SortNone
import Derived.Ground.NamesProg
import Derived.Ground.Names2Prog
import Derived.Test.YtolkchkedieppaaGreatProg
import Derived.Test.YtolkchkedieppaaGreatVHSame
import Derived.BigRegion
import Derived.Test.YtolkchkedieppaaGreatVNetB
import Derived.Deep.RegionHeld3
import Derived.Deep.DeepCutAuto
import Derived.Deep.CutBlock
import Derived.Lib.OwnBridge
import Derived.Lib.RowBridge
import Derived.Sort.Grow
import Derived.Test.YtolkchkedieppaaGreatVPlainTz
import Derived.Test.YtolkchkedieppaaGreatVRme
import Derived.Test.YtolkchkedieppaaGreatVTakes
import Derived.Deep.Slices
import Derived.Deep.SlicePairs
import Derived.Test.YtolkchkedieppaaGreatVOrd
import Derived.Test.YtolkchkedieppaaGreatVBefA
import Derived.Test.YtolkchkedieppaaGreatVLivH
set_option linter.unusedVariables false
set_option linter.unusedSimpArgs false
namespace Go.Proofs.YtolkchkedieppaaGreat
open Go.RowKit
attribute [local go_sem ↓] Go.wp_at_zero Go.wp_at_succ
theorem rmeas_mk {B : Nat} (v : Value) (L : List Tr) (W H : Nat) (w : World) (hv : OwS B w v L) (hm : MkC L W H) (hn : L.length ≤ 24) :
  Calls Tryz.prog 24 #[v] w fun e w' => e = .returned (.tuple #[.int .i64 (W : Nat), .int .i64 (H : Nat)]) ∧ Below w.heap.size w w' := by
 have h := rmeas_any v L w hv.sqV (hm.cut hn).rg (by omega)
 rw [hm.wd, hm.ht] at h
 exact h
end Go.Proofs.YtolkchkedieppaaGreat
