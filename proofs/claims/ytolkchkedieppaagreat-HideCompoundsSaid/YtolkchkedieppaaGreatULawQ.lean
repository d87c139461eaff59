/- The law HideMeasures: its walk. -/
import Derived.Test.YtolkchkedieppaaGreatUPlainBt
import Derived.Shelf.Sort.Plain
import Derived.Shelf.Slices.CompactI
import Derived.Shelf.Slices.Cells
import Derived.Shelf.Slices.In.SortNone
import Derived.Ground.NamesProg
import Derived.Ground.Names2Prog
import Derived.Test.YtolkchkedieppaaGreatProg
import Derived.Test.YtolkchkedieppaaGreatUFew
import Derived.Lib.OwnBridge
import Derived.Lib.RowBridge
import Derived.Sort.Grow
import Derived.Test.YtolkchkedieppaaGreatUMcA
import Derived.Test.YtolkchkedieppaaGreatUPlainCp
import Derived.Test.YtolkchkedieppaaGreatULivH
set_option linter.unusedVariables false
set_option linter.unusedSimpArgs false
namespace Go.Proofs.YtolkchkedieppaaGreat
open Go.RowKit
attribute [local go_sem ↓] Go.wp_at_zero Go.wp_at_succ
/-- few at 24 squares, its row at length -/
theorem few_row (v : Value) (S : List Tr) (most : Nat) (w : World) (hv : SqA w v S) (hm : most ≤ 24) :
  Calls Tryz.prog 19 #[v, .int .i64 (most : Nat)] w fun e w' => ∃ va vk T, e = .returned (.slice va T.length vk) ∧ T = S.take (fewK S.length most) ∧ w'.ownsRow w.heap.size 47 3 (.slice va T.length vk) T.length (trL T) ∧ Below w.heap.size w w' := by
 refine (few_any v S most w hv hm).mono ?_
 rintro e w' ⟨va, vk, rfl, ho, hb⟩
 have hl : (S.take (fewK S.length most)).length = fewK S.length most := by rw [List.length_take]; exact Nat.min_eq_left (fewK_le _ _)
 refine ⟨va, vk, S.take (fewK S.length most), by rw [hl], rfl, ?_, hb⟩
 rw [hl]
 exact ho.out
end Go.Proofs.YtolkchkedieppaaGreat
