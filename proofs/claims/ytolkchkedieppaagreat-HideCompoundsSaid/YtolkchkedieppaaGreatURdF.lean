/- Network and Compound of squares that are no cut. -/
import Derived.Test.YtolkchkedieppaaGreatUPlainBt
set_option linter.unusedVariables false
set_option linter.unusedSimpArgs false
namespace Go.Proofs.YtolkchkedieppaaGreat
open Go.RowKit
attribute [local go_sem ↓] Go.wp_at_zero Go.wp_at_succ
set_option maxHeartbeats 1000000 in
set_option maxRecDepth 100000 in
theorem compound_bad {B : Nat} (va : Option Addr) (vk : Nat) (S : List Tr) (w : World) (e : Int) (ho : w.ownsRow B 47 3 (.slice va S.length vk) S.length (trL S)) (hb : BadS S e) :
  Calls Tryz.prog 43 #[.slice va S.length vk] w fun en w' => en = .returned (.tuple #[.slice none 0 0, .int .i64 e]) ∧ Below w.heap.size w w' := by
 have hcon := read_bad va vk S w e ho hb
 have hne := hb.ne
 have d1 : (e != 0) = true := by rw [bne_iff_ne]; exact hne
 have d2 : (e == 0) = false := by rw [beq_eq_false_iff_ne]; exact hne
 clear ho hb
 go_enter Tryz.func43, Tryz.ntmps43
 go_wp2_with (go_at_call 54; (with_reducible refine hcon.mono ?_); rintro en w1 ⟨rfl, hK⟩; have KW := Lib.hid hK; clear hK)
 go_ret2
 exact ⟨rfl, KW.out⟩
end Go.Proofs.YtolkchkedieppaaGreat
