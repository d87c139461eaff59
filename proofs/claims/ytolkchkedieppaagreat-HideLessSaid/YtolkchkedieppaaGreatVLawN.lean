/- The law HideEuclids: its walk. -/
import Derived.Test.YtolkchkedieppaaGreatVLayB
import Derived.Test.YtolkchkedieppaaGreatVLivH
set_option linter.unusedVariables false
set_option linter.unusedSimpArgs false
namespace Go.Proofs.YtolkchkedieppaaGreat
open Go.RowKit
attribute [local go_sem ↓] Go.wp_at_zero Go.wp_at_succ
theorem if_min (x y : Nat) : (if (y : Int) < (x : Int) then (y : Int) else (x : Int)) = ((min x y : Nat) : Int) := by split <;> omega
theorem if_max (x y : Nat) : (if (x : Int) < (y : Int) then (y : Int) else (x : Int)) = ((max x y : Nat) : Int) := by split <;> omega
theorem euclid_ok (x y : Nat) (w : World) (hx : 1 ≤ x) (hx2 : x ≤ 1000) (hy : 1 ≤ y) (hy2 : y ≤ 1000) (L : List Nat) (hL : L = euc (max x y) (min x y)) (h : L.length ≤ 24) :
  Calls Tryz.prog 38 #[.int .i64 (x : Nat), .int .i64 (y : Nat)] w fun e w' => ∃ va vk, e = .returned (.tuple #[.slice va L.length vk, .int .i64 0]) ∧ Ints w' (.slice va L.length vk) L.length (eF L) ∧ Below w.heap.size w w' := by
 refine (euclid_core x y (max x y) (min x y) w (if_min x y) (if_max x y) (by omega) (by omega) (by omega) L hL).mono ?_
 rintro e w' ⟨(⟨_, va, vk, rfl, hi⟩ | ⟨q, _⟩), hb⟩
 ·exact ⟨va, vk, rfl, hi, hb⟩
 ·omega
end Go.Proofs.YtolkchkedieppaaGreat
