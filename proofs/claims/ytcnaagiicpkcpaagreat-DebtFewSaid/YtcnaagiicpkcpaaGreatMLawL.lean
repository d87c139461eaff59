/- The law DebtGroups: its walk. -/
import Derived.Test.YtcnaagiicpkcpaaGreatMSameL
import Derived.Test.YtcnaagiicpkcpaaGreatMTakes
import Derived.Test.YtcnaagiicpkcpaaGreatMGrpA
import Derived.Deep.DeepCutAuto
import Derived.Deep.CutBlock
import Derived.Lib.SliceRun
import Derived.Test.YtcnaagiicpkcpaaGreatMFun
import Derived.Test.YtcnaagiicpkcpaaGreatMRepR
import Derived.Test.YtcnaagiicpkcpaaGreatMLives
set_option linter.unusedVariables false
set_option linter.unusedSimpArgs false
namespace Go.Proofs.YtcnaagiicpkcpaaGreat
open Go.RowKit
attribute [local go_sem ↓] Go.wp_at_zero Go.wp_at_succ
theorem nzC_le (f : Nat → Int) (s : Nat) : ∀ k, nzC f s k ≤ k
 | 0 => Nat.le_refl _
 | k + 1 => by have := nzC_le f s k; simp only [nzC]; split <;> omega
theorem bigC_le (n : Nat) : ∀ L : List Nat, bigC n L ≤ L.length
 | [] => Nat.le_refl _
 | g :: l => by have := bigC_le n l; simp only [bigC, List.length_cons]; split <;> omega
theorem bigC_app (n : Nat) (g : Nat) : ∀ L : List Nat, bigC n (L ++ [g]) = bigC n L + if 1 < (mem g n).length then 1 else 0
 | [] => by simp [bigC]
 | x :: l => by simp only [List.cons_append, bigC, bigC_app n g l]; omega
theorem bigC_step {n : Nat} (hn : n ≤ 10) {L : List Nat} (k : Nat) (h : k < L.length) (hg : L.getD k 0 < 2 ^ n) : bigC n (L.take (k + 1)) = bigC n (L.take k) + if 1 < mlen L k then 1 else 0 := by
 have e : L.take (k + 1) = L.take k ++ [L.getD k 0] := by rw [List.take_add_one]; simp [h]
 rw [e, bigC_app]
 unfold mlen
 rw [mem_ten hg hn]
end Go.Proofs.YtcnaagiicpkcpaaGreat
