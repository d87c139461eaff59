/- part of package num: the quotient and the remainder of two sizes. -/
import Derived.Test.YtgmopcncbpdniaaQNum8
import Derived.Test.YtgmopcncbpdniaaQShelf
set_option linter.unusedVariables false
set_option linter.unusedSimpArgs false
namespace Go.Proofs.Ytgmopcncbpdniaa
open Go.RowKit

theorem digit_any (g m j n cc : Nat) (f : Nat → Nat) (a2 : Option Addr) (b2 o2 c2 y : Nat) (w : World) (i2 : IsSl w a2 b2 o2 c2 n (lc y)) (hny : nl y = n) (hn2 : 2 ≤ n) (hne : b2 ≠ g)
    (hrow : w.rowIs g 111 m (fun t => .int .u32 (f t : Nat))) (hf : ∀ t, t < m → f t < 4294967296) (hj : j + n + 1 ≤ m) (hcc : n + 1 ≤ cc) (bn : n ≤ 1099511627776)
    (htop : 2147483648 ≤ dig y (n - 1)) (hU : valF (win f j) (n + 1) < y * 4294967296) :
    Calls Try.prog 100 #[.slice (some ⟨g, j, none⟩) (n + 1) cc, .slice a2 n c2] w fun e w' => ∃ f' : Nat → Nat,
      e = .returned (.int .u32 (valF (win f j) (n + 1) / y : Nat)) ∧ w'.rowIs g 111 m (fun t => .int .u32 (f' t : Nat)) ∧ (∀ t, t < j ∨ j + n < t → f' t = f t) ∧
      (∀ t, t < m → f' t < 4294967296) ∧ valF (win f' j) (n + 1) = valF (win f j) (n + 1) % y ∧ w.grownBy w' (some g) := by
  obtain ⟨k, hk⟩ : ∃ k, n = k + 2 := ⟨n - 2, by omega⟩
  have hkf : ((win f j (k + 2) * 4294967296 + win f j (k + 1)) * 4294967296 + win f j k) * 4294967296 ^ k ≤ valF (win f j) (k + 3) ∧ _ := knuth_facts (win f j) k y (fun i hi => hf _ (by omega)) (by omega) (by rw [hk] at hU; exact hU)
  have hy0 : 0 < y := by
    rcases Nat.eq_zero_or_pos y with q | q
    · rw [q] at hny; simp [nl] at hny; omega
    · exact q
  have hd1 := i2.cell (n - 1) (by omega)
  have hd2 := i2.cell (n - 2) (by omega)
  simp only [lc] at hd1 hd2
  have e1 : n - 1 = k + 1 := by omega
  have e2 : n - 2 = k := by omega
  refine digit_core g m j n cc f a2 b2 o2 c2 y w i2 hny hn2 hne hrow hf hj hcc bn _ (f (j + n) * 4294967296 + f (j + (n - 1))) (f (j + n)) (f (j + (n - 1))) (f (j + (n - 2))) (dig y (n - 1)) (dig y (n - 2)) rfl
    (or_join _ _ (hf _ (by omega)) (hf _ (by omega))) ?_ (hf _ (by omega)) (hf _ (by omega)) (hf _ (by omega)) (dig_lt _ _) (dig_lt _ _) htop ?_ (hrow.cell (by omega)) (hrow.cell (by omega)) (hrow.cell (by omega)) hd1 hd2
  · rw [e1, e2]
    have en : n = k + 2 := hk
    subst en
    exact ⟨hkf.1, hkf.2.1, hkf.2.2.1, hkf.2.2.2.1, hkf.2.2.2.2.1, hU, hy0⟩
  · rw [e1, e2]
    have en : n = k + 2 := hk
    subst en
    exact hkf.2.2.2.2.2

end Go.Proofs.Ytgmopcncbpdniaa
