/- ref.Before, Same, SameLists, SameRow of equal lists. -/
import Derived.Test.YtcnaagiicpkcpaaGreatMMkt2
import Derived.Test.YtcnaagiicpkcpaaGreatMLive5
set_option linter.unusedVariables false
set_option linter.unusedSimpArgs false
namespace Go.Proofs.YtcnaagiicpkcpaaGreat
open Go.RowKit
attribute [local go_sem ↓] Go.wp_at_zero Go.wp_at_succ
set_option maxHeartbeats 2000000 in
set_option maxRecDepth 100000 in
theorem before_eq (v1 v2 : Value) (n : Nat) (f : Nat → Int) (w : World) (h1 : Ints w v1 n f) (h2 : Ints w v2 n f) (hn : n ≤ 1048576) :
  Calls Tryz.prog 30 #[v1, v2] w fun e w' => e = .returned (.bool false) ∧ Drawn w w' := by
 obtain ⟨a1, b1, o1, c1, rfl, s1⟩ := h1
 obtain ⟨a2, b2, o2, c2, rfl, s2⟩ := h2
 have S1 := Lib.hid s1
 have S2 := Lib.hid s2
 clear s1 s2
 go_enter Tryz.func30, Tryz.ntmps30
 go_wp2
 go_loopw [5] (fun v5 wr => ∃ k : Nat, k ≤ n ∧ v5 = .int .i64 (k : Nat) ∧ Hid (Drawn w wr)) (fun v5 _ => n - (intOf v5).toNat)
 case atStart => exact ⟨0, by omega, rfl, Lib.hid (Drawn.refl _)⟩
 case round =>
  obtain ⟨k, hk, rfl, hd⟩ := hrel
  by_cases h : k < n
  ·have d1 : decide ((k : Int) < (n : Int)) = true := by simpa using h
   have d1n : decide (k < n) = true := by simpa using h
   have ix1 := fun W => ixI S1.out k c1 h W
   have ix2 := fun W => ixI S2.out k c2 h W
   have x1 := (S1.out.drawn hd.out).cell k h
   have x2 := (S2.out.drawn hd.out).cell k h
   simp only [ic] at x1 x2
   have d2 : (f k != f k) = false := by simp
   go_wp2
   go_quiet (fail)
   go_wp2
   go_roundw
   case rel => exact ⟨k + 1, by omega, by go_num, Lib.hid (hd.out.trans (Drawn.of _ _))⟩
   case measure => simp [intOf]; omega
  ·obtain rfl : k = n := by omega
   have d1 : decide ((k : Int) < (k : Int)) = false := by simp
   go_wp2
   go_ret
   exact ⟨by first | rfl | (simp; done), hd.out⟩
theorem same_eq (v1 v2 : Value) (n : Nat) (f : Nat → Int) (w : World) (h1 : Ints w v1 n f) (h2 : Ints w v2 n f) (hn : n ≤ 1048576) :
  Calls Tryz.prog 31 #[v1, v2] w fun e w' => e = .returned (.bool true) ∧ Drawn w w' := by
 have H1 := Lib.hid h1
 have H2 := Lib.hid h2
 have HD := Lib.hid (Drawn.refl w)
 clear h1 h2
 go_enter Tryz.func31, Tryz.ntmps31
 go_wp2_with (first
  | (go_at_call 30; (with_reducible refine (before_eq v1 v2 n f _ (H1.out.drawn HD.out) (H2.out.drawn HD.out) hn).mono ?_); rintro e w1 ⟨rfl, hd⟩; have HD := Lib.hid (HD.out.trans hd); clear hd)
  | (go_at_call 30; (with_reducible refine (before_eq v2 v1 n f _ (H2.out.drawn HD.out) (H1.out.drawn HD.out) hn).mono ?_); rintro e w2 ⟨rfl, hd⟩; have HD := Lib.hid (HD.out.trans hd); clear hd))
 go_ret
 exact ⟨rfl, HD.out⟩
set_option maxHeartbeats 2000000 in
set_option maxRecDepth 100000 in
theorem sameLists_eq (v1 v2 : Value) (n : Nat) (m : Nat → Nat) (f : Nat → Nat → Int) (w : World) (h1 : Mat w v1 n m f) (h2 : Mat w v2 n m f) (hn : n ≤ 1048576) (hm : ∀ i, i < n → m i ≤ 1048576) :
  Calls Tryz.prog 11 #[v1, v2] w fun e w' => e = .returned (.bool true) ∧ Drawn w w' := by
 obtain ⟨a1, b1, o1, c1, ra1, rb1, ro1, rc1, rfl, s1⟩ := h1
 obtain ⟨a2, b2, o2, c2, ra2, rb2, ro2, rc2, rfl, s2⟩ := h2
 have S1 := Lib.hid s1
 have S2 := Lib.hid s2
 have HM := Lib.hid hm
 clear s1 s2 hm
 have d0 : ((n : Int) != (n : Int)) = false := by simp
 go_enter Tryz.func11, Tryz.ntmps11
 go_wp2
 go_loopw [5] (fun v5 wr => ∃ k : Nat, k ≤ n ∧ v5 = .int .i64 (k : Nat) ∧ Hid (Drawn w wr)) (fun v5 _ => n - (intOf v5).toNat)
 case atStart => exact ⟨0, by omega, rfl, Lib.hid (Drawn.refl _)⟩
 case round =>
  obtain ⟨k, hk, rfl, hd⟩ := hrel
  by_cases h : k < n
  ·have d1 : decide ((k : Int) < (n : Int)) = true := by simpa using h
   have ix1 := fun W => ixM S1.out.top k c1 h W
   have ix2 := fun W => ixM S2.out.top k c2 h W
   have x1 := (S1.out.top.drawn hd.out).cell k h
   have x2 := (S2.out.top.drawn hd.out).cell k h
   go_wp2
   go_region_with (go_at_call 31; refine (same_eq _ _ (m k) (f k) _ ⟨_, _, _, _, rfl, ((S1.out.drawn hd.out).row k h).drew⟩ ⟨_, _, _, _, rfl, ((S2.out.drawn hd.out).row k h).drew⟩ (HM.out k h)).mono ?_; rintro e w1 ⟨rfl, hd1⟩)
   all_goals
    have HDD := Lib.hid (hd.out.drew.trans hd1)
    clear hd1
    go_wp2
    go_roundw
    case rel => exact ⟨k + 1, by omega, by go_num, HDD⟩
    case measure => simp [intOf]; omega
  ·obtain rfl : k = n := by omega
   have d1 : decide ((k : Int) < (k : Int)) = false := by simp
   go_wp2
   go_ret
   exact ⟨rfl, hd.out⟩
set_option maxHeartbeats 2000000 in
set_option maxRecDepth 100000 in
theorem sameRow_eq (v1 v2 : Value) (n : Nat) (f : Nat → ByteArray) (w : World) (h1 : Sl w v1 n (fun j => .string (f j))) (h2 : Sl w v2 n (fun j => .string (f j))) (hn : n ≤ 1048576) :
  Calls Tryz.prog 27 #[v1, v2] w fun e w' => e = .returned (.bool true) ∧ Drawn w w' := by
 obtain ⟨a1, b1, o1, c1, rfl, s1⟩ := h1
 obtain ⟨a2, b2, o2, c2, rfl, s2⟩ := h2
 have S1 := Lib.hid s1
 have S2 := Lib.hid s2
 clear s1 s2
 have d0 : ((n : Int) != (n : Int)) = false := by simp
 go_enter Tryz.func27, Tryz.ntmps27
 go_wp2
 go_loopw [5] (fun v5 wr => ∃ k : Nat, k ≤ n ∧ v5 = .int .i64 (k : Nat) ∧ Hid (Drawn w wr)) (fun v5 _ => n - (intOf v5).toNat)
 case atStart => exact ⟨0, by omega, rfl, Lib.hid (Drawn.refl _)⟩
 case round =>
  obtain ⟨k, hk, rfl, hd⟩ := hrel
  by_cases h : k < n
  ·have d1 : decide ((k : Int) < (n : Int)) = true := by simpa using h
   have g1 : (0 : Int) ≤ (k : Int) := Int.natCast_nonneg k
   have g2 : (k : Int) < (n : Int) := by omega
   obtain rfl := S1.out.at_ (by omega)
   obtain rfl := S2.out.at_ (by omega)
   have x1 := (S1.out.drawn hd.out).cell k h
   have x2 := (S2.out.drawn hd.out).cell k h
   go_wp2
   go_quiet (fail)
   go_wp2
   go_roundw
   case rel => exact ⟨k + 1, by omega, by go_num, Lib.hid (hd.out.trans (Drawn.of _ _))⟩
   case measure => simp [intOf]; omega
  ·obtain rfl : k = n := by omega
   have d1 : decide ((k : Int) < (k : Int)) = false := by simp
   go_wp2
   go_ret
   exact ⟨rfl, hd.out⟩
end Go.Proofs.YtcnaagiicpkcpaaGreat
