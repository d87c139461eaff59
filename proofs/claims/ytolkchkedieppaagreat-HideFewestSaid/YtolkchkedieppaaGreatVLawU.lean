/- The law HideFewest: its walk. (Printed by gen_lawu.py.) -/
import Derived.Test.YtolkchkedieppaaGreatVRFw
import Derived.Test.YtolkchkedieppaaGreatVLivH
set_option linter.unusedVariables false
set_option linter.unusedSimpArgs false
namespace Go.Proofs.YtolkchkedieppaaGreat
open Go.RowKit
attribute [local go_sem ↓] Go.wp_at_zero Go.wp_at_succ
set_option maxHeartbeats 4000000 in
set_option maxRecDepth 100000 in
theorem fewest_bad (x y : Int) (w : World) (h : (x < 1 ∨ 9 < x) ∨ y < 1 ∨ 9 < y) :
  Calls Tryz.prog 41 #[.int .i64 x, .int .i64 y] w fun e w' => e = .returned (.tuple #[.slice none 0 0, .int .i64 1]) ∧ Below w.heap.size w w' := by
 have K0 := Lib.hid (Below.refl w.heap.size w)
 by_cases a1 : x < 1
 ·have d1 : decide (x < 1) = true := by simpa using a1
  clear a1 h
  go_enter Tryz.func41, Tryz.ntmps41
  go_wp2
  go_ret2
  exact ⟨rfl, K0.out.alloc K0.out.size _⟩
 ·have d1 : decide (x < 1) = false := by simpa using a1
  by_cases a2 : 9 < x
  ·have d2 : decide (9 < x) = true := by simpa using a2
   clear a1 a2 h
   go_enter Tryz.func41, Tryz.ntmps41
   go_wp2
   go_ret2
   exact ⟨rfl, K0.out.alloc K0.out.size _⟩
  ·have d2 : decide (9 < x) = false := by simpa using a2
   by_cases a3 : y < 1
   ·have d3 : decide (y < 1) = true := by simpa using a3
    clear a1 a2 a3 h
    go_enter Tryz.func41, Tryz.ntmps41
    go_wp2
    go_ret2
    exact ⟨rfl, K0.out.alloc K0.out.size _⟩
   ·have d3 : decide (y < 1) = false := by simpa using a3
    have d4 : decide (9 < y) = true := by simp; omega
    clear a1 a2 a3 h
    go_enter Tryz.func41, Tryz.ntmps41
    go_wp2
    go_ret2
    exact ⟨rfl, K0.out.alloc K0.out.size _⟩
theorem least_of {P : Nat → Prop} : ∀ n, P n → ∃ s, P s ∧ ∀ t, t < s → ¬ P t := fun n => by
 induction n using Nat.strongRecOn with
 | ind n ih =>
  intro h
  by_cases e : ∃ t, t < n ∧ P t
  ·obtain ⟨t, h1, h2⟩ := e
   exact ih t h1 h2
  ·exact ⟨n, h, fun t ht hp => e ⟨t, ht, hp⟩⟩
theorem BestS.ex {W : Nat} {H : Int} : ∀ {m : Nat} {F : Nat → Int} {l : List Nat}, SolP W H l F → l.length = m → ∃ l', BestS W H F m l'
 | 0, F, l, h, e => by
  obtain rfl := List.eq_nil_of_length_eq_zero e
  exact ⟨[], bestS_nil h⟩
 | m + 1, F, [], h, e => by simp at e
 | m + 1, F, s :: l, h, e => by
  obtain ⟨t, ⟨k, hk, hkm⟩, hmin⟩ := least_of (P := fun t => ∃ k, SolP W H (t :: k) F ∧ k.length = m) s ⟨l, h, by simpa using e⟩
  obtain ⟨a1, a2, a3, a4, a5, a6⟩ := hk
  obtain ⟨k2, hb⟩ := BestS.ex a6 hkm
  exact ⟨t :: k2, NoFst.best (fun u q hu hq hqm => hmin u hu ⟨q, hq, hqm⟩) hb a1 a2 a3 a4 a5⟩
theorem fewest_both (W H : Nat) (hW : 1 ≤ W) (h9 : W ≤ 6) (hH : 1 ≤ H) (h9' : H ≤ 6) : ∃ l : List Nat, l.length ≤ 81 ∧
  (∀ w, Calls Tryz.prog 41 #[.int .i64 (W : Nat), .int .i64 (H : Nat)] w fun e w' => ∃ va vk, e = .returned (.tuple #[.slice va l.length vk, .int .i64 0]) ∧ Ints w' (.slice va l.length vk) l.length (lsF l) ∧ Below w.heap.size w w') ∧
  (∀ w, Calls Tryz.prog 42 #[.int .i64 (W : Nat), .int .i64 (H : Nat)] w fun e w' => ∃ va vk, e = .returned (.slice va l.length vk) ∧ Ints w' (.slice va l.length vk) l.length (lsF l) ∧ Below w.heap.size w w') := by
 obtain ⟨m, lm, hl, hlm, hNL⟩ := least_zero (W := W) (H := H) hW
 obtain ⟨l, hb⟩ := BestS.ex hl hlm
 refine ⟨l, by rw [hb.len, ← hlm]; exact sol_small hW (by omega) (by omega) hl, fun w => ?_, fun w => ?_⟩
 ·refine (fewest_good W H m lm w hW (by omega) hH (by omega) hl hlm hNL).mono ?_
  rintro e w' ⟨l2, va, vk, hb2, rfl, hi, hk⟩
  obtain rfl := hb2.uniq hb
  exact ⟨va, vk, rfl, hi, hk⟩
 ·refine (rfewest_good W H m lm w hW (by omega) hH (by omega) hl hlm hNL).mono ?_
  rintro e w' ⟨l2, v, hb2, rfl, hv, hk⟩
  obtain rfl := hb2.uniq hb
  obtain ⟨b, c, rfl, _⟩ := hv.shape
  exact ⟨_, _, rfl, hv.ints, hk⟩
set_option maxHeartbeats 16000000 in
set_option maxRecDepth 100000 in
theorem lawFewest (x y : Int) (w : World) :
  Calls Tryz.prog 10 #[.int .i64 x, .int .i64 y] w fun e w' => e = .returned (.bool true) ∧ Below w.heap.size w w' := by
 have K0 := Lib.hid (Below.refl w.heap.size w)
 have BAD := Lib.hid fewest_bad
 have BOTH := Lib.hid fewest_both
 rcases (show x < 1 ∨ (1 ≤ x ∧ x ≤ 6) ∨ (7 ≤ x ∧ x ≤ 9) ∨ 9 < x by omega) with hx | hx | hx | hx
 ·rcases (show y < 1 ∨ (1 ≤ y ∧ y ≤ 6) ∨ (7 ≤ y ∧ y ≤ 9) ∨ 9 < y by omega) with hy | hy | hy | hy
  ·have a1 : decide (x < 1) = true := by simp; omega
   have a2 : decide (6 < x) = false := by simp; omega
   have b1 : decide (y < 1) = true := by simp; omega
   have b2 : decide (6 < y) = false := by simp; omega
   have hbad := BAD.out x y
   have HB : Hid (∀ w, Calls Tryz.prog 41 #[.int .i64 x, .int .i64 y] w fun e w' => e = .returned (.tuple #[.slice none 0 0, .int .i64 1]) ∧ Below w.heap.size w w') := Lib.hid (fun w => hbad w (by omega))
   clear hbad
   (try clear hx)
   (try clear hy)
   go_enter Tryz.func10, Tryz.ntmps10
   go_wp2_with (first
    | (go_at_call 41; go_loud ((with_reducible refine (HB.out _).mono ?_); rintro e w1 ⟨rfl, hb⟩; have K0 := Lib.hid (K0.out.trans (hb.mono K0.out.size)); clear hb))
    | (go_at_call 18; go_loud ((with_reducible refine (livesH_true _).mono ?_); rintro e w4 ⟨rfl, hb⟩; have K0 := Lib.hid (K0.out.trans (hb.mono K0.out.size)); clear hb)))
   go_ret
   exact ⟨rfl, K0.out⟩
  ·have a1 : decide (x < 1) = true := by simp; omega
   have a2 : decide (6 < x) = false := by simp; omega
   obtain ⟨Y, rfl⟩ : ∃ Y : Nat, y = (Y : Int) := ⟨y.toNat, by omega⟩
   have b1 : decide ((Y : Int) < 1) = false := by simp; omega
   have b1n : decide (Y < 1) = false := by simp; omega
   have b2 : decide ((6 : Int) < (Y : Int)) = false := by simp; omega
   have b2n : decide (6 < Y) = false := by simp; omega
   have b4 : decide ((9 : Int) < (Y : Int)) = false := by simp; omega
   have b4n : decide (9 < Y) = false := by simp; omega
   have b5 : 1 ≤ Y := by omega
   have b6 : Y ≤ 6 := by omega
   have hbad := BAD.out x (Y : Int)
   have HB : Hid (∀ w, Calls Tryz.prog 41 #[.int .i64 x, .int .i64 (Y : Int)] w fun e w' => e = .returned (.tuple #[.slice none 0 0, .int .i64 1]) ∧ Below w.heap.size w w') := Lib.hid (fun w => hbad w (by omega))
   clear hbad
   (try clear hx)
   (try clear hy)
   go_enter Tryz.func10, Tryz.ntmps10
   go_wp2_with (first
    | (go_at_call 41; go_loud ((with_reducible refine (HB.out _).mono ?_); rintro e w1 ⟨rfl, hb⟩; have K0 := Lib.hid (K0.out.trans (hb.mono K0.out.size)); clear hb))
    | (go_at_call 18; go_loud ((with_reducible refine (livesH_true _).mono ?_); rintro e w4 ⟨rfl, hb⟩; have K0 := Lib.hid (K0.out.trans (hb.mono K0.out.size)); clear hb)))
   go_ret
   exact ⟨rfl, K0.out⟩
  ·have a1 : decide (x < 1) = true := by simp; omega
   have a2 : decide (6 < x) = false := by simp; omega
   have b2 : decide (6 < y) = true := by simp; omega
   have b3 : decide (y ≤ 9) = true := by simp; omega
   have hbad := BAD.out x 6
   have HB : Hid (∀ w, Calls Tryz.prog 41 #[.int .i64 x, .int .i64 6] w fun e w' => e = .returned (.tuple #[.slice none 0 0, .int .i64 1]) ∧ Below w.heap.size w w') := Lib.hid (fun w => hbad w (by omega))
   clear hbad
   (try clear hx)
   (try clear hy)
   go_enter Tryz.func10, Tryz.ntmps10
   go_wp2_with (first
    | (go_at_call 41; go_loud ((with_reducible refine (HB.out _).mono ?_); rintro e w1 ⟨rfl, hb⟩; have K0 := Lib.hid (K0.out.trans (hb.mono K0.out.size)); clear hb))
    | (go_at_call 18; go_loud ((with_reducible refine (livesH_true _).mono ?_); rintro e w4 ⟨rfl, hb⟩; have K0 := Lib.hid (K0.out.trans (hb.mono K0.out.size)); clear hb)))
   go_ret
   exact ⟨rfl, K0.out⟩
  ·have a1 : decide (x < 1) = true := by simp; omega
   have a2 : decide (6 < x) = false := by simp; omega
   have b1 : decide (y < 1) = false := by simp; omega
   have b2 : decide (6 < y) = true := by simp; omega
   have b3 : decide (y ≤ 9) = false := by simp; omega
   have b4 : decide (9 < y) = true := by simp; omega
   have hbad := BAD.out x y
   have HB : Hid (∀ w, Calls Tryz.prog 41 #[.int .i64 x, .int .i64 y] w fun e w' => e = .returned (.tuple #[.slice none 0 0, .int .i64 1]) ∧ Below w.heap.size w w') := Lib.hid (fun w => hbad w (by omega))
   clear hbad
   (try clear hx)
   (try clear hy)
   go_enter Tryz.func10, Tryz.ntmps10
   go_wp2_with (first
    | (go_at_call 41; go_loud ((with_reducible refine (HB.out _).mono ?_); rintro e w1 ⟨rfl, hb⟩; have K0 := Lib.hid (K0.out.trans (hb.mono K0.out.size)); clear hb))
    | (go_at_call 18; go_loud ((with_reducible refine (livesH_true _).mono ?_); rintro e w4 ⟨rfl, hb⟩; have K0 := Lib.hid (K0.out.trans (hb.mono K0.out.size)); clear hb)))
   go_ret
   exact ⟨rfl, K0.out⟩
 ·rcases (show y < 1 ∨ (1 ≤ y ∧ y ≤ 6) ∨ (7 ≤ y ∧ y ≤ 9) ∨ 9 < y by omega) with hy | hy | hy | hy
  ·obtain ⟨X, rfl⟩ : ∃ X : Nat, x = (X : Int) := ⟨x.toNat, by omega⟩
   have a1 : decide ((X : Int) < 1) = false := by simp; omega
   have a1n : decide (X < 1) = false := by simp; omega
   have a2 : decide ((6 : Int) < (X : Int)) = false := by simp; omega
   have a2n : decide (6 < X) = false := by simp; omega
   have a4 : decide ((9 : Int) < (X : Int)) = false := by simp; omega
   have a4n : decide (9 < X) = false := by simp; omega
   have a5 : 1 ≤ X := by omega
   have a6 : X ≤ 6 := by omega
   have b1 : decide (y < 1) = true := by simp; omega
   have b2 : decide (6 < y) = false := by simp; omega
   have hbad := BAD.out (X : Int) y
   have HB : Hid (∀ w, Calls Tryz.prog 41 #[.int .i64 (X : Int), .int .i64 y] w fun e w' => e = .returned (.tuple #[.slice none 0 0, .int .i64 1]) ∧ Below w.heap.size w w') := Lib.hid (fun w => hbad w (by omega))
   clear hbad
   (try clear hx)
   (try clear hy)
   go_enter Tryz.func10, Tryz.ntmps10
   go_wp2_with (first
    | (go_at_call 41; go_loud ((with_reducible refine (HB.out _).mono ?_); rintro e w1 ⟨rfl, hb⟩; have K0 := Lib.hid (K0.out.trans (hb.mono K0.out.size)); clear hb))
    | (go_at_call 18; go_loud ((with_reducible refine (livesH_true _).mono ?_); rintro e w4 ⟨rfl, hb⟩; have K0 := Lib.hid (K0.out.trans (hb.mono K0.out.size)); clear hb)))
   go_ret
   exact ⟨rfl, K0.out⟩
  ·obtain ⟨X, rfl⟩ : ∃ X : Nat, x = (X : Int) := ⟨x.toNat, by omega⟩
   have a1 : decide ((X : Int) < 1) = false := by simp; omega
   have a1n : decide (X < 1) = false := by simp; omega
   have a2 : decide ((6 : Int) < (X : Int)) = false := by simp; omega
   have a2n : decide (6 < X) = false := by simp; omega
   have a4 : decide ((9 : Int) < (X : Int)) = false := by simp; omega
   have a4n : decide (9 < X) = false := by simp; omega
   have a5 : 1 ≤ X := by omega
   have a6 : X ≤ 6 := by omega
   obtain ⟨Y, rfl⟩ : ∃ Y : Nat, y = (Y : Int) := ⟨y.toNat, by omega⟩
   have b1 : decide ((Y : Int) < 1) = false := by simp; omega
   have b1n : decide (Y < 1) = false := by simp; omega
   have b2 : decide ((6 : Int) < (Y : Int)) = false := by simp; omega
   have b2n : decide (6 < Y) = false := by simp; omega
   have b4 : decide ((9 : Int) < (Y : Int)) = false := by simp; omega
   have b4n : decide (9 < Y) = false := by simp; omega
   have b5 : 1 ≤ Y := by omega
   have b6 : Y ≤ 6 := by omega
   obtain ⟨l, hl81, hF, hR⟩ := BOTH.out X Y (by omega) (by omega) (by omega) (by omega)
   have HF := Lib.hid hF
   have HR := Lib.hid hR
   clear hF hR
   (try clear hx)
   (try clear hy)
   go_enter Tryz.func10, Tryz.ntmps10
   go_wp2_with (first
    | (go_at_call 41; go_loud ((with_reducible refine (HF.out _).mono ?_); rintro e w1 ⟨va, vk, rfl, hi, hb⟩; have HI := Lib.hid hi; have K0 := Lib.hid (K0.out.trans (hb.mono K0.out.size)); clear hi hb))
    | (go_at_call 42; go_loud ((with_reducible refine (HR.out _).mono ?_); rintro e w2 ⟨vb, vc, rfl, hi, hb⟩; have HJ := Lib.hid hi; have HI := Lib.hid (HI.out.mono hb (Nat.le_refl _)); have K0 := Lib.hid (K0.out.trans (hb.mono K0.out.size)); clear hi hb))
    | (go_at_call 40; go_loud ((with_reducible refine (same_same _ _ l.length (lsF l) _ HI.out HJ.out (by omega)).mono ?_); rintro e w3 ⟨rfl, hd⟩; have K0 := Lib.hid (K0.out.trans (hd.below _)); clear hd))
    | (go_at_call 18; go_loud ((with_reducible refine (livesH_true _).mono ?_); rintro e w4 ⟨rfl, hb⟩; have K0 := Lib.hid (K0.out.trans (hb.mono K0.out.size)); clear hb)))
   go_ret
   exact ⟨rfl, K0.out⟩
  ·obtain ⟨X, rfl⟩ : ∃ X : Nat, x = (X : Int) := ⟨x.toNat, by omega⟩
   have a1 : decide ((X : Int) < 1) = false := by simp; omega
   have a1n : decide (X < 1) = false := by simp; omega
   have a2 : decide ((6 : Int) < (X : Int)) = false := by simp; omega
   have a2n : decide (6 < X) = false := by simp; omega
   have a4 : decide ((9 : Int) < (X : Int)) = false := by simp; omega
   have a4n : decide (9 < X) = false := by simp; omega
   have a5 : 1 ≤ X := by omega
   have a6 : X ≤ 6 := by omega
   have b2 : decide (6 < y) = true := by simp; omega
   have b3 : decide (y ≤ 9) = true := by simp; omega
   obtain ⟨l, hl81, hF, hR⟩ := BOTH.out X 6 (by omega) (by omega) (by omega) (by omega)
   try rw [show ((6 : Nat) : Int) = 6 from rfl] at hF hR
   have HF := Lib.hid hF
   have HR := Lib.hid hR
   clear hF hR
   (try clear hx)
   (try clear hy)
   go_enter Tryz.func10, Tryz.ntmps10
   go_wp2_with (first
    | (go_at_call 41; go_loud ((with_reducible refine (HF.out _).mono ?_); rintro e w1 ⟨va, vk, rfl, hi, hb⟩; have HI := Lib.hid hi; have K0 := Lib.hid (K0.out.trans (hb.mono K0.out.size)); clear hi hb))
    | (go_at_call 42; go_loud ((with_reducible refine (HR.out _).mono ?_); rintro e w2 ⟨vb, vc, rfl, hi, hb⟩; have HJ := Lib.hid hi; have HI := Lib.hid (HI.out.mono hb (Nat.le_refl _)); have K0 := Lib.hid (K0.out.trans (hb.mono K0.out.size)); clear hi hb))
    | (go_at_call 40; go_loud ((with_reducible refine (same_same _ _ l.length (lsF l) _ HI.out HJ.out (by omega)).mono ?_); rintro e w3 ⟨rfl, hd⟩; have K0 := Lib.hid (K0.out.trans (hd.below _)); clear hd))
    | (go_at_call 18; go_loud ((with_reducible refine (livesH_true _).mono ?_); rintro e w4 ⟨rfl, hb⟩; have K0 := Lib.hid (K0.out.trans (hb.mono K0.out.size)); clear hb)))
   go_ret
   exact ⟨rfl, K0.out⟩
  ·obtain ⟨X, rfl⟩ : ∃ X : Nat, x = (X : Int) := ⟨x.toNat, by omega⟩
   have a1 : decide ((X : Int) < 1) = false := by simp; omega
   have a1n : decide (X < 1) = false := by simp; omega
   have a2 : decide ((6 : Int) < (X : Int)) = false := by simp; omega
   have a2n : decide (6 < X) = false := by simp; omega
   have a4 : decide ((9 : Int) < (X : Int)) = false := by simp; omega
   have a4n : decide (9 < X) = false := by simp; omega
   have a5 : 1 ≤ X := by omega
   have a6 : X ≤ 6 := by omega
   have b1 : decide (y < 1) = false := by simp; omega
   have b2 : decide (6 < y) = true := by simp; omega
   have b3 : decide (y ≤ 9) = false := by simp; omega
   have b4 : decide (9 < y) = true := by simp; omega
   have hbad := BAD.out (X : Int) y
   have HB : Hid (∀ w, Calls Tryz.prog 41 #[.int .i64 (X : Int), .int .i64 y] w fun e w' => e = .returned (.tuple #[.slice none 0 0, .int .i64 1]) ∧ Below w.heap.size w w') := Lib.hid (fun w => hbad w (by omega))
   clear hbad
   (try clear hx)
   (try clear hy)
   go_enter Tryz.func10, Tryz.ntmps10
   go_wp2_with (first
    | (go_at_call 41; go_loud ((with_reducible refine (HB.out _).mono ?_); rintro e w1 ⟨rfl, hb⟩; have K0 := Lib.hid (K0.out.trans (hb.mono K0.out.size)); clear hb))
    | (go_at_call 18; go_loud ((with_reducible refine (livesH_true _).mono ?_); rintro e w4 ⟨rfl, hb⟩; have K0 := Lib.hid (K0.out.trans (hb.mono K0.out.size)); clear hb)))
   go_ret
   exact ⟨rfl, K0.out⟩
 ·rcases (show y < 1 ∨ (1 ≤ y ∧ y ≤ 6) ∨ (7 ≤ y ∧ y ≤ 9) ∨ 9 < y by omega) with hy | hy | hy | hy
  ·have a2 : decide (6 < x) = true := by simp; omega
   have a3 : decide (x ≤ 9) = true := by simp; omega
   have b1 : decide (y < 1) = true := by simp; omega
   have b2 : decide (6 < y) = false := by simp; omega
   have hbad := BAD.out 6 y
   have HB : Hid (∀ w, Calls Tryz.prog 41 #[.int .i64 6, .int .i64 y] w fun e w' => e = .returned (.tuple #[.slice none 0 0, .int .i64 1]) ∧ Below w.heap.size w w') := Lib.hid (fun w => hbad w (by omega))
   clear hbad
   (try clear hx)
   (try clear hy)
   go_enter Tryz.func10, Tryz.ntmps10
   go_wp2_with (first
    | (go_at_call 41; go_loud ((with_reducible refine (HB.out _).mono ?_); rintro e w1 ⟨rfl, hb⟩; have K0 := Lib.hid (K0.out.trans (hb.mono K0.out.size)); clear hb))
    | (go_at_call 18; go_loud ((with_reducible refine (livesH_true _).mono ?_); rintro e w4 ⟨rfl, hb⟩; have K0 := Lib.hid (K0.out.trans (hb.mono K0.out.size)); clear hb)))
   go_ret
   exact ⟨rfl, K0.out⟩
  ·have a2 : decide (6 < x) = true := by simp; omega
   have a3 : decide (x ≤ 9) = true := by simp; omega
   obtain ⟨Y, rfl⟩ : ∃ Y : Nat, y = (Y : Int) := ⟨y.toNat, by omega⟩
   have b1 : decide ((Y : Int) < 1) = false := by simp; omega
   have b1n : decide (Y < 1) = false := by simp; omega
   have b2 : decide ((6 : Int) < (Y : Int)) = false := by simp; omega
   have b2n : decide (6 < Y) = false := by simp; omega
   have b4 : decide ((9 : Int) < (Y : Int)) = false := by simp; omega
   have b4n : decide (9 < Y) = false := by simp; omega
   have b5 : 1 ≤ Y := by omega
   have b6 : Y ≤ 6 := by omega
   obtain ⟨l, hl81, hF, hR⟩ := BOTH.out 6 Y (by omega) (by omega) (by omega) (by omega)
   try rw [show ((6 : Nat) : Int) = 6 from rfl] at hF hR
   have HF := Lib.hid hF
   have HR := Lib.hid hR
   clear hF hR
   (try clear hx)
   (try clear hy)
   go_enter Tryz.func10, Tryz.ntmps10
   go_wp2_with (first
    | (go_at_call 41; go_loud ((with_reducible refine (HF.out _).mono ?_); rintro e w1 ⟨va, vk, rfl, hi, hb⟩; have HI := Lib.hid hi; have K0 := Lib.hid (K0.out.trans (hb.mono K0.out.size)); clear hi hb))
    | (go_at_call 42; go_loud ((with_reducible refine (HR.out _).mono ?_); rintro e w2 ⟨vb, vc, rfl, hi, hb⟩; have HJ := Lib.hid hi; have HI := Lib.hid (HI.out.mono hb (Nat.le_refl _)); have K0 := Lib.hid (K0.out.trans (hb.mono K0.out.size)); clear hi hb))
    | (go_at_call 40; go_loud ((with_reducible refine (same_same _ _ l.length (lsF l) _ HI.out HJ.out (by omega)).mono ?_); rintro e w3 ⟨rfl, hd⟩; have K0 := Lib.hid (K0.out.trans (hd.below _)); clear hd))
    | (go_at_call 18; go_loud ((with_reducible refine (livesH_true _).mono ?_); rintro e w4 ⟨rfl, hb⟩; have K0 := Lib.hid (K0.out.trans (hb.mono K0.out.size)); clear hb)))
   go_ret
   exact ⟨rfl, K0.out⟩
  ·have a2 : decide (6 < x) = true := by simp; omega
   have a3 : decide (x ≤ 9) = true := by simp; omega
   have b2 : decide (6 < y) = true := by simp; omega
   have b3 : decide (y ≤ 9) = true := by simp; omega
   obtain ⟨l, hl81, hF, hR⟩ := BOTH.out 6 6 (by omega) (by omega) (by omega) (by omega)
   try rw [show ((6 : Nat) : Int) = 6 from rfl] at hF hR
   have HF := Lib.hid hF
   have HR := Lib.hid hR
   clear hF hR
   (try clear hx)
   (try clear hy)
   go_enter Tryz.func10, Tryz.ntmps10
   go_wp2_with (first
    | (go_at_call 41; go_loud ((with_reducible refine (HF.out _).mono ?_); rintro e w1 ⟨va, vk, rfl, hi, hb⟩; have HI := Lib.hid hi; have K0 := Lib.hid (K0.out.trans (hb.mono K0.out.size)); clear hi hb))
    | (go_at_call 42; go_loud ((with_reducible refine (HR.out _).mono ?_); rintro e w2 ⟨vb, vc, rfl, hi, hb⟩; have HJ := Lib.hid hi; have HI := Lib.hid (HI.out.mono hb (Nat.le_refl _)); have K0 := Lib.hid (K0.out.trans (hb.mono K0.out.size)); clear hi hb))
    | (go_at_call 40; go_loud ((with_reducible refine (same_same _ _ l.length (lsF l) _ HI.out HJ.out (by omega)).mono ?_); rintro e w3 ⟨rfl, hd⟩; have K0 := Lib.hid (K0.out.trans (hd.below _)); clear hd))
    | (go_at_call 18; go_loud ((with_reducible refine (livesH_true _).mono ?_); rintro e w4 ⟨rfl, hb⟩; have K0 := Lib.hid (K0.out.trans (hb.mono K0.out.size)); clear hb)))
   go_ret
   exact ⟨rfl, K0.out⟩
  ·have a2 : decide (6 < x) = true := by simp; omega
   have a3 : decide (x ≤ 9) = true := by simp; omega
   have b1 : decide (y < 1) = false := by simp; omega
   have b2 : decide (6 < y) = true := by simp; omega
   have b3 : decide (y ≤ 9) = false := by simp; omega
   have b4 : decide (9 < y) = true := by simp; omega
   have hbad := BAD.out 6 y
   have HB : Hid (∀ w, Calls Tryz.prog 41 #[.int .i64 6, .int .i64 y] w fun e w' => e = .returned (.tuple #[.slice none 0 0, .int .i64 1]) ∧ Below w.heap.size w w') := Lib.hid (fun w => hbad w (by omega))
   clear hbad
   (try clear hx)
   (try clear hy)
   go_enter Tryz.func10, Tryz.ntmps10
   go_wp2_with (first
    | (go_at_call 41; go_loud ((with_reducible refine (HB.out _).mono ?_); rintro e w1 ⟨rfl, hb⟩; have K0 := Lib.hid (K0.out.trans (hb.mono K0.out.size)); clear hb))
    | (go_at_call 18; go_loud ((with_reducible refine (livesH_true _).mono ?_); rintro e w4 ⟨rfl, hb⟩; have K0 := Lib.hid (K0.out.trans (hb.mono K0.out.size)); clear hb)))
   go_ret
   exact ⟨rfl, K0.out⟩
 ·rcases (show y < 1 ∨ (1 ≤ y ∧ y ≤ 6) ∨ (7 ≤ y ∧ y ≤ 9) ∨ 9 < y by omega) with hy | hy | hy | hy
  ·have a1 : decide (x < 1) = false := by simp; omega
   have a2 : decide (6 < x) = true := by simp; omega
   have a3 : decide (x ≤ 9) = false := by simp; omega
   have a4 : decide (9 < x) = true := by simp; omega
   have b1 : decide (y < 1) = true := by simp; omega
   have b2 : decide (6 < y) = false := by simp; omega
   have hbad := BAD.out x y
   have HB : Hid (∀ w, Calls Tryz.prog 41 #[.int .i64 x, .int .i64 y] w fun e w' => e = .returned (.tuple #[.slice none 0 0, .int .i64 1]) ∧ Below w.heap.size w w') := Lib.hid (fun w => hbad w (by omega))
   clear hbad
   (try clear hx)
   (try clear hy)
   go_enter Tryz.func10, Tryz.ntmps10
   go_wp2_with (first
    | (go_at_call 41; go_loud ((with_reducible refine (HB.out _).mono ?_); rintro e w1 ⟨rfl, hb⟩; have K0 := Lib.hid (K0.out.trans (hb.mono K0.out.size)); clear hb))
    | (go_at_call 18; go_loud ((with_reducible refine (livesH_true _).mono ?_); rintro e w4 ⟨rfl, hb⟩; have K0 := Lib.hid (K0.out.trans (hb.mono K0.out.size)); clear hb)))
   go_ret
   exact ⟨rfl, K0.out⟩
  ·have a1 : decide (x < 1) = false := by simp; omega
   have a2 : decide (6 < x) = true := by simp; omega
   have a3 : decide (x ≤ 9) = false := by simp; omega
   have a4 : decide (9 < x) = true := by simp; omega
   obtain ⟨Y, rfl⟩ : ∃ Y : Nat, y = (Y : Int) := ⟨y.toNat, by omega⟩
   have b1 : decide ((Y : Int) < 1) = false := by simp; omega
   have b1n : decide (Y < 1) = false := by simp; omega
   have b2 : decide ((6 : Int) < (Y : Int)) = false := by simp; omega
   have b2n : decide (6 < Y) = false := by simp; omega
   have b4 : decide ((9 : Int) < (Y : Int)) = false := by simp; omega
   have b4n : decide (9 < Y) = false := by simp; omega
   have b5 : 1 ≤ Y := by omega
   have b6 : Y ≤ 6 := by omega
   have hbad := BAD.out x (Y : Int)
   have HB : Hid (∀ w, Calls Tryz.prog 41 #[.int .i64 x, .int .i64 (Y : Int)] w fun e w' => e = .returned (.tuple #[.slice none 0 0, .int .i64 1]) ∧ Below w.heap.size w w') := Lib.hid (fun w => hbad w (by omega))
   clear hbad
   (try clear hx)
   (try clear hy)
   go_enter Tryz.func10, Tryz.ntmps10
   go_wp2_with (first
    | (go_at_call 41; go_loud ((with_reducible refine (HB.out _).mono ?_); rintro e w1 ⟨rfl, hb⟩; have K0 := Lib.hid (K0.out.trans (hb.mono K0.out.size)); clear hb))
    | (go_at_call 18; go_loud ((with_reducible refine (livesH_true _).mono ?_); rintro e w4 ⟨rfl, hb⟩; have K0 := Lib.hid (K0.out.trans (hb.mono K0.out.size)); clear hb)))
   go_ret
   exact ⟨rfl, K0.out⟩
  ·have a1 : decide (x < 1) = false := by simp; omega
   have a2 : decide (6 < x) = true := by simp; omega
   have a3 : decide (x ≤ 9) = false := by simp; omega
   have a4 : decide (9 < x) = true := by simp; omega
   have b2 : decide (6 < y) = true := by simp; omega
   have b3 : decide (y ≤ 9) = true := by simp; omega
   have hbad := BAD.out x 6
   have HB : Hid (∀ w, Calls Tryz.prog 41 #[.int .i64 x, .int .i64 6] w fun e w' => e = .returned (.tuple #[.slice none 0 0, .int .i64 1]) ∧ Below w.heap.size w w') := Lib.hid (fun w => hbad w (by omega))
   clear hbad
   (try clear hx)
   (try clear hy)
   go_enter Tryz.func10, Tryz.ntmps10
   go_wp2_with (first
    | (go_at_call 41; go_loud ((with_reducible refine (HB.out _).mono ?_); rintro e w1 ⟨rfl, hb⟩; have K0 := Lib.hid (K0.out.trans (hb.mono K0.out.size)); clear hb))
    | (go_at_call 18; go_loud ((with_reducible refine (livesH_true _).mono ?_); rintro e w4 ⟨rfl, hb⟩; have K0 := Lib.hid (K0.out.trans (hb.mono K0.out.size)); clear hb)))
   go_ret
   exact ⟨rfl, K0.out⟩
  ·have a1 : decide (x < 1) = false := by simp; omega
   have a2 : decide (6 < x) = true := by simp; omega
   have a3 : decide (x ≤ 9) = false := by simp; omega
   have a4 : decide (9 < x) = true := by simp; omega
   have b1 : decide (y < 1) = false := by simp; omega
   have b2 : decide (6 < y) = true := by simp; omega
   have b3 : decide (y ≤ 9) = false := by simp; omega
   have b4 : decide (9 < y) = true := by simp; omega
   have hbad := BAD.out x y
   have HB : Hid (∀ w, Calls Tryz.prog 41 #[.int .i64 x, .int .i64 y] w fun e w' => e = .returned (.tuple #[.slice none 0 0, .int .i64 1]) ∧ Below w.heap.size w w') := Lib.hid (fun w => hbad w (by omega))
   clear hbad
   (try clear hx)
   (try clear hy)
   go_enter Tryz.func10, Tryz.ntmps10
   go_wp2_with (first
    | (go_at_call 41; go_loud ((with_reducible refine (HB.out _).mono ?_); rintro e w1 ⟨rfl, hb⟩; have K0 := Lib.hid (K0.out.trans (hb.mono K0.out.size)); clear hb))
    | (go_at_call 18; go_loud ((with_reducible refine (livesH_true _).mono ?_); rintro e w4 ⟨rfl, hb⟩; have K0 := Lib.hid (K0.out.trans (hb.mono K0.out.size)); clear hb)))
   go_ret
   exact ⟨rfl, K0.out⟩
end Go.Proofs.YtolkchkedieppaaGreat
