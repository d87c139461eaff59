/- The law HideEuclids: its walk. -/
import Derived.Test.YtolkchkedieppaaGreatVSame1
import Derived.Test.YtolkchkedieppaaGreatVLivH
set_option linter.unusedVariables false
set_option linter.unusedSimpArgs false
namespace Go.Proofs.YtolkchkedieppaaGreat
open Go.RowKit
attribute [local go_sem ↓] Go.wp_at_zero Go.wp_at_succ
theorem if_min (x y : Nat) : (if (y : Int) < (x : Int) then (y : Int) else (x : Int)) = ((min x y : Nat) : Int) := by split <;> omega
theorem if_max (x y : Nat) : (if (x : Int) < (y : Int) then (y : Int) else (x : Int)) = ((max x y : Nat) : Int) := by split <;> omega
theorem euclid_ok (x y : Nat) (w : World) (hx : 1 ≤ x) (hx2 : x ≤ 1000) (hy : 1 ≤ y) (hy2 : y ≤ 1000) (L : List Nat) (hL : L = euc (max x y) (min x y)) (h : L.length ≤ 24) :
  Calls Tryz.prog 38 #[.int .i64 (x : Nat), .int .i64 (y : Nat)] w fun e w' => ∃ va vk, e = .returned (.tuple #[.slice va L.length vk, .int .i64 0]) ∧ Ints w' (.slice va L.length vk) L.length (eF L) ∧ Below w.heap.size w w' := by
 refine (euclid_core x y (max x y) (min x y) w (if_min x y) (if_max x y) (by omega) (by omega) (by omega) L hL).mono ?_
 rintro e w' ⟨(⟨_, va, vk, rfl, hi⟩ | ⟨q, _⟩), hb⟩
 ·exact ⟨va, vk, rfl, hi, hb⟩
 ·omega
theorem euclid_long (x y : Nat) (w : World) (hx : 1 ≤ x) (hx2 : x ≤ 1000) (hy : 1 ≤ y) (hy2 : y ≤ 1000) (L : List Nat) (hL : L = euc (max x y) (min x y)) (h : 24 < L.length) :
  Calls Tryz.prog 38 #[.int .i64 (x : Nat), .int .i64 (y : Nat)] w fun e w' => e = .returned (.tuple #[.slice none 0 0, .int .i64 3]) ∧ Below w.heap.size w w' := by
 refine (euclid_core x y (max x y) (min x y) w (if_min x y) (if_max x y) (by omega) (by omega) (by omega) L hL).mono ?_
 rintro e w' ⟨(⟨q, _⟩ | ⟨_, rfl⟩), hb⟩
 ·omega
 ·exact ⟨rfl, hb⟩
theorem reuclid_L (x y : Nat) (w : World) (hx : 1 ≤ x) (hx2 : x ≤ 1000) (hy : 1 ≤ y) (hy2 : y ≤ 1000) (L : List Nat) (hL : L = euc (max x y) (min x y)) :
  Calls Tryz.prog 39 #[.int .i64 (x : Nat), .int .i64 (y : Nat)] w fun e w' => ∃ va vk, e = .returned (.slice va L.length vk) ∧ Ints w' (.slice va L.length vk) L.length (eF L) ∧ Below w.heap.size w w' := by
 subst hL
 exact reuclid_any x y w hx hx2 hy hy2
set_option maxHeartbeats 4000000 in
set_option maxRecDepth 100000 in
theorem lawEuclids (x y : Int) (w : World) :
  Calls Tryz.prog 9 #[.int .i64 x, .int .i64 y] w fun e w' => e = .returned (.bool true) ∧ Below w.heap.size w w' := by
 by_cases hg : (1 ≤ x ∧ x ≤ 1000) ∧ 1 ≤ y ∧ y ≤ 1000
 ·obtain ⟨⟨g1, g2⟩, g3, g4⟩ := hg
  obtain ⟨X, rfl⟩ : ∃ X : Nat, x = (X : Int) := ⟨x.toNat, by omega⟩
  obtain ⟨Y, rfl⟩ : ∃ Y : Nat, y = (Y : Int) := ⟨y.toNat, by omega⟩
  have h1 : 1 ≤ X := by omega
  have h2 : X ≤ 1000 := by omega
  have h3 : 1 ≤ Y := by omega
  have h4 : Y ≤ 1000 := by omega
  have d1 : decide ((X : Int) < 1) = false := by simp; omega
  have d1n : decide (X < 1) = false := by simp; omega
  have d2 : decide ((1000 : Int) < (X : Int)) = false := by simp; omega
  have d2n : decide (1000 < X) = false := by simp; omega
  have d3 : decide ((Y : Int) < 1) = false := by simp; omega
  have d3n : decide (Y < 1) = false := by simp; omega
  have d4 : decide ((1000 : Int) < (Y : Int)) = false := by simp; omega
  have d4n : decide (1000 < Y) = false := by simp; omega
  obtain ⟨L, hL⟩ : ∃ L, L = euc (max X Y) (min X Y) := ⟨_, rfl⟩
  have HL := Lib.hid hL
  have hlen : L.length ≤ 2000 := by rw [hL]; exact euc_len 2000 _ _ (by omega) (by omega)
  clear hL g1 g2 g3 g4
  by_cases h24 : L.length ≤ 24
  ·have d5 : decide ((24 : Int) < ((L.length : Nat) : Int)) = false := by simp; omega
   have d5n : decide (24 < L.length) = false := by simp; omega
   go_enter Tryz.func9, Tryz.ntmps9
   go_wp2_with (first
    | (go_at_call 38; (with_reducible refine (euclid_ok X Y _ h1 h2 h3 h4 L HL.out h24).mono ?_); rintro e w1 ⟨va, vk, rfl, hi, hb⟩; have HI := Lib.hid hi; have KW := Lib.hid hb; clear hi hb)
    | (go_at_call 39; (with_reducible refine (reuclid_L X Y _ h1 h2 h3 h4 L HL.out).mono ?_); rintro e w2 ⟨vb, vc, rfl, hi, hb⟩; have HJ := Lib.hid hi; have HI := Lib.hid (HI.out.mono hb (Nat.le_refl _)); have KW := Lib.hid (KW.out.trans (hb.mono KW.out.size)); clear hi hb)
    | (go_at_call 40; (with_reducible refine (same_same _ _ L.length (eF L) _ HI.out HJ.out (by omega)).mono ?_); rintro e w3 ⟨rfl, hd⟩; have KW := Lib.hid (KW.out.trans (hd.below _)); clear hd)
    | (go_at_call 18; (with_reducible refine (livesH_true _).mono ?_); rintro e w4 ⟨rfl, hb⟩; have KW := Lib.hid (KW.out.trans (hb.mono KW.out.size)); clear hb))
   go_ret
   exact ⟨rfl, KW.out⟩
  ·have h25 : 24 < L.length := by omega
   have d5 : decide ((24 : Int) < ((L.length : Nat) : Int)) = true := by simp; omega
   have d5n : decide (24 < L.length) = true := by simp; omega
   go_enter Tryz.func9, Tryz.ntmps9
   go_wp2_with (first
    | (go_at_call 38; (with_reducible refine (euclid_long X Y _ h1 h2 h3 h4 L HL.out h25).mono ?_); rintro e w1 ⟨rfl, hb⟩; have KW := Lib.hid hb; clear hb)
    | (go_at_call 39; (with_reducible refine (reuclid_L X Y _ h1 h2 h3 h4 L HL.out).mono ?_); rintro e w2 ⟨vb, vc, rfl, hi, hb⟩; have KW := Lib.hid (KW.out.trans (hb.mono KW.out.size)); clear hi hb)
    | (go_at_call 18; (with_reducible refine (livesH_true _).mono ?_); rintro e w4 ⟨rfl, hb⟩; have KW := Lib.hid (KW.out.trans (hb.mono KW.out.size)); clear hb))
   go_ret
   exact ⟨rfl, KW.out⟩
 ·obtain ⟨m, hm⟩ : ∃ m, (if y < x then y else x) = m := ⟨_, rfl⟩
  obtain ⟨M, hM⟩ : ∃ M, (if x < y then y else x) = M := ⟨_, rfl⟩
  have hb : m < 1 ∨ 1000 < M := by
   rw [← hm, ← hM]
   split <;> split <;> omega
  have HC := Lib.hid (euclid_bad x y m M w hm hM hb)
  clear hm hM hb
  by_cases k1 : x < 1
  ·have d1 : decide (x < 1) = true := by simpa using k1
   clear k1 hg
   go_enter Tryz.func9, Tryz.ntmps9
   go_wp2_with (first | (go_at_call 38; (with_reducible refine (HC.out).mono ?_); rintro e w1 ⟨rfl, rfl⟩) | (go_at_call 18; (with_reducible refine (livesH_true _).mono ?_); rintro e w4 ⟨rfl, hb⟩; have KW := Lib.hid hb; clear hb))
   go_ret
   exact ⟨rfl, KW.out⟩
  ·have d1 : decide (x < 1) = false := by simpa using k1
   by_cases k2 : 1000 < x
   ·have d2 : decide (1000 < x) = true := by simpa using k2
    clear k1 k2 hg
    go_enter Tryz.func9, Tryz.ntmps9
    go_wp2_with (first | (go_at_call 38; (with_reducible refine (HC.out).mono ?_); rintro e w1 ⟨rfl, rfl⟩) | (go_at_call 18; (with_reducible refine (livesH_true _).mono ?_); rintro e w4 ⟨rfl, hb⟩; have KW := Lib.hid hb; clear hb))
    go_ret
    exact ⟨rfl, KW.out⟩
   ·have d2 : decide (1000 < x) = false := by simpa using k2
    by_cases k3 : y < 1
    ·have d3 : decide (y < 1) = true := by simpa using k3
     clear k1 k2 k3 hg
     go_enter Tryz.func9, Tryz.ntmps9
     go_wp2_with (first | (go_at_call 38; (with_reducible refine (HC.out).mono ?_); rintro e w1 ⟨rfl, rfl⟩) | (go_at_call 18; (with_reducible refine (livesH_true _).mono ?_); rintro e w4 ⟨rfl, hb⟩; have KW := Lib.hid hb; clear hb))
     go_ret
     exact ⟨rfl, KW.out⟩
    ·have d3 : decide (y < 1) = false := by simpa using k3
     have d4 : decide (1000 < y) = true := by simp; omega
     clear k1 k2 k3 hg
     go_enter Tryz.func9, Tryz.ntmps9
     go_wp2_with (first | (go_at_call 38; (with_reducible refine (HC.out).mono ?_); rintro e w1 ⟨rfl, rfl⟩) | (go_at_call 18; (with_reducible refine (livesH_true _).mono ?_); rintro e w4 ⟨rfl, hb⟩; have KW := Lib.hid hb; clear hb))
     go_ret
     exact ⟨rfl, KW.out⟩
end Go.Proofs.YtolkchkedieppaaGreat
