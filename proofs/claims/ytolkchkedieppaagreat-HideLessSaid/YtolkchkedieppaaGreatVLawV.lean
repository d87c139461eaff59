/- The law HideLess: its walk. -/
import Derived.Test.YtolkchkedieppaaGreatVFwB
import Derived.Test.YtolkchkedieppaaGreatVPlainTw
import Derived.Test.YtolkchkedieppaaGreatVLawN
import Derived.Test.YtolkchkedieppaaGreatVMcA
set_option linter.unusedVariables false
set_option linter.unusedSimpArgs false
namespace Go.Proofs.YtolkchkedieppaaGreat
open Go.RowKit
attribute [local go_sem ↓] Go.wp_at_zero Go.wp_at_succ
theorem fewest_n (W H : Nat) (w : World) (hW : 1 ≤ W) (h9 : W ≤ 9) (hH : 1 ≤ H) (h9' : H ≤ 9) : ∃ m, 1 ≤ m ∧ m ≤ 18 ∧ m ≤ (euc (max W H) (min W H)).length ∧ NoLess W (H : Int) (fun _ => 0) m ∧ (∃ l, SolP W (H : Int) l (fun _ => 0) ∧ l.length = m) ∧
  ∀ w, Calls Tryz.prog 41 #[.int .i64 (W : Nat), .int .i64 (H : Nat)] w fun e w' => ∃ S va vk, MkC S W H ∧ S.Pairwise (fun a b => ¬ ltS b a) ∧ S.length = m ∧ e = .returned (.tuple #[.slice va m vk, .int .i64 0]) ∧ Ints w' (.slice va m vk) m (eF (szL S)) ∧ Below w.heap.size w w' := by
 obtain ⟨m, lm, hl, hlm, hNL⟩ := least_zero (W := W) (H := H) hW
 have hel := euc_len (W + H) (max W H) (min W H) (by omega) (by omega)
 obtain ⟨le, hle, hle2⟩ := sol_euc hW (by omega) hH (by omega) (by omega)
 have h1 := hNL le hle
 have h2 : 1 ≤ m := by
  rw [← hlm]
  cases lm with
  | nil => have e : (0 : Int) = (H : Int) := hl; omega
  | cons t k => simp
 refine ⟨m, h2, by omega, by omega, hNL, ⟨lm, hl, hlm⟩, fun w => (fewest_good W H m lm w hW h9 hH h9' hl hlm hNL).mono ?_⟩
 rintro e w' ⟨l, va, vk, hb, rfl, hi, hk⟩
 obtain ⟨S, hm, hs, he⟩ := cut_of_sol hW (by omega) hH (by omega) hb.sol
 have hlen := hb.len
 subst he
 rw [hlen] at hi ⊢
 rw [szL_len] at hlen
 exact ⟨S, va, vk, hm, hs, hlen, rfl, hi, hk⟩
theorem lay_n (va : Option Addr) (vk m : Nat) (S : List Tr) (W H : Nat) (w : World) (hv : Ints w (.slice va m vk) m (eF (szL S))) (hm : MkC S W H) (hn : S.length = m) (h24 : m ≤ 24) (hs : S.Pairwise (fun a b => ¬ ltS b a)) :
  Calls Tryz.prog 15 #[.int .i64 (W : Nat), .slice va m vk] w fun e w' => ∃ va vk, e = .returned (.tuple #[.slice va m vk, .int .i64 0]) ∧ OwS w.heap.size w' (.slice va m vk) S ∧ Below w.heap.size w w' := by
 subst hn
 exact lay_mk _ S W H w (by rw [szL_len]; exact hv) hm h24 hs
theorem euclid_n (x y : Nat) (w : World) (hx : 1 ≤ x) (hx2 : x ≤ 9) (hy : 1 ≤ y) (hy2 : y ≤ 9) (k : Nat) (hk : k = (euc (max x y) (min x y)).length) :
  Calls Tryz.prog 38 #[.int .i64 (x : Nat), .int .i64 (y : Nat)] w fun e w' => ∃ va vk, e = .returned (.tuple #[.slice va k vk, .int .i64 0]) ∧ Below w.heap.size w w' := by
 have hel := euc_len (x + y) (max x y) (min x y) (by omega) (by omega)
 subst hk
 refine (euclid_ok x y w hx (by omega) hy (by omega) _ rfl (by omega)).mono ?_
 rintro e w' ⟨va, vk, rfl, _, hb⟩
 exact ⟨va, vk, rfl, hb⟩
set_option maxHeartbeats 4000000 in
set_option maxRecDepth 100000 in
theorem lawLess (x y : Nat) (w : World) (hx : x < 256) (hy : y < 256) :
  Calls Tryz.prog 13 #[.int .u8 (x : Nat), .int .u8 (y : Nat)] w fun e w' => e = .returned (.bool true) ∧ Below w.heap.size w w' := by
 have K0 := Lib.hid (Below.refl w.heap.size w)
 obtain ⟨X, hX⟩ : ∃ X, X = x % 9 := ⟨_, rfl⟩
 obtain ⟨Y, hY⟩ : ∃ Y, Y = y % 9 := ⟨_, rfl⟩
 have hX9 : X < 9 := by omega
 have hY9 : Y < 9 := by omega
 have t1 : Int.tmod (x : Int) 9 = (X : Int) := by rw [hX]; rfl
 have t2 : (x : Int) % 9 = (X : Int) := by rw [hX]; rfl
 have t3 : Int.tmod (y : Int) 9 = (Y : Int) := by rw [hY]; rfl
 have t4 : (y : Int) % 9 = (Y : Int) := by rw [hY]; rfl
 have w1 : IntKind.i64.wrap (x : Int) = (x : Int) := by rw [IntKind.wrap_i64]; omega
 have w2 : IntKind.i64.wrap (y : Int) = (y : Int) := by rw [IntKind.wrap_i64]; omega
 have w3 : IntKind.i64.wrap (X : Int) = (X : Int) := by rw [IntKind.wrap_i64]; omega
 have w4 : IntKind.i64.wrap (Y : Int) = (Y : Int) := by rw [IntKind.wrap_i64]; omega
 obtain ⟨W, hW⟩ : ∃ W, W = X + 1 := ⟨_, rfl⟩
 obtain ⟨H, hH⟩ : ∃ H, H = Y + 1 := ⟨_, rfl⟩
 have w5 : IntKind.i64.wrap ((X : Int) + 1) = (W : Int) := by rw [IntKind.wrap_i64]; omega
 have w6 : IntKind.i64.wrap ((Y : Int) + 1) = (H : Int) := by rw [IntKind.wrap_i64]; omega
 have g1 : 1 ≤ W := by omega
 have g2 : W ≤ 9 := by omega
 have g3 : 1 ≤ H := by omega
 have g4 : H ≤ 9 := by omega
 clear hX hY hW hH
 obtain ⟨m, hm1, hm18, hme, hNL, ⟨l, hl, hll⟩, F1⟩ := fewest_n W H w g1 g2 g3 g4
 obtain ⟨m2, _, hm18', _, hNL', ⟨l', hl', hll'⟩, F2⟩ := fewest_n H W w g3 g4 g1 g2
 obtain rfl : m = m2 := least_swap g1 (by omega) g3 (by omega) hl hll hNL hl' hll' hNL' (by omega) (by omega)
 obtain ⟨k, hk⟩ : ∃ k, k = (euc (max W H) (min W H)).length := ⟨_, rfl⟩
 rw [← hk] at hme
 have FA := Lib.hid F1
 have FB := Lib.hid F2
 have HK := Lib.hid hk
 have d1 : decide ((k : Int) < (m : Int)) = false := by simp; omega
 have d1n : decide (k < m) = false := by simp; omega
 clear hNL hNL' hl hl' hll hll' F1 F2 hk
 go_enter Tryz.func13, Tryz.ntmps13
 go_wp2_with (first
  | (go_at_call 41; go_loud ((with_reducible refine (FA.out _).mono ?_); rintro e w1 ⟨S, va, vk, hm, hs, hlen, rfl, hi, hb⟩; have HM := Lib.hid hm; have HS := Lib.hid hs; have HLE := Lib.hid hlen; have HI := Lib.hid hi; have K0 := Lib.hid (K0.out.trans (hb.mono K0.out.size)); clear hi hb hm hs hlen FA))
  | (go_at_call 38; go_loud ((with_reducible refine (euclid_n W H _ g1 g2 g3 g4 k HK.out).mono ?_); rintro e w2 ⟨vb, vc, rfl, hb⟩; have HI := Lib.hid (HI.out.mono hb (Nat.le_refl _)); have K0 := Lib.hid (K0.out.trans (hb.mono K0.out.size)); clear hb))
  | (go_at_call 41; go_loud ((with_reducible refine (FB.out _).mono ?_); rintro e w3 ⟨S2, ve, vf, _, _, _, rfl, _, hb⟩; have HI := Lib.hid (HI.out.mono hb (Nat.le_refl _)); have K0 := Lib.hid (K0.out.trans (hb.mono K0.out.size)); clear hb))
  | (go_at_call 15; go_loud ((with_reducible refine (lay_n va vk m S W H _ HI.out HM.out HLE.out (by omega) HS.out).mono ?_); rintro e w4 ⟨vg, vh, rfl, ho, hb⟩; have HO := Lib.hid ho; have K0 := Lib.hid (K0.out.trans (hb.mono K0.out.size)); clear ho hb))
  | (go_at_call 18; go_loud ((with_reducible refine (livesH_true _).mono ?_); rintro e w5 ⟨rfl, hb⟩; have HO := Lib.hid (HO.out.below hb); have K0 := Lib.hid (K0.out.trans (hb.mono K0.out.size)); clear hb))
  | (go_at_call 30; go_loud ((with_reducible refine (measure_mk _ S W H _ HO.out HM.out (by rw [HLE.out]; omega)).mono ?_); rintro e w6 ⟨rfl, hb⟩; have K0 := Lib.hid (K0.out.trans (hb.mono K0.out.size)); clear hb)))
 go_ret
 exact ⟨rfl, K0.out⟩
end Go.Proofs.YtolkchkedieppaaGreat
