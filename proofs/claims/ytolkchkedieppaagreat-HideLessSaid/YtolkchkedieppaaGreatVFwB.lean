/- Fewest of package hide. -/
import Derived.Test.YtolkchkedieppaaGreatVFwA
import Derived.Laws.EntriesVeiled
set_option linter.unusedVariables false
set_option linter.unusedSimpArgs false
namespace Go.Proofs.YtolkchkedieppaaGreat
open Go.RowKit
attribute [local go_sem ↓] Go.wp_at_zero Go.wp_at_succ
theorem flR_zero (W : Nat) {H : Int} (h : 0 ≤ H) : FlR W H (fun _ => 0) := fun i _ => ⟨Int.le_refl _, h⟩
theorem least_zero {W H : Nat} (hW : 1 ≤ W) : ∃ m l, SolP W (H : Int) l (fun _ => 0) ∧ l.length = m ∧ NoLess W (H : Int) (fun _ => 0) m := by
 have hF := flR_zero W (H := (H : Int)) (by omega)
 have hn := arF_nn hF W (Nat.le_refl _)
 exact least_n (sol_ex hW (arF (H : Int) (fun _ => 0) W).toNat _ hF (by omega))
theorem sqN_ge : ∀ {l : List Nat}, (∀ s, s ∈ l → 1 ≤ s) → (l.length : Int) ≤ sqN l
 | [], _ => by simp [sqN]
 | s :: l, h => by
  have ih := sqN_ge (l := l) (fun t ht => h t (by simp [ht]))
  have hs := h s (by simp)
  have h2 : (1 : Int) * 1 ≤ (s : Int) * (s : Int) := Int.mul_le_mul (by omega) (by omega) (by omega) (by omega)
  simp only [sqN, List.length_cons]
  omega
theorem SolP.ones {W : Nat} {H : Int} : ∀ {l : List Nat} {F : Nat → Int}, SolP W H l F → ∀ s, s ∈ l → 1 ≤ s
 | [], F, _, s, hs => by simp at hs
 | t :: l, F, h, s, hs => by
  rcases List.mem_cons.1 hs with rfl | hs
  ·exact h.2.1
  ·exact h.2.2.2.2.2.ones s hs
theorem arF_zero (H : Int) : ∀ W, arF H (fun _ => 0) W = (W : Int) * H
 | 0 => by simp [arF]
 | k + 1 => by simp only [arF, arF_zero H k]; rw [show ((k + 1 : Nat) : Int) = (k : Int) + 1 by omega, Int.add_mul, Int.one_mul]; omega
theorem sol_small {W H : Nat} (hW : 1 ≤ W) (h9 : W ≤ 9) (h9' : H ≤ 9) {l : List Nat} (h : SolP W (H : Int) l (fun _ => 0)) : l.length ≤ 81 := by
 have a := (h.area (flR_zero W (by omega)) hW).1
 have b := sqN_ge h.ones
 rw [arF_zero] at a
 have c : (W : Int) * (H : Int) ≤ 9 * 9 := Int.mul_le_mul (by omega) (by omega) (by omega) (by omega)
 omega
set_option maxHeartbeats 4000000 in
set_option maxRecDepth 100000 in
theorem fewest_good (W H m : Nat) (lm : List Nat) (w : World) (hW : 1 ≤ W) (h9 : W ≤ 9) (hH : 1 ≤ H) (h9' : H ≤ 9) (hl : SolP W (H : Int) lm (fun _ => 0)) (hlm : lm.length = m) (hNL : NoLess W (H : Int) (fun _ => 0) m) :
  Calls Tryz.prog 41 #[.int .i64 (W : Nat), .int .i64 (H : Nat)] w fun e w' => ∃ l va vk, BestS W (H : Int) (fun _ => 0) m l ∧ e = .returned (.tuple #[.slice va l.length vk, .int .i64 0]) ∧ Ints w' (.slice va l.length vk) l.length (lsF l) ∧ Below w.heap.size w w' := by
 have hm81 : m ≤ 81 := by rw [← hlm]; exact sol_small hW h9 h9' hl
 have HL := Lib.hid hl
 have HLM := Lib.hid hlm
 have HNL := Lib.hid hNL
 have HM1 : Hid (1 ≤ m) := Lib.hid (by
  rw [← hlm]
  cases lm with
  | nil => have e : (0 : Int) = (H : Int) := hl; omega
  | cons t k => simp)
 clear hl hlm hNL
 have hnil : ∀ (W : World) (x : Option Addr) (n c : Nat), (binOp .neq 22 (.slice x n c) (.slice none 0 0)).run Tryz.prog W = .ok (.bool (!x.isNone)) W := fun W x n c => run_neq_nil W 22 3 x n c 0 0 Tryz.underlying22
 have hmk := run_make_row' (P := Tryz.prog) 84 3 (.int .i64 0) 8 Tryz.underlying84 infoF rfl .i64 .i64 W (by omega) (by omega)
 have d1 : decide ((W : Int) < 1) = false := by simp; omega
 have d1n : decide (W < 1) = false := by simp; omega
 have d2 : decide ((W : Int) > 9) = false := by simp; omega
 have d2b : decide ((9 : Int) < (W : Int)) = false := by simp; omega
 have d2n : decide (9 < W) = false := by simp; omega
 have d3 : decide ((H : Int) < 1) = false := by simp; omega
 have d3n : decide (H < 1) = false := by simp; omega
 have d4 : decide ((H : Int) > 9) = false := by simp; omega
 have d4b : decide ((9 : Int) < (H : Int)) = false := by simp; omega
 have d4n : decide (9 < H) = false := by simp; omega
 go_enter Tryz.func41, Tryz.ntmps41
 have hc4 : ((((w.alloc (.cells #[.int .i64 (H : Int)] 3)).alloc (.cells (madeCells #[.int .i64 0] W) 3)).alloc (.cells #[.slice (some ⟨w.heap.size + 1, 0, none⟩) W W] 84)).alloc (.cells #[.nilFunc] 142)).cell? ⟨w.heap.size + 1 + 1 + 1, 0, none⟩ = some .nilFunc := by simp [go_sem]
 have hf4 : ((((w.alloc (.cells #[.int .i64 (H : Int)] 3)).alloc (.cells (madeCells #[.int .i64 0] W) 3)).alloc (.cells #[.slice (some ⟨w.heap.size + 1, 0, none⟩) W W] 84)).alloc (.cells #[.nilFunc] 142)).frozen? ⟨w.heap.size + 1 + 1 + 1, 0, none⟩ = false := by simp [go_sem]
 go_wp2
 obtain ⟨w5, hw5⟩ : ∃ w5 : World, w5 = ((((w.alloc (.cells #[.int .i64 (H : Int)] 3)).alloc (.cells (madeCells #[.int .i64 0] W) 3)).alloc (.cells #[.slice (some ⟨w.heap.size + 1, 0, none⟩) W W] 84)).alloc (.cells #[.func (.func 94) #[] #[.pointer (some ⟨w.heap.size + 1 + 1, 0, none⟩), .pointer (some ⟨w.heap.size, 0, none⟩), .pointer (some ⟨w.heap.size + 1 + 1 + 1, 0, none⟩)]] 142)) := ⟨_, rfl⟩
 have FM0 : Hid (FwM w5 W (H : Int) (w.heap.size + 1) (w.heap.size + 1 + 1) w.heap.size (w.heap.size + 1 + 1 + 1) (fun _ => 0)) := Lib.hid (by
  rw [hw5]
  refine ⟨by simp [go_sem], by simp [go_sem], by simp [go_sem], ?_, by simp, by simp; omega, by simp, by omega, by omega, by omega⟩
  have h1 := World.rowIs_made (w.alloc (.cells #[.int .i64 (H : Int)] 3)) (.int .i64 0) W 3
  have hs : (w.alloc (.cells #[.int .i64 (H : Int)] 3)).heap.size = w.heap.size + 1 := by simp
  rw [hs] at h1
  exact rowIs_below (rowIs_below h1 (boxes1 _ _) (by simp)) (boxes1 _ _) (by simp))
 have K0 : Hid (w5.grownBy w5 (some (w.heap.size + 1))) := Lib.hid (grown_of (Below.refl _ _))
 have KW : Hid (Below w.heap.size w w5) := Lib.hid (by rw [hw5]; exact (boxes2 w _ _).trans ((boxes2 _ _ _).mono (by simp; omega)))
 have HG : Hid (w.heap.size ≤ w.heap.size + 1) := Lib.hid (by omega)
 rw [← hw5]
 clear hw5 hc4 hf4 hmk
 generalize w.heap.size + 1 + 1 + 1 = lb at FM0 ⊢
 generalize w.heap.size + 1 + 1 = fb at FM0 ⊢
 generalize hgg : w.heap.size + 1 = g at FM0 K0 HG ⊢
 clear hgg
 generalize hhb : w.heap.size = hb at FM0 HG KW ⊢
 have HHB := Lib.hid hhb
 clear hhb
 go_loopw [8, 9] (fun v8 v9 wr => ∃ k : Nat, 1 ≤ k ∧ k ≤ m ∧ v8 = .int .i64 (k : Nat) ∧ Hid (FwM wr W (H : Int) g fb hb lb (fun _ => 0)) ∧ Hid (w5.grownBy wr (some g))) (fun v8 _ _ => m - (intOf v8).toNat)
 case atStart => exact ⟨1, by omega, HM1.out, rfl, FM0, K0⟩
 case round =>
  clear FM0 K0
  obtain ⟨k, hk1, hkm, rfl, FM, KG⟩ := hrel
  have x0 := FM.out.l
  have hcall := flay_any W (H : Int) g fb hb lb hW (by omega) ⟨by omega, by omega⟩ k (fun _ => 0) [] (.slice none 0 0) wr FM.out (flR_zero W (by omega)) ⟨.inl ⟨rfl, rfl⟩⟩ (by simp; omega) (fun l hl => Nat.le_trans hkm (HNL.out l hl)) (.inr (by simp; omega))
  go_upto_region 9 with (go_at_call 94; go_loud ((with_reducible refine hcall.mono ?_); rintro e w6 ⟨v2, rfl, hR⟩; have HR := Lib.hid hR; clear hR))
  have FM6 := Lib.hid HR.out.m
  have KG6 := Lib.hid (KG.out.trans HR.out.k)
  clear hcall x0
  rcases HR.out.r with ⟨rfl, hno⟩ | ⟨l, hbest, hne, hcv⟩
  ·have hkm2 : k < m := by
    rcases Nat.lt_or_ge k m with q | q
    ·exact q
    ·exact absurd (by rw [HLM.out]; omega) (hno lm HL.out)
   clear hno
   go_wp2
   go_roundw
   case rel => exact ⟨k + 1, by omega, by omega, by go_num, FM6, KG6⟩
   case measure => simp [intOf]; omega
  ·rw [List.nil_append] at hne hcv
   have HNE := Lib.hid hne
   have HCV := Lib.hid hcv
   have HBS := Lib.hid hbest
   have hkm2 : m = k := by
    have := HNL.out l hbest.sol
    have := hbest.len
    omega
   obtain ⟨b8, c8, rfl⟩ := HCV.out.shape HNE.out
   clear hne hcv hbest
   go_wp2
   go_ret2
   exact ⟨l, _, c8, by rw [hkm2]; exact HBS.out, rfl, HCV.out.ints, by rw [HHB.out]; exact KW.out.trans ⟨KG6.out.os, KG6.out.tape, KG6.out.output, KG6.out.size, fun i hi => KG6.out.block i (Nat.lt_of_lt_of_le hi (by have := KW.out.size; have := HHB.out; omega)) (fun e => by have e2 := Option.some.inj e; have := HG.out; omega)⟩⟩
end Go.Proofs.YtolkchkedieppaaGreat
