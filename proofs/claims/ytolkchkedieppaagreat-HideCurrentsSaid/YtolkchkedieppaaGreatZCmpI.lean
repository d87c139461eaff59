/- heights, Currents and Resistance of package hide at what is no valid network. -/
import Derived.Test.YtolkchkedieppaaGreatZCurB
import Derived.Shelf.SlSortCmp.NoneTotal
import Derived.Ground.SlsfProg
import Derived.Test.YtolkchkedieppaaGreatProg
import Derived.Test.YtolkchkedieppaaGreatZGen
import Derived.Deep.DrawnRows
import Derived.Deep.QuietTactic
import Derived.BigQuiet
set_option linter.unusedVariables false
set_option linter.unusedSimpArgs false
namespace Go.Proofs.YtolkchkedieppaaGreat
open Go.RowKit
attribute [local go_sem ↓] Go.wp_at_zero Go.wp_at_succ
/-- a slice of pairs, as read -/
structure PrV (w : World) (v : Value) (W : List (Int × Int)) : Prop where
 ex : ∃ va vk, v = .slice va W.length vk ∧ (0 < W.length → ∃ g, va = some ⟨g, 0, none⟩ ∧ PrR w g 0 W ∧ g < w.heap.size)
theorem PrV.below {w w' : World} {v : Value} {W : List (Int × Int)} (h : PrV w v W) (hb : Below w.heap.size w w') : PrV w' v W := by
 obtain ⟨va, vk, e, h1⟩ := h.ex
 refine ⟨va, vk, e, fun h0 => ?_⟩
 obtain ⟨g, e2, h2, h3⟩ := h1 h0
 exact ⟨g, e2, h2.below hb h3, Nat.lt_of_lt_of_le h3 hb.size⟩
/-- a valid network -/
structure NetOK (n : Int) (W : List (Int × Int)) (N : Nat) : Prop where
 e : n = (N : Int)
 l : W.length ≤ 24
 n2 : 2 ≤ N
 n25 : N ≤ 25
 ok : WiresOK N W
 ne : ∀ k, k < W.length → wA W k ≠ wB W k
 con : ConOK N W
/-- why a network is not valid -/
def NetBad (n : Int) (W : List (Int × Int)) (e : Int) : Prop := (24 < W.length ∧ e = 3) ∨ (W.length ≤ 24 ∧ e = 1 ∧ ∀ N, ¬ NetOK n W N)
theorem NetOK.pos {n : Int} {W : List (Int × Int)} {N : Nat} (h : NetOK n W N) : 0 < W.length := by
 rcases Nat.eq_zero_or_pos W.length with e | e
 ·exfalso
  have h1 := rea_closed (W := W) (f := fun i => decide (i = 0)) (by simp) (fun k hk => by omega) (h.con 1 (by have := h.n2; omega))
  simp at h1
 ·exact e
theorem con_zero {N : Nat} {W : List (Int × Int)} (h2 : 2 ≤ N) (e : W.length = 0) : ¬ ConOK N W := fun h => by
 have h1 := rea_closed (W := W) (f := fun i => decide (i = 0)) (by simp) (fun k hk => by omega) (h 1 (by omega))
 simp at h1
set_option maxHeartbeats 4000000 in
set_option maxRecDepth 100000 in
theorem connected_zero (va : Option Addr) (c0 n : Nat) (w : World) (h2 : 2 ≤ n) (hn : n ≤ 100) :
  Calls Tryz.prog 109 #[.int .i64 (n : Nat), .slice va 0 c0] w fun e w' => e = .returned (.bool false) ∧ Below w.heap.size w w' := by
 have hmk := mkBls n (by omega)
 have M0 : Hid ((w.alloc (.cells (madeCells #[.bool false] n) 4)).ownsRow w.heap.size 4 1 (.slice (some ⟨w.heap.size, 0, none⟩) n n) n (bls (fun _ => false) n)) := Lib.hid
  ⟨by simp [bls_len], .inr ⟨w.heap.size, n, _, rfl, Nat.le_refl _, heap_alloc_new w _, Nat.le_refl _, by unfold maxLen; omega, by simp [madeCells], by rw [Nat.mul_one, madeB_bls, List.take_of_length_le (by rw [bls_len]; exact Nat.le_refl _)]⟩⟩
 have KB0 := Lib.hid ((Below.refl w.heap.size w).alloc (Nat.le_refl _) (.cells (madeCells #[.bool false] n) 4))
 have d0 : decide ((0 : Int) < ((0 : Nat) : Int)) = false := by simp
 go_enter Tryz.func109, Tryz.ntmps109
 go_upto_region 2 with (fail)
 obtain ⟨g, hgd⟩ : ∃ g, g = w.heap.size := ⟨_, rfl⟩
 have hgw : w.heap.size ≤ g := by omega
 have M0 : Hid (BlO (w.alloc (.cells (madeCells #[.bool false] n) 4)) w.heap.size g n (fun _ => false)) := Lib.hid (by rw [hgd]; exact M0.out)
 rw [← hgd]
 generalize w.alloc (.cells (madeCells #[.bool false] n) 4) = w1 at M0 KB0 ⊢
 clear hgd hmk
 have ix0 := fun W => ixBc g n n 0 (by omega) W
 have z0 := M0.out.cell (i := 0) (by omega)
 have f0 : w1.frozen? ⟨g, 0, none⟩ = false := World.ownsRow.frozenAt M0.out 0
 have M1 := Lib.hid (M0.out.set 0)
 have KB1 := Lib.hid (KB0.out.setCell (p := ⟨g, 0, none⟩) hgw (.bool true))
 clear M0 KB0
 go_wp2
 generalize w1.setCell ⟨g, 0, none⟩ (.bool true) = w2 at M1 KB1 ⊢
 clear z0 f0 ix0
 go_loopw [6, 8] (fun v6 v8 wr => ∃ (mo : Bool), v6 = .bool mo ∧ Hid (BlO wr w.heap.size g n (setB (fun _ => false) 0)) ∧ Hid (Below w.heap.size w wr)) (fun v6 _ _ => bitOf v6)
 case atStart => exact ⟨true, rfl, M1, KB1⟩
 case round =>
  clear M1 KB1
  obtain ⟨mo, rfl, HF, KB⟩ := hrel
  rcases mo with _ | _
  ·have hc1 := contB_any g n (setB (fun _ => false) 0) wr (by omega) (fun i hi => HF.out.cell hi) true ⟨fun _ => ⟨1, by omega, by simp [setB]⟩, fun _ => rfl⟩
   go_wp2_with (go_at_call 138; (with_reducible refine hc1.mono ?_); rintro e w' ⟨rfl, rfl⟩)
   go_ret
   exact ⟨rfl, KB.out⟩
  ·have e0 : bitOf (.bool true) = 1 := rfl
   go_wp2
   go_loopw [6, 8, 16] (fun v6 v8 v16 wy => v16 = .int .i64 ((0 : Nat) : Int) ∧ v6 = .bool false ∧ Hid (BlO wy w.heap.size g n (setB (fun _ => false) 0)) ∧ Hid (Below w.heap.size w wy)) (fun _ _ _ _ => 0)
   case atStart => exact ⟨rfl, rfl, HF, KB⟩
   case round =>
    clear HF KB
    obtain ⟨rfl, rfl, HF, KB⟩ := hrel
    go_wp2
    go_roundw
    case rel => exact ⟨false, rfl, HF, KB⟩
    case measure => simp [bitOf]
theorem connected_no (v : Value) (N : Nat) (W : List (Int × Int)) (w : World) (hv : PrV w v W) (hl : W.length ≤ 24) (h2 : 2 ≤ N) (hn : N ≤ 25) (hok : WiresOK N W) (hno : ¬ ConOK N W) :
  Calls Tryz.prog 109 #[.int .i64 (N : Nat), v] w fun e w' => e = .returned (.bool false) ∧ Below w.heap.size w w' := by
 obtain ⟨va, vk, rfl, h1⟩ := hv.ex
 rcases Nat.eq_zero_or_pos W.length with e | e
 ·rw [e]; exact connected_zero va vk N w h2 (by omega)
 ·obtain ⟨g, rfl, hp, hg⟩ := h1 e
  exact connected_any g vk N W w hp hg (by omega) (by omega) (by omega) hok false ⟨fun e => absurd e (by decide), fun q => absurd q hno⟩
/-- the wire k is in order -/
def WirOK (N : Int) (p : Int × Int) : Prop := 0 ≤ p.1 ∧ p.1 < N ∧ 0 ≤ p.2 ∧ p.2 < N ∧ p.1 ≠ p.2
instance (N : Int) (p : Int × Int) : Decidable (WirOK N p) := by unfold WirOK; infer_instance
theorem wires_of {N : Nat} {W : List (Int × Int)} (h : ∀ k, k < W.length → WirOK N (W.getD k (0, 0))) : WiresOK N W ∧ ∀ k, k < W.length → wA W k ≠ wB W k := by
 refine ⟨fun k hk => ?_, fun k hk e => ?_⟩
 ·obtain ⟨a, b, c, d, _⟩ := h k hk
  exact ⟨a, b, c, d⟩
 ·obtain ⟨a, b, c, d, q⟩ := h k hk
  unfold wA wB at e
  omega
theorem wir_no {N : Nat} {W : List (Int × Int)} {k : Nat} (hk : k < W.length) (h : ¬ WirOK N (W.getD k (0, 0))) : ¬ (WiresOK N W ∧ ∀ k, k < W.length → wA W k ≠ wB W k) := fun ⟨h1, h2⟩ => h (by
 obtain ⟨a, b, c, d⟩ := h1 k hk
 have q := h2 k hk
 unfold wA wB at q
 exact ⟨a, b, c, d, fun e => q (by rw [e])⟩)
set_option maxHeartbeats 4000000 in
set_option maxRecDepth 100000 in
theorem heights_bad (v : Value) (W : List (Int × Int)) (n er : Int) (w : World) (hv : PrV w v W) (he : NetBad n W er) :
  Calls Tryz.prog 62 #[.int .i64 n, v] w fun e w' => e = .returned (.tuple #[.slice none 0 0, .int .i64 er]) ∧ Below w.heap.size w w' := by
 have HV := Lib.hid hv
 obtain ⟨va, vk, rfl, hp⟩ := hv.ex
 have HP := Lib.hid hp
 have KB0 := Lib.hid (Below.refl w.heap.size w)
 clear hp hv
 rcases he with ⟨h24, rfl⟩ | ⟨hl, rfl, hno⟩
 ·have d1 : decide ((24 : Int) < ((W.length : Nat) : Int)) = true := by simp; omega
  have d1n : decide (24 < W.length) = true := by simp; omega
  go_enter Tryz.func62, Tryz.ntmps62
  go_wp2
  go_ret2
  exact ⟨rfl, KB0.out⟩
 ·have HNO := Lib.hid hno
  have d1 : decide ((24 : Int) < ((W.length : Nat) : Int)) = false := by simp; omega
  have d1n : decide (24 < W.length) = false := by simp; omega
  clear hno
  by_cases q1 : n < 2
  ·have d2 : decide (n < 2) = true := by simpa using q1
   go_enter Tryz.func62, Tryz.ntmps62
   go_wp2
   go_ret2
   exact ⟨rfl, KB0.out⟩
  ·by_cases q2 : 25 < n
   ·have d2 : decide (n < 2) = false := by simpa using q1
    have d3 : decide (25 < n) = true := by simpa using q2
    go_enter Tryz.func62, Tryz.ntmps62
    go_wp2
    go_ret2
    exact ⟨rfl, KB0.out⟩
   ·obtain ⟨N, rfl⟩ := Int.eq_ofNat_of_zero_le (show 0 ≤ n by omega)
    have d2 : decide ((N : Int) < 2) = false := by simp; omega
    have d2n : decide (N < 2) = false := by simp; omega
    have d3 : decide ((25 : Int) < (N : Int)) = false := by simp; omega
    have d3n : decide (25 < N) = false := by simp; omega
    have hN2 : 2 ≤ N := by omega
    have hN25 : N ≤ 25 := by omega
    clear q1 q2
    go_enter Tryz.func62, Tryz.ntmps62
    go_wp2
    go_loopw [7, 25] (fun v7 v25 wr => ∃ k : Nat, k ≤ W.length ∧ v25 = .int .i64 (k : Nat) ∧ Hid (∀ j, j < k → WirOK N (W.getD j (0, 0))) ∧ Hid (Below w.heap.size w wr)) (fun _ v25 _ => W.length - (intOf v25).toNat)
    case atStart => exact ⟨0, by omega, rfl, Lib.hid (fun j hj => by omega), KB0⟩
    case round =>
     clear KB0 d1 d1n d2 d2n d3 d3n
     obtain ⟨k, hk, rfl, HJ, KB⟩ := hrel
     by_cases h : k < W.length
     ·have e1 : decide ((k : Int) < ((W.length : Nat) : Int)) = true := by simpa using h
      have e1n : decide (k < W.length) = true := by simpa using h
      obtain ⟨g0, rfl, hp2, hg⟩ := HP.out (by omega)
      have ix := fun X => ixPr g0 W.length vk k h X
      have HWR := Lib.hid (hp2.below KB.out hg)
      have x0 := HWR.out.c0 k h
      have x1 := HWR.out.c1 k h
      simp only [Nat.zero_add] at x0 x1
      have HWK := Lib.hid (Classical.em (WirOK N (W.getD k (0, 0))))
      obtain ⟨a, hA⟩ : ∃ a, a = (W.getD k (0, 0)).1 := ⟨_, rfl⟩
      obtain ⟨b, hB⟩ : ∃ b, b = (W.getD k (0, 0)).2 := ⟨_, rfl⟩
      have HWD : Hid (WirOK N (W.getD k (0, 0)) ↔ WirOK N (a, b)) := Lib.hid (by rw [hA, hB])
      rw [← hA] at x0
      rw [← hB] at x1
      obtain ⟨m, hm⟩ : ∃ m : Int, m = min a b := ⟨_, rfl⟩
      obtain ⟨M, hM⟩ : ∃ M : Int, M = max a b := ⟨_, rfl⟩
      have m1 : (if b < a then b else a) = m := by rw [hm]; split <;> omega
      have m2 : min a b = m := hm.symm
      have m3 : (if a < b then b else a) = M := by rw [hM]; split <;> omega
      have m4 : max a b = M := hM.symm
      have KB2 := Lib.hid (KB.out.alloc KB.out.size (.cells #[.int .i64 a, .int .i64 b] 40))
      clear hA hB HWR hp2 hg
      by_cases q1 : m < 0
      ·have f1 : decide (m < 0) = true := by simpa using q1
       clear q1 hm hM
       go_wp2
       go_ret2
       exact ⟨rfl, KB2.out⟩
      ·have f1 : decide (m < 0) = false := by simpa using q1
       by_cases q2 : (N : Int) ≤ M
       ·have f2 : decide ((N : Int) ≤ M) = true := by simpa using q2
        clear q1 q2 hm hM
        go_wp2
        go_ret2
        exact ⟨rfl, KB2.out⟩
       ·have f2 : decide ((N : Int) ≤ M) = false := by simpa using q2
        by_cases q3 : a = b
        ·have f3 : (a == b) = true := by simpa using q3
         clear q1 q2 q3 hm hM
         go_wp2
         go_ret2
         exact ⟨rfl, KB2.out⟩
        ·have f3 : (a == b) = false := by simpa using q3
         have HJ2 : Hid (∀ j, j < k + 1 → WirOK N (W.getD j (0, 0))) := Lib.hid (fun j hj => by
          by_cases e : j = k
          ·rw [e]; exact HWD.out.2 ⟨by show 0 ≤ a; omega, by show a < (N : Int); omega, by show 0 ≤ b; omega, by show b < (N : Int); omega, q3⟩
          ·exact HJ.out j (by omega))
         clear q1 q2 q3 hm hM
         go_wp2
         go_roundw
         case rel => exact ⟨k + 1, by omega, by go_num, HJ2, KB2⟩
         case measure => simp [intOf]; omega
     ·obtain rfl : k = W.length := by omega
      have e1 : decide (((W.length : Nat) : Int) < ((W.length : Nat) : Int)) = false := by simp
      obtain ⟨o1, o2⟩ := wires_of HJ.out
      have hcc := connected_no _ N W wr (HV.out.below KB.out) hl hN2 hN25 o1 (fun hc => HNO.out N ⟨rfl, hl, hN2, hN25, o1, o2, hc⟩)
      clear o1 o2
      go_wp2_with (go_at_call 109; go_loud ((with_reducible refine hcc.mono ?_); rintro e w1 ⟨rfl, hb⟩; have KB := Lib.hid (KB.out.trans (hb.mono KB.out.size)); clear hb))
      go_ret2
      exact ⟨rfl, KB.out⟩
theorem currents_bad (v : Value) (W : List (Int × Int)) (n er : Int) (w : World) (hv : PrV w v W) (he : NetBad n W er) :
  Calls Tryz.prog 25 #[.int .i64 n, v] w fun e w' => e = .returned (.tuple #[.slice none 0 0, .int .i64 er]) ∧ Below w.heap.size w w' := by
 have hne : (er != 0) = true := by rcases he with ⟨_, rfl⟩ | ⟨_, rfl, _⟩ <;> rfl
 have hh := heights_bad v W n er w hv he
 clear he hv
 go_enter Tryz.func25, Tryz.ntmps25
 go_wp2_with (go_at_call 62; go_loud ((with_reducible refine hh.mono ?_); rintro e w1 ⟨rfl, hb⟩; have KB := Lib.hid hb; clear hb))
 go_ret2
 exact ⟨rfl, KB.out⟩
theorem resistance_bad (v : Value) (W : List (Int × Int)) (n er : Int) (w : World) (hv : PrV w v W) (he : NetBad n W er) :
  Calls Tryz.prog 26 #[.int .i64 n, v] w fun e w' => e = .returned (.tuple #[.string ⟨#[]⟩, .int .i64 er]) ∧ Below w.heap.size w w' := by
 have hne : (er != 0) = true := by rcases he with ⟨_, rfl⟩ | ⟨_, rfl, _⟩ <;> rfl
 have hh := heights_bad v W n er w hv he
 clear he hv
 go_enter Tryz.func26, Tryz.ntmps26
 go_wp2_with (go_at_call 62; go_loud ((with_reducible refine hh.mono ?_); rintro e w1 ⟨rfl, hb⟩; have KB := Lib.hid hb; clear hb))
 go_ret2
 exact ⟨rfl, KB.out⟩
end Go.Proofs.YtolkchkedieppaaGreat

/- The shelf's sorts at this program, in plain words (written by the kit's lay-plain.mjs). -/
namespace Go.Proofs
open Go.Shelf
def Tryz.sortSq_ren : Go.Shelf.Ren := ⟨fun | 6 => 104 | 15 => 135 | 14 => 136 | 28 => 168 | 29 => 169 | 20 => 170 | 21 => 171 | 22 => 172 | 23 => 173 | 24 => 174 | 25 => 175 | 26 => 176 | 27 => 177 | 46 => 198 | 47 => 194 | 48 => 195 | 49 => 199 | 50 => 200 | 57 => 205 | n => n, fun | 22 => 23 | 24 => 47 | 25 => 150 | 3 => 3 | 39 => 167 | 0 => 0 | 53 => 166 | 55 => 163 | 4 => 4 | 46 => 199 | 45 => 198 | 50 => 203 | 5 => 5 | 9 => 9 | 66 => 223 | 70 => 227 | 76 => 233 | 77 => 44 | n => n, fun | n => n⟩
theorem Tryz.sortSq : Go.Proofs.SlLaysF0.n6 Tryz.prog Tryz.sortSq_ren := {
 mixed := by kernel_rfl
 f6 := ⟨Tryz.f104.name, by decide, Tryz.func104.trans (congrArg some (by kernel_rfl))⟩
 f14 := ⟨Tryz.f136.name, by decide, Tryz.func136.trans (congrArg some (by kernel_rfl))⟩
 f15 := Tryz.func135.trans (congrArg some (by kernel_rfl))
 f20 := ⟨Tryz.f170.name, by decide, Tryz.func170.trans (congrArg some (by kernel_rfl))⟩
 f21 := ⟨Tryz.f171.name, by decide, Tryz.func171.trans (congrArg some (by kernel_rfl))⟩
 f22 := ⟨Tryz.f172.name, by decide, Tryz.func172.trans (congrArg some (by kernel_rfl))⟩
 f23 := ⟨Tryz.f173.name, by decide, Tryz.func173.trans (congrArg some (by kernel_rfl))⟩
 f24 := ⟨Tryz.f174.name, by decide, Tryz.func174.trans (congrArg some (by kernel_rfl))⟩
 f25 := ⟨Tryz.f175.name, by decide, Tryz.func175.trans (congrArg some (by kernel_rfl))⟩
 f26 := ⟨Tryz.f176.name, by decide, Tryz.func176.trans (congrArg some (by kernel_rfl))⟩
 f27 := ⟨Tryz.f177.name, by decide, Tryz.func177.trans (congrArg some (by kernel_rfl))⟩
 f28 := Tryz.func168.trans (congrArg some (by kernel_rfl))
 f29 := Tryz.func169.trans (congrArg some (by kernel_rfl))
 f46 := ⟨Tryz.f198.name, by decide, Tryz.func198.trans (congrArg some (by kernel_rfl))⟩
 f47 := Tryz.func194.trans (congrArg some (by kernel_rfl))
 f48 := Tryz.func195.trans (congrArg some (by kernel_rfl))
 f49 := ⟨Tryz.f199.name, by decide, Tryz.func199.trans (congrArg some (by kernel_rfl))⟩
 f50 := ⟨Tryz.f200.name, by decide, Tryz.func200.trans (congrArg some (by kernel_rfl))⟩
 f57 := ⟨Tryz.f205.name, by decide, Tryz.func205.trans (congrArg some (by kernel_rfl))⟩
 t0 := Tryz.underlying0
 a0 := Tryz.isAgg0
 z0 := Tryz.sizeOf0
 v0 := Tryz.zeroValue0
 t3 := Tryz.underlying3
 a3 := Tryz.isAgg3
 z3 := Tryz.sizeOf3
 v3 := Tryz.zeroValue3
 t4 := Tryz.underlying4
 a4 := Tryz.isAgg4
 z4 := Tryz.sizeOf4
 v4 := Tryz.zeroValue4
 t5 := Tryz.underlying5
 a5 := Tryz.isAgg5
 z5 := Tryz.sizeOf5
 v5 := Tryz.zeroValue5
 t9 := Tryz.underlying9
 a9 := Tryz.isAgg9
 z9 := Tryz.sizeOf9
 v9 := Tryz.zeroValue9
 t22 := Tryz.underlying23
 a22 := Tryz.isAgg23
 z22 := Tryz.sizeOf23
 v22 := Tryz.zeroValue23
 t25 := Tryz.underlying150
 a25 := Tryz.isAgg150
 z25 := Tryz.sizeOf150
 v25 := Tryz.zeroValue150
 t39 := Tryz.underlying167
 a39 := Tryz.isAgg167
 z39 := Tryz.sizeOf167
 v39 := Tryz.zeroValue167
 t45 := Tryz.underlying198
 a45 := Tryz.isAgg198
 z45 := Tryz.sizeOf198
 v45 := Tryz.zeroValue198
 t46 := Tryz.underlying199
 a46 := Tryz.isAgg199
 z46 := Tryz.sizeOf199
 v46 := Tryz.zeroValue199
 t50 := Tryz.underlying203
 a50 := Tryz.isAgg203
 z50 := Tryz.sizeOf203
 v50 := Tryz.zeroValue203
 t53 := Tryz.underlying166
 a53 := Tryz.isAgg166
 z53 := Tryz.sizeOf166
 v53 := Tryz.zeroValue166
 t55 := Tryz.underlying163
 a55 := Tryz.isAgg163
 z55 := Tryz.sizeOf163
 v55 := Tryz.zeroValue163
 t66 := Tryz.underlying223
 a66 := Tryz.isAgg223
 z66 := Tryz.sizeOf223
 v66 := Tryz.zeroValue223
 t70 := Tryz.underlying227
 a70 := Tryz.isAgg227
 z70 := Tryz.sizeOf227
 v70 := Tryz.zeroValue227
 t76 := Tryz.underlying233
 a76 := Tryz.isAgg233
 z76 := Tryz.sizeOf233
 v76 := Tryz.zeroValue233
 t77 := Tryz.underlying44
 a77 := Tryz.isAgg44
 z77 := Tryz.sizeOf44
 v77 := Tryz.zeroValue44 }
def Tryz.sortLn_ren : Go.Shelf.Ren := ⟨fun | 6 => 106 | 15 => 135 | 14 => 137 | 28 => 168 | 29 => 169 | 20 => 178 | 21 => 179 | 22 => 180 | 23 => 181 | 24 => 182 | 25 => 183 | 26 => 184 | 27 => 185 | 46 => 201 | 47 => 194 | 48 => 195 | 49 => 202 | 50 => 203 | 57 => 206 | n => n, fun | 22 => 92 | 24 => 96 | 25 => 152 | 3 => 3 | 39 => 167 | 0 => 0 | 53 => 166 | 55 => 163 | 4 => 4 | 46 => 199 | 45 => 198 | 50 => 203 | 5 => 5 | 9 => 9 | 66 => 223 | 70 => 227 | 76 => 233 | 77 => 44 | n => n, fun | n => n⟩
theorem Tryz.sortLn : Go.Proofs.SlLaysF0.n6 Tryz.prog Tryz.sortLn_ren := {
 mixed := by kernel_rfl
 f6 := ⟨Tryz.f106.name, by decide, Tryz.func106.trans (congrArg some (by kernel_rfl))⟩
 f14 := ⟨Tryz.f137.name, by decide, Tryz.func137.trans (congrArg some (by kernel_rfl))⟩
 f15 := Tryz.func135.trans (congrArg some (by kernel_rfl))
 f20 := ⟨Tryz.f178.name, by decide, Tryz.func178.trans (congrArg some (by kernel_rfl))⟩
 f21 := ⟨Tryz.f179.name, by decide, Tryz.func179.trans (congrArg some (by kernel_rfl))⟩
 f22 := ⟨Tryz.f180.name, by decide, Tryz.func180.trans (congrArg some (by kernel_rfl))⟩
 f23 := ⟨Tryz.f181.name, by decide, Tryz.func181.trans (congrArg some (by kernel_rfl))⟩
 f24 := ⟨Tryz.f182.name, by decide, Tryz.func182.trans (congrArg some (by kernel_rfl))⟩
 f25 := ⟨Tryz.f183.name, by decide, Tryz.func183.trans (congrArg some (by kernel_rfl))⟩
 f26 := ⟨Tryz.f184.name, by decide, Tryz.func184.trans (congrArg some (by kernel_rfl))⟩
 f27 := ⟨Tryz.f185.name, by decide, Tryz.func185.trans (congrArg some (by kernel_rfl))⟩
 f28 := Tryz.func168.trans (congrArg some (by kernel_rfl))
 f29 := Tryz.func169.trans (congrArg some (by kernel_rfl))
 f46 := ⟨Tryz.f201.name, by decide, Tryz.func201.trans (congrArg some (by kernel_rfl))⟩
 f47 := Tryz.func194.trans (congrArg some (by kernel_rfl))
 f48 := Tryz.func195.trans (congrArg some (by kernel_rfl))
 f49 := ⟨Tryz.f202.name, by decide, Tryz.func202.trans (congrArg some (by kernel_rfl))⟩
 f50 := ⟨Tryz.f203.name, by decide, Tryz.func203.trans (congrArg some (by kernel_rfl))⟩
 f57 := ⟨Tryz.f206.name, by decide, Tryz.func206.trans (congrArg some (by kernel_rfl))⟩
 t0 := Tryz.underlying0
 a0 := Tryz.isAgg0
 z0 := Tryz.sizeOf0
 v0 := Tryz.zeroValue0
 t3 := Tryz.underlying3
 a3 := Tryz.isAgg3
 z3 := Tryz.sizeOf3
 v3 := Tryz.zeroValue3
 t4 := Tryz.underlying4
 a4 := Tryz.isAgg4
 z4 := Tryz.sizeOf4
 v4 := Tryz.zeroValue4
 t5 := Tryz.underlying5
 a5 := Tryz.isAgg5
 z5 := Tryz.sizeOf5
 v5 := Tryz.zeroValue5
 t9 := Tryz.underlying9
 a9 := Tryz.isAgg9
 z9 := Tryz.sizeOf9
 v9 := Tryz.zeroValue9
 t22 := Tryz.underlying92
 a22 := Tryz.isAgg92
 z22 := Tryz.sizeOf92
 v22 := Tryz.zeroValue92
 t25 := Tryz.underlying152
 a25 := Tryz.isAgg152
 z25 := Tryz.sizeOf152
 v25 := Tryz.zeroValue152
 t39 := Tryz.underlying167
 a39 := Tryz.isAgg167
 z39 := Tryz.sizeOf167
 v39 := Tryz.zeroValue167
 t45 := Tryz.underlying198
 a45 := Tryz.isAgg198
 z45 := Tryz.sizeOf198
 v45 := Tryz.zeroValue198
 t46 := Tryz.underlying199
 a46 := Tryz.isAgg199
 z46 := Tryz.sizeOf199
 v46 := Tryz.zeroValue199
 t50 := Tryz.underlying203
 a50 := Tryz.isAgg203
 z50 := Tryz.sizeOf203
 v50 := Tryz.zeroValue203
 t53 := Tryz.underlying166
 a53 := Tryz.isAgg166
 z53 := Tryz.sizeOf166
 v53 := Tryz.zeroValue166
 t55 := Tryz.underlying163
 a55 := Tryz.isAgg163
 z55 := Tryz.sizeOf163
 v55 := Tryz.zeroValue163
 t66 := Tryz.underlying223
 a66 := Tryz.isAgg223
 z66 := Tryz.sizeOf223
 v66 := Tryz.zeroValue223
 t70 := Tryz.underlying227
 a70 := Tryz.isAgg227
 z70 := Tryz.sizeOf227
 v70 := Tryz.zeroValue227
 t76 := Tryz.underlying233
 a76 := Tryz.isAgg233
 z76 := Tryz.sizeOf233
 v76 := Tryz.zeroValue233
 t77 := Tryz.underlying44
 a77 := Tryz.isAgg44
 z77 := Tryz.sizeOf44
 v77 := Tryz.zeroValue44 }
end Go.Proofs

/- slices.Compare of integers. -/
namespace Go.Proofs.YtolkchkedieppaaGreat
open Go.RowKit
attribute [local go_sem ↓] Go.wp_at_zero Go.wp_at_succ
def cmp3 (x y : Int) : Int := if x < y then -1 else if y < x then 1 else 0
theorem cmp_int (x y : Int) (w : World) : Calls Tryz.prog 133 #[.int .i64 x, .int .i64 y] w fun e w' => e = .returned (.int .i64 (cmp3 x y)) ∧ w = w' := by
 unfold cmp3
 by_cases h1 : x < y
 ·have d1 : decide (x < y) = true := by simpa using h1
  rw [if_pos h1]
  clear h1
  go_enter Tryz.func133, Tryz.ntmps133
  go_wp2
  go_ret
  exact ⟨rfl, rfl⟩
 ·have d1 : decide (x < y) = false := by simpa using h1
  rw [if_neg h1]
  clear h1
  by_cases h2 : y < x
  ·have d2 : decide (y < x) = true := by simpa using h2
   rw [if_pos h2]
   clear h2
   go_enter Tryz.func133, Tryz.ntmps133
   go_wp2
   go_ret
   exact ⟨rfl, rfl⟩
  ·have d2 : decide (y < x) = false := by simpa using h2
   rw [if_neg h2]
   clear h2
   go_enter Tryz.func133, Tryz.ntmps133
   go_wp2
   go_ret
   exact ⟨rfl, rfl⟩
/-- slices.Compare -/
def lexC (f g : Nat → Int) (n m : Nat) : Nat → Nat → Int
 | 0, _ => if n < m then -1 else 0
 | u + 1, k => if m ≤ k then 1 else if cmp3 (f k) (g k) = 0 then lexC f g n m u (k + 1) else cmp3 (f k) (g k)
set_option maxHeartbeats 2000000 in
set_option maxRecDepth 100000 in
theorem compare_ints (v1 v2 : Value) (n m : Nat) (f g : Nat → Int) (w : World) (h1 : Ints w v1 n f) (h2 : Ints w v2 m g) (hn : n ≤ 1048576) (hm : m ≤ 1048576) :
  Calls Tryz.prog 97 #[v1, v2] w fun e w' => e = .returned (.int .i64 (lexC f g n m n 0)) ∧ w = w' := by
 obtain ⟨a1, b1, o1, c1, rfl, s1⟩ := h1
 obtain ⟨a2, b2, o2, c2, rfl, s2⟩ := h2
 have S1 := Lib.hid s1
 have S2 := Lib.hid s2
 clear s1 s2
 go_enter Tryz.func97, Tryz.ntmps97
 go_wp2
 go_loopw [11] (fun v11 wr => ∃ k : Nat, k ≤ n ∧ v11 = .int .i64 (k : Nat) ∧ Hid (lexC f g n m n 0 = lexC f g n m (n - k) k) ∧ w = wr) (fun v11 _ => n - (intOf v11).toNat)
 case atStart => exact ⟨0, by omega, rfl, Lib.hid rfl, rfl⟩
 case round =>
  obtain ⟨k, hk, rfl, HX, rfl⟩ := hrel
  by_cases h : k < n
  ·have hstep : lexC f g n m (n - k) k = if m ≤ k then 1 else if cmp3 (f k) (g k) = 0 then lexC f g n m (n - (k + 1)) (k + 1) else cmp3 (f k) (g k) := by
    rw [show n - k = (n - (k + 1)) + 1 by omega]; rfl
   have ix1 := fun W => ixI S1.out k c1 h W
   have x1 := S1.out.cell k h
   simp only [ic] at x1
   by_cases hmk : m ≤ k
   ·rw [if_pos hmk] at hstep
    have HST := Lib.hid hstep
    have d1 : decide ((m : Int) ≤ (k : Int)) = true := by simpa using hmk
    have d1n : decide (m ≤ k) = true := by simpa using hmk
    clear hstep hmk
    go_wp2
    go_ret
    exact ⟨by rw [HX.out, HST.out]; rfl, rfl⟩
   ·rw [if_neg hmk] at hstep
    have h3 : k < m := by omega
    have d1 : decide ((m : Int) ≤ (k : Int)) = false := by simp; omega
    have d1n : decide (m ≤ k) = false := by simp; omega
    have ix2 := fun W => ixI S2.out k c2 h3 W
    have x2 := S2.out.cell k h3
    simp only [ic] at x2
    clear hmk
    by_cases h0 : cmp3 (f k) (g k) = 0
    ·rw [if_pos h0] at hstep
     have HST := Lib.hid hstep
     have H0 := Lib.hid h0
     clear hstep h0
     go_wp2_with (go_at_call 133; (with_reducible refine (cmp_int _ _ _).mono ?_); rintro e w1 ⟨rfl, rfl⟩; rw [H0.out])
     go_roundw
     case rel => exact ⟨k + 1, by omega, by go_num, Lib.hid (HX.out.trans HST.out), by first | rfl | trivial⟩
     case measure => simp [intOf]; omega
    ·rw [if_neg h0] at hstep
     have HST := Lib.hid hstep
     have d2 : (cmp3 (f k) (g k) != 0) = true := by simpa using h0
     clear hstep h0
     go_wp2_with (go_at_call 133; (with_reducible refine (cmp_int _ _ _).mono ?_); rintro e w1 ⟨rfl, rfl⟩)
     go_ret
     exact ⟨by rw [HX.out, HST.out]; rfl, rfl⟩
  ·obtain rfl : k = n := by omega
   by_cases h3 : k < m
   ·have d1 : decide ((k : Int) < (m : Int)) = true := by simpa using h3
    have d1n : decide (k < m) = true := by simpa using h3
    have HM3 := Lib.hid h3
    clear h3
    go_wp2
    go_ret
    refine ⟨?_, rfl⟩
    rw [HX.out, Nat.sub_self]
    simp only [lexC]
    rw [if_pos HM3.out]
    rfl
   ·have d1 : decide ((k : Int) < (m : Int)) = false := by simpa using h3
    have d1n : decide (k < m) = false := by simpa using h3
    have HM3 := Lib.hid h3
    clear h3
    go_wp2
    go_ret
    refine ⟨?_, rfl⟩
    rw [HX.out, Nat.sub_self]
    simp only [lexC]
    rw [if_neg HM3.out]
    rfl
end Go.Proofs.YtolkchkedieppaaGreat
