/- read of package hide at no square. -/
import Derived.Test.YtolkchkedieppaaGreatURdB
import Derived.BigQuiet
import Derived.Test.YtolkchkedieppaaGreatURdD
import Derived.Test.YtolkchkedieppaaGreatUMcA
import Derived.Test.YtolkchkedieppaaGreatUPlainCv
import Derived.BigRegion
import Derived.Test.YtolkchkedieppaaGreatUPlainCp
import Derived.Test.YtolkchkedieppaaGreatUNetB
import Derived.Deep.RegionHeld3
import Derived.Deep.DeepCutAuto
import Derived.Deep.CutBlock
import Derived.Test.YtolkchkedieppaaGreatURdA
import Derived.Test.YtolkchkedieppaaGreatURLay
import Derived.Maps.AppendAt
set_option linter.unusedVariables false
set_option linter.unusedSimpArgs false
namespace Go.Proofs.YtolkchkedieppaaGreat
open Go.RowKit
attribute [local go_sem ↓] Go.wp_at_zero Go.wp_at_succ
set_option maxHeartbeats 1000000 in
set_option maxRecDepth 100000 in
theorem sqclone_0 (va : Option Addr) (c0 : Nat) (w : World) :
  Calls Tryz.prog 102 #[.slice va 0 c0] w fun e w' => ∃ a c, e = .returned (.slice a 0 c) ∧ Below w.heap.size w w' := by
 obtain ⟨i0, hinf, hz0, hz1, hz2⟩ := info_parts infoSq
 have hnil : ∀ (W : World) (x : Option Addr) (n c : Nat), (binOp .eql 23 (.slice x n c) (.slice none 0 0)).run Tryz.prog W = .ok (.bool x.isNone) W := fun W x n c => Lib.run_eql_slice_nil W 23 47 x n c 0 0 Tryz.underlying23
 have KW := Lib.hid ((Below.refl w.heap.size w).alloc (Nat.le_refl _) (.cells #[] 47))
 have OW : Hid ((w.alloc (.cells #[] 47)).ownsRow w.heap.size 47 3 (.slice (some ⟨w.heap.size, 0, none⟩) 0 0) 0 []) := Lib.hid (World.ownsRow_made w #[] 0 (Nat.le_refl _) (by unfold maxLen; omega) rfl)
 rcases va with _ | ad
 ·go_enter Tryz.func102, Tryz.ntmps102
  go_wp2_with (at_builtin; refine wpList_append_own_none rfl (.tmp 5) (.tmp 6) 23 rfl w.heap.size 47 i0 3 Tryz.underlying23 hinf (.slice (some ⟨w.heap.size, 0, none⟩) 0 0) 0 [] rfl OW.out rfl ?_)
  go_ret
  first | exact ⟨_, _, rfl, KW.out⟩ | exact ⟨_, _, rfl, Below.refl _ _⟩
 ·go_enter Tryz.func102, Tryz.ntmps102
  go_wp2_with (at_builtin; refine wpList_append_own _ rfl (.tmp 5) (.tmp 6) 23 rfl w.heap.size 47 i0 _ 3 24 Tryz.underlying23 hinf hz0 hz1 hz2 rfl (by decide) (.slice (some ⟨w.heap.size, 0, none⟩) 0 0) 0 [] rfl OW.out ad 0 c0 [] rfl rfl (fun j u h => by simp at h) (fun u h => by simp at h) (by unfold maxLen; omega) (by omega) (by simp) ?_; intro v' w3 hown hgrow _; have KW := Lib.hid (KW.out.grown hgrow (by simp) (fun kk e => by cases e; exact Nat.le_refl _)); have HOWN := Lib.hid hown; clear hown hgrow)
  go_ret
  obtain ⟨a, c, rfl⟩ := own_shape HOWN.out
  exact ⟨⟨a, c, rfl⟩, KW.out⟩
set_option maxHeartbeats 2000000 in
set_option maxRecDepth 100000 in
theorem read_none (va : Option Addr) (c0 : Nat) (w : World) :
  Calls Tryz.prog 54 #[.slice va 0 c0] w fun e w' => e = .returned (.tuple #[.pointer none, .int .i64 2]) ∧ Below w.heap.size w w' := by
 go_enter Tryz.func54, Tryz.ntmps54
 go_wp2_with (go_at_call 102; (with_reducible refine (sqclone_0 va c0 _).mono ?_); rintro e w1 ⟨a1, c1, rfl, hb⟩; have KW := Lib.hid hb; clear hb)
 have KA := Lib.hid (KW.out.alloc KW.out.size (.cells #[.slice a1 0 c1, .int .i64 0, .int .i64 0] 100))
 have y1 : (w1.alloc (.cells #[.slice a1 0 c1, .int .i64 0, .int .i64 0] 100)).cell? ⟨w1.heap.size, 1, none⟩ = some (.int .i64 0) := by simp [go_sem]
 have y2 : (w1.alloc (.cells #[.slice a1 0 c1, .int .i64 0, .int .i64 0] 100)).cell? ⟨w1.heap.size, 2, none⟩ = some (.int .i64 0) := by simp [go_sem]
 obtain ⟨bp, hbp⟩ : ∃ bp, bp = w1.heap.size := ⟨_, rfl⟩
 rw [← hbp] at y1 y2 ⊢
 clear hbp
 generalize w1.alloc (.cells #[.slice a1 0 c1, .int .i64 0, .int .i64 0] 100) = w2 at KA y1 y2 ⊢
 go_loopw [5, 7, 21] (fun v5 v7 v21 wr => v21 = .int .i64 0 ∧ v5 = .int .i64 0 ∧ wr = w2) (fun _ _ _ _ => 0)
 case atStart => exact ⟨rfl, rfl, rfl⟩
 case round =>
  obtain ⟨rfl, rfl, rfl⟩ := hrel
  go_wp2
  go_loopw [8, 9, 11, 95] (fun v8 v9 v11 v95 wz => v95 = .int .i64 0 ∧ wz = wr) (fun _ _ _ _ _ => 0)
  case atStart => exact ⟨rfl, rfl⟩
  case round =>
   obtain ⟨rfl, rfl⟩ := hrel
   go_wp2
   try go_quiet (fail)
   all_goals (try go_wp2)
   all_goals go_ret2
   all_goals first | exact ⟨rfl, KA.out⟩ | exact ⟨rfl, KA.out.trans ((Drawn.of _ _).below _)⟩
end Go.Proofs.YtolkchkedieppaaGreat

/- read of package hide at whatever squares are no cut; Measure and Code of such. -/
namespace Go.Proofs.YtolkchkedieppaaGreat
open Go.RowKit
attribute [local go_sem ↓] Go.wp_at_zero Go.wp_at_succ
theorem first_of {P : Nat → Prop} : ∀ n, (∃ i, i < n ∧ P i) → ∃ i, i < n ∧ P i ∧ ∀ j, j < i → ¬ P j
 | 0, ⟨i, h, _⟩ => by omega
 | n + 1, h => by
  by_cases h1 : ∃ i, i < n ∧ P i
  ·obtain ⟨i, h2, h3⟩ := first_of n h1
   exact ⟨i, by omega, h3⟩
  ·obtain ⟨i, h2, h3⟩ := h
   have : i = n := by
    rcases Nat.lt_or_ge i n with q | q
    ·exact absurd ⟨i, q, h3⟩ h1
    ·omega
   subst this
   exact ⟨i, by omega, h3, fun j hj hp => h1 ⟨j, hj, hp⟩⟩
/-- why squares are no cut -/
def BadS (S : List Tr) (e : Int) : Prop :=
 (24 < S.length ∧ e = 3) ∨ (S.length ≤ 24 ∧ (∃ i, i < S.length ∧ ¬ RgT (S.getD i default)) ∧ e = 1) ∨ (S.length ≤ 24 ∧ (∀ i, i < S.length → RgT (S.getD i default)) ∧ ¬ CutOK S ∧ e = 2)
theorem cut_or_bad (S : List Tr) : CutOK S ∨ ∃ e, BadS S e := by
 by_cases h : CutOK S
 ·exact .inl h
 right
 by_cases h1 : 24 < S.length
 ·exact ⟨3, .inl ⟨h1, rfl⟩⟩
 by_cases h2 : ∃ i, i < S.length ∧ ¬ RgT (S.getD i default)
 ·exact ⟨1, .inr (.inl ⟨by omega, h2, rfl⟩)⟩
 ·refine ⟨2, .inr (.inr ⟨by omega, fun i hi => ?_, h, rfl⟩)⟩
  by_cases h3 : RgT (S.getD i default)
  ·exact h3
  ·exact absurd ⟨i, hi, h3⟩ h2
theorem BadS.ne {S : List Tr} {e : Int} (h : BadS S e) : e ≠ 0 := by
 rcases h with ⟨_, rfl⟩ | ⟨_, _, rfl⟩ | ⟨_, _, _, rfl⟩ <;> decide
theorem read_bad {B : Nat} (va : Option Addr) (vk : Nat) (S : List Tr) (w : World) (e : Int) (ho : w.ownsRow B 47 3 (.slice va S.length vk) S.length (trL S)) (hb : BadS S e) :
  Calls Tryz.prog 54 #[.slice va S.length vk] w fun en w' => en = .returned (.tuple #[.pointer none, .int .i64 e]) ∧ Below w.heap.size w w' := by
 by_cases h0 : 0 < S.length
 ·obtain ⟨g, c, hv, _, h2, h3, h4⟩ := (ows_of ho h0).ex
  injection hv with e1 e2 e3
  subst e1; subst e3
  rcases hb with ⟨h, rfl⟩ | ⟨h, hx, rfl⟩ | ⟨h, hr, hn, rfl⟩
  ·refine (read_long _ _ _ w h).mono ?_
   rintro en w' ⟨rfl, rfl⟩
   exact ⟨rfl, Below.refl _ _⟩
  ·obtain ⟨i, hi, hbad, hok⟩ := first_of _ hx
   exact read_arg g vk S w h4 h2 h3 h i hi (fun j hj => Classical.byContradiction (hok j hj)) hbad
  ·by_cases hp : ∃ i, i < S.length ∧ ∃ j, j < i ∧ ¬ ApT (S.getD i default) (S.getD j default)
   ·obtain ⟨i, hi, hj, hmin⟩ := first_of _ hp
    obtain ⟨j, hji, hna, hjm⟩ := first_of _ hj
    exact read_pair g vk S w h4 h2 h3 h0 h hr i j hji hi (fun a b hba hai => Classical.byContradiction (fun q => hmin a hai ⟨b, hba, q⟩)) (fun b hb => Classical.byContradiction (hjm b hb)) hna
   ·have hap : ∀ i j, j < i → i < S.length → ApT (S.getD i default) (S.getD j default) := fun i j hji hi => Classical.byContradiction (fun q => hp ⟨i, hi, j, hji, q⟩)
    exact read_area g vk S w h4 h2 h3 h0 h hr hap (fun har => hn ⟨h0, h, hr, hap, har⟩)
 ·have hz : S.length = 0 := by omega
  rcases hb with ⟨h, rfl⟩ | ⟨h, ⟨i, hi, _⟩, rfl⟩ | ⟨h, hr, hn, rfl⟩
  ·omega
  ·omega
  ·rw [hz]; exact read_none va vk w
end Go.Proofs.YtolkchkedieppaaGreat

/- Check, Covers, in, apart of the reference of hide. -/
namespace Go.Proofs.YtolkchkedieppaaGreat
open Go.RowKit
attribute [local go_sem ↓] Go.wp_at_zero Go.wp_at_succ
set_option maxHeartbeats 1000000 in
set_option maxRecDepth 100000 in
theorem rin_any (x a b : Int) (r : Bool) (hr : r = true ↔ a ≤ x ∧ x ≤ b) (w : World) :
  Calls Tryz.prog 59 #[.int .i64 x, .int .i64 a, .int .i64 b] w fun e w' => e = .returned (.bool r) ∧ w = w' := by
 by_cases h1 : a ≤ x
 ·have d1 : decide (a ≤ x) = true := by simpa using h1
  by_cases h2 : x ≤ b
  ·have d2 : decide (x ≤ b) = true := by simpa using h2
   obtain rfl : r = true := hr.2 ⟨h1, h2⟩
   clear hr h1 h2
   go_enter Tryz.func59, Tryz.ntmps59
   go_wp2
   go_ret
   exact ⟨rfl, rfl⟩
  ·have d2 : decide (x ≤ b) = false := by simpa using h2
   obtain rfl : r = false := by
    rcases r with _ | _
    ·rfl
    ·exact absurd (hr.1 rfl).2 h2
   clear hr h1 h2
   go_enter Tryz.func59, Tryz.ntmps59
   go_wp2
   go_ret
   exact ⟨rfl, rfl⟩
 ·have d1 : decide (a ≤ x) = false := by simpa using h1
  obtain rfl : r = false := by
   rcases r with _ | _
   ·rfl
   ·exact absurd (hr.1 rfl).1 h1
  clear hr h1
  go_enter Tryz.func59, Tryz.ntmps59
  go_wp2
  go_ret
  exact ⟨rfl, rfl⟩
set_option maxHeartbeats 2000000 in
set_option maxRecDepth 100000 in
theorem rapart_any (p q : Tr) (r : Bool) (hr : r = true ↔ ApT p q) (w : World) (hp : RgT p) (hq : RgT q) :
  Calls Tryz.prog 108 #[.agg #[.int .i64 p.a, .int .i64 p.b, .int .i64 p.c], .agg #[.int .i64 q.a, .int .i64 q.b, .int .i64 q.c]] w fun e w' => e = .returned (.bool r) ∧ Below w.heap.size w w' := by
 have := hp.a0; have := hp.b0; have := hp.c0; have := hp.c1; have := hp.a1; have := hp.b1
 have := hq.a0; have := hq.b0; have := hq.c0; have := hq.c1; have := hq.a1; have := hq.b1
 have w1 : IntKind.i64.wrap (p.a + p.c) = p.a + p.c := by rw [IntKind.wrap_i64]; omega
 have w2 : IntKind.i64.wrap (q.a + q.c) = q.a + q.c := by rw [IntKind.wrap_i64]; omega
 have w3 : IntKind.i64.wrap (p.b + p.c) = p.b + p.c := by rw [IntKind.wrap_i64]; omega
 have w4 : IntKind.i64.wrap (q.b + q.c) = q.b + q.c := by rw [IntKind.wrap_i64]; omega
 have KW := Lib.hid (((Below.refl w.heap.size w).alloc (Nat.le_refl _) (.cells #[.int .i64 p.a, .int .i64 p.b, .int .i64 p.c] 47)).alloc (by simp) (.cells #[.int .i64 q.a, .int .i64 q.b, .int .i64 q.c] 47))
 by_cases c1 : p.a + p.c ≤ q.a
 ·have d1 : decide (p.a + p.c ≤ q.a) = true := by simpa using c1
  have HR : Hid (r = true) := Lib.hid (hr.2 (.inl c1))
  go_enter Tryz.func108, Tryz.ntmps108
  go_wp2
  go_ret
  exact ⟨by rw [HR.out]; rfl, KW.out⟩
 ·have d1 : decide (p.a + p.c ≤ q.a) = false := by simpa using c1
  by_cases c2 : q.a + q.c ≤ p.a
  ·have d2 : decide (q.a + q.c ≤ p.a) = true := by simpa using c2
   have HR : Hid (r = true) := Lib.hid (hr.2 (.inr (.inl c2)))
   go_enter Tryz.func108, Tryz.ntmps108
   go_wp2
   go_ret
   exact ⟨by rw [HR.out]; rfl, KW.out⟩
  ·have d2 : decide (q.a + q.c ≤ p.a) = false := by simpa using c2
   by_cases c3 : p.b + p.c ≤ q.b
   ·have d3 : decide (p.b + p.c ≤ q.b) = true := by simpa using c3
    have HR : Hid (r = true) := Lib.hid (hr.2 (.inr (.inr (.inl c3))))
    go_enter Tryz.func108, Tryz.ntmps108
    go_wp2
    go_ret
    exact ⟨by rw [HR.out]; rfl, KW.out⟩
   ·have d3 : decide (p.b + p.c ≤ q.b) = false := by simpa using c3
    by_cases c4 : q.b + q.c ≤ p.b
    ·have d4 : decide (q.b + q.c ≤ p.b) = true := by simpa using c4
     have HR : Hid (r = true) := Lib.hid (hr.2 (.inr (.inr (.inr c4))))
     go_enter Tryz.func108, Tryz.ntmps108
     go_wp2
     go_ret
     exact ⟨by rw [HR.out]; rfl, KW.out⟩
    ·have d4 : decide (q.b + q.c ≤ p.b) = false := by simpa using c4
     have HR : Hid (r = false) := Lib.hid (by
      rcases e : r with _ | _
      ·rfl
      ·rcases hr.1 e with q | q | q | q <;> contradiction)
     go_enter Tryz.func108, Tryz.ntmps108
     go_wp2
     go_ret
     exact ⟨by rw [HR.out]; rfl, KW.out⟩
end Go.Proofs.YtolkchkedieppaaGreat

/- Covers of the reference of hide at any corner. (Printed by gen_rcvo.py out of Rcv.) -/
namespace Go.Proofs.YtolkchkedieppaaGreat
open Go.RowKit
attribute [local go_sem ↓] Go.wp_at_zero Go.wp_at_succ
set_option maxHeartbeats 8000000 in
set_option maxRecDepth 100000 in
theorem rcovers_off (v : Value) (S : List Tr) (x y : Int) (r : Bool) (w : World) (hv : SqV w v S) (hn : S.length ≤ 24) (hrg : ∀ i, i < S.length → RgT (S.getD i default)) (hx0 : 0 ≤ x) (hy0 : 0 ≤ y) (hxl : ∀ i, i < S.length → x ≤ (S.getD i default).a) (hyl : ∀ i, i < S.length → y ≤ (S.getD i default).b)
  (hr : r = true ↔ (∀ i j, j < i → i < S.length → ApT (S.getD i default) (S.getD j default)) ∧ arT (S.map (shT x y)) S.length = wdT (S.map (shT x y)) S.length * htT (S.map (shT x y)) S.length) :
  Calls Tryz.prog 60 #[v, .int .i64 x, .int .i64 y] w fun e w' => e = .returned (.bool r) ∧ Below w.heap.size w w' := by
 obtain ⟨a1, c1, rfl, k1⟩ := hv.ex
 have K1 := Lib.hid k1
 clear hv k1
 obtain ⟨n, hN⟩ : ∃ n, n = S.length := ⟨_, rfl⟩
 obtain ⟨SS, hSS⟩ : ∃ SS, SS = S.map (shT x y) := ⟨_, rfl⟩
 rw [← hSS] at hr
 have hget : ∀ i, i < S.length → SS.getD i default = shT x y (S.getD i default) := fun i hi => by rw [hSS]; simp [hi]
 have hrgs : ∀ i, i < S.length → RgT (SS.getD i default) := fun i hi => by
  rw [hget i hi]
  have r := hrg i hi
  have := r.a1; have := r.b1; have := hxl i hi; have := hyl i hi
  exact ⟨by simp only [shT]; omega, by simp only [shT]; omega, r.c0, r.c1, by simp only [shT]; omega, by simp only [shT]; omega⟩
 rw [← hN] at K1 hn hr hrg hrgs hget hxl hyl ⊢
 have HGET := Lib.hid hget
 have HRGS := Lib.hid hrgs
 have HXL := Lib.hid hxl
 have HYL := Lib.hid hyl
 have HN := Lib.hid hN
 have HR := Lib.hid hr
 have HRG := Lib.hid hrg
 clear hN hr hrg hget hrgs hxl hyl hSS
 go_enter Tryz.func60, Tryz.ntmps60
 go_wp2
 have KB0 := Lib.hid (Below.refl w.heap.size w)
 have AP0 : Hid (∀ i j, j < i → i < 0 → ApT (S.getD i default) (S.getD j default)) := Lib.hid (fun i j _ h => by omega)
 go_loopw [7, 8, 9, 10, 11] (fun v7 v8 v9 v10 v11 wr => ∃ i : Nat, i ≤ n ∧ v10 = .int .i64 (i : Nat) ∧ v7 = .int .i64 (wdT SS i) ∧ v8 = .int .i64 (htT SS i) ∧ v9 = .int .i64 (arT SS i) ∧ Hid (∀ i' j', j' < i' → i' < i → ApT (S.getD i' default) (S.getD j' default)) ∧ Hid (Below w.heap.size w wr)) (fun _ _ _ v10 _ _ => n - (intOf v10).toNat)
 case atStart => exact ⟨0, by omega, rfl, rfl, rfl, rfl, AP0, KB0⟩
 case round =>
  clear AP0 KB0
  obtain ⟨i, hi, rfl, rfl, rfl, rfl, AP, KB⟩ := hrel
  by_cases h : i < n
  ·have e1 : decide ((i : Int) < (n : Int)) = true := by simpa using h
   have e1n : decide (i < n) = true := by simpa using h
   obtain ⟨g1, o1, rfl, r1, l1⟩ := K1.out (by omega)
   have TR := Lib.hid r1
   have HLT := Lib.hid l1
   have ixi := fun X => ixSqo g1 o1 n c1 i h X
   have hmb := meas_boundN HRGS.out i hi
   have hrp := HRG.out i h
   obtain ⟨p, hp⟩ : ∃ p, p = S.getD i default := ⟨_, rfl⟩
   rw [← hp] at hrp
   have HP := Lib.hid hp
   have HRP := Lib.hid hrp
   have P3 : Hid (∀ wx, Below w.heap.size w wx → wx.cell? ⟨g1, o1 + i * 3, none⟩ = some (.int .i64 p.a) ∧ wx.cell? ⟨g1, o1 + i * 3 + 1, none⟩ = some (.int .i64 p.b) ∧ wx.cell? ⟨g1, o1 + i * 3 + 2, none⟩ = some (.int .i64 p.c)) := Lib.hid (fun wx hb => by
    have T := TR.out.below hb HLT.out
    have hi2 : i < S.length := by have := HN.out; omega
    rw [hp]; exact ⟨T.c0 i hi2, T.c1 i hi2, T.c2 i hi2⟩)
   have hWn : wdT SS (i + 1) = (if wdT SS i < p.a + p.c - x then p.a + p.c - x else wdT SS i) := by
    have e : (SS.getD i default).a + (SS.getD i default).c = p.a + p.c - x := by rw [HGET.out i h, ← hp]; simp only [shT]; omega
    simp only [wdT, e]
   have hHn : htT SS (i + 1) = (if htT SS i < p.b + p.c - y then p.b + p.c - y else htT SS i) := by
    have e : (SS.getD i default).b + (SS.getD i default).c = p.b + p.c - y := by rw [HGET.out i h, ← hp]; simp only [shT]; omega
    simp only [htT, e]
   have hAn : arT SS (i + 1) = arT SS i + p.c * p.c := by
    have e : (SS.getD i default).c = p.c := by rw [HGET.out i h, ← hp]; rfl
    simp only [arT, e]
   have hpx := HXL.out i h
   have hpy := HYL.out i h
   rw [← hp] at hpx hpy
   clear hp r1 l1
   obtain ⟨Wi, hWi⟩ : ∃ W, W = wdT SS i := ⟨_, rfl⟩
   obtain ⟨Hi, hHi⟩ : ∃ H, H = htT SS i := ⟨_, rfl⟩
   obtain ⟨Ai, hAi⟩ : ∃ A, A = arT SS i := ⟨_, rfl⟩
   rw [← hWi] at hWn hmb ⊢
   rw [← hHi] at hHn hmb ⊢
   rw [← hAi] at hAn hmb ⊢
   clear hWi hHi hAi
   have HWn := Lib.hid hWn
   have HHn := Lib.hid hHn
   have HAn := Lib.hid hAn
   have HMB := Lib.hid hmb
   clear hWn hHn hAn hmb hrp
   have IN0 : Hid (∀ j', j' < 0 → ApT p (S.getD j' default)) := Lib.hid (fun j' h => by omega)
   clear e1 e1n
   go_upto_block 2 with (fail)
   go_wp2
   go_loopw [11] (fun v11 wi => ∃ j : Nat, j ≤ i ∧ v11 = .int .i64 (j : Nat) ∧ Hid (∀ j', j' < j → ApT p (S.getD j' default)) ∧ Hid (Below w.heap.size w wi)) (fun v11 _ => i - (intOf v11).toNat)
   case atStart => exact ⟨0, by omega, rfl, IN0, KB⟩
   case round =>
    clear IN0 KB
    obtain ⟨j, hj, rfl, IN, KB⟩ := hrel
    by_cases h2 : j < i
    ·have e3 : decide ((j : Int) < (i : Int)) = true := by simpa using h2
     have e3n : decide (j < i) = true := by simpa using h2
     have ixj := fun X => ixSqo g1 o1 n c1 j (by omega) X
     have hrq := HRG.out j (by omega)
     obtain ⟨q, hq⟩ : ∃ q, q = S.getD j default := ⟨_, rfl⟩
     rw [← hq] at hrq
     have HRQ := Lib.hid hrq
     have Q3 : Hid (∀ wx, Below w.heap.size w wx → wx.cell? ⟨g1, o1 + j * 3, none⟩ = some (.int .i64 q.a) ∧ wx.cell? ⟨g1, o1 + j * 3 + 1, none⟩ = some (.int .i64 q.b) ∧ wx.cell? ⟨g1, o1 + j * 3 + 2, none⟩ = some (.int .i64 q.c)) := Lib.hid (fun wx hb => by
      have T := TR.out.below hb HLT.out
      have hj2 : j < S.length := by have := HN.out; omega
      rw [hq]; exact ⟨T.c0 j hj2, T.c1 j hj2, T.c2 j hj2⟩)
     have KEEP : Hid (∀ w', Below wr.heap.size wr w' → (w'.cell? ⟨g1, o1 + i * 3, none⟩ = some (.int .i64 p.a) ∧ w'.cell? ⟨g1, o1 + i * 3 + 1, none⟩ = some (.int .i64 p.b) ∧ w'.cell? ⟨g1, o1 + i * 3 + 2, none⟩ = some (.int .i64 p.c) ∧ w'.cell? ⟨g1, o1 + j * 3, none⟩ = some (.int .i64 q.a) ∧ w'.cell? ⟨g1, o1 + j * 3 + 1, none⟩ = some (.int .i64 q.b) ∧ w'.cell? ⟨g1, o1 + j * 3 + 2, none⟩ = some (.int .i64 q.c))) := Lib.hid (fun w' hb => by
      obtain ⟨y0, y1, y2⟩ := P3.out w' (KB.out.trans (hb.mono KB.out.size))
      obtain ⟨z0, z1, z2⟩ := Q3.out w' (KB.out.trans (hb.mono KB.out.size))
      exact ⟨y0, y1, y2, z0, z1, z2⟩)
     have VL0 := Lib.hid (Below.refl wr.heap.size wr).drew
     have HQ := Lib.hid hq
     clear hq hrq
     by_cases hap : ApT p q
     ·have HA := Lib.hid hap
      have IN2 : Hid (∀ j', j' < j + 1 → ApT p (S.getD j' default)) := Lib.hid (ext_lt2 (n := j) IN.out (by rw [← HQ.out]; exact hap))
      clear hap
      go_wp2
      go_region_held3 (fun w' => w'.cell? ⟨g1, o1 + i * 3, none⟩ = some (.int .i64 p.a) ∧ w'.cell? ⟨g1, o1 + i * 3 + 1, none⟩ = some (.int .i64 p.b) ∧ w'.cell? ⟨g1, o1 + i * 3 + 2, none⟩ = some (.int .i64 p.c) ∧ w'.cell? ⟨g1, o1 + j * 3, none⟩ = some (.int .i64 q.a) ∧ w'.cell? ⟨g1, o1 + j * 3 + 1, none⟩ = some (.int .i64 q.b) ∧ w'.cell? ⟨g1, o1 + j * 3 + 2, none⟩ = some (.int .i64 q.c))
       (first | (with_reducible exact KEEP.out _ VL0.out) | (with_reducible exact KEEP.out _ VL1.out))
       (first
       | (go_at_call 108; (with_reducible refine (rapart_any p q true ⟨fun _ => HA.out, fun _ => rfl⟩ _ HRP.out HRQ.out).mono ?_); rintro e wx ⟨rfl, hbx⟩; have VL1 := Lib.hid (VL0.out.trans (hbx.mono VL0.out.size)); clear hbx))
      all_goals
       go_wp2
       go_roundw
       case rel => exact ⟨j + 1, by omega, by go_num, IN2, Lib.hid (KB.out.trans (VL1.out.mono KB.out.size))⟩
       case measure => simp [intOf]; omega
     ·have HA := Lib.hid hap
      have HRF : Hid (r = false) := Lib.hid (by
       rcases r with _ | _
       ·rfl
       ·exact absurd (by have := (HR.out.1 rfl).1 i j h2 h; rw [← HP.out, ← HQ.out] at this; exact this) hap)
      clear hap
      go_wp2
      go_region_held3 (fun w' => w'.cell? ⟨g1, o1 + i * 3, none⟩ = some (.int .i64 p.a) ∧ w'.cell? ⟨g1, o1 + i * 3 + 1, none⟩ = some (.int .i64 p.b) ∧ w'.cell? ⟨g1, o1 + i * 3 + 2, none⟩ = some (.int .i64 p.c) ∧ w'.cell? ⟨g1, o1 + j * 3, none⟩ = some (.int .i64 q.a) ∧ w'.cell? ⟨g1, o1 + j * 3 + 1, none⟩ = some (.int .i64 q.b) ∧ w'.cell? ⟨g1, o1 + j * 3 + 2, none⟩ = some (.int .i64 q.c))
       (first | (with_reducible exact KEEP.out _ VL0.out) | (with_reducible exact KEEP.out _ VL1.out))
       (first
       | (go_at_call 108; (with_reducible refine (rapart_any p q false ⟨fun h => Bool.noConfusion h, fun h => absurd h HA.out⟩ _ HRP.out HRQ.out).mono ?_); rintro e wx ⟨rfl, hbx⟩; have VL1 := Lib.hid (VL0.out.trans (hbx.mono VL0.out.size)); clear hbx))
      all_goals
       go_wp2
       go_ret
       exact ⟨by rw [HRF.out]; rfl, KB.out.trans (VL1.out.mono KB.out.size)⟩
    ·obtain rfl : j = i := by omega
     have e3 : decide ((j : Int) < (j : Int)) = false := by simp
     have AP2 : Hid (∀ i' j', j' < i' → i' < j + 1 → ApT (S.getD i' default) (S.getD j' default)) := Lib.hid (fun i' j' h1 h3 => by
      by_cases e : i' = j
      ·subst e; rw [← HP.out]; exact IN.out j' h1
      ·exact AP.out i' j' h1 (by omega))
     obtain ⟨x0, x1, x2⟩ := P3.out wr KB.out
     have hrp := HRP.out
     have hsq := hrp.sq
     have hmb := HMB.out
     have q0 := hrp.a0; have q1 := hrp.b0; have q2 := hrp.c0; have q3 := hrp.c1; have q4 := hrp.a1; have q5 := hrp.b1
     have d1 : decide (p.a < x) = false := by simp; omega
     have d2 : decide (p.b < y) = false := by simp; omega
     have w6 : IntKind.i64.wrap (p.a + p.c) = p.a + p.c := by rw [IntKind.wrap_i64]; omega
     have w7 : IntKind.i64.wrap (p.b + p.c) = p.b + p.c := by rw [IntKind.wrap_i64]; omega
     have w6x : IntKind.i64.wrap (p.a + p.c - x) = p.a + p.c - x := by rw [IntKind.wrap_i64]; omega
     have w7x : IntKind.i64.wrap (p.b + p.c - y) = p.b + p.c - y := by rw [IntKind.wrap_i64]; omega
     have w8 : IntKind.i64.wrap (p.c * p.c) = p.c * p.c := by rw [IntKind.wrap_i64]; omega
     have w9 : IntKind.i64.wrap (Ai + p.c * p.c) = Ai + p.c * p.c := by rw [IntKind.wrap_i64]; omega
     have hW : (if Wi < p.a + p.c - x then p.a + p.c - x else Wi) = wdT SS (j + 1) := HWn.out.symm
     have hH : (if Hi < p.b + p.c - y then p.b + p.c - y else Hi) = htT SS (j + 1) := HHn.out.symm
     have hWm : max Wi (p.a + p.c - x) = wdT SS (j + 1) := by rw [← hW]; split <;> omega
     have hHm : max Hi (p.b + p.c - y) = htT SS (j + 1) := by rw [← hH]; split <;> omega
     clear hrp hsq hmb q0 q1 q2 q3 q4 q5
     go_upto_region 12 with (fail)
     go_quiet (fail)
     go_wp2
     go_roundw
     case rel => exact ⟨j + 1, by omega, by go_num, rfl, rfl, by rw [HAn.out], AP2, Lib.hid (KB.out.trans ((Drawn.of _ _).below _))⟩
     case measure => simp [intOf]; omega
  ·obtain rfl : i = n := by omega
   have e1 : decide ((i : Int) < (i : Int)) = false := by simp
   have hmb := meas_boundN HRGS.out i (Nat.le_refl _)
   have hr := HR.out
   obtain ⟨A, hA⟩ : ∃ A, A = arT SS i := ⟨_, rfl⟩
   obtain ⟨W, hW⟩ : ∃ W, W = wdT SS i := ⟨_, rfl⟩
   obtain ⟨H, hH⟩ : ∃ H, H = htT SS i := ⟨_, rfl⟩
   rw [← hA, ← hW, ← hH] at hr
   rw [← hA, ← hW, ← hH] at hmb ⊢
   have hwh : 0 ≤ W * H ∧ W * H ≤ 1000000 := by
    have g1 := Int.mul_nonneg hmb.1 hmb.2.2.1
    have g2 := Int.mul_le_mul hmb.2.1 hmb.2.2.2.1 hmb.2.2.1 (by omega)
    omega
   have w1 : IntKind.i64.wrap (W * H) = W * H := by rw [IntKind.wrap_i64]; omega
   have AP2 : ∀ i' j', j' < i' → i' < i → ApT (S.getD i' default) (S.getD j' default) := AP.out
   clear hA hW hH
   by_cases har : A = W * H
   ·have d1 : (A == W * H) = true := by simpa using har
    have HRT : Hid (r = true) := Lib.hid (hr.2 ⟨AP2, har⟩)
    clear har hr AP2 hmb hwh
    go_wp2
    go_ret
    exact ⟨by rw [HRT.out]; rfl, KB.out⟩
   ·have d1 : (A == W * H) = false := by simpa using har
    have HRT : Hid (r = false) := Lib.hid (by
     rcases r with _ | _
     ·rfl
     ·exact absurd (hr.1 rfl).2 har)
    clear har hr AP2 hmb hwh
    go_wp2
    go_ret
    exact ⟨by rw [HRT.out]; rfl, KB.out⟩
end Go.Proofs.YtolkchkedieppaaGreat

/- two rows gathered side by side by append, in regions that draw. -/
namespace Go.Proofs.YtolkchkedieppaaGreat
open Go.RowKit
/-- append at a step of a region that draws, and where the row then lies -/
theorem step_append_own_at {P : Program} {w : World} {ops : Array Oper} {o : Oper} {a : Act} {K : Act → World → Prop} {Q : Exit → Act → World → Prop} {E : Prop} (hgd : o.guard = none) (s x : Operand) (t : TypeId)
  (ho : o.op = .call { callee := .builtin .append, args := #[s, x], argTypes := #[t, t] })
  (base : Nat) (e : TypeId) (i : TypeInfo) (z : Value) (size bytes : Nat) (ht : P.underlying t = some (.slice e)) (hi : P.info? e = some i) (hz : i.zero = some z)
  (hsize : i.size = size) (hby : i.bytes = bytes) (hzs : z.cells.size = size) (hsz : 0 < size)
  (v : Value) (n : Nat) (xs : List Value) (hs : a.eval s = v) (hown : w.ownsRow base e size v n xs)
  (ad : Addr) (m c : Nat) (news : List Value) (hx : a.eval x = .slice (some ad) m c) (hl : news.length = m * size) (hnews : ∀ j u, news[j]? = some u → w.cell? (ad.add j) = some u) (h1 : ∀ u ∈ news, u.oneCell' = true)
  (h63 : n + m ≤ maxLen) (hbytes : (n + m) * bytes ≤ 140737488355328) (hbase : base ≤ w.heap.size)
  (h : ∀ v' w', w'.ownsRow base e size v' (n + m) (xs ++ news) → w.grownBy w' v.ownBlock → (v'.ownBlock = v.ownBlock ∨ v'.ownBlock = some w.heap.size) → K (a.put o.dst v') w') :
  if Region.wanted o (yielded ops a.tmps) = true then Oper.wp P o a w K Q else E := by
 have hw : Region.wanted o (yielded ops a.tmps) = true := by simp [Region.wanted, hgd]
 rw [if_pos hw]
 obtain ⟨v', w', hr, h2, h3, h4, h5⟩ := run_append_own_at (P := P) w base t o.type e i z size bytes ht hi hz hsize hby hzs hsz v n xs hown ad m c news hl hnews h1 h63 hbytes hbase
 unfold Oper.wp execOp
 simp only [ho, resolve, invoke, builtin, Sem.run_bind, Sem.run_pure, Result.andThen_ok, List.map_toArray, List.map_cons, List.map_nil, hs, hx, hr]
 exact h v' w' h2 h3 h5
/-- new cells at the head of a block -/
structure Bx (w : World) (b : Nat) (us : List Value) : Prop where
 c : ∀ j u, us[j]? = some u → w.cell? ((⟨b, 0, none⟩ : Addr).add j) = some u
 lt : b < w.heap.size
theorem Bx.below {w w' : World} {b : Nat} {us : List Value} (h : Bx w b us) (hb : Below w.heap.size w w') : Bx w' b us :=
 ⟨fun j u hj => by
  have := h.c j u hj
  rw [add_at] at this ⊢
  exact (hb.cell (p := ⟨b, 0 + j, none⟩) h.lt).trans this, Nat.lt_of_lt_of_le h.lt hb.size⟩
theorem Bx.grown {w w' : World} {b : Nat} {us : List Value} {row : Option Nat} (h : Bx w b us) (hg : w.grownBy w' row) (hne : some b ≠ row) : Bx w' b us :=
 ⟨fun j u hj => by
  have := h.c j u hj
  rw [add_at] at this ⊢
  exact (World.cell?_of_block (hg.block b h.lt hne)).trans this, Nat.lt_of_lt_of_le h.lt hg.size⟩
theorem Bx.new1 (w : World) (x : Value) (t : TypeId) : Bx (w.alloc (.cells #[x] t)) w.heap.size [x] := ⟨cell_one_new w x t, by simp⟩
theorem Bx.new3 (w : World) (x y z : Int) (t : TypeId) : Bx (w.alloc (.cells #[.int .i64 x, .int .i64 y, .int .i64 z] t)) w.heap.size [.int .i64 x, .int .i64 y, .int .i64 z] :=
 ⟨fun j u hj => by rw [add_at, Nat.zero_add]; simp [go_sem]; exact hj, by simp⟩
/-- two rows of one's own, in blocks of their own -/
structure TwM (w wx : World) (t1 t2 s1 s2 : Nat) (v1 v2 : Value) (n1 n2 : Nat) (xs ys : List Value) : Prop where
 o1 : wx.ownsRow w.heap.size t1 s1 v1 n1 xs
 o2 : wx.ownsRow w.heap.size t2 s2 v2 n2 ys
 ne : ∀ g, v1.ownBlock = some g → v2.ownBlock ≠ some g
 kb : Below w.heap.size w wx
theorem TwM.below {w wx wy : World} {t1 t2 s1 s2 n1 n2 : Nat} {v1 v2 : Value} {xs ys : List Value} (h : TwM w wx t1 t2 s1 s2 v1 v2 n1 n2 xs ys) (hb : Below wx.heap.size wx wy) : TwM w wy t1 t2 s1 s2 v1 v2 n1 n2 xs ys :=
 ⟨own_kept h.o1 hb, own_kept h.o2 hb, h.ne, h.kb.trans (hb.mono h.kb.size)⟩
theorem TwM.push1 {w wx wy : World} {t1 t2 s1 s2 n1 n2 m : Nat} {v1 v1' v2 : Value} {xs xs' ys : List Value} (h : TwM w wx t1 t2 s1 s2 v1 v2 n1 n2 xs ys) (ho : wy.ownsRow w.heap.size t1 s1 v1' m xs') (hg : wx.grownBy wy v1.ownBlock) (hat : v1'.ownBlock = v1.ownBlock ∨ v1'.ownBlock = some wx.heap.size) : TwM w wy t1 t2 s1 s2 v1' v2 m n2 xs' ys := by
 refine ⟨ho, h.o2.kept hg ?_, fun g e => ?_, h.kb.grown hg h.kb.size (fun kk e => (h.o1.lt kk e).1)⟩
 ·rcases e : v2.ownBlock with _ | g
  ·exact .inl rfl
  ·exact .inr (fun q => h.ne g q.symm e)
 ·rcases hat with q | q
  ·exact h.ne g (q.symm.trans e)
  ·intro k
   rw [q] at e
   have := (h.o2.lt g k).2
   have := Option.some.inj e
   omega
theorem TwM.push2 {w wx wy : World} {t1 t2 s1 s2 n1 n2 m : Nat} {v1 v2 v2' : Value} {xs ys ys' : List Value} (h : TwM w wx t1 t2 s1 s2 v1 v2 n1 n2 xs ys) (ho : wy.ownsRow w.heap.size t2 s2 v2' m ys') (hg : wx.grownBy wy v2.ownBlock) (hat : v2'.ownBlock = v2.ownBlock ∨ v2'.ownBlock = some wx.heap.size) : TwM w wy t1 t2 s1 s2 v1 v2' n1 m xs ys' := by
 refine ⟨h.o1.kept hg ?_, ho, fun g e => ?_, h.kb.grown hg h.kb.size (fun kk e => (h.o2.lt kk e).1)⟩
 ·rcases e : v1.ownBlock with _ | g
  ·exact .inl rfl
  ·exact .inr (fun q => h.ne g e q.symm)
 ·rcases hat with q | q
  ·rw [q]; exact h.ne g e
  ·rw [q]
   intro k
   have := (h.o1.lt g e).2
   have := Option.some.inj k
   omega
end Go.Proofs.YtolkchkedieppaaGreat

/- bits of a number as the walk meets them. -/
namespace Go.Proofs.YtolkchkedieppaaGreat
open Go.RowKit
theorem bit_of (s i : Nat) : (bits .and .i64 ((s : Int) / 2 ^ i) 1 == 1) = s.testBit i := by
 have hdiv : (s : Int) / 2 ^ i = ((s / 2 ^ i : Nat) : Int) := by simp
 rw [i64_and1, hdiv, Nat.testBit_eq_decide_div_mod_eq]
 by_cases h : s / 2 ^ i % 2 = 1
 ·rw [decide_eq_true h]
  have : (((s / 2 ^ i : Nat) : Int) % 2) = 1 := by omega
  rw [this]; rfl
 ·rw [decide_eq_false h]
  have : (((s / 2 ^ i : Nat) : Int) % 2) = 0 := by omega
  rw [this]; rfl
theorem wrap_pow (n : Nat) (h : 2 ^ n ≤ 1048576) : wrap64 (2 ^ n) = ((2 ^ n : Nat) : Int) := by
 have e : (2 : Int) ^ n = ((2 ^ n : Nat) : Int) := by simp
 rw [e]
 generalize 2 ^ n = N at h
 exact IntWalk.wrap64_in _ ⟨by omega, by omega⟩
end Go.Proofs.YtolkchkedieppaaGreat
