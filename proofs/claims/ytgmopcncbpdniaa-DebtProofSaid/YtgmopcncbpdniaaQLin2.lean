/- Package linear: Zero at one row of one element. -/
import Derived.Test.YtgmopcncbpdniaaQLin1
import Derived.Test.YtgmopcncbpdniaaQShelf
import Derived.Laws.CopyRow
set_option linter.unusedVariables false
set_option linter.unusedSimpArgs false
namespace Go.Proofs.Ytgmopcncbpdniaa
open Go.RowKit
attribute [local go_sem ↓] Go.wp_at_zero Go.wp_at_succ

theorem mkR1 (W : World) : (Instr.makeSlice 72 (.int .i64 1) (.int .i64 1)).run Try.prog W = .ok (.slice (some ⟨W.heap.size, 0, none⟩) 1 1) (W.alloc (.cells #[.bool false, .slice none 0 0, .bool false, .slice none 0 0] 88)) := by
  obtain ⟨i0, hi, hz0, hz1, hz2⟩ := info_parts infoR
  have h := run_make (P := Try.prog) W 72 88 i0 _ Try.underlying72 hi hz0 .i64 .i64 1 1 (by omega) (by omega) (by rw [hz2]; omega) (by omega)
  have e : madeCells (Value.agg #[.bool false, .slice none 0 0, .bool false, .slice none 0 0]).cells ((1 : Int).toNat * 4) = #[.bool false, .slice none 0 0, .bool false, .slice none 0 0] := by kernel_rfl
  rw [h, hz1, e]
  rfl
theorem mkM1 (W : World) : (Instr.makeSlice 99 (.int .i64 1) (.int .i64 1)).run Try.prog W = .ok (.slice (some ⟨W.heap.size, 0, none⟩) 1 1) (W.alloc (.cells #[.slice none 0 0] 72)) := by
  obtain ⟨i0, hi, hz0, hz1, hz2⟩ := info_parts infoRs
  have h := run_make (P := Try.prog) W 99 72 i0 _ Try.underlying99 hi hz0 .i64 .i64 1 1 (by omega) (by omega) (by rw [hz2]; omega) (by omega)
  have e : madeCells (Value.slice none 0 0).cells ((1 : Int).toNat * 1) = #[.slice none 0 0] := by kernel_rfl
  rw [h, hz1, e]
  rfl

theorem row_of_own (w : World) (b : Nat) (s : Bool) (a a2 : Option Addr) (n c n2 c2 : Nat) (x : Rat) (K : Nat) (h : Own4 w b (.bool s) (.slice a n c) (.bool false) (.slice a2 n2 c2)) (hv : RatIs w (.agg #[.bool s, .slice a n c, .bool false, .slice a2 n2 c2]) x K) :
    RatRow w b 1 (fun _ => x) K :=
  ⟨fun j hj => ⟨s, a, n, c, a2, n2, c2, by
    obtain rfl : j = 0 := by omega
    exact ⟨h.c0, h.c1, h.c2, h.c3, h.lt⟩, fun _ => hv⟩, h.f, h.lt⟩

theorem mul11 (W : World) : Calls Try.prog 57 #[.int .u64 1, .int .u64 1] W fun e w' => e = .returned (.tuple #[.int .u64 0, .int .u64 1]) ∧ W = w' := by
  have h := Try.bits_Mul 1 1 (by omega) (by omega) W
  refine Calls.mono (show Calls Try.prog 57 #[.int .u64 1, .int .u64 1] W _ from h) ?_
  rintro e w' ⟨rfl, rfl⟩
  exact ⟨rfl, rfl⟩

theorem alloc_setRow (w : World) (z c : Array Value) (t : TypeId) : (w.alloc (.cells z t)).setRow w.heap.size c = w.alloc (.cells c t) := by
  unfold World.setRow World.alloc
  simp only [World.mk.injEq, and_true, true_and]
  apply Array.ext
  · simp
  · intro i h1 h2
    simp only [Array.getElem_modify, Array.getElem_push]
    by_cases h : i < w.heap.size
    · have : ¬ w.heap.size = i := by omega
      simp [h, this]
    · have : w.heap.size = i := by simp at h1; omega
      simp [this]

theorem run_copy_rowS {P : Program} (w : World) (dT sT ty elem : TypeId) (g o dLen dCap : Nat) (a : Addr) (sLen sCap : Nat) (cur : Array Value) (t : TypeId) (cs : List Value) (s n : Nat)
    (hu : P.underlying dT = some (.slice elem)) (hs : (P.info? elem).map (·.size) = some s)
    (hg : w.heap[g]? = some (.cells cur t (0, 0))) (hn : n = Nat.min sLen dLen) (hcs : cs.length = n * s)
    (hsrc : ∀ j v, cs[j]? = some v → w.cell? (a.add j) = some v) (hfit : o + cs.length ≤ cur.size) (h1 : ∀ v ∈ cs, v.oneCell' = true) :
    (Builtin.copy_ #[dT, sT] ty #[.slice (some ⟨g, o, none⟩) dLen dCap, .slice (some a) sLen sCap]).run P w =
      .ok (goInt n) (w.setRow g (cur.toList.take o ++ cs ++ cur.toList.drop (o + cs.length)).toArray) := by
  have hl := run_loadCells_list (P := P) w a cs hsrc
  have hst := run_storeCells_at P g o t cs 0 cur w hg (by simpa using hfit) h1
  rw [hcs] at hl
  cases hq : P.info? elem with
  | none => simp [hq] at hs
  | some i =>
    have hi : i.size = s := by simpa [hq] using hs
    simp [Builtin.copy_, run_underlying hu, Builtin.lenOf, Builtin.firstCells, sizeOf, typeInfo, hq, hi, ← hn, hl, hst]

set_option maxHeartbeats 2000000 in
set_option maxRecDepth 100000 in
theorem repeat_one (b c : Nat) (x : Rat) (K : Nat) (s : Bool) (a a2 : Option Addr) (n e n2 e2 : Nat) (w : World) (h : Own4 w b (.bool s) (.slice a n e) (.bool false) (.slice a2 n2 e2)) (hv : RatIs w (.agg #[.bool s, .slice a n e, .bool false, .slice a2 n2 e2]) x K) :
    Calls Try.prog 73 #[.slice (some ⟨b, 0, none⟩) 1 c, .int .i64 1] w fun e w' => ∃ g, e = .returned (.slice (some ⟨g, 0, none⟩) 1 1) ∧ RatRow w' g 1 (fun _ => x) K ∧ w.heap.size ≤ g ∧ Below w.heap.size w w' := by
  have hmk := mkR1
  have HV := Lib.hid hv
  have HO := Lib.hid h
  obtain ⟨x0, x1, x2, x3, xf, xl⟩ := h
  clear hv
  have hcp : (Builtin.copy_ #[72, 72] 3 #[.slice (some ⟨w.heap.size, 0, none⟩) 1 1, .slice (some ⟨b, 0, none⟩) 1 c]).run Try.prog (w.alloc (.cells #[.bool false, .slice none 0 0, .bool false, .slice none 0 0] 88)) =
      .ok (.int .i64 1) (w.alloc (.cells #[.bool s, .slice a n e, .bool false, .slice a2 n2 e2] 88)) := by
    have h := run_copy_rowS (P := Try.prog) (w.alloc (.cells #[.bool false, .slice none 0 0, .bool false, .slice none 0 0] 88)) 72 72 3 88 w.heap.size 0 1 1 ⟨b, 0, none⟩ 1 c #[.bool false, .slice none 0 0, .bool false, .slice none 0 0] 88
      [.bool s, .slice a n e, .bool false, .slice a2 n2 e2] 4 1 Try.underlying72 (by kernel_rfl) (by unfold World.alloc; simp) rfl rfl ?_ (by simp) ?_
    · rw [h, alloc_setRow]
      rfl
    · intro j v hj
      have O := HO.out.alloc (.cells #[.bool false, .slice none 0 0, .bool false, .slice none 0 0] 88)
      match j, hj with
      | 0, hj => simp at hj; subst hj; simpa [Addr.add] using O.c0
      | 1, hj => simp at hj; subst hj; simpa [Addr.add] using O.c1
      | 2, hj => simp at hj; subst hj; simpa [Addr.add] using O.c2
      | 3, hj => simp at hj; subst hj; simpa [Addr.add] using O.c3
    · intro v hv
      simp at hv
      rcases hv with rfl | rfl | rfl | rfl <;> rfl
  go_enter Try.func73, Try.ntmps73
  go_wp2_with (first
    | (go_at_call 57; (with_reducible refine (mul11 _).mono ?_); rintro e w1 ⟨rfl, rfl⟩))
  go_rounds 1
  go_ret
  have hb := (Below.refl w.heap.size w).alloc (Nat.le_refl _) (.cells #[.bool s, .slice a n e, .bool false, .slice a2 n2 e2] 88)
  exact ⟨_, rfl, row_of_own _ _ _ _ _ _ _ _ _ _ _ (own4_new _ _ rfl _ _ _ _ _) (HV.out.mono hb (Nat.le_refl _)), Nat.le_refl _, hb⟩

theorem RatIs.store1 {w : World} {v : Value} {q : Rat} {m b o : Nat} (h : RatIs w v q m) (u : Value) {v0 : Value} (hp : w.cell? ⟨b, o, none⟩ = some v0) (hn : NoInt v0) : RatIs (w.setCell ⟨b, o, none⟩ u) v q m := by
  obtain ⟨u', d, rfl, m1, m2, m3⟩ := h
  exact ⟨u', d, rfl, m1.store1 u hp hn, m2.store1 u hp hn, m3⟩
/-- a store into another block, over what is no number -/
theorem RowP.storeFar {w : World} {g n K b o : Nat} {P : Nat → Prop} {q : Nat → Rat} (h : RowP w g n P q K) (u : Value) {v0 : Value} (hp : w.cell? ⟨b, o, none⟩ = some v0) (hn : NoInt v0) (hne : b ≠ g) : RowP (w.setCell ⟨b, o, none⟩ u) g n P q K :=
  ⟨fun j hj => by
    obtain ⟨s, a, m, c, a2, m2, c2, hr, hv⟩ := h.cell j hj
    exact ⟨s, a, m, c, a2, m2, c2, ⟨(far_set _ _ _ _ _ _ hne).trans hr.c0, (far_set _ _ _ _ _ _ hne).trans hr.c1, (far_set _ _ _ _ _ _ hne).trans hr.c2, (far_set _ _ _ _ _ _ hne).trans hr.c3, by simp only [World.setCell, Array.size_modify]; exact hr.lt⟩, fun p => (hv p).store1 u hp hn⟩,
   fun o' => by rw [World.frozen?_setCell]; exact h.f o', by simp only [World.setCell, Array.size_modify]; exact h.lt⟩

/-- Zero(1, 1): one row that holds 0 -/
theorem zero_one (w : World) :
    Calls Try.prog 58 #[.int .i64 1, .int .i64 1] w fun e w' => ∃ g r, e = .returned (.slice (some ⟨g, 0, none⟩) 1 1) ∧ w'.cell? ⟨g, 0, none⟩ = some (.slice (some ⟨r, 0, none⟩) 1 1) ∧ RatRow w' r 1 (fun _ => 0) 2 ∧
      w.heap.size ≤ g ∧ g < r ∧ (∀ o, w'.frozen? ⟨g, o, none⟩ = false) ∧ g < w'.heap.size ∧ Below w.heap.size w w' := by
  have hmk := mkM1
  have KW := Lib.hid ((Below.refl w.heap.size w).alloc (Nat.le_refl _) (.cells #[.slice none 0 0] 72))
  have hc0 : (w.alloc (.cells #[.slice none 0 0] 72)).cell? ⟨w.heap.size, 0, none⟩ = some (.slice none 0 0) := by simp [go_sem]
  have hf0 : ∀ o, (w.alloc (.cells #[.slice none 0 0] 72)).frozen? ⟨w.heap.size, o, none⟩ = false := fun o => by simp [go_sem]
  have hl0 : w.heap.size < (w.alloc (.cells #[.slice none 0 0] 72)).heap.size := by simp
  have C0 := Lib.hid hc0
  have F0 := Lib.hid hf0
  have L0 := Lib.hid hl0
  clear hc0 hf0 hl0
  go_enter Try.func58, Try.ntmps58
  go_wp2
  refine wp_loop_rounds 2 ?_
  rw [rounds_succ]
  go_wp2_with (first
    | (go_at_call 53; (with_reducible refine (rat_whole 0 (by omega) (by omega) _).mono ?_); rintro e w1 ⟨r1, rfl, hr1, hb1⟩; obtain ⟨s1, a1, n1, e1, b1, m1, d1, rfl, K1⟩ := hr1.shape; clear hr1; have KW := Lib.hid (KW.out.trans (hb1.mono KW.out.size)); have C1 := Lib.hid (bel1 hb1 C0.out L0.out); have F1 := Lib.hid (fun o => (hb1.frozen (p := ⟨w.heap.size, o, none⟩) L0.out).trans (F0.out o)); have L1 := Lib.hid (Nat.lt_of_lt_of_le L0.out hb1.size))
    | (go_at_call 73; go_loud ((with_reducible refine (repeat_one _ _ (0 : Int) 2 _ _ _ _ _ _ _ _ (own4_new _ _ rfl _ _ _ _ _) (K1.out.mono (boxes1 _ _) (Nat.le_refl _))).mono ?_); rintro e w2 ⟨R, rfl, PR, hRg, hb2⟩; have HBx := Lib.hid ((boxes1 w1 (.cells #[.bool s1, .slice a1 n1 e1, .bool false, .slice b1 m1 d1] 88)).trans (hb2.mono (by simp))); have KW := Lib.hid (KW.out.trans (HBx.out.mono KW.out.size)); have C2 := Lib.hid (bel1 HBx.out C1.out L1.out); have F2 := Lib.hid (fun o => (HBx.out.frozen (p := ⟨w.heap.size, o, none⟩) L1.out).trans (F1.out o)); have PR := Lib.hid PR; have hRw : w1.heap.size < R := (by simp at hRg; omega); have L2 := Lib.hid (Nat.lt_of_lt_of_le L1.out HBx.out.size); have c2 := C2.out; have f2 := F2.out)))
  rw [rounds_succ]
  go_wp2
  go_ret
  refine ⟨w.heap.size, R, rfl, self_set c2, ?_, Nat.le_refl _, by have := L1.out; omega, fun o => by rw [World.frozen?_setCell]; exact f2 o, by simp only [World.setCell, Array.size_modify]; exact L2.out, KW.out.setCell (Nat.le_refl _) _⟩
  exact RowP.storeFar PR.out _ c2 (noInt_slice _ _ _) (by have := L1.out; omega)

end Go.Proofs.Ytgmopcncbpdniaa
