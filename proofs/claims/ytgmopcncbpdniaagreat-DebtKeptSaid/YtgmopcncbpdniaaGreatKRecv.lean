/- Receives of the reference. (Printed by gen_recv.py.) -/
import Derived.Test.YtgmopcncbpdniaaGreatKLast
import Derived.Test.YtgmopcncbpdniaaGreatKSolve1
import Derived.Test.YtgmopcncbpdniaaGreatKOpen2
set_option linter.unusedVariables false
set_option linter.unusedSimpArgs false
namespace Go.Proofs.YtgmopcncbpdniaaGreat
open Go.RowKit
attribute [local go_sem ↓] Go.wp_at_zero Go.wp_at_succ
theorem zqs_s : Tryz.prog.underlying 32 = some (.slice (Tryz.prog.elem 32)) := by kernel_rfl
theorem zqs_z (W : World) : (sizeOf (Tryz.prog.elem 32)).run Tryz.prog W = .ok 4 W := by kernel_rfl
theorem ixV (b n c i : Nat) (hi : i < n) (W : World) :
    (Instr.indexAt 32 (.slice (some ⟨b, 0, none⟩) n c) (.int .i64 (i : Int))).run Tryz.prog W = .ok (.pointer (some ⟨b, i * 4, none⟩)) W := by
  rw [run_indexAt_slice W _ _ _ _ _ _ zqs_s, if_pos ⟨by omega, by omega⟩, zqs_z]
  simp only [Result.andThen, Int.toNat_natCast]
  congr 3
  unfold Addr.add
  split
  · rename_i h; simp [show i = 0 by omega]
  · simp
theorem IsSl.ints {w : World} {a : Option Addr} {b o c n : Nat} {f : Nat → Int} (h : IsSl w a b o c n (ic f)) : Ints w (.slice a n c) n f := ⟨a, b, o, c, rfl, h⟩
theorem sumF_mem {f : Nat → Int} (h : ∀ i, 0 ≤ f i) : ∀ n i, i < n → f i ≤ sumF f n
  | 0, i, hi => by omega
  | n + 1, i, hi => by
    simp only [sumF]
    by_cases e : i = n
    · subst e; have := sumF_nn h i; omega
    · have := sumF_mem h n i (by omega); have := h n; omega
theorem shQ_div {n : Nat} {d : Nat → Nat → Int} {j i : Nat} (h : sumF (d j) n ≠ 0) : shQ n d j i = (d j i : Rat) / (sumF (d j) n : Rat) := by unfold shQ shareQ; rw [if_neg h]
theorem shQ_none {n : Nat} {d : Nat → Nat → Int} {j i : Nat} (h : d j i = 0) : shQ n d j i = 0 := by
  unfold shQ shareQ; split
  · rfl
  · rw [h, Rat.div_def]; simp
/-- numbers are kept by a store into a box that holds another one -/
theorem ZIs.at4 {w : World} {v : Value} {z : Int} {m b : Nat} {s t : Bool} {a a2 : Option Addr} {n c n2 c2 : Nat} (h : ZIs w v z m) (O : Own4 w b (.bool s) (.slice a n c) (.bool t) (.slice a2 n2 c2)) (u0 u1 u2 u3 : Value) :
    ZIs ((((w.setCell ⟨b, 0, none⟩ u0).setCell ⟨b, 1, none⟩ u1).setCell ⟨b, 2, none⟩ u2).setCell ⟨b, 3, none⟩ u3) v z m :=
  (((h.setCell u0 O.c0 (noInt_bool _)).setCell u1 (off_set (by decide) O.c1) (noInt_slice _ _ _)).setCell u2 (off_set (by decide) (off_set (by decide) O.c2)) (noInt_bool _)).setCell u3 (off_set (by decide) (off_set (by decide) (off_set (by decide) O.c3))) (noInt_slice _ _ _)
theorem QIs.at4 {w : World} {v : Value} {p d : Int} {m b : Nat} {s t : Bool} {a a2 : Option Addr} {n c n2 c2 : Nat} (h : QIs w v p d m) (O : Own4 w b (.bool s) (.slice a n c) (.bool t) (.slice a2 n2 c2)) (u0 u1 u2 u3 : Value) :
    QIs ((((w.setCell ⟨b, 0, none⟩ u0).setCell ⟨b, 1, none⟩ u1).setCell ⟨b, 2, none⟩ u2).setCell ⟨b, 3, none⟩ u3) v p d m := by
  obtain ⟨s1, v1, s2, v2, h0, h1, h2, h3⟩ := h
  exact ⟨s1, v1, s2, v2, h0, h1.at4 O _ _ _ _, h2.at4 O _ _ _ _, h3⟩
theorem QV.at4 {w : World} {v : Value} {q : Rat} {m b : Nat} {s t : Bool} {a a2 : Option Addr} {n c n2 c2 : Nat} (h : QV w v q m) (O : Own4 w b (.bool s) (.slice a n c) (.bool t) (.slice a2 n2 c2)) (u0 u1 u2 u3 : Value) :
    QV ((((w.setCell ⟨b, 0, none⟩ u0).setCell ⟨b, 1, none⟩ u1).setCell ⟨b, 2, none⟩ u2).setCell ⟨b, 3, none⟩ u3) v q m := by
  obtain ⟨p, d, h1, h2⟩ := h
  exact ⟨p, d, h1.at4 O _ _ _ _, h2⟩
set_option maxHeartbeats 4000000 in
set_option maxRecDepth 100000 in
theorem recv_any (vd vp : Value) (n i : Nat) (d : Nat → Nat → Int) (q : Nat → Rat) (K : Nat) (w : World) (hm : Mat w vd n (fun _ => n) d) (hp : VSl w vp n q K) (hi : i < n) (hn : n ≤ 8) (hd : ∀ i j, 0 ≤ d i j) (hR : ∀ i j, i < n → j < n → d i j ≤ 1000) (hT : ∀ i, i < n → sumF (d i) n ≤ 100000) (hK5 : 5 ≤ K) (hK : K ≤ 100000000) :
    Calls Tryz.prog 19 #[vd, vp, .int .i64 (i : Nat)] w fun ex w' => ∃ r, ex = .returned r ∧ QIs w' r (sumQ (fun j => q j * shQ n d j i) n).num (((sumQ (fun j => q j * shQ n d j i) n).den : Nat) : Int) (512 * (K + 1)) ∧ Below w.heap.size w w' := by
  obtain ⟨da, b, o, dc, ra, rb, ro, rc, rfl, hdm⟩ := hm
  obtain ⟨g, gc, rfl, hgc, hgl, hgv⟩ := hp.val
  have HM := Lib.hid hdm
  have HV := Lib.hid hgv
  have HD0 := Lib.hid hd
  have HR0 := Lib.hid hR
  have HT0 := Lib.hid hT
  have HGL := Lib.hid hgl
  clear hdm hgv hd hR hT hp hgl
  have KW0 := Lib.hid (boxes1 w (.cells #[.bool false, .slice none 0 0, .bool false, .slice none 0 0] 40))
  have RO0 := Lib.hid (own4_new w w.heap.size rfl (.bool false) (.slice none 0 0) (.bool false) (.slice none 0 0) 40)
  go_enter Tryz.func19, Tryz.ntmps19
  go_wp2_with fail
  refine (qv_whole 0 _ (by omega) (by omega)).mono ?_
  rintro e w1 ⟨r1, rfl, hr1, hb1⟩
  obtain ⟨s1, a1, n1, c1, t1, a2, n2, c2, rfl, Q1⟩ := hr1.shape
  have hbx := boxes1 w1 (.cells #[.bool s1, .slice a1 n1 c1, .bool t1, .slice a2 n2 c2] 40)
  have RO0 := Lib.hid ((RO0.out.below hb1 RO0.out.lt).alloc (.cells #[.bool s1, .slice a1 n1 c1, .bool t1, .slice a2 n2 c2] 40))
  have KW0 := Lib.hid ((KW0.out.trans (hb1.mono KW0.out.size)).alloc (KW0.out.trans (hb1.mono KW0.out.size)).size (.cells #[.bool s1, .slice a1 n1 c1, .bool t1, .slice a2 n2 c2] 40))
  have PS0 := Lib.hid (own4_new w1 w1.heap.size rfl (.bool s1) (.slice a1 n1 c1) (.bool t1) (.slice a2 n2 c2) 40)
  have QS0 := Lib.hid (Q1.out.mono hbx (Nat.le_refl _))
  have HSB : Hid (w.heap.size < w1.heap.size) := Lib.hid (by have := hb1.size; simp at this; omega)
  obtain ⟨SB, hSB⟩ : ∃ SB, SB = w1.heap.size := ⟨_, rfl⟩
  clear hr1 hb1 hbx Q1
  go_wp2
  rw [← hSB] at PS0 HSB ⊢
  clear hSB
  generalize w1.alloc (.cells #[.bool s1, .slice a1 n1 c1, .bool t1, .slice a2 n2 c2] 40) = w2 at *
  go_loopw [8] (fun v8 wr => ∃ k : Nat, k ≤ n ∧ v8 = .int .i64 (k : Nat) ∧ ∃ s a m c t a2 m2 c2 B, Hid (Own4 wr SB (.bool s) (.slice a m c) (.bool t) (.slice a2 m2 c2)) ∧ Hid (QV wr (.agg #[.bool s, .slice a m c, .bool t, .slice a2 m2 c2]) (sumQ (fun j => q j * shQ n d j i) k) B) ∧ Hid (B + 1 = 2 ^ k * (2 * K + 1)) ∧
    Hid (Own4 wr w.heap.size (.bool false) (.slice none 0 0) (.bool false) (.slice none 0 0)) ∧ Hid (Below w.heap.size w wr)) (fun v8 _ => n - (intOf v8).toNat)
  case atStart => exact ⟨0, by omega, rfl, s1, a1, n1, c1, t1, a2, n2, c2, 2 * K, PS0, Lib.hid (QS0.out.le (by omega)), Lib.hid (by omega), RO0, KW0⟩
  case round =>
    clear PS0 QS0 RO0 KW0
    obtain ⟨k, hk, rfl, s, a, m, c, t, a2, m2, c2, B, PS, QS, HB, RO, KW0⟩ := hrel
    by_cases h : k < n
    · have e1 : decide ((k : Int) < (n : Int)) = true := by simpa using h
      have e1n : decide (k < n) = true := by simpa using h
      have ixm := fun W => ixM HM.out.top k dc h W
      have ixr := fun W => ixI (HM.out.row k h) i (rc k) hi W
      have ixp := fun W => ixV g n gc k h W
      have hM1 := HM.out.mono KW0.out (Nat.le_refl _)
      have y0 := hM1.top.cell k h
      have y1 := (hM1.row k h).cell i hi
      simp only [ic] at y1
      clear hM1
      by_cases hz : 0 < d k i
      · have d1 : decide (0 < d k i) = true := by simpa using hz
        obtain ⟨s5, a5, n5, c5, t5, a6, n6, c6, z0, z1, z2, z3, zq⟩ := HV.out k h
        have HQ5 := Lib.hid (QV.mono zq KW0.out (Nat.le_refl _))
        have HMT := sumF_mem (HD0.out k) n i hi
        have HNZ : Hid (sumF (d k) n ≠ 0) := Lib.hid (by omega)
        have HR1 : Hid (-9223372036854775808 ≤ d k i ∧ d k i < 9223372036854775808) := Lib.hid (by have := HR0.out k i h hi; omega)
        have HR2 : Hid (-9223372036854775808 ≤ sumF (d k) n ∧ sumF (d k) n < 9223372036854775808) := Lib.hid (by have := HT0.out k h; omega)
        have HDT : Hid (∀ l, l < n → -(1099511627776 : Int) ≤ d k l ∧ d k l ≤ 1099511627776) := Lib.hid (fun l hl => by have := HR0.out k l h hl; have := HD0.out k l; omega)
        have HB2 : Hid (2 * K ≤ B ∧ B ≤ 274877906940) := Lib.hid (by
          have h1 : 2 ^ k ≤ 2 ^ 8 := Nat.pow_le_pow_right (by omega) (by omega)
          have h2 : 1 ≤ 2 ^ k := Nat.one_le_two_pow
          have h3 := Nat.mul_le_mul_right (2 * K + 1) h1
          have h4 := Nat.mul_le_mul_right (2 * K + 1) h2
          have := HB.out
          omega)
        have HSUM : Hid (sumQ (fun j => q j * shQ n d j i) k + q k * ((d k i : Rat) / (sumF (d k) n : Rat)) = sumQ (fun j => q j * shQ n d j i) (k + 1)) := Lib.hid (by simp only [sumQ]; rw [shQ_div HNZ.out])
        have VL0 := Lib.hid (Below.refl wr.heap.size wr)
        have VL := Lib.hid VL0.out.drew
        have keepR : Hid (∀ w', Below wr.heap.size wr w' → w'.cell? ⟨SB, 0, none⟩ = some (.bool s) ∧ w'.cell? ⟨SB, 1, none⟩ = some (.slice a m c) ∧ w'.cell? ⟨SB, 2, none⟩ = some (.bool t) ∧ w'.cell? ⟨SB, 3, none⟩ = some (.slice a2 m2 c2) ∧ w'.cell? ⟨g, k * 4, none⟩ = some (.bool s5) ∧ w'.cell? ⟨g, k * 4 + 1, none⟩ = some (.slice a5 n5 c5) ∧ w'.cell? ⟨g, k * 4 + 2, none⟩ = some (.bool t5) ∧ w'.cell? ⟨g, k * 4 + 3, none⟩ = some (.slice a6 n6 c6) ∧ w'.cell? ⟨b, o + k, none⟩ = some (.slice (ra k) n (rc k)) ∧ w'.cell? ⟨rb k, ro k + i, none⟩ = some (.int .i64 (d k i))) :=
          Lib.hid (fun w' hb => ⟨bel1 hb PS.out.c0 PS.out.lt, bel1 hb PS.out.c1 PS.out.lt, bel1 hb PS.out.c2 PS.out.lt, bel1 hb PS.out.c3 PS.out.lt,
            bel1 hb (bel1 KW0.out z0 HGL.out) (Nat.lt_of_lt_of_le HGL.out KW0.out.size), bel1 hb (bel1 KW0.out z1 HGL.out) (Nat.lt_of_lt_of_le HGL.out KW0.out.size), bel1 hb (bel1 KW0.out z2 HGL.out) (Nat.lt_of_lt_of_le HGL.out KW0.out.size), bel1 hb (bel1 KW0.out z3 HGL.out) (Nat.lt_of_lt_of_le HGL.out KW0.out.size),
            bel1 hb y0 (Nat.lt_of_lt_of_le (HM.out.top.lt (by omega)) KW0.out.size), bel1 hb y1 (Nat.lt_of_lt_of_le ((HM.out.row k h).lt (by omega)) KW0.out.size)⟩)
        clear zq z0 z1 z2 z3 HMT
        go_wp2
        clear y0 y1
        refine wp_region_last (S := fun w' => w'.cell? ⟨SB, 0, none⟩ = some (.bool s) ∧ w'.cell? ⟨SB, 1, none⟩ = some (.slice a m c) ∧ w'.cell? ⟨SB, 2, none⟩ = some (.bool t) ∧ w'.cell? ⟨SB, 3, none⟩ = some (.slice a2 m2 c2) ∧ w'.cell? ⟨g, k * 4, none⟩ = some (.bool s5) ∧ w'.cell? ⟨g, k * 4 + 1, none⟩ = some (.slice a5 n5 c5) ∧ w'.cell? ⟨g, k * 4 + 2, none⟩ = some (.bool t5) ∧ w'.cell? ⟨g, k * 4 + 3, none⟩ = some (.slice a6 n6 c6) ∧ w'.cell? ⟨b, o + k, none⟩ = some (.slice (ra k) n (rc k)) ∧ w'.cell? ⟨rb k, ro k + i, none⟩ = some (.int .i64 (d k i))) (by kernel_rfl) (by kernel_rfl) (keepR.out _ VL.out) (fun hHeld => ?_)
        simp only [List.pop_toArray, List.dropLast_cons_cons, List.dropLast_singleton]
        refine wpAnyH_take (i := 0) (v := ?_) rfl (by kernel_rfl) (by kernel_rfl) (by kernel_rfl) (fun _ _ _ h => h) (Or.inl ⟨by rfl, ?_⟩) (by assumption) ?_
        rotate_left
        · (intro w0 hSw; (try dsimp only at hSw); go_simp; all_goals (with_reducible rfl))
        simp only [Act.put, List.setIfInBounds_toArray, List.set_cons_zero, List.set_cons_succ]
        refine wpAnyH_take (i := 1) (v := ?_) rfl (by kernel_rfl) (by kernel_rfl) (by kernel_rfl) (fun _ _ _ h => h) (Or.inl ⟨by rfl, ?_⟩) (by assumption) ?_
        rotate_left
        · (intro w0 hSw; (try dsimp only at hSw); go_simp; all_goals (with_reducible rfl))
        simp only [Act.put, List.setIfInBounds_toArray, List.set_cons_zero, List.set_cons_succ]
        refine wpAnyH_take (i := 2) (v := ?_) rfl (by kernel_rfl) (by kernel_rfl) (by kernel_rfl) (fun _ _ _ h => h) (Or.inl ⟨by rfl, ?_⟩) (by assumption) ?_
        rotate_left
        · (intro w0 hSw; (try dsimp only at hSw); go_simp; all_goals (with_reducible rfl))
        simp only [Act.put, List.setIfInBounds_toArray, List.set_cons_zero, List.set_cons_succ]
        refine wpAnyH_take (i := 3) (v := ?_) rfl (by kernel_rfl) (by kernel_rfl) (by kernel_rfl) (fun _ _ _ h => h) (Or.inl ⟨by rfl, ?_⟩) (by assumption) ?_
        rotate_left
        · (intro w0 hSw; (try dsimp only at hSw); go_simp; all_goals (with_reducible rfl))
        simp only [Act.put, List.setIfInBounds_toArray, List.set_cons_zero, List.set_cons_succ]
        refine wpAnyH_take (i := 4) (v := ?_) rfl (by kernel_rfl) (by kernel_rfl) (by kernel_rfl) (fun _ _ _ h => h) (Or.inl ⟨by rfl, ?_⟩) (by assumption) ?_
        rotate_left
        · (intro w0 hSw; (try dsimp only at hSw); go_simp; all_goals (with_reducible rfl))
        simp only [Act.put, List.setIfInBounds_toArray, List.set_cons_zero, List.set_cons_succ]
        refine wpAnyH_take (i := 5) (v := ?_) rfl (by kernel_rfl) (by kernel_rfl) (by kernel_rfl) (fun _ _ _ h => h) (Or.inl ⟨by rfl, ?_⟩) (by assumption) ?_
        rotate_left
        · (intro w0 hSw; (try dsimp only at hSw); go_simp; all_goals (with_reducible rfl))
        simp only [Act.put, List.setIfInBounds_toArray, List.set_cons_zero, List.set_cons_succ]
        refine wpAnyH_take (i := 6) (v := ?_) rfl (by kernel_rfl) (by kernel_rfl) (by kernel_rfl) (fun _ _ _ h => h) (Or.inl ⟨by rfl, ?_⟩) (by assumption) ?_
        rotate_left
        · (intro w0 hSw; (try dsimp only at hSw); go_simp; all_goals (with_reducible rfl))
        simp only [Act.put, List.setIfInBounds_toArray, List.set_cons_zero, List.set_cons_succ]
        refine wpAnyH_take (i := 7) (v := ?_) rfl (by kernel_rfl) (by kernel_rfl) (by kernel_rfl) (fun _ _ _ h => h) (Or.inl ⟨by rfl, ?_⟩) (by assumption) ?_
        rotate_left
        · (intro w0 hSw; (try dsimp only at hSw); go_simp; all_goals (with_reducible rfl))
        simp only [Act.put, List.setIfInBounds_toArray, List.set_cons_zero, List.set_cons_succ]
        refine wpAnyH_take (i := 8) (v := ?_) rfl (by kernel_rfl) (by kernel_rfl) (by kernel_rfl) (fun _ _ _ h => h) (Or.inl ⟨by rfl, ?_⟩) (by assumption) ?_
        rotate_left
        · (intro w0 hSw; (try dsimp only at hSw); go_simp; all_goals (with_reducible rfl))
        simp only [Act.put, List.setIfInBounds_toArray, List.set_cons_zero, List.set_cons_succ]
        refine wpAnyH_take (i := 9) (v := ?_) rfl (by kernel_rfl) (by kernel_rfl) (by kernel_rfl) (fun _ _ _ h => h) (Or.inl ⟨by rfl, ?_⟩) (by assumption) ?_
        rotate_left
        · (intro w0 hSw; (try dsimp only at hSw); go_simp; all_goals (with_reducible rfl))
        simp only [Act.put, List.setIfInBounds_toArray, List.set_cons_zero, List.set_cons_succ]
        refine wpAnyH_take (i := 10) (v := ?_) rfl (by kernel_rfl) (by kernel_rfl) (by kernel_rfl) (fun _ _ _ h => h) (Or.inl ⟨by rfl, ?_⟩) (by assumption) ?_
        rotate_left
        · (intro w0 hSw; (try dsimp only at hSw); go_simp; all_goals (with_reducible rfl))
        simp only [Act.put, List.setIfInBounds_toArray, List.set_cons_zero, List.set_cons_succ]
        refine wpAnyH_take (i := 11) (v := ?_) rfl (by kernel_rfl) (by kernel_rfl) (by kernel_rfl) (fun _ _ _ h => h) (Or.inl ⟨by rfl, ?_⟩) (by assumption) ?_
        rotate_left
        · (intro w0 hSw; (try dsimp only at hSw); go_simp; all_goals (with_reducible rfl))
        simp only [Act.put, List.setIfInBounds_toArray, List.set_cons_zero, List.set_cons_succ]
        refine wpAnyH_take (i := 12) (v := ?_) rfl (by kernel_rfl) (by kernel_rfl) (by kernel_rfl) (fun _ _ _ h => h) (Or.inl ⟨by rfl, ?_⟩) (by assumption) ?_
        rotate_left
        · (intro w0 hSw; (try dsimp only at hSw); go_simp; all_goals (with_reducible rfl))
        simp only [Act.put, List.setIfInBounds_toArray, List.set_cons_zero, List.set_cons_succ]
        refine wpAnyH_take (i := 13) (v := ?_) rfl (by kernel_rfl) (by kernel_rfl) (by kernel_rfl) (fun _ _ _ h => h) (Or.inl ⟨by rfl, ?_⟩) (by assumption) ?_
        rotate_left
        · (intro w0 hSw; (try dsimp only at hSw); go_simp; all_goals (with_reducible rfl))
        simp only [Act.put, List.setIfInBounds_toArray, List.set_cons_zero, List.set_cons_succ]
        refine wpAnyH_take (i := 14) (v := ?_) rfl (by kernel_rfl) (by kernel_rfl) (by kernel_rfl) (fun _ _ _ h => h) (Or.inl ⟨by rfl, ?_⟩) (by assumption) ?_
        rotate_left
        · (intro w0 hSw; (try dsimp only at hSw); go_simp; all_goals (with_reducible rfl))
        simp only [Act.put, List.setIfInBounds_toArray, List.set_cons_zero, List.set_cons_succ]
        refine wpAnyH_take (i := 15) (v := ?_) rfl (by kernel_rfl) (by kernel_rfl) (by kernel_rfl) (fun _ _ _ h => h) (Or.inl ⟨by rfl, ?_⟩) (by assumption) ?_
        rotate_left
        · (intro w0 hSw; (try dsimp only at hSw); go_simp; all_goals (with_reducible rfl))
        simp only [Act.put, List.setIfInBounds_toArray, List.set_cons_zero, List.set_cons_succ]
        refine wpAnyH_ready (rs := [16]) (by kernel_rfl) (by simp) ?_
        refine AllReadyH.cons rfl (fun Kn hKn => ?_) AllReadyH.nil
        go_simp
        (go_at_call 17; (with_reducible refine (total_any _ n (d k) _ ((HM.out.row k h).ints.mono (KW0.out.trans (VL.out.mono KW0.out.size)) (Nat.le_refl _)) (by omega) HDT.out).mono ?_); rintro e w3 ⟨rfl, hd3⟩; have VL := Lib.hid (VL.out.trans ((hd3.below _).mono VL.out.size)))
        go_wp2_with fail
        refine hKn.out _ _ ?_ (fun hHeld => ?_)
        · (try dsimp only); exact keepR.out _ VL.out
        clear hKn Kn
        (try simp only [Act.put, List.setIfInBounds_toArray, List.set_cons_zero, List.set_cons_succ])
        refine wpAnyH_ready (rs := [17]) (by kernel_rfl) (by simp) ?_
        refine AllReadyH.cons rfl (fun Kn hKn => ?_) AllReadyH.nil
        go_simp
        (go_at_call 49; (with_reducible refine (make_any (d k i) (sumF (d k) n) _ HR1.out.1 HR1.out.2 HR2.out.1 HR2.out.2 HNZ.out).mono ?_); rintro e w4 ⟨r4, rfl, hr4, hb4⟩; obtain ⟨s4, a4, n4, c4, t4, a7, n7, c7, rfl, QM⟩ := (QV.of hr4).shape; clear hr4; have VL := Lib.hid (VL.out.trans (hb4.mono VL.out.size)))
        go_wp2_with fail
        refine hKn.out _ _ ?_ (fun hHeld => ?_)
        · (try dsimp only); exact keepR.out _ VL.out
        clear hKn Kn
        (try simp only [Act.put, List.setIfInBounds_toArray, List.set_cons_zero, List.set_cons_succ])
        refine wpAnyH_ready (rs := [18]) (by kernel_rfl) (by simp) ?_
        refine AllReadyH.cons rfl (fun Kn hKn => ?_) AllReadyH.nil
        go_simp
        (go_at_call 48; (with_reducible refine (qv_mul _ _ (q k) ((d k i : Rat) / (sumF (d k) n : Rat)) K _ (HQ5.out.mono VL.out (Nat.le_refl _)) (QM.out.le hK5) (by omega)).mono ?_); rintro e w5 ⟨r5, rfl, hr5, hb5⟩; obtain ⟨s8, a8, n8, c8, t8, a9, n9, c9, rfl, QP⟩ := hr5.shape; clear hr5; have VL := Lib.hid (VL.out.trans (hb5.mono VL.out.size)))
        go_wp2_with fail
        refine hKn.out _ _ ?_ (fun hHeld => ?_)
        · (try dsimp only); exact keepR.out _ VL.out
        clear hKn Kn
        (try simp only [Act.put, List.setIfInBounds_toArray, List.set_cons_zero, List.set_cons_succ])
        refine wpAnyH_ready (rs := [19]) (by kernel_rfl) (by simp) ?_
        refine AllReadyH.cons rfl (fun Kn hKn => ?_) AllReadyH.nil
        go_simp
        (go_at_call 18; (with_reducible refine (qv_add _ _ (sumQ (fun j => q j * shQ n d j i) k) (q k * ((d k i : Rat) / (sumF (d k) n : Rat))) B _ (QS.out.mono VL.out (Nat.le_refl _)) (QP.out.le HB2.out.1) HB2.out.2).mono ?_); rintro e w6 ⟨r6, rfl, hr6, hb6⟩; obtain ⟨x1, y1, z1, u1, x2, y2, z2, u2, rfl, QA⟩ := hr6.shape; clear hr6; have VL := Lib.hid (VL.out.trans (hb6.mono VL.out.size)); have P6 := Lib.hid (PS.out.below VL.out PS.out.lt); have p0 := P6.out.c0; have p1 := P6.out.c1; have p2 := P6.out.c2; have p3 := P6.out.c3; have pf := P6.out.f; have pl := P6.out.lt)
        go_wp2_with fail
        refine hKn.out _ _ ?_ (fun hHeld => ?_)
        · (try dsimp only); exact keepR.out _ VL.out
        clear hKn Kn
        (try simp only [Act.put, List.setIfInBounds_toArray, List.set_cons_zero, List.set_cons_succ])
        refine wpAnyH_done (by kernel_rfl) ?_ _
        refine lastQ_step rfl (fun Kn hKn => ?_)
        go_simp
        refine hKn.out _ _ ?_
        clear hKn Kn
        (try simp only [Act.put, List.setIfInBounds_toArray, List.set_cons_zero, List.set_cons_succ])
        have QA2 := Lib.hid (QA.out.at4 P6.out (.bool x1) (.slice y1 z1 u1) (.bool x2) (.slice y2 z2 u2))
        rw [HSUM.out] at QA2
        have PA2 := Lib.hid (P6.out.anew (.bool x1) (.slice y1 z1 u1) (.bool x2) (.slice y2 z2 u2))
        have RO2 := Lib.hid ((RO.out.below VL.out RO.out.lt).set4 SB (.bool x1) (.slice y1 z1 u1) (.bool x2) (.slice y2 z2 u2) (by have := HSB.out; omega))
        have KW2 := Lib.hid (below_set4q (KW0.out.trans (VL.out.mono KW0.out.size)) (b := SB) (by have := HSB.out; omega) (.bool x1) (.slice y1 z1 u1) (.bool x2) (.slice y2 z2 u2))
        clear p0 p1 p2 p3 pf pl
        go_wp2
        go_roundw
        case rel => exact ⟨k + 1, by omega, by go_num, _, _, _, _, _, _, _, _, 2 * B + 1, PA2, QA2, Lib.hid (by have := HB.out; rw [Nat.pow_succ, Nat.mul_comm (2 ^ k) 2, Nat.mul_assoc]; omega), RO2, KW2⟩
        case measure => simp [intOf]; omega
      · have d1 : decide (0 < d k i) = false := by simpa using hz
        have hz0 : d k i = 0 := by have := HD0.out k i; omega
        have HSUM : Hid (sumQ (fun j => q j * shQ n d j i) k = sumQ (fun j => q j * shQ n d j i) (k + 1)) := Lib.hid (by simp only [sumQ]; rw [shQ_none hz0, Rat.mul_zero, Rat.add_zero])
        have HB2 : Hid (B ≤ 2 * B + 1) := Lib.hid (by omega)
        have QA2 := Lib.hid (QS.out.le HB2.out)
        rw [HSUM.out] at QA2
        clear hz0
        go_wp2
        go_roundw
        case rel => exact ⟨k + 1, by omega, by go_num, _, _, _, _, _, _, _, _, 2 * B + 1, PS, QA2, Lib.hid (by have := HB.out; rw [Nat.pow_succ, Nat.mul_comm (2 ^ k) 2, Nat.mul_assoc]; omega), RO, KW0⟩
        case measure => simp [intOf]; omega
    · obtain rfl : n = k := by omega
      have e1 : decide ((n : Int) < (n : Int)) = false := by simp
      have HB2 : Hid (B ≤ 512 * (K + 1) ∧ B ≤ 274877906940) := Lib.hid (by
        have h1 : 2 ^ n ≤ 2 ^ 8 := Nat.pow_le_pow_right (by omega) (by omega)
        have h3 := Nat.mul_le_mul_right (2 * K + 1) h1
        have := HB.out
        omega)
      obtain ⟨x0, x1, x2, x3, xf, xl⟩ := PS.out
      go_wp2_with fail
      refine (qv_low _ _ B _ QS.out HB2.out.2).mono ?_
      rintro e w3 ⟨r3, rfl, hr3, hb3⟩
      obtain ⟨s3, a3, n3, c3, t3, a4, n4, c4, rfl, -, -, -⟩ := hr3.shape
      have HR3 := Lib.hid (hr3.le HB2.out.1)
      have RO := Lib.hid (RO.out.below hb3 RO.out.lt)
      have KW0 := Lib.hid (KW0.out.trans (hb3.mono KW0.out.size))
      clear x0 x1 x2 x3 xf xl hb3 hr3
      obtain ⟨x0, x1, x2, x3, xf, xl⟩ := RO.out
      go_wp2_with fail
      refine bodyPost_ret (v := .agg #[.bool s3, .slice a3 n3 c3, .bool t3, .slice a4 n4 c4]) (by simp [results, Tryz.results19, go_sem, x0, x1, x2, x3, xf, xl]) rfl ?_
      exact ⟨_, rfl, HR3.out.at4 RO.out _ _ _ _, below_set4q KW0.out (by omega) _ _ _ _⟩
end Go.Proofs.YtgmopcncbpdniaaGreat
