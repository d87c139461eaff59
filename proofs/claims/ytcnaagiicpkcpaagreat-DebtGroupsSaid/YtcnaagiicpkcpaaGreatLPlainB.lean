/- make of Rats, of rows; slices.Repeat of one Rat. -/
import Derived.Test.YtcnaagiicpkcpaaGreatLLive1
import Derived.Test.YtcnaagiicpkcpaaGreatLRep
import Derived.Test.YtcnaagiicpkcpaaGreatLMkt2
set_option linter.unusedVariables false
set_option linter.unusedSimpArgs false
namespace Go.Proofs.YtcnaagiicpkcpaaGreat
open Go.RowKit
attribute [local go_sem ↓] Go.wp_at_zero Go.wp_at_succ
/-- the cells of the zero Rat -/
abbrev zR : Array Value := #[.bool false, .slice none 0 0, .bool false, .slice none 0 0]
theorem mkRn (n : Nat) (hn : n ≤ 1000) (W : World) : (Instr.makeSlice 68 (.int .i64 (n : Nat)) (.int .i64 (n : Nat))).run Tryz.prog W = .ok (.slice (some ⟨W.heap.size, 0, none⟩) n n) (W.alloc (.cells (madeCells zR (n * 4)) 95)) := by
 obtain ⟨i0, hi, hz0, hz1, hz2⟩ := info_parts infoR
 have h := run_make (P := Tryz.prog) W 68 95 i0 _ Tryz.underlying68 hi hz0 .i64 .i64 n n (by omega) (by omega) (by rw [hz2]; omega) (by omega)
 have e : (Value.agg #[.bool false, .slice none 0 0, .bool false, .slice none 0 0]).cells = zR := by kernel_rfl
 rw [h, hz1, e, Int.toNat_natCast]
theorem mkMn (n : Nat) (hn : n ≤ 1000) (W : World) : (Instr.makeSlice 116 (.int .i64 (n : Nat)) (.int .i64 (n : Nat))).run Tryz.prog W = .ok (.slice (some ⟨W.heap.size, 0, none⟩) n n) (W.alloc (.cells (madeCells #[.slice none 0 0] n) 68)) :=
 run_make_row' (P := Tryz.prog) 116 68 (.slice none 0 0) 24 Tryz.underlying116 infoRs rfl .i64 .i64 n (by omega) (by omega) W
/-- four cells, over and over -/
def pat4 (x0 x1 x2 x3 : Value) (i : Nat) : Value := match i % 4 with | 0 => x0 | 1 => x1 | 2 => x2 | _ => x3
def zero4 : Nat → Value := pat4 (.bool false) (.slice none 0 0) (.bool false) (.slice none 0 0)
theorem made_zero4 (n i : Nat) (h : i < n) : (madeCells zR n)[i]? = some (zero4 i) := by
 have e : (madeCells zR n)[i]? = some (zR[i % 4]!) := by
  unfold madeCells
  rw [Array.getElem?_map, Array.getElem?_range, if_pos h]
  rfl
 rw [e]
 unfold zero4 pat4
 have h4 : i % 4 < 4 := Nat.mod_lt _ (by omega)
 rcases (by omega : i % 4 = 0 ∨ i % 4 = 1 ∨ i % 4 = 2 ∨ i % 4 = 3) with h | h | h | h <;> rw [h] <;> rfl
/-- the first k Rats stored, the others zero -/
def repR (p : Nat → Value) (k : Nat) (i : Nat) : Value := if i < k * 4 then p i else zero4 i
theorem row_made (w : World) (n : Nat) (p : Nat → Value) : (w.alloc (.cells (madeCells zR (n * 4)) 95)).rowIs w.heap.size 95 (n * 4) (repR p 0) :=
 ⟨madeCells zR (n * 4), by unfold World.alloc; simp, size_madeCells _ _, fun i hi => by rw [made_zero4 _ _ hi]; unfold repR; rw [if_neg (by omega)]⟩
/-- a row of zero Rats, as one that is written -/
theorem RowP.made (w : World) (n : Nat) (q : Nat → Rat) (K : Nat) : RowP (w.alloc (.cells (madeCells zR (n * 4)) 95)) w.heap.size n (fun _ => False) q K := by
 have h := row_made w n zero4
 have e : ∀ j r, r < 4 → j < n → repR zero4 0 (j * 4 + r) = pat4 (.bool false) (.slice none 0 0) (.bool false) (.slice none 0 0) r := fun j r hr hj => by
  unfold repR; rw [if_neg (by omega)]; unfold zero4 pat4; rw [show (j * 4 + r) % 4 = r % 4 by omega]
 refine ⟨fun j hj => ⟨false, none, 0, 0, none, 0, 0, ⟨?_, ?_, ?_, ?_, h.lt⟩, fun p => p.elim⟩, fun o => h.frozen o, h.lt⟩
 ·rw [h.cell (i := j * 4) (by omega)]; congr 1; exact e j 0 (by omega) hj
 ·rw [h.cell (i := j * 4 + 1) (by omega)]; congr 1; exact e j 1 (by omega) hj
 ·rw [h.cell (i := j * 4 + 2) (by omega)]; congr 1; exact e j 2 (by omega) hj
 ·rw [h.cell (i := j * 4 + 3) (by omega)]; congr 1; exact e j 3 (by omega) hj
theorem pat4_one (x0 x1 x2 x3 : Value) (h0 : x0.oneCell' = true) (h1 : x1.oneCell' = true) (h2 : x2.oneCell' = true) (h3 : x3.oneCell' = true) (i : Nat) : (pat4 x0 x1 x2 x3 i).oneCell' = true := by
 unfold pat4; split <;> assumption
/-- the first m cells of a pattern -/
def patL (p : Nat → Value) (m : Nat) : List Value := (List.range m).map p
theorem patL_get (p : Nat → Value) (m i : Nat) (h : i < m) : (patL p m)[i]? = some (p i) := by simp [patL, h]
theorem patL_len (p : Nat → Value) (m : Nat) : (patL p m).length = m := by simp [patL]
theorem copyR_in (w : World) (b n k B : Nat) (p : Nat → Value) (hp : ∀ i j, p (i + j * 4) = p i) (hp1 : ∀ i, (p i).oneCell' = true) (hk : 0 < k) (hkn : k < n) (hB : B ≤ b) (h : w.rowIs b 95 (n * 4) (repR p k)) :
  ∃ w', (Builtin.copy_ #[68, 68] 3 #[.slice (some ⟨b, k * 4, none⟩) (n - k) (n - k), .slice (some ⟨b, 0, none⟩) k n]).run Tryz.prog w = .ok (.int .i64 (Nat.min k (n - k) : Nat)) w' ∧
   w'.rowIs b 95 (n * 4) (repR p (k + Nat.min k (n - k))) ∧ w'.heap.size = w.heap.size ∧ ∀ w0, Below B w0 w → Below B w0 w' := by
 obtain ⟨c, hb, hn, hc⟩ := h
 have hm : Nat.min k (n - k) ≤ n - k := Nat.min_le_right _ _
 have hm2 : Nat.min k (n - k) ≤ k := Nat.min_le_left _ _
 generalize hmm : Nat.min k (n - k) = m at hm hm2 ⊢
 have e := run_copy_rowS (P := Tryz.prog) w 68 68 3 95 b (k * 4) (n - k) (n - k) ⟨b, 0, none⟩ k n c 95 (patL p (m * 4)) 4 m Tryz.underlying68 (by kernel_rfl) hb hmm.symm (patL_len _ _)
  (fun j v hj => by
   have hjm : j < m * 4 := by have := (List.getElem?_eq_some_iff.1 hj).1; rw [patL_len] at this; exact this
   rw [add_at, Nat.zero_add]
   rw [patL_get _ _ _ hjm] at hj
   have hcell : w.cell? ⟨b, j, none⟩ = some (repR p k j) := World.rowIs.cell ⟨c, hb, hn, hc⟩ (by omega)
   rw [hcell, ← hj]; unfold repR; rw [if_pos (by omega)])
  (by rw [patL_len]; omega) (fun v hv => by simp [patL] at hv; obtain ⟨a, _, rfl⟩ := hv; exact hp1 a)
 refine ⟨_, e, ⟨_, setRow_heap w b c _ _ _ hb, ?_, fun i hi => ?_⟩, size_setRow _ _ _, fun w0 hw => below_setRow hw hB _⟩
 ·simp [patL_len]; omega
 ·have hci := hc i hi
  simp only [List.getElem?_toArray, patL_len]
  by_cases h1 : i < k * 4
  ·rw [List.append_assoc, List.getElem?_append_left (by simp; omega), List.getElem?_take_of_lt h1, Array.getElem?_toList, hci]
   unfold repR; rw [if_pos h1, if_pos (by omega)]
  ·by_cases h2 : i < (k + m) * 4
   ·have hl : (List.take (k * 4) c.toList).length = k * 4 := by simp; omega
    rw [List.append_assoc, List.getElem?_append_right (by omega), List.getElem?_append_left (by rw [patL_len]; omega), hl, patL_get _ _ _ (by omega)]
    unfold repR; rw [if_pos h2]
    have := hp (i - k * 4) k
    rw [show i - k * 4 + k * 4 = i by omega] at this
    rw [this]
   ·have hl : (List.take (k * 4) c.toList ++ patL p (m * 4)).length = k * 4 + m * 4 := by simp [patL_len]; omega
    rw [List.getElem?_append_right (by omega), List.getElem?_drop, Array.getElem?_toList, hl, show k * 4 + m * 4 + (i - (k * 4 + m * 4)) = i by omega, hci]
    unfold repR; rw [if_neg h1, if_neg h2]
theorem copyR_first (w : World) (b n c : Nat) (p : Nat → Value) (hp1 : ∀ i, (p i).oneCell' = true) (hn : 0 < n) (hb : ∀ i, i < 4 → w.cell? ⟨b, i, none⟩ = some (p i)) :
  ∃ w', (Builtin.copy_ #[68, 68] 3 #[.slice (some ⟨w.heap.size, 0, none⟩) n n, .slice (some ⟨b, 0, none⟩) 1 c]).run Tryz.prog (w.alloc (.cells (madeCells zR (n * 4)) 95)) = .ok (.int .i64 1) w' ∧
   w'.rowIs w.heap.size 95 (n * 4) (repR p 1) ∧ w'.heap.size = w.heap.size + 1 ∧ Below w.heap.size w w' := by
 have hz : (madeCells zR (n * 4)).size = n * 4 := size_madeCells _ _
 have hnew : (w.alloc (.cells (madeCells zR (n * 4)) 95)).heap[w.heap.size]? = some (.cells (madeCells zR (n * 4)) 95 (0, 0)) := by unfold World.alloc; simp
 have e := run_copy_rowS (P := Tryz.prog) (w.alloc (.cells (madeCells zR (n * 4)) 95)) 68 68 3 95 w.heap.size 0 n n ⟨b, 0, none⟩ 1 c (madeCells zR (n * 4)) 95
  (patL p 4) 4 1 Tryz.underlying68 (by kernel_rfl) hnew (by show 1 = Nat.min 1 n; exact (Nat.min_eq_left hn).symm) rfl (fun j v hj => by
   have hj4 : j < 4 := by have := (List.getElem?_eq_some_iff.1 hj).1; rw [patL_len] at this; exact this
   rw [patL_get _ _ _ hj4] at hj
   rw [add_at, Nat.zero_add, ← hj]
   exact (World.cell?_alloc_some w _ _ (by show (w.cell? ⟨b, j, none⟩).isSome = true; rw [hb j hj4]; rfl)).trans (hb j hj4)) (by rw [hz, patL_len]; omega) (fun v hv => by simp [patL] at hv; obtain ⟨a, _, rfl⟩ := hv; exact hp1 a)
 refine ⟨_, e, ⟨_, setRow_heap _ _ _ _ _ _ hnew, ?_, fun i hi => ?_⟩, by rw [size_setRow]; simp, below_setRow ((Below.refl w.heap.size w).alloc (Nat.le_refl _) _) (Nat.le_refl _) _⟩
 ·simp [patL_len, hz]; omega
 ·have hm := made_zero4 (n * 4) i hi
  unfold repR
  simp only [List.getElem?_toArray, List.take_zero, List.nil_append]
  by_cases h1 : i < 1 * 4
  ·rw [if_pos h1, List.getElem?_append_left (by rw [patL_len]; omega), patL_get _ _ _ (by omega)]
  ·rw [if_neg h1, List.getElem?_append_right (by rw [patL_len]; omega), List.getElem?_drop, Array.getElem?_toList, patL_len, show 0 + 4 + (i - 4) = i by omega]
   exact hm
set_option maxHeartbeats 2000000 in
set_option maxRecDepth 100000 in
theorem repeatR_any (b c n : Nat) (p : Nat → Value) (hp : ∀ i j, p (i + j * 4) = p i) (hp1 : ∀ i, (p i).oneCell' = true) (w : World) (h0 : 0 < n) (hn : n ≤ 8) (hb : ∀ i, i < 4 → w.cell? ⟨b, i, none⟩ = some (p i)) :
  Calls Tryz.prog 82 #[.slice (some ⟨b, 0, none⟩) 1 c, .int .i64 (n : Nat)] w fun e w' => e = .returned (.slice (some ⟨w.heap.size, 0, none⟩) n n) ∧ w'.rowIs w.heap.size 95 (n * 4) (repR p n) ∧ w'.heap.size = w.heap.size + 1 ∧ Below w.heap.size w w' := by
 have hmk := mkRn n (by omega)
 have g0 : (0:Int) < (n:Int) := by omega
 have hw1 : IntKind.u64.wrap (n : Int) = (n : Int) := by rw [IntKind.wrap_u64]; omega
 have hw2 : IntKind.i64.wrap (n : Int) = (n : Int) := by rw [IntKind.wrap_i64]; omega
 have hlim : ¬ (n : Int) > 9223372036854775807 := by omega
 obtain ⟨wC, hcp, HR, hsz, HB⟩ := copyR_first w b n c p hp1 h0 hb
 have HR := Lib.hid HR
 have HB := Lib.hid HB
 have HSZ := Lib.hid hsz
 have HP := Lib.hid hp
 have HP1 := Lib.hid hp1
 clear hsz hb hp hp1
 have hul := rats_z
 go_enter Tryz.func82, Tryz.ntmps82
 go_wp2_with (first
  | (go_at_call 97; (with_reducible refine (mul1n n hn _).mono ?_); rintro e w1 ⟨rfl, rfl⟩))
 go_loopw [8] (fun v8 wr => ∃ k : Nat, 0 < k ∧ k ≤ n ∧ v8 = .int .i64 (k : Nat) ∧ Hid (wr.rowIs w.heap.size 95 (n * 4) (repR p k)) ∧ Hid (wr.heap.size = w.heap.size + 1) ∧ Hid (Below w.heap.size w wr)) (fun v8 _ => n - (intOf v8).toNat)
 case atStart => exact ⟨1, by omega, by omega, rfl, HR, HSZ, HB⟩
 case round =>
  clear HR HSZ HB
  obtain ⟨k, k0, hk, rfl, HR, HSZ, HB⟩ := hrel
  by_cases h : k < n
  ·obtain ⟨wD, hc2, HR2, hsz2, HB2⟩ := copyR_in wr.drew w.heap.size n k w.heap.size p HP.out HP1.out k0 h (Nat.le_refl _) HR.out
   have HR2 := Lib.hid HR2
   have HB2 := Lib.hid (HB2 _ HB.out.drew)
   have HSZ2 := Lib.hid hsz2
   clear hsz2
   have hm1 : Nat.min k (n - k) ≤ n - k := Nat.min_le_right _ _
   have hm0 : 0 < Nat.min k (n - k) := by show 0 < min k (n - k); omega
   generalize Nat.min k (n - k) = m at *
   have hwk : IntKind.i64.wrap ((k : Int) + (m : Int)) = ((k + m : Nat) : Int) := by rw [IntKind.wrap_i64]; omega
   have g1 : (0:Int) ≤ (k:Int) := Int.natCast_nonneg k
   have g2 : (k:Int) < (n:Int) := by omega
   have g3 : (k:Int) ≤ (n:Int) := by omega
   go_wp2
   go_region
   go_wp2
   go_roundw
   case rel => exact ⟨k + m, by omega, by omega, by go_num, HR2, Lib.hid (HSZ2.out.trans HSZ.out), HB2⟩
   case measure => simp [intOf]; omega
  ·obtain rfl : k = n := by omega
   go_wp2
   go_ret
   exact ⟨rfl, HR.out, HSZ.out, HB.out⟩
/-- the same, said of Rats -/
theorem repeat_rat (b c n : Nat) (x : Rat) (K : Nat) (s : Bool) (a a2 : Option Addr) (m e m2 e2 : Nat) (w : World) (h0 : 0 < n) (hn : n ≤ 8) (h : Own4 w b (.bool s) (.slice a m e) (.bool false) (.slice a2 m2 e2)) (hv : RatIs w (.agg #[.bool s, .slice a m e, .bool false, .slice a2 m2 e2]) x K) :
  Calls Tryz.prog 82 #[.slice (some ⟨b, 0, none⟩) 1 c, .int .i64 (n : Nat)] w fun ex w' => ∃ g, ex = .returned (.slice (some ⟨g, 0, none⟩) n n) ∧ RatRow w' g n (fun _ => x) K ∧ w.heap.size ≤ g ∧ Below w.heap.size w w' := by
 refine (repeatR_any b c n (pat4 (.bool s) (.slice a m e) (.bool false) (.slice a2 m2 e2)) (fun i j => by unfold pat4; rw [show (i + j * 4) % 4 = i % 4 by omega]) (pat4_one _ _ _ _ rfl rfl rfl rfl) w h0 hn (fun i hi => ?_)).mono ?_
 ·rcases (by omega : i = 0 ∨ i = 1 ∨ i = 2 ∨ i = 3) with rfl | rfl | rfl | rfl
  ·exact h.c0
  ·exact h.c1
  ·exact h.c2
  ·exact h.c3
 ·rintro ex w' ⟨rfl, hr, hs, hb⟩
  have hv2 := hv.mono hb (Nat.le_refl _)
  have ee : ∀ j r, r < 4 → j < n → repR (pat4 (.bool s) (.slice a m e) (.bool false) (.slice a2 m2 e2)) n (j * 4 + r) = pat4 (.bool s) (.slice a m e) (.bool false) (.slice a2 m2 e2) r := fun j r hr hj => by
   unfold repR; rw [if_pos (by omega)]; unfold pat4; rw [show (j * 4 + r) % 4 = r % 4 by omega]
  refine ⟨_, rfl, ⟨fun j hj => ⟨s, a, m, e, a2, m2, e2, ⟨?_, ?_, ?_, ?_, hr.lt⟩, fun _ => hv2⟩, fun o => hr.frozen o, hr.lt⟩, Nat.le_refl _, hb⟩
  ·rw [hr.cell (i := j * 4) (by omega)]; congr 1; exact ee j 0 (by omega) hj
  ·rw [hr.cell (i := j * 4 + 1) (by omega)]; congr 1; exact ee j 1 (by omega) hj
  ·rw [hr.cell (i := j * 4 + 2) (by omega)]; congr 1; exact ee j 2 (by omega) hj
  ·rw [hr.cell (i := j * 4 + 3) (by omega)]; congr 1; exact ee j 3 (by omega) hj
end Go.Proofs.YtcnaagiicpkcpaaGreat

/- Plain: solving equations by elimination, of a matrix whose pivots are above 0. -/
namespace Go.Proofs.YtcnaagiicpkcpaaGreat
/-- row i behind the elimination of column c -/
def elimQ (c : Nat) (a : Nat → Nat → Rat) (i j : Nat) : Rat := if c < i ∧ c ≤ j then a i j - a i c / a c c * a c j else a i j
/-- all columns below c -/
def triQ (a : Nat → Nat → Rat) : Nat → Nat → Nat → Rat
 | 0 => a
 | c + 1 => elimQ c (triQ a c)
/-- a matrix of k rows with k + 1 columns, from column c on: no number above 0 beside the diagonal, no column with a sum below 0, no homogeneous solution -/
structure MMat (k c : Nat) (a : Nat → Nat → Rat) : Prop where
 off : ∀ i j, c ≤ i → i < k → c ≤ j → j < k → i ≠ j → a i j ≤ 0
 col : ∀ j, c ≤ j → j < k → 0 ≤ sumQ (fun i => if c ≤ i then a i j else 0) k
 ker : ∀ z : Nat → Rat, (∀ i, c ≤ i → i < k → sumQ (fun j => if c ≤ j then a i j * z j else 0) k = 0) → ∀ i, c ≤ i → i < k → z i = 0
theorem sumQ_split (f : Nat → Rat) (c : Nat) : ∀ k, c < k → sumQ (fun i => if c ≤ i then f i else 0) k = f c + sumQ (fun i => if c + 1 ≤ i then f i else 0) k
 | 0, h => by omega
 | k + 1, h => by
  simp only [sumQ]
  by_cases e : c = k
  ·subst e
   have h1 : sumQ (fun i => if c ≤ i then f i else 0) c = 0 := sumQ_eq_zero c (fun i hi => if_neg (by omega))
   have h2 : sumQ (fun i => if c + 1 ≤ i then f i else 0) c = 0 := sumQ_eq_zero c (fun i hi => if_neg (by omega))
   rw [h1, h2, if_pos (Nat.le_refl _), if_neg (by omega)]
   grind
  ·rw [sumQ_split f c k (by omega), if_pos (by omega), if_pos (by omega)]
   grind
theorem MMat.pivot {k c : Nat} {a : Nat → Nat → Rat} (h : MMat k c a) (hc : c < k) : 0 < a c c := by
 have h1 := h.col c (Nat.le_refl _) hc
 rw [sumQ_split (fun i => a i c) c k hc] at h1
 have h2 : sumQ (fun i => if c + 1 ≤ i then a i c else 0) k ≤ sumQ (fun _ => 0) k := sumQ_le k (fun i hi => by
  by_cases e : c + 1 ≤ i
  ·rw [if_pos e]; exact h.off i c (by omega) hi (Nat.le_refl _) hc (by omega)
  ·rw [if_neg e]; exact Rat.le_refl)
 have h3 := h2
 rw [sumQ_zero] at h3
 by_cases e : a c c = 0
 ·exfalso
  have h4 := sumQ_le_eq k (f := fun i => if c + 1 ≤ i then a i c else 0) (g := fun _ => 0) (fun i hi => by
   by_cases e : c + 1 ≤ i
   ·rw [if_pos e]; exact h.off i c (by omega) hi (Nat.le_refl _) hc (by omega)
   ·rw [if_neg e]; exact Rat.le_refl) (by rw [sumQ_zero]; grind)
  have := h.ker (fun j => if j = c then 1 else 0) (fun i hi hk => by
   rw [sumQ_one _ c k hc (fun j hj hn => by simp [hn])]
   rw [if_pos (Nat.le_refl _), if_pos rfl]
   by_cases e2 : i = c
   ·subst e2; rw [e]; grind
   ·have := h4 i hk
    rw [if_pos (by omega)] at this
    rw [this]; grind) c (Nat.le_refl _) hc
  simp at this
 ·grind
theorem mul_nonpos {x y : Rat} (hx : x ≤ 0) (hy : 0 ≤ y) : x * y ≤ 0 := by
 have := Rat.mul_le_mul_of_nonneg_right hx hy
 grind
theorem mul_nonpos2 {x y : Rat} (hx : x ≤ 0) (hy : y ≤ 0) : 0 ≤ x * y := by
 have := Rat.mul_nonneg (a := -x) (b := -y) (by grind) (by grind)
 grind
theorem inv_pos' {x : Rat} (h : 0 < x) : 0 < x⁻¹ := Rat.inv_pos.2 h
theorem MMat.step {k c : Nat} {a : Nat → Nat → Rat} (h : MMat k c a) (hc : c < k) : MMat k (c + 1) (elimQ c a) := by
 have hp := h.pivot hc
 have hi := inv_pos' hp
 have hne : a c c ≠ 0 := by grind
 refine ⟨fun i j h1 h2 h3 h4 hn => ?_, fun j h3 h4 => ?_, fun z hz i h1 h2 => ?_⟩
 ·unfold elimQ
  rw [if_pos ⟨by omega, by omega⟩]
  have e1 := h.off i j (by omega) h2 (by omega) h4 hn
  have e2 := h.off i c (by omega) h2 (by omega) hc (by omega)
  have e3 := h.off c j (by omega) hc (by omega) h4 (by omega)
  have e4 := Rat.mul_nonneg (mul_nonpos2 e2 e3) (Rat.le_of_lt hi)
  have e5 : a i c / a c c * a c j = a i c * a c j * (a c c)⁻¹ := by rw [Rat.div_def]; grind
  rw [e5]; grind
 ·have e1 := h.col j (by omega) h4
  rw [sumQ_split (fun i => a i j) c k hc] at e1
  have e2 := h.col c (Nat.le_refl _) hc
  rw [sumQ_split (fun i => a i c) c k hc] at e2
  have e3 := h.off c j (by omega) hc (by omega) h4 (by omega)
  have e4 : sumQ (fun i => if c + 1 ≤ i then elimQ c a i j else 0) k = sumQ (fun i => if c + 1 ≤ i then a i j else 0) k - (a c c)⁻¹ * a c j * sumQ (fun i => if c + 1 ≤ i then a i c else 0) k := by
   rw [← sumQ_mul, ← sumQ_sub]
   refine sumQ_congr k (fun i hi => ?_)
   by_cases e : c + 1 ≤ i
   ·simp only [if_pos e]
    unfold elimQ
    rw [if_pos ⟨by omega, by omega⟩, Rat.div_def]; grind
   ·simp only [if_neg e]; grind
  rw [e4]
  -- the sum of the pivot's column below it is at or above minus the pivot
  generalize sumQ (fun i => if c + 1 ≤ i then a i c else 0) k = s at e2 ⊢
  generalize sumQ (fun i => if c + 1 ≤ i then a i j else 0) k = t at e1 ⊢
  have e6 : 0 ≤ (a c c + s) * (a c c)⁻¹ := Rat.mul_nonneg e2 (Rat.le_of_lt hi)
  have e7 : (a c c + s) * (a c c)⁻¹ = 1 + s * (a c c)⁻¹ := by grind
  rw [e7] at e6
  have e8 := mul_nonpos e3 e6
  grind
 ·-- a homogeneous solution behind the step is one ahead of it
  have e0 : ∀ i, c ≤ i → i < k → sumQ (fun j => if c ≤ j then a i j * (if j = c then - ((a c c)⁻¹ * sumQ (fun j => if c + 1 ≤ j then a c j * z j else 0) k) else z j) else 0) k = 0 := by
   intro i h1 h2
   rw [sumQ_split (fun j => a i j * (if j = c then - ((a c c)⁻¹ * sumQ (fun j => if c + 1 ≤ j then a c j * z j else 0) k) else z j)) c k hc, if_pos rfl]
   have e1 : sumQ (fun j => if c + 1 ≤ j then a i j * (if j = c then - ((a c c)⁻¹ * sumQ (fun j => if c + 1 ≤ j then a c j * z j else 0) k) else z j) else 0) k = sumQ (fun j => if c + 1 ≤ j then a i j * z j else 0) k :=
    sumQ_congr k (fun j hj => by
     by_cases e : c + 1 ≤ j
     ·simp only [if_pos e]; rw [if_neg (by omega)]
     ·simp only [if_neg e])
   rw [e1]
   by_cases e : i = c
   ·subst e; grind
   ·have e2 := hz i (by omega) h2
    have e3 : sumQ (fun j => if c + 1 ≤ j then elimQ c a i j * z j else 0) k = sumQ (fun j => if c + 1 ≤ j then a i j * z j else 0) k - a i c * (a c c)⁻¹ * sumQ (fun j => if c + 1 ≤ j then a c j * z j else 0) k := by
     rw [← sumQ_mul, ← sumQ_sub]
     refine sumQ_congr k (fun j hj => ?_)
     by_cases e : c + 1 ≤ j
     ·simp only [if_pos e]
      unfold elimQ
      rw [if_pos ⟨by omega, by omega⟩, Rat.div_def]; grind
     ·simp only [if_neg e]; grind
    rw [e3] at e2
    grind
  have := h.ker _ e0 i (by omega) h2
  rwa [if_neg (by omega)] at this
theorem MMat.tri {k : Nat} {a : Nat → Nat → Rat} (h : MMat k 0 a) : ∀ c, c ≤ k → MMat k c (triQ a c)
 | 0, _ => h
 | c + 1, hc => (MMat.tri h c (by omega)).step (by omega)
/-- the last column of row i, less what the columns from c on hold -/
def resid (k c : Nat) (a : Nat → Nat → Rat) (x : Nat → Rat) (i : Nat) : Rat := a i k - sumQ (fun j => if c ≤ j then a i j * x j else 0) k
theorem resid_step {k c : Nat} {a : Nat → Nat → Rat} (x : Nat → Rat) (hc : c < k) (hp : a c c ≠ 0) (i : Nat) (hi : c < i) (h : resid k (c + 1) (elimQ c a) x i = 0) (h0 : resid k c a x c = 0) : resid k c a x i = 0 := by
 unfold resid at *
 rw [sumQ_split (fun j => a c j * x j) c k hc] at h0
 rw [sumQ_split (fun j => a i j * x j) c k hc]
 have e3 : sumQ (fun j => if c + 1 ≤ j then elimQ c a i j * x j else 0) k = sumQ (fun j => if c + 1 ≤ j then a i j * x j else 0) k - a i c * (a c c)⁻¹ * sumQ (fun j => if c + 1 ≤ j then a c j * x j else 0) k := by
  rw [← sumQ_mul, ← sumQ_sub]
  refine sumQ_congr k (fun j hj => ?_)
  by_cases e : c + 1 ≤ j
  ·simp only [if_pos e]
   unfold elimQ
   rw [if_pos ⟨by omega, by omega⟩, Rat.div_def]; grind
  ·simp only [if_neg e]; grind
 rw [e3] at h
 have e4 : elimQ c a i k = a i k - a i c * (a c c)⁻¹ * a c k := by
  unfold elimQ
  rw [if_pos ⟨by omega, by omega⟩, Rat.div_def]
 rw [e4] at h
 grind
theorem triQ_row (a : Nat → Nat → Rat) (i j : Nat) : ∀ d c, i ≤ c → triQ a (c + d) i j = triQ a c i j
 | 0, _, _ => rfl
 | d + 1, c, h => by
  show elimQ (c + d) (triQ a (c + d)) i j = _
  unfold elimQ
  rw [if_neg (by omega)]
  exact triQ_row a i j d c h
/-- what solves the triangle solves the equations -/
theorem solved {k : Nat} {a : Nat → Nat → Rat} (hm : MMat k 0 a) (x : Nat → Rat) (hx : ∀ i, i < k → resid k i (triQ a k) x i = 0) : ∀ i, i < k → resid k 0 a x i = 0 := by
 have key : ∀ d c, c + d = k → ∀ i, c ≤ i → i < k → resid k c (triQ a c) x i = 0 := by
  intro d
  induction d with
  | zero => intro c hc i h1 h2; omega
  | succ d ih =>
   intro c hc i h1 h2
   have hck : c < k := by omega
   have hp := (hm.tri c (by omega)).pivot hck
   have h0 : resid k c (triQ a c) x c = 0 := by
    have := hx c hck
    unfold resid at *
    have e : ∀ j, triQ a k c j = triQ a c c j := fun j => by
     have := triQ_row a c j (k - c) c (Nat.le_refl _)
     rwa [show c + (k - c) = k by omega] at this
    simp only [e] at this
    exact this
   by_cases e : i = c
   ·subst e; exact h0
   ·exact resid_step x hck (by grind) i (by omega) (ih (c + 1) (by omega) i (by omega) h2) h0
 exact fun i hi => key k 0 (by omega) i (Nat.zero_le _) hi
end Go.Proofs.YtcnaagiicpkcpaaGreat

/- Plain: how great the solution of equations in integers can be. -/
namespace Go.Proofs.YtcnaagiicpkcpaaGreat
/-- variable v out of all equations, by equation p -/
def stepI (p v : Nat) (A : Nat → Nat → Int) (r j : Nat) : Int := A p v * A r j - A r v * A p j
/-- equations in n unknowns (column n: the right side) without the unknowns of V; only 0 solves them with right side 0 -/
structure SysI (m n : Nat) (V : Nat → Prop) (A : Nat → Nat → Int) (B : Nat) (x : Nat → Rat) : Prop where
 bnd : ∀ r j, r < m → j ≤ n → (A r j).natAbs ≤ B
 out : ∀ r j, r < m → j < n → V j → A r j = 0
 sol : ∀ r, r < m → sumQ (fun j => (A r j : Rat) * x j) n = (A r n : Rat)
 ker : ∀ z : Nat → Rat, (∀ j, j < n → V j → z j = 0) → (∀ r, r < m → sumQ (fun j => (A r j : Rat) * z j) n = 0) → ∀ j, j < n → z j = 0
theorem stepI_sum (p v n : Nat) (A : Nat → Nat → Int) (r : Nat) (z : Nat → Rat) : sumQ (fun j => (stepI p v A r j : Rat) * z j) n = (A p v : Rat) * sumQ (fun j => (A r j : Rat) * z j) n - (A r v : Rat) * sumQ (fun j => (A p j : Rat) * z j) n := by
 rw [← sumQ_mul, ← sumQ_mul, ← sumQ_sub]
 refine sumQ_congr n (fun j _ => ?_)
 unfold stepI
 rw [Rat.intCast_sub, Rat.intCast_mul, Rat.intCast_mul]
 grind
theorem SysI.step {m n : Nat} {V : Nat → Prop} {A : Nat → Nat → Int} {B : Nat} {x : Nat → Rat} (h : SysI m n V A B x) (v : Nat) (hv : v < n) (hV : ¬ V v) : ∃ A', SysI m n (fun j => V j ∨ j = v) A' (2 * (B * B)) x := by
 obtain ⟨p, hp, hne⟩ : ∃ p, p < m ∧ A p v ≠ 0 := by
  refine Classical.byContradiction (fun hn => ?_)
  have hz : ∀ r, r < m → A r v = 0 := fun r hr => Classical.byContradiction (fun h => hn ⟨r, hr, h⟩)
  have := h.ker (fun j => if j = v then 1 else 0) (fun j _ hj => by
   by_cases e : j = v
   ·subst e; exact absurd hj hV
   ·simp [e]) (fun r hr => by
   rw [sumQ_one _ v n hv (fun i _ hi => by simp [hi]), if_pos rfl, hz r hr]
   simp) v hv
  simp at this
 have hnq : (A p v : Rat) ≠ 0 := by
  intro e
  have : ((A p v : Int) : Rat) = ((0 : Int) : Rat) := e
  exact hne (Rat.intCast_inj.1 this)
 refine ⟨stepI p v A, fun r j hr hj => ?_, fun r j hr hj hVj => ?_, fun r hr => ?_, fun z hz hs => ?_⟩
 ·unfold stepI
  have h1 : (A p v * A r j).natAbs ≤ B * B := by rw [Int.natAbs_mul]; exact Nat.mul_le_mul (h.bnd p v hp (by omega)) (h.bnd r j hr hj)
  have h2 : (A r v * A p j).natAbs ≤ B * B := by rw [Int.natAbs_mul]; exact Nat.mul_le_mul (h.bnd r v hr (by omega)) (h.bnd p j hp hj)
  omega
 ·unfold stepI
  rcases hVj with e | e
  ·rw [h.out r j hr hj e, h.out p j hp hj e]; simp
  ·subst e; rw [Int.mul_comm]; omega
 ·rw [stepI_sum, h.sol r hr, h.sol p hp]
  unfold stepI
  rw [Rat.intCast_sub, Rat.intCast_mul, Rat.intCast_mul]
 ·have hzv : z v = 0 := hz v hv (.inr rfl)
  have e1 : ∀ r, r < m → sumQ (fun j => (A r j : Rat) * (if j = v then - ((A p v : Rat)⁻¹ * sumQ (fun j => (A p j : Rat) * z j) n) else z j)) n = sumQ (fun j => (A r j : Rat) * z j) n - (A r v : Rat) * ((A p v : Rat)⁻¹ * sumQ (fun j => (A p j : Rat) * z j) n) := by
   intro r hr
   have e2 : sumQ (fun j => (A r j : Rat) * (if j = v then - ((A p v : Rat)⁻¹ * sumQ (fun j => (A p j : Rat) * z j) n) else z j)) n = sumQ (fun j => (A r j : Rat) * z j + (if j = v then - ((A r v : Rat) * ((A p v : Rat)⁻¹ * sumQ (fun j => (A p j : Rat) * z j) n)) else 0)) n :=
    sumQ_congr n (fun j _ => by
     by_cases e : j = v
     ·subst e; simp only [if_pos rfl, hzv]; grind
     ·simp only [if_neg e]; grind)
   rw [e2, sumQ_add, sumQ_one (fun j => if j = v then - ((A r v : Rat) * ((A p v : Rat)⁻¹ * sumQ (fun j => (A p j : Rat) * z j) n)) else 0) v n hv (fun i _ hi => by simp [hi]), if_pos rfl]
   grind
  have e3 := h.ker (fun j => if j = v then - ((A p v : Rat)⁻¹ * sumQ (fun j => (A p j : Rat) * z j) n) else z j) (fun j hj hVj => by
   have hjv : j ≠ v := fun e => hV (e ▸ hVj)
   simp only [if_neg hjv]
   exact hz j hj (.inl hVj)) (fun r hr => by
   rw [e1 r hr]
   have := hs r hr
   rw [stepI_sum] at this
   generalize sumQ (fun j => (A r j : Rat) * z j) n = s at this ⊢
   generalize sumQ (fun j => (A p j : Rat) * z j) n = t at this ⊢
   have e4 : (A p v : Rat) * (A p v : Rat)⁻¹ = 1 := by grind
   have e5 : (A p v : Rat)⁻¹ * ((A p v : Rat) * s - (A r v : Rat) * t) = 0 := by rw [this]; grind
   grind)
  intro j hj
  by_cases e : j = v
  ·subst e; exact hzv
  ·have := e3 j hj
   simp only [if_neg e] at this
   exact this
/-- the bound behind c steps -/
def bdI (B : Nat) : Nat → Nat
 | 0 => B
 | c + 1 => 2 * (bdI B c * bdI B c)
theorem bdI_le (B c : Nat) : bdI B c ≤ bdI B (c + 1) := by
 show bdI B c ≤ 2 * (bdI B c * bdI B c)
 have := Nat.le_mul_self (bdI B c)
 omega
theorem SysI.mono {m n : Nat} {V W : Nat → Prop} {A : Nat → Nat → Int} {B C : Nat} {x : Nat → Rat} (h : SysI m n V A B x) (hVW : ∀ j, j < n → (V j ↔ W j)) (hB : B ≤ C) : SysI m n W A C x :=
 ⟨fun r j hr hj => Nat.le_trans (h.bnd r j hr hj) hB, fun r j hr hj hw => h.out r j hr hj ((hVW j hj).2 hw), h.sol, fun z hz hs => h.ker z (fun j hj hv => hz j hj ((hVW j hj).1 hv)) hs⟩
theorem SysI.all {m n : Nat} {A : Nat → Nat → Int} {B : Nat} {x : Nat → Rat} (h : SysI m n (fun _ => False) A B x) (t : Nat) : ∀ c, c ≤ n → ∃ A', SysI m n (fun j => j < c ∧ j ≠ t) A' (bdI B c) x
 | 0, _ => ⟨A, h.mono (fun j _ => by simp) (Nat.le_refl _)⟩
 | c + 1, hc => by
  obtain ⟨A', h'⟩ := SysI.all h t c (by omega)
  by_cases e : c = t
  ·exact ⟨A', h'.mono (fun j _ => by constructor <;> (intro q; omega)) (bdI_le B c)⟩
  ·obtain ⟨A2, h2⟩ := h'.step c (by omega) (by omega)
   exact ⟨A2, h2.mono (fun j _ => by constructor <;> (intro q; omega)) (Nat.le_refl _)⟩
/-- each unknown is a quotient of bounded integers -/
theorem SysI.bound {m n : Nat} {A : Nat → Nat → Int} {B : Nat} {x : Nat → Rat} (h : SysI m n (fun _ => False) A B x) (t : Nat) (ht : t < n) : ∃ p q : Int, q ≠ 0 ∧ p.natAbs ≤ bdI B n ∧ q.natAbs ≤ bdI B n ∧ (q : Rat) * x t = (p : Rat) := by
 obtain ⟨A', h'⟩ := h.all t n (Nat.le_refl _)
 have hs : ∀ (r : Nat) (z : Nat → Rat), r < m → sumQ (fun j => (A' r j : Rat) * z j) n = (A' r t : Rat) * z t := fun r z hr =>
  sumQ_one _ t n ht (fun i hi hn => by rw [h'.out r i hr hi ⟨hi, hn⟩]; simp)
 obtain ⟨r, hr, hne⟩ : ∃ r, r < m ∧ A' r t ≠ 0 := by
  refine Classical.byContradiction (fun hn => ?_)
  have hz : ∀ r, r < m → A' r t = 0 := fun r hr => Classical.byContradiction (fun h => hn ⟨r, hr, h⟩)
  have := h'.ker (fun j => if j = t then 1 else 0) (fun j _ hj => by simp [hj.2]) (fun r hr => by
   rw [hs r _ hr, hz r hr]; simp) t ht
  simp at this
 refine ⟨A' r n, A' r t, hne, h'.bnd r n hr (Nat.le_refl _), h'.bnd r t hr (by omega), ?_⟩
 rw [← hs r x hr, h'.sol r hr]
theorem int_divInt (a : Int) : (a : Rat) = Rat.divInt a 1 := by
 apply Rat.ext
 ·rw [Rat.num_intCast, Rat.num_divInt]; simp
 ·rw [Rat.den_intCast, Rat.den_divInt]; simp
theorem mul_den_num (w : Rat) : w * (w.den : Rat) = (w.num : Rat) := by
 have a1 : (w.den : Rat) = Rat.divInt (w.den : Int) 1 := int_divInt (w.den : Int)
 have a3 : ((w.den : Nat) : Int) ≠ 0 := by have := w.den_pos; omega
 have a4 : w = Rat.divInt w.num w.den := (Rat.num_divInt_den w).symm
 rw [a1, int_divInt w.num]
 conv => lhs; arg 1; rw [a4]
 rw [Rat.divInt_mul_divInt, Int.mul_comm (w.den : Int) 1, Rat.divInt_mul_right a3]
/-- the parts of a number in lowest terms are at most those of any quotient that it is -/
theorem lowest_le {w : Rat} {p q : Int} (hq : q ≠ 0) (h : (q : Rat) * w = (p : Rat)) : w.num.natAbs ≤ p.natAbs ∧ w.den ≤ q.natAbs := by
 have e1 : w.num * q = p * w.den := by
  have e2 : w = mkRat w.num w.den := (Rat.mkRat_self w).symm
  have hd : (w.den : Rat) ≠ 0 := by
   intro e
   have : ((w.den : Int) : Rat) = ((0 : Int) : Rat) := e
   have := Rat.intCast_inj.1 this
   have := w.den_pos
   omega
  have e3 : w * (w.den : Rat) = (w.num : Rat) := mul_den_num w
  have e4 : ((w.num * q : Int) : Rat) = ((p * w.den : Int) : Rat) := by
   rw [Rat.intCast_mul, Rat.intCast_mul, ← e3, ← h]
   have : ((w.den : Int) : Rat) = (w.den : Rat) := rfl
   rw [this]; grind
  exact Rat.intCast_inj.1 e4
 have e2 : w.num.natAbs * q.natAbs = p.natAbs * w.den := by
  have := congrArg Int.natAbs e1
  simpa [Int.natAbs_mul] using this
 have hc : Nat.Coprime w.num.natAbs w.den := w.reduced
 constructor
 ·by_cases hp : p.natAbs = 0
  ·rw [hp] at e2
   have : 0 < q.natAbs := by omega
   have : w.num.natAbs = 0 := by
    rcases Nat.eq_zero_or_pos w.num.natAbs with h | h
    ·exact h
    ·have := Nat.mul_pos h this; omega
   omega
  ·exact Nat.le_of_dvd (by omega) (hc.dvd_of_dvd_mul_right ⟨_, e2.symm⟩)
 ·exact Nat.le_of_dvd (by omega) (hc.symm.dvd_of_dvd_mul_left ⟨p.natAbs, by rw [e2, Nat.mul_comm]⟩)
end Go.Proofs.YtcnaagiicpkcpaaGreat
