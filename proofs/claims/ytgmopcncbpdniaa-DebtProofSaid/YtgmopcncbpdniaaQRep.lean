/- slices.Repeat of []int{-1}. -/
import Derived.Test.YtgmopcncbpdniaaQCopy
import Derived.Laws.CopyOwn
set_option linter.unusedVariables false
set_option linter.unusedSimpArgs false
namespace Go.Proofs.Ytgmopcncbpdniaa
open Go.RowKit
attribute [local go_sem ↓] Go.wp_at_zero Go.wp_at_succ

/-- k times -1, then 0 -/
def repV (k : Nat) (i : Nat) : Value := if i < k then .int .i64 (-1) else .int .i64 0

theorem mul1n (n : Nat) (hn : n ≤ 8) (W : World) : Calls Try.prog 57 #[.int .u64 1, .int .u64 (n : Nat)] W fun e w' => e = .returned (.tuple #[.int .u64 0, .int .u64 (n : Nat)]) ∧ W = w' := by
  have h := Try.bits_Mul 1 n (by omega) (by omega) W
  refine Calls.mono (show Calls Try.prog 57 #[.int .u64 1, .int .u64 (n : Nat)] W _ from h) ?_
  rintro e w' ⟨rfl, rfl⟩
  refine ⟨?_, rfl⟩
  rw [Nat.one_mul, Nat.div_eq_of_lt (by omega), Nat.mod_eq_of_lt (by omega)]
  rfl

/-- copying a row's first k elements behind them -/
theorem copy_in (w : World) (b n k B : Nat) (hk : 0 < k) (hkn : k < n) (hB : B ≤ b) (h : w.rowIs b 3 n (repV k)) :
    ∃ w', (Builtin.copy_ #[23, 23] 3 #[.slice (some ⟨b, k, none⟩) (n - k) (n - k), .slice (some ⟨b, 0, none⟩) k n]).run Try.prog w = .ok (.int .i64 (Nat.min k (n - k) : Nat)) w' ∧
      w'.rowIs b 3 n (repV (k + Nat.min k (n - k))) ∧ w'.heap.size = w.heap.size ∧ ∀ w0, Below B w0 w → Below B w0 w' := by
  obtain ⟨c, hb, hn, hc⟩ := h
  have hm : Nat.min k (n - k) ≤ n - k := Nat.min_le_right _ _
  have hm2 : Nat.min k (n - k) ≤ k := Nat.min_le_left _ _
  generalize hmm : Nat.min k (n - k) = m at hm hm2 ⊢
  have e := run_copy_rowS (P := Try.prog) w 23 23 3 3 b k (n - k) (n - k) ⟨b, 0, none⟩ k n c 3 (List.replicate m (.int .i64 (-1))) 1 m Try.underlying23 (by kernel_rfl) hb hmm.symm (by simp)
    (fun j v hj => by
      have hjm : j < m := by simpa using (List.getElem?_eq_some_iff.1 hj).1
      have hadd : (⟨b, 0, none⟩ : Addr).add j = ⟨b, j, none⟩ := by unfold Addr.add; split <;> simp_all
      rw [hadd]
      have : v = .int .i64 (-1) := by simp [hjm] at hj; exact hj.symm
      have hcell : w.cell? ⟨b, j, none⟩ = some (repV k j) := World.rowIs.cell ⟨c, hb, hn, hc⟩ (by omega)
      rw [hcell, this]; unfold repV; rw [if_pos (by omega)])
    (by rw [List.length_replicate]; omega) (fun v hv => by rw [List.eq_of_mem_replicate hv]; rfl)
  refine ⟨_, e, ⟨_, setRow_heap w b c _ _ _ hb, ?_, fun i hi => ?_⟩, size_setRow _ _ _, fun w0 hw => below_setRow hw hB _⟩
  · simp; omega
  · have hci := hc i hi
    simp only [List.getElem?_toArray, List.length_replicate]
    by_cases h1 : i < k
    · rw [List.append_assoc, List.getElem?_append_left (by simp; omega), List.getElem?_take_of_lt h1, Array.getElem?_toList, hci]
      unfold repV; rw [if_pos h1, if_pos (by omega)]
    · by_cases h2 : i < k + m
      · rw [List.append_assoc, List.getElem?_append_right (by simp; omega), List.getElem?_append_left (by simp; omega)]
        rw [List.getElem?_replicate, if_pos (by simp; omega)]
        unfold repV; rw [if_pos h2]
      · rw [List.getElem?_append_right (by simp; omega), List.getElem?_drop, Array.getElem?_toList]
        have : k + m + (i - (List.take k c.toList ++ List.replicate m (Value.int IntKind.i64 (-1))).length) = i := by simp; omega
        rw [this, hci]
        unfold repV; rw [if_neg h1, if_neg h2]

/-- copying -1 into a row that was just made -/
theorem copy_first (w : World) (b n c : Nat) (hn : 0 < n) (hb : w.cell? ⟨b, 0, none⟩ = some (.int .i64 (-1))) :
    ∃ w', (Builtin.copy_ #[23, 23] 3 #[.slice (some ⟨w.heap.size, 0, none⟩) n n, .slice (some ⟨b, 0, none⟩) 1 c]).run Try.prog (w.alloc (.cells (madeCells #[.int .i64 0] n) 3)) = .ok (.int .i64 1) w' ∧
      w'.rowIs w.heap.size 3 n (repV 1) ∧ w'.heap.size = w.heap.size + 1 ∧ Below w.heap.size w w' := by
  have hz : (madeCells #[Value.int .i64 0] n).size = n := size_madeCells _ _
  have hnew : (w.alloc (.cells (madeCells #[.int .i64 0] n) 3)).heap[w.heap.size]? = some (.cells (madeCells #[.int .i64 0] n) 3 (0, 0)) := by unfold World.alloc; simp
  have e := run_copy_rowS (P := Try.prog) (w.alloc (.cells (madeCells #[.int .i64 0] n) 3)) 23 23 3 3 w.heap.size 0 n n ⟨b, 0, none⟩ 1 c (madeCells #[.int .i64 0] n) 3
    [.int .i64 (-1)] 1 1 Try.underlying23 (by kernel_rfl) hnew (by show 1 = Nat.min 1 n; exact (Nat.min_eq_left hn).symm) rfl (fun j v hj => by
      match j, hj with
      | 0, hj =>
        simp at hj; subst hj
        exact (World.cell?_alloc_some w _ _ (by show (w.cell? ⟨b, 0, none⟩).isSome = true; rw [hb]; rfl)).trans hb) (by rw [hz]; simp; omega) (fun v hv => by simp at hv; rw [hv]; rfl)
  refine ⟨_, e, ⟨_, setRow_heap _ _ _ _ _ _ hnew, ?_, fun i hi => ?_⟩, by rw [size_setRow]; simp, below_setRow ((Below.refl w.heap.size w).alloc (Nat.le_refl _) _) (Nat.le_refl _) _⟩
  · simp; omega
  · have hm : (madeCells #[Value.int .i64 0] n)[i]? = some (.int .i64 0) := by simp [madeCells, hi, Nat.mod_one]
    unfold repV
    by_cases h1 : i < 1
    · obtain rfl : i = 0 := by omega
      simp
    · rw [if_neg h1]
      simp only [List.getElem?_toArray]
      rw [List.getElem?_append_right (by simp; omega), List.getElem?_drop, Array.getElem?_toList]
      have : 0 + [Value.int IntKind.i64 (-1)].length + (i - (List.take 0 (madeCells #[Value.int .i64 0] n).toList ++ [Value.int IntKind.i64 (-1)]).length) = i := by simp; omega
      rw [this]; exact hm

set_option maxHeartbeats 2000000 in
set_option maxRecDepth 100000 in
theorem repeat_neg (b c n : Nat) (w : World) (h0 : 0 < n) (hn : n ≤ 8) (hb : w.cell? ⟨b, 0, none⟩ = some (.int .i64 (-1))) :
    Calls Try.prog 49 #[.slice (some ⟨b, 0, none⟩) 1 c, .int .i64 (n : Nat)] w fun e w' => e = .returned (.slice (some ⟨w.heap.size, 0, none⟩) n n) ∧ w'.rowIs w.heap.size 3 n (repV n) ∧ w'.heap.size = w.heap.size + 1 ∧ Below w.heap.size w w' := by
  have hmk := run_make_row' (P := Try.prog) 23 3 (.int .i64 0) 8 Try.underlying23 infoI rfl .i64 .i64 n (by omega) (by omega)
  have g0 : (0:Int) < (n:Int) := by omega
  have hw1 : IntKind.u64.wrap (n : Int) = (n : Int) := by rw [IntKind.wrap_u64]; omega
  have hw2 : IntKind.i64.wrap (n : Int) = (n : Int) := by rw [IntKind.wrap_i64]; omega
  have hlim : ¬ (n : Int) > 9223372036854775807 := by omega
  obtain ⟨wC, hcp, HR, hsz, HB⟩ := copy_first w b n c h0 hb
  have HR := Lib.hid HR
  have HB := Lib.hid HB
  have HSZ := Lib.hid hsz
  clear hsz
  go_enter Try.func49, Try.ntmps49
  go_wp2_with (first
    | (go_at_call 57; (with_reducible refine (mul1n n hn _).mono ?_); rintro e w1 ⟨rfl, rfl⟩))
  go_loopw [8] (fun v8 wr => ∃ k : Nat, 0 < k ∧ k ≤ n ∧ v8 = .int .i64 (k : Nat) ∧ Hid (wr.rowIs w.heap.size 3 n (repV k)) ∧ Hid (wr.heap.size = w.heap.size + 1) ∧ Hid (Below w.heap.size w wr)) (fun v8 _ => n - (intOf v8).toNat)
  case atStart => exact ⟨1, by omega, by omega, rfl, HR, HSZ, HB⟩
  case round =>
    clear HR HSZ HB
    obtain ⟨k, k0, hk, rfl, HR, HSZ, HB⟩ := hrel
    by_cases h : k < n
    · obtain ⟨wD, hc2, HR2, hsz2, HB2⟩ := copy_in wr.drew w.heap.size n k w.heap.size k0 h (Nat.le_refl _) HR.out
      have HR2 := Lib.hid HR2
      have HB2 := Lib.hid (HB2 _ HB.out.drew)
      have HSZ2 := Lib.hid hsz2
      clear hsz2
      have hm1 : Nat.min k (n - k) ≤ n - k := Nat.min_le_right _ _
      have hm0 : 0 < Nat.min k (n - k) := by show 0 < min k (n - k); omega
      generalize Nat.min k (n - k) = m at *
      have hwk : IntKind.i64.wrap ((k : Int) + (m : Int)) = ((k + m : Nat) : Int) := by rw [IntKind.wrap_i64]; omega
      have g1 : (0:Int) ≤ (k:Int) := Int.natCast_nonneg k
      have g2 : (k:Int) < (n:Int) := by omega
      have g3 : (k:Int) ≤ (n:Int) := by omega
      go_wp2
      go_region
      go_wp2
      go_roundw
      case rel => exact ⟨k + m, by omega, by omega, by go_num, HR2, Lib.hid (HSZ2.out.trans HSZ.out), HB2⟩
      case measure => simp [intOf]; omega
    · obtain rfl : k = n := by omega
      go_wp2
      go_ret
      exact ⟨rfl, HR.out, HSZ.out, HB.out⟩

end Go.Proofs.Ytgmopcncbpdniaa
