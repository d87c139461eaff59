/- copied of package debt: a matrix in memory of its own. -/
import Derived.Test.YtgmopcncbpdniaaQRing
import Derived.Test.YtgmopcncbpdniaaQLin2
import Derived.Test.YtgmopcncbpdniaaQRead
set_option linter.unusedVariables false
set_option linter.unusedSimpArgs false
namespace Go.Proofs.Ytgmopcncbpdniaa
open Go.RowKit
attribute [local go_sem ↓] Go.wp_at_zero Go.wp_at_succ

/-- a matrix of n rows of n integers in blocks of the call's own: block R holds the rows, block R + 1 + i row i -/
structure OwnMat (w : World) (R n : Nat) (r : Nat → Nat → Int) : Prop where
  top : w.rowIs R 23 n (fun i => .slice (some ⟨R + 1 + i, 0, none⟩) n n)
  row : ∀ i, i < n → w.rowIs (R + 1 + i) 3 n (ic (r i))

theorem rowIs_sl {w : World} {b t n : Nat} {f : Nat → Value} (h : w.rowIs b t n f) : IsSl w (some ⟨b, 0, none⟩) b 0 n n f :=
  ⟨Nat.le_refl _, fun _ => rfl, fun _ => h.lt, fun i hi => by rw [Nat.zero_add]; exact h.cell hi, fun e => by cases e⟩
theorem rowIs_below {w w' : World} {b t n B : Nat} {f : Nat → Value} (h : w.rowIs b t n f) (hb : Below B w w') (hB : b < B) : w'.rowIs b t n f := h.of_block (hb.block b hB)
theorem OwnMat.isMat {w : World} {R n : Nat} {r : Nat → Nat → Int} (h : OwnMat w R n r) : IsMat w (some ⟨R, 0, none⟩) R 0 n n (fun i => some ⟨R + 1 + i, 0, none⟩) (fun i => R + 1 + i) (fun _ => 0) (fun _ => n) (fun _ => n) r :=
  ⟨rowIs_sl h.top, fun i hi => rowIs_sl (h.row i hi)⟩
theorem OwnMat.mat {w : World} {R n : Nat} {r : Nat → Nat → Int} (h : OwnMat w R n r) : Mat w (.slice (some ⟨R, 0, none⟩) n n) n (fun _ => n) r := ⟨_, _, _, _, _, _, _, _, rfl, h.isMat⟩
theorem OwnMat.below {w w' : World} {R n B : Nat} {r : Nat → Nat → Int} (h : OwnMat w R n r) (hb : Below B w w') (hB : R + 1 + n ≤ B) : OwnMat w' R n r :=
  ⟨rowIs_below h.top hb (by omega), fun i hi => rowIs_below (h.row i hi) hb (by omega)⟩
theorem OwnMat.set {w : World} {R n i j : Nat} {r : Nat → Nat → Int} (h : OwnMat w R n r) (hi : i < n) (x : Int) : OwnMat (w.setCell ⟨R + 1 + i, j, none⟩ (.int .i64 x)) R n (upd2 r i j x) :=
  ⟨h.top.setOther (by dsimp only; omega) _, fun a ha => by
    by_cases e : a = i
    · subst e
      refine ((h.row a ha).set j _).congr fun b hb => ?_
      by_cases e2 : b = j
      · simp [ic, upd2, e2]
      · simp [ic, upd2, e2]
    · refine ((h.row a ha).setOther (by dsimp only; omega) _).congr fun b hb => ?_
      simp [ic, upd2, e]⟩

theorem infoIs : (Try.prog.info? 23).map (fun i => (i.zero, i.size, i.bytes)) = some (some (.slice none 0 0), 1, 24) := by kernel_rfl
theorem ics_one (f : Nat → Int) (n : Nat) : ∀ u ∈ ics f n, u.oneCell' = true := fun u hu => by
  simp [ics] at hu
  obtain ⟨i, _, rfl⟩ := hu
  rfl
theorem ics_length (f : Nat → Int) (n : Nat) : (ics f n).length = n := by simp [ics]

/-- copy into a row that was just made -/
theorem copy_new (w : World) (n : Nat) (a : Option Addr) (b o c : Nat) (f : Nat → Int) (hn : 0 < n) (h : IsSl w a b o c n (ic f)) :
    (Builtin.copy_ #[23, 23] 3 #[.slice (some ⟨w.heap.size, 0, none⟩) n n, .slice a n c]).run Try.prog (w.alloc (.cells (madeCells #[.int .i64 0] n) 3)) =
      .ok (.int .i64 (n : Nat)) (w.alloc (.cells (ics f n).toArray 3)) := by
  obtain rfl := h.at_ hn
  have hz : (madeCells #[Value.int .i64 0] n).size = n := size_madeCells _ _
  have e := run_copy_rowS (P := Try.prog) (w.alloc (.cells (madeCells #[.int .i64 0] n) 3)) 23 23 3 3 w.heap.size 0 n n ⟨b, o, none⟩ n c (madeCells #[.int .i64 0] n) 3
    (ics f n) 1 n Try.underlying23 (by kernel_rfl) (by unfold World.alloc; simp) (by simp) (by rw [ics_length]; omega) ?_ (by rw [ics_length, hz]; omega) (ics_one f n)
  · have hl : ((madeCells #[Value.int .i64 0] n).toList.take 0 ++ ics f n ++ (madeCells #[Value.int .i64 0] n).toList.drop (0 + (ics f n).length)).toArray = (ics f n).toArray := by
      rw [ics_length, Nat.zero_add, List.drop_eq_nil_of_le (by rw [Array.length_toList, hz]; omega)]
      simp
    rw [e, hl, alloc_setRow]
    rfl
  · intro j v hj
    have hlt := h.lt hn
    have hjn : j < n := by
      have := (List.getElem?_eq_some_iff.1 hj).1
      rw [ics_length] at this; exact this
    rw [ics_get f n j hjn] at hj
    have hadd : (⟨b, o, none⟩ : Addr).add j = ⟨b, o + j, none⟩ := by unfold Addr.add; split <;> simp_all
    rw [hadd, ← Option.some.inj hj]
    exact (World.cell?_alloc_some w _ _ (by rw [h.cell j hjn]; rfl)).trans (h.cell j hjn)

theorem row_of_ics (w : World) (b n : Nat) (f : Nat → Int) (hb : b = w.heap.size) : (w.alloc (.cells (ics f n).toArray 3)).rowIs b 3 n (ic f) := by
  subst hb
  have h := World.rowIs_alloc w (ics f n).toArray 3 (ic f) (fun i hi => by simp [ics_length] at hi; simp [ics, hi])
  simpa [ics_length] using h

set_option maxHeartbeats 2000000 in
set_option maxRecDepth 100000 in
theorem copied_any (v : Value) (n : Nat) (d : Nat → Nat → Int) (w : World) (hv : Mat w v n (fun _ => n) d) (h0 : 0 < n) (hn : n ≤ 8) :
    Calls Try.prog 36 #[v] w fun e w' => e = .returned (.slice (some ⟨w.heap.size, 0, none⟩) n n) ∧ OwnMat w' w.heap.size n d ∧ w'.heap.size = w.heap.size + 1 + n ∧ Below w.heap.size w w' := by
  obtain ⟨a, b, o, c, ra, rb, ro, rc, rfl, hs⟩ := hv
  have hmk := run_make_row' (P := Try.prog) 24 23 (.slice none 0 0) 24 Try.underlying24 infoIs rfl .i64 .i64 n (by omega) (by omega)
  have hmk2 := run_make_row' (P := Try.prog) 23 3 (.int .i64 0) 8 Try.underlying23 infoI rfl .i64 .i64 n (by omega) (by omega)
  have HROW := Lib.hid (World.rowIs_made w (.slice none 0 0) n 23)
  have KW0 := Lib.hid ((Below.refl w.heap.size w).alloc (Nat.le_refl _) (.cells (madeCells #[.slice none 0 0] n) 23))
  have HS := Lib.hid hs
  clear hs
  go_enter Try.func36, Try.ntmps36
  go_wp2
  go_loopw [4, 5, 11] (fun _ _ v11 wr => ∃ k : Nat, k ≤ n ∧ v11 = .int .i64 (k : Nat) ∧ Hid (wr.rowIs w.heap.size 23 n (fun i => if i < k then .slice (some ⟨w.heap.size + 1 + i, 0, none⟩) n n else .slice none 0 0)) ∧
      Hid (∀ i, i < k → wr.rowIs (w.heap.size + 1 + i) 3 n (ic (d i))) ∧ Hid (wr.heap.size = w.heap.size + 1 + k) ∧ Hid (Below w.heap.size w wr)) (fun _ _ v11 _ => n - (intOf v11).toNat)
  case atStart => exact ⟨0, by omega, rfl, Lib.hid (HROW.out.congr fun i hi => by simp), Lib.hid (fun i hi => by omega), Lib.hid (by simp), KW0⟩
  case round =>
    clear KW0 HROW
    obtain ⟨k, hk, rfl, TOP, ROWS, SZ, KW⟩ := hrel
    by_cases h : k < n
    · have hm := HS.out.mono KW.out (Nat.le_refl _)
      have hix := fun W => ixM hm.top k c h W
      have hcr := hm.top.cell k h
      have htx := fun W => ixM (rowIs_sl TOP.out) k n h W
      simp only [Nat.zero_add] at htx
      have htc := TOP.out.cell h
      rw [if_neg (Nat.lt_irrefl k)] at htc
      have htf := TOP.out.frozen k
      have hsz := SZ.out
      have hlt : w.heap.size < wr.heap.size := TOP.out.lt
      have hrw := hm.row k h
      have HRW := Lib.hid hrw
      have HSL : Hid (IsSl (wr.setCell ⟨w.heap.size, k, none⟩ (.slice (some ⟨wr.heap.size, 0, none⟩) n n)) (ra k) (rb k) (ro k) (rc k) n (ic (d k))) := Lib.hid (hrw.setCell _ htc (fun i hi e => by simp only [ic] at e; cases e))
      have hcp := copy_new (wr.setCell ⟨w.heap.size, k, none⟩ (.slice (some ⟨wr.heap.size, 0, none⟩) n n)) n (ra k) (rb k) (ro k) (rc k) (d k) h0 HSL.out
      have hss : (wr.setCell ⟨w.heap.size, k, none⟩ (.slice (some ⟨wr.heap.size, 0, none⟩) n n)).heap.size = wr.heap.size := by simp [World.setCell]
      rw [hss] at hcp
      clear hm hrw hss hsz
      go_wp2
      go_roundw
      case rel =>
        have hb1 : Below w.heap.size w ((wr.setCell ⟨w.heap.size, k, none⟩ (.slice (some ⟨wr.heap.size, 0, none⟩) n n)).alloc (.cells (ics (d k) n).toArray 3)) :=
          (KW.out.setCell (Nat.le_refl _) _).alloc (by simp only [World.setCell, Array.size_modify]; exact KW.out.size) _
        have e1 := SZ.out
        refine ⟨k + 1, by omega, by go_num, Lib.hid ?_, Lib.hid ?_, Lib.hid ?_, Lib.hid hb1⟩
        · refine ((TOP.out.set k _).alloc _).congr fun i hi => ?_
          by_cases e : i = k
          · subst e; rw [if_pos rfl, if_pos (by omega), e1]
          · rw [if_neg e]
            by_cases e2 : i < k
            · rw [if_pos e2, if_pos (by omega)]
            · rw [if_neg e2, if_neg (by omega)]
        · intro i hi
          by_cases e : i = k
          · subst e
            exact row_of_ics _ _ n (d i) (by simp only [World.setCell, Array.size_modify]; omega)
          · exact ((ROWS.out i (by omega)).setOther (by dsimp only; omega) _).alloc _
        · simp [World.setCell]; omega
      case measure => simp [intOf]; omega
    · obtain rfl : k = n := by omega
      go_wp2
      go_ret
      refine ⟨rfl, ⟨TOP.out.congr fun i hi => by rw [if_pos hi], ROWS.out⟩, SZ.out, KW.out⟩

end Go.Proofs.Ytgmopcncbpdniaa
