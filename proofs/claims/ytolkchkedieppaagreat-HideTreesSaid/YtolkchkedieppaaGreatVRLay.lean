/- Lay of the reference at sizes in range. -/
import Derived.Test.YtolkchkedieppaaGreatVHSame
import Derived.RegionTactic
set_option linter.unusedVariables false
set_option linter.unusedSimpArgs false
namespace Go.Proofs.YtolkchkedieppaaGreat
open Go.RowKit
attribute [local go_sem ↓] Go.wp_at_zero Go.wp_at_succ
/-- three cells of a box -/
structure Box3 (w : World) (b : Nat) (x y z : Value) : Prop where
 c0 : w.cell? ⟨b, 0, none⟩ = some x
 c1 : w.cell? ⟨b, 1, none⟩ = some y
 c2 : w.cell? ⟨b, 2, none⟩ = some z
 lt : b < w.heap.size
theorem Box3.below {w w' : World} {b B : Nat} {x y z : Value} (h : Box3 w b x y z) (hb : Below B w w') (hB : b < B) : Box3 w' b x y z :=
 ⟨(hb.cell (p := ⟨b, 0, none⟩) hB).trans h.c0, (hb.cell (p := ⟨b, 1, none⟩) hB).trans h.c1, (hb.cell (p := ⟨b, 2, none⟩) hB).trans h.c2, Nat.lt_of_lt_of_le h.lt hb.size⟩
theorem Box3.drew {w : World} {b : Nat} {x y z : Value} (h : Box3 w b x y z) : Box3 w.drew b x y z := ⟨h.c0, h.c1, h.c2, h.lt⟩
theorem Box3.far {w : World} {b : Nat} {x y z : Value} (h : Box3 w b x y z) (g o : Nat) (u : Value) (hne : g ≠ b) : Box3 (w.setCell ⟨g, o, none⟩ u) b x y z :=
 ⟨(cell?_setCell_ne' w _ _ u (by intro e; injection e with e1 _; exact hne e1.symm) rfl rfl).trans h.c0, (cell?_setCell_ne' w _ _ u (by intro e; injection e with e1 _; exact hne e1.symm) rfl rfl).trans h.c1, (cell?_setCell_ne' w _ _ u (by intro e; injection e with e1 _; exact hne e1.symm) rfl rfl).trans h.c2, by simp only [World.setCell, Array.size_modify]; exact h.lt⟩
theorem box3_new (w : World) (x y z : Value) (t : TypeId) : Box3 (w.alloc (.cells #[x, y, z] t)) w.heap.size x y z := ⟨by simp [go_sem], by simp [go_sem], by simp [go_sem], by simp⟩
theorem LayM.alloc {w wr : World} {g W B : Nat} {F : Nat → Int} {vo : Value} {out : List Sq} (h : LayM w wr g W B F vo out) (o : Obj) : LayM w (wr.alloc o) g W B F vo out :=
 ⟨rowIs_below h.row (boxes1 wr o) h.row.lt, own_kept h.out (boxes1 wr o), h.far, Nat.le_trans h.lb (boxes1 wr o).size, h.old, h.below.trans ((boxes1 wr o).mono h.below.size)⟩
theorem LayM.drew {w wr : World} {g W B : Nat} {F : Nat → Int} {vo : Value} {out : List Sq} (h : LayM w wr g W B F vo out) : LayM w wr.drew g W B F vo out := h.drawn (Drawn.of _ 1)
theorem minAt_step (F : Nat → Int) (j : Nat) : minAt F j = if F j < F (minAt F (j - 1)) then j else minAt F (j - 1) := by
 cases j with
 | zero => simp [minAt]
 | succ j => simp only [minAt, Nat.add_sub_cancel]
set_option maxHeartbeats 4000000 in
set_option maxRecDepth 100000 in
theorem rlay_any (v : Value) (W : Nat) (S : List Nat) (w : World) (hv : Ints w v S.length (eF S)) (hW : 1 ≤ W) (hW2 : W ≤ 1000) (hS24 : S.length ≤ 24) (hS : ∀ s ∈ S, 1 ≤ s ∧ s ≤ 1000) :
  Calls Tryz.prog 16 #[.int .i64 (W : Nat), v] w fun e w' =>
   ((∃ out F, layF W S (fun _ => 0) [] = some (out, F) ∧ Lvl W F ∧ ∃ va vk, e = .returned (.tuple #[.slice va out.length vk, .bool true]) ∧ w'.ownsRow w.heap.size 47 3 (.slice va out.length vk) out.length (sqL out)) ∨
    ((∀ out F, layF W S (fun _ => 0) [] = some (out, F) → ¬ Lvl W F) ∧ e = .returned (.tuple #[.slice none 0 0, .bool false]))) ∧ Below w.heap.size w w' := by
 have HI := Lib.hid hv
 obtain ⟨sa, sb, so, sc, rfl, hs⟩ := hv
 have HS := Lib.hid hs
 have HSS := Lib.hid hS
 obtain ⟨i0, hinf, hz0, hz1, hz2⟩ := info_parts infoS
 have hmk := run_make_row' (P := Tryz.prog) 22 3 (.int .i64 0) 8 Tryz.underlying22 infoF rfl .i64 .i64 W (by omega) (by omega)
 clear hs hS
 go_enter Tryz.func16, Tryz.ntmps16
 go_wp2
 generalize hgw : w.heap.size = g
 have L0 : Hid (LayM w ((w.alloc (.cells (madeCells #[.int .i64 0] W) 3)).alloc (.cells #[] 47)) g W (g + 1) (fun _ => 0) (.slice (some ⟨g + 1, 0, none⟩) 0 0) []) := Lib.hid (by
  rw [← hgw]
  have h1 := World.rowIs_made w (.int .i64 0) W 3
  refine ⟨rowIs_below h1 (boxes1 _ _) h1.lt, ?_, by omega, by simp, Nat.le_refl _, boxes2 _ _ _⟩
  have h3 : ((w.alloc (.cells (madeCells #[.int .i64 0] W) 3)).alloc (.cells #[] 47)).ownsRow (w.alloc (.cells (madeCells #[.int .i64 0] W) 3)).heap.size 47 3 (.slice (some ⟨(w.alloc (.cells (madeCells #[.int .i64 0] W) 3)).heap.size, 0, none⟩) 0 0) 0 [] := World.ownsRow_made _ #[] 0 (Nat.le_refl _) (by unfold maxLen; omega) rfl
  simpa [sqL] using h3)
 have LE0 : Hid (layF W (S.take 0) (fun _ => 0) [] = some ([], fun _ => 0)) := Lib.hid rfl
 generalize (w.alloc (.cells (madeCells #[.int .i64 0] W) 3)).alloc (.cells #[] 47) = w1 at L0 ⊢
 go_loopw [7, 8, 9, 10, 11, 12] (fun v7 v8 v9 v10 v11 v12 wr => ∃ (k : Nat) (out : List Sq) (F : Nat → Int) (vo : Value), k ≤ S.length ∧ v8 = .int .i64 (k : Nat) ∧ vo = v7 ∧ Hid (out.length = k) ∧ Hid (layF W (S.take k) (fun _ => 0) [] = some (out, F)) ∧ Hid (∀ i, 0 ≤ F i ∧ F i ≤ 1000) ∧ Hid (LayM w wr g W (g + 1) F vo out)) (fun _ v8 _ _ _ _ _ => S.length - (intOf v8).toNat)
 case atStart => exact ⟨0, [], fun _ => 0, _, by omega, rfl, rfl, Lib.hid rfl, LE0, Lib.hid (fun _ => by simp), L0⟩
 case round =>
  clear L0 LE0 hmk
  obtain ⟨k, out, F, vo, hk, rfl, rfl, HOL, LE, FR, LM⟩ := hrel
  obtain ⟨va, vk, rfl⟩ := own_shape LM.out.out
  have hln : out.length ≤ 24 := by have := HOL.out; omega
  have HG := Lib.hid (show g < g + 1 by omega)
  by_cases h : k < S.length
  ·have e1 : decide ((k : Int) < ((S.length : Nat) : Int)) = true := by simpa using h
   have e1n : decide (k < S.length) = true := by simpa using h
   have hsr := HSS.out _ (getD_mem h)
   obtain ⟨s, hs⟩ : ∃ s, s = S.getD k 0 := ⟨_, rfl⟩
   rw [← hs] at hsr
   have HSK := Lib.hid hs
   have HCS : Hid (∀ wx, Below w.heap.size w wx → (sa = some ⟨sb, so, none⟩) ∧ wx.cell? ⟨sb, so + k, none⟩ = some (.int .i64 (s : Nat))) := Lib.hid (fun wx hb => by
    have hc := (HS.out.mono hb (Nat.le_refl _)).cell k h
    simp only [ic, eF] at hc
    rw [hs]
    exact ⟨HS.out.at_ (by omega), hc⟩)
   clear hs
   go_wp2
   go_loopw [9, 10] (fun v9 v10 wi => ∃ j : Nat, j ≤ W ∧ v10 = .int .i64 (j : Nat) ∧ v9 = .int .i64 (minAt F (j - 1) : Nat) ∧ Hid (LayM w wi g W (g + 1) F (.slice va out.length vk) out)) (fun _ v10 _ => W - (intOf v10).toNat)
   case atStart => exact ⟨0, by omega, rfl, rfl, LM⟩
   case round =>
    clear LM
    obtain ⟨j, hj, rfl, rfl, LM⟩ := hrel
    obtain ⟨m, hm⟩ : ∃ m, m = minAt F (j - 1) := ⟨_, rfl⟩
    rw [← hm]
    have hmle : m ≤ j - 1 := by rw [hm]; exact minAt_le F (j - 1)
    by_cases h2 : j < W
    ·have e2 : decide ((j : Int) < (W : Int)) = true := by simpa using h2
     have e2n : decide (j < W) = true := by simpa using h2
     have hmW : m < W := by omega
     have ipj := fun W' => ixI (rowIs_sl LM.out.row) j W h2 W'
     have ipm := fun W' => ixI (rowIs_sl LM.out.row) m W hmW W'
     have cj := LM.out.row.cell (i := j) h2
     have cm := LM.out.row.cell (i := m) hmW
     simp only [ic, Nat.zero_add] at ipj ipm cj cm
     have HST := Lib.hid (minAt_step F j)
     rw [← hm] at HST
     clear hm
     have LM2 := Lib.hid LM.out.drew
     by_cases h3 : F j < F m
     ·have e3 : decide (F j < F m) = true := by simpa using h3
      have HST : Hid (minAt F j = j) := Lib.hid (by rw [HST.out, if_pos h3])
      clear h3
      go_wp2
      go_quiet (fail)
      go_wp2
      go_roundw
      case rel => exact ⟨j + 1, by omega, by go_num, by rw [Nat.add_sub_cancel, HST.out], Lib.hid (LM.out.drawn (Drawn.of _ _))⟩
      case measure => simp [intOf]; omega
     ·have e3 : decide (F j < F m) = false := by simpa using h3
      have HST : Hid (minAt F j = m) := Lib.hid (by rw [HST.out, if_neg h3])
      clear h3
      go_wp2
      go_quiet (fail)
      go_wp2
      go_roundw
      case rel => exact ⟨j + 1, by omega, by go_num, by rw [Nat.add_sub_cancel, HST.out], Lib.hid (LM.out.drawn (Drawn.of _ _))⟩
      case measure => simp [intOf]; omega
    ·obtain rfl : W = j := by omega
     have e2 : decide ((W : Int) < (W : Int)) = false := by simp
     have hmW : m < W := by omega
     have HPE := Lib.hid hm
     clear hm hmle
     have HMN : Hid (∀ i, i < W → F m ≤ F i) := Lib.hid (fun i hi => by rw [HPE.out]; exact minAt_min F (W - 1) i (by omega))
     have ipm := fun W' => ixI (rowIs_sl LM.out.row) m W hmW W'
     have cm := LM.out.row.cell (i := m) hmW
     simp only [ic, Nat.zero_add] at ipm cm
     obtain ⟨hsa, hcs⟩ := HCS.out _ LM.out.below
     subst hsa
     have hix := fun W' => ixI HS.out k sc h W'
     have hfm := FR.out m
     have HBOX := Lib.hid ((box3_new wr (.int .i64 (m : Int)) (.int .i64 (F m)) (.int .i64 (s : Int)) 47).drew)
     have LM2 := Lib.hid ((LM.out.alloc (.cells #[.int .i64 (m : Int), .int .i64 (F m), .int .i64 (s : Int)] 47)).drew)
     have HGB : Hid (g ≠ wr.heap.size) := Lib.hid (by have := LM.out.lb; omega)
     have hsl := Nat.lt_of_lt_of_le (HS.out.lt (by omega)) LM.out.below.size
     have hgl := LM.out.row.lt
     have n1 : ¬ sb = wr.heap.size := by omega
     have n2 : ¬ wr.heap.size = sb := by omega
     have n3 : ¬ g = wr.heap.size := by omega
     have n4 : ¬ wr.heap.size = g := by omega
     have hwr1 : IntKind.i64.wrap ((m : Int) + (s : Int)) = (m : Int) + (s : Int) := by rw [IntKind.wrap_i64]; omega
     have hwr2 : IntKind.i64.wrap (F m + (s : Int)) = F m + (s : Int) := by rw [IntKind.wrap_i64]; omega
     go_wp2
     go_region
     clear hix hcs ipm cm n1 n2 n3 n4 hsl hgl LM HCS
     generalize (wr.alloc (.cells #[.int .i64 (m : Int), .int .i64 (F m), .int .i64 (s : Int)] 47)).drew = w2 at HBOX LM2 ⊢
     obtain ⟨qb, hqb⟩ : ∃ qb, qb = wr.heap.size := ⟨_, rfl⟩
     rw [← hqb] at HBOX HGB ⊢
     clear hqb
     obtain ⟨b0, b1, b2, bl⟩ := HBOX.out
     have HNF : Hid (∀ (hn : ¬ FitP W F s) (o : List Sq) (F' : Nat → Int), layF W S (fun _ => 0) [] = some (o, F') → ¬ Lvl W F') := Lib.hid (fun hn o F' e' => by
      have := layF_none (k + 1) (by rw [layF_take h LE.out, ← HSK.out, if_neg hn])
      rw [this] at e'; cases e')
     by_cases h5 : W < m + s
     ·have e3 : decide ((W : Int) < (m : Int) + (s : Int)) = true := by simp; omega
      have e3n : decide (W < m + s) = true := by simpa using h5
      have HN : Hid (¬ FitP W F s) := Lib.hid (fun q => by have := q.1; rw [← HPE.out] at this; omega)
      clear h5
      go_wp2
      go_ret2
      exact ⟨.inr ⟨HNF.out HN.out, rfl⟩, LM2.out.below⟩
     ·have e3 : decide ((W : Int) < (m : Int) + (s : Int)) = false := by simp; omega
      have e3n : decide (W < m + s) = false := by simpa using h5
      by_cases h6 : 1000 < F m + (s : Int)
      ·have e4 : decide ((1000 : Int) < F m + (s : Int)) = true := by simpa using h6
       have HN : Hid (¬ FitP W F s) := Lib.hid (fun q => by have := q.2.2; rw [← HPE.out] at this; omega)
       clear h5 h6
       go_wp2
       go_ret2
       exact ⟨.inr ⟨HNF.out HN.out, rfl⟩, LM2.out.below⟩
      ·have e4 : decide ((1000 : Int) < F m + (s : Int)) = false := by simpa using h6
       have LM3 : Hid (LayM w w2 g W (g + 1) (raiseF F m m s) (.slice va out.length vk) out) := Lib.hid (LM2.out.put (LM2.out.row.congr (fun i hi => by simp only [ic, raiseF]; rw [if_neg (by omega)])) ⟨rfl, rfl, rfl, Nat.le_refl _, fun _ _ _ => rfl⟩)
       clear LM2
       have HGB2 := HGB.out
       go_wp2
       clear b0 b1 b2 bl
       go_loopw [12] (fun v12 wi => ∃ t : Nat, m ≤ t ∧ t ≤ m + s ∧ v12 = .int .i64 (t : Nat) ∧ Hid (∀ i, m ≤ i → i < t → F i = F m) ∧ Hid (LayM w wi g W (g + 1) (raiseF F m t s) (.slice va out.length vk) out) ∧ Hid (Box3 wi qb (.int .i64 (m : Int)) (.int .i64 (F m)) (.int .i64 (s : Int)))) (fun v12 _ => m + s - (intOf v12).toNat)
       case atStart => exact ⟨m, Nat.le_refl _, by omega, rfl, Lib.hid (fun i a b => by omega), LM3, HBOX⟩
       case round =>
        clear LM3 HBOX
        obtain ⟨t, ht1, ht2, rfl, HEQ, LM3, HBOX⟩ := hrel
        obtain ⟨b0, b1, b2, bl⟩ := HBOX.out
        by_cases h7 : t < m + s
        ·have e5 : decide ((t : Int) < (m : Int) + (s : Int)) = true := by simp; omega
         have e5n : decide (t < m + s) = true := by simpa using h7
         have htW : t < W := by omega
         have ipt := fun W' => ixI (rowIs_sl LM3.out.row) t W htW W'
         have ct := LM3.out.row.cell (i := t) htW
         have ft := LM3.out.row.frozen t
         simp only [ic, raiseF, Nat.zero_add] at ct ipt
         rw [if_neg (by omega)] at ct
         by_cases h8 : F m < F t
         ·have e6 : decide (F m < F t) = true := by simpa using h8
          have HN : Hid (¬ FitP W F s) := Lib.hid (fun q => by
           have := q.2.1 (t - m) (by omega)
           rw [← HPE.out, show m + (t - m) = t by omega] at this
           omega)
          clear h5 h6 h8
          go_wp2
          go_quiet (fail)
          go_wp2
          go_ret2
          exact ⟨.inr ⟨HNF.out HN.out, rfl⟩, LM3.out.below.trans ((Drawn.of _ _).below _)⟩
         ·have e6 : decide (F m < F t) = false := by simpa using h8
          have hft : F t = F m := by have := HMN.out t htW; omega
          have HEQ2 : Hid (∀ i, m ≤ i → i < t + 1 → F i = F m) := Lib.hid (fun i a b => by
           by_cases q : i = t
           ·rw [q]; exact hft
           ·exact HEQ.out i a (by omega))
          have R2 : Hid ((wr.drew.setCell ⟨g, t, none⟩ (.int .i64 (F m + s))).rowIs g 3 W (ic (raiseF F m (t + 1) s))) := Lib.hid ((LM3.out.drew.row.set t _).congr (fun i hi => by
           simp only [ic, raiseF]
           by_cases q : i = t
           ·subst q; rw [if_pos rfl, if_pos ⟨ht1, by omega⟩, hft]
           ·rw [if_neg q]
            by_cases q2 : m ≤ i ∧ i < t
            ·rw [if_pos q2, if_pos (by omega)]
            ·rw [if_neg q2, if_neg (by omega)]))
          have LM4 := Lib.hid (LM3.out.drew.put R2.out (gset1 wr.drew g t (.int .i64 (F m + s))))
          have HB4 := Lib.hid (HBOX.out.drew.far g t (.int .i64 (F m + s)) HGB2)
          clear h8 hft HEQ R2
          go_wp2
          go_region
          go_wp2
          go_roundw
          case rel => exact ⟨t + 1, by omega, by omega, by go_num, HEQ2, LM4, HB4⟩
          case measure => simp [intOf]; omega
        ·obtain rfl : t = m + s := by omega
         have e5 : decide (((m + s : Nat) : Int) < (m : Int) + (s : Int)) = false := by simp
         have e5n : decide (m + s < m + s) = false := by simp
         have HYF : Hid (FitP W F s) := Lib.hid ⟨by rw [← HPE.out]; omega, fun i hi => by rw [← HPE.out]; exact HEQ.out (m + i) (by omega) (by omega), by rw [← HPE.out]; omega⟩
         have LE2 : Hid (layF W (S.take (k + 1)) (fun _ => 0) [] = some (out ++ [⟨m, F m, s⟩], putF F m s)) := Lib.hid (by rw [layF_take h LE.out, ← HSK.out, if_pos HYF.out, ← HPE.out])
         have FR2 : Hid (∀ i, 0 ≤ putF F m s i ∧ putF F m s i ≤ 1000) := Lib.hid (layF_range W _ _ _ _ _ (fun i => by simp) LE2.out).1
         have LM3 : Hid (LayM w wr g W (g + 1) (putF F m s) (.slice va out.length vk) out) := LM3
         have hlb := LM3.out.lb
         clear h5 h6 HEQ
         go_wp2_with (first
          | (at_builtin; refine wpList_append_own_at _ rfl (.tmp 86) (.tmp 88) 23 rfl (g + 1) 47 i0 _ 3 24 Tryz.underlying23 hinf hz0 hz1 hz2 rfl (by decide) (.slice va out.length vk) out.length (sqL out) rfl (LM3.out.out.alloc _) ⟨wr.heap.size, 0, none⟩ 1 1 (sqC ⟨m, F m, s⟩) rfl rfl (newS wr ⟨m, F m, s⟩ _) (oneS ⟨m, F m, s⟩) (by unfold maxLen; omega) (by omega) (by simp; omega) ?_; intro v' w5 hown hgrow _ hbk; have LM := Lib.hid (LM3.out.push (x := ⟨m, F m, s⟩) _ hgrow hown); obtain ⟨vb, vc, rfl⟩ := own_shape hown; clear hown hgrow hbk))
         go_roundw
         case rel => exact ⟨k + 1, _, _, _, by omega, by go_num, rfl, Lib.hid (by simp; exact HOL.out), LE2, FR2, LM⟩
         case measure => simp [intOf]; omega
  ·have hke : k = S.length := by omega
   have e1 : decide ((k : Int) < ((S.length : Nat) : Int)) = false := by simp; omega
   have e1n : decide (k < S.length) = false := by simpa using h
   have LEE : Hid (layF W S (fun _ => 0) [] = some (out, F)) := Lib.hid (by have := LE.out; rw [hke, List.take_length] at this; exact this)
   clear hke h LE
   go_wp2
   go_loopw [13] (fun v13 wi => ∃ t : Nat, t ≤ W ∧ v13 = .int .i64 (t : Nat) ∧ Hid (∀ i, i < t → F i = F 0) ∧ Hid (LayM w wi g W (g + 1) F (.slice va out.length vk) out)) (fun v13 _ => W - (intOf v13).toNat)
   case atStart => exact ⟨0, by omega, rfl, Lib.hid (fun i a => by omega), LM⟩
   case round =>
    clear LM
    obtain ⟨t, ht, rfl, HEQ, LM⟩ := hrel
    by_cases h2 : t < W
    ·have e2 : decide ((t : Int) < (W : Int)) = true := by simpa using h2
     have e2n : decide (t < W) = true := by simpa using h2
     have ipt := fun W' => ixI (rowIs_sl LM.out.row) t W h2 W'
     have ip0 : ∀ W', (Instr.indexAt 22 (.slice (some ⟨g, 0, none⟩) W W) (.int .i64 0)).run Tryz.prog W' = .ok (.pointer (some ⟨g, 0, none⟩)) W' := fun W' => by have := ixI (rowIs_sl LM.out.row) 0 W (by omega) W'; simpa using this
     have ct := LM.out.row.cell (i := t) h2
     have c0 := LM.out.row.cell (i := 0) (by omega)
     simp only [ic, Nat.zero_add] at ct c0 ipt
     by_cases h3 : F t = F 0
     ·have e3 : (F t != F 0) = false := by rw [h3]; simp
      have HEQ2 : Hid (∀ i, i < t + 1 → F i = F 0) := Lib.hid (fun i b => by
       by_cases q : i = t
       ·rw [q]; exact h3
       ·exact HEQ.out i (by omega))
      clear h3 HEQ
      go_wp2
      go_quiet (fail)
      go_wp2
      go_roundw
      case rel => exact ⟨t + 1, by omega, by go_num, HEQ2, Lib.hid (LM.out.drawn (Drawn.of _ _))⟩
      case measure => simp [intOf]; omega
     ·have e3 : (F t != F 0) = true := by rw [bne_iff_ne]; exact h3
      have HN : Hid (¬ Lvl W F) := Lib.hid (fun q => h3 (q t h2))
      clear h3 HEQ
      go_wp2
      go_quiet (fail)
      go_wp2
      go_ret2
      refine ⟨.inr ⟨fun o F' e' => ?_, rfl⟩, LM.out.below.trans ((Drawn.of _ _).below _)⟩
      rw [LEE.out] at e'
      injection e' with e'
      injection e' with e1' e2'
      rw [← e2']; exact HN.out
    ·obtain rfl : t = W := by omega
     have e2 : decide ((t : Int) < (t : Int)) = false := by simp
     have HLV : Hid (Lvl t F) := Lib.hid HEQ.out
     go_wp2
     go_ret2
     exact ⟨.inl ⟨out, F, LEE.out, HLV.out, va, vk, rfl, own_base LM.out.out (by rw [← hgw]; omega)⟩, LM.out.below⟩
end Go.Proofs.YtolkchkedieppaaGreat
