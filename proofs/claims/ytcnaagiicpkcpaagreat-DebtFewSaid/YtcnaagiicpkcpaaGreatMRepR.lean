/- debt.Groups of the example of lives(). -/
import Derived.Test.YtcnaagiicpkcpaaGreatMFun
import Derived.Test.YtcnaagiicpkcpaaGreatMGrp3
import Derived.Maps.AppendAt
import Derived.Laws.CopyOwn
import Derived.Test.YtcnaagiicpkcpaaGreatMLive1
set_option linter.unusedVariables false
set_option linter.unusedSimpArgs false
namespace Go.Proofs.YtcnaagiicpkcpaaGreat
open Go.RowKit
attribute [local go_sem ↓] Go.wp_at_zero Go.wp_at_succ
theorem mem3 : mem 3 10 = [0, 1] := by decide +kernel
theorem mem28 : mem 28 10 = [2, 3, 4] := by decide +kernel
theorem bal_ok : Balances 5 blF := ⟨by decide, by decide, by decide +kernel, by decide +kernel⟩
def g0F (i : Nat) : Int := i
def g1F (i : Nat) : Int := (i : Int) + 2
theorem members3 (w : World) : Calls Tryz.prog 15 #[.int .i64 3] w fun e w' => ∃ g cap, e = .returned (.slice (some ⟨g, 0, none⟩) 2 cap) ∧ IsSl w' (some ⟨g, 0, none⟩) g 0 cap 2 (ic g0F) ∧ w.heap.size ≤ g ∧ Below w.heap.size w w' := by
 have h := members_row 3 w (by omega) (by rw [mem3]; decide)
 refine Calls.mono (show Calls Tryz.prog 15 #[.int .i64 3] w _ from h) ?_
 rintro e w' ⟨g, cap, he, hs, hg, hb⟩
 rw [mem3] at he hs
 exact ⟨g, cap, he, hs.congr (fun i hi => by
  have hi : i < 2 := hi
  have : i = 0 ∨ i = 1 := by omega
  rcases this with e | e <;> rw [e] <;> rfl), hg, hb⟩
theorem members28 (w : World) : Calls Tryz.prog 15 #[.int .i64 28] w fun e w' => ∃ g cap, e = .returned (.slice (some ⟨g, 0, none⟩) 3 cap) ∧ IsSl w' (some ⟨g, 0, none⟩) g 0 cap 3 (ic g1F) ∧ w.heap.size ≤ g ∧ Below w.heap.size w w' := by
 have h := members_row 28 w (by omega) (by rw [mem28]; decide)
 refine Calls.mono (show Calls Tryz.prog 15 #[.int .i64 28] w _ from h) ?_
 rintro e w' ⟨g, cap, he, hs, hg, hb⟩
 rw [mem28] at he hs
 exact ⟨g, cap, he, hs.congr (fun i hi => by
  have hi : i < 3 := hi
  have : i = 0 ∨ i = 1 ∨ i = 2 := by omega
  rcases this with e | e | e <;> rw [e] <;> rfl), hg, hb⟩
def gvI (q : Nat) : Int := if q = 0 then 3 else 28
def gl (q : Nat) : Nat := if q = 0 then 2 else 3
def gF (q : Nat) : Nat → Int := if q = 0 then g0F else g1F
theorem members_q (q : Nat) (hq : q < 2) (w : World) : Calls Tryz.prog 15 #[.int .i64 (gvI q)] w fun e w' => ∃ g cap, e = .returned (.slice (some ⟨g, 0, none⟩) (gl q) cap) ∧ IsSl w' (some ⟨g, 0, none⟩) g 0 cap (gl q) (ic (gF q)) ∧ w.heap.size ≤ g ∧ Below w.heap.size w w' := by
 have : q = 0 ∨ q = 1 := by omega
 rcases this with e | e
 ·subst e; exact members3 w
 ·subst e; exact members28 w
def gCells (gg cc : Nat → Nat) (q : Nat) : List Value := (List.range q).map (fun i => .slice (some ⟨gg i, 0, none⟩) (gl i) (cc i))
def setQ (f : Nat → Nat) (i x : Nat) : Nat → Nat := fun j => if j = i then x else f j
theorem gCells_succ (gg cc : Nat → Nat) (q g cap : Nat) : gCells gg cc q ++ [.slice (some ⟨g, 0, none⟩) (gl q) cap] = gCells (setQ gg q g) (setQ cc q cap) (q + 1) := by
 unfold gCells
 rw [List.range_succ, List.map_append]
 congr 1
 ·apply List.map_congr_left
  intro i hi
  have : i < q := List.mem_range.1 hi
  simp [setQ, show i ≠ q by omega]
 ·simp [setQ]
theorem gCells_get (gg cc : Nat → Nat) (q i : Nat) (h : i < q) : (gCells gg cc q)[i]? = some (.slice (some ⟨gg i, 0, none⟩) (gl i) (cc i)) := by simp [gCells, h]
/-- the groups gathered so far -/
structure GR (B : Nat) (w : World) (q : Nat) (v : Value) (gg cc : Nat → Nat) : Prop where
 own : w.ownsRow B 22 1 v q (gCells gg cc q)
 row : ∀ i, i < q → IsSl w (some ⟨gg i, 0, none⟩) (gg i) 0 (cc i) (gl i) (ic (gF i))
 far : ∀ i, i < q → v.ownBlock ≠ some (gg i)
theorem gl_pos (q : Nat) : 0 < gl q := by unfold gl; split <;> omega
theorem IsSl.grownO {w w' : World} {a : Option Addr} {b o c n : Nat} {row : Option Nat} {q : Nat → Value} (h : IsSl w a b o c n q) (hg : w.grownBy w' row) (hne : some b ≠ row) : IsSl w' a b o c n q where
 cap := h.cap
 nc := h.nc
 at_ := h.at_
 lt := fun p => Nat.lt_of_lt_of_le (h.lt p) hg.size
 cell := fun i hi => hg.cell (h.cell i hi) hne
set_option maxHeartbeats 4000000 in
set_option maxRecDepth 100000 in
theorem Groups_live (v : Value) (w : World) (hv : Ints w v 5 blF) :
  Calls Tryz.prog 6 #[v] w fun e w' => ∃ vg, e = .returned (.tuple #[vg, .int .i64 0]) ∧ Mat w' vg 2 (fun i => if i = 0 then 2 else 3) (fun i => if i = 0 then g0F else g1F) ∧ Below w.heap.size w w' := by
 have HV := Lib.hid hv
 clear hv
 go_enter Tryz.func6, Tryz.ntmps6
 go_wp2_with (first
  | (go_at_call 13; (with_reducible refine (balanced_any v 5 blF true ⟨fun _ => bal_ok, fun _ => rfl⟩ _ HV.out (by omega)).mono ?_); rintro e w1 ⟨rfl, rfl⟩)
  | (go_at_call 14; (with_reducible refine (groups_live v _ HV.out).mono ?_); rintro e w1 ⟨va, vk, rfl, ⟨a, b, o, c, hvv, hs⟩, hb⟩; cases hvv; have HS := Lib.hid hs; have KW := Lib.hid hb; clear hs hb))
 obtain ⟨i0, hinf, hz0, hz1, hz2⟩ := info_parts infoIs
 have KW0 := Lib.hid (Below.refl w1.heap.size w1)
 have HS : Hid (IsSl w1 va b o vk 2 (ic gvI)) := Lib.hid (HS.out.congr fun i hi => by
  have : i = 0 ∨ i = 1 := by omega
  rcases this with e | e <;> rw [e] <;> rfl)
 have hwl : va = some ⟨b, o, none⟩ := HS.out.at_ (by omega)
 go_loopw [4, 13] (fun v4 v13 wr => ∃ q : Nat, q ≤ 2 ∧ v13 = .int .i64 (q : Nat) ∧ ∃ va4 vk4 gg cc, v4 = .slice va4 q vk4 ∧ Hid (GR w1.heap.size wr q (.slice va4 q vk4) gg cc) ∧ Hid (Below w1.heap.size w1 wr)) (fun _ v13 _ => 2 - (intOf v13).toNat)
 case atStart => exact ⟨0, by omega, rfl, none, 0, fun _ => 0, fun _ => 0, rfl, Lib.hid ⟨World.ownsRow_nil _ _ _ _, fun i e => by omega, fun i e => by omega⟩, KW0⟩
 case round =>
  have KWW := KW
  clear KW0 KW
  obtain ⟨q, hq, rfl, va4, vk4, gg, cc, rfl, G, KW⟩ := hrel
  by_cases h : q < 2
  ·have hix := fun W => ixI HS.out q vk h W
   have hc := (HS.out.mono KW.out (Nat.le_refl _)).cell q h
   simp only [ic] at hc
   have gq : (q : Int) < 2 := by omega
   have HLT := Lib.hid G.out.own.lt
   have HROW := Lib.hid G.out.row
   have HFAR := Lib.hid G.out.far
   have OW := Lib.hid G.out.own
   clear hwl
   go_wp2_with (first
    | (go_at_call 15; (with_reducible refine (members_q q h _).mono ?_); rintro e w2 ⟨g, cap, rfl, hsl, hg, hb⟩; have SL := Lib.hid hsl; have KW2 := Lib.hid (KW.out.trans (hb.mono KW.out.size)); have HG := Lib.hid hg; have HB := Lib.hid hb; have OW := Lib.hid (own_kept OW.out hb); clear hsl hb hg)
    | (at_builtin; refine wpList_append_own_at _ rfl (.tmp 17) (.tmp 20) 24 rfl w1.heap.size 22 i0 (.slice none 0 0) 1 24 Tryz.underlying24 hinf hz0 hz1 hz2 rfl (by decide) (.slice va4 q vk4) q (gCells gg cc q) rfl (OW.out.alloc _) ⟨w2.heap.size, 0, none⟩ 1 1 [.slice (some ⟨g, 0, none⟩) (gl q) cap] rfl rfl (new1 w2 (.slice (some ⟨g, 0, none⟩) (gl q) cap) 22) (one1 _ rfl) (by unfold maxLen; omega) (by omega) (by have := KW2.out.size; simp; omega) ?_; intro v' w5 hown hgrow _ hbk; have HOWN := Lib.hid hown; have HGROW := Lib.hid hgrow; have HBK := Lib.hid hbk; obtain ⟨va5, vk5, rfl⟩ := own_shape hown; clear hown hgrow hbk))
   go_roundw
   case rel =>
    have hgl : g < w2.heap.size := SL.out.lt (gl_pos q)
    have hsz : wr.heap.size ≤ w2.heap.size := HB.out.size
    refine ⟨q + 1, by omega, by go_num, va5, vk5, setQ gg q g, setQ cc q cap, rfl, Lib.hid ⟨?_, fun i hi => ?_, fun i hi => ?_⟩, Lib.hid ?_⟩
    ·rw [← gCells_succ]; exact HOWN.out
    ·by_cases e : i = q
     ·subst e
      have h1 : setQ gg i g i = g := by simp [setQ]
      have h2 : setQ cc i cap i = cap := by simp [setQ]
      rw [h1, h2]
      exact (SL.out.alloc _).grownO HGROW.out (fun e => by have := (HLT.out g e.symm).2; have := HG.out; omega)
     ·have h1 : setQ gg q g i = gg i := by simp [setQ, e]
      have h2 : setQ cc q cap i = cc i := by simp [setQ, e]
      rw [h1, h2]
      exact (((HROW.out i (by omega)).mono HB.out (Nat.le_refl _)).alloc _).grownO HGROW.out (fun e2 => HFAR.out i (by omega) e2.symm)
    ·by_cases e : i = q
     ·subst e
      have h1 : setQ gg i g i = g := by simp [setQ]
      rw [h1]
      rcases HBK.out with h3 | h3
      ·rw [h3]; intro e2; have := (HLT.out g e2).2; have := HG.out; omega
      ·rw [h3]; intro e2; have := Option.some.inj e2; simp at this; omega
     ·have h1 : setQ gg q g i = gg i := by simp [setQ, e]
      rw [h1]
      have hgi := (HROW.out i (by omega)).lt (gl_pos i)
      rcases HBK.out with h3 | h3
      ·rw [h3]; exact HFAR.out i (by omega)
      ·rw [h3]; intro e2; have := Option.some.inj e2; simp at this; omega
    ·exact (KW2.out.alloc KW2.out.size _).grown HGROW.out (by have := KW2.out.size; simp; omega) (fun kk e => (HLT.out kk e).1)
   case measure => simp [intOf]; omega
  ·obtain rfl : q = 2 := by omega
   go_wp2
   go_ret2
   obtain ⟨a4, b4, o4, c4, hv4, hs4⟩ := Sl.of_own G.out.own (fun i hi => gCells_get gg cc 2 i hi)
   refine ⟨_, rfl, ⟨a4, b4, o4, c4, fun i => some ⟨gg i, 0, none⟩, gg, fun _ => 0, cc, hv4, ⟨hs4, fun i hi => ?_⟩⟩, KWW.out.trans (KW.out.mono KWW.out.size)⟩
   have hr := G.out.row i hi
   have : i = 0 ∨ i = 1 := by omega
   rcases this with e | e <;> subst e <;> exact hr
end Go.Proofs.YtcnaagiicpkcpaaGreat

/- slices.Repeat of []int{-1}. -/
namespace Go.Proofs.YtcnaagiicpkcpaaGreat
open Go.RowKit
attribute [local go_sem ↓] Go.wp_at_zero Go.wp_at_succ
/-- k times -1, then 0 -/
def repV (k : Nat) (i : Nat) : Value := if i < k then .int .i64 (-1) else .int .i64 0
theorem mul1n (n : Nat) (hn : n ≤ 8) (W : World) : Calls Tryz.prog 97 #[.int .u64 1, .int .u64 (n : Nat)] W fun e w' => e = .returned (.tuple #[.int .u64 0, .int .u64 (n : Nat)]) ∧ W = w' := by
 have h := Tryz.bits_Mul 1 n (by omega) (by omega) W
 refine Calls.mono (show Calls Tryz.prog 97 #[.int .u64 1, .int .u64 (n : Nat)] W _ from h) ?_
 rintro e w' ⟨rfl, rfl⟩
 refine ⟨?_, rfl⟩
 rw [Nat.one_mul, Nat.div_eq_of_lt (by omega), Nat.mod_eq_of_lt (by omega)]
 rfl
/-- copying a row's first k elements behind them -/
theorem copy_in (w : World) (b n k B : Nat) (hk : 0 < k) (hkn : k < n) (hB : B ≤ b) (h : w.rowIs b 3 n (repV k)) :
  ∃ w', (Builtin.copy_ #[22, 22] 3 #[.slice (some ⟨b, k, none⟩) (n - k) (n - k), .slice (some ⟨b, 0, none⟩) k n]).run Tryz.prog w = .ok (.int .i64 (Nat.min k (n - k) : Nat)) w' ∧
   w'.rowIs b 3 n (repV (k + Nat.min k (n - k))) ∧ w'.heap.size = w.heap.size ∧ ∀ w0, Below B w0 w → Below B w0 w' := by
 obtain ⟨c, hb, hn, hc⟩ := h
 have hm : Nat.min k (n - k) ≤ n - k := Nat.min_le_right _ _
 have hm2 : Nat.min k (n - k) ≤ k := Nat.min_le_left _ _
 generalize hmm : Nat.min k (n - k) = m at hm hm2 ⊢
 have e := run_copy_rowS (P := Tryz.prog) w 22 22 3 3 b k (n - k) (n - k) ⟨b, 0, none⟩ k n c 3 (List.replicate m (.int .i64 (-1))) 1 m Tryz.underlying22 (by kernel_rfl) hb hmm.symm (by simp)
  (fun j v hj => by
   have hjm : j < m := by simpa using (List.getElem?_eq_some_iff.1 hj).1
   have hadd : (⟨b, 0, none⟩ : Addr).add j = ⟨b, j, none⟩ := by unfold Addr.add; split <;> simp_all
   rw [hadd]
   have : v = .int .i64 (-1) := by simp [hjm] at hj; exact hj.symm
   have hcell : w.cell? ⟨b, j, none⟩ = some (repV k j) := World.rowIs.cell ⟨c, hb, hn, hc⟩ (by omega)
   rw [hcell, this]; unfold repV; rw [if_pos (by omega)])
  (by rw [List.length_replicate]; omega) (fun v hv => by rw [List.eq_of_mem_replicate hv]; rfl)
 refine ⟨_, e, ⟨_, setRow_heap w b c _ _ _ hb, ?_, fun i hi => ?_⟩, size_setRow _ _ _, fun w0 hw => below_setRow hw hB _⟩
 ·simp; omega
 ·have hci := hc i hi
  simp only [List.getElem?_toArray, List.length_replicate]
  by_cases h1 : i < k
  ·rw [List.append_assoc, List.getElem?_append_left (by simp; omega), List.getElem?_take_of_lt h1, Array.getElem?_toList, hci]
   unfold repV; rw [if_pos h1, if_pos (by omega)]
  ·by_cases h2 : i < k + m
   ·rw [List.append_assoc, List.getElem?_append_right (by simp; omega), List.getElem?_append_left (by simp; omega)]
    rw [List.getElem?_replicate, if_pos (by simp; omega)]
    unfold repV; rw [if_pos h2]
   ·rw [List.getElem?_append_right (by simp; omega), List.getElem?_drop, Array.getElem?_toList]
    have : k + m + (i - (List.take k c.toList ++ List.replicate m (Value.int IntKind.i64 (-1))).length) = i := by simp; omega
    rw [this, hci]
    unfold repV; rw [if_neg h1, if_neg h2]
/-- copying -1 into a row that was just made -/
theorem copy_first (w : World) (b n c : Nat) (hn : 0 < n) (hb : w.cell? ⟨b, 0, none⟩ = some (.int .i64 (-1))) :
  ∃ w', (Builtin.copy_ #[22, 22] 3 #[.slice (some ⟨w.heap.size, 0, none⟩) n n, .slice (some ⟨b, 0, none⟩) 1 c]).run Tryz.prog (w.alloc (.cells (madeCells #[.int .i64 0] n) 3)) = .ok (.int .i64 1) w' ∧
   w'.rowIs w.heap.size 3 n (repV 1) ∧ w'.heap.size = w.heap.size + 1 ∧ Below w.heap.size w w' := by
 have hz : (madeCells #[Value.int .i64 0] n).size = n := size_madeCells _ _
 have hnew : (w.alloc (.cells (madeCells #[.int .i64 0] n) 3)).heap[w.heap.size]? = some (.cells (madeCells #[.int .i64 0] n) 3 (0, 0)) := by unfold World.alloc; simp
 have e := run_copy_rowS (P := Tryz.prog) (w.alloc (.cells (madeCells #[.int .i64 0] n) 3)) 22 22 3 3 w.heap.size 0 n n ⟨b, 0, none⟩ 1 c (madeCells #[.int .i64 0] n) 3
  [.int .i64 (-1)] 1 1 Tryz.underlying22 (by kernel_rfl) hnew (by show 1 = Nat.min 1 n; exact (Nat.min_eq_left hn).symm) rfl (fun j v hj => by
   match j, hj with
   | 0, hj =>
    simp at hj; subst hj
    exact (World.cell?_alloc_some w _ _ (by show (w.cell? ⟨b, 0, none⟩).isSome = true; rw [hb]; rfl)).trans hb) (by rw [hz]; simp; omega) (fun v hv => by simp at hv; rw [hv]; rfl)
 refine ⟨_, e, ⟨_, setRow_heap _ _ _ _ _ _ hnew, ?_, fun i hi => ?_⟩, by rw [size_setRow]; simp, below_setRow ((Below.refl w.heap.size w).alloc (Nat.le_refl _) _) (Nat.le_refl _) _⟩
 ·simp; omega
 ·have hm : (madeCells #[Value.int .i64 0] n)[i]? = some (.int .i64 0) := by simp [madeCells, hi, Nat.mod_one]
  unfold repV
  by_cases h1 : i < 1
  ·obtain rfl : i = 0 := by omega
   simp
  ·rw [if_neg h1]
   simp only [List.getElem?_toArray]
   rw [List.getElem?_append_right (by simp; omega), List.getElem?_drop, Array.getElem?_toList]
   have : 0 + [Value.int IntKind.i64 (-1)].length + (i - (List.take 0 (madeCells #[Value.int .i64 0] n).toList ++ [Value.int IntKind.i64 (-1)]).length) = i := by simp; omega
   rw [this]; exact hm
set_option maxHeartbeats 2000000 in
set_option maxRecDepth 100000 in
theorem repeat_neg (b c n : Nat) (w : World) (h0 : 0 < n) (hn : n ≤ 8) (hb : w.cell? ⟨b, 0, none⟩ = some (.int .i64 (-1))) :
  Calls Tryz.prog 80 #[.slice (some ⟨b, 0, none⟩) 1 c, .int .i64 (n : Nat)] w fun e w' => e = .returned (.slice (some ⟨w.heap.size, 0, none⟩) n n) ∧ w'.rowIs w.heap.size 3 n (repV n) ∧ w'.heap.size = w.heap.size + 1 ∧ Below w.heap.size w w' := by
 have hmk := run_make_row' (P := Tryz.prog) 22 3 (.int .i64 0) 8 Tryz.underlying22 infoI rfl .i64 .i64 n (by omega) (by omega)
 have g0 : (0:Int) < (n:Int) := by omega
 have hw1 : IntKind.u64.wrap (n : Int) = (n : Int) := by rw [IntKind.wrap_u64]; omega
 have hw2 : IntKind.i64.wrap (n : Int) = (n : Int) := by rw [IntKind.wrap_i64]; omega
 have hlim : ¬ (n : Int) > 9223372036854775807 := by omega
 obtain ⟨wC, hcp, HR, hsz, HB⟩ := copy_first w b n c h0 hb
 have HR := Lib.hid HR
 have HB := Lib.hid HB
 have HSZ := Lib.hid hsz
 clear hsz
 go_enter Tryz.func80, Tryz.ntmps80
 go_wp2_with (first
  | (go_at_call 97; (with_reducible refine (mul1n n hn _).mono ?_); rintro e w1 ⟨rfl, rfl⟩))
 go_loopw [8] (fun v8 wr => ∃ k : Nat, 0 < k ∧ k ≤ n ∧ v8 = .int .i64 (k : Nat) ∧ Hid (wr.rowIs w.heap.size 3 n (repV k)) ∧ Hid (wr.heap.size = w.heap.size + 1) ∧ Hid (Below w.heap.size w wr)) (fun v8 _ => n - (intOf v8).toNat)
 case atStart => exact ⟨1, by omega, by omega, rfl, HR, HSZ, HB⟩
 case round =>
  clear HR HSZ HB
  obtain ⟨k, k0, hk, rfl, HR, HSZ, HB⟩ := hrel
  by_cases h : k < n
  ·obtain ⟨wD, hc2, HR2, hsz2, HB2⟩ := copy_in wr.drew w.heap.size n k w.heap.size k0 h (Nat.le_refl _) HR.out
   have HR2 := Lib.hid HR2
   have HB2 := Lib.hid (HB2 _ HB.out.drew)
   have HSZ2 := Lib.hid hsz2
   clear hsz2
   have hm1 : Nat.min k (n - k) ≤ n - k := Nat.min_le_right _ _
   have hm0 : 0 < Nat.min k (n - k) := by show 0 < min k (n - k); omega
   generalize Nat.min k (n - k) = m at *
   have hwk : IntKind.i64.wrap ((k : Int) + (m : Int)) = ((k + m : Nat) : Int) := by rw [IntKind.wrap_i64]; omega
   have g1 : (0:Int) ≤ (k:Int) := Int.natCast_nonneg k
   have g2 : (k:Int) < (n:Int) := by omega
   have g3 : (k:Int) ≤ (n:Int) := by omega
   go_wp2
   go_region
   go_wp2
   go_roundw
   case rel => exact ⟨k + m, by omega, by omega, by go_num, HR2, Lib.hid (HSZ2.out.trans HSZ.out), HB2⟩
   case measure => simp [intOf]; omega
  ·obtain rfl : k = n := by omega
   go_wp2
   go_ret
   exact ⟨rfl, HR.out, HSZ.out, HB.out⟩
end Go.Proofs.YtcnaagiicpkcpaaGreat

/- make of Rats, of rows; slices.Repeat of one Rat. -/
namespace Go.Proofs.YtcnaagiicpkcpaaGreat
open Go.RowKit
attribute [local go_sem ↓] Go.wp_at_zero Go.wp_at_succ
/-- the cells of the zero Rat -/
abbrev zR : Array Value := #[.bool false, .slice none 0 0, .bool false, .slice none 0 0]
theorem mkRn (n : Nat) (hn : n ≤ 1000) (W : World) : (Instr.makeSlice 68 (.int .i64 (n : Nat)) (.int .i64 (n : Nat))).run Tryz.prog W = .ok (.slice (some ⟨W.heap.size, 0, none⟩) n n) (W.alloc (.cells (madeCells zR (n * 4)) 95)) := by
 obtain ⟨i0, hi, hz0, hz1, hz2⟩ := info_parts infoR
 have h := run_make (P := Tryz.prog) W 68 95 i0 _ Tryz.underlying68 hi hz0 .i64 .i64 n n (by omega) (by omega) (by rw [hz2]; omega) (by omega)
 have e : (Value.agg #[.bool false, .slice none 0 0, .bool false, .slice none 0 0]).cells = zR := by kernel_rfl
 rw [h, hz1, e, Int.toNat_natCast]
theorem mkMn (n : Nat) (hn : n ≤ 1000) (W : World) : (Instr.makeSlice 116 (.int .i64 (n : Nat)) (.int .i64 (n : Nat))).run Tryz.prog W = .ok (.slice (some ⟨W.heap.size, 0, none⟩) n n) (W.alloc (.cells (madeCells #[.slice none 0 0] n) 68)) :=
 run_make_row' (P := Tryz.prog) 116 68 (.slice none 0 0) 24 Tryz.underlying116 infoRs rfl .i64 .i64 n (by omega) (by omega) W
/-- four cells, over and over -/
def pat4 (x0 x1 x2 x3 : Value) (i : Nat) : Value := match i % 4 with | 0 => x0 | 1 => x1 | 2 => x2 | _ => x3
def zero4 : Nat → Value := pat4 (.bool false) (.slice none 0 0) (.bool false) (.slice none 0 0)
theorem made_zero4 (n i : Nat) (h : i < n) : (madeCells zR n)[i]? = some (zero4 i) := by
 have e : (madeCells zR n)[i]? = some (zR[i % 4]!) := by
  unfold madeCells
  rw [Array.getElem?_map, Array.getElem?_range, if_pos h]
  rfl
 rw [e]
 unfold zero4 pat4
 have h4 : i % 4 < 4 := Nat.mod_lt _ (by omega)
 rcases (by omega : i % 4 = 0 ∨ i % 4 = 1 ∨ i % 4 = 2 ∨ i % 4 = 3) with h | h | h | h <;> rw [h] <;> rfl
/-- the first k Rats stored, the others zero -/
def repR (p : Nat → Value) (k : Nat) (i : Nat) : Value := if i < k * 4 then p i else zero4 i
theorem row_made (w : World) (n : Nat) (p : Nat → Value) : (w.alloc (.cells (madeCells zR (n * 4)) 95)).rowIs w.heap.size 95 (n * 4) (repR p 0) :=
 ⟨madeCells zR (n * 4), by unfold World.alloc; simp, size_madeCells _ _, fun i hi => by rw [made_zero4 _ _ hi]; unfold repR; rw [if_neg (by omega)]⟩
/-- a row of zero Rats, as one that is written -/
theorem RowP.made (w : World) (n : Nat) (q : Nat → Rat) (K : Nat) : RowP (w.alloc (.cells (madeCells zR (n * 4)) 95)) w.heap.size n (fun _ => False) q K := by
 have h := row_made w n zero4
 have e : ∀ j r, r < 4 → j < n → repR zero4 0 (j * 4 + r) = pat4 (.bool false) (.slice none 0 0) (.bool false) (.slice none 0 0) r := fun j r hr hj => by
  unfold repR; rw [if_neg (by omega)]; unfold zero4 pat4; rw [show (j * 4 + r) % 4 = r % 4 by omega]
 refine ⟨fun j hj => ⟨false, none, 0, 0, none, 0, 0, ⟨?_, ?_, ?_, ?_, h.lt⟩, fun p => p.elim⟩, fun o => h.frozen o, h.lt⟩
 ·rw [h.cell (i := j * 4) (by omega)]; congr 1; exact e j 0 (by omega) hj
 ·rw [h.cell (i := j * 4 + 1) (by omega)]; congr 1; exact e j 1 (by omega) hj
 ·rw [h.cell (i := j * 4 + 2) (by omega)]; congr 1; exact e j 2 (by omega) hj
 ·rw [h.cell (i := j * 4 + 3) (by omega)]; congr 1; exact e j 3 (by omega) hj
theorem pat4_one (x0 x1 x2 x3 : Value) (h0 : x0.oneCell' = true) (h1 : x1.oneCell' = true) (h2 : x2.oneCell' = true) (h3 : x3.oneCell' = true) (i : Nat) : (pat4 x0 x1 x2 x3 i).oneCell' = true := by
 unfold pat4; split <;> assumption
/-- the first m cells of a pattern -/
def patL (p : Nat → Value) (m : Nat) : List Value := (List.range m).map p
theorem patL_get (p : Nat → Value) (m i : Nat) (h : i < m) : (patL p m)[i]? = some (p i) := by simp [patL, h]
theorem patL_len (p : Nat → Value) (m : Nat) : (patL p m).length = m := by simp [patL]
theorem copyR_in (w : World) (b n k B : Nat) (p : Nat → Value) (hp : ∀ i j, p (i + j * 4) = p i) (hp1 : ∀ i, (p i).oneCell' = true) (hk : 0 < k) (hkn : k < n) (hB : B ≤ b) (h : w.rowIs b 95 (n * 4) (repR p k)) :
  ∃ w', (Builtin.copy_ #[68, 68] 3 #[.slice (some ⟨b, k * 4, none⟩) (n - k) (n - k), .slice (some ⟨b, 0, none⟩) k n]).run Tryz.prog w = .ok (.int .i64 (Nat.min k (n - k) : Nat)) w' ∧
   w'.rowIs b 95 (n * 4) (repR p (k + Nat.min k (n - k))) ∧ w'.heap.size = w.heap.size ∧ ∀ w0, Below B w0 w → Below B w0 w' := by
 obtain ⟨c, hb, hn, hc⟩ := h
 have hm : Nat.min k (n - k) ≤ n - k := Nat.min_le_right _ _
 have hm2 : Nat.min k (n - k) ≤ k := Nat.min_le_left _ _
 generalize hmm : Nat.min k (n - k) = m at hm hm2 ⊢
 have e := run_copy_rowS (P := Tryz.prog) w 68 68 3 95 b (k * 4) (n - k) (n - k) ⟨b, 0, none⟩ k n c 95 (patL p (m * 4)) 4 m Tryz.underlying68 (by kernel_rfl) hb hmm.symm (patL_len _ _)
  (fun j v hj => by
   have hjm : j < m * 4 := by have := (List.getElem?_eq_some_iff.1 hj).1; rw [patL_len] at this; exact this
   rw [add_at, Nat.zero_add]
   rw [patL_get _ _ _ hjm] at hj
   have hcell : w.cell? ⟨b, j, none⟩ = some (repR p k j) := World.rowIs.cell ⟨c, hb, hn, hc⟩ (by omega)
   rw [hcell, ← hj]; unfold repR; rw [if_pos (by omega)])
  (by rw [patL_len]; omega) (fun v hv => by simp [patL] at hv; obtain ⟨a, _, rfl⟩ := hv; exact hp1 a)
 refine ⟨_, e, ⟨_, setRow_heap w b c _ _ _ hb, ?_, fun i hi => ?_⟩, size_setRow _ _ _, fun w0 hw => below_setRow hw hB _⟩
 ·simp [patL_len]; omega
 ·have hci := hc i hi
  simp only [List.getElem?_toArray, patL_len]
  by_cases h1 : i < k * 4
  ·rw [List.append_assoc, List.getElem?_append_left (by simp; omega), List.getElem?_take_of_lt h1, Array.getElem?_toList, hci]
   unfold repR; rw [if_pos h1, if_pos (by omega)]
  ·by_cases h2 : i < (k + m) * 4
   ·have hl : (List.take (k * 4) c.toList).length = k * 4 := by simp; omega
    rw [List.append_assoc, List.getElem?_append_right (by omega), List.getElem?_append_left (by rw [patL_len]; omega), hl, patL_get _ _ _ (by omega)]
    unfold repR; rw [if_pos h2]
    have := hp (i - k * 4) k
    rw [show i - k * 4 + k * 4 = i by omega] at this
    rw [this]
   ·have hl : (List.take (k * 4) c.toList ++ patL p (m * 4)).length = k * 4 + m * 4 := by simp [patL_len]; omega
    rw [List.getElem?_append_right (by omega), List.getElem?_drop, Array.getElem?_toList, hl, show k * 4 + m * 4 + (i - (k * 4 + m * 4)) = i by omega, hci]
    unfold repR; rw [if_neg h1, if_neg h2]
theorem copyR_first (w : World) (b n c : Nat) (p : Nat → Value) (hp1 : ∀ i, (p i).oneCell' = true) (hn : 0 < n) (hb : ∀ i, i < 4 → w.cell? ⟨b, i, none⟩ = some (p i)) :
  ∃ w', (Builtin.copy_ #[68, 68] 3 #[.slice (some ⟨w.heap.size, 0, none⟩) n n, .slice (some ⟨b, 0, none⟩) 1 c]).run Tryz.prog (w.alloc (.cells (madeCells zR (n * 4)) 95)) = .ok (.int .i64 1) w' ∧
   w'.rowIs w.heap.size 95 (n * 4) (repR p 1) ∧ w'.heap.size = w.heap.size + 1 ∧ Below w.heap.size w w' := by
 have hz : (madeCells zR (n * 4)).size = n * 4 := size_madeCells _ _
 have hnew : (w.alloc (.cells (madeCells zR (n * 4)) 95)).heap[w.heap.size]? = some (.cells (madeCells zR (n * 4)) 95 (0, 0)) := by unfold World.alloc; simp
 have e := run_copy_rowS (P := Tryz.prog) (w.alloc (.cells (madeCells zR (n * 4)) 95)) 68 68 3 95 w.heap.size 0 n n ⟨b, 0, none⟩ 1 c (madeCells zR (n * 4)) 95
  (patL p 4) 4 1 Tryz.underlying68 (by kernel_rfl) hnew (by show 1 = Nat.min 1 n; exact (Nat.min_eq_left hn).symm) rfl (fun j v hj => by
   have hj4 : j < 4 := by have := (List.getElem?_eq_some_iff.1 hj).1; rw [patL_len] at this; exact this
   rw [patL_get _ _ _ hj4] at hj
   rw [add_at, Nat.zero_add, ← hj]
   exact (World.cell?_alloc_some w _ _ (by show (w.cell? ⟨b, j, none⟩).isSome = true; rw [hb j hj4]; rfl)).trans (hb j hj4)) (by rw [hz, patL_len]; omega) (fun v hv => by simp [patL] at hv; obtain ⟨a, _, rfl⟩ := hv; exact hp1 a)
 refine ⟨_, e, ⟨_, setRow_heap _ _ _ _ _ _ hnew, ?_, fun i hi => ?_⟩, by rw [size_setRow]; simp, below_setRow ((Below.refl w.heap.size w).alloc (Nat.le_refl _) _) (Nat.le_refl _) _⟩
 ·simp [patL_len, hz]; omega
 ·have hm := made_zero4 (n * 4) i hi
  unfold repR
  simp only [List.getElem?_toArray, List.take_zero, List.nil_append]
  by_cases h1 : i < 1 * 4
  ·rw [if_pos h1, List.getElem?_append_left (by rw [patL_len]; omega), patL_get _ _ _ (by omega)]
  ·rw [if_neg h1, List.getElem?_append_right (by rw [patL_len]; omega), List.getElem?_drop, Array.getElem?_toList, patL_len, show 0 + 4 + (i - 4) = i by omega]
   exact hm
set_option maxHeartbeats 2000000 in
set_option maxRecDepth 100000 in
theorem repeatR_any (b c n : Nat) (p : Nat → Value) (hp : ∀ i j, p (i + j * 4) = p i) (hp1 : ∀ i, (p i).oneCell' = true) (w : World) (h0 : 0 < n) (hn : n ≤ 8) (hb : ∀ i, i < 4 → w.cell? ⟨b, i, none⟩ = some (p i)) :
  Calls Tryz.prog 82 #[.slice (some ⟨b, 0, none⟩) 1 c, .int .i64 (n : Nat)] w fun e w' => e = .returned (.slice (some ⟨w.heap.size, 0, none⟩) n n) ∧ w'.rowIs w.heap.size 95 (n * 4) (repR p n) ∧ w'.heap.size = w.heap.size + 1 ∧ Below w.heap.size w w' := by
 have hmk := mkRn n (by omega)
 have g0 : (0:Int) < (n:Int) := by omega
 have hw1 : IntKind.u64.wrap (n : Int) = (n : Int) := by rw [IntKind.wrap_u64]; omega
 have hw2 : IntKind.i64.wrap (n : Int) = (n : Int) := by rw [IntKind.wrap_i64]; omega
 have hlim : ¬ (n : Int) > 9223372036854775807 := by omega
 obtain ⟨wC, hcp, HR, hsz, HB⟩ := copyR_first w b n c p hp1 h0 hb
 have HR := Lib.hid HR
 have HB := Lib.hid HB
 have HSZ := Lib.hid hsz
 have HP := Lib.hid hp
 have HP1 := Lib.hid hp1
 clear hsz hb hp hp1
 have hul := rats_z
 go_enter Tryz.func82, Tryz.ntmps82
 go_wp2_with (first
  | (go_at_call 97; (with_reducible refine (mul1n n hn _).mono ?_); rintro e w1 ⟨rfl, rfl⟩))
 go_loopw [8] (fun v8 wr => ∃ k : Nat, 0 < k ∧ k ≤ n ∧ v8 = .int .i64 (k : Nat) ∧ Hid (wr.rowIs w.heap.size 95 (n * 4) (repR p k)) ∧ Hid (wr.heap.size = w.heap.size + 1) ∧ Hid (Below w.heap.size w wr)) (fun v8 _ => n - (intOf v8).toNat)
 case atStart => exact ⟨1, by omega, by omega, rfl, HR, HSZ, HB⟩
 case round =>
  clear HR HSZ HB
  obtain ⟨k, k0, hk, rfl, HR, HSZ, HB⟩ := hrel
  by_cases h : k < n
  ·obtain ⟨wD, hc2, HR2, hsz2, HB2⟩ := copyR_in wr.drew w.heap.size n k w.heap.size p HP.out HP1.out k0 h (Nat.le_refl _) HR.out
   have HR2 := Lib.hid HR2
   have HB2 := Lib.hid (HB2 _ HB.out.drew)
   have HSZ2 := Lib.hid hsz2
   clear hsz2
   have hm1 : Nat.min k (n - k) ≤ n - k := Nat.min_le_right _ _
   have hm0 : 0 < Nat.min k (n - k) := by show 0 < min k (n - k); omega
   generalize Nat.min k (n - k) = m at *
   have hwk : IntKind.i64.wrap ((k : Int) + (m : Int)) = ((k + m : Nat) : Int) := by rw [IntKind.wrap_i64]; omega
   have g1 : (0:Int) ≤ (k:Int) := Int.natCast_nonneg k
   have g2 : (k:Int) < (n:Int) := by omega
   have g3 : (k:Int) ≤ (n:Int) := by omega
   go_wp2
   go_region
   go_wp2
   go_roundw
   case rel => exact ⟨k + m, by omega, by omega, by go_num, HR2, Lib.hid (HSZ2.out.trans HSZ.out), HB2⟩
   case measure => simp [intOf]; omega
  ·obtain rfl : k = n := by omega
   go_wp2
   go_ret
   exact ⟨rfl, HR.out, HSZ.out, HB.out⟩
/-- the same, said of Rats -/
theorem repeat_rat (b c n : Nat) (x : Rat) (K : Nat) (s : Bool) (a a2 : Option Addr) (m e m2 e2 : Nat) (w : World) (h0 : 0 < n) (hn : n ≤ 8) (h : Own4 w b (.bool s) (.slice a m e) (.bool false) (.slice a2 m2 e2)) (hv : RatIs w (.agg #[.bool s, .slice a m e, .bool false, .slice a2 m2 e2]) x K) :
  Calls Tryz.prog 82 #[.slice (some ⟨b, 0, none⟩) 1 c, .int .i64 (n : Nat)] w fun ex w' => ∃ g, ex = .returned (.slice (some ⟨g, 0, none⟩) n n) ∧ RatRow w' g n (fun _ => x) K ∧ w.heap.size ≤ g ∧ Below w.heap.size w w' := by
 refine (repeatR_any b c n (pat4 (.bool s) (.slice a m e) (.bool false) (.slice a2 m2 e2)) (fun i j => by unfold pat4; rw [show (i + j * 4) % 4 = i % 4 by omega]) (pat4_one _ _ _ _ rfl rfl rfl rfl) w h0 hn (fun i hi => ?_)).mono ?_
 ·rcases (by omega : i = 0 ∨ i = 1 ∨ i = 2 ∨ i = 3) with rfl | rfl | rfl | rfl
  ·exact h.c0
  ·exact h.c1
  ·exact h.c2
  ·exact h.c3
 ·rintro ex w' ⟨rfl, hr, hs, hb⟩
  have hv2 := hv.mono hb (Nat.le_refl _)
  have ee : ∀ j r, r < 4 → j < n → repR (pat4 (.bool s) (.slice a m e) (.bool false) (.slice a2 m2 e2)) n (j * 4 + r) = pat4 (.bool s) (.slice a m e) (.bool false) (.slice a2 m2 e2) r := fun j r hr hj => by
   unfold repR; rw [if_pos (by omega)]; unfold pat4; rw [show (j * 4 + r) % 4 = r % 4 by omega]
  refine ⟨_, rfl, ⟨fun j hj => ⟨s, a, m, e, a2, m2, e2, ⟨?_, ?_, ?_, ?_, hr.lt⟩, fun _ => hv2⟩, fun o => hr.frozen o, hr.lt⟩, Nat.le_refl _, hb⟩
  ·rw [hr.cell (i := j * 4) (by omega)]; congr 1; exact ee j 0 (by omega) hj
  ·rw [hr.cell (i := j * 4 + 1) (by omega)]; congr 1; exact ee j 1 (by omega) hj
  ·rw [hr.cell (i := j * 4 + 2) (by omega)]; congr 1; exact ee j 2 (by omega) hj
  ·rw [hr.cell (i := j * 4 + 3) (by omega)]; congr 1; exact ee j 3 (by omega) hj
end Go.Proofs.YtcnaagiicpkcpaaGreat
