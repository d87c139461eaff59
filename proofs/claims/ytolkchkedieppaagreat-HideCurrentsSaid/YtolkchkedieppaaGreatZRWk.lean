/- walk of the reference: the potentials of the nodes that are reached from node 0. -/
import Derived.Test.YtolkchkedieppaaGreatZMapI
import Derived.Test.YtolkchkedieppaaGreatZCmpI
import Derived.Test.YtolkchkedieppaaGreatZFig
import Derived.Test.YtolkchkedieppaaGreatZRNum
import Derived.Deep.RegionHeld3
import Derived.Lib.SliceRun
set_option linter.unusedVariables false
set_option linter.unusedSimpArgs false
namespace Go.Proofs.YtolkchkedieppaaGreat
open Go.RowKit
attribute [local go_sem ↓] Go.wp_at_zero Go.wp_at_succ
theorem mq_u : Tryz.prog.underlying 124 = some (.map 3 59) := by kernel_rfl
theorem int_u : Tryz.prog.underlying 3 = some (.int .i64) := by kernel_rfl
theorem zq_zero (W : World) : (zeroValue 59).run Tryz.prog W = .ok (.agg #[.bool false, .slice none 0 0, .bool false, .slice none 0 0]) W := by kernel_rfl
theorem zqq_s : Tryz.prog.underlying 126 = some (.slice (Tryz.prog.elem 126)) := by kernel_rfl
theorem zqq_z (W : World) : (sizeOf (Tryz.prog.elem 126)).run Tryz.prog W = .ok 4 W := by kernel_rfl
theorem ixQq (b n c i : Nat) (hi : i < n) (W : World) :
  (Instr.indexAt 126 (.slice (some ⟨b, 0, none⟩) n c) (.int .i64 (i : Int))).run Tryz.prog W = .ok (.pointer (some ⟨b, i * 4, none⟩)) W := by
 rw [run_indexAt_slice W _ _ _ _ _ _ zqq_s, if_pos ⟨by omega, by omega⟩, zqq_z]
 simp only [Result.andThen, Int.toNat_natCast]
 congr 3
 unfold Addr.add
 split
 ·rename_i h; simp [show i = 0 by omega]
 ·simp
/-- currents, as walk reads them: a number without digits below counts as 0 -/
structure QCur (w : World) (u : Value) (m : Nat) (q : Nat → Rat) : Prop where
 ex : ∃ va vk, u = .slice va m vk ∧ (0 < m → ∃ g, va = some ⟨g, 0, none⟩ ∧ g < w.heap.size ∧ ∀ i, i < m → ∃ s a n c t a2 n2 c2, Rd4 w g (i * 4) (.bool s) (.slice a n c) (.bool t) (.slice a2 n2 c2) ∧
  ((a2 = none ∧ q i = 0) ∨ (a2 ≠ none ∧ QV w (.agg #[.bool s, .slice a n c, .bool t, .slice a2 n2 c2]) (q i) 1000)))
/-- the potentials found so far -/
structure WkM (w wx : World) (r N : Nat) (W : List (Int × Int)) (x : Nat → Rat) (F : Nat → Option Value) : Prop where
 m : MapN wx r N F
 v : ∀ i v, F i = some v → QIs wx v (x i).num (((x i).den : Nat) : Int) 1000
 d : ∀ i v, F i = some v → Rea W i
 z : keyB F 0 = true
 kb : Below w.heap.size w wx
 fr : w.heap.size ≤ r
section
variable {w wx wy : World} {r N : Nat} {W : List (Int × Int)} {x : Nat → Rat} {F : Nat → Option Value}
theorem WkM.below (h : WkM w wx r N W x F) (hb : Below wx.heap.size wx wy) : WkM w wy r N W x F :=
 ⟨h.m.below hb h.m.m.lt, fun i v e => (h.v i v e).mono hb (Nat.le_refl _), h.d, h.z, h.kb.trans (hb.mono h.kb.size), h.fr⟩
theorem WkM.put (h : WkM w wx r N W x F) (k : Nat) (v : Value) (hF : F k = none) (hk : k < N) (hr : Rea W k) (hv : QIs wx v (x k).num (((x k).den : Nat) : Int) 1000) :
  ∃ wy, (Instr.mapUpdate 124 (.map (some r)) (.int .i64 ((k : Nat) : Int)) v).run Tryz.prog wx = .ok () wy ∧ Hid (WkM w wy r N W x (setO F k v)) ∧ wx.grownBy wy (some r) := by
 obtain ⟨wy, h1, h2, h3, h4⟩ := h.m.put mq_u int_u k v hF hk
 refine ⟨wy, h1, Lib.hid ⟨h2, fun i u e => ?_, fun i u e => ?_, ?_, h.kb.grown h3 h.kb.size (fun kk e => by have := Option.some.inj e; have := h.fr; omega), h.fr⟩, h3⟩
 ·unfold setO at e
  by_cases q : i = k
  ·rw [if_pos q] at e
   have e := Option.some.inj e
   rw [← e, q]; exact qis_map hv h.m.m h3
  ·rw [if_neg q] at e
   exact qis_map (h.v i u e) h.m.m h3
 ·unfold setO at e
  by_cases q : i = k
  ·rw [q]; exact hr
  ·rw [if_neg q] at e; exact h.d i u e
 ·rw [keyB_set]
  unfold setB
  split
  ·rfl
  ·exact h.z
end
theorem WkM.lk {w wx : World} {r N : Nat} {W : List (Int × Int)} {x : Nat → Rat} {F : Nat → Option Value} (h : WkM w wx r N W x F) (k : Nat) :
  ∃ s a n c t a2 n2 c2 b, (Instr.lookup 124 (.map (some r)) (.int .i64 ((k : Nat) : Int)) true).run Tryz.prog wx = .ok (.tuple #[.agg #[.bool s, .slice a n c, .bool t, .slice a2 n2 c2], .bool b]) wx ∧ Hid (b = keyB F k) ∧
   Hid (b = true → QIs wx (.agg #[.bool s, .slice a n c, .bool t, .slice a2 n2 c2]) (x k).num (((x k).den : Nat) : Int) 1000) := by
 rcases hF : F k with _ | v
 ·exact ⟨false, none, 0, 0, false, none, 0, 0, false, h.m.m.miss mq_u int_u k _ (zq_zero _) hF true, Lib.hid (by unfold keyB; rw [hF]; rfl), Lib.hid (fun e => by cases e)⟩
 ·have hv := h.v k v hF
  obtain ⟨s, a, n, c, t, a2, n2, c2, rfl, -, -, -⟩ := hv.shape
  exact ⟨s, a, n, c, t, a2, n2, c2, true, h.m.m.look mq_u int_u k _ hF true, Lib.hid (by unfold keyB; rw [hF]; rfl), Lib.hid (fun _ => hv)⟩
theorem key_none {F : Nat → Option Value} {k : Nat} (h : false = keyB F k) : F k = none := by
 unfold keyB at h
 rcases e : F k with _ | v
 ·rfl
 ·rw [e] at h; cases h
theorem WkM.rea {w wx : World} {r N : Nat} {W : List (Int × Int)} {x : Nat → Rat} {F : Nat → Option Value} (h : WkM w wx r N W x F) {k : Nat} (hk : true = keyB F k) : Rea W k := by
 unfold keyB at hk
 rcases e : F k with _ | v
 ·rw [e] at hk; cases hk
 ·exact h.d k v e
/-- wire j's ends are both found, or none of them is -/
def balW (W : List (Int × Int)) (F : Nat → Option Value) (j : Nat) : Prop := keyB F (wA W j) = keyB F (wB W j)
def ClsW (W : List (Int × Int)) (F : Nat → Option Value) : Prop := ∀ j, j < W.length → balW W F j
/-- within round rd, at wire i -/
def RndW (W : List (Int × Int)) (N rd i : Nat) (F : Nat → Option Value) : Prop := ClsW W F ∨ rd + 2 ≤ cntC (keyB F) N ∨ (rd + 1 ≤ cntC (keyB F) N ∧ ∀ j, j < i → balW W F j)
theorem RndW.stay {W : List (Int × Int)} {N rd i : Nat} {F : Nat → Option Value} (h : RndW W N rd i F) (hb : balW W F i) : RndW W N rd (i + 1) F := by
 rcases h with h | h | ⟨h1, h2⟩
 ·exact .inl h
 ·exact .inr (.inl h)
 ·exact .inr (.inr ⟨h1, fun j hj => by
   by_cases e : j = i
   ·rw [e]; exact hb
   ·exact h2 j (by omega)⟩)
theorem RndW.more {W : List (Int × Int)} {N rd i k : Nat} {F : Nat → Option Value} {v : Value} (h : RndW W N rd i F) (hi : i < W.length) (hn : ¬ balW W F i) (hF : F k = none) (hk : k < N) : RndW W N rd (i + 1) (setO F k v) := by
 have e : cntC (keyB (setO F k v)) N = cntC (keyB F) N + 1 := by rw [keyB_set]; exact cntC_set (keyB F) k (by unfold keyB; rw [hF]; rfl) N hk
 rcases h with h | h | ⟨h1, h2⟩
 ·exact absurd (h i hi) hn
 ·exact .inr (.inl (by omega))
 ·exact .inr (.inl (by omega))
theorem RndW.done {W : List (Int × Int)} {N rd : Nat} {F : Nat → Option Value} (h : RndW W N rd W.length F) : ClsW W F ∨ rd + 2 ≤ cntC (keyB F) N := by
 rcases h with h | h | ⟨h1, h2⟩
 ·exact .inl h
 ·exact .inr h
 ·exact .inl h2
theorem run_eql_nil {P : Program} (w : World) (t e : TypeId) (a : Option Addr) (n c n' c' : Nat) (h : P.underlying t = some (.slice e)) :
  (binOp .eql t (.slice a n c) (.slice none n' c')).run P w = .ok (.bool a.isNone) w := by
 simp only [binOp]
 simp [Op.equal, Op.maxDepth, Lib.run_equalIn_slice_nil w 9999 t e a n c n' c' h]
theorem ints_u : Tryz.prog.underlying 22 = some (.slice (Tryz.prog.elem 22)) := by kernel_rfl
/-- a store into a box of the call's own, beside the map -/
theorem WkM.st4 {w wx : World} {r N b : Nat} {W : List (Int × Int)} {x : Nat → Rat} {F : Nat → Option Value} {s t : Bool} {a a2 : Option Addr} {n c n2 c2 : Nat} (h : WkM w wx r N W x F) (O : Own4 wx b (.bool s) (.slice a n c) (.bool t) (.slice a2 n2 c2)) (hb : w.heap.size ≤ b) (hne : b ≠ r) (u0 u1 u2 u3 : Value) :
  WkM w ((((wx.setCell ⟨b, 0, none⟩ u0).setCell ⟨b, 1, none⟩ u1).setCell ⟨b, 2, none⟩ u2).setCell ⟨b, 3, none⟩ u3) r N W x F := by
 refine ⟨h.m.of_heap ?_, fun i v e => ?_, h.d, h.z, below_st4 (o := 0) h.kb hb u0 u1 u2 u3, h.fr⟩
 ·rw [Below.heap_setCell _ _ _ _ (fun e => hne e.symm), Below.heap_setCell _ _ _ _ (fun e => hne e.symm), Below.heap_setCell _ _ _ _ (fun e => hne e.symm), Below.heap_setCell _ _ _ _ (fun e => hne e.symm)]
 ·obtain ⟨s1, u1', s2, u2', h0, g1, g2, g3⟩ := h.v i v e
  have key : ∀ {v z m}, ZIs wx v z m → ZIs ((((wx.setCell ⟨b, 0, none⟩ u0).setCell ⟨b, 1, none⟩ u1).setCell ⟨b, 2, none⟩ u2).setCell ⟨b, 3, none⟩ u3) v z m := fun {v z m} k =>
   (((k.setCell u0 O.c0 (noInt_bool _)).setCell u1 (off_set (by decide) O.c1) (noInt_slice _ _ _)).setCell u2 (off_set (by decide) (off_set (by decide) O.c2)) (noInt_bool _)).setCell u3 (off_set (by decide) (off_set (by decide) (off_set (by decide) O.c3))) (noInt_slice _ _ _)
  exact ⟨s1, u1', s2, u2', h0, key g1, key g2, g3⟩
theorem own4_of (w : World) (x0 x1 x2 x3 : Value) (t : TypeId) : Own4 (w.alloc (.cells #[x0, x1, x2, x3] t)) w.heap.size x0 x1 x2 x3 := own4_new w w.heap.size rfl x0 x1 x2 x3 t
set_option maxHeartbeats 8000000 in
set_option maxRecDepth 100000 in
theorem walk_any (N : Nat) (v u : Value) (W : List (Int × Int)) (x q : Nat → Rat) (w : World) (hv : PrV w v W) (hu : QCur w u W.length q) (hl : W.length ≤ 24) (hN : 1 ≤ N) (hN2 : N ≤ 25) (hok : WiresOK N W)
  (hq : ∀ k, k < W.length → q k = x (wA W k) - x (wB W k)) (h0 : x 0 = 0) (hx : ∀ i, i < N → nd (x i).num.natAbs ≤ 1000 ∧ nd (x i).den ≤ 1000) :
  Calls Tryz.prog 75 #[.int .i64 (N : Nat), v, u] w fun e w' => ∃ r F, e = .returned (.map (some r)) ∧ Hid (WkM w w' r N W x F) ∧ Hid (∀ i, Rea W i → keyB F i = true) := by
 obtain ⟨va, vk, rfl, hp⟩ := hv.ex
 obtain ⟨ua, uk, rfl, hc⟩ := hu.ex
 have HP := Lib.hid hp
 have HC := Lib.hid hc
 have HOK := Lib.hid hok
 have HQ := Lib.hid hq
 have HX := Lib.hid hx
 have H0 := Lib.hid h0
 have hmk : (Instr.makeMap 124 none).run Tryz.prog w = .ok (.map (some w.heap.size)) (w.alloc (.map #[] 0)) := by simp [Instr.makeMap]
 have M0 := Lib.hid (MapN.new w N)
 have KW := Lib.hid ((Below.refl w.heap.size w).alloc (Nat.le_refl _) (.map #[] 0))
 clear hp hc hv hu hok hq hx h0
 go_enter Tryz.func75, Tryz.ntmps75
 go_upto_region 2 with (go_at_call 36; go_loud ((with_reducible refine (whole_any 0 (by omega) (by omega) _).mono ?_); rintro e w1 ⟨z0, rfl, hz, hb⟩; have M1 := Lib.hid (M0.out.below hb M0.out.m.lt); have KW := Lib.hid (KW.out.trans (hb.mono KW.out.size)); obtain ⟨wp, hrun, hM, hg, hs⟩ := M1.out.put mq_u int_u 0 z0 rfl (by omega); rw [show (((0 : Nat) : Int)) = 0 from rfl] at hrun; have HZ := Lib.hid hz; have HM := Lib.hid hM; have HG := Lib.hid hg; clear hb hz hM hg hs))
 have WK0 : Hid (WkM w wp w.heap.size N W x (setO (fun _ => none) 0 z0)) := Lib.hid (by
  refine ⟨HM.out, fun i v e => ?_, fun i v e => ?_, by simp [keyB, setO], KW.out.grown HG.out KW.out.size (fun kk e => by have := Option.some.inj e; omega), Nat.le_refl _⟩
  ·unfold setO at e
   by_cases q : i = 0
   ·rw [if_pos q] at e
    have e := Option.some.inj e
    rw [← e, q, H0.out]
    exact (qis_map HZ.out M1.out.m HG.out).le (by omega)
   ·rw [if_neg q] at e; cases e
  ·unfold setO at e
   by_cases q : i = 0
   ·rw [q]; exact .zero
   ·rw [if_neg q] at e; cases e)
 have HR0 : Hid (ClsW W (setO (fun _ => none) 0 z0) ∨ 0 + 1 ≤ cntC (keyB (setO (fun _ => none) 0 z0)) N) := Lib.hid (.inr (by
  rw [keyB_set, cntC_set _ 0 (by simp [keyB]) N (by omega)]; omega))
 generalize setO (fun _ => none) 0 z0 = F0 at WK0 HR0
 obtain ⟨r, hr⟩ : ∃ r, r = w.heap.size := ⟨_, rfl⟩
 rw [← hr] at WK0 ⊢
 clear hr hrun hmk M0 M1 HM HG HZ KW
 go_wp2
 go_loopw [8, 9, 10, 11, 12, 13, 14] (fun v8 v9 v10 v11 v12 v13 v14 wr => ∃ (rd : Nat) (F : Nat → Option Value), rd ≤ N ∧ v8 = .int .i64 (rd : Nat) ∧ Hid (WkM w wr r N W x F) ∧ Hid (ClsW W F ∨ rd + 1 ≤ cntC (keyB F) N)) (fun v8 _ _ _ _ _ _ _ => N - (intOf v8).toNat)
 case atStart => exact ⟨0, F0, by omega, rfl, WK0, HR0⟩
 case round =>
  clear WK0 HR0
  obtain ⟨rd, F, hrd, rfl, WK, HR⟩ := hrel
  by_cases h : rd < N
  ·have e1 : decide ((rd : Int) < (N : Int)) = true := by simpa using h
   have e1n : decide (rd < N) = true := by simpa using h
   have HI : Hid (RndW W N rd 0 F) := Lib.hid (by
    rcases HR.out with q | q
    ·exact .inl q
    ·exact .inr (.inr ⟨q, fun j hj => by omega⟩))
   clear HR
   go_wp2
   go_loopw [9, 10, 11, 12, 13, 14] (fun v9 v10 v11 v12 v13 v14 wi => ∃ (i : Nat) (F : Nat → Option Value), i ≤ W.length ∧ v9 = .int .i64 (i : Nat) ∧ Hid (WkM w wi r N W x F) ∧ Hid (RndW W N rd i F)) (fun v9 _ _ _ _ _ _ => W.length - (intOf v9).toNat)
   case atStart => exact ⟨0, F, by omega, rfl, WK, HI⟩
   case round =>
    clear WK HI
    obtain ⟨i, F, hi, rfl, WK, HI⟩ := hrel
    by_cases h2 : i < W.length
    ·have e2 : decide ((i : Int) < ((W.length : Nat) : Int)) = true := by simpa using h2
     have e2n : decide (i < W.length) = true := by simpa using h2
     obtain ⟨g0, rfl, hp2, hg0⟩ := HP.out (by omega)
     obtain ⟨gu, rfl, hgu, hcu⟩ := HC.out (by omega)
     have ixu := fun X => ixQq gu W.length uk i h2 X
     have ixw := fun X => ixPr g0 W.length vk i h2 X
     obtain ⟨ea, la⟩ := HOK.out.a h2
     obtain ⟨eb, lb⟩ := HOK.out.b h2
     have WIR : Hid (∀ wx, Below w.heap.size w wx → wx.cell? ⟨g0, i * 2, none⟩ = some (.int .i64 (wA W i : Nat)) ∧ wx.cell? ⟨g0, i * 2 + 1, none⟩ = some (.int .i64 (wB W i : Nat))) := Lib.hid (fun wx hb => by
      have P := hp2.below hb hg0
      have c0 := P.c0 i h2
      have c1 := P.c1 i h2
      rw [Nat.zero_add, ea] at c0
      rw [Nat.zero_add, eb] at c1
      exact ⟨c0, c1⟩)
     obtain ⟨s, a1, n1, c1, t, a2, n2, c2, hr4, hqv⟩ := hcu i h2
     have HQV := Lib.hid hqv
     have HQI := Lib.hid (HQ.out i h2)
     have HBA : Hid (balW W F i ↔ keyB F (wA W i) = keyB F (wB W i)) := Lib.hid Iff.rfl
     have HRB : Hid (Rea W (wA W i) → Rea W (wB W i)) := Lib.hid (fun k => .fw i h2 k)
     have HRA : Hid (Rea W (wB W i) → Rea W (wA W i)) := Lib.hid (fun k => .bw i h2 k)
     have hru := hr4.below WK.out.kb hgu
     have y0 := hru.c0
     have y1 := hru.c1
     have y2 := hru.c2
     have y3 := hru.c3
     obtain ⟨A, hA⟩ : ∃ A, A = wA W i := ⟨_, rfl⟩
     obtain ⟨B, hB⟩ : ∃ B, B = wB W i := ⟨_, rfl⟩
     rw [← hA] at la WIR HQI HBA HRB HRA
     rw [← hB] at lb WIR HQI HBA HRB HRA
     have HW2 := Lib.hid h2
     clear hA hB ea eb hp2 hg0 hcu hqv hru
     go_upto_region 9 with (fail)
     clear y0 y1 y2 y3 ixu
     have AL := Lib.hid ((Below.refl wr.heap.size wr).alloc (Nat.le_refl _) (.cells #[.bool s, .slice a1 n1 c1, .bool t, .slice a2 n2 c2] 59))
     have HQV := Lib.hid (HQV.out.imp id (fun q => (And.intro q.1 (q.2.mono (WK.out.kb.trans (AL.out.mono WK.out.kb.size)) (Nat.le_refl _)))))
     have WK0r := WK
     have WK := Lib.hid (WK.out.below AL.out)
     have OC := Lib.hid (own4_of wr (.bool s) (.slice a1 n1 c1) (.bool t) (.slice a2 n2 c2) 59)
     have hlr : r < wr.heap.size := WK0r.out.m.m.lt
     have HCB := Lib.hid (show w.heap.size ≤ wr.heap.size from WK0r.out.kb.size)
     obtain ⟨cb, hcb⟩ : ∃ cb, cb = wr.heap.size := ⟨_, rfl⟩
     rw [← hcb] at OC HCB ⊢
     generalize wr.alloc (.cells #[.bool s, .slice a1 n1 c1, .bool t, .slice a2 n2 c2] 59) = w2 at *
     have HNE : cb ≠ r := by omega
     clear hcb AL hlr WK0r
     obtain ⟨bn, hbn⟩ : ∃ bn, bn = a2.isNone := ⟨_, rfl⟩
     have ez := fun (X : World) => run_eql_nil (P := Tryz.prog) X 22 _ a2 n2 c2 0 0 ints_u
     rw [← hbn] at ez
     have HBN := Lib.hid hbn
     clear hbn
     have OC0 := OC
     obtain ⟨z0, z1, z2, z3, zf, zl⟩ := OC.out
     have zf0 := zf 0
     have zf1 := zf 1
     have zf2 := zf 2
     have zf3 := zf 3
     clear zf
     go_upto_if 36 with (fail)
     go_cut [10] (fun v10 wx => v10 = .pointer (some ⟨cb, 0, none⟩) ∧ ∃ (s : Bool) (a1 : Option Addr) (n1 c1 : Nat) (t : Bool) (a2 : Option Addr) (n2 c2 : Nat), Hid (Own4 wx cb (.bool s) (.slice a1 n1 c1) (.bool t) (.slice a2 n2 c2)) ∧ Hid (QV wx (.agg #[.bool s, .slice a1 n1 c1, .bool t, .slice a2 n2 c2]) (q i) 1000) ∧ Hid (WkM w wx r N W x F))
     case first =>
      have HNR := Lib.hid HNE
      clear HNE
      rcases HQV.out with ⟨e3, e4⟩ | ⟨e3, e4⟩
      ·have E4 := Lib.hid e4
       obtain rfl : bn = true := by rw [HBN.out, e3]; rfl
       clear e3 e4 HQV
       go_wp2_with (go_at_call 36; go_loud ((with_reducible refine (whole_any 0 (by omega) (by omega) _).mono ?_); rintro e w3 ⟨zr, rfl, hz, hb⟩; obtain ⟨s3, a3, n3, c3, t3, a4, n4, c4, rfl, -, -, -⟩ := hz.shape; have HZ := Lib.hid hz; have OC := Lib.hid (OC.out.below hb OC.out.lt); have WK := Lib.hid (WK.out.below hb); clear z0 z1 z2 z3 zl zf0 zf1 zf2 zf3; obtain ⟨z0, z1, z2, z3, zf, zl⟩ := OC.out; have zf0 := zf 0; have zf1 := zf 1; have zf2 := zf 2; have zf3 := zf 3; clear zf hz hb))
       go_meet
       case rel =>
        refine ⟨rfl, s3, a3, n3, c3, t3, a4, n4, c4, Lib.hid (OC.out.anew _ _ _ _), Lib.hid ⟨0, 1, ?_, by rw [E4.out]; simp⟩, Lib.hid (WK.out.st4 OC.out HCB.out HNR.out _ _ _ _)⟩
        obtain ⟨s1, u1', s2, u2', h0, g1, g2, g3⟩ := HZ.out.le (show 5 ≤ 1000 by omega)
        have key : ∀ {v z m}, ZIs w3 v z m → ZIs ((((w3.setCell ⟨cb, 0, none⟩ (.bool s3)).setCell ⟨cb, 1, none⟩ (.slice a3 n3 c3)).setCell ⟨cb, 2, none⟩ (.bool t3)).setCell ⟨cb, 3, none⟩ (.slice a4 n4 c4)) v z m := fun {v z m} k =>
         (((k.setCell _ OC.out.c0 (noInt_bool _)).setCell _ (off_set (by decide) OC.out.c1) (noInt_slice _ _ _)).setCell _ (off_set (by decide) (off_set (by decide) OC.out.c2)) (noInt_bool _)).setCell _ (off_set (by decide) (off_set (by decide) (off_set (by decide) OC.out.c3))) (noInt_slice _ _ _)
        exact ⟨s1, u1', s2, u2', h0, key g1, key g2, g3⟩
      ·obtain rfl : bn = false := by
        rw [HBN.out]
        rcases a2 with _ | _
        ·exact absurd rfl e3
        ·rfl
       have HQV2 := Lib.hid e4
       clear e3 e4 HQV
       go_wp2
       go_meet
       case rel => exact ⟨rfl, s, a1, n1, c1, t, a2, n2, c2, OC, HQV2, WK⟩
     case rest =>
      obtain ⟨rfl, s, a1, n1, c1, t, a2, n2, c2, OC, HQC, WK⟩ := hcut
      have HNR := Lib.hid HNE
      clear HNE z0 z1 z2 z3 zl zf0 zf1 zf2 zf3 ez HBN OC0 HQV
      obtain ⟨v0, v1⟩ := WIR.out _ WK.out.kb
      obtain ⟨s3, a3, n3, c3, t3, a4, n4, c4, ba, lkA, HBA2, QA⟩ := WK.out.lk A
      have hlr := WK.out.m.m.lt
      go_upto_region 12 with (fail)
      have AL := Lib.hid ((Below.refl wc.heap.size wc).alloc (Nat.le_refl _) (.cells #[.bool s3, .slice a3 n3 c3, .bool t3, .slice a4 n4 c4] 59))
      have OP := Lib.hid (own4_of wc (.bool s3) (.slice a3 n3 c3) (.bool t3) (.slice a4 n4 c4) 59)
      have OC := Lib.hid (OC.out.below AL.out OC.out.lt)
      have WK := Lib.hid (WK.out.below AL.out)
      have HQC := Lib.hid (HQC.out.mono AL.out (Nat.le_refl _))
      have QA := Lib.hid (fun e => (QA.out e).mono AL.out (Nat.le_refl _))
      obtain ⟨pb, hpb⟩ : ∃ pb, pb = wc.heap.size := ⟨_, rfl⟩
      have HNP : Hid (pb ≠ r) := Lib.hid (by omega)
      rw [← hpb] at OP ⊢
      generalize wc.alloc (.cells #[.bool s3, .slice a3 n3 c3, .bool t3, .slice a4 n4 c4] 59) = w4 at *
      clear hpb AL hlr lkA v0 v1
      obtain ⟨v0, v1⟩ := WIR.out _ WK.out.kb
      obtain ⟨s5, a5, n5, c5, t5, a6, n6, c6, bb, lkB, HBB, QB⟩ := WK.out.lk B
      have hlr := WK.out.m.m.lt
      go_upto_region 13 with (fail)
      have AL := Lib.hid ((Below.refl w4.heap.size w4).alloc (Nat.le_refl _) (.cells #[.bool s5, .slice a5 n5 c5, .bool t5, .slice a6 n6 c6] 59))
      have OQ := Lib.hid (own4_of w4 (.bool s5) (.slice a5 n5 c5) (.bool t5) (.slice a6 n6 c6) 59)
      have OC := Lib.hid (OC.out.below AL.out OC.out.lt)
      have OP := Lib.hid (OP.out.below AL.out OP.out.lt)
      have WK := Lib.hid (WK.out.below AL.out)
      have HQC := Lib.hid (HQC.out.mono AL.out (Nat.le_refl _))
      have QA := Lib.hid (fun e => (QA.out e).mono AL.out (Nat.le_refl _))
      have QB := Lib.hid (fun e => (QB.out e).mono AL.out (Nat.le_refl _))
      obtain ⟨qb, hqb⟩ : ∃ qb, qb = w4.heap.size := ⟨_, rfl⟩
      have HNQ : Hid (qb ≠ r) := Lib.hid (by omega)
      rw [← hqb] at OQ ⊢
      generalize w4.alloc (.cells #[.bool s5, .slice a5 n5 c5, .bool t5, .slice a6 n6 c6] 59) = w5 at *
      clear hqb AL hlr lkB v0 v1 ixw
      rcases ba with _ | _ <;> rcases bb with _ | _
      ·go_wp2
       go_roundw
       case rel => exact ⟨i + 1, F, by have := HW2.out; omega, by go_num, WK, Lib.hid (HI.out.stay (HBA.out.2 (HBA2.out.symm.trans HBB.out)))⟩
       case measure => have := HW2.out; simp [intOf]; omega
      ·have HKR : Hid (∀ w', (Below w5.heap.size w5 w' ∨ ∃ w6, Below w5.heap.size w5 w6 ∧ w6.grownBy w' (some r)) → w'.cell? ⟨g0, i * 2, none⟩ = some (.int .i64 (A : Nat)) ∧ w'.cell? ⟨qb, 0, none⟩ = some (.bool s5) ∧ w'.cell? ⟨qb, 1, none⟩ = some (.slice a5 n5 c5) ∧ w'.cell? ⟨qb, 2, none⟩ = some (.bool t5) ∧ w'.cell? ⟨qb, 3, none⟩ = some (.slice a6 n6 c6) ∧ w'.cell? ⟨cb, 0, none⟩ = some (.bool s) ∧ w'.cell? ⟨cb, 1, none⟩ = some (.slice a1 n1 c1) ∧ w'.cell? ⟨cb, 2, none⟩ = some (.bool t) ∧ w'.cell? ⟨cb, 3, none⟩ = some (.slice a2 n2 c2)) := Lib.hid (fun w' hb => by
        rcases hb with hb | ⟨w6, hb, hg⟩
        ·have h1 := OQ.out.below hb OQ.out.lt
         have h2 := OC.out.below hb OC.out.lt
         exact ⟨(WIR.out _ (WK.out.kb.trans (hb.mono WK.out.kb.size))).1, h1.c0, h1.c1, h1.c2, h1.c3, h2.c0, h2.c1, h2.c2, h2.c3⟩
        ·have h1 := (OQ.out.below hb OQ.out.lt).grown hg (fun e => HNQ.out (Option.some.inj e))
         have h2 := (OC.out.below hb OC.out.lt).grown hg (fun e => HNR.out (Option.some.inj e))
         have h3 := (WIR.out _ (WK.out.kb.trans (hb.mono WK.out.kb.size))).1
         have h4 := (WK.out.below hb).m.m.noCell h3
         exact ⟨(World.cell?_of_block (hg.block g0 (World.block_lt_of_cell? w6 _ h3) (fun e => h4 (Option.some.inj e)))).trans h3, h1.c0, h1.c1, h1.c2, h1.c3, h2.c0, h2.c1, h2.c2, h2.c3⟩)
       have hS0 := HKR.out w5.drew (.inl (Below.refl _ _).drew)
       have ixw := fun X => ixPr g0 W.length vk i HW2.out X
       have HFN : Hid (F A = none) := Lib.hid (key_none HBA2.out)
       have HRE : Hid (Rea W A) := Lib.hid (HRA.out (WK.out.rea HBB.out))
       have HXE : Hid (x B + q i = x A) := Lib.hid (by rw [HQI.out]; grind)
       have HXN := Lib.hid (HX.out A la)
       have HQ5 := Lib.hid (QV.of (QB.out rfl))
       have KW5 := Lib.hid ((Below.refl w5.heap.size w5).drew)
       have HNB : Hid (¬ balW W F i) := Lib.hid (fun k => by have k := HBA.out.1 k; rw [← HBA2.out, ← HBB.out] at k; cases k)
       clear hS0
       go_wp2
       go_region_held3 (fun w' => w'.cell? ⟨g0, i * 2, none⟩ = some (.int .i64 (A : Nat)) ∧ w'.cell? ⟨qb, 0, none⟩ = some (.bool s5) ∧ w'.cell? ⟨qb, 1, none⟩ = some (.slice a5 n5 c5) ∧ w'.cell? ⟨qb, 2, none⟩ = some (.bool t5) ∧ w'.cell? ⟨qb, 3, none⟩ = some (.slice a6 n6 c6) ∧ w'.cell? ⟨cb, 0, none⟩ = some (.bool s) ∧ w'.cell? ⟨cb, 1, none⟩ = some (.slice a1 n1 c1) ∧ w'.cell? ⟨cb, 2, none⟩ = some (.bool t) ∧ w'.cell? ⟨cb, 3, none⟩ = some (.slice a2 n2 c2))
        (first | (with_reducible exact HKR.out _ (.inl KW5.out)) | (with_reducible exact HKR.out _ (.inr ⟨_, KW6.out, HG6.out⟩)))
        (first
         | (go_at_call 81; (with_reducible refine (qv_add _ _ (x B) (q i) 1000 _ (HQ5.out.mono KW5.out (Nat.le_refl _)) (HQC.out.mono KW5.out (Nat.le_refl _)) (by omega)).mono ?_); rintro e w6 ⟨rv, rfl, hq, hb⟩; rw [HXE.out] at hq; have HQ6 := Lib.hid hq; have KW5 := Lib.hid (KW5.out.trans (hb.mono KW5.out.size)); clear hq hb)
         | (go_at_call 87; (with_reducible refine (qv_low _ (x A) (2 * 1000 + 1) _ HQ6.out (by omega)).mono ?_); rintro e w7 ⟨rv2, rfl, hq, hb⟩; have KW6 := Lib.hid (KW5.out.trans (hb.mono KW5.out.size)); obtain ⟨w8, hrun, WK8, hg⟩ := (WK.out.below KW6.out).put A rv2 HFN.out la HRE.out (hq.tight HXN.out.1 (by rw [Int.natAbs_natCast]; exact HXN.out.2)); have HG6 := Lib.hid hg; have KW5 := KW6; clear hq hb hg))
       all_goals
        go_wp2
        go_roundw
        case rel => exact ⟨i + 1, _, by have := HW2.out; omega, by go_num, WK8, Lib.hid (HI.out.more HW2.out HNB.out HFN.out la)⟩
        case measure => have := HW2.out; simp [intOf]; omega
      ·have HKR : Hid (∀ w', (Below w5.heap.size w5 w' ∨ ∃ w6, Below w5.heap.size w5 w6 ∧ w6.grownBy w' (some r)) → w'.cell? ⟨g0, i * 2 + 1, none⟩ = some (.int .i64 (B : Nat)) ∧ w'.cell? ⟨pb, 0, none⟩ = some (.bool s3) ∧ w'.cell? ⟨pb, 1, none⟩ = some (.slice a3 n3 c3) ∧ w'.cell? ⟨pb, 2, none⟩ = some (.bool t3) ∧ w'.cell? ⟨pb, 3, none⟩ = some (.slice a4 n4 c4) ∧ w'.cell? ⟨cb, 0, none⟩ = some (.bool s) ∧ w'.cell? ⟨cb, 1, none⟩ = some (.slice a1 n1 c1) ∧ w'.cell? ⟨cb, 2, none⟩ = some (.bool t) ∧ w'.cell? ⟨cb, 3, none⟩ = some (.slice a2 n2 c2)) := Lib.hid (fun w' hb => by
        rcases hb with hb | ⟨w6, hb, hg⟩
        ·have h1 := OP.out.below hb OP.out.lt
         have h2 := OC.out.below hb OC.out.lt
         exact ⟨(WIR.out _ (WK.out.kb.trans (hb.mono WK.out.kb.size))).2, h1.c0, h1.c1, h1.c2, h1.c3, h2.c0, h2.c1, h2.c2, h2.c3⟩
        ·have h1 := (OP.out.below hb OP.out.lt).grown hg (fun e => HNP.out (Option.some.inj e))
         have h2 := (OC.out.below hb OC.out.lt).grown hg (fun e => HNR.out (Option.some.inj e))
         have h3 := (WIR.out _ (WK.out.kb.trans (hb.mono WK.out.kb.size))).2
         have h4 := (WK.out.below hb).m.m.noCell h3
         exact ⟨(World.cell?_of_block (hg.block g0 (World.block_lt_of_cell? w6 _ h3) (fun e => h4 (Option.some.inj e)))).trans h3, h1.c0, h1.c1, h1.c2, h1.c3, h2.c0, h2.c1, h2.c2, h2.c3⟩)
       have hS0 := HKR.out w5.drew (.inl (Below.refl _ _).drew)
       have ixw := fun X => ixPr g0 W.length vk i HW2.out X
       have HFN : Hid (F B = none) := Lib.hid (key_none HBB.out)
       have HRE : Hid (Rea W B) := Lib.hid (HRB.out (WK.out.rea HBA2.out))
       have HXE : Hid (x A - q i = x B) := Lib.hid (by rw [HQI.out]; grind)
       have HXN := Lib.hid (HX.out B lb)
       have HQ5 := Lib.hid (QV.of (QA.out rfl))
       have KW5 := Lib.hid ((Below.refl w5.heap.size w5).drew)
       have HNB : Hid (¬ balW W F i) := Lib.hid (fun k => by have k := HBA.out.1 k; rw [← HBA2.out, ← HBB.out] at k; cases k)
       clear hS0
       go_wp2
       go_region_held3 (fun w' => w'.cell? ⟨g0, i * 2 + 1, none⟩ = some (.int .i64 (B : Nat)) ∧ w'.cell? ⟨pb, 0, none⟩ = some (.bool s3) ∧ w'.cell? ⟨pb, 1, none⟩ = some (.slice a3 n3 c3) ∧ w'.cell? ⟨pb, 2, none⟩ = some (.bool t3) ∧ w'.cell? ⟨pb, 3, none⟩ = some (.slice a4 n4 c4) ∧ w'.cell? ⟨cb, 0, none⟩ = some (.bool s) ∧ w'.cell? ⟨cb, 1, none⟩ = some (.slice a1 n1 c1) ∧ w'.cell? ⟨cb, 2, none⟩ = some (.bool t) ∧ w'.cell? ⟨cb, 3, none⟩ = some (.slice a2 n2 c2))
        (first | (with_reducible exact HKR.out _ (.inl KW5.out)) | (with_reducible exact HKR.out _ (.inr ⟨_, KW6.out, HG6.out⟩)))
        (first
         | (go_at_call 82; (with_reducible refine (qv_sub _ _ (x A) (q i) 1000 _ (HQ5.out.mono KW5.out (Nat.le_refl _)) (HQC.out.mono KW5.out (Nat.le_refl _)) (by omega)).mono ?_); rintro e w6 ⟨rv, rfl, hq, hb⟩; rw [HXE.out] at hq; have HQ6 := Lib.hid hq; have KW5 := Lib.hid (KW5.out.trans (hb.mono KW5.out.size)); clear hq hb)
         | (go_at_call 87; (with_reducible refine (qv_low _ (x B) (2 * 1000 + 1) _ HQ6.out (by omega)).mono ?_); rintro e w7 ⟨rv2, rfl, hq, hb⟩; have KW6 := Lib.hid (KW5.out.trans (hb.mono KW5.out.size)); obtain ⟨w8, hrun, WK8, hg⟩ := (WK.out.below KW6.out).put B rv2 HFN.out lb HRE.out (hq.tight HXN.out.1 (by rw [Int.natAbs_natCast]; exact HXN.out.2)); have HG6 := Lib.hid hg; have KW5 := KW6; clear hq hb hg))
       all_goals
        go_wp2
        go_roundw
        case rel => exact ⟨i + 1, _, by have := HW2.out; omega, by go_num, WK8, Lib.hid (HI.out.more HW2.out HNB.out HFN.out lb)⟩
        case measure => have := HW2.out; simp [intOf]; omega
      ·go_wp2
       go_roundw
       case rel => exact ⟨i + 1, F, by have := HW2.out; omega, by go_num, WK, Lib.hid (HI.out.stay (HBA.out.2 (HBA2.out.symm.trans HBB.out)))⟩
       case measure => have := HW2.out; simp [intOf]; omega
    ·obtain rfl : i = W.length := by omega
     have e2 : decide (((W.length : Nat) : Int) < ((W.length : Nat) : Int)) = false := by simp
     go_wp2
     go_roundw
     case rel => exact ⟨rd + 1, F, by omega, by go_num, WK, Lib.hid HI.out.done⟩
     case measure => simp [intOf]; omega
  ·obtain rfl : rd = N := by omega
   have e1 : decide ((rd : Int) < (rd : Int)) = false := by simp
   have HCL : Hid (∀ i, Rea W i → keyB F i = true) := Lib.hid (fun i hi => by
    have hc : ClsW W F := HR.out.resolve_right (fun q => by have := cntC_le (keyB F) rd; omega)
    exact rea_closed WK.out.z hc hi)
   go_wp2
   go_ret
   exact ⟨r, F, rfl, WK, HCL⟩
end Go.Proofs.YtolkchkedieppaaGreat
