/- Compound of package hide at a cut. (Printed by gen_cmc.py.) -/
import Derived.Test.YtdfkhbflcacbfaaGreatVPlainCp
import Derived.Test.YtdfkhbflcacbfaaGreatVRco
import Derived.Test.YtdfkhbflcacbfaaGreatVRdB
import Derived.BigQuiet
import Derived.Lib.SliceRun
set_option linter.unusedVariables false
set_option linter.unusedSimpArgs false
namespace Go.Proofs.YtdfkhbflcacbfaaGreat
open Go.RowKit
attribute [local go_sem ↓] Go.wp_at_zero Go.wp_at_succ
/-- the candidates of the pairs before (i, j) -/
def CandTo (S : List Tr) (i j : Nat) (A : List Nat) : Prop := ∃ i' j', i' < S.length ∧ j' < S.length ∧ (i' < i ∨ (i' = i ∧ j' < j)) ∧ RecP S i' j' A
theorem candTo_next (S : List Tr) (i : Nat) (A : List Nat) : CandTo S i S.length A ↔ CandTo S (i + 1) 0 A := by
 constructor
 ·rintro ⟨i', j', h1, h2, h3, h4⟩; exact ⟨i', j', h1, h2, by omega, h4⟩
 ·rintro ⟨i', j', h1, h2, h3, h4⟩; exact ⟨i', j', h1, h2, by omega, h4⟩
theorem candTo_end (S : List Tr) (A : List Nat) : CandTo S S.length 0 A ↔ CandP S A := by
 constructor
 ·rintro ⟨i', j', h1, h2, h3, h4⟩; exact ⟨i', j', h1, h2, h4⟩
 ·rintro ⟨i', j', h1, h2, h4⟩; exact ⟨i', j', h1, h2, by omega, h4⟩
theorem candTo_zero (S : List Tr) (A : List Nat) : ¬ CandTo S 0 0 A := by
 rintro ⟨i', j', h1, h2, h3, h4⟩; omega
theorem candTo_step {S : List Tr} {i j : Nat} (hi : i < S.length) (hj : j < S.length) (A : List Nat) : CandTo S i (j + 1) A ↔ CandTo S i j A ∨ RecP S i j A := by
 constructor
 ·rintro ⟨i', j', h1, h2, h3, h4⟩
  by_cases e : i' = i ∧ j' = j
  ·obtain ⟨rfl, rfl⟩ := e; exact .inr h4
  ·exact .inl ⟨i', j', h1, h2, by omega, h4⟩
 ·rintro (⟨i', j', h1, h2, h3, h4⟩ | h4)
  ·exact ⟨i', j', h1, h2, by omega, h4⟩
  ·exact ⟨i, j, hi, hj, by omega, h4⟩
theorem best_same {C D : List Nat → Prop} {b : List Nat} (h : BestL C b) (e : ∀ A, C A ↔ D A) : BestL D b := ⟨fun n => (e b).1 (h.is n), fun A hA => h.no A ((e A).2 hA)⟩
/-- the best so far, as a slice -/
structure BsM (w wx : World) (v : Value) (A : List Nat) : Prop where
 sh : (A = [] ∧ v = .slice none 0 0) ∨ (A ≠ [] ∧ ∃ g c, v = .slice (some ⟨g, 0, none⟩) A.length c)
 own : wx.ownsRow w.heap.size 3 1 v A.length (intC A)
 kb : Below w.heap.size w wx
theorem BsM.keep {w wx wy : World} {v : Value} {A : List Nat} (h : BsM w wx v A) (hb : Below wx.heap.size wx wy) : BsM w wy v A :=
 ⟨h.sh, own_kept h.own hb, h.kb.trans (hb.mono h.kb.size)⟩
theorem BsM.nil {w wx : World} (h : Below w.heap.size w wx) : BsM w wx (.slice none 0 0) [] := ⟨.inl ⟨rfl, rfl⟩, World.ownsRow_nil _ _ _ _, h⟩
theorem BsM.take {w wx : World} {va : Option Addr} {vk base : Nat} {A : List Nat} (h : wx.ownsRow base 3 1 (.slice va A.length vk) A.length (intC A)) (h0 : 0 < A.length) (hb : w.heap.size ≤ base) (hk : Below w.heap.size w wx) : BsM w wx (.slice va A.length vk) A := by
 obtain ⟨g, c, hv, _, _⟩ := h.form (by omega)
 exact ⟨.inr ⟨fun e => by rw [e] at h0; simp at h0, g, c, hv⟩, own_le h hb, hk⟩
theorem BsM.down {w w1 wx : World} {v : Value} {A : List Nat} (h : BsM w1 wx v A) (hb : Below w.heap.size w w1) : BsM w wx v A :=
 ⟨h.sh, own_le h.own hb.size, hb.trans (h.kb.mono hb.size)⟩
set_option maxHeartbeats 8000000 in
set_option maxRecDepth 100000 in
theorem compound_mk {B : Nat} (v : Value) (L S : List Tr) (W H : Nat) (w : World) (hv : OwS B w v L) (hm : MkC L W H) (hn : L.length ≤ 24) (hp : L.Perm S) (hs : S.Pairwise (fun a b => ¬ ltS b a)) :
  Calls Tryz.prog 10 #[v] w fun e w' => ∃ A vb er, BestL (CandP S) A ∧ A.length ≤ 24 ∧ e = .returned (.tuple #[vb, .int .i64 er]) ∧ er = (if A = [] then 5 else 0) ∧ BsM w w' vb A := by
 obtain ⟨g0, c0, rfl, _, hg0, hc0, hTR0⟩ := hv.ex
 have hcut := hm.cut hn
 have hcon := read_good g0 c0 L w hTR0 hg0 hc0 hcut
 have HRG : Hid (∀ q, q ∈ S → RgT q) := Lib.hid (fun q hq => by
  have hqL := hp.mem_iff.2 hq
  obtain ⟨j, hj, rfl⟩ := List.getElem_of_mem hqL
  have := hcut.rg j hj
  simpa [hj] using this)
 have HM := Lib.hid hm
 have HPP := Lib.hid hp
 have HSS := Lib.hid hs
 obtain ⟨n, hN⟩ : ∃ n, n = L.length := ⟨_, rfl⟩
 have HN : Hid (n = S.length) := Lib.hid (hN.trans hp.length_eq)
 have hn24 : n ≤ 24 := by rw [hN]; exact hn
 rw [← hN] at hcon ⊢
 obtain ⟨i0, hinf, hz0, hz1, hz2⟩ := info_parts infoI
 have hnil : ∀ (W : World) (x : Option Addr) (n c : Nat), (binOp .eql 36 (.slice x n c) (.slice none 0 0)).run Tryz.prog W = .ok (.bool x.isNone) W := fun W x n c => Lib.run_eql_slice_nil W 36 3 x n c 0 0 Tryz.underlying36
 clear hv hm hp hs hcut hTR0 hg0 hc0 hN hn
 go_enter Tryz.func10, Tryz.ntmps10
 go_wp2_with (go_at_call 17; go_loud ((with_reducible refine hcon.mono ?_); rintro e w1 ⟨bp, gc, cap, S', rfl, hl', hp', hs', h0, h1, h2, hr, hg, hb0, hK⟩; obtain rfl := (HM.out.sorted_eq hp' HPP.out hs' HSS.out).symm; have HTR := Lib.hid hr; have KW := Lib.hid hK; clear hl' hp' hs' hr hK h1 h2))
 clear hcon
 have Z0K : Hid (∀ wx, Below w1.heap.size w1 wx → wx.cell? ⟨bp, 0, none⟩ = some (.slice (some ⟨gc, 0, none⟩) n cap)) := Lib.hid (fun wx hb => (hb.cell (p := ⟨bp, 0, none⟩) hb0).trans h0)
 have TRK : Hid (∀ wx, Below w1.heap.size w1 wx → TrR wx gc 0 S) := Lib.hid (fun wx hb => HTR.out.below hb hg)
 have BS0 : Hid (BsM w1 w1 (.slice none 0 0) []) := Lib.hid (BsM.nil (Below.refl _ _))
 have BL0 : Hid (BestL (CandTo S 0 0) []) := Lib.hid (BestL.none _ (candTo_zero S))
 clear HTR hg hb0
 go_loopw [6, 8, 10, 11, 12, 13, 14, 15, 16, 17, 31] (fun v6 v8 v10 v11 v12 v13 v14 v15 v16 v17 v31 wr => ∃ (i : Nat) (A : List Nat), i ≤ n ∧ v31 = .int .i64 (i : Nat) ∧ A.length ≤ 24 ∧ Hid (BsM w1 wr v6 A) ∧ Hid (BestL (CandTo S i 0) A)) (fun _ _ _ _ _ _ _ _ _ _ v31 _ => n - (intOf v31).toNat)
 case atStart => exact ⟨0, [], by omega, rfl, by simp, BS0, BL0⟩
 case round =>
  clear BS0 BL0 h0
  obtain ⟨i, A0, hi, rfl, hA0, BS, BL⟩ := hrel
  by_cases h : i < n
  ·have e1 : decide ((i : Int) < (n : Int)) = true := by simpa using h
   have e1n : decide (i < n) = true := by simpa using h
   have ix := fun X => ixSq gc n cap i h X
   have T1 := TRK.out _ BS.out.kb
   have x0 := T1.c0 i (by have := HN.out; omega)
   have x1 := T1.c1 i (by have := HN.out; omega)
   have x2 := T1.c2 i (by have := HN.out; omega)
   simp only [Nat.zero_add] at x0 x1 x2
   have hpr := HRG.out (S.getD i default) (getD_memT (by have := HN.out; omega))
   obtain ⟨p, hp⟩ : ∃ p, p = S.getD i default := ⟨_, rfl⟩
   rw [← hp] at x0 x1 x2 hpr
   have HP := Lib.hid hp
   have HPR := Lib.hid hpr
   have z1 := Z0K.out _ BS.out.kb
   clear hp hpr T1
   go_upto_region 8 with (fail)
   have BS := Lib.hid (BS.out.keep (boxes1 wr (.cells #[.int .i64 p.a, .int .i64 p.b, .int .i64 p.c] 52)))
   have BX := Lib.hid (box3_new wr (.int .i64 p.a) (.int .i64 p.b) (.int .i64 p.c) 52)
   have z2 := Z0K.out _ BS.out.kb
   generalize wr.alloc (.cells #[.int .i64 p.a, .int .i64 p.b, .int .i64 p.c] 52) = w2 at BS BX z2 ⊢
   obtain ⟨sb, hsb⟩ : ∃ sb, sb = wr.heap.size := ⟨_, rfl⟩
   rw [← hsb] at BX ⊢
   clear hsb x0 x1 x2 ix z1
   have K20 := Lib.hid (Below.refl w2.heap.size w2)
   go_step3
   go_wp2
   go_step3
   go_wp2
   go_loopw [6, 10, 11, 12, 13, 14, 15, 16, 17, 40] (fun v6 v10 v11 v12 v13 v14 v15 v16 v17 v40 wr => ∃ (j : Nat) (A : List Nat), j ≤ n ∧ v40 = .int .i64 (j : Nat) ∧ A.length ≤ 24 ∧ Hid (BsM w1 wr v6 A) ∧ Hid (BestL (CandTo S i j) A) ∧ Hid (Below w2.heap.size w2 wr)) (fun _ _ _ _ _ _ _ _ _ v40 _ => n - (intOf v40).toNat)
   case atStart => exact ⟨0, A0, by omega, rfl, hA0, BS, BL, K20⟩
   case round =>
    clear BS BL K20 z2 hA0
    obtain ⟨j, A, hj, rfl, hA, BS, BL, K2⟩ := hrel
    by_cases hj2 : j < n
    ·have e2 : decide ((j : Int) < (n : Int)) = true := by simpa using hj2
     have e2n : decide (j < n) = true := by simpa using hj2
     have ixj := fun X => ixSq gc n cap j hj2 X
     have T1 := TRK.out _ BS.out.kb
     have x0 := T1.c0 j (by have := HN.out; omega)
     have x1 := T1.c1 j (by have := HN.out; omega)
     have x2 := T1.c2 j (by have := HN.out; omega)
     simp only [Nat.zero_add] at x0 x1 x2
     have htr := HRG.out (S.getD j default) (getD_memT (by have := HN.out; omega))
     have hstep := candTo_step (S := S) (i := i) (j := j) (by have := HN.out; omega) (by have := HN.out; omega)
     obtain ⟨t, ht⟩ : ∃ t, t = S.getD j default := ⟨_, rfl⟩
     rw [← ht] at x0 x1 x2 htr
     have HT := Lib.hid ht
     have HSTEP := Lib.hid hstep
     have z1 := Z0K.out _ BS.out.kb
     clear ht T1 hstep
     go_upto_region 11 with (fail)
     have BS := Lib.hid (BS.out.keep (boxes1 wr (.cells #[.int .i64 t.a, .int .i64 t.b, .int .i64 t.c] 52)))
     have TX := box3_new wr (.int .i64 t.a) (.int .i64 t.b) (.int .i64 t.c) 52
     have K2 := Lib.hid (K2.out.alloc K2.out.size (.cells #[.int .i64 t.a, .int .i64 t.b, .int .i64 t.c] 52))
     generalize wr.alloc (.cells #[.int .i64 t.a, .int .i64 t.b, .int .i64 t.c] 52) = w3 at BS TX K2 ⊢
     obtain ⟨tb, htb⟩ : ∃ tb, tb = wr.heap.size := ⟨_, rfl⟩
     rw [← htb] at TX ⊢
     clear htb x0 x1 x2 ixj z1
     have y0 := TX.c0
     have y1 := TX.c1
     have y2 := TX.c2
     have SX := BX.out.below K2.out BX.out.lt
     have s0 := SX.c0
     have s1 := SX.c1
     have s2 := SX.c2
     have a0 := htr.a0; have b0 := htr.b0; have c0 := htr.c0; have c1 := htr.c1; have a1 := htr.a1; have b1 := htr.b1
     have hpr := HPR.out
     have pa0 := hpr.a0; have pb0 := hpr.b0
     obtain ⟨xr, hxr⟩ : ∃ xr, xr = t.a + t.c := ⟨_, rfl⟩
     obtain ⟨yr, hyr⟩ : ∃ yr, yr = t.b + t.c := ⟨_, rfl⟩
     have w6 : IntKind.i64.wrap (t.a + t.c) = xr := by rw [IntKind.wrap_i64]; omega
     have w7 : IntKind.i64.wrap (t.b + t.c) = yr := by rw [IntKind.wrap_i64]; omega
     have HREC : Hid (∀ B, RecP S i j B ↔ (p.a < xr ∧ p.b < yr ∧ (∀ k, k < n → InR p.a p.b xr yr (S.getD k default) ∨ OutR p.a p.b xr yr (S.getD k default)) ∧ B = insF S p.a p.b xr yr n ∧ 2 ≤ B.length ∧ B.length < n)) := Lib.hid (fun B => by
      rw [hxr, hyr, HP.out, HT.out, HN.out]
      exact ⟨fun h => ⟨h.w, h.h, h.io, h.e, h.two, h.few⟩, fun ⟨h1, h2, h3, h4, h5, h6⟩ => ⟨h1, h2, h3, h4, h5, h6⟩⟩)
     have HNO : Hid ((∀ B, ¬ RecP S i j B) → BestL (CandTo S i (j + 1)) A) := Lib.hid (fun hno => best_same BL.out (fun B => by rw [HSTEP.out B]; exact ⟨.inl, fun o => o.elim id (fun q => absurd q (hno B))⟩))
     have hxb : 0 ≤ xr ∧ xr ≤ 1000 ∧ 0 ≤ yr ∧ yr ≤ 1000 := by omega
     clear a0 b0 c0 c1 a1 b1 hpr pa0 pb0 hxr hyr htr SX TX
     go_quiet (fail)
     by_cases c1 : xr ≤ p.a
     ·have d1 : decide (xr ≤ p.a) = true := by simpa using c1
      have HB := Lib.hid (HNO.out (fun B hB => by have := ((HREC.out B).1 hB).1; omega))
      clear c1
      go_wp2
      go_roundw
      case rel => exact ⟨j + 1, A, by omega, by go_num, hA, Lib.hid (BS.out.keep ((Drawn.of _ _).below _)), HB, Lib.hid (K2.out.trans ((Drawn.of _ _).below _))⟩
      case measure => simp [intOf]; omega
     ·have d1 : decide (xr ≤ p.a) = false := by simpa using c1
      by_cases c2 : yr ≤ p.b
      ·have d2 : decide (yr ≤ p.b) = true := by simpa using c2
       have HB := Lib.hid (HNO.out (fun B hB => by have := ((HREC.out B).1 hB).2.1; omega))
       clear c1 c2
       go_wp2
       go_roundw
       case rel => exact ⟨j + 1, A, by omega, by go_num, hA, Lib.hid (BS.out.keep ((Drawn.of _ _).below _)), HB, Lib.hid (K2.out.trans ((Drawn.of _ _).below _))⟩
       case measure => simp [intOf]; omega
      ·have d2 : decide (yr ≤ p.b) = false := by simpa using c2
       have hxy : p.a < xr ∧ p.b < yr := by omega
       clear c1 c2
       have z3 := Z0K.out w3 BS.out.kb
       have IO0 : Hid (∀ k', k' < 0 → InR p.a p.b xr yr (S.getD k' default) ∨ OutR p.a p.b xr yr (S.getD k' default)) := Lib.hid (fun k' h => by omega)
       go_wp2
       go_loopw [13, 14, 15, 16, 17, 69] (fun v13 v14 v15 v16 v17 v69 wi => ∃ (k : Nat) (va : Option Addr) (vk : Nat), k ≤ n ∧ v69 = .int .i64 (k : Nat) ∧ v13 = .slice va (insF S p.a p.b xr yr k).length vk ∧ Hid (wi.ownsRow w3.heap.size 3 1 (.slice va (insF S p.a p.b xr yr k).length vk) (insF S p.a p.b xr yr k).length (intC (insF S p.a p.b xr yr k))) ∧ Hid (∀ k', k' < k → InR p.a p.b xr yr (S.getD k' default) ∨ OutR p.a p.b xr yr (S.getD k' default)) ∧ Hid (Below w3.heap.size w3 wi)) (fun _ _ _ _ _ v69 _ => n - (intOf v69).toNat)
       case atStart => exact ⟨0, none, 0, by omega, rfl, rfl, Lib.hid (World.ownsRow_nil _ _ _ _), IO0, Lib.hid ((Drawn.of _ _).below _)⟩
       case round =>
        clear IO0 z3 y0 y1 y2 s0 s1 s2 w6 w7
        obtain ⟨k, va, vk, hk, rfl, rfl, OW, IO, K3⟩ := hrel
        have hNl := insF_len S p.a p.b xr yr k
        have BSk := Lib.hid (BS.out.keep K3.out)
        have K2k := Lib.hid (K2.out.trans (K3.out.mono K2.out.size))
        by_cases h3 : k < n
        ·have e3 : decide ((k : Int) < (n : Int)) = true := by simpa using h3
         have e3n : decide (k < n) = true := by simpa using h3
         have ixk := fun X => ixSq gc n cap k h3 X
         have T1 := TRK.out _ BSk.out.kb
         have x0 := T1.c0 k (by have := HN.out; omega)
         have x1 := T1.c1 k (by have := HN.out; omega)
         have x2 := T1.c2 k (by have := HN.out; omega)
         simp only [Nat.zero_add] at x0 x1 x2
         have hqr := HRG.out (S.getD k default) (getD_memT (by have := HN.out; omega))
         have hins := insF_succ S p.a p.b xr yr k
         have hio : (InR p.a p.b xr yr (S.getD k default) ∨ OutR p.a p.b xr yr (S.getD k default)) → ∀ k', k' < k + 1 → InR p.a p.b xr yr (S.getD k' default) ∨ OutR p.a p.b xr yr (S.getD k' default) := fun h => ext_lt2 (n := k) (P := fun k' => InR p.a p.b xr yr (S.getD k' default) ∨ OutR p.a p.b xr yr (S.getD k' default)) IO.out h
         have hnr : ¬ (InR p.a p.b xr yr (S.getD k default) ∨ OutR p.a p.b xr yr (S.getD k default)) → BestL (CandTo S i (j + 1)) A := fun h => HNO.out (fun B hB => h (((HREC.out B).1 hB).2.2.1 k h3))
         obtain ⟨N, hNN⟩ : ∃ N, N = (insF S p.a p.b xr yr k).length := ⟨_, rfl⟩
         rw [← hNN] at OW hNl ⊢
         obtain ⟨q, hq⟩ : ∃ q, q = S.getD k default := ⟨_, rfl⟩
         rw [← hq] at x0 x1 x2 hqr hins hio hnr
         have HINS := Lib.hid hins
         have HIO := Lib.hid hio
         have HNR := Lib.hid hnr
         have HNN := Lib.hid hNN
         have a0 := hqr.a0; have b0 := hqr.b0; have c0 := hqr.c0; have c1 := hqr.c1; have a1 := hqr.a1; have b1 := hqr.b1
         have w6 : IntKind.i64.wrap (q.a + q.c) = q.a + q.c := by rw [IntKind.wrap_i64]; omega
         have w7 : IntKind.i64.wrap (q.b + q.c) = q.b + q.c := by rw [IntKind.wrap_i64]; omega
         clear hq hins hio hnr hNN T1 a0 b0 c1 a1 b1 hqr
         go_upto_region 17 with (fail)
         have OW := Lib.hid (OW.out.alloc (.cells #[.int .i64 q.a, .int .i64 q.b, .int .i64 q.c] 52))
         have SX := (BX.out.below K2k.out BX.out.lt).below (boxes1 wr (.cells #[.int .i64 q.a, .int .i64 q.b, .int .i64 q.c] 52)) (Nat.lt_of_lt_of_le BX.out.lt K2k.out.size)
         have BSk := Lib.hid (BSk.out.keep (boxes1 wr (.cells #[.int .i64 q.a, .int .i64 q.b, .int .i64 q.c] 52)))
         have K3 := Lib.hid (K3.out.alloc K3.out.size (.cells #[.int .i64 q.a, .int .i64 q.b, .int .i64 q.c] 52))
         have K2k := Lib.hid (K2k.out.alloc K2k.out.size (.cells #[.int .i64 q.a, .int .i64 q.b, .int .i64 q.c] 52))
         have XB := box3_new wr (.int .i64 q.a) (.int .i64 q.b) (.int .i64 q.c) 52
         generalize wr.alloc (.cells #[.int .i64 q.a, .int .i64 q.b, .int .i64 q.c] 52) = w4 at OW SX BSk K3 K2k XB ⊢
         obtain ⟨xb, hxb2⟩ : ∃ xb, xb = wr.heap.size := ⟨_, rfl⟩
         rw [← hxb2] at XB ⊢
         have s0 := SX.c0
         have s1 := SX.c1
         have s2 := SX.c2
         have y0 := XB.c0
         have y1 := XB.c1
         have y2 := XB.c2
         clear hxb2 x0 x1 x2 ixk SX XB
         go_cut [16] (fun v16 wx => ∃ t : Bool, v16 = .bool t ∧ (t = true ↔ OutR p.a p.b xr yr q) ∧ wx = w4)
         case first =>
          as_aux_lemma =>
           by_cases u0 : q.a + q.c ≤ p.a
           ·have f0a : decide (q.a + q.c ≤ p.a) = true := by simpa using u0
            have HU : Hid (OutR p.a p.b xr yr q) := Lib.hid (by unfold OutR; omega)
            clear u0
            go_wp2
            go_meet
            case rel => exact ⟨true, rfl, ⟨fun _ => HU.out, fun _ => rfl⟩, rfl⟩
           ·have f0a : decide (q.a + q.c ≤ p.a) = false := by simpa using u0
            by_cases u1 : xr ≤ q.a
            ·have f1a : decide (q.a ≥ xr) = true := by simpa using u1
             have f1b : decide (xr ≤ q.a) = true := by simpa using u1
             have HU : Hid (OutR p.a p.b xr yr q) := Lib.hid (by unfold OutR; omega)
             clear u0 u1
             go_wp2
             go_meet
             case rel => exact ⟨true, rfl, ⟨fun _ => HU.out, fun _ => rfl⟩, rfl⟩
            ·have f1a : decide (q.a ≥ xr) = false := by simpa using u1
             have f1b : decide (xr ≤ q.a) = false := by simpa using u1
             by_cases u2 : q.b + q.c ≤ p.b
             ·have f2a : decide (q.b + q.c ≤ p.b) = true := by simpa using u2
              have HU : Hid (OutR p.a p.b xr yr q) := Lib.hid (by unfold OutR; omega)
              clear u0 u1 u2
              go_wp2
              go_meet
              case rel => exact ⟨true, rfl, ⟨fun _ => HU.out, fun _ => rfl⟩, rfl⟩
             ·have f2a : decide (q.b + q.c ≤ p.b) = false := by simpa using u2
              by_cases u3 : yr ≤ q.b
              ·have f3a : decide (q.b ≥ yr) = true := by simpa using u3
               have f3b : decide (yr ≤ q.b) = true := by simpa using u3
               have HU : Hid (OutR p.a p.b xr yr q) := Lib.hid (by unfold OutR; omega)
               clear u0 u1 u2 u3
               go_wp2
               go_meet
               case rel => exact ⟨true, rfl, ⟨fun _ => HU.out, fun _ => rfl⟩, rfl⟩
              ·have f3a : decide (q.b ≥ yr) = false := by simpa using u3
               have f3b : decide (yr ≤ q.b) = false := by simpa using u3
               have HU : Hid (¬ OutR p.a p.b xr yr q) := Lib.hid (by unfold OutR; omega)
               clear u0 u1 u2 u3
               go_wp2
               go_meet
               case rel => exact ⟨false, rfl, ⟨fun e => absurd e (by decide), fun e => absurd e HU.out⟩, rfl⟩
         case rest =>
          obtain ⟨t1, rfl, ht1, hw⟩ := hcut
          rw [hw]
          clear hw
          go_upto_region 18 with (fail)
          go_cut [17] (fun v17 wx => ∃ u : Bool, v17 = .bool u ∧ (u = true ↔ InR p.a p.b xr yr q) ∧ wx = w4)
          case first =>
           as_aux_lemma =>
            by_cases u0 : p.a ≤ q.a
            ·have f0a : decide (q.a ≥ p.a) = true := by simpa using u0
             have f0b : decide (p.a ≤ q.a) = true := by simpa using u0
             by_cases u1 : q.a + q.c ≤ xr
             ·have f1a : decide (q.a + q.c ≤ xr) = true := by simpa using u1
              by_cases u2 : p.b ≤ q.b
              ·have f2a : decide (q.b ≥ p.b) = true := by simpa using u2
               have f2b : decide (p.b ≤ q.b) = true := by simpa using u2
               by_cases u3 : q.b + q.c ≤ yr
               ·have f3a : decide (q.b + q.c ≤ yr) = true := by simpa using u3
                have HU : Hid (InR p.a p.b xr yr q) := Lib.hid (by unfold InR; omega)
                clear u0 u1 u2 u3
                go_wp2
                go_meet
                case rel => exact ⟨true, rfl, ⟨fun _ => HU.out, fun _ => rfl⟩, rfl⟩
               ·have f3a : decide (q.b + q.c ≤ yr) = false := by simpa using u3
                have HU : Hid (¬ InR p.a p.b xr yr q) := Lib.hid (by unfold InR; omega)
                clear u0 u1 u2 u3
                go_wp2
                go_meet
                case rel => exact ⟨false, rfl, ⟨fun e => absurd e (by decide), fun e => absurd e HU.out⟩, rfl⟩
              ·have f2a : decide (q.b ≥ p.b) = false := by simpa using u2
               have f2b : decide (p.b ≤ q.b) = false := by simpa using u2
               have HU : Hid (¬ InR p.a p.b xr yr q) := Lib.hid (by unfold InR; omega)
               clear u0 u1 u2
               go_wp2
               go_meet
               case rel => exact ⟨false, rfl, ⟨fun e => absurd e (by decide), fun e => absurd e HU.out⟩, rfl⟩
             ·have f1a : decide (q.a + q.c ≤ xr) = false := by simpa using u1
              have HU : Hid (¬ InR p.a p.b xr yr q) := Lib.hid (by unfold InR; omega)
              clear u0 u1
              go_wp2
              go_meet
              case rel => exact ⟨false, rfl, ⟨fun e => absurd e (by decide), fun e => absurd e HU.out⟩, rfl⟩
            ·have f0a : decide (q.a ≥ p.a) = false := by simpa using u0
             have f0b : decide (p.a ≤ q.a) = false := by simpa using u0
             have HU : Hid (¬ InR p.a p.b xr yr q) := Lib.hid (by unfold InR; omega)
             clear u0
             go_wp2
             go_meet
             case rel => exact ⟨false, rfl, ⟨fun e => absurd e (by decide), fun e => absurd e HU.out⟩, rfl⟩
          case rest =>
           obtain ⟨u1, rfl, hu1, hw⟩ := hcut
           rw [hw]
           clear hw
           rcases u1 with _ | _
           ·have HNI : Hid (¬ InR p.a p.b xr yr q) := Lib.hid (fun e => absurd (hu1.2 e) (by decide))
            rcases t1 with _ | _
            ·have HB := Lib.hid (HNR.out (fun e => e.elim HNI.out (fun o => absurd (ht1.2 o) (by decide))))
             clear ht1 hu1
             go_wp2
             go_roundw
             case rel => exact ⟨j + 1, A, by omega, by go_num, hA, BSk, HB, K2k⟩
             case measure => simp [intOf]; omega
            ·have HE : Hid (insF S p.a p.b xr yr (k + 1) = insF S p.a p.b xr yr k) := Lib.hid (HINS.out.trans (if_neg HNI.out))
             have HIOk := Lib.hid (HIO.out (.inr (ht1.1 rfl)))
             clear ht1 hu1
             go_wp2
             go_roundw
             case rel => exact ⟨k + 1, va, vk, by omega, by go_num, by rw [HE.out, ← HNN.out], by rw [HE.out, ← HNN.out]; exact OW, HIOk, K3⟩
             case measure => simp [intOf]; omega
           ·have HI1 : Hid (InR p.a p.b xr yr q) := Lib.hid (hu1.1 rfl)
            have HE : Hid (insF S p.a p.b xr yr (k + 1) = insF S p.a p.b xr yr k ++ [k]) := Lib.hid (HINS.out.trans (if_pos HI1.out))
            have HQ : Hid (intC (insF S p.a p.b xr yr k) ++ [.int .i64 (k : Nat)] = intC (insF S p.a p.b xr yr (k + 1))) := Lib.hid (by rw [HE.out, intC_app])
            have HL2 : Hid ((insF S p.a p.b xr yr (k + 1)).length = N + 1) := Lib.hid (by rw [HE.out, HNN.out]; simp)
            have HIOk := Lib.hid (HIO.out (.inl HI1.out))
            have HSZ := Lib.hid K3.out.size
            clear ht1 hu1
            go_wp2_with (at_builtin; refine wpList_append_own _ rfl (.tmp 136) (.tmp 138) 36 rfl w3.heap.size 3 i0 (.int .i64 0) 1 8 Tryz.underlying36 hinf hz0 hz1 hz2 rfl (by decide) (.slice va N vk) N (intC (insF S p.a p.b xr yr k)) rfl (OW.out.alloc _) ⟨w4.heap.size, 0, none⟩ 1 1 [.int .i64 (k : Nat)] rfl rfl (new1 w4 (.int .i64 (k : Nat)) 3) (one1 _ rfl) (by unfold maxLen; omega) (by omega) (by simp; have := HSZ.out; omega) ?_; intro v' w5 hown hgrow _; rw [HQ.out] at hown; have K35 := Lib.hid ((K3.out.alloc HSZ.out _).grown hgrow (by have := HSZ.out; simp; omega) (fun kk e => (OW.out.lt kk e).1)); obtain ⟨va5, vk5, rfl⟩ := own_shape hown; have OW5 := Lib.hid hown; clear hown hgrow)
            go_roundw
            case rel => exact ⟨k + 1, va5, vk5, by omega, by go_num, by rw [HL2.out], by rw [HL2.out]; exact OW5, HIOk, K35⟩
            case measure => simp [intOf]; omega
        ·have hkn : n = k := by omega
         subst hkn
         have e3 : decide ((n : Int) < (n : Int)) = false := by simp
         have z5 := Z0K.out wr BSk.out.kb
         obtain ⟨A2, hA2⟩ : ∃ A2, A2 = insF S p.a p.b xr yr n := ⟨_, rfl⟩
         rw [← hA2] at OW hNl ⊢
         have HA2 := Lib.hid hA2
         obtain ⟨N, hNN⟩ : ∃ N, N = A2.length := ⟨_, rfl⟩
         rw [← hNN] at OW hNl ⊢
         have HNN := Lib.hid hNN
         have hsm : ∀ B, RecP S i j B → 2 ≤ N ∧ N < n := fun B hB => by
          obtain ⟨_, _, _, h4, h5, h6⟩ := (HREC.out B).1 hB
          rw [h4, ← HA2.out, ← HNN.out] at h5 h6
          exact ⟨h5, h6⟩
         have HSM := Lib.hid hsm
         clear hA2 hNN hsm
         by_cases m1 : N < 2
         ·have g1 : decide ((N : Int) < 2) = true := by simp; omega
          have g1n : decide (N < 2) = true := by simpa using m1
          have HB := Lib.hid (HNO.out (fun B hB => by have := (HSM.out B hB).1; omega))
          clear m1
          go_wp2
          go_roundw
          case rel => exact ⟨j + 1, A, by omega, by go_num, hA, BSk, HB, K2k⟩
          case measure => simp [intOf]; omega
         ·have g1 : decide ((N : Int) < 2) = false := by simp; omega
          have g1n : decide (N < 2) = false := by simpa using m1
          by_cases m2 : N = n
          ·have g2 : ((N : Int) == (n : Int)) = true := by rw [beq_iff_eq]; omega
           have g2n : (N == n) = true := by rw [beq_iff_eq]; exact m2
           have g2d : decide (N = n) = true := decide_eq_true m2
           have HB := Lib.hid (HNO.out (fun B hB => by have := (HSM.out B hB).2; omega))
           clear m1 m2
           go_wp2
           go_roundw
           case rel => exact ⟨j + 1, A, by omega, by go_num, hA, BSk, HB, K2k⟩
           case measure => simp [intOf]; omega
          ·have g2 : ((N : Int) == (n : Int)) = false := by rw [beq_eq_false_iff_ne]; omega
           have g2n : (N == n) = false := by rw [beq_eq_false_iff_ne]; exact m2
           have g2d : decide (N = n) = false := decide_eq_false m2
           have hRP : RecP S i j A2 := (HREC.out A2).2 ⟨hxy.1, hxy.2, IO.out, HA2.out, by rw [← HNN.out]; omega, by rw [← HNN.out]; omega⟩
           have HUN : Hid (∀ B, CandTo S i (j + 1) B ↔ CandTo S i j B ∨ B = A2) := Lib.hid (fun B => by
            rw [HSTEP.out B]
            exact or_congr Iff.rfl ⟨fun h => by rw [((HREC.out B).1 h).2.2.2.1, HA2.out], fun e => by rw [e]; exact hRP⟩)
           have BT : Hid (BsM w1 wr (.slice va N vk) A2) := Lib.hid (by
            have := BsM.take (w := w1) (wx := wr) (va := va) (vk := vk) (base := w3.heap.size) (A := A2) (by rw [← HNN.out]; exact OW.out) (by rw [← HNN.out]; omega) BS.out.kb.size BSk.out.kb
            rw [← HNN.out] at this
            exact this)
           have HNE : Hid (A2 ≠ []) := Lib.hid (fun e => by have := HNN.out; rw [e] at this; simp at this; omega)
           have HTK : Hid (A = [] ∨ ltA A2 A → BestL (CandTo S i (j + 1)) A2) := Lib.hid (fun h => BL.out.take HNE.out h HUN.out)
           have HKP : Hid (A ≠ [] → ¬ ltA A2 A → BestL (CandTo S i (j + 1)) A) := Lib.hid (fun h1 h2 => BL.out.keep (fun B hB => ((HUN.out B).1 hB).elim .inl (fun e => .inr ⟨h1, by rw [e]; exact h2⟩)) (fun B hB => (HUN.out B).2 (.inl hB)))
           have hA2n : A2.length ≤ 24 := by rw [← HNN.out]; omega
           clear m2 hRP
           rcases BSk.out.sh with ⟨hA0', rfl⟩ | ⟨hne, g, c, rfl⟩
           ·have HB := Lib.hid (HTK.out (.inl hA0'))
            clear hA0'
            go_wp2
            go_roundw
            case rel => exact ⟨j + 1, A2, by omega, by go_num, hA2n, BT, HB, K2k⟩
            case measure => simp [intOf]; omega
           ·have HAN := Lib.hid hne
            have hIA : Ints wr (.slice (some ⟨g, 0, none⟩) A.length c) A.length (lsF A) := list_ints BSk.out.own
            have hI2 : Ints wr (.slice va A2.length vk) A2.length (lsF A2) := list_ints (by have := OW.out; rw [HNN.out] at this; exact this)
            obtain ⟨M, hM⟩ : ∃ M, M = A.length := ⟨_, rfl⟩
            rw [← hM] at hA hIA BSk ⊢
            rw [← HNN.out] at hI2
            have HM2 := Lib.hid hM
            have hcmp := compare_ints (.slice va N vk) (.slice (some ⟨g, 0, none⟩) M c) N M (lsF A2) (lsF A) wr hI2 hIA (by omega) (by omega)
            obtain ⟨r, hr⟩ : ∃ r, r = lexC (lsF A2) (lsF A) N M N 0 := ⟨_, rfl⟩
            have hrl : r < 0 ↔ lexN A2 A = true := by rw [hr, hM, HNN.out]; exact lex_sets A2 A
            rw [← hr] at hcmp
            have HRL := Lib.hid hrl
            clear hM hIA hI2 hr hrl hne
            by_cases l1 : N < M
            ·have k1 : decide ((N : Int) < (M : Int)) = true := by simpa using l1
             have k1n : decide (N < M) = true := by simpa using l1
             have HB := Lib.hid (HTK.out (.inr (.inl (by rw [← HNN.out, ← HM2.out]; exact l1))))
             clear l1 hcmp
             go_wp2
             go_roundw
             case rel => exact ⟨j + 1, A2, by omega, by go_num, hA2n, BT, HB, K2k⟩
             case measure => simp [intOf]; omega
            ·have k1 : decide ((N : Int) < (M : Int)) = false := by simpa using l1
             have k1n : decide (N < M) = false := by simpa using l1
             by_cases l2 : N = M
             ·have k2 : ((N : Int) == (M : Int)) = true := by rw [beq_iff_eq]; omega
              have k2n : (N == M) = true := by rw [beq_iff_eq]; exact l2
              have k2d : decide (N = M) = true := decide_eq_true l2
              by_cases l3 : r < 0
              ·have k3 : decide (r < 0) = true := by simpa using l3
               have HB := Lib.hid (HTK.out (.inr (.inr ⟨by rw [← HNN.out, ← HM2.out]; exact l2, HRL.out.1 l3⟩)))
               clear l1 l2 l3
               go_wp2_with (go_at_call 29; go_loud ((with_reducible refine hcmp.mono ?_); rintro e wz ⟨rfl, rfl⟩))
               go_roundw
               case rel => exact ⟨j + 1, A2, by omega, by go_num, hA2n, BT, HB, K2k⟩
               case measure => simp [intOf]; omega
              ·have k3 : decide (r < 0) = false := by simpa using l3
               have HB := Lib.hid (HKP.out HAN.out (fun h => by
                rcases h with h | h
                ·rw [← HNN.out, ← HM2.out] at h; omega
                ·exact l3 (HRL.out.2 h.2)))
               clear l1 l2 l3
               go_wp2_with (go_at_call 29; go_loud ((with_reducible refine hcmp.mono ?_); rintro e wz ⟨rfl, rfl⟩))
               go_roundw
               case rel => exact ⟨j + 1, A, by omega, by go_num, by rw [← HM2.out]; exact hA, BSk, HB, K2k⟩
               case measure => simp [intOf]; omega
             ·have k2 : ((N : Int) == (M : Int)) = false := by rw [beq_eq_false_iff_ne]; omega
              have k2n : (N == M) = false := by rw [beq_eq_false_iff_ne]; exact l2
              have k2d : decide (N = M) = false := decide_eq_false l2
              have HB := Lib.hid (HKP.out HAN.out (fun h => by
               rcases h with h | h
               ·rw [← HNN.out, ← HM2.out] at h; omega
               ·rw [← HNN.out, ← HM2.out] at h; omega))
              clear l1 l2 hcmp
              go_wp2
              go_roundw
              case rel => exact ⟨j + 1, A, by omega, by go_num, by rw [← HM2.out]; exact hA, BSk, HB, K2k⟩
              case measure => simp [intOf]; omega
    ·obtain rfl : j = n := by omega
     have e2 : decide ((j : Int) < (j : Int)) = false := by simp
     have BE := Lib.hid (best_same BL.out (D := CandTo S (i + 1) 0) (fun B => by rw [HN.out]; exact candTo_next S i B))
     go_wp2
     rw [Exit.noGoto_normal]
     go_wp2
     go_roundw
     case rel => exact ⟨i + 1, A, by omega, by go_num, hA, BS, BE⟩
     case measure => simp [intOf]; omega
  ·obtain rfl : i = n := by omega
   have e1 : decide ((i : Int) < (i : Int)) = false := by simp
   have BE := Lib.hid (best_same BL.out (D := CandP S) (fun B => by rw [HN.out]; exact candTo_end S B))
   have BM := BS.out.down KW.out
   rcases BS.out.sh with ⟨rfl, rfl⟩ | ⟨hne, g, c, rfl⟩
   ·go_wp2
    go_ret2
    exact ⟨[], _, 5, BE.out, by simp, rfl, by simp, BM⟩
   ·go_wp2
    go_ret2
    exact ⟨A0, _, 0, BE.out, hA0, rfl, by simp [hne], BM⟩
end Go.Proofs.YtdfkhbflcacbfaaGreat
