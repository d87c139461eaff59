/- Lines of the reference: the lines of a cut. (Printed by gen_rln.py.) -/
import Derived.Test.YtolkchkedieppaaGreatVPlainJn
import Derived.Test.YtolkchkedieppaaGreatVOrd
import Derived.BigRegion
import Derived.Test.YtolkchkedieppaaGreatVFloat3
import Derived.BigQuiet
set_option linter.unusedVariables false
set_option linter.unusedSimpArgs false
namespace Go.Proofs.YtolkchkedieppaaGreat
open Go.RowKit
attribute [local go_sem ↓] Go.wp_at_zero Go.wp_at_succ
theorem infoRL : (Tryz.prog.info? 106).map (fun i => (i.zero, i.size, i.bytes)) = some (some (.agg #[.int .i64 0, .int .i64 0, .int .i64 0]), 3, 24) := by kernel_rfl
theorem rls_s : Tryz.prog.underlying 103 = some (.slice (Tryz.prog.elem 103)) := by kernel_rfl
theorem rls_z (W : World) : (sizeOf (Tryz.prog.elem 103)).run Tryz.prog W = .ok 3 W := by kernel_rfl
theorem ixRL (b n c i : Nat) (hi : i < n) (W : World) :
  (Instr.indexAt 103 (.slice (some ⟨b, 0, none⟩) n c) (.int .i64 (i : Int))).run Tryz.prog W = .ok (.pointer (some ⟨b, i * 3, none⟩)) W := by
 rw [run_indexAt_slice W _ _ _ _ _ _ rls_s, if_pos ⟨by omega, by omega⟩, rls_z]
 simp only [Result.andThen, Int.toNat_natCast]
 congr 3
 unfold Addr.add
 split
 ·rename_i h; simp [show i = 0 by omega]
 ·simp
/-- what Lines holds -/
structure LnM (w wx : World) (vo : Value) (O : List Tr) : Prop where
 own : wx.ownsRow w.heap.size 106 3 vo O.length (trL O)
 some_ : ∃ g c, vo = .slice (some ⟨g, 0, none⟩) O.length c ∧ w.heap.size ≤ g ∧ g < wx.heap.size
 kb : Below w.heap.size w wx
theorem LnM.mk' {w w7 : World} {base m : Nat} {v : Value} {xs : List Value} {O : List Tr} (h : w7.ownsRow base 106 3 v m xs) (hm : m = O.length) (hx : xs = trL O) (hb : Below w.heap.size w w7) (hle : w.heap.size ≤ base) (hp : 0 < m) : LnM w w7 v O := by
 subst hm hx
 refine ⟨own_le h hle, ?_, hb⟩
 rcases h.2 with ⟨_, e⟩ | ⟨g, cap, cur, hv, hbg, hg, _⟩
 ·omega
 ·exact ⟨g, cap, hv, Nat.le_trans hle hbg, (Array.getElem?_eq_some_iff.1 hg).1⟩
/-- a line in a box, and the rest gathered behind it -/
structure SwM (wb wx : World) (b : Nat) (n : Tr) (v : Value) (R : List Tr) : Prop where
 c0 : wx.cell? ⟨b, 0, none⟩ = some (.int .i64 n.a)
 c1 : wx.cell? ⟨b, 1, none⟩ = some (.int .i64 n.b)
 c2 : wx.cell? ⟨b, 2, none⟩ = some (.int .i64 n.c)
 fz : ∀ o, wx.frozen? ⟨b, o, none⟩ = false
 lt : b < wx.heap.size
 row : wx.ownsRow (b + 1) 106 3 v R.length (trL R)
 sm : ∃ g c, v = .slice (some ⟨g, 0, none⟩) R.length c ∧ b < g ∧ g < wx.heap.size
 kb : Below b wb wx
theorem SwM.keep {wb wx wy : World} {b : Nat} {n : Tr} {v : Value} {R : List Tr} (h : SwM wb wx b n v R) (hb : Below wx.heap.size wx wy) : SwM wb wy b n v R :=
 ⟨(hb.cell (p := ⟨b, 0, none⟩) h.lt).trans h.c0, (hb.cell (p := ⟨b, 1, none⟩) h.lt).trans h.c1, (hb.cell (p := ⟨b, 2, none⟩) h.lt).trans h.c2, fun o => (hb.frozen (p := ⟨b, o, none⟩) h.lt).trans (h.fz o),
  Nat.lt_of_lt_of_le h.lt hb.size, own_kept h.row hb, by obtain ⟨g, c, e, h1, h2⟩ := h.sm; exact ⟨g, c, e, h1, Nat.lt_of_lt_of_le h2 hb.size⟩, h.kb.trans (hb.mono (Nat.le_of_lt h.lt))⟩
theorem SwM.set {wb wx : World} {b : Nat} {n m : Tr} {v : Value} {R : List Tr} (h : SwM wb wx b n v R) (e : m.a = n.a) : SwM wb ((wx.setCell ⟨b, 1, none⟩ (.int .i64 m.b)).setCell ⟨b, 2, none⟩ (.int .i64 m.c)) b m v R := by
 have hkept : ∀ {wz : World} (o : Nat) (u : Value), wz.ownsRow (b + 1) 106 3 v R.length (trL R) → (wz.setCell ⟨b, o, none⟩ u).ownsRow (b + 1) 106 3 v R.length (trL R) := fun {wz} o u hz =>
  hz.kept (row := some b) ⟨rfl, rfl, rfl, by simp [World.setCell], fun k _ hk => Below.heap_setCell _ _ _ _ (fun e => hk (by rw [e]))⟩ (.inr (fun e => by have := (hz.lt b e).1; omega))
 have hsz : ((wx.setCell ⟨b, 1, none⟩ (.int .i64 m.b)).setCell ⟨b, 2, none⟩ (.int .i64 m.c)).heap.size = wx.heap.size := by simp only [World.setCell, Array.size_modify]
 exact ⟨off_set (by decide) (off_set (by decide) (by rw [e]; exact h.c0)), off_set (by decide) (self_set h.c1), self_set (off_set (by decide) h.c2), fun o => by rw [World.frozen?_setCell, World.frozen?_setCell]; exact h.fz o,
  by rw [hsz]; exact h.lt, hkept _ _ (hkept _ _ h.row), by rw [hsz]; exact h.sm, (h.kb.setCell (Nat.le_refl _) _).setCell (Nat.le_refl _) _⟩
theorem SwM.push {wb wx wy : World} {b : Nat} {n o : Tr} {v v' : Value} {R : List Tr} (h : SwM wb wx b n v R) (hown : wy.ownsRow (b + 1) 106 3 v' (R.length + 1) (trL R ++ trC o)) (hg : wx.grownBy wy v.ownBlock) : SwM wb wy b n v' (R ++ [o]) := by
 have hne : some b ≠ v.ownBlock := fun e => by have := (h.row.lt b e.symm).1; omega
 have k : ∀ j, wy.cell? ⟨b, j, none⟩ = wx.cell? ⟨b, j, none⟩ := fun j => World.cell?_of_block (hg.block b h.lt hne)
 have hl : (R ++ [o]).length = R.length + 1 := by simp
 have ht : trL (R ++ [o]) = trL R ++ trC o := by rw [trL_app]; simp [trL]
 refine ⟨(k _).trans h.c0, (k _).trans h.c1, (k _).trans h.c2, fun j => (World.frozen?_of_block (a := ⟨b, j, none⟩) (hg.block b h.lt hne)).trans (h.fz j), Nat.lt_of_lt_of_le h.lt hg.size, by rw [hl, ht]; exact hown, ?_, h.kb.grown hg (Nat.le_of_lt h.lt) (fun kk e => Nat.le_of_lt (h.row.lt kk e).1)⟩
 rcases hown.2 with ⟨_, e⟩ | ⟨g, cap, cur, hv, hbg, hg2, _⟩
 ·omega
 ·exact ⟨g, cap, by rw [hl]; exact hv, hbg, (Array.getElem?_eq_some_iff.1 hg2).1⟩
theorem SwM.start {w : World} {b : Nat} {n : Tr} (c0 : w.cell? ⟨b, 0, none⟩ = some (.int .i64 n.a)) (c1 : w.cell? ⟨b, 1, none⟩ = some (.int .i64 n.b)) (c2 : w.cell? ⟨b, 2, none⟩ = some (.int .i64 n.c)) (fz : ∀ o, w.frozen? ⟨b, o, none⟩ = false) (lt : b < w.heap.size) :
  SwM w (w.alloc (.cells #[] 106)) b n (.slice (some ⟨w.heap.size, 0, none⟩) 0 0) [] := by
 have hk := boxes1 w (.cells #[] 106)
 exact ⟨(hk.cell (p := ⟨b, 0, none⟩) lt).trans c0, (hk.cell (p := ⟨b, 1, none⟩) lt).trans c1, (hk.cell (p := ⟨b, 2, none⟩) lt).trans c2, fun o => (hk.frozen (p := ⟨b, o, none⟩) lt).trans (fz o), Nat.lt_of_lt_of_le lt hk.size,
  World.ownsRow_made w #[] 0 lt (by unfold maxLen; omega) rfl, ⟨_, _, rfl, lt, by simp⟩, hk.mono (Nat.le_of_lt lt)⟩
theorem own3_block {w : World} {x : Nat} {a b c : Value} {t : TypeId} (h : w.heap[x]? = some (.cells #[a, b, c] t (0, 0))) : w.cell? ⟨x, 0, none⟩ = some a ∧ w.cell? ⟨x, 1, none⟩ = some b ∧ w.cell? ⟨x, 2, none⟩ = some c ∧ (∀ o, w.frozen? ⟨x, o, none⟩ = false) ∧ x < w.heap.size :=
 ⟨by simp [World.cell?, h], by simp [World.cell?, h], by simp [World.cell?, h], fun o => by simp [World.frozen?, h], (Array.getElem?_eq_some_iff.1 h).1⟩
theorem cv_step (E : Prop) (q : Tr) (k : Nat) (hk : k < 2) (y x : Int) :
  ((E ∨ (0 < k ∧ q.b = y ∧ q.a ≤ x ∧ x < q.a + q.c) ∨ (1 < k ∧ q.b + q.c = y ∧ q.a ≤ x ∧ x < q.a + q.c)) ∨ (q.b + (k : Int) * q.c = y ∧ q.a ≤ x ∧ x < q.a + q.c)) ↔
  (E ∨ (0 < k + 1 ∧ q.b = y ∧ q.a ≤ x ∧ x < q.a + q.c) ∨ (1 < k + 1 ∧ q.b + q.c = y ∧ q.a ≤ x ∧ x < q.a + q.c)) := by
 by_cases hE : E
 ·simp [hE]
 ·rcases (show k = 0 ∨ k = 1 by omega) with rfl | rfl
  ·simp [hE]
  ·simp [hE]
theorem cv_end (E : Prop) (q : Tr) (y x : Int) :
  (E ∨ (0 < 2 ∧ q.b = y ∧ q.a ≤ x ∧ x < q.a + q.c) ∨ (1 < 2 ∧ q.b + q.c = y ∧ q.a ≤ x ∧ x < q.a + q.c)) ↔ (E ∨ ((q.b = y ∨ q.b + q.c = y) ∧ q.a ≤ x ∧ x < q.a + q.c)) := by
 by_cases hE : E
 ·simp [hE]
 ·simp [hE]; omega
set_option maxHeartbeats 8000000 in
set_option maxRecDepth 100000 in
theorem rlines_any (v : Value) (S : List Tr) (w : World) (hv : SqV w v S) (hn : S.length ≤ 24) (hrg : ∀ i, i < S.length → RgT (S.getD i default)) :
  Calls Tryz.prog 61 #[v] w fun e w' => ∃ va vk J, e = .returned (.slice va J.length vk) ∧ J.length ≤ 48 ∧ CanL J (edgeC S) ∧ w'.ownsRow w.heap.size 106 3 (.slice va J.length vk) J.length (trL J) ∧ Below w.heap.size w w' := by
 obtain ⟨a1, c1, rfl, k1⟩ := hv.ex
 have K1 := Lib.hid k1
 clear hv k1
 obtain ⟨n, hN⟩ : ∃ n, n = S.length := ⟨_, rfl⟩
 rw [← hN] at K1 hn hrg ⊢
 have HN := Lib.hid hN
 have HRG := Lib.hid hrg
 clear hN hrg
 obtain ⟨i0, hinf, hz0, hz1, hz2⟩ := info_parts infoRL
 go_enter Tryz.func61, Tryz.ntmps61
 go_wp2
 have LM0 : Hid (LnM w (w.alloc (.cells #[] 106)) (.slice (some ⟨w.heap.size, 0, none⟩) 0 0) []) := Lib.hid ⟨World.ownsRow_made w #[] 0 (Nat.le_refl _) (by unfold maxLen; omega) rfl, ⟨_, _, rfl, Nat.le_refl _, by simp⟩, boxes1 _ _⟩
 have CL0 : Hid (CanL [] (edgeC (S.take 0))) := Lib.hid ⟨List.Pairwise.nil, fun l h => by simp at h, fun y x => ⟨fun ⟨l, h, _⟩ => by simp at h, fun ⟨l, h, _⟩ => by simp at h⟩⟩
 go_loopw [3, 4, 5, 6, 7, 8, 9] (fun v3 v4 v5 v6 v7 v8 v9 wr => ∃ (i : Nat) (O : List Tr), i ≤ n ∧ v4 = .int .i64 (i : Nat) ∧ O.length ≤ 2 * i ∧ Hid (LnM w wr v3 O) ∧ Hid (CanL O (edgeC (S.take i)))) (fun _ v4 _ _ _ _ _ _ => n - (intOf v4).toNat)
 case atStart => exact ⟨0, [], by omega, rfl, by simp, LM0, CL0⟩
 case round =>
  clear LM0 CL0
  obtain ⟨i, O0, hi, rfl, hO0, LM, CL⟩ := hrel
  by_cases h : i < n
  ·have e1 : decide ((i : Int) < (n : Int)) = true := by simpa using h
   have e1n : decide (i < n) = true := by simpa using h
   obtain ⟨g1, o1, rfl, r1, l1⟩ := K1.out (by omega)
   have hq3 : ∀ wx, Below w.heap.size w wx → wx.cell? ⟨g1, o1 + i * 3, none⟩ = some (.int .i64 (S.getD i default).a) ∧ wx.cell? ⟨g1, o1 + i * 3 + 1, none⟩ = some (.int .i64 (S.getD i default).b) ∧ wx.cell? ⟨g1, o1 + i * 3 + 2, none⟩ = some (.int .i64 (S.getD i default).c) := fun wx hb =>
    ⟨(r1.below hb l1).c0 i (by rw [← HN.out]; exact h), (r1.below hb l1).c1 i (by rw [← HN.out]; exact h), (r1.below hb l1).c2 i (by rw [← HN.out]; exact h)⟩
   have hqr := HRG.out i h
   have hT := take_succ_getS S (k := i) (by have := HN.out; omega)
   obtain ⟨q, hq⟩ : ∃ q, q = S.getD i default := ⟨_, rfl⟩
   rw [← hq] at hq3 hqr hT
   have HQ3 := Lib.hid hq3
   have HQR := Lib.hid hqr
   have HTK := Lib.hid hT
   have ixl := fun X => ixSqo g1 o1 n c1 i h X
   -- the cells after k edges
   obtain ⟨cv, hcv⟩ : ∃ cv : Nat → Int → Int → Prop, cv = fun k y x => edgeC (S.take i) y x ∨ (0 < k ∧ q.b = y ∧ q.a ≤ x ∧ x < q.a + q.c) ∨ (1 < k ∧ q.b + q.c = y ∧ q.a ≤ x ∧ x < q.a + q.c) := ⟨_, rfl⟩
   have HCV := Lib.hid hcv
   have CK0 : Hid (CanL O0 (cv 0)) := Lib.hid (CL.out.congr (fun y x => by rw [hcv]; simp))
   have OL0 : O0.length ≤ 2 * i + 0 := by omega
   clear hq hq3 hqr r1 l1 hT hcv CL hO0
   go_upto_block 2 with (fail)
   go_wp2
   go_loopw [3, 5, 6, 7, 8, 9] (fun v3 v5 v6 v7 v8 v9 wr => ∃ (k : Nat) (O : List Tr), k ≤ 2 ∧ v5 = .int .i64 (k : Nat) ∧ O.length ≤ 2 * i + k ∧ Hid (LnM w wr v3 O) ∧ Hid (CanL O (cv k))) (fun _ v5 _ _ _ _ _ => 2 - (intOf v5).toNat)
   case atStart => exact ⟨0, O0, by omega, rfl, OL0, LM, CK0⟩
   case round =>
    clear LM CK0 OL0
    obtain ⟨k, O, hk, rfl, hOl, LM, CK⟩ := hrel
    by_cases h2 : k < 2
    ·have e2 : decide ((k : Int) < 2) = true := by simp; omega
     have e2n : decide (k < 2) = true := by simpa using h2
     obtain ⟨og, oc, rfl, hog, hol⟩ := LM.out.some_
     have TR := Lib.hid (show TrR wr og 0 O from trR_own LM.out.own)
     have HLT := Lib.hid hol
     have HOG := Lib.hid hog
     have HKB := Lib.hid LM.out.kb
     have hqr := HQR.out
     have q0 := hqr.a0; have q1 := hqr.b0; have q2 := hqr.c0; have q3 := hqr.c1; have q4 := hqr.a1; have q5 := hqr.b1
     obtain ⟨y, hy⟩ : ∃ y, y = q.b + (k : Int) * q.c := ⟨_, rfl⟩
     have hkc : 0 ≤ (k : Int) * q.c ∧ (k : Int) * q.c ≤ 1000 := by
      have hk01 : k = 0 ∨ k = 1 := by omega
      rcases hk01 with e | e <;> subst e <;> simp <;> omega
     have w5 : IntKind.i64.wrap ((k : Int) * q.c) = (k : Int) * q.c := by rw [IntKind.wrap_i64]; omega
     have w6 : IntKind.i64.wrap (q.b + (k : Int) * q.c) = y := by rw [IntKind.wrap_i64]; omega
     have w7 : IntKind.i64.wrap (q.a + q.c) = q.a + q.c := by rw [IntKind.wrap_i64]; omega
     obtain ⟨x0, x1, x2⟩ := HQ3.out wr HKB.out
     have HYE := Lib.hid hy
     obtain ⟨n0, hn0⟩ : ∃ n0 : Tr, n0 = ⟨y, q.a, q.a + q.c⟩ := ⟨_, rfl⟩
     have HN0 := Lib.hid hn0
     have HN0N : Hid (n0.b < n0.c) := Lib.hid (by rw [hn0]; simp only; omega)
     clear hy hn0 hqr q0 q1 q2 q3 q4 q5 hkc
     have keepR : Hid (∀ w', Below wr.heap.size wr w' → w'.cell? ⟨g1, o1 + i * 3, none⟩ = some (.int .i64 q.a) ∧ w'.cell? ⟨g1, o1 + i * 3 + 1, none⟩ = some (.int .i64 q.b) ∧ w'.cell? ⟨g1, o1 + i * 3 + 2, none⟩ = some (.int .i64 q.c)) := Lib.hid (fun w' hb => HQ3.out w' (HKB.out.trans (hb.mono HKB.out.size)))
     have VL := Lib.hid (Below.refl wr.heap.size wr).drew
     clear x0 x1 x2 e2 e2n
     go_upto_region 8 with (fail)
     have HST : StaysB (fun w' => w'.cell? ⟨g1, o1 + i * 3, none⟩ = some (.int .i64 q.a) ∧ w'.cell? ⟨g1, o1 + i * 3 + 1, none⟩ = some (.int .i64 q.b) ∧ w'.cell? ⟨g1, o1 + i * 3 + 2, none⟩ = some (.int .i64 q.c)) := fun w1 w2 h hb => ⟨cell_stays h.1 hb, cell_stays h.2.1 hb, cell_stays h.2.2 hb⟩
     refine wp_region_box HST (d := 6) (zs := #[.int .i64 0, .int .i64 0, .int .i64 0]) (t := 106) (by kernel_rfl) (by kernel_rfl) rfl (fun a w => by kernel_rfl) (fun _ _ _ _ h => h) (keepR.out _ VL.out) (fun hHeld => ?_)
     simp only [List.pop_toArray, List.dropLast_cons_cons, List.dropLast_singleton]
     refine wpAnyE_take HST (i := 0) (v := ?_) rfl (by kernel_rfl) (by kernel_rfl) (by kernel_rfl) (fun _ _ _ h => h) (Or.inl ⟨by rfl, ?_⟩) hHeld ?_
     rotate_left
     ·(intro w0 hSw; (try dsimp only at hSw); go_simp; all_goals (with_reducible rfl))
     simp only [Act.put, List.setIfInBounds_toArray, List.set_cons_zero, List.set_cons_succ]
     refine wpAnyE_take HST (i := 1) (v := ?_) rfl (by kernel_rfl) (by kernel_rfl) (by kernel_rfl) (fun _ _ _ h => h) (Or.inl ⟨by rfl, ?_⟩) hHeld ?_
     rotate_left
     ·(intro w0 hSw; (try dsimp only at hSw); go_simp; all_goals (with_reducible rfl))
     simp only [Act.put, List.setIfInBounds_toArray, List.set_cons_zero, List.set_cons_succ]
     refine wpAnyE_take HST (i := 2) (v := ?_) rfl (by kernel_rfl) (by kernel_rfl) (by kernel_rfl) (fun _ _ _ h => h) (Or.inl ⟨by rfl, ?_⟩) hHeld ?_
     rotate_left
     ·(intro w0 hSw; (try dsimp only at hSw); go_simp; all_goals (with_reducible rfl))
     simp only [Act.put, List.setIfInBounds_toArray, List.set_cons_zero, List.set_cons_succ]
     refine wpAnyE_take HST (i := 3) (v := ?_) rfl (by kernel_rfl) (by kernel_rfl) (by kernel_rfl) (fun _ _ _ h => h) (Or.inl ⟨by rfl, ?_⟩) hHeld ?_
     rotate_left
     ·(intro w0 hSw; (try dsimp only at hSw); go_simp; all_goals (with_reducible rfl))
     simp only [Act.put, List.setIfInBounds_toArray, List.set_cons_zero, List.set_cons_succ]
     refine wpAnyE_take HST (i := 4) (v := ?_) rfl (by kernel_rfl) (by kernel_rfl) (by kernel_rfl) (fun _ _ _ h => h) (Or.inl ⟨by rfl, ?_⟩) hHeld ?_
     rotate_left
     ·(intro w0 hSw; (try dsimp only at hSw); go_simp; all_goals (with_reducible rfl))
     simp only [Act.put, List.setIfInBounds_toArray, List.set_cons_zero, List.set_cons_succ]
     refine wpAnyE_take HST (i := 5) (v := ?_) rfl (by kernel_rfl) (by kernel_rfl) (by kernel_rfl) (fun _ _ _ h => h) (Or.inl ⟨by rfl, ?_⟩) hHeld ?_
     rotate_left
     ·(intro w0 hSw; (try dsimp only at hSw); go_simp; all_goals (with_reducible rfl))
     simp only [Act.put, List.setIfInBounds_toArray, List.set_cons_zero, List.set_cons_succ]
     refine wpAnyE_take HST (i := 6) (v := ?_) rfl (by kernel_rfl) (by kernel_rfl) (by kernel_rfl) (fun _ _ _ h => h) (Or.inl ⟨by rfl, ?_⟩) hHeld ?_
     rotate_left
     ·(intro w0 hSw; (try dsimp only at hSw); go_simp; all_goals (with_reducible rfl))
     simp only [Act.put, List.setIfInBounds_toArray, List.set_cons_zero, List.set_cons_succ]
     refine wpAnyE_take HST (i := 7) (v := ?_) rfl (by kernel_rfl) (by kernel_rfl) (by kernel_rfl) (fun _ _ _ h => h) (Or.inl ⟨by rfl, ?_⟩) hHeld ?_
     rotate_left
     ·(intro w0 hSw; (try dsimp only at hSw); go_simp; all_goals (with_reducible rfl))
     simp only [Act.put, List.setIfInBounds_toArray, List.set_cons_zero, List.set_cons_succ]
     refine wpAnyE_take HST (i := 8) (v := ?_) rfl (by kernel_rfl) (by kernel_rfl) (by kernel_rfl) (fun _ _ _ h => h) (Or.inl ⟨by rfl, ?_⟩) hHeld ?_
     rotate_left
     ·(intro w0 hSw; (try dsimp only at hSw); go_simp; all_goals (with_reducible rfl))
     simp only [Act.put, List.setIfInBounds_toArray, List.set_cons_zero, List.set_cons_succ]
     refine wpAnyE_take HST (i := 9) (v := ?_) rfl (by kernel_rfl) (by kernel_rfl) (by kernel_rfl) (fun _ _ _ h => h) (Or.inl ⟨by rfl, ?_⟩) hHeld ?_
     rotate_left
     ·(intro w0 hSw; (try dsimp only at hSw); go_simp; all_goals (with_reducible rfl))
     simp only [Act.put, List.setIfInBounds_toArray, List.set_cons_zero, List.set_cons_succ]
     refine wpAnyE_take HST (i := 10) (v := ?_) rfl (by kernel_rfl) (by kernel_rfl) (by kernel_rfl) (fun _ _ _ h => h) (Or.inl ⟨by rfl, ?_⟩) hHeld ?_
     rotate_left
     ·(intro w0 hSw; (try dsimp only at hSw); go_simp; all_goals (with_reducible rfl))
     simp only [Act.put, List.setIfInBounds_toArray, List.set_cons_zero, List.set_cons_succ]
     refine wpAnyE_take HST (i := 11) (v := ?_) rfl (by kernel_rfl) (by kernel_rfl) (by kernel_rfl) (fun _ _ _ h => h) (Or.inl ⟨by rfl, ?_⟩) hHeld ?_
     rotate_left
     ·(intro w0 hSw; (try dsimp only at hSw); go_simp; all_goals (with_reducible rfl))
     simp only [Act.put, List.setIfInBounds_toArray, List.set_cons_zero, List.set_cons_succ]
     refine wpAnyE_take HST (i := 12) (v := ?_) rfl (by kernel_rfl) (by kernel_rfl) (by kernel_rfl) (fun _ _ _ h => h) (Or.inl ⟨by rfl, ?_⟩) hHeld ?_
     rotate_left
     ·(intro w0 hSw; (try dsimp only at hSw); go_simp; all_goals (with_reducible rfl))
     simp only [Act.put, List.setIfInBounds_toArray, List.set_cons_zero, List.set_cons_succ]
     refine wpAnyE_take HST (i := 13) (v := ?_) rfl (by kernel_rfl) (by kernel_rfl) (by kernel_rfl) (fun _ _ _ h => h) (Or.inl ⟨by rfl, ?_⟩) hHeld ?_
     rotate_left
     ·(intro w0 hSw; (try dsimp only at hSw); go_simp; all_goals (with_reducible rfl))
     simp only [Act.put, List.setIfInBounds_toArray, List.set_cons_zero, List.set_cons_succ]
     refine wpAnyE_take HST (i := 14) (v := ?_) rfl (by kernel_rfl) (by kernel_rfl) (by kernel_rfl) (fun _ _ _ h => h) (Or.inl ⟨by rfl, ?_⟩) hHeld ?_
     rotate_left
     ·(intro w0 hSw; (try dsimp only at hSw); go_simp; all_goals (with_reducible rfl))
     simp only [Act.put, List.setIfInBounds_toArray, List.set_cons_zero, List.set_cons_succ]
     refine wpAnyE_take HST (i := 15) (v := ?_) rfl (by kernel_rfl) (by kernel_rfl) (by kernel_rfl) (fun _ _ _ h => h) (Or.inl ⟨by rfl, ?_⟩) hHeld ?_
     rotate_left
     ·(intro w0 hSw; (try dsimp only at hSw); go_simp; all_goals (with_reducible rfl))
     simp only [Act.put, List.setIfInBounds_toArray, List.set_cons_zero, List.set_cons_succ]
     refine wpAnyE_take HST (i := 16) (v := ?_) rfl (by kernel_rfl) (by kernel_rfl) (by kernel_rfl) (fun _ _ _ h => h) (Or.inl ⟨by rfl, ?_⟩) hHeld ?_
     rotate_left
     ·(intro w0 hSw; (try dsimp only at hSw); go_simp; all_goals (with_reducible rfl))
     simp only [Act.put, List.setIfInBounds_toArray, List.set_cons_zero, List.set_cons_succ]
     refine wpAnyE_take HST (i := 17) (v := ?_) rfl (by kernel_rfl) (by kernel_rfl) (by kernel_rfl) (fun _ _ _ h => h) (Or.inl ⟨by rfl, ?_⟩) hHeld ?_
     rotate_left
     ·(intro w0 hSw; (try dsimp only at hSw); go_simp; all_goals (with_reducible rfl))
     simp only [Act.put, List.setIfInBounds_toArray, List.set_cons_zero, List.set_cons_succ]
     refine wpAnyE_take HST (i := 18) (v := ?_) rfl (by kernel_rfl) (by kernel_rfl) (by kernel_rfl) (fun _ _ _ h => h) (Or.inl ⟨by rfl, ?_⟩) hHeld ?_
     rotate_left
     ·(intro w0 hSw; (try dsimp only at hSw); go_simp; all_goals (with_reducible rfl))
     simp only [Act.put, List.setIfInBounds_toArray, List.set_cons_zero, List.set_cons_succ]
     refine wpAnyE_take HST (i := 19) (v := ?_) rfl (by kernel_rfl) (by kernel_rfl) (by kernel_rfl) (fun _ _ _ h => h) (Or.inl ⟨by rfl, ?_⟩) hHeld ?_
     rotate_left
     ·(intro w0 hSw; (try dsimp only at hSw); go_simp; all_goals (with_reducible rfl))
     simp only [Act.put, List.setIfInBounds_toArray, List.set_cons_zero, List.set_cons_succ]
     refine wpAnyE_take HST (i := 20) (v := ?_) rfl (by kernel_rfl) (by kernel_rfl) (by kernel_rfl) (fun _ _ _ h => h) (Or.inl ⟨by rfl, ?_⟩) hHeld ?_
     rotate_left
     ·(intro w0 hSw; (try dsimp only at hSw); go_simp; all_goals (with_reducible rfl))
     simp only [Act.put, List.setIfInBounds_toArray, List.set_cons_zero, List.set_cons_succ]
     refine wpAnyE_take HST (i := 21) (v := ?_) rfl (by kernel_rfl) (by kernel_rfl) (by kernel_rfl) (fun _ _ _ h => h) (Or.inl ⟨by rfl, ?_⟩) hHeld ?_
     rotate_left
     ·(intro w0 hSw; (try dsimp only at hSw); go_simp; all_goals (with_reducible rfl))
     simp only [Act.put, List.setIfInBounds_toArray, List.set_cons_zero, List.set_cons_succ]
     refine wpAnyE_take HST (i := 22) (v := ?_) rfl (by kernel_rfl) (by kernel_rfl) (by kernel_rfl) (fun _ _ _ h => h) (Or.inl ⟨by rfl, ?_⟩) hHeld ?_
     rotate_left
     ·(intro w0 hSw; (try dsimp only at hSw); go_simp; all_goals (with_reducible rfl))
     simp only [Act.put, List.setIfInBounds_toArray, List.set_cons_zero, List.set_cons_succ]
     refine wpAnyE_take HST (i := 23) (v := ?_) rfl (by kernel_rfl) (by kernel_rfl) (by kernel_rfl) (fun _ _ _ h => h) (Or.inl ⟨by rfl, ?_⟩) hHeld ?_
     rotate_left
     ·(intro w0 hSw; (try dsimp only at hSw); go_simp; all_goals (with_reducible rfl))
     simp only [Act.put, List.setIfInBounds_toArray, List.set_cons_zero, List.set_cons_succ]
     refine wpAnyE_take HST (i := 24) (v := ?_) rfl (by kernel_rfl) (by kernel_rfl) (by kernel_rfl) (fun _ _ _ h => h) (Or.inl ⟨by rfl, ?_⟩) hHeld ?_
     rotate_left
     ·(intro w0 hSw; (try dsimp only at hSw); go_simp; all_goals (with_reducible rfl))
     simp only [Act.put, List.setIfInBounds_toArray, List.set_cons_zero, List.set_cons_succ]
     refine wpAnyE_take HST (i := 25) (v := ?_) rfl (by kernel_rfl) (by kernel_rfl) (by kernel_rfl) (fun _ _ _ h => h) (Or.inl ⟨by rfl, ?_⟩) hHeld ?_
     rotate_left
     ·(intro w0 hSw; (try dsimp only at hSw); go_simp; all_goals (with_reducible rfl))
     simp only [Act.put, List.setIfInBounds_toArray, List.set_cons_zero, List.set_cons_succ]
     refine wpAnyE_take HST (i := 26) (v := ?_) rfl (by kernel_rfl) (by kernel_rfl) (by kernel_rfl) (fun _ _ _ h => h) (Or.inl ⟨by rfl, ?_⟩) hHeld ?_
     rotate_left
     ·(intro w0 hSw; (try dsimp only at hSw); go_simp; all_goals (with_reducible rfl))
     simp only [Act.put, List.setIfInBounds_toArray, List.set_cons_zero, List.set_cons_succ]
     refine wpAnyE_take HST (i := 27) (v := ?_) rfl (by kernel_rfl) (by kernel_rfl) (by kernel_rfl) (fun _ _ _ h => h) (Or.inl ⟨by rfl, ?_⟩) hHeld ?_
     rotate_left
     ·(intro w0 hSw; (try dsimp only at hSw); go_simp; all_goals (with_reducible rfl))
     simp only [Act.put, List.setIfInBounds_toArray, List.set_cons_zero, List.set_cons_succ]
     refine wpAnyE_take HST (i := 28) (v := ?_) rfl (by kernel_rfl) (by kernel_rfl) (by kernel_rfl) (fun _ _ _ h => h) (Or.inl ⟨by rfl, ?_⟩) hHeld ?_
     rotate_left
     ·(intro w0 hSw; (try dsimp only at hSw); go_simp; all_goals (with_reducible rfl))
     simp only [Act.put, List.setIfInBounds_toArray, List.set_cons_zero, List.set_cons_succ]
     refine wpAnyE_take HST (i := 29) (v := ?_) rfl (by kernel_rfl) (by kernel_rfl) (by kernel_rfl) (fun _ _ _ h => h) (Or.inl ⟨by rfl, ?_⟩) hHeld ?_
     rotate_left
     ·(intro w0 hSw; (try dsimp only at hSw); go_simp; all_goals (with_reducible rfl))
     simp only [Act.put, List.setIfInBounds_toArray, List.set_cons_zero, List.set_cons_succ]
     refine wpAnyE_done (by kernel_rfl) (fun we hext => ?_) _
     intro b wx hbx hx0 hxz
     have VL := Lib.hid (bl_trans (bl_trans VL.out hext) hbx)
     have HB := Lib.hid hx0
     have O3 := Lib.hid (own3_block hxz)
     clear hext hbx hx0 hxz hHeld HST keepR
     have x0 := O3.out.1
     have x1 := O3.out.2.1
     have x2 := O3.out.2.2.1
     have xf := O3.out.2.2.2.1
     have xl := O3.out.2.2.2.2
     simp only [Act.put, List.setIfInBounds_toArray, List.set_cons_zero, List.set_cons_succ]
     refine lastQ_step rfl (fun Kn hKn => ?_)
     go_simp
     refine hKn.out _ _ ?_
     clear hKn Kn
     (try simp only [Act.put, List.setIfInBounds_toArray, List.set_cons_zero, List.set_cons_succ])
     obtain ⟨wb, hwb⟩ : ∃ wb : World, wb = ((wx.setCell ⟨b, 0, none⟩ (.int .i64 y)).setCell ⟨b, 1, none⟩ (.int .i64 q.a)).setCell ⟨b, 2, none⟩ (.int .i64 (q.a + q.c)) := ⟨_, rfl⟩
     have SM0 : Hid (SwM wb (wb.alloc (.cells #[] 106)) b n0 (.slice (some ⟨wb.heap.size, 0, none⟩) 0 0) []) := Lib.hid (by
      have hsz : wb.heap.size = wx.heap.size := by rw [hwb]; simp only [World.setCell, Array.size_modify]
      refine SwM.start ?_ ?_ ?_ (fun o => ?_) (by rw [hsz]; exact xl)
      ·rw [hwb, HN0.out]; exact off_set (by decide) (off_set (by decide) (self_set x0))
      ·rw [hwb, HN0.out]; exact off_set (by decide) (self_set (off_set (by decide) x1))
      ·rw [hwb, HN0.out]; exact self_set (off_set (by decide) (off_set (by decide) x2))
      ·rw [hwb, World.frozen?_setCell, World.frozen?_setCell, World.frozen?_setCell]; exact xf o)
     have KWB := Lib.hid (show Below wr.heap.size wr wb by rw [hwb]; exact ((VL.out.setCell HB.out _).setCell HB.out _).setCell HB.out _)
     have SI0 : Hid (SwI O n0 0 n0 []) := Lib.hid (SwI.start O n0 HN0N.out)
     rw [← hwb]
     clear x0 x1 x2 xf xl hwb VL
     clear w5 w6 w7 ixl
     go_wp2
     go_loopw [7, 8] (fun v7 v8 wi => ∃ (j : Nat) (m : Tr) (R : List Tr), j ≤ O.length ∧ v8 = .int .i64 (j : Nat) ∧ Hid (SwM wb wi b m v7 R) ∧ Hid (SwI O n0 j m R)) (fun _ v8 _ => O.length - (intOf v8).toNat)
     case atStart => exact ⟨0, n0, [], by omega, rfl, SM0, SI0⟩
     case round =>
      clear SM0 SI0
      obtain ⟨j, m, R, hj, rfl, SM, SI⟩ := hrel
      have KWI := Lib.hid (show Below b wb wr from SM.out.kb)
      obtain ⟨gr, cr, rfl, hgr, hgr2⟩ := SM.out.sm
      by_cases h3 : j < O.length
      ·have e3 : decide ((j : Int) < (O.length : Int)) = true := by simpa using h3
       have e3n : decide (j < O.length) = true := by simpa using h3
       have TRj := Lib.hid ((TR.out.below KWB.out HLT.out).below KWI.out (Nat.lt_of_lt_of_le HLT.out HB.out))
       have x0 := TRj.out.c0 j h3
       have x1 := TRj.out.c1 j h3
       have x2 := TRj.out.c2 j h3
       simp only [Nat.zero_add] at x0 x1 x2
       have y0 := SM.out.c0
       have y1 := SM.out.c1
       have y2 := SM.out.c2
       have ixj := fun X => ixRL og O.length oc j h3 X
       have hRl := SI.out.len
       have hhit : ∀ mm : Tr, ((O.getD j default).a = m.a ∧ (O.getD j default).b ≤ m.c ∧ m.b ≤ (O.getD j default).c) → mm.a = m.a → mm.b = (if (O.getD j default).b < m.b then (O.getD j default).b else m.b) → mm.c = (if m.c < (O.getD j default).c then (O.getD j default).c else m.c) → SwI O n0 (j + 1) mm R := fun mm h1 a1 a2 a3 => SI.out.hit CK.out h3 h1.1 h1.2.1 h1.2.2 a1 (by rw [a2]; split <;> omega) (by rw [a3]; split <;> omega)
       have hmiss : ¬ ((O.getD j default).a = m.a ∧ (O.getD j default).b ≤ m.c ∧ m.b ≤ (O.getD j default).c) → SwI O n0 (j + 1) m (R ++ [O.getD j default]) := fun h1 => SI.out.miss h3 h1
       obtain ⟨o, ho⟩ : ∃ o, o = O.getD j default := ⟨_, rfl⟩
       rw [← ho] at x0 x1 x2 hhit hmiss
       have HHIT := Lib.hid hhit
       have HMISS := Lib.hid hmiss
       clear ho hhit hmiss
       go_upto_region 13 with (fail)
       go_cut [85] (fun v85 wx => ∃ t : Bool, v85 = .bool t ∧ (t = true ↔ (o.a = m.a ∧ o.b ≤ m.c ∧ m.b ≤ o.c)) ∧ ∃ nq, wx = wr.drewN nq)
       case first =>
        by_cases u1 : o.a = m.a
        ·have f1 : (o.a == m.a) = true := by simpa using u1
         have f1d : decide (o.a = m.a) = true := by simpa using u1
         by_cases u2 : o.b ≤ m.c
         ·have f2 : decide (o.b ≤ m.c) = true := by simpa using u2
          by_cases u3 : m.b ≤ o.c
          ·have f3 : decide (m.b ≤ o.c) = true := by simpa using u3
           have HU : Hid (o.a = m.a ∧ o.b ≤ m.c ∧ m.b ≤ o.c) := Lib.hid ⟨u1, u2, u3⟩
           clear u1 u2 u3
           go_quiet (fail)
           go_wp2
           go_meet
           case rel => exact ⟨true, rfl, ⟨fun _ => HU.out, fun _ => rfl⟩, _, rfl⟩
          ·have f3 : decide (m.b ≤ o.c) = false := by simpa using u3
           have HU : Hid (¬ (o.a = m.a ∧ o.b ≤ m.c ∧ m.b ≤ o.c)) := Lib.hid (fun e => u3 e.2.2)
           clear u1 u2 u3
           go_quiet (fail)
           go_wp2
           go_meet
           case rel => exact ⟨false, rfl, ⟨fun e => absurd e (by decide), fun e => absurd e HU.out⟩, _, rfl⟩
         ·have f2 : decide (o.b ≤ m.c) = false := by simpa using u2
          have HU : Hid (¬ (o.a = m.a ∧ o.b ≤ m.c ∧ m.b ≤ o.c)) := Lib.hid (fun e => u2 e.2.1)
          clear u1 u2
          go_quiet (fail)
          go_wp2
          go_meet
          case rel => exact ⟨false, rfl, ⟨fun e => absurd e (by decide), fun e => absurd e HU.out⟩, _, rfl⟩
        ·have f1 : (o.a == m.a) = false := by simpa using u1
         have f1d : decide (o.a = m.a) = false := by simpa using u1
         have HU : Hid (¬ (o.a = m.a ∧ o.b ≤ m.c ∧ m.b ≤ o.c)) := Lib.hid (fun e => u1 e.1)
         clear u1
         go_quiet (fail)
         go_wp2
         go_meet
         case rel => exact ⟨false, rfl, ⟨fun e => absurd e (by decide), fun e => absurd e HU.out⟩, _, rfl⟩
       case rest =>
        obtain ⟨t, rfl, ht, nq, rfl⟩ := hcut
        have SM3 := Lib.hid (SM.out.keep (below_drawN (Below.refl wr.heap.size wr) nq))
        change (wr.drewN nq).cell? _ = _ at x0
        change (wr.drewN nq).cell? _ = _ at x1
        change (wr.drewN nq).cell? _ = _ at x2
        generalize wr.drewN nq = w3 at SM3 x0 x1 x2 ⊢
        have y0 := SM3.out.c0
        have y1 := SM3.out.c1
        have y2 := SM3.out.c2
        have f1 := SM3.out.fz 1
        have f2 := SM3.out.fz 2
        rcases t with _ | _
        ·have HN2 := Lib.hid (HMISS.out (fun e => absurd (ht.2 e) (by decide)))
         clear ht
         have HSZ := Lib.hid (show b + 1 ≤ w3.heap.size from SM3.out.lt)
         go_wp2_with (at_builtin; refine wpList_append_own _ rfl (.tmp 104) (.tmp 109) 103 rfl (b + 1) 106 i0 _ 3 24 Tryz.underlying103 hinf hz0 hz1 hz2 rfl (by decide) (.slice (some ⟨gr, 0, none⟩) R.length cr) R.length (trL R) rfl (SM3.out.row.alloc _) ⟨w3.heap.size, 0, none⟩ 1 1 (trC o) rfl rfl (newT1 w3 o 106) (trC_one o) (by unfold maxLen; omega) (by omega) (by simp; have := HSZ.out; omega) ?_; intro v' w5 hown hgrow _; have SM5 := Lib.hid ((SM3.out.keep (boxes1 w3 (.cells #[.int .i64 o.a, .int .i64 o.b, .int .i64 o.c] 106))).push hown hgrow); clear hown hgrow)
         go_roundw
         case rel => exact ⟨j + 1, m, R ++ [o], by omega, by go_num, SM5, HN2⟩
         case measure => simp [intOf]; omega
        ·obtain ⟨lo, hlo⟩ : ∃ lo, lo = if o.b < m.b then o.b else m.b := ⟨_, rfl⟩
         obtain ⟨hi2, hhi⟩ : ∃ hi2, hi2 = if m.c < o.c then o.c else m.c := ⟨_, rfl⟩
         have HN2 : Hid (SwI O n0 (j + 1) ⟨m.a, lo, hi2⟩ R) := Lib.hid (HHIT.out ⟨m.a, lo, hi2⟩ (ht.1 rfl) rfl hlo hhi)
         have g1 : (if o.b < m.b then o.b else m.b) = lo := hlo.symm
         have g2 : (if m.c < o.c then o.c else m.c) = hi2 := hhi.symm
         have g3 : min m.b o.b = lo := by rw [hlo]; split <;> omega
         have g4 : max m.c o.c = hi2 := by rw [hhi]; split <;> omega
         have SM4 := Lib.hid (SM3.out.set (m := ⟨m.a, lo, hi2⟩) rfl)
         clear ht hlo hhi
         go_upto_region 14 with (fail)
         go_region
         all_goals
          go_wp2
          go_roundw
          case rel => exact ⟨j + 1, ⟨m.a, lo, hi2⟩, R, by omega, by go_num, Lib.hid (SM4.out.keep (Below.refl _ _).drew), HN2⟩
          case measure => simp [intOf]; omega
      ·obtain rfl : j = O.length := by omega
       have e3 : decide (((O.length : Nat) : Int) < ((O.length : Nat) : Int)) = false := by simp
       obtain ⟨N, hNN⟩ : ∃ N, N = R.length := ⟨_, rfl⟩
       have hN48 : N ≤ 48 := by rw [hNN]; have := SI.out.len; omega
       have TRR := Lib.hid (show TrR wr gr 0 R from trR_own SM.out.row)
       rw [← hNN]
       have HNN := Lib.hid hNN
       have hcr : N ≤ cr := by rw [hNN]; exact own_cap SM.out.row
       have HGR := Lib.hid hgr
       clear hNN hgr
       obtain ⟨wz, hwz⟩ : ∃ wz : World, wz = wr := ⟨_, rfl⟩
       rw [← hwz] at TRR SM KWI hgr2
       have VB0 : Hid (Below wz.heap.size wz wr) := Lib.hid (by rw [hwz]; exact Below.refl _ _)
       clear hwz
       have LT0 : Hid (∀ i, i < 0 → ltY (R.getD i default) m) := Lib.hid (fun i h => by omega)
       go_upto_block 6 with (fail)
       go_cut [9] from 111 to 146 (fun v9 wx => ∃ p : Nat, v9 = .int .i64 (p : Nat) ∧ p ≤ N ∧ Hid (∀ i, i < p → ltY (R.getD i default) m) ∧ Hid (p < N → ¬ ltY (R.getD p default) m) ∧ Hid (Below wz.heap.size wz wx))
       case first =>
        go_wp2
        go_loopw [9] (fun v9 wi => ∃ p : Nat, p ≤ N ∧ v9 = .int .i64 (p : Nat) ∧ Hid (∀ i, i < p → ltY (R.getD i default) m) ∧ Hid (Below wz.heap.size wz wi)) (fun v9 _ => N - (intOf v9).toNat)
        case atStart => exact ⟨0, by omega, rfl, LT0, VB0⟩
        case round =>
         clear LT0 VB0
         obtain ⟨p, hp, rfl, LT, VB⟩ := hrel
         by_cases h4 : p < N
         ·have e4 : decide ((p : Int) < (N : Int)) = true := by simpa using h4
          have e4n : decide (p < N) = true := by simpa using h4
          have TRp := Lib.hid (TRR.out.below VB.out hgr2)
          have SMp := Lib.hid (SM.out.keep VB.out)
          have z0 := TRp.out.c0 p (by have := HNN.out; omega)
          have z1 := TRp.out.c1 p (by have := HNN.out; omega)
          have z2 := TRp.out.c2 p (by have := HNN.out; omega)
          simp only [Nat.zero_add] at z0 z1 z2
          have y0 := SMp.out.c0
          have y1 := SMp.out.c1
          have y2 := SMp.out.c2
          have ixp := fun X => ixRL gr N cr p h4 X
          have hext : ltY (R.getD p default) m → ∀ i, i < p + 1 → ltY (R.getD i default) m := fun h => ext_lt2 (n := p) (P := fun i => ltY (R.getD i default) m) LT.out h
          have hend : ¬ ltY (R.getD p default) m → (p < N → ¬ ltY (R.getD p default) m) := fun h _ => h
          obtain ⟨r, hr⟩ : ∃ r, r = R.getD p default := ⟨_, rfl⟩
          rw [← hr] at z0 z1 z2 hext hend
          have HEXT := Lib.hid hext
          have HEND : Hid (¬ ltY r m → (p < N → ¬ ltY (R.getD p default) m)) := Lib.hid (fun h _ => by rw [← hr]; exact h)
          clear hext hend hr TRp SMp
          by_cases c1 : r.a < m.a
          ·have d1 : decide (r.a < m.a) = true := by simpa using c1
           have HX := Lib.hid (HEXT.out (.inl c1))
           clear c1 HEND
           go_upto_region 17 with (fail)
           go_quiet (fail)
           go_wp2
           go_roundw
           case rel => exact ⟨p + 1, by omega, by go_num, HX, Lib.hid (VB.out.trans ((Drawn.of _ _).below _))⟩
           case measure => simp [intOf]; omega
          ·have d1 : decide (r.a < m.a) = false := by simpa using c1
           by_cases c2 : r.a = m.a
           ·have d2 : (r.a == m.a) = true := by simpa using c2
            have d2d : decide (r.a = m.a) = true := by simpa using c2
            by_cases c3 : r.b < m.b
            ·have d3 : decide (r.b < m.b) = true := by simpa using c3
             have HX := Lib.hid (HEXT.out (.inr ⟨c2, c3⟩))
             clear c1 c2 c3 HEND
             go_upto_region 17 with (fail)
             go_quiet (fail)
             go_wp2
             go_roundw
             case rel => exact ⟨p + 1, by omega, by go_num, HX, Lib.hid (VB.out.trans ((Drawn.of _ _).below _))⟩
             case measure => simp [intOf]; omega
            ·have d3 : decide (r.b < m.b) = false := by simpa using c3
             have HX := Lib.hid (HEND.out (by unfold ltY; omega))
             clear c1 c2 c3 HEND HEXT
             go_upto_region 17 with (fail)
             go_quiet (fail)
             go_wp2
             go_meet
             case rel => exact ⟨p, rfl, by omega, LT, HX, Lib.hid (VB.out.trans ((Drawn.of _ _).below _))⟩
           ·have d2 : (r.a == m.a) = false := by simpa using c2
            have d2d : decide (r.a = m.a) = false := by simpa using c2
            have HX := Lib.hid (HEND.out (by unfold ltY; omega))
            clear c1 c2 HEND HEXT
            go_upto_region 17 with (fail)
            go_quiet (fail)
            go_wp2
            go_meet
            case rel => exact ⟨p, rfl, by omega, LT, HX, Lib.hid (VB.out.trans ((Drawn.of _ _).below _))⟩
         ·obtain rfl : p = N := by omega
          have e4 : decide ((p : Int) < (p : Int)) = false := by simp
          have HX : Hid (p < p → ¬ ltY (R.getD p default) m) := Lib.hid (fun h => by omega)
          go_upto_region 17 with (fail)
          go_quiet (fail)
          go_wp2
          go_meet
          case rel => exact ⟨p, rfl, by omega, LT, HX, Lib.hid (VB.out.trans ((Drawn.of _ _).below _))⟩
       case rest =>
       obtain ⟨p, rfl, hpN, HLTY, HGE, VB⟩ := hcut
       have HDONE := Lib.hid (SI.out.done CK.out (p := p) (by rw [← HNN.out]; exact hpN) HLTY.out (by rw [← HNN.out]; exact HGE.out))
       have HCK : Hid (CanL (R.take p ++ m :: R.drop p) (cv (k + 1))) := Lib.hid (HDONE.out.congr (fun yy xx => by rw [HN0.out, HYE.out, HCV.out]; exact cv_step _ q k h2 yy xx))
       have HLEN : Hid ((R.take p ++ m :: R.drop p).length ≤ 2 * i + (k + 1)) := Lib.hid (by rw [ins_len R m (by rw [← HNN.out]; exact hpN)]; have := SI.out.len; omega)
       have HLN1 := Lib.hid (show (trL (R.take p)).length = p * 3 by rw [trL_len, List.length_take, ← HNN.out, Nat.min_eq_left hpN])
       have HLN2 := Lib.hid (show (trL (R.drop p)).length = (N - p) * 3 by rw [trL_len, List.length_drop, ← HNN.out])
       have HIN : Hid (trL (R.take p) ++ trC m ++ trL (R.drop p) = trL (R.take p ++ m :: R.drop p)) := Lib.hid (by rw [trL_app, List.append_assoc]; rfl)
       have HK1 : Hid (p + 1 + (N - p) = (R.take p ++ m :: R.drop p).length) := Lib.hid (by rw [ins_len R m (by rw [← HNN.out]; exact hpN), ← HNN.out]; omega)
       obtain ⟨wO, hwO⟩ : ∃ x : World, x = wc.drew := ⟨_, rfl⟩
       have VB2 := Lib.hid (show Below wz.heap.size wz wO by rw [hwO]; exact VB.out.drew)
       have HWO := Lib.hid hwO
       have SMO := Lib.hid (SM.out.keep VB2.out)
       clear hwO HDONE
       have hsz := sliced_zero
       obtain ⟨ad2, had2⟩ : ∃ ad2 : Addr, ad2 = if cr = p then ⟨gr, 0, none⟩ else ⟨gr, p * 3, none⟩ := ⟨_, rfl⟩
       have hsl : sliced (some ⟨gr, 0, none⟩) p N cr 3 = .slice (some ad2) (N - p) (cr - p) := by
        rw [had2]; unfold sliced
        by_cases e : cr = p
        ·rw [if_pos e, if_pos e]
        ·rw [if_neg e, if_neg e, Option.map_some, add_at, Nat.zero_add]
       have HN2 : Hid (∀ wx, Below wO.heap.size wO wx → ∀ j u, (trL (R.drop p))[j]? = some u → wx.cell? (ad2.add j) = some u) := Lib.hid (fun wx hb j u hj => by
        have hj2 := trL_drop (by rw [← HNN.out]; exact hpN) hj
        have hjl := (List.getElem?_eq_some_iff.1 hj).1
        rw [HLN2.out] at hjl
        have hne : ¬ cr = p := by omega
        rw [had2, if_neg hne, add_at]
        have h3 := trR_news (TRR.out.below (VB2.out.trans (hb.mono VB2.out.size)) hgr2) (p * 3 + j) u hj2
        rw [add_at, Nat.zero_add] at h3
        exact h3)
       have HN1 : Hid (∀ wx, Below wO.heap.size wO wx → ∀ j u, (trL (R.take p))[j]? = some u → wx.cell? ((⟨gr, 0, none⟩ : Addr).add j) = some u) := Lib.hid (fun wx hb j u hj =>
        trR_news (TRR.out.below (VB2.out.trans (hb.mono VB2.out.size)) hgr2) j u (trL_take hj))
       have hif : (if cr = p then some (⟨gr, 0, none⟩ : Addr) else some ⟨gr, p * 3, none⟩) = some ad2 := by rw [had2]; split <;> rfl
       have hpc : p ≤ cr := by omega
       clear had2
       have keepR : Hid (∀ w', Below wO.heap.size wO w' → w'.cell? ⟨b, 0, none⟩ = some (.int .i64 m.a) ∧ w'.cell? ⟨b, 1, none⟩ = some (.int .i64 m.b) ∧ w'.cell? ⟨b, 2, none⟩ = some (.int .i64 m.c)) := Lib.hid (fun w' hb => ⟨(hb.cell (p := ⟨b, 0, none⟩) SMO.out.lt).trans SMO.out.c0, (hb.cell (p := ⟨b, 1, none⟩) SMO.out.lt).trans SMO.out.c1, (hb.cell (p := ⟨b, 2, none⟩) SMO.out.lt).trans SMO.out.c2⟩)
       have VL := Lib.hid (Below.refl wO.heap.size wO)
       have HKW := Lib.hid (show Below w.heap.size w wO from by
        have s1 := HKB.out.trans (KWB.out.mono HKB.out.size)
        have s2 : Below w.heap.size wb wO := (SMO.out.kb).mono (Nat.le_trans HKB.out.size HB.out)
        exact s1.trans s2)
       go_wp2
       refine wp_region_held_drew (S := fun w' => w'.cell? ⟨b, 0, none⟩ = some (.int .i64 m.a) ∧ w'.cell? ⟨b, 1, none⟩ = some (.int .i64 m.b) ∧ w'.cell? ⟨b, 2, none⟩ = some (.int .i64 m.c)) (by kernel_rfl) (by rw [← HWO.out]; exact keepR.out _ VL.out) (fun hHeld => ?_)
       rw [← HWO.out] at hHeld ⊢
       refine wpAnyH_take (i := 1) (v := ?_) rfl (by kernel_rfl) (by kernel_rfl) (by kernel_rfl) (fun _ _ _ h => h) (Or.inl ⟨by kernel_rfl, ?_⟩) (by assumption) ?_
       rotate_left
       ·(intro w0 hSw; (try dsimp only at hSw); go_simp; all_goals (with_reducible rfl))
       simp only [Act.put, List.setIfInBounds_toArray, List.set_cons_zero, List.set_cons_succ]
       refine wpAnyH_take (i := 2) (v := ?_) rfl (by kernel_rfl) (by kernel_rfl) (by kernel_rfl) (fun _ _ _ h => h) (Or.inl ⟨by kernel_rfl, ?_⟩) (by assumption) ?_
       rotate_left
       ·(intro w0 hSw; (try dsimp only at hSw); go_simp; all_goals (with_reducible rfl))
       simp only [Act.put, List.setIfInBounds_toArray, List.set_cons_zero, List.set_cons_succ]
       refine wpAnyH_take (i := 3) (v := ?_) rfl (by kernel_rfl) (by kernel_rfl) (by kernel_rfl) (fun _ _ _ h => h) (Or.inl ⟨by kernel_rfl, ?_⟩) (by assumption) ?_
       rotate_left
       ·(intro w0 hSw; (try dsimp only at hSw); go_simp; all_goals (with_reducible rfl))
       simp only [Act.put, List.setIfInBounds_toArray, List.set_cons_zero, List.set_cons_succ]
       refine wpAnyH_take (i := 5) (v := ?_) rfl (by kernel_rfl) (by kernel_rfl) (by kernel_rfl) (fun _ _ _ h => h) (Or.inl ⟨by kernel_rfl, ?_⟩) (by assumption) ?_
       rotate_left
       ·(intro w0 hSw; (try dsimp only at hSw); go_simp; all_goals (with_reducible rfl))
       simp only [Act.put, List.setIfInBounds_toArray, List.set_cons_zero, List.set_cons_succ]
       refine wpAnyH_take (i := 8) (v := ?_) rfl (by kernel_rfl) (by kernel_rfl) (by kernel_rfl) (fun _ _ _ h => h) (Or.inl ⟨by kernel_rfl, ?_⟩) (by assumption) ?_
       rotate_left
       ·(intro w0 hSw; (try dsimp only at hSw); go_simp; all_goals (with_reducible rfl))
       simp only [Act.put, List.setIfInBounds_toArray, List.set_cons_zero, List.set_cons_succ]
       refine wpAnyH_take (i := 9) (v := ?_) rfl (by kernel_rfl) (by kernel_rfl) (by kernel_rfl) (fun _ _ _ h => h) (Or.inl ⟨by kernel_rfl, ?_⟩) (by assumption) ?_
       rotate_left
       ·(intro w0 hSw; (try dsimp only at hSw); go_simp; all_goals (with_reducible rfl))
       simp only [Act.put, List.setIfInBounds_toArray, List.set_cons_zero, List.set_cons_succ]
       refine wpAnyH_take (i := 10) (v := ?_) rfl (by kernel_rfl) (by kernel_rfl) (by kernel_rfl) (fun _ _ _ h => h) (Or.inl ⟨by kernel_rfl, ?_⟩) (by assumption) ?_
       rotate_left
       ·(intro w0 hSw; (try dsimp only at hSw); go_simp; all_goals (with_reducible rfl))
       simp only [Act.put, List.setIfInBounds_toArray, List.set_cons_zero, List.set_cons_succ]
       refine wpAnyH_ready (rs := [0, 6]) (by kernel_rfl) (by simp) ?_
       refine AllReadyH.cons rfl (fun Kn hKn => ?_) (AllReadyH.cons rfl (fun Kn hKn => ?_) AllReadyH.nil)
       ·go_simp
        have OWN : Hid ((wO.alloc (.cells #[] 106)).ownsRow wO.heap.size 106 3 (.slice (some ⟨wO.heap.size, 0, none⟩) 0 0) 0 []) := Lib.hid (own_le (World.ownsRow_made wO #[] 0 (Nat.le_refl _) (by unfold maxLen; omega) rfl) VL.out.size)
        have VL := Lib.hid (VL.out.alloc VL.out.size (.cells #[] 106))
        refine hKn.out _ _ ?_ (fun hHeld => ?_)
        ·(try dsimp only); exact keepR.out _ VL.out
        clear hKn Kn
        (try simp only [Act.put, List.setIfInBounds_toArray, List.set_cons_zero, List.set_cons_succ])
        obtain ⟨v0, hv0⟩ : ∃ v0, v0 = Value.slice (some ⟨wO.heap.size, 0, none⟩) 0 0 := ⟨_, rfl⟩
        rw [← hv0] at OWN ⊢
        clear hv0
        generalize wO.alloc (.cells #[] 106) = wE at OWN VL hHeld ⊢
        refine wpAnyH_ready (rs := [4, 6]) (by kernel_rfl) (by simp) ?_
        refine AllReadyH.cons rfl (fun Kn hKn => ?_) (AllReadyH.cons rfl (fun Kn hKn => ?_) AllReadyH.nil)
        ·refine step_append_own (by rfl) _ _ _ (by rfl) wO.heap.size 106 i0 _ 3 24 Tryz.underlying103 hinf hz0 hz1 hz2 rfl (by decide) v0 0 [] (by rfl) OWN.out ⟨gr, 0, none⟩ p _ (trL (R.take p)) (by rfl) HLN1.out (HN1.out _ VL.out) (trL_one _) (by unfold maxLen; omega) (by omega) VL.out.size ?_
         intro va w5 hown hgrow
         have VL := Lib.hid (VL.out.grown hgrow VL.out.size (fun kk e => (OWN.out.lt kk e).1))
         have OWN := Lib.hid hown
         clear hown hgrow
         refine hKn.out _ _ ?_ (fun hHeld => ?_)
         ·(try dsimp only); exact keepR.out _ VL.out
         clear hKn Kn
         (try simp only [Act.put, List.setIfInBounds_toArray, List.set_cons_zero, List.set_cons_succ])
         rw [Nat.zero_add, List.nil_append] at OWN
         obtain ⟨va4, hva4⟩ : ∃ va4, va4 = va := ⟨_, rfl⟩
         rw [← hva4] at OWN ⊢
         clear hva4
         obtain ⟨v0, hv0⟩ : ∃ v0, v0 = va4 := ⟨_, rfl⟩
         rw [← hv0] at OWN
         refine wpAnyH_ready (rs := [6]) (by kernel_rfl) (by simp) ?_
         refine AllReadyH.cons rfl (fun Kn hKn => ?_) AllReadyH.nil
         go_simp
         have BX := Lib.hid (box3_new w5 (.int .i64 m.a) (.int .i64 m.b) (.int .i64 m.c) 106)
         have HB9 : Hid (w5.heap.size < (w5.alloc (.cells #[.int .i64 m.a, .int .i64 m.b, .int .i64 m.c] 106)).heap.size) := Lib.hid (by simp)
         have HNE : Hid (some w5.heap.size ≠ v0.ownBlock) := Lib.hid (fun e => by have := (OWN.out.lt _ e.symm).2; omega)
         have OWN := Lib.hid (OWN.out.alloc (.cells #[.int .i64 m.a, .int .i64 m.b, .int .i64 m.c] 106))
         have VL := Lib.hid (VL.out.alloc VL.out.size (.cells #[.int .i64 m.a, .int .i64 m.b, .int .i64 m.c] 106))
         refine hKn.out _ _ ?_ (fun hHeld => ?_)
         ·(try dsimp only); exact keepR.out _ VL.out
         clear hKn Kn
         (try simp only [Act.put, List.setIfInBounds_toArray, List.set_cons_zero, List.set_cons_succ])
         obtain ⟨b9, hb9⟩ : ∃ b9, b9 = w5.heap.size := ⟨_, rfl⟩
         rw [← hb9] at BX HB9 HNE ⊢
         clear hb9
         generalize w5.alloc (.cells #[.int .i64 m.a, .int .i64 m.b, .int .i64 m.c] 106) = wN at BX VL HB9 OWN hHeld ⊢
         rw [hv0] at OWN
         refine wpAnyH_ready (rs := [7]) (by kernel_rfl) (by simp) ?_
         refine AllReadyH.cons rfl (fun Kn hKn => ?_) AllReadyH.nil
         refine step_append_own (by rfl) _ _ _ (by rfl) wO.heap.size 106 i0 _ 3 24 Tryz.underlying103 hinf hz0 hz1 hz2 rfl (by decide) va4 p (trL (R.take p)) (by rfl) OWN.out ⟨b9, 0, none⟩ 1 _ [.int .i64 m.a, .int .i64 m.b, .int .i64 m.c] (by rfl) (by rfl) (box3_cells BX.out) (trC_one m) (by unfold maxLen; omega) (by omega) VL.out.size ?_
         intro vb w6 hown hgrow
         have VL := Lib.hid (VL.out.grown hgrow VL.out.size (fun kk e => (OWN.out.lt kk e).1))
         have OWN := Lib.hid hown
         clear hown hgrow
         refine hKn.out _ _ ?_ (fun hHeld => ?_)
         ·(try dsimp only); exact keepR.out _ VL.out
         clear hKn Kn
         (try simp only [Act.put, List.setIfInBounds_toArray, List.set_cons_zero, List.set_cons_succ])
         refine wpAnyH_ready (rs := [11]) (by kernel_rfl) (by simp) ?_
         refine AllReadyH.cons rfl (fun Kn hKn => ?_) AllReadyH.nil
         refine step_append_own (by rfl) _ _ _ (by rfl) wO.heap.size 106 i0 _ 3 24 Tryz.underlying103 hinf hz0 hz1 hz2 rfl (by decide) vb (p + 1) (trL (R.take p) ++ trC m) (by rfl) OWN.out ad2 (N - p) _ (trL (R.drop p)) (by rfl) HLN2.out (HN2.out _ VL.out) (trL_one _) (by unfold maxLen; omega) (by omega) VL.out.size ?_
         intro vc w7 hown hgrow
         have VL := Lib.hid (VL.out.grown hgrow VL.out.size (fun kk e => (OWN.out.lt kk e).1))
         have OWN := Lib.hid hown
         clear hown hgrow
         refine hKn.out _ _ ?_ (fun hHeld => ?_)
         ·(try dsimp only); exact keepR.out _ VL.out
         clear hKn Kn
         (try simp only [Act.put, List.setIfInBounds_toArray, List.set_cons_zero, List.set_cons_succ])
         refine wpAnyH_take (i := 12) (v := ?_) rfl (by kernel_rfl) (by kernel_rfl) (by kernel_rfl) (fun _ _ _ h => h) (Or.inl ⟨by kernel_rfl, ?_⟩) (by assumption) ?_
         rotate_left
         ·(intro w0 hSw; (try dsimp only at hSw); go_simp; all_goals (with_reducible rfl))
         simp only [List.getElem_toArray, List.getElem_cons_succ, List.getElem_cons_zero, Act.put, List.setIfInBounds_toArray, List.set_cons_zero, List.set_cons_succ]
         refine wpAnyH_done (by kernel_rfl) ?_ _
         have FIN := Lib.hid (LnM.mk' OWN.out HK1.out HIN.out (HKW.out.trans (VL.out.mono HKW.out.size)) HKW.out.size (by omega))
         go_wp2
         go_roundw
         case rel => exact ⟨k + 1, R.take p ++ m :: R.drop p, by omega, by go_num, HLEN.out, FIN, HCK⟩
         case measure => simp [intOf]; omega
        ·go_simp
         have BX := Lib.hid (box3_new wE (.int .i64 m.a) (.int .i64 m.b) (.int .i64 m.c) 106)
         have HB9 : Hid (wE.heap.size < (wE.alloc (.cells #[.int .i64 m.a, .int .i64 m.b, .int .i64 m.c] 106)).heap.size) := Lib.hid (by simp)
         have HNE : Hid (some wE.heap.size ≠ v0.ownBlock) := Lib.hid (fun e => by have := (OWN.out.lt _ e.symm).2; omega)
         have OWN := Lib.hid (OWN.out.alloc (.cells #[.int .i64 m.a, .int .i64 m.b, .int .i64 m.c] 106))
         have VL := Lib.hid (VL.out.alloc VL.out.size (.cells #[.int .i64 m.a, .int .i64 m.b, .int .i64 m.c] 106))
         refine hKn.out _ _ ?_ (fun hHeld => ?_)
         ·(try dsimp only); exact keepR.out _ VL.out
         clear hKn Kn
         (try simp only [Act.put, List.setIfInBounds_toArray, List.set_cons_zero, List.set_cons_succ])
         obtain ⟨b9, hb9⟩ : ∃ b9, b9 = wE.heap.size := ⟨_, rfl⟩
         rw [← hb9] at BX HB9 HNE ⊢
         clear hb9
         generalize wE.alloc (.cells #[.int .i64 m.a, .int .i64 m.b, .int .i64 m.c] 106) = wN at BX VL HB9 OWN hHeld ⊢
         refine wpAnyH_ready (rs := [4]) (by kernel_rfl) (by simp) ?_
         refine AllReadyH.cons rfl (fun Kn hKn => ?_) AllReadyH.nil
         refine step_append_own (by rfl) _ _ _ (by rfl) wO.heap.size 106 i0 _ 3 24 Tryz.underlying103 hinf hz0 hz1 hz2 rfl (by decide) v0 0 [] (by rfl) OWN.out ⟨gr, 0, none⟩ p _ (trL (R.take p)) (by rfl) HLN1.out (HN1.out _ VL.out) (trL_one _) (by unfold maxLen; omega) (by omega) VL.out.size ?_
         intro va w5 hown hgrow
         have BX := Lib.hid (BX.out.grown hgrow HNE.out)
         have VL := Lib.hid (VL.out.grown hgrow VL.out.size (fun kk e => (OWN.out.lt kk e).1))
         have OWN := Lib.hid hown
         clear hown hgrow
         refine hKn.out _ _ ?_ (fun hHeld => ?_)
         ·(try dsimp only); exact keepR.out _ VL.out
         clear hKn Kn
         (try simp only [Act.put, List.setIfInBounds_toArray, List.set_cons_zero, List.set_cons_succ])
         rw [Nat.zero_add, List.nil_append] at OWN
         obtain ⟨va4, hva4⟩ : ∃ va4, va4 = va := ⟨_, rfl⟩
         rw [← hva4] at OWN ⊢
         clear hva4
         refine wpAnyH_ready (rs := [7]) (by kernel_rfl) (by simp) ?_
         refine AllReadyH.cons rfl (fun Kn hKn => ?_) AllReadyH.nil
         refine step_append_own (by rfl) _ _ _ (by rfl) wO.heap.size 106 i0 _ 3 24 Tryz.underlying103 hinf hz0 hz1 hz2 rfl (by decide) va4 p (trL (R.take p)) (by rfl) OWN.out ⟨b9, 0, none⟩ 1 _ [.int .i64 m.a, .int .i64 m.b, .int .i64 m.c] (by rfl) (by rfl) (box3_cells BX.out) (trC_one m) (by unfold maxLen; omega) (by omega) VL.out.size ?_
         intro vb w6 hown hgrow
         have VL := Lib.hid (VL.out.grown hgrow VL.out.size (fun kk e => (OWN.out.lt kk e).1))
         have OWN := Lib.hid hown
         clear hown hgrow
         refine hKn.out _ _ ?_ (fun hHeld => ?_)
         ·(try dsimp only); exact keepR.out _ VL.out
         clear hKn Kn
         (try simp only [Act.put, List.setIfInBounds_toArray, List.set_cons_zero, List.set_cons_succ])
         refine wpAnyH_ready (rs := [11]) (by kernel_rfl) (by simp) ?_
         refine AllReadyH.cons rfl (fun Kn hKn => ?_) AllReadyH.nil
         refine step_append_own (by rfl) _ _ _ (by rfl) wO.heap.size 106 i0 _ 3 24 Tryz.underlying103 hinf hz0 hz1 hz2 rfl (by decide) vb (p + 1) (trL (R.take p) ++ trC m) (by rfl) OWN.out ad2 (N - p) _ (trL (R.drop p)) (by rfl) HLN2.out (HN2.out _ VL.out) (trL_one _) (by unfold maxLen; omega) (by omega) VL.out.size ?_
         intro vc w7 hown hgrow
         have VL := Lib.hid (VL.out.grown hgrow VL.out.size (fun kk e => (OWN.out.lt kk e).1))
         have OWN := Lib.hid hown
         clear hown hgrow
         refine hKn.out _ _ ?_ (fun hHeld => ?_)
         ·(try dsimp only); exact keepR.out _ VL.out
         clear hKn Kn
         (try simp only [Act.put, List.setIfInBounds_toArray, List.set_cons_zero, List.set_cons_succ])
         refine wpAnyH_take (i := 12) (v := ?_) rfl (by kernel_rfl) (by kernel_rfl) (by kernel_rfl) (fun _ _ _ h => h) (Or.inl ⟨by kernel_rfl, ?_⟩) (by assumption) ?_
         rotate_left
         ·(intro w0 hSw; (try dsimp only at hSw); go_simp; all_goals (with_reducible rfl))
         simp only [List.getElem_toArray, List.getElem_cons_succ, List.getElem_cons_zero, Act.put, List.setIfInBounds_toArray, List.set_cons_zero, List.set_cons_succ]
         refine wpAnyH_done (by kernel_rfl) ?_ _
         have FIN := Lib.hid (LnM.mk' OWN.out HK1.out HIN.out (HKW.out.trans (VL.out.mono HKW.out.size)) HKW.out.size (by omega))
         go_wp2
         go_roundw
         case rel => exact ⟨k + 1, R.take p ++ m :: R.drop p, by omega, by go_num, HLEN.out, FIN, HCK⟩
         case measure => simp [intOf]; omega
       ·go_simp
        have BX := Lib.hid (box3_new wO (.int .i64 m.a) (.int .i64 m.b) (.int .i64 m.c) 106)
        have HB9 : Hid (wO.heap.size < (wO.alloc (.cells #[.int .i64 m.a, .int .i64 m.b, .int .i64 m.c] 106)).heap.size) := Lib.hid (by simp)
        have VL := Lib.hid (VL.out.alloc VL.out.size (.cells #[.int .i64 m.a, .int .i64 m.b, .int .i64 m.c] 106))
        refine hKn.out _ _ ?_ (fun hHeld => ?_)
        ·(try dsimp only); exact keepR.out _ VL.out
        clear hKn Kn
        (try simp only [Act.put, List.setIfInBounds_toArray, List.set_cons_zero, List.set_cons_succ])
        obtain ⟨b9, hb9⟩ : ∃ b9, b9 = wO.heap.size := ⟨_, rfl⟩
        rw [← hb9] at BX HB9 ⊢
        clear hb9
        generalize wO.alloc (.cells #[.int .i64 m.a, .int .i64 m.b, .int .i64 m.c] 106) = wN at BX VL HB9 hHeld ⊢
        refine wpAnyH_ready (rs := [0]) (by kernel_rfl) (by simp) ?_
        refine AllReadyH.cons rfl (fun Kn hKn => ?_) AllReadyH.nil
        go_simp
        have OWN : Hid ((wN.alloc (.cells #[] 106)).ownsRow wO.heap.size 106 3 (.slice (some ⟨wN.heap.size, 0, none⟩) 0 0) 0 []) := Lib.hid (own_le (World.ownsRow_made wN #[] 0 (Nat.le_refl _) (by unfold maxLen; omega) rfl) VL.out.size)
        have BX := Lib.hid (BX.out.below (boxes1 wN (.cells #[] 106)) BX.out.lt)
        have HNE : Hid (some b9 ≠ (Value.slice (some ⟨wN.heap.size, 0, none⟩) 0 0).ownBlock) := Lib.hid (fun e => by have h9 := HB9.out; have h8 : b9 = wN.heap.size := Option.some.inj e; omega)
        have VL := Lib.hid (VL.out.alloc VL.out.size (.cells #[] 106))
        refine hKn.out _ _ ?_ (fun hHeld => ?_)
        ·(try dsimp only); exact keepR.out _ VL.out
        clear hKn Kn
        (try simp only [Act.put, List.setIfInBounds_toArray, List.set_cons_zero, List.set_cons_succ])
        obtain ⟨v0, hv0⟩ : ∃ v0, v0 = Value.slice (some ⟨wN.heap.size, 0, none⟩) 0 0 := ⟨_, rfl⟩
        rw [← hv0] at OWN HNE ⊢
        clear hv0
        generalize wN.alloc (.cells #[] 106) = wE at OWN VL BX hHeld ⊢
        refine wpAnyH_ready (rs := [4]) (by kernel_rfl) (by simp) ?_
        refine AllReadyH.cons rfl (fun Kn hKn => ?_) AllReadyH.nil
        refine step_append_own (by rfl) _ _ _ (by rfl) wO.heap.size 106 i0 _ 3 24 Tryz.underlying103 hinf hz0 hz1 hz2 rfl (by decide) v0 0 [] (by rfl) OWN.out ⟨gr, 0, none⟩ p _ (trL (R.take p)) (by rfl) HLN1.out (HN1.out _ VL.out) (trL_one _) (by unfold maxLen; omega) (by omega) VL.out.size ?_
        intro va w5 hown hgrow
        have BX := Lib.hid (BX.out.grown hgrow HNE.out)
        have VL := Lib.hid (VL.out.grown hgrow VL.out.size (fun kk e => (OWN.out.lt kk e).1))
        have OWN := Lib.hid hown
        clear hown hgrow
        refine hKn.out _ _ ?_ (fun hHeld => ?_)
        ·(try dsimp only); exact keepR.out _ VL.out
        clear hKn Kn
        (try simp only [Act.put, List.setIfInBounds_toArray, List.set_cons_zero, List.set_cons_succ])
        rw [Nat.zero_add, List.nil_append] at OWN
        obtain ⟨va4, hva4⟩ : ∃ va4, va4 = va := ⟨_, rfl⟩
        rw [← hva4] at OWN ⊢
        clear hva4
        refine wpAnyH_ready (rs := [7]) (by kernel_rfl) (by simp) ?_
        refine AllReadyH.cons rfl (fun Kn hKn => ?_) AllReadyH.nil
        refine step_append_own (by rfl) _ _ _ (by rfl) wO.heap.size 106 i0 _ 3 24 Tryz.underlying103 hinf hz0 hz1 hz2 rfl (by decide) va4 p (trL (R.take p)) (by rfl) OWN.out ⟨b9, 0, none⟩ 1 _ [.int .i64 m.a, .int .i64 m.b, .int .i64 m.c] (by rfl) (by rfl) (box3_cells BX.out) (trC_one m) (by unfold maxLen; omega) (by omega) VL.out.size ?_
        intro vb w6 hown hgrow
        have VL := Lib.hid (VL.out.grown hgrow VL.out.size (fun kk e => (OWN.out.lt kk e).1))
        have OWN := Lib.hid hown
        clear hown hgrow
        refine hKn.out _ _ ?_ (fun hHeld => ?_)
        ·(try dsimp only); exact keepR.out _ VL.out
        clear hKn Kn
        (try simp only [Act.put, List.setIfInBounds_toArray, List.set_cons_zero, List.set_cons_succ])
        refine wpAnyH_ready (rs := [11]) (by kernel_rfl) (by simp) ?_
        refine AllReadyH.cons rfl (fun Kn hKn => ?_) AllReadyH.nil
        refine step_append_own (by rfl) _ _ _ (by rfl) wO.heap.size 106 i0 _ 3 24 Tryz.underlying103 hinf hz0 hz1 hz2 rfl (by decide) vb (p + 1) (trL (R.take p) ++ trC m) (by rfl) OWN.out ad2 (N - p) _ (trL (R.drop p)) (by rfl) HLN2.out (HN2.out _ VL.out) (trL_one _) (by unfold maxLen; omega) (by omega) VL.out.size ?_
        intro vc w7 hown hgrow
        have VL := Lib.hid (VL.out.grown hgrow VL.out.size (fun kk e => (OWN.out.lt kk e).1))
        have OWN := Lib.hid hown
        clear hown hgrow
        refine hKn.out _ _ ?_ (fun hHeld => ?_)
        ·(try dsimp only); exact keepR.out _ VL.out
        clear hKn Kn
        (try simp only [Act.put, List.setIfInBounds_toArray, List.set_cons_zero, List.set_cons_succ])
        refine wpAnyH_take (i := 12) (v := ?_) rfl (by kernel_rfl) (by kernel_rfl) (by kernel_rfl) (fun _ _ _ h => h) (Or.inl ⟨by kernel_rfl, ?_⟩) (by assumption) ?_
        rotate_left
        ·(intro w0 hSw; (try dsimp only at hSw); go_simp; all_goals (with_reducible rfl))
        simp only [List.getElem_toArray, List.getElem_cons_succ, List.getElem_cons_zero, Act.put, List.setIfInBounds_toArray, List.set_cons_zero, List.set_cons_succ]
        refine wpAnyH_done (by kernel_rfl) ?_ _
        have FIN := Lib.hid (LnM.mk' OWN.out HK1.out HIN.out (HKW.out.trans (VL.out.mono HKW.out.size)) HKW.out.size (by omega))
        go_wp2
        go_roundw
        case rel => exact ⟨k + 1, R.take p ++ m :: R.drop p, by omega, by go_num, HLEN.out, FIN, HCK⟩
        case measure => simp [intOf]; omega
    ·obtain rfl : k = 2 := by omega
     have e2 : decide (((2 : Nat) : Int) < 2) = false := by simp
     have CE := Lib.hid (CK.out.congr (cov' := edgeC (S.take (i + 1))) (fun y x => by rw [HCV.out, HTK.out]; exact (cv_end _ q y x).trans (edge_app _ q y x).symm))
     clear CK
     go_wp2
     go_roundw
     case rel => exact ⟨i + 1, O, by omega, by go_num, by omega, LM, CE⟩
     case measure => simp [intOf]; omega
  ·obtain rfl : i = n := by omega
   have e1 : decide ((i : Int) < (i : Int)) = false := by simp
   obtain ⟨og, oc, rfl, _, _⟩ := LM.out.some_
   go_wp2
   go_ret
   exact ⟨_, oc, O0, rfl, by omega, CL.out.congr (fun y x => by rw [HN.out, List.take_length]), LM.out.own, LM.out.kb⟩
end Go.Proofs.YtolkchkedieppaaGreat
