/- Order of the reference: squares in order. (Printed by gen_ord.py.) -/
import Derived.Test.YtolkchkedieppaaGreatVHSame
import Derived.Test.YtolkchkedieppaaGreatVRLay
import Derived.Test.YtolkchkedieppaaGreatVNetB
import Derived.Test.YtolkchkedieppaaGreatVCurA
import Derived.Deep.RegionHeld3
import Derived.Deep.DeepCutAuto
import Derived.Deep.CutBlock
set_option linter.unusedVariables false
set_option linter.unusedSimpArgs false
namespace Go.Proofs.YtolkchkedieppaaGreat
open Go.RowKit
attribute [local go_sem ↓] Go.wp_at_zero Go.wp_at_succ
instance (p q : Tr) : Decidable (ltS p q) := by unfold ltS; infer_instance
/-- where a square goes, of the first n -/
def posT (O : List Tr) (q : Tr) : Nat → Nat
 | 0 => 0
 | n + 1 => if ltS q (O.getD n default) then posT O q n else n + 1
def insT (O : List Tr) (q : Tr) : List Tr := O.take (posT O q O.length) ++ q :: O.drop (posT O q O.length)
def ordL (S : List Tr) : Nat → List Tr
 | 0 => []
 | k + 1 => insT (ordL S k) (S.getD k default)
theorem posT_le (O : List Tr) (q : Tr) : ∀ n, posT O q n ≤ n
 | 0 => Nat.le_refl _
 | n + 1 => by have := posT_le O q n; simp only [posT]; split <;> omega
theorem insT_perm (O : List Tr) (q : Tr) : (q :: O).Perm (insT O q) := by
 unfold insT
 refine List.Perm.trans ?_ List.perm_middle.symm
 rw [List.take_append_drop]
theorem ordL_len (S : List Tr) : ∀ k, (ordL S k).length = k
 | 0 => rfl
 | k + 1 => by have := (insT_perm (ordL S k) (S.getD k default)).length_eq; simp only [ordL]; rw [← this, List.length_cons, ordL_len S k]
theorem ordL_perm (S : List Tr) : ∀ k, k ≤ S.length → (S.take k).Perm (ordL S k)
 | 0, _ => by simp [ordL]
 | k + 1, h => by
  have e : S.take (k + 1) = S.take k ++ [S.getD k default] := by rw [List.take_add_one]; simp [show k < S.length by omega]
  rw [e]
  refine List.Perm.trans ?_ (insT_perm _ _)
  exact (List.perm_append_comm).trans (List.Perm.cons _ (ordL_perm S k (by omega)))
theorem posT_spec (O : List Tr) (q : Tr) : ∀ n, n ≤ O.length → (∀ j, posT O q n ≤ j → j < n → ltS q (O.getD j default)) ∧ (0 < posT O q n → ¬ ltS q (O.getD (posT O q n - 1) default))
 | 0, _ => ⟨fun j h1 h2 => by omega, fun h => by simp [posT] at h⟩
 | n + 1, hn => by
  obtain ⟨h1, h2⟩ := posT_spec O q n (by omega)
  simp only [posT]
  by_cases e : ltS q (O.getD n default)
  ·rw [if_pos e]
   refine ⟨fun j h3 h4 => ?_, h2⟩
   by_cases e2 : j = n
   ·rw [e2]; exact e
   ·exact h1 j h3 (by omega)
  ·rw [if_neg e]
   exact ⟨fun j h3 h4 => by omega, fun _ => by rw [Nat.add_sub_cancel]; exact e⟩
theorem ltS_trans {p q r : Tr} (h1 : ¬ ltS q p) (h2 : ¬ ltS r q) : ¬ ltS r p := by unfold ltS at *; omega
theorem ltS_asymm {p q : Tr} (h : ltS p q) : ¬ ltS q p := by unfold ltS at *; omega
theorem insT_sorted {O : List Tr} {q : Tr} (h : O.Pairwise (fun a b => ¬ ltS b a)) : (insT O q).Pairwise (fun a b => ¬ ltS b a) := by
 obtain ⟨h1, h2⟩ := posT_spec O q O.length (Nat.le_refl _)
 have hp := posT_le O q O.length
 unfold insT
 generalize posT O q O.length = p at h1 h2 hp
 have hget := List.pairwise_iff_getElem.1 h
 have bef : ∀ x, x ∈ O.take p → ¬ ltS q x := fun x hx => by
  obtain ⟨j, hj, rfl⟩ := List.getElem_of_mem hx
  rw [List.length_take] at hj
  have h3 := h2 (by omega)
  rw [List.getD_eq_getElem?_getD, List.getElem?_eq_getElem (show p - 1 < O.length by omega)] at h3
  simp only [Option.getD_some] at h3
  rw [List.getElem_take]
  by_cases e : j = p - 1
  ·subst e; exact h3
  ·exact ltS_trans (hget j (p - 1) (by omega) (by omega) (by omega)) h3
 have aft : ∀ x, x ∈ O.drop p → ¬ ltS x q := fun x hx => by
  obtain ⟨j, hj, rfl⟩ := List.getElem_of_mem hx
  rw [List.length_drop] at hj
  have h3 := h1 (p + j) (by omega) (by omega)
  rw [List.getD_eq_getElem?_getD, List.getElem?_eq_getElem (show p + j < O.length by omega)] at h3
  simp only [Option.getD_some] at h3
  rw [List.getElem_drop]
  exact ltS_asymm h3
 rw [List.pairwise_append]
 refine ⟨h.sublist (List.take_sublist _ _), ?_, fun a ha b hb => ?_⟩
 ·rw [List.pairwise_cons]
  exact ⟨aft, h.sublist (List.drop_sublist _ _)⟩
 ·rcases List.mem_cons.1 hb with rfl | hb
  ·exact bef a ha
  ·exact ltS_trans (bef a ha) (aft b hb)
theorem ordL_sorted (S : List Tr) : ∀ k, (ordL S k).Pairwise (fun a b => ¬ ltS b a)
 | 0 => List.Pairwise.nil
 | k + 1 => insT_sorted (ordL_sorted S k)
theorem box3_cells {w : World} {b : Nat} {x y z : Int} (h : Box3 w b (.int .i64 x) (.int .i64 y) (.int .i64 z)) : ∀ j u, ([.int .i64 x, .int .i64 y, .int .i64 z] : List Value)[j]? = some u → w.cell? ((⟨b, 0, none⟩ : Addr).add j) = some u := fun j u hj => by
 match j, hj with
 | 0, hj => simp at hj; subst hj; simpa [Addr.add] using h.c0
 | 1, hj => simp at hj; subst hj; rw [add_at]; exact h.c1
 | 2, hj => simp at hj; subst hj; rw [add_at]; exact h.c2
theorem Box3.grown {w w' : World} {b : Nat} {x y z : Value} {row : Option Nat} (h : Box3 w b x y z) (hg : w.grownBy w' row) (hne : some b ≠ row) : Box3 w' b x y z := by
 have k : ∀ j, w'.cell? ⟨b, j, none⟩ = w.cell? ⟨b, j, none⟩ := fun j => World.cell?_of_block (hg.block b h.lt hne)
 exact ⟨(k _).trans h.c0, (k _).trans h.c1, (k _).trans h.c2, Nat.lt_of_lt_of_le h.lt hg.size⟩
theorem trL_take {P : List Tr} {k j : Nat} {u : Value} (h : (trL (P.take k))[j]? = some u) : (trL P)[j]? = some u := by
 have e : trL P = trL (P.take k) ++ trL (P.drop k) := by rw [← trL_app, List.take_append_drop]
 have hl := (List.getElem?_eq_some_iff.1 h).1
 rw [e, List.getElem?_append_left hl]; exact h
theorem trL_drop {P : List Tr} {k j : Nat} {u : Value} (hk : k ≤ P.length) (h : (trL (P.drop k))[j]? = some u) : (trL P)[k * 3 + j]? = some u := by
 have e : trL P = trL (P.take k) ++ trL (P.drop k) := by rw [← trL_app, List.take_append_drop]
 have hl : (trL (P.take k)).length = k * 3 := by rw [trL_len, List.length_take, Nat.min_eq_left hk]
 rw [e, List.getElem?_append_right (by omega), hl, show k * 3 + j - k * 3 = j by omega]; exact h
set_option maxHeartbeats 1000000 in
set_option maxRecDepth 100000 in
theorem rbef_any (p q : Tr) (r : Bool) (hr : r = true ↔ ltS p q) (w : World) :
  Calls Tryz.prog 90 #[.agg #[.int .i64 p.a, .int .i64 p.b, .int .i64 p.c], .agg #[.int .i64 q.a, .int .i64 q.b, .int .i64 q.c]] w fun e w' => e = .returned (.bool r) ∧ Below w.heap.size w w' := by
 have KB := Lib.hid (boxes2 w (.cells #[.int .i64 p.a, .int .i64 p.b, .int .i64 p.c] 47) (.cells #[.int .i64 q.a, .int .i64 q.b, .int .i64 q.c] 47))
 by_cases h1 : p.b < q.b
 ·have d1 : decide (p.b < q.b) = true := by simpa using h1
  have hr1 : r = true := hr.2 (.inl h1)
  subst hr1
  clear hr h1
  go_enter Tryz.func90, Tryz.ntmps90
  go_wp2
  go_ret
  exact ⟨rfl, KB.out⟩
 ·have d1 : decide (p.b < q.b) = false := by simpa using h1
  by_cases h2 : p.b = q.b
  ·have d2 : (p.b == q.b) = true := by simpa using h2
   by_cases h3 : p.a < q.a
   ·have d3 : decide (p.a < q.a) = true := by simpa using h3
    have hr1 : r = true := hr.2 (.inr ⟨h2, h3⟩)
    subst hr1
    clear hr h1 h2 h3
    go_enter Tryz.func90, Tryz.ntmps90
    go_wp2
    go_ret
    exact ⟨rfl, KB.out⟩
   ·have d3 : decide (p.a < q.a) = false := by simpa using h3
    have hr1 : r = false := by
     rcases r with _ | _
     ·rfl
     ·have := hr.1 rfl; unfold ltS at this; omega
    subst hr1
    clear hr h1 h2 h3
    go_enter Tryz.func90, Tryz.ntmps90
    go_wp2
    go_ret
    exact ⟨rfl, KB.out⟩
  ·have d2 : (p.b == q.b) = false := by simpa using h2
   have hr1 : r = false := by
    rcases r with _ | _
    ·rfl
    ·have := hr.1 rfl; unfold ltS at this; omega
   subst hr1
   clear hr h1 h2
   go_enter Tryz.func90, Tryz.ntmps90
   go_wp2
   go_ret
   exact ⟨rfl, KB.out⟩
/-- what Order holds -/
structure OrdM (w wx : World) (vo : Value) (O : List Tr) : Prop where
 own : wx.ownsRow w.heap.size 47 3 vo O.length (trL O)
 some_ : ∃ g c, vo = .slice (some ⟨g, 0, none⟩) O.length c ∧ w.heap.size ≤ g ∧ g < wx.heap.size
 kb : Below w.heap.size w wx
theorem OrdM.mk' {w w7 : World} {base m : Nat} {v : Value} {xs : List Value} {O : List Tr} (h : w7.ownsRow base 47 3 v m xs) (hm : m = O.length) (hx : xs = trL O) (hb : Below w.heap.size w w7) (hle : w.heap.size ≤ base) (hp : 0 < m := by omega) : OrdM w w7 v O := by
 subst hm hx
 refine ⟨own_le h hle, ?_, hb⟩
 rcases h.2 with ⟨_, e⟩ | ⟨g, cap, cur, hv, hbg, hg, _⟩
 ·omega
 ·exact ⟨g, cap, hv, Nat.le_trans hle hbg, (Array.getElem?_eq_some_iff.1 hg).1⟩
set_option maxHeartbeats 8000000 in
set_option maxRecDepth 100000 in
theorem rorder_any (v : Value) (S : List Tr) (w : World) (hv : SqV w v S) (hn : S.length ≤ 1000) :
  Calls Tryz.prog 32 #[v] w fun e w' => ∃ va vk, e = .returned (.slice va S.length vk) ∧ w'.ownsRow w.heap.size 47 3 (.slice va S.length vk) S.length (trL (ordL S S.length)) ∧ Below w.heap.size w w' := by
 obtain ⟨a1, c1, rfl, k1⟩ := hv.ex
 have K1 := Lib.hid k1
 clear hv k1
 obtain ⟨n, hN⟩ : ∃ n, n = S.length := ⟨_, rfl⟩
 rw [← hN] at K1 hn ⊢
 have HN := Lib.hid hN
 clear hN
 obtain ⟨i0, hinf, hz0, hz1, hz2⟩ := info_parts infoSq
 go_enter Tryz.func32, Tryz.ntmps32
 go_wp2
 have OM0 : Hid (OrdM w (w.alloc (.cells #[] 47)) (.slice (some ⟨w.heap.size, 0, none⟩) 0 0) (ordL S 0)) := Lib.hid ⟨World.ownsRow_made w #[] 0 (Nat.le_refl _) (by unfold maxLen; omega) rfl, ⟨_, _, rfl, Nat.le_refl _, by simp⟩, boxes1 _ _⟩
 go_loopw [3, 4, 5] (fun v3 v4 v5 wr => ∃ i : Nat, i ≤ n ∧ v4 = .int .i64 (i : Nat) ∧ Hid (OrdM w wr v3 (ordL S i))) (fun _ v4 _ _ => n - (intOf v4).toNat)
 case atStart => exact ⟨0, by omega, rfl, OM0⟩
 case round =>
  clear OM0
  obtain ⟨i, hi, rfl, OM⟩ := hrel
  by_cases h : i < n
  ·have e1 : decide ((i : Int) < (n : Int)) = true := by simpa using h
   have e1n : decide (i < n) = true := by simpa using h
   obtain ⟨g1, o1, rfl, r1, l1⟩ := K1.out (by omega)
   have hOl := ordL_len S i
   have hstep : ordL S (i + 1) = insT (ordL S i) (S.getD i default) := rfl
   obtain ⟨O, hO⟩ : ∃ O, O = ordL S i := ⟨_, rfl⟩
   rw [← hO] at OM hOl hstep
   have hq3 : ∀ wx, Below w.heap.size w wx → wx.cell? ⟨g1, o1 + i * 3, none⟩ = some (.int .i64 (S.getD i default).a) ∧ wx.cell? ⟨g1, o1 + i * 3 + 1, none⟩ = some (.int .i64 (S.getD i default).b) ∧ wx.cell? ⟨g1, o1 + i * 3 + 2, none⟩ = some (.int .i64 (S.getD i default).c) := fun wx hb =>
    ⟨(r1.below hb l1).c0 i (by rw [← HN.out]; exact h), (r1.below hb l1).c1 i (by rw [← HN.out]; exact h), (r1.below hb l1).c2 i (by rw [← HN.out]; exact h)⟩
   obtain ⟨q, hq⟩ : ∃ q, q = S.getD i default := ⟨_, rfl⟩
   rw [← hq] at hstep hq3
   have HQ3 := Lib.hid hq3
   have HST := Lib.hid hstep
   have ixl := fun X => ixSqo g1 o1 n c1 i h X
   obtain ⟨og, oc, rfl, hog, hol⟩ := OM.out.some_
   have TR := Lib.hid (show TrR wr og 0 O from trR_own OM.out.own)
   rw [hOl] at OM ⊢
   have HOL := Lib.hid hOl
   have HLT := Lib.hid hol
   have HKB := Lib.hid OM.out.kb
   clear hO hq hstep hq3 r1 l1 hOl
   go_upto_block 2 with (fail)
   have VB0 := Lib.hid (Below.refl wr.heap.size wr)
   obtain ⟨wb, hwb⟩ : ∃ wb : World, wb = wr := ⟨_, rfl⟩
   rw [← hwb] at TR HLT HKB VB0 OM
   go_cut [5] from 15 to 30 (fun v5 wx => v5 = .int .i64 (posT O q i : Nat) ∧ Hid (Below wb.heap.size wb wx))
   case first =>
    go_wp2
    have PK0 : Hid (posT O q i = posT O q i) := Lib.hid rfl
    go_loopw [5] (fun v5 wi => ∃ k : Nat, k ≤ i ∧ v5 = .int .i64 (k : Nat) ∧ Hid (posT O q i = posT O q k) ∧ Hid (Below wb.heap.size wb wi)) (fun v5 _ => (intOf v5).toNat)
    case atStart => exact ⟨i, Nat.le_refl _, rfl, PK0, by rw [← hwb]; exact VB0⟩
    case round =>
     clear PK0 VB0 hwb
     obtain ⟨k, hk, rfl, PK, VB⟩ := hrel
     have TRk := Lib.hid (TR.out.below VB.out HLT.out)
     have HKBk := Lib.hid (HKB.out.trans (VB.out.mono HKB.out.size))
     have hcut : ¬ (0 < k ∧ ltS q (O.getD (k - 1) default)) → posT O q i = k := fun hn => by
      rw [PK.out]
      match k, hn with
      | 0, _ => rfl
      | m + 1, hn =>
       simp only [posT]
       rw [if_neg (fun e => hn ⟨by omega, by simpa using e⟩)]
     have HCUT := Lib.hid hcut
     clear hcut
     by_cases hk0 : 0 < k
     ·have e2 : decide ((0 : Int) < (k : Int)) = true := by simp; omega
      have e2n : decide (0 < k) = true := by simpa using hk0
      have w1 : IntKind.i64.wrap ((k : Int) - 1) = (k : Int) - 1 := by rw [IntKind.wrap_i64]; omega
      have hkc : (k : Int) - 1 = ((k - 1 : Nat) : Int) := by omega
      have ixk : ∀ X, (Instr.indexAt 23 (.slice (some ⟨og, 0, none⟩) i oc) (.int .i64 ((k : Int) - 1))).run Tryz.prog X = .ok (.pointer (some ⟨og, (k - 1) * 3, none⟩)) X := fun X => by
       rw [hkc]
       have := ixSqo og 0 i oc (k - 1) (by omega) X
       rw [Nat.zero_add] at this
       exact this
      have x0 := TRk.out.c0 (k - 1) (by have := HOL.out; omega)
      have x1 := TRk.out.c1 (k - 1) (by have := HOL.out; omega)
      have x2 := TRk.out.c2 (k - 1) (by have := HOL.out; omega)
      obtain ⟨z0, z1, z2⟩ := HQ3.out _ HKBk.out
      simp only [Nat.zero_add] at x0 x1 x2
      have hpk : posT O q k = if ltS q (O.getD (k - 1) default) then posT O q (k - 1) else k := by
       match k, hk0 with
       | m + 1, _ => simp only [posT, Nat.add_sub_cancel]
      obtain ⟨p, hp⟩ : ∃ p, p = O.getD (k - 1) default := ⟨_, rfl⟩
      rw [← hp] at x0 x1 x2 hpk HCUT
      have HPK := Lib.hid hpk
      clear hkc hp hpk
      have KEEP : Hid (∀ w', Below wr.heap.size wr w' → (w'.cell? ⟨g1, o1 + i * 3, none⟩ = some (.int .i64 q.a) ∧ w'.cell? ⟨g1, o1 + i * 3 + 1, none⟩ = some (.int .i64 q.b) ∧ w'.cell? ⟨g1, o1 + i * 3 + 2, none⟩ = some (.int .i64 q.c) ∧ w'.cell? ⟨og, (k - 1) * 3, none⟩ = some (.int .i64 p.a) ∧ w'.cell? ⟨og, (k - 1) * 3 + 1, none⟩ = some (.int .i64 p.b) ∧ w'.cell? ⟨og, (k - 1) * 3 + 2, none⟩ = some (.int .i64 p.c))) := Lib.hid (fun w' hb => by
       obtain ⟨y0, y1, y2⟩ := HQ3.out w' (HKBk.out.trans (hb.mono HKBk.out.size))
       have hol2 := Nat.lt_of_lt_of_le HLT.out VB.out.size
       exact ⟨y0, y1, y2, bel1 hb x0 hol2, bel1 hb x1 hol2, bel1 hb x2 hol2⟩)
      have VL0 := Lib.hid (Below.refl wr.heap.size wr).drew
      clear x0 x1 x2 z0 z1 z2
      by_cases hlt : ltS q p
      ·have HR : Hid (ltS q p) := Lib.hid hlt
       have HPK2 : Hid (posT O q i = posT O q (k - 1)) := Lib.hid (by rw [PK.out, HPK.out, if_pos hlt])
       clear hlt
       go_wp2
       go_region_held3 (fun w' => w'.cell? ⟨g1, o1 + i * 3, none⟩ = some (.int .i64 q.a) ∧ w'.cell? ⟨g1, o1 + i * 3 + 1, none⟩ = some (.int .i64 q.b) ∧ w'.cell? ⟨g1, o1 + i * 3 + 2, none⟩ = some (.int .i64 q.c) ∧ w'.cell? ⟨og, (k - 1) * 3, none⟩ = some (.int .i64 p.a) ∧ w'.cell? ⟨og, (k - 1) * 3 + 1, none⟩ = some (.int .i64 p.b) ∧ w'.cell? ⟨og, (k - 1) * 3 + 2, none⟩ = some (.int .i64 p.c))
        (first | (with_reducible exact KEEP.out _ VL0.out) | (with_reducible exact KEEP.out _ VL1.out))
        (first
        | (go_at_call 90; (with_reducible refine (rbef_any q p true ⟨fun _ => HR.out, fun _ => rfl⟩ _).mono ?_); rintro e wx ⟨rfl, hbx⟩; have VL1 := Lib.hid (VL0.out.trans (hbx.mono VL0.out.size)); clear hbx))
       all_goals
        go_wp2
        go_roundw
        case rel => exact ⟨k - 1, by omega, by go_num, HPK2, Lib.hid (VB.out.trans (VL1.out.mono VB.out.size))⟩
        case measure => simp [intOf]; omega
      ·have HR : Hid (¬ ltS q p) := Lib.hid hlt
       have HPOS : Hid (posT O q i = k) := Lib.hid (HCUT.out (fun e => hlt e.2))
       clear hlt
       go_wp2
       go_region_held3 (fun w' => w'.cell? ⟨g1, o1 + i * 3, none⟩ = some (.int .i64 q.a) ∧ w'.cell? ⟨g1, o1 + i * 3 + 1, none⟩ = some (.int .i64 q.b) ∧ w'.cell? ⟨g1, o1 + i * 3 + 2, none⟩ = some (.int .i64 q.c) ∧ w'.cell? ⟨og, (k - 1) * 3, none⟩ = some (.int .i64 p.a) ∧ w'.cell? ⟨og, (k - 1) * 3 + 1, none⟩ = some (.int .i64 p.b) ∧ w'.cell? ⟨og, (k - 1) * 3 + 2, none⟩ = some (.int .i64 p.c))
        (first | (with_reducible exact KEEP.out _ VL0.out) | (with_reducible exact KEEP.out _ VL1.out))
        (first
        | (go_at_call 90; (with_reducible refine (rbef_any q p false ⟨fun h => Bool.noConfusion h, fun h => absurd h HR.out⟩ _).mono ?_); rintro e wx ⟨rfl, hbx⟩; have VL1 := Lib.hid (VL0.out.trans (hbx.mono VL0.out.size)); clear hbx))
       all_goals
        go_wp2
        go_meet
        case rel => exact ⟨by rw [HPOS.out], Lib.hid (VB.out.trans (VL1.out.mono VB.out.size))⟩
     ·have hk00 : k = 0 := by omega
      have e2 : decide ((0 : Int) < (k : Int)) = false := by simp; omega
      have e2n : decide (0 < k) = false := by simp; omega
      have HPOS : Hid (posT O q i = k) := Lib.hid (HCUT.out (fun e => hk0 e.1))
      clear hk0 hk00
      go_wp2
      go_region
      all_goals
       go_wp2
       go_meet
       case rel => exact ⟨by rw [HPOS.out], Lib.hid VB.out.drew⟩
   case rest =>
   obtain ⟨rfl, VB⟩ := hcut
   have hkle := posT_le O q i
   have HIN : Hid (trL (O.take (posT O q i)) ++ trC q ++ trL (O.drop (posT O q i)) = trL (ordL S (i + 1))) := Lib.hid (by
    rw [HST.out, insT, HOL.out, trL_app, List.append_assoc]; rfl)
   obtain ⟨k, hk⟩ : ∃ k, k = posT O q i := ⟨_, rfl⟩
   rw [← hk] at hkle HIN ⊢
   clear hk
   have HLN1 := Lib.hid (show (trL (O.take k)).length = k * 3 by rw [trL_len, List.length_take, HOL.out, Nat.min_eq_left hkle])
   have HLN2 := Lib.hid (show (trL (O.drop k)).length = (i - k) * 3 by rw [trL_len, List.length_drop, HOL.out])
   have hwcD : ∀ x : World, True := fun _ => trivial
   clear hwcD
   obtain ⟨wO, hwO⟩ : ∃ x : World, x = wc.drew := ⟨_, rfl⟩
   have VB2 := Lib.hid (show Below wb.heap.size wb wO by rw [hwO]; exact VB.out.drew)
   have HWO := Lib.hid hwO
   clear hwO
   have hoc : i ≤ oc := by
    rcases OM.out.own.2 with ⟨_, e⟩ | ⟨gg, cap, cur, hv, _, _, hc, _⟩
    ·have := OM.out.own.1; have := HOL.out; omega
    ·injection hv with e1 e2 e3; have := HOL.out; omega
   have hsz := sliced_zero
   obtain ⟨ad2, had2⟩ : ∃ ad2 : Addr, ad2 = if oc = k then ⟨og, 0, none⟩ else ⟨og, k * 3, none⟩ := ⟨_, rfl⟩
   have hsl : sliced (some ⟨og, 0, none⟩) k i oc 3 = .slice (some ad2) (i - k) (oc - k) := by
    rw [had2]; unfold sliced
    by_cases e : oc = k
    ·rw [if_pos e, if_pos e]
    ·rw [if_neg e, if_neg e, Option.map_some, add_at, Nat.zero_add]
   have HN2 : Hid (∀ wx, Below wO.heap.size wO wx → ∀ j u, (trL (O.drop k))[j]? = some u → wx.cell? (ad2.add j) = some u) := Lib.hid (fun wx hb j u hj => by
    have hj2 := trL_drop (by rw [HOL.out]; exact hkle) hj
    have hjl := (List.getElem?_eq_some_iff.1 hj).1
    rw [HLN2.out] at hjl
    have hne : ¬ oc = k := by omega
    rw [had2, if_neg hne, add_at]
    have h3 := trR_news (TR.out.below (VB2.out.trans (hb.mono VB2.out.size)) HLT.out) (k * 3 + j) u hj2
    rw [add_at, Nat.zero_add] at h3
    exact h3)
   have HN1 : Hid (∀ wx, Below wO.heap.size wO wx → ∀ j u, (trL (O.take k))[j]? = some u → wx.cell? ((⟨og, 0, none⟩ : Addr).add j) = some u) := Lib.hid (fun wx hb j u hj =>
    trR_news (TR.out.below (VB2.out.trans (hb.mono VB2.out.size)) HLT.out) j u (trL_take hj))
   have hif : (if oc = k then some (⟨og, 0, none⟩ : Addr) else some ⟨og, k * 3, none⟩) = some ad2 := by rw [had2]; split <;> rfl
   have hkoc : k ≤ oc := by omega
   clear had2
   have keepR : Hid (∀ w', Below wO.heap.size wO w' → w'.cell? ⟨g1, o1 + i * 3, none⟩ = some (.int .i64 q.a) ∧ w'.cell? ⟨g1, o1 + i * 3 + 1, none⟩ = some (.int .i64 q.b) ∧ w'.cell? ⟨g1, o1 + i * 3 + 2, none⟩ = some (.int .i64 q.c)) := Lib.hid (fun w' hb => HQ3.out w' (HKB.out.trans ((VB2.out.trans (hb.mono VB2.out.size)).mono HKB.out.size)))
   have VL := Lib.hid (Below.refl wO.heap.size wO)
   have HKW := Lib.hid (HKB.out.trans (VB2.out.mono HKB.out.size))
   have HK1 : Hid (k + 1 + (i - k) = (ordL S (i + 1)).length) := Lib.hid (by rw [ordL_len]; omega)
   go_wp2
   refine wp_region_held_drew (S := fun w' => w'.cell? ⟨g1, o1 + i * 3, none⟩ = some (.int .i64 q.a) ∧ w'.cell? ⟨g1, o1 + i * 3 + 1, none⟩ = some (.int .i64 q.b) ∧ w'.cell? ⟨g1, o1 + i * 3 + 2, none⟩ = some (.int .i64 q.c)) (by kernel_rfl) (by rw [← HWO.out]; exact keepR.out _ VL.out) (fun hHeld => ?_)
   rw [← HWO.out] at hHeld ⊢
   refine wpAnyH_take (i := 1) (v := ?_) rfl (by kernel_rfl) (by kernel_rfl) (by kernel_rfl) (fun _ _ _ h => h) (Or.inl ⟨by kernel_rfl, ?_⟩) (by assumption) ?_
   rotate_left
   ·(intro w0 hSw; (try dsimp only at hSw); go_simp; all_goals (with_reducible rfl))
   simp only [Act.put, List.setIfInBounds_toArray, List.set_cons_zero, List.set_cons_succ]
   refine wpAnyH_take (i := 2) (v := ?_) rfl (by kernel_rfl) (by kernel_rfl) (by kernel_rfl) (fun _ _ _ h => h) (Or.inl ⟨by kernel_rfl, ?_⟩) (by assumption) ?_
   rotate_left
   ·(intro w0 hSw; (try dsimp only at hSw); go_simp; all_goals (with_reducible rfl))
   simp only [Act.put, List.setIfInBounds_toArray, List.set_cons_zero, List.set_cons_succ]
   refine wpAnyH_take (i := 3) (v := ?_) rfl (by kernel_rfl) (by kernel_rfl) (by kernel_rfl) (fun _ _ _ h => h) (Or.inl ⟨by kernel_rfl, ?_⟩) (by assumption) ?_
   rotate_left
   ·(intro w0 hSw; (try dsimp only at hSw); go_simp; all_goals (with_reducible rfl))
   simp only [Act.put, List.setIfInBounds_toArray, List.set_cons_zero, List.set_cons_succ]
   refine wpAnyH_take (i := 5) (v := ?_) rfl (by kernel_rfl) (by kernel_rfl) (by kernel_rfl) (fun _ _ _ h => h) (Or.inl ⟨by kernel_rfl, ?_⟩) (by assumption) ?_
   rotate_left
   ·(intro w0 hSw; (try dsimp only at hSw); go_simp; all_goals (with_reducible rfl))
   simp only [Act.put, List.setIfInBounds_toArray, List.set_cons_zero, List.set_cons_succ]
   refine wpAnyH_take (i := 6) (v := ?_) rfl (by kernel_rfl) (by kernel_rfl) (by kernel_rfl) (fun _ _ _ h => h) (Or.inl ⟨by kernel_rfl, ?_⟩) (by assumption) ?_
   rotate_left
   ·(intro w0 hSw; (try dsimp only at hSw); go_simp; all_goals (with_reducible rfl))
   simp only [Act.put, List.setIfInBounds_toArray, List.set_cons_zero, List.set_cons_succ]
   refine wpAnyH_take (i := 7) (v := ?_) rfl (by kernel_rfl) (by kernel_rfl) (by kernel_rfl) (fun _ _ _ h => h) (Or.inl ⟨by kernel_rfl, ?_⟩) (by assumption) ?_
   rotate_left
   ·(intro w0 hSw; (try dsimp only at hSw); go_simp; all_goals (with_reducible rfl))
   simp only [Act.put, List.setIfInBounds_toArray, List.set_cons_zero, List.set_cons_succ]
   refine wpAnyH_take (i := 8) (v := ?_) rfl (by kernel_rfl) (by kernel_rfl) (by kernel_rfl) (fun _ _ _ h => h) (Or.inl ⟨by kernel_rfl, ?_⟩) (by assumption) ?_
   rotate_left
   ·(intro w0 hSw; (try dsimp only at hSw); go_simp; all_goals (with_reducible rfl))
   simp only [Act.put, List.setIfInBounds_toArray, List.set_cons_zero, List.set_cons_succ]
   refine wpAnyH_take (i := 11) (v := ?_) rfl (by kernel_rfl) (by kernel_rfl) (by kernel_rfl) (fun _ _ _ h => h) (Or.inl ⟨by kernel_rfl, ?_⟩) (by assumption) ?_
   rotate_left
   ·(intro w0 hSw; (try dsimp only at hSw); go_simp; all_goals (with_reducible rfl))
   simp only [Act.put, List.setIfInBounds_toArray, List.set_cons_zero, List.set_cons_succ]
   refine wpAnyH_take (i := 12) (v := ?_) rfl (by kernel_rfl) (by kernel_rfl) (by kernel_rfl) (fun _ _ _ h => h) (Or.inl ⟨by kernel_rfl, ?_⟩) (by assumption) ?_
   rotate_left
   ·(intro w0 hSw; (try dsimp only at hSw); go_simp; all_goals (with_reducible rfl))
   simp only [Act.put, List.setIfInBounds_toArray, List.set_cons_zero, List.set_cons_succ]
   refine wpAnyH_take (i := 13) (v := ?_) rfl (by kernel_rfl) (by kernel_rfl) (by kernel_rfl) (fun _ _ _ h => h) (Or.inl ⟨by kernel_rfl, ?_⟩) (by assumption) ?_
   rotate_left
   ·(intro w0 hSw; (try dsimp only at hSw); go_simp; all_goals (with_reducible rfl))
   simp only [Act.put, List.setIfInBounds_toArray, List.set_cons_zero, List.set_cons_succ]
   refine wpAnyH_ready (rs := [0, 9]) (by kernel_rfl) (by simp) ?_
   refine AllReadyH.cons rfl (fun Kn hKn => ?_) (AllReadyH.cons rfl (fun Kn hKn => ?_) AllReadyH.nil)
   ·go_simp
    have OWN : Hid ((wO.alloc (.cells #[] 47)).ownsRow wO.heap.size 47 3 (.slice (some ⟨wO.heap.size, 0, none⟩) 0 0) 0 []) := Lib.hid (own_le (World.ownsRow_made wO #[] 0 (Nat.le_refl _) (by unfold maxLen; omega) rfl) VL.out.size)
    have VL := Lib.hid (VL.out.alloc VL.out.size (.cells #[] 47))
    refine hKn.out _ _ ?_ (fun hHeld => ?_)
    ·(try dsimp only); exact keepR.out _ VL.out
    clear hKn Kn
    (try simp only [Act.put, List.setIfInBounds_toArray, List.set_cons_zero, List.set_cons_succ])
    obtain ⟨v0, hv0⟩ : ∃ v0, v0 = Value.slice (some ⟨wO.heap.size, 0, none⟩) 0 0 := ⟨_, rfl⟩
    rw [← hv0] at OWN ⊢
    clear hv0
    generalize wO.alloc (.cells #[] 47) = wE at OWN VL hHeld ⊢
    refine wpAnyH_ready (rs := [4, 9]) (by kernel_rfl) (by simp) ?_
    refine AllReadyH.cons rfl (fun Kn hKn => ?_) (AllReadyH.cons rfl (fun Kn hKn => ?_) AllReadyH.nil)
    ·refine step_append_own (by rfl) _ _ _ (by rfl) wO.heap.size 47 i0 _ 3 24 Tryz.underlying23 hinf hz0 hz1 hz2 rfl (by decide) v0 0 [] (by rfl) OWN.out ⟨og, 0, none⟩ k _ (trL (O.take k)) (by rfl) HLN1.out (HN1.out _ VL.out) (trL_one _) (by unfold maxLen; omega) (by omega) VL.out.size ?_
     intro va w5 hown hgrow
     have VL := Lib.hid (VL.out.grown hgrow VL.out.size (fun kk e => (OWN.out.lt kk e).1))
     have OWN := Lib.hid hown
     clear hown hgrow
     refine hKn.out _ _ ?_ (fun hHeld => ?_)
     ·(try dsimp only); exact keepR.out _ VL.out
     clear hKn Kn
     (try simp only [Act.put, List.setIfInBounds_toArray, List.set_cons_zero, List.set_cons_succ])
     rw [Nat.zero_add, List.nil_append] at OWN
     obtain ⟨va4, hva4⟩ : ∃ va4, va4 = va := ⟨_, rfl⟩
     rw [← hva4] at OWN ⊢
     clear hva4
     obtain ⟨v0, hv0⟩ : ∃ v0, v0 = va4 := ⟨_, rfl⟩
     rw [← hv0] at OWN
     refine wpAnyH_ready (rs := [9]) (by kernel_rfl) (by simp) ?_
     refine AllReadyH.cons rfl (fun Kn hKn => ?_) AllReadyH.nil
     go_simp
     have BX := Lib.hid (box3_new w5 (.int .i64 q.a) (.int .i64 q.b) (.int .i64 q.c) 47)
     have HB9 : Hid (w5.heap.size < (w5.alloc (.cells #[.int .i64 q.a, .int .i64 q.b, .int .i64 q.c] 47)).heap.size) := Lib.hid (by simp)
     have HNE : Hid (some w5.heap.size ≠ v0.ownBlock) := Lib.hid (fun e => by have := (OWN.out.lt _ e.symm).2; omega)
     have OWN := Lib.hid (OWN.out.alloc (.cells #[.int .i64 q.a, .int .i64 q.b, .int .i64 q.c] 47))
     have VL := Lib.hid (VL.out.alloc VL.out.size (.cells #[.int .i64 q.a, .int .i64 q.b, .int .i64 q.c] 47))
     refine hKn.out _ _ ?_ (fun hHeld => ?_)
     ·(try dsimp only); exact keepR.out _ VL.out
     clear hKn Kn
     (try simp only [Act.put, List.setIfInBounds_toArray, List.set_cons_zero, List.set_cons_succ])
     obtain ⟨b9, hb9⟩ : ∃ b9, b9 = w5.heap.size := ⟨_, rfl⟩
     rw [← hb9] at BX HB9 HNE ⊢
     clear hb9
     generalize w5.alloc (.cells #[.int .i64 q.a, .int .i64 q.b, .int .i64 q.c] 47) = wN at BX VL HB9 OWN hHeld ⊢
     rw [hv0] at OWN
     refine wpAnyH_ready (rs := [10]) (by kernel_rfl) (by simp) ?_
     refine AllReadyH.cons rfl (fun Kn hKn => ?_) AllReadyH.nil
     refine step_append_own (by rfl) _ _ _ (by rfl) wO.heap.size 47 i0 _ 3 24 Tryz.underlying23 hinf hz0 hz1 hz2 rfl (by decide) va4 k (trL (O.take k)) (by rfl) OWN.out ⟨b9, 0, none⟩ 1 _ [.int .i64 q.a, .int .i64 q.b, .int .i64 q.c] (by rfl) (by rfl) (box3_cells BX.out) (trC_one q) (by unfold maxLen; omega) (by omega) VL.out.size ?_
     intro vb w6 hown hgrow
     have VL := Lib.hid (VL.out.grown hgrow VL.out.size (fun kk e => (OWN.out.lt kk e).1))
     have OWN := Lib.hid hown
     clear hown hgrow
     refine hKn.out _ _ ?_ (fun hHeld => ?_)
     ·(try dsimp only); exact keepR.out _ VL.out
     clear hKn Kn
     (try simp only [Act.put, List.setIfInBounds_toArray, List.set_cons_zero, List.set_cons_succ])
     refine wpAnyH_ready (rs := [14]) (by kernel_rfl) (by simp) ?_
     refine AllReadyH.cons rfl (fun Kn hKn => ?_) AllReadyH.nil
     refine step_append_own (by rfl) _ _ _ (by rfl) wO.heap.size 47 i0 _ 3 24 Tryz.underlying23 hinf hz0 hz1 hz2 rfl (by decide) vb (k + 1) (trL (O.take k) ++ trC q) (by rfl) OWN.out ad2 (i - k) _ (trL (O.drop k)) (by rfl) HLN2.out (HN2.out _ VL.out) (trL_one _) (by unfold maxLen; omega) (by omega) VL.out.size ?_
     intro vc w7 hown hgrow
     have VL := Lib.hid (VL.out.grown hgrow VL.out.size (fun kk e => (OWN.out.lt kk e).1))
     have OWN := Lib.hid hown
     clear hown hgrow
     refine hKn.out _ _ ?_ (fun hHeld => ?_)
     ·(try dsimp only); exact keepR.out _ VL.out
     clear hKn Kn
     (try simp only [Act.put, List.setIfInBounds_toArray, List.set_cons_zero, List.set_cons_succ])
     refine wpAnyH_take (i := 15) (v := ?_) rfl (by kernel_rfl) (by kernel_rfl) (by kernel_rfl) (fun _ _ _ h => h) (Or.inl ⟨by kernel_rfl, ?_⟩) (by assumption) ?_
     rotate_left
     ·(intro w0 hSw; (try dsimp only at hSw); go_simp; all_goals (with_reducible rfl))
     simp only [List.getElem_toArray, List.getElem_cons_succ, List.getElem_cons_zero, Act.put, List.setIfInBounds_toArray, List.set_cons_zero, List.set_cons_succ]
     refine wpAnyH_done (by kernel_rfl) ?_ _
     have FIN := Lib.hid (OrdM.mk' OWN.out HK1.out HIN.out (HKW.out.trans (VL.out.mono HKW.out.size)) HKW.out.size)
     go_wp2
     go_roundw
     case rel => exact ⟨i + 1, by omega, by go_num, FIN⟩
     case measure => simp [intOf]; omega
    ·go_simp
     have BX := Lib.hid (box3_new wE (.int .i64 q.a) (.int .i64 q.b) (.int .i64 q.c) 47)
     have HB9 : Hid (wE.heap.size < (wE.alloc (.cells #[.int .i64 q.a, .int .i64 q.b, .int .i64 q.c] 47)).heap.size) := Lib.hid (by simp)
     have HNE : Hid (some wE.heap.size ≠ v0.ownBlock) := Lib.hid (fun e => by have := (OWN.out.lt _ e.symm).2; omega)
     have OWN := Lib.hid (OWN.out.alloc (.cells #[.int .i64 q.a, .int .i64 q.b, .int .i64 q.c] 47))
     have VL := Lib.hid (VL.out.alloc VL.out.size (.cells #[.int .i64 q.a, .int .i64 q.b, .int .i64 q.c] 47))
     refine hKn.out _ _ ?_ (fun hHeld => ?_)
     ·(try dsimp only); exact keepR.out _ VL.out
     clear hKn Kn
     (try simp only [Act.put, List.setIfInBounds_toArray, List.set_cons_zero, List.set_cons_succ])
     obtain ⟨b9, hb9⟩ : ∃ b9, b9 = wE.heap.size := ⟨_, rfl⟩
     rw [← hb9] at BX HB9 HNE ⊢
     clear hb9
     generalize wE.alloc (.cells #[.int .i64 q.a, .int .i64 q.b, .int .i64 q.c] 47) = wN at BX VL HB9 OWN hHeld ⊢
     refine wpAnyH_ready (rs := [4]) (by kernel_rfl) (by simp) ?_
     refine AllReadyH.cons rfl (fun Kn hKn => ?_) AllReadyH.nil
     refine step_append_own (by rfl) _ _ _ (by rfl) wO.heap.size 47 i0 _ 3 24 Tryz.underlying23 hinf hz0 hz1 hz2 rfl (by decide) v0 0 [] (by rfl) OWN.out ⟨og, 0, none⟩ k _ (trL (O.take k)) (by rfl) HLN1.out (HN1.out _ VL.out) (trL_one _) (by unfold maxLen; omega) (by omega) VL.out.size ?_
     intro va w5 hown hgrow
     have BX := Lib.hid (BX.out.grown hgrow HNE.out)
     have VL := Lib.hid (VL.out.grown hgrow VL.out.size (fun kk e => (OWN.out.lt kk e).1))
     have OWN := Lib.hid hown
     clear hown hgrow
     refine hKn.out _ _ ?_ (fun hHeld => ?_)
     ·(try dsimp only); exact keepR.out _ VL.out
     clear hKn Kn
     (try simp only [Act.put, List.setIfInBounds_toArray, List.set_cons_zero, List.set_cons_succ])
     rw [Nat.zero_add, List.nil_append] at OWN
     obtain ⟨va4, hva4⟩ : ∃ va4, va4 = va := ⟨_, rfl⟩
     rw [← hva4] at OWN ⊢
     clear hva4
     refine wpAnyH_ready (rs := [10]) (by kernel_rfl) (by simp) ?_
     refine AllReadyH.cons rfl (fun Kn hKn => ?_) AllReadyH.nil
     refine step_append_own (by rfl) _ _ _ (by rfl) wO.heap.size 47 i0 _ 3 24 Tryz.underlying23 hinf hz0 hz1 hz2 rfl (by decide) va4 k (trL (O.take k)) (by rfl) OWN.out ⟨b9, 0, none⟩ 1 _ [.int .i64 q.a, .int .i64 q.b, .int .i64 q.c] (by rfl) (by rfl) (box3_cells BX.out) (trC_one q) (by unfold maxLen; omega) (by omega) VL.out.size ?_
     intro vb w6 hown hgrow
     have VL := Lib.hid (VL.out.grown hgrow VL.out.size (fun kk e => (OWN.out.lt kk e).1))
     have OWN := Lib.hid hown
     clear hown hgrow
     refine hKn.out _ _ ?_ (fun hHeld => ?_)
     ·(try dsimp only); exact keepR.out _ VL.out
     clear hKn Kn
     (try simp only [Act.put, List.setIfInBounds_toArray, List.set_cons_zero, List.set_cons_succ])
     refine wpAnyH_ready (rs := [14]) (by kernel_rfl) (by simp) ?_
     refine AllReadyH.cons rfl (fun Kn hKn => ?_) AllReadyH.nil
     refine step_append_own (by rfl) _ _ _ (by rfl) wO.heap.size 47 i0 _ 3 24 Tryz.underlying23 hinf hz0 hz1 hz2 rfl (by decide) vb (k + 1) (trL (O.take k) ++ trC q) (by rfl) OWN.out ad2 (i - k) _ (trL (O.drop k)) (by rfl) HLN2.out (HN2.out _ VL.out) (trL_one _) (by unfold maxLen; omega) (by omega) VL.out.size ?_
     intro vc w7 hown hgrow
     have VL := Lib.hid (VL.out.grown hgrow VL.out.size (fun kk e => (OWN.out.lt kk e).1))
     have OWN := Lib.hid hown
     clear hown hgrow
     refine hKn.out _ _ ?_ (fun hHeld => ?_)
     ·(try dsimp only); exact keepR.out _ VL.out
     clear hKn Kn
     (try simp only [Act.put, List.setIfInBounds_toArray, List.set_cons_zero, List.set_cons_succ])
     refine wpAnyH_take (i := 15) (v := ?_) rfl (by kernel_rfl) (by kernel_rfl) (by kernel_rfl) (fun _ _ _ h => h) (Or.inl ⟨by kernel_rfl, ?_⟩) (by assumption) ?_
     rotate_left
     ·(intro w0 hSw; (try dsimp only at hSw); go_simp; all_goals (with_reducible rfl))
     simp only [List.getElem_toArray, List.getElem_cons_succ, List.getElem_cons_zero, Act.put, List.setIfInBounds_toArray, List.set_cons_zero, List.set_cons_succ]
     refine wpAnyH_done (by kernel_rfl) ?_ _
     have FIN := Lib.hid (OrdM.mk' OWN.out HK1.out HIN.out (HKW.out.trans (VL.out.mono HKW.out.size)) HKW.out.size)
     go_wp2
     go_roundw
     case rel => exact ⟨i + 1, by omega, by go_num, FIN⟩
     case measure => simp [intOf]; omega
   ·go_simp
    have BX := Lib.hid (box3_new wO (.int .i64 q.a) (.int .i64 q.b) (.int .i64 q.c) 47)
    have HB9 : Hid (wO.heap.size < (wO.alloc (.cells #[.int .i64 q.a, .int .i64 q.b, .int .i64 q.c] 47)).heap.size) := Lib.hid (by simp)
    have VL := Lib.hid (VL.out.alloc VL.out.size (.cells #[.int .i64 q.a, .int .i64 q.b, .int .i64 q.c] 47))
    refine hKn.out _ _ ?_ (fun hHeld => ?_)
    ·(try dsimp only); exact keepR.out _ VL.out
    clear hKn Kn
    (try simp only [Act.put, List.setIfInBounds_toArray, List.set_cons_zero, List.set_cons_succ])
    obtain ⟨b9, hb9⟩ : ∃ b9, b9 = wO.heap.size := ⟨_, rfl⟩
    rw [← hb9] at BX HB9 ⊢
    clear hb9
    generalize wO.alloc (.cells #[.int .i64 q.a, .int .i64 q.b, .int .i64 q.c] 47) = wN at BX VL HB9 hHeld ⊢
    refine wpAnyH_ready (rs := [0]) (by kernel_rfl) (by simp) ?_
    refine AllReadyH.cons rfl (fun Kn hKn => ?_) AllReadyH.nil
    go_simp
    have OWN : Hid ((wN.alloc (.cells #[] 47)).ownsRow wO.heap.size 47 3 (.slice (some ⟨wN.heap.size, 0, none⟩) 0 0) 0 []) := Lib.hid (own_le (World.ownsRow_made wN #[] 0 (Nat.le_refl _) (by unfold maxLen; omega) rfl) VL.out.size)
    have BX := Lib.hid (BX.out.below (boxes1 wN (.cells #[] 47)) BX.out.lt)
    have HNE : Hid (some b9 ≠ (Value.slice (some ⟨wN.heap.size, 0, none⟩) 0 0).ownBlock) := Lib.hid (fun e => by have h9 := HB9.out; have h8 : b9 = wN.heap.size := Option.some.inj e; omega)
    have VL := Lib.hid (VL.out.alloc VL.out.size (.cells #[] 47))
    refine hKn.out _ _ ?_ (fun hHeld => ?_)
    ·(try dsimp only); exact keepR.out _ VL.out
    clear hKn Kn
    (try simp only [Act.put, List.setIfInBounds_toArray, List.set_cons_zero, List.set_cons_succ])
    obtain ⟨v0, hv0⟩ : ∃ v0, v0 = Value.slice (some ⟨wN.heap.size, 0, none⟩) 0 0 := ⟨_, rfl⟩
    rw [← hv0] at OWN HNE ⊢
    clear hv0
    generalize wN.alloc (.cells #[] 47) = wE at OWN VL BX hHeld ⊢
    refine wpAnyH_ready (rs := [4]) (by kernel_rfl) (by simp) ?_
    refine AllReadyH.cons rfl (fun Kn hKn => ?_) AllReadyH.nil
    refine step_append_own (by rfl) _ _ _ (by rfl) wO.heap.size 47 i0 _ 3 24 Tryz.underlying23 hinf hz0 hz1 hz2 rfl (by decide) v0 0 [] (by rfl) OWN.out ⟨og, 0, none⟩ k _ (trL (O.take k)) (by rfl) HLN1.out (HN1.out _ VL.out) (trL_one _) (by unfold maxLen; omega) (by omega) VL.out.size ?_
    intro va w5 hown hgrow
    have BX := Lib.hid (BX.out.grown hgrow HNE.out)
    have VL := Lib.hid (VL.out.grown hgrow VL.out.size (fun kk e => (OWN.out.lt kk e).1))
    have OWN := Lib.hid hown
    clear hown hgrow
    refine hKn.out _ _ ?_ (fun hHeld => ?_)
    ·(try dsimp only); exact keepR.out _ VL.out
    clear hKn Kn
    (try simp only [Act.put, List.setIfInBounds_toArray, List.set_cons_zero, List.set_cons_succ])
    rw [Nat.zero_add, List.nil_append] at OWN
    obtain ⟨va4, hva4⟩ : ∃ va4, va4 = va := ⟨_, rfl⟩
    rw [← hva4] at OWN ⊢
    clear hva4
    refine wpAnyH_ready (rs := [10]) (by kernel_rfl) (by simp) ?_
    refine AllReadyH.cons rfl (fun Kn hKn => ?_) AllReadyH.nil
    refine step_append_own (by rfl) _ _ _ (by rfl) wO.heap.size 47 i0 _ 3 24 Tryz.underlying23 hinf hz0 hz1 hz2 rfl (by decide) va4 k (trL (O.take k)) (by rfl) OWN.out ⟨b9, 0, none⟩ 1 _ [.int .i64 q.a, .int .i64 q.b, .int .i64 q.c] (by rfl) (by rfl) (box3_cells BX.out) (trC_one q) (by unfold maxLen; omega) (by omega) VL.out.size ?_
    intro vb w6 hown hgrow
    have VL := Lib.hid (VL.out.grown hgrow VL.out.size (fun kk e => (OWN.out.lt kk e).1))
    have OWN := Lib.hid hown
    clear hown hgrow
    refine hKn.out _ _ ?_ (fun hHeld => ?_)
    ·(try dsimp only); exact keepR.out _ VL.out
    clear hKn Kn
    (try simp only [Act.put, List.setIfInBounds_toArray, List.set_cons_zero, List.set_cons_succ])
    refine wpAnyH_ready (rs := [14]) (by kernel_rfl) (by simp) ?_
    refine AllReadyH.cons rfl (fun Kn hKn => ?_) AllReadyH.nil
    refine step_append_own (by rfl) _ _ _ (by rfl) wO.heap.size 47 i0 _ 3 24 Tryz.underlying23 hinf hz0 hz1 hz2 rfl (by decide) vb (k + 1) (trL (O.take k) ++ trC q) (by rfl) OWN.out ad2 (i - k) _ (trL (O.drop k)) (by rfl) HLN2.out (HN2.out _ VL.out) (trL_one _) (by unfold maxLen; omega) (by omega) VL.out.size ?_
    intro vc w7 hown hgrow
    have VL := Lib.hid (VL.out.grown hgrow VL.out.size (fun kk e => (OWN.out.lt kk e).1))
    have OWN := Lib.hid hown
    clear hown hgrow
    refine hKn.out _ _ ?_ (fun hHeld => ?_)
    ·(try dsimp only); exact keepR.out _ VL.out
    clear hKn Kn
    (try simp only [Act.put, List.setIfInBounds_toArray, List.set_cons_zero, List.set_cons_succ])
    refine wpAnyH_take (i := 15) (v := ?_) rfl (by kernel_rfl) (by kernel_rfl) (by kernel_rfl) (fun _ _ _ h => h) (Or.inl ⟨by kernel_rfl, ?_⟩) (by assumption) ?_
    rotate_left
    ·(intro w0 hSw; (try dsimp only at hSw); go_simp; all_goals (with_reducible rfl))
    simp only [List.getElem_toArray, List.getElem_cons_succ, List.getElem_cons_zero, Act.put, List.setIfInBounds_toArray, List.set_cons_zero, List.set_cons_succ]
    refine wpAnyH_done (by kernel_rfl) ?_ _
    have FIN := Lib.hid (OrdM.mk' OWN.out HK1.out HIN.out (HKW.out.trans (VL.out.mono HKW.out.size)) HKW.out.size)
    go_wp2
    go_roundw
    case rel => exact ⟨i + 1, by omega, by go_num, FIN⟩
    case measure => simp [intOf]; omega
  ·obtain rfl : i = n := by omega
   have e1 : decide ((i : Int) < (i : Int)) = false := by simp
   obtain ⟨og, oc, rfl, _, _⟩ := OM.out.some_
   have hl := ordL_len S i
   have hfin := OM.out.own
   have hkb := OM.out.kb
   rw [hl] at hfin
   have HF := Lib.hid hfin
   have HKB := Lib.hid hkb
   rw [hl]
   clear hl hfin hkb OM
   go_wp2
   go_ret
   exact ⟨_, oc, rfl, HF.out, HKB.out⟩
end Go.Proofs.YtolkchkedieppaaGreat
