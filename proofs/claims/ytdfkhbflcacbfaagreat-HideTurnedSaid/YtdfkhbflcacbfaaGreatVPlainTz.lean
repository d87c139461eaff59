/- Network of package hide at a cut: its lines are the canonical ones. -/
import Derived.Test.YtdfkhbflcacbfaaGreatVBefA
import Derived.Test.YtdfkhbflcacbfaaGreatVCod
import Derived.Test.YtdfkhbflcacbfaaGreatVFloat4
import Derived.Test.YtdfkhbflcacbfaaGreatVRco
import Derived.Test.YtdfkhbflcacbfaaGreatVRdB
import Derived.BigRegion
import Derived.BigQuiet
import Derived.Test.YtdfkhbflcacbfaaGreatVLnA
import Derived.Test.YtdfkhbflcacbfaaGreatVRMat
set_option linter.unusedVariables false
set_option linter.unusedSimpArgs false
namespace Go.Proofs.YtdfkhbflcacbfaaGreat
open Go.RowKit
attribute [local go_sem ↓] Go.wp_at_zero Go.wp_at_succ
theorem netF_len (S J : List Tr) : ∀ k, (netF S J k).length = k
 | 0 => rfl
 | k + 1 => by simp [netF, netF_len S J k]
theorem prL_get : ∀ (P : List (Int × Int)) (i : Nat), i < P.length → (prL P)[i * 2]? = some (.int .i64 (P.getD i (0, 0)).1) ∧ (prL P)[i * 2 + 1]? = some (.int .i64 (P.getD i (0, 0)).2)
 | [], i, h => by simp at h
 | p :: l, 0, _ => by simp [prL]
 | p :: l, i + 1, h => by
  have ih := prL_get l i (by simpa using h)
  simp only [prL]
  rw [show (i + 1) * 2 = i * 2 + 2 by omega]
  rw [List.getElem?_append_right (by simp), List.getElem?_append_right (by simp only [List.length_cons, List.length_nil]; omega)]
  simpa using ih
/-- pairs of one's own, as read -/
theorem prR_own {w : World} {base g c : Nat} {P : List (Int × Int)} (h : w.ownsRow base 66 2 (.slice (some ⟨g, 0, none⟩) P.length c) P.length (prL P)) : PrR w g 0 P ∧ g < w.heap.size := by
 rcases h.2 with ⟨h', _⟩ | ⟨g', cap, cur, hv, hbg, hg, hc, hm, hs, ht⟩
 ·simp at h'
 ·simp only [Value.slice.injEq, Option.some.injEq, Addr.mk.injEq, and_true, true_and] at hv
  obtain ⟨rfl, rfl⟩ := hv
  have hcell : ∀ j u, j < P.length * 2 → (prL P)[j]? = some u → w.cell? ⟨g, j, none⟩ = some u := fun j u hj hu => by
   rw [cell_of_row _ g j _ _ (0, 0) hg, ← hu, ← ht, List.getElem?_take, if_pos hj, Array.getElem?_toList]
  refine ⟨⟨fun i hi => ?_, fun i hi => ?_⟩, (Array.getElem?_eq_some_iff.1 hg).1⟩
  ·rw [Nat.zero_add]; exact hcell _ _ (by omega) (prL_get P i hi).1
  ·rw [Nat.zero_add]; exact hcell _ _ (by omega) (prL_get P i hi).2
theorem network_mk {B : Nat} (v : Value) (L : List Tr) (W H : Nat) (w : World) (hv : OwS B w v L) (hm : MkC L W H) (hn : L.length ≤ 24) :
  Calls Tryz.prog 7 #[v] w fun e w' => ∃ va vk S J, L.Perm S ∧ S.Pairwise (fun a b => ¬ ltS b a) ∧ CanL J (edgeC L) ∧ J.length ≤ 48 ∧
   e = .returned (.tuple #[.int .i64 (J.length : Nat), .slice va S.length vk, .int .i64 0]) ∧
   w'.ownsRow w.heap.size 66 2 (.slice va S.length vk) S.length (prL (netF S J S.length)) ∧ Below w.heap.size w w' := by
 obtain ⟨g, c, rfl, _, h2, h3, h4⟩ := hv.ex
 have hcut := hm.cut hn
 have hpos := hm.pos
 refine (network_good g c L w h4 h2 h3 hcut).mono ?_
 rintro e w' ⟨va, vk, S, P, B', hl, hp, hs, hraw, hsl, rfl, hB, ho, hb⟩
 have hc : ∀ t, t ∈ L → 0 < t.c := fun t ht => by have := (hm.rg t ht).2.2.1; omega
 rw [← hl] at hraw ho ⊢
 have hcan := lines_can hp (by omega) hc hraw hsl
 have hjl := (joinF_len P (2 * S.length - 1)).2
 exact ⟨va, vk, S, joinF P (2 * S.length - 1), hp, hs, hcan, by omega, rfl, own_le ho hB, hb⟩
end Go.Proofs.YtdfkhbflcacbfaaGreat

/- The lines of a cut and the squares between them: each line's squares above, and below, are as wide as the line. -/
namespace Go.Proofs.YtdfkhbflcacbfaaGreat
open Go.RowKit
theorem netF_get (S J : List Tr) : ∀ n k, k < n → (netF S J n).getD k (0, 0) = (onF J (S.getD k default).a (S.getD k default).b, onF J (S.getD k default).a ((S.getD k default).b + (S.getD k default).c))
 | 0, k, h => by omega
 | n + 1, k, h => by
  have hl := netF_len S J n
  rw [netF]
  by_cases e : k < n
  ·have ih := netF_get S J n k e
   rw [List.getD_eq_getElem?_getD] at ih
   rw [List.getD_eq_getElem?_getD, List.getElem?_append_left (by omega)]
   exact ih
  ·obtain rfl : k = n := by omega
   rw [List.getD_eq_getElem?_getD, List.getElem?_append_right (by omega), hl, Nat.sub_self]
   rfl
/-- the squares S of a cut of W by H, its lines J -/
structure NetP (S J : List Tr) (W H : Nat) : Prop where
 m : MkC S W H
 few : S.length ≤ 24
 can : CanL J (edgeC S)
def nwA (S J : List Tr) (k : Nat) : Nat := (onF J (S.getD k default).a (S.getD k default).b).toNat
def nwB (S J : List Tr) (k : Nat) : Nat := (onF J (S.getD k default).a ((S.getD k default).b + (S.getD k default).c)).toNat
/-- line i has the cell x -/
def hasX (J : List Tr) (i : Nat) (x : Int) : Prop := (J.getD i default).b ≤ x ∧ x < (J.getD i default).c
section
variable {S J : List Tr} {W H : Nat} (h : NetP S J W H)
include h
theorem NetP.rg {k : Nat} (hk : k < S.length) : 0 ≤ (S.getD k default).a ∧ 0 ≤ (S.getD k default).b ∧ 1 ≤ (S.getD k default).c ∧ (S.getD k default).a + (S.getD k default).c ≤ (W : Int) ∧ (S.getD k default).b + (S.getD k default).c ≤ (H : Int) := h.m.rg _ (getD_memT hk)
theorem NetP.uniq {i j : Nat} (hi : i < J.length) (hj : j < J.length) (e : (J.getD i default).a = (J.getD j default).a) {x : Int} (h1 : hasX J i x) (h2 : hasX J j x) : i = j := by
 unfold hasX at h1 h2
 have ei : J.getD i default = J[i] := by simp [hi]
 have ej : J.getD j default = J[j] := by simp [hj]
 rw [ei] at e h1
 rw [ej] at e h2
 rcases Nat.lt_trichotomy i j with q | q | q
 ·have := List.pairwise_iff_getElem.1 h.can.sep i j hi hj q
  unfold SepL at this; omega
 ·exact q
 ·have := List.pairwise_iff_getElem.1 h.can.sep j i hj hi q
  unfold SepL at this; omega
theorem NetP.line {y x : Int} (hc : edgeC S y x) : ∃ i, i < J.length ∧ (J.getD i default).a = y ∧ hasX J i x := by
 obtain ⟨l, hl, e1, e2, e3⟩ := (h.can.cells y x).2 hc
 obtain ⟨i, hi, rfl⟩ := List.getElem_of_mem hl
 have ei : J.getD i default = J[i] := by simp [hi]
 exact ⟨i, hi, by rw [ei]; exact e1, by unfold hasX; rw [ei]; exact ⟨e2, e3⟩⟩
theorem NetP.cell {i : Nat} (hi : i < J.length) {x : Int} (hx : hasX J i x) : edgeC S (J.getD i default).a x :=
 (h.can.cells _ _).1 ⟨_, getD_memT hi, rfl, hx.1, hx.2⟩
theorem NetP.top {k : Nat} (hk : k < S.length) : nwA S J k < J.length ∧ onF J (S.getD k default).a (S.getD k default).b = (nwA S J k : Int) ∧ (J.getD (nwA S J k) default).a = (S.getD k default).b ∧ (J.getD (nwA S J k) default).b ≤ (S.getD k default).a ∧ (S.getD k default).a + (S.getD k default).c ≤ (J.getD (nwA S J k) default).c := by
 have hr := h.rg hk
 obtain ⟨i, h1, h2, h3⟩ := h.can.edge (y := (S.getD k default).b) (x := (S.getD k default).a) (z := (S.getD k default).c) (by omega) (fun u a b => ⟨_, getD_memT hk, .inl rfl, a, b⟩)
 have e : nwA S J k = i := by unfold nwA; rw [h2]; simp
 rw [e]
 have := (h3 i h1).2 rfl
 exact ⟨h1, h2, this.2.2, this.1, this.2.1⟩
theorem NetP.bot {k : Nat} (hk : k < S.length) : nwB S J k < J.length ∧ onF J (S.getD k default).a ((S.getD k default).b + (S.getD k default).c) = (nwB S J k : Int) ∧ (J.getD (nwB S J k) default).a = (S.getD k default).b + (S.getD k default).c ∧ (J.getD (nwB S J k) default).b ≤ (S.getD k default).a ∧ (S.getD k default).a + (S.getD k default).c ≤ (J.getD (nwB S J k) default).c := by
 have hr := h.rg hk
 obtain ⟨i, h1, h2, h3⟩ := h.can.edge (y := (S.getD k default).b + (S.getD k default).c) (x := (S.getD k default).a) (z := (S.getD k default).c) (by omega) (fun u a b => ⟨_, getD_memT hk, .inr rfl, a, b⟩)
 have e : nwB S J k = i := by unfold nwB; rw [h2]; simp
 rw [e]
 have := (h3 i h1).2 rfl
 exact ⟨h1, h2, this.2.2, this.1, this.2.1⟩
theorem NetP.cov {x y : Int} (hx0 : 0 ≤ x) (hx : x < W) (hy0 : 0 ≤ y) (hy : y < H) : ∃ k, k < S.length ∧ inT (S.getD k default) x y :=
 (h.m.cut h.few).covers hx0 (by rw [h.m.wd]; exact hx) hy0 (by rw [h.m.ht]; exact hy)
theorem NetP.edge_rg {y x : Int} (hc : edgeC S y x) : 0 ≤ x ∧ x < W ∧ 0 ≤ y ∧ y ≤ H := by
 obtain ⟨t, ht, e, a, b⟩ := hc
 have := h.m.rg t ht
 omega
omit h in
theorem NetP_mem {S : List Tr} {t : Tr} (ht : t ∈ S) : ∃ k, k < S.length ∧ S.getD k default = t := by
 obtain ⟨k, hk, rfl⟩ := List.getElem_of_mem ht
 exact ⟨k, hk, by simp [hk]⟩
/-- a cell of a line below the top lies under a square -/
theorem NetP.above {i : Nat} (hi : i < J.length) (hy : 0 < (J.getD i default).a) {x : Int} (hx : hasX J i x) : ∃ k, k < S.length ∧ nwB S J k = i ∧ (S.getD k default).a ≤ x ∧ x < (S.getD k default).a + (S.getD k default).c := by
 have hc := h.cell hi hx
 have hrg := h.edge_rg hc
 have fin : ∀ k, k < S.length → (S.getD k default).a ≤ x → x < (S.getD k default).a + (S.getD k default).c → (S.getD k default).b + (S.getD k default).c = (J.getD i default).a → nwB S J k = i := fun k hk a b e => by
  obtain ⟨b1, b2, b3, b4, b5⟩ := h.bot hk
  exact h.uniq b1 hi (by rw [b3]; exact e) (x := x) ⟨by omega, by omega⟩ hx
 obtain ⟨t, ht, e, a, b⟩ := hc
 obtain ⟨k, hk, rfl⟩ := NetP_mem ht
 rcases e with e | e
 ·obtain ⟨u, hu, hin⟩ := h.cov (x := x) (y := (J.getD i default).a - 1) (by omega) (by omega) (by omega) (by omega)
  have hin' := hin
  unfold inT at hin
  have hbot : (S.getD u default).b + (S.getD u default).c = (J.getD i default).a := by
   refine Classical.byContradiction (fun hn => ?_)
   have hrk := h.rg hk
   refine (h.m.cut h.few).apne hu hk (fun q => ?_) (x := x) (y := (J.getD i default).a) ?_ ?_
   ·rw [q] at hin; omega
   ·unfold inT; omega
   ·unfold inT; omega
  exact ⟨u, hu, fin u hu hin.1 hin.2.1 hbot, hin.1, hin.2.1⟩
 ·exact ⟨k, hk, fin k hk a b e, a, b⟩
theorem NetP.above_uniq {i : Nat} {k l : Nat} (hk : k < S.length) (hl : l < S.length) (ek : nwB S J k = i) (el : nwB S J l = i) {x : Int} (a1 : (S.getD k default).a ≤ x) (a2 : x < (S.getD k default).a + (S.getD k default).c) (b1 : (S.getD l default).a ≤ x) (b2 : x < (S.getD l default).a + (S.getD l default).c) : k = l := by
 have hrk := h.rg hk
 have hrl := h.rg hl
 have e1 := (h.bot hk).2.2.1
 have e2 := (h.bot hl).2.2.1
 rw [ek] at e1
 rw [el] at e2
 refine Classical.byContradiction (fun hn => (h.m.cut h.few).apne hk hl hn (x := x) (y := (J.getD i default).a - 1) ?_ ?_)
 ·unfold inT; omega
 ·unfold inT; omega
/-- a cell of a line above the bottom lies over a square -/
theorem NetP.below {i : Nat} (hi : i < J.length) (hy : (J.getD i default).a < (H : Int)) {x : Int} (hx : hasX J i x) : ∃ k, k < S.length ∧ nwA S J k = i ∧ (S.getD k default).a ≤ x ∧ x < (S.getD k default).a + (S.getD k default).c := by
 have hc := h.cell hi hx
 have hrg := h.edge_rg hc
 have fin : ∀ k, k < S.length → (S.getD k default).a ≤ x → x < (S.getD k default).a + (S.getD k default).c → (S.getD k default).b = (J.getD i default).a → nwA S J k = i := fun k hk a b e => by
  obtain ⟨b1, b2, b3, b4, b5⟩ := h.top hk
  exact h.uniq b1 hi (by rw [b3]; exact e) (x := x) ⟨by omega, by omega⟩ hx
 obtain ⟨t, ht, e, a, b⟩ := hc
 obtain ⟨k, hk, rfl⟩ := NetP_mem ht
 rcases e with e | e
 ·exact ⟨k, hk, fin k hk a b e, a, b⟩
 ·obtain ⟨u, hu, hin⟩ := h.cov (x := x) (y := (J.getD i default).a) (by omega) (by omega) (by omega) (by omega)
  have hin' := hin
  unfold inT at hin
  have htop : (S.getD u default).b = (J.getD i default).a := by
   refine Classical.byContradiction (fun hn => ?_)
   have hrk := h.rg hk
   refine (h.m.cut h.few).apne hu hk (fun q => ?_) (x := x) (y := (J.getD i default).a - 1) ?_ ?_
   ·rw [q] at hin; omega
   ·unfold inT; omega
   ·unfold inT; omega
  exact ⟨u, hu, fin u hu hin.1 hin.2.1 htop, hin.1, hin.2.1⟩
theorem NetP.below_uniq {i : Nat} {k l : Nat} (hk : k < S.length) (hl : l < S.length) (ek : nwA S J k = i) (el : nwA S J l = i) {x : Int} (a1 : (S.getD k default).a ≤ x) (a2 : x < (S.getD k default).a + (S.getD k default).c) (b1 : (S.getD l default).a ≤ x) (b2 : x < (S.getD l default).a + (S.getD l default).c) : k = l := by
 have hrk := h.rg hk
 have hrl := h.rg hl
 have e1 := (h.top hk).2.2.1
 have e2 := (h.top hl).2.2.1
 rw [ek] at e1
 rw [el] at e2
 refine Classical.byContradiction (fun hn => (h.m.cut h.few).apne hk hl hn (x := x) (y := (J.getD i default).a) ?_ ?_)
 ·unfold inT; omega
 ·unfold inT; omega
theorem NetP.ln {i : Nat} (hi : i < J.length) : (J.getD i default).b < (J.getD i default).c ∧ 0 ≤ (J.getD i default).b ∧ (J.getD i default).c ≤ W ∧ 0 ≤ (J.getD i default).a ∧ (J.getD i default).a ≤ H := by
 have h1 := h.can.ne _ (getD_memT hi)
 have h2 := h.edge_rg (h.cell hi (x := (J.getD i default).b) ⟨Int.le_refl _, h1⟩)
 have h3 := h.edge_rg (h.cell hi (x := (J.getD i default).c - 1) ⟨by omega, by omega⟩)
 exact ⟨h1, by omega, by omega, by omega, by omega⟩
theorem NetP.sep {i j : Nat} (hij : i < j) (hj : j < J.length) : SepL (J.getD i default) (J.getD j default) := by
 have := List.pairwise_iff_getElem.1 h.can.sep i j (by omega) hj hij
 simpa [hj, Nat.lt_trans hij hj] using this
/-- a line at the top or the bottom goes from side to side -/
theorem NetP.full {i : Nat} (hi : i < J.length) (hy : (J.getD i default).a = 0 ∨ (J.getD i default).a = H) : (J.getD i default).b = 0 ∧ (J.getD i default).c = W := by
 have hl := h.ln hi
 have h1 := h.m.h1
 have hedge : ∀ x : Int, 0 ≤ x → x < W → edgeC S (J.getD i default).a x := fun x a b => by
  rcases hy with e | e
  ·obtain ⟨u, hu, hin⟩ := h.cov a b (y := 0) (by omega) (by omega)
   have hr := h.rg hu
   unfold inT at hin
   exact ⟨_, getD_memT hu, .inl (by omega), hin.1, hin.2.1⟩
  ·obtain ⟨u, hu, hin⟩ := h.cov a b (y := (H : Int) - 1) (by omega) (by omega)
   have hr := h.rg hu
   unfold inT at hin
   exact ⟨_, getD_memT hu, .inr (by omega), hin.1, hin.2.1⟩
 constructor
 ·refine Classical.byContradiction (fun hn => ?_)
  obtain ⟨j, hj, e, hx⟩ := h.line (hedge ((J.getD i default).b - 1) (by omega) (by omega))
  unfold hasX at hx
  rcases Nat.lt_trichotomy i j with q | q | q
  ·have := h.sep q hj; unfold SepL at this; have := h.ln hj; omega
  ·subst q; omega
  ·have := h.sep q hi; unfold SepL at this; omega
 ·refine Classical.byContradiction (fun hn => ?_)
  obtain ⟨j, hj, e, hx⟩ := h.line (hedge (J.getD i default).c (by omega) (by omega))
  unfold hasX at hx
  rcases Nat.lt_trichotomy i j with q | q | q
  ·have := h.sep q hj; unfold SepL at this; omega
  ·subst q; omega
  ·have := h.sep q hi; unfold SepL at this; omega
theorem NetP.ends_uniq {i j : Nat} (hi : i < J.length) (hj : j < J.length) (e : (J.getD i default).a = (J.getD j default).a) (hy : (J.getD i default).a = 0 ∨ (J.getD i default).a = H) : i = j := by
 have h1 := h.full hi hy
 have h2 := h.full hj (by rw [← e]; exact hy)
 have hw := h.m.w1
 exact h.uniq hi hj e (x := 0) ⟨by omega, by omega⟩ ⟨by omega, by omega⟩
theorem NetP.first : 0 < J.length ∧ (J.getD 0 default).a = 0 := by
 obtain ⟨u, hu, hin⟩ := h.cov (x := 0) (y := 0) (by omega) (by have := h.m.w1; omega) (by omega) (by have := h.m.h1; omega)
 have hr := h.rg hu
 unfold inT at hin
 obtain ⟨i, hi, e, _⟩ := h.line (y := 0) (x := 0) ⟨_, getD_memT hu, .inl (by omega), hin.1, hin.2.1⟩
 refine ⟨by omega, ?_⟩
 have h0 := h.ln (show 0 < J.length by omega)
 rcases Nat.eq_zero_or_pos i with q | q
 ·rw [← q]; exact e
 ·have := h.sep q hi; unfold SepL at this; omega
theorem NetP.last : 1 < J.length ∧ (J.getD (J.length - 1) default).a = H := by
 obtain ⟨t, ht, e⟩ := h.m.mh
 obtain ⟨k, hk, rfl⟩ := NetP_mem ht
 obtain ⟨b1, b2, b3, b4, b5⟩ := h.bot hk
 have hf := h.first
 have hl := h.ln (show J.length - 1 < J.length by omega)
 have h1 := h.m.h1
 have ea : (J.getD (J.length - 1) default).a = H := by
  rcases Nat.lt_or_ge (nwB S J k) (J.length - 1) with q | q
  ·have := h.sep q (by omega); unfold SepL at this; omega
  ·rw [show J.length - 1 = nwB S J k by omega, b3, e]
 refine ⟨?_, ea⟩
 refine Classical.byContradiction (fun hn => ?_)
 rw [show J.length - 1 = 0 by omega, hf.2] at ea
 omega
theorem NetP.mid {i : Nat} (hi : i < J.length - 1) : (J.getD i default).a < H := by
 have hl := h.ln (show i < J.length by omega)
 refine Classical.byContradiction (fun hn => ?_)
 have := h.ends_uniq (show i < J.length by omega) (show J.length - 1 < J.length by omega) (by rw [h.last.2]; omega) (.inr (by omega))
 omega
theorem NetP.mid0 {i : Nat} (h0 : 0 < i) (hi : i < J.length) : 0 < (J.getD i default).a := by
 have hl := h.ln hi
 refine Classical.byContradiction (fun hn => ?_)
 have := h.ends_uniq hi h.first.1 (by rw [h.first.2]; omega) (.inl (by omega))
 omega
end
end Go.Proofs.YtdfkhbflcacbfaaGreat

/- The sizes of the numbers of an elimination: each is a quotient of bounded integers. -/
namespace Go.Proofs.YtdfkhbflcacbfaaGreat
theorem tri_rows (a : Nat → Nat → Rat) (k : Nat) (piv : ∀ c, c < k → triQ a c c c ≠ 0) : ∀ c, c ≤ k → ∀ i, c ≤ i → (∃ y : Nat → Rat, ∀ j, triQ a c i j = a i j - sumQ (fun m => y m * a m j) c) ∧ ∀ j, j < c → triQ a c i j = 0
 | 0, _, i, _ => ⟨⟨fun _ => 0, fun j => by simp only [triQ, sumQ]; grind⟩, fun j hj => by omega⟩
 | c + 1, hc, i, hi => by
  obtain ⟨⟨y, hy⟩, hz⟩ := tri_rows a k piv c (by omega) i (by omega)
  obtain ⟨⟨u, hu⟩, hv⟩ := tri_rows a k piv c (by omega) c (Nat.le_refl _)
  have hp := piv c (by omega)
  have hall : ∀ j, triQ a (c + 1) i j = triQ a c i j - triQ a c i c / triQ a c c c * triQ a c c j := fun j => by
   show elimQ c (triQ a c) i j = _
   unfold elimQ
   by_cases e : c < i ∧ c ≤ j
   ·rw [if_pos e]
   ·rw [if_neg e, hv j (by omega), hz j (by omega)]; grind
  obtain ⟨μ, hμ⟩ : ∃ μ, μ = triQ a c i c / triQ a c c c := ⟨_, rfl⟩
  rw [← hμ] at hall
  refine ⟨⟨fun m => if m = c then μ else y m - μ * u m, fun j => ?_⟩, fun j hj => ?_⟩
  ·rw [hall j, hy j, hu j]
   simp only [sumQ]
   have e1 : sumQ (fun m => (if m = c then μ else y m - μ * u m) * a m j) c = sumQ (fun m => y m * a m j) c - μ * sumQ (fun m => u m * a m j) c := by
    rw [← sumQ_mul, ← sumQ_sub]
    refine sumQ_congr c (fun m hm => ?_)
    rw [if_neg (by omega)]; grind
   rw [e1, if_true]
   grind
  ·rw [hall j]
   by_cases e : j = c
   ·subst e
    rw [hμ, Rat.div_def]
    have := Rat.inv_mul_cancel _ hp
    grind
   ·rw [hz j (by omega), hv j (by omega)]; grind
theorem tri_ker (a : Nat → Nat → Rat) (k : Nat) (piv : ∀ c, c < k → triQ a c c c ≠ 0) : ∀ c, c ≤ k → ∀ z : Nat → Rat, (∀ l, l < c → sumQ (fun m => z m * a m l) c = 0) → ∀ m, m < c → z m = 0
 | 0, _, z, _ => fun m hm => by omega
 | c + 1, hc, z, h => by
  obtain ⟨⟨y, hy⟩, hv⟩ := tri_rows a k piv c (by omega) c (Nat.le_refl _)
  have hp := piv c (by omega)
  have hs : ∀ l, sumQ (fun m => (z m + z c * y m) * a m l) c = sumQ (fun m => z m * a m l) c + z c * sumQ (fun m => y m * a m l) c := fun l => by
   rw [← sumQ_mul, ← sumQ_add]
   exact sumQ_congr c (fun m _ => by grind)
  have h1 : ∀ m, m < c → z m + z c * y m = 0 := tri_ker a k piv c (by omega) (fun m => z m + z c * y m) (fun l hl => by
   have h2 := h l (by omega)
   simp only [sumQ] at h2
   have h3 := hy l
   rw [hv l hl] at h3
   rw [hs l]
   grind)
  have h4 := h c (by omega)
  simp only [sumQ] at h4
  have h5 : sumQ (fun m => (z m + z c * y m) * a m c) c = 0 := sumQ_eq_zero c (fun m hm => by rw [h1 m hm]; grind)
  rw [hs c] at h5
  have h6 := hy c
  have h7 : z c * triQ a c c c = 0 := by rw [h6]; grind
  have h8 : z c = 0 := by
   rcases Rat.mul_eq_zero.1 h7 with q | q
   ·exact q
   ·exact absurd q hp
  intro m hm
  by_cases e : m = c
  ·rw [e]; exact h8
  ·have := h1 m (by omega)
   rw [h8] at this
   grind
theorem nl_bdI {B : Nat} (hB : nl B ≤ 1) : ∀ c, nl (bdI B c) ≤ 2 ^ (c + 1) - 1
 | 0 => hB
 | c + 1 => by
  have ih := nl_bdI hB c
  have h1 : nl 2 ≤ 1 := by decide
  have h2 := nl_mul_le 2 (bdI B c * bdI B c)
  have h3 := nl_mul_le (bdI B c) (bdI B c)
  have h4 : 2 ^ (c + 1 + 1) = 2 * 2 ^ (c + 1) := by rw [Nat.pow_succ, Nat.mul_comm]
  have h5 : 0 < 2 ^ (c + 1) := Nat.pow_pos (by decide)
  show nl (2 * (bdI B c * bdI B c)) ≤ _
  omega
theorem tri_bound {B : Nat} (k : Nat) (A : Nat → Nat → Int) (hB : ∀ i j, (A i j).natAbs ≤ B) (hB1 : 1 ≤ B) (piv : ∀ c, c < k → triQ (fun i j => (A i j : Rat)) c c c ≠ 0) (c i j : Nat) (hci : c ≤ i) (hi : i < k) :
  ∃ p q : Int, q ≠ 0 ∧ p.natAbs ≤ bdI B (c + 1) ∧ q.natAbs ≤ bdI B (c + 1) ∧ (q : Rat) * triQ (fun i j => (A i j : Rat)) c i j = (p : Rat) := by
 obtain ⟨⟨y, hy⟩, hz⟩ := tri_rows (fun i j => (A i j : Rat)) k piv c (by omega) i hci
 have hk := tri_ker (fun i j => (A i j : Rat)) k piv c (by omega)
 have hsys : SysI (c + 1) (c + 1) (fun _ => False) (fun r m => if r < c then (if m < c then A m r else if m = c then 0 else A i r) else (if m < c then A m j else if m = c then 1 else A i j)) B (fun m => if m < c then y m else triQ (fun i j => (A i j : Rat)) c i j) := by
  refine ⟨fun r m hr hm => ?_, fun r m _ _ h => h.elim, fun r hr => ?_, fun z _ hs => ?_⟩
  ·split
   ·split
    ·exact hB _ _
    ·split
     ·simp
     ·exact hB _ _
   ·split
    ·exact hB _ _
    ·split
     ·simpa using hB1
     ·exact hB _ _
  ·simp only [sumQ]
   rw [if_neg (Nat.lt_irrefl c)]
   by_cases e : r < c
   ·simp only [if_pos e]
    rw [if_neg (Nat.lt_irrefl c), if_true, if_neg (show ¬ c + 1 < c by omega), if_neg (show ¬ c + 1 = c by omega)]
    have e1 : sumQ (fun m => (((if m < c then A m r else if m = c then 0 else A i r : Int)) : Rat) * (if m < c then y m else triQ (fun i j => (A i j : Rat)) c i j)) c = sumQ (fun m => y m * (A m r : Rat)) c := sumQ_congr c (fun m hm => by rw [if_pos hm, if_pos hm]; grind)
    rw [e1]
    have h3 := hy r
    rw [hz r e] at h3
    have h0 : ((0 : Int) : Rat) = 0 := rfl
    rw [h0]
    grind
   ·simp only [if_neg e]
    rw [if_neg (Nat.lt_irrefl c), if_true, if_neg (show ¬ c + 1 < c by omega), if_neg (show ¬ c + 1 = c by omega)]
    have e1 : sumQ (fun m => (((if m < c then A m j else if m = c then 1 else A i j : Int)) : Rat) * (if m < c then y m else triQ (fun i j => (A i j : Rat)) c i j)) c = sumQ (fun m => y m * (A m j : Rat)) c := sumQ_congr c (fun m hm => by rw [if_pos hm, if_pos hm]; grind)
    rw [e1]
    have h3 := hy j
    have h0 : ((1 : Int) : Rat) = 1 := rfl
    rw [h0]
    grind
  ·have h1 : ∀ m, m < c → z m = 0 := hk z (fun l hl => by
    have h2 := hs l (by omega)
    simp only [sumQ, if_pos hl] at h2
    rw [if_neg (Nat.lt_irrefl c), if_true] at h2
    have e1 : sumQ (fun m => (((if m < c then A m l else if m = c then 0 else A i l : Int)) : Rat) * z m) c = sumQ (fun m => z m * (A m l : Rat)) c := sumQ_congr c (fun m hm => by rw [if_pos hm]; grind)
    rw [e1] at h2
    have h0 : ((0 : Int) : Rat) = 0 := rfl
    rw [h0] at h2
    grind)
   intro m hm
   by_cases e : m < c
   ·exact h1 m e
   ·obtain rfl : m = c := by omega
    have h2 := hs m (by omega)
    simp only [sumQ, if_neg (Nat.lt_irrefl m)] at h2
    rw [if_true] at h2
    rw [sumQ_eq_zero m (fun l hl => by rw [h1 l hl]; grind)] at h2
    have h0 : ((1 : Int) : Rat) = 1 := rfl
    rw [h0] at h2
    grind
 obtain ⟨p, q, h1, h2, h3, h4⟩ := hsys.bound c (by omega)
 rw [if_neg (Nat.lt_irrefl c)] at h4
 exact ⟨p, q, h1, h2, h3, h4⟩
/-- every number of the elimination of at most 24 columns is short enough -/
theorem tri_sz {B : Nat} (k : Nat) (hk : k ≤ 24) (A : Nat → Nat → Int) (hB : ∀ i j, (A i j).natAbs ≤ B) (hB1 : 1 ≤ B) (hB2 : nl B ≤ 1) (piv : ∀ c, c < k → triQ (fun i j => (A i j : Rat)) c c c ≠ 0) (c i j : Nat) (hi : i < k) : szQ (triQ (fun i j => (A i j : Rat)) c i j) ≤ 33554432 := by
 have key : ∀ c, c ≤ i → szQ (triQ (fun i j => (A i j : Rat)) c i j) ≤ 33554432 := fun c hci => by
  obtain ⟨p, q, h1, h2, h3, h4⟩ := tri_bound k A hB hB1 piv c i j hci hi
  have h5 := nl_bdI hB2 (c + 1)
  have h6 : 2 ^ (c + 1 + 1) ≤ 2 ^ 25 := Nat.pow_le_pow_right (by decide) (by omega)
  have h7 : (2 : Nat) ^ 25 = 33554432 := by decide
  rw [h7] at h6
  exact szQ_quot h1 h4 (Nat.le_trans (nl_mono h2) (by omega)) (Nat.le_trans (nl_mono h3) (by omega))
 by_cases e : c ≤ i
 ·exact key c e
 ·have := triQ_row (fun i j => (A i j : Rat)) i j (c - i) i (Nat.le_refl _)
  rw [show i + (c - i) = c by omega] at this
  rw [this]
  exact key i (Nat.le_refl _)
end Go.Proofs.YtdfkhbflcacbfaaGreat
