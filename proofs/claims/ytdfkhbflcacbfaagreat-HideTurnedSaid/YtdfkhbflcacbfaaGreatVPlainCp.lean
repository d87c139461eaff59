/- Perfect of hide at a cut. -/
import Derived.Test.YtdfkhbflcacbfaaGreatVPfA
import Derived.Lib.OwnBridge
import Derived.Lib.RowBridge
import Derived.Sort.Grow
import Derived.Test.YtdfkhbflcacbfaaGreatVRco
import Derived.Test.YtdfkhbflcacbfaaGreatVBefA
import Derived.Test.YtdfkhbflcacbfaaGreatVTurN
set_option linter.unusedVariables false
set_option linter.unusedSimpArgs false
namespace Go.Proofs.YtdfkhbflcacbfaaGreat
open Go.RowKit Go.Sort
attribute [local go_sem ↓] Go.wp_at_zero Go.wp_at_succ
/-- the numbers of a row -/
def zsF (f : Nat → Int) (n : Nat) : List Int := (List.range n).map f
theorem zsF_len (f : Nat → Int) (n : Nat) : (zsF f n).length = n := by simp [zsF]
def srt (zs : List Int) : List Int := zs.mergeSort (fun x y => decide (x ≤ y))
theorem srt_len (zs : List Int) : (srt zs).length = zs.length := List.length_mergeSort zs
theorem srt_perm (zs : List Int) : (srt zs).Perm zs := List.mergeSort_perm zs _
theorem srt_sorted (zs : List Int) : (srt zs).Pairwise (fun a b => a ≤ b) := by
 have h := List.pairwise_mergeSort (le := fun x y : Int => decide (x ≤ y)) (fun a b c h1 h2 => by simp at *; omega) (fun a b => by simp; omega) zs
 exact h.imp (fun {a b} q => by simpa using q)
theorem holdsI_own {w : World} {base g cap n : Nat} {f : Nat → Int} (h : w.ownsRow base 3 1 (.slice (some ⟨g, 0, none⟩) n cap) n (ics f n)) : Holds (Value.int .i64) w g 0 (zsF f n).toArray := by
 intro j hj
 have hj2 : j < n := by simpa [zsF] using hj
 rw [Nat.zero_add]
 refine ⟨?_, h.frozenAt j⟩
 obtain ⟨a, b, o, c, hv, hs⟩ := ints_of_own h
 injection hv with e1 e2 e3
 have ha := hs.at_ (by omega)
 rw [← e1] at ha
 injection ha with ha
 injection ha with ha hb
 subst ha; subst hb
 have hc := hs.cell j hj2
 rw [Nat.zero_add] at hc
 rw [hc]
 simp [ic, zsF, hj2]
theorem grow_below {B : Nat} {w0 w : World} (h : Below B w0 w) (os : Array Obj) (hB : B ≤ w.heap.size) : Below B w0 (grow w os) := by
 refine ⟨h.os, h.tape, h.output, ?_, fun k hk => ?_⟩
 ·have := h.size; simp [grow]; omega
 ·rw [← h.block k hk]
  unfold grow
  rw [Array.getElem?_append_left (by omega)]
theorem sortI_any (w : World) (base g cap n : Nat) (f : Nat → Int) (h : w.ownsRow base 3 1 (.slice (some ⟨g, 0, none⟩) n cap) n (ics f n)) (hn : n ≤ 1000) :
  Calls Tryz.prog 30 #[.slice (some ⟨g, 0, none⟩) n cap] w fun e w' => e = .returned (.tuple #[]) ∧ Holds (Value.int .i64) w' g 0 (srt (zsF f n)).toArray ∧ Below base w w' ∧ g < w'.heap.size := by
 have hgb : base ≤ g ∧ g < w.heap.size := h.lt g rfl
 have hH := holdsI_own h
 have hcon := Any.slices_Sort_int Tryz.sortI g 0 cap (zsF f n) w hH hgb.2 (by rw [zsF_len]; omega)
 rw [zsF_len] at hcon
 refine Calls.mono hcon ?_
 rintro e w' ⟨rfl, q, os, rfl⟩
 have hb := Go.Lib.below_putRow (enc := Value.int .i64) (q := q) (d := (srt (zsF f n)).toArray) (Below.refl base w) hgb.1
 have hsz : base ≤ (putRow (Value.int .i64) (Sort.ahead w q) g 0 (srt (zsF f n)).toArray).heap.size := Nat.le_trans (Nat.le_of_lt (Nat.lt_of_le_of_lt hgb.1 hgb.2)) hb.size
 have hg2 : g < (putRow (Value.int .i64) (Sort.ahead w q) g 0 (srt (zsF f n)).toArray).heap.size := Nat.lt_of_lt_of_le hgb.2 hb.size
 have hb2 := grow_below hb os hsz
 refine ⟨rfl, ?_, hb2, Nat.lt_of_lt_of_le hgb.2 hb2.size⟩
 refine holds_grow _ _ _ _ _ _ hg2 ?_
 exact holds_putRow _ _ _ _ (zsF f n).toArray _ (holds_ahead _ _ _ _ _ _ hH) (by simp [srt_len, srt])
theorem compI_any (w : World) (base g cap : Nat) (zs : List Int) (hH : Holds (Value.int .i64) w g 0 zs.toArray) (hn : zs.length ≤ 1000) (hc : zs.length ≤ cap) (hg : base ≤ g) :
  Calls Tryz.prog 31 #[.slice (some ⟨g, 0, none⟩) zs.length cap] w fun e w' => e = .returned (.slice (some ⟨g, 0, none⟩) (Go.Lib.compact zs).length cap) ∧ Below base w w' := by
 have hcon := Any.slices_Compact_int Tryz.compI g 0 cap zs w hH (by omega) hc
 refine Calls.mono hcon ?_
 rintro e w' ⟨rfl, q, rfl⟩
 exact ⟨rfl, Go.Lib.below_putRow (enc := Value.int .i64) (q := q) (Below.refl base w) hg⟩
end Go.Proofs.YtdfkhbflcacbfaaGreat

/- Perfect of hide at a cut: the walk. -/
namespace Go.Proofs.YtdfkhbflcacbfaaGreat
open Go.RowKit Go.Sort
attribute [local go_sem ↓] Go.wp_at_zero Go.wp_at_succ
theorem zsF_sz (S : List Tr) : zsF (szF S) S.length = S.map (fun t => t.c) := by
 apply List.ext_getElem?
 intro i
 simp only [zsF, List.getElem?_map]
 by_cases h : i < S.length
 ·simp [h, szF]
 ·simp [h]
theorem perf_plain {L S : List Tr} (hp : L.Perm S) : (Go.Lib.compact (srt (zsF (szF S) S.length))).length = S.length ↔ DistS L := by
 have h1 : (srt (zsF (szF S) S.length)).length = S.length := by rw [srt_len, zsF_len]
 have h2 := sorted_dist _ (srt_sorted (zsF (szF S) S.length))
 rw [h1] at h2
 rw [h2, (srt_perm _).nodup_iff, zsF_sz, distS_nodup]
 exact ((hp.map (fun t => t.c)).nodup_iff).symm
set_option maxHeartbeats 2000000 in
set_option maxRecDepth 100000 in
theorem perfect_mk {B : Nat} (v : Value) (L : List Tr) (W H : Nat) (r : Bool) (w : World) (hv : OwS B w v L) (hm : MkC L W H) (hn : L.length ≤ 24) (hr : r = true ↔ DistS L) :
  Calls Tryz.prog 11 #[v] w fun e w' => e = .returned (.tuple #[.bool r, .int .i64 0]) ∧ Below w.heap.size w w' := by
 obtain ⟨g0, c0, rfl, _, h2, h3, h4⟩ := hv.ex
 have hcode := code_good g0 c0 L w h4 h2 h3 (hm.cut hn)
 have hpos := hm.pos
 have HR := Lib.hid hr
 obtain ⟨n, hN⟩ : ∃ n, n = L.length := ⟨_, rfl⟩
 rw [← hN] at hcode hn hpos ⊢
 have HN := Lib.hid hN
 clear hv hm h2 h3 h4 hr hN
 go_enter Tryz.func11, Tryz.ntmps11
 go_upto_region 2 with (go_at_call 22; (with_reducible refine hcode.mono ?_); rintro e w1 ⟨va, vk, S, B1, rfl, hl, hp, hs, hB, ho, hb⟩; have HL := Lib.hid hl; have HP := Lib.hid hp; have HB1 := Lib.hid hB; have HO := Lib.hid ho; have KW := Lib.hid hb; clear hl hp hs hB ho hb)
 clear hcode
 obtain ⟨g1, k1, hvs, _, _⟩ := HO.out.form (by omega)
 injection hvs with u1 u2 u3
 subst u1; subst u3
 clear u2
 have hgl := HO.out.lt g1 rfl
 have hcap : n ≤ vk := by
  rcases HO.out.2 with ⟨_, e⟩ | ⟨gg, cap, cur, hv, _, _, hc, _⟩
  ·omega
  ·injection hv with e1 e2 e3; omega
 have hK := perf_plain (L := L) (S := S) HP.out
 have hSl : S.length = n := HL.out
 rw [hSl] at hK
 have hlen : (srt (zsF (szF S) n)).length = n := by rw [srt_len, zsF_len]
 have HLEN := Lib.hid hlen
 obtain ⟨K, hKK⟩ : ∃ K, K = (Go.Lib.compact (srt (zsF (szF S) n))).length := ⟨_, rfl⟩
 rw [← hKK] at hK
 have HKK := Lib.hid hKK
 have f1 : ((K : Int) == (n : Int)) = r := by
  rw [Bool.eq_iff_iff, HR.out, ← hK]
  simp
  omega
 have f2 : (K == n) = r := by
  rw [Bool.eq_iff_iff, HR.out, ← hK]
  simp
 have HCOMP : Hid (∀ wx, Holds (Value.int .i64) wx g1 0 (srt (zsF (szF S) n)).toArray → Calls Tryz.prog 31 #[.slice (some ⟨g1, 0, none⟩) n vk] wx fun e w' => e = .returned (.slice (some ⟨g1, 0, none⟩) K vk) ∧ Below B1 wx w') := Lib.hid (fun wx hH => by
  have h := compI_any wx B1 g1 vk (srt (zsF (szF S) n)) hH (by omega) (by omega) hgl.1
  rw [hlen, ← hKK] at h
  exact h)
 clear hK hSl hlen hKK
 go_wp2_with (first
  | (go_at_call 30; (with_reducible refine (sortI_any _ B1 g1 vk n (szF S) HO.out (by omega)).mono ?_); rintro e w2 ⟨rfl, hH, hb, hg⟩; have HH := Lib.hid hH; have KW := Lib.hid (KW.out.trans (hb.mono HB1.out)); clear hH hb hg)
  | (go_at_call 31; (with_reducible refine (HCOMP.out _ HH.out).mono ?_); rintro e w3 ⟨rfl, hb⟩; have KW := Lib.hid (KW.out.trans (hb.mono HB1.out)); clear hb))
 go_ret2
 exact ⟨rfl, KW.out⟩
end Go.Proofs.YtdfkhbflcacbfaaGreat

/- parts of a cut that are rectangles; plain law. -/
namespace Go.Proofs.YtdfkhbflcacbfaaGreat
open Go.RowKit
theorem cvN_pos {S : List Tr} {x y : Int} : ∀ {k i : Nat}, i < k → inT (S.getD i default) x y → 0 < cvN S x y k
 | 0, i, h, _ => by omega
 | k + 1, i, h, q => by
  simp only [cvN]
  by_cases e : i = k
  ·subst e
   have := cvN_nn S x y i
   rw [if_pos q]; omega
  ·have := cvN_pos (S := S) (k := k) (i := i) (by omega) q
   split <;> omega
/-- squares apart that cover their rectangle are a cut -/
theorem cut_of_covers {L : List Tr} (h1 : 0 < L.length) (h2 : L.length ≤ 24) (hr : ∀ i, i < L.length → RgT (L.getD i default)) (ha : ∀ i j, j < i → i < L.length → ApT (L.getD i default) (L.getD j default))
  (hc : ∀ x y : Int, 0 ≤ x → x < wdT L L.length → 0 ≤ y → y < htT L L.length → ∃ i, i < L.length ∧ inT (L.getD i default) x y) : CutOK L := by
 refine ⟨h1, h2, hr, ha, ?_⟩
 have hm := meas_bound hr L.length (Nat.le_refl _)
 obtain ⟨W, hW⟩ := Int.eq_ofNat_of_zero_le hm.1
 obtain ⟨H, hH⟩ := Int.eq_ofNat_of_zero_le hm.2.2.1
 have hs := cvN_sum (W := W) (H := H) hr (fun i hi => by rw [← hW]; exact wdT_ge L _ i hi) (fun i hi => by rw [← hH]; exact htT_ge L _ i hi) L.length (Nat.le_refl _)
 have e1 : ∀ x, x < W → sumZ (fun y => cvN L (x : Int) (y : Int) L.length) H = (H : Int) := fun x hx => by
  have : ∀ y, y < H → cvN L (x : Int) (y : Int) L.length = 1 := fun y hy => by
   obtain ⟨i, hi, q⟩ := hc x y (by omega) (by omega) (by omega) (by omega)
   have := cvN_pos hi q
   have := cvN_le ha (x : Int) (y : Int) L.length (Nat.le_refl _)
   omega
  rw [sumZ_congr this, sumZ_const]; omega
 rw [← hs, sumZ_congr e1, sumZ_const, hW, hH]
theorem wdT_leI {S : List Tr} {W : Int} (h0 : 0 ≤ W) : ∀ k, k ≤ S.length → (∀ i, i < k → (S.getD i default).a + (S.getD i default).c ≤ W) → wdT S k ≤ W
 | 0, _, _ => h0
 | k + 1, hk, h => by
  have := wdT_leI h0 k (by omega) (fun i hi => h i (by omega))
  have := h k (by omega)
  simp only [wdT]; split <;> omega
theorem htT_leI {S : List Tr} {H : Int} (h0 : 0 ≤ H) : ∀ k, k ≤ S.length → (∀ i, i < k → (S.getD i default).b + (S.getD i default).c ≤ H) → htT S k ≤ H
 | 0, _, _ => h0
 | k + 1, hk, h => by
  have := htT_leI h0 k (by omega) (fun i hi => h i (by omega))
  have := h k (by omega)
  simp only [htT]; split <;> omega
/-- a square seen from another corner -/
def shT (x y : Int) (t : Tr) : Tr := ⟨t.a - x, t.b - y, t.c⟩
def InR (x0 y0 x1 y1 : Int) (t : Tr) : Prop := x0 ≤ t.a ∧ t.a + t.c ≤ x1 ∧ y0 ≤ t.b ∧ t.b + t.c ≤ y1
def OutR (x0 y0 x1 y1 : Int) (t : Tr) : Prop := t.a + t.c ≤ x0 ∨ x1 ≤ t.a ∨ t.b + t.c ≤ y0 ∨ y1 ≤ t.b
instance (a b c d : Int) (t : Tr) : Decidable (InR a b c d t) := by unfold InR; infer_instance
instance (a b c d : Int) (t : Tr) : Decidable (OutR a b c d t) := by unfold OutR; infer_instance
/-- the squares of some numbers -/
def prt (S : List Tr) (A : List Nat) : List Tr := A.map (fun i => S.getD i default)
/-- the first k squares that lie inside -/
def insF (S : List Tr) (x0 y0 x1 y1 : Int) (k : Nat) : List Nat := (List.range k).filter (fun i => decide (InR x0 y0 x1 y1 (S.getD i default)))
theorem insF_succ (S : List Tr) (x0 y0 x1 y1 : Int) (k : Nat) : insF S x0 y0 x1 y1 (k + 1) = if InR x0 y0 x1 y1 (S.getD k default) then insF S x0 y0 x1 y1 k ++ [k] else insF S x0 y0 x1 y1 k := by
 unfold insF
 rw [List.range_succ, List.filter_append]
 split
 ·rename_i h; simp only [List.filter_cons, List.filter_nil, decide_eq_true h, if_true]
 ·rename_i h; simp only [List.filter_cons, List.filter_nil, decide_eq_false h, Bool.false_eq_true, if_false, List.append_nil]
theorem insF_mem (S : List Tr) (x0 y0 x1 y1 : Int) (k i : Nat) : i ∈ insF S x0 y0 x1 y1 k ↔ i < k ∧ InR x0 y0 x1 y1 (S.getD i default) := by simp [insF]
theorem insF_len (S : List Tr) (x0 y0 x1 y1 : Int) : ∀ k, (insF S x0 y0 x1 y1 k).length ≤ k
 | 0 => by simp [insF]
 | k + 1 => by
  have := insF_len S x0 y0 x1 y1 k
  rw [insF_succ]; split <;> simp <;> omega
theorem insF_inc (S : List Tr) (x0 y0 x1 y1 : Int) (k : Nat) : (insF S x0 y0 x1 y1 k).Pairwise (· < ·) := (List.pairwise_lt_range).sublist List.filter_sublist
/-- the rectangle from the corner of square i to that of square j -/
structure RecP (S : List Tr) (i j : Nat) (A : List Nat) : Prop where
 w : (S.getD i default).a < (S.getD j default).a + (S.getD j default).c
 h : (S.getD i default).b < (S.getD j default).b + (S.getD j default).c
 io : ∀ k, k < S.length → InR (S.getD i default).a (S.getD i default).b ((S.getD j default).a + (S.getD j default).c) ((S.getD j default).b + (S.getD j default).c) (S.getD k default) ∨ OutR (S.getD i default).a (S.getD i default).b ((S.getD j default).a + (S.getD j default).c) ((S.getD j default).b + (S.getD j default).c) (S.getD k default)
 e : A = insF S (S.getD i default).a (S.getD i default).b ((S.getD j default).a + (S.getD j default).c) ((S.getD j default).b + (S.getD j default).c) S.length
 two : 2 ≤ A.length
 few : A.length < S.length
def CandP (S : List Tr) (A : List Nat) : Prop := ∃ i j, i < S.length ∧ j < S.length ∧ RecP S i j A
/-- a set of squares that covers a rectangle -/
structure RecR (S : List Tr) (x y : Int) (A : List Nat) : Prop where
 inc : A.Pairwise (· < ·)
 lt : ∀ i, i ∈ A → i < S.length
 two : 2 ≤ A.length
 few : A.length < S.length
 xl : ∀ i, i ∈ A → x ≤ (S.getD i default).a
 yl : ∀ i, i ∈ A → y ≤ (S.getD i default).b
 cut : CutOK ((prt S A).map (shT x y))
def CandR (S : List Tr) (A : List Nat) : Prop := ∃ x y, RecR S x y A
theorem prt_get (S : List Tr) {A : List Nat} (x y : Int) {k : Nat} (hk : k < A.length) : ((prt S A).map (shT x y)).getD k default = shT x y (S.getD A[k] default) := by
 simp [prt, hk]
theorem prt_len (S : List Tr) (A : List Nat) (x y : Int) : ((prt S A).map (shT x y)).length = A.length := by simp [prt]
theorem cut_ap {S : List Tr} (h : CutOK S) {i j : Nat} (hi : i < S.length) (hj : j < S.length) (hne : i ≠ j) : ApT (S.getD i default) (S.getD j default) := by
 rcases Nat.lt_or_gt_of_ne hne with q | q
 ·exact ApT.symm (h.ap j i q hj)
 ·exact h.ap i j q hi
theorem RecP.cand {S : List Tr} {A : List Nat} {i j : Nat} (hC : CutOK S) (hi : i < S.length) (hj : j < S.length) (h : RecP S i j A) :
  RecR S (S.getD i default).a (S.getD i default).b A := by
 obtain ⟨hw, hh, hio, he, h2, hf⟩ := h
 have ri := hC.rg i hi
 have rj := hC.rg j hj
 have wj := wdT_ge S S.length j hj
 have hj2 := htT_ge S S.length j hj
 have := ri.a0; have := ri.b0; have := ri.c0; have := rj.c0
 generalize hx0 : (S.getD i default).a = x0 at *
 generalize hy0 : (S.getD i default).b = y0 at *
 generalize hx1 : (S.getD j default).a + (S.getD j default).c = x1 at *
 generalize hy1 : (S.getD j default).b + (S.getD j default).c = y1 at *
 have hmem : ∀ k, k ∈ A ↔ k < S.length ∧ InR x0 y0 x1 y1 (S.getD k default) := fun k => by rw [he]; exact insF_mem S x0 y0 x1 y1 S.length k
 have hinc : A.Pairwise (· < ·) := by rw [he]; exact insF_inc _ _ _ _ _ _
 have hlt : ∀ k, k ∈ A → k < S.length := fun k hk => ((hmem k).1 hk).1
 have hin : ∀ k, k ∈ A → InR x0 y0 x1 y1 (S.getD k default) := fun k hk => ((hmem k).1 hk).2
 refine ⟨hinc, hlt, h2, hf, fun k hk => (hin k hk).1, fun k hk => (hin k hk).2.2.1, ?_⟩
 have hl := prt_len S A x0 y0
 refine cut_of_covers (by omega) (by have := hC.few; omega) (fun k hk => ?_) (fun k m hmk hk => ?_) (fun x y hx hx2 hy hy2 => ?_)
 ·rw [hl] at hk
  rw [prt_get S x0 y0 hk]
  have hA := List.getElem_mem hk
  have r := hC.rg _ (hlt _ hA)
  have q := hin _ hA
  unfold InR at q
  have := r.c1; have := r.a1; have := r.b1
  exact ⟨by simp only [shT]; omega, by simp only [shT]; omega, r.c0, r.c1, by simp only [shT]; omega, by simp only [shT]; omega⟩
 ·rw [hl] at hk
  rw [prt_get S x0 y0 hk, prt_get S x0 y0 (show m < A.length by omega)]
  have hne := List.pairwise_iff_getElem.1 hinc m k (by omega) hk hmk
  have := cut_ap hC (hlt _ (List.getElem_mem hk)) (hlt _ (List.getElem_mem (show m < A.length by omega))) (by omega)
  unfold ApT at *
  simp only [shT]; omega
 ·rw [hl] at hx2 hy2 ⊢
  have hx3 : wdT ((prt S A).map (shT x0 y0)) A.length ≤ x1 - x0 := wdT_leI (by omega) A.length (by omega) (fun k hk => by
   rw [prt_get S x0 y0 hk]
   have q := hin _ (List.getElem_mem hk)
   unfold InR at q
   simp only [shT]; omega)
  have hy3 : htT ((prt S A).map (shT x0 y0)) A.length ≤ y1 - y0 := htT_leI (by omega) A.length (by omega) (fun k hk => by
   rw [prt_get S x0 y0 hk]
   have q := hin _ (List.getElem_mem hk)
   unfold InR at q
   simp only [shT]; omega)
  obtain ⟨k, hk, q⟩ := hC.covers (x := x + x0) (y := y + y0) (by omega) (by omega) (by omega) (by omega)
  have hkA : k ∈ A := (hmem k).2 ⟨hk, (hio k hk).elim id (fun o => by unfold OutR at o; unfold inT at q; omega)⟩
  obtain ⟨m, hm, hme⟩ := List.getElem_of_mem hkA
  refine ⟨m, hm, ?_⟩
  rw [prt_get S x0 y0 hm, hme]
  unfold inT at *
  simp only [shT]; omega
theorem RecR.candP {S : List Tr} {A : List Nat} {x y : Int} (hC : CutOK S) (h : RecR S x y A) : CandP S A := by
 obtain ⟨hinc, hlt, h2, hf, hxl, hyl, hcut⟩ := h
 have hl := prt_len S A x y
 have hpos := hcut.pos
 have hm := meas_bound hcut.rg ((prt S A).map (shT x y)).length (Nat.le_refl _)
 have r0 := hcut.rg 0 hpos
 have w0 := wdT_ge ((prt S A).map (shT x y)) ((prt S A).map (shT x y)).length 0 hpos
 have h0 := htT_ge ((prt S A).map (shT x y)) ((prt S A).map (shT x y)).length 0 hpos
 have := r0.a0; have := r0.b0; have := r0.c0
 obtain ⟨W, hW⟩ : ∃ W, W = wdT ((prt S A).map (shT x y)) ((prt S A).map (shT x y)).length := ⟨_, rfl⟩
 obtain ⟨H, hH⟩ : ∃ H, H = htT ((prt S A).map (shT x y)) ((prt S A).map (shT x y)).length := ⟨_, rfl⟩
 have hcov := fun (u v : Int) => hcut.covers (x := u) (y := v)
 have hwge : ∀ k, (hk : k < A.length) → (S.getD A[k] default).a - x + (S.getD A[k] default).c ≤ W := fun k hk => by
  have := wdT_ge ((prt S A).map (shT x y)) ((prt S A).map (shT x y)).length k (show k < ((prt S A).map (shT x y)).length by omega)
  rw [prt_get S x y hk, ← hW] at this
  exact this
 have hhge : ∀ k, (hk : k < A.length) → (S.getD A[k] default).b - y + (S.getD A[k] default).c ≤ H := fun k hk => by
  have := htT_ge ((prt S A).map (shT x y)) ((prt S A).map (shT x y)).length k (show k < ((prt S A).map (shT x y)).length by omega)
  rw [prt_get S x y hk, ← hH] at this
  exact this
 rw [← hW] at hcov hm w0
 rw [← hH] at hcov hm h0
 rw [hl] at hcov
 have hcov2 : ∀ u v : Int, x ≤ u → u < x + W → y ≤ v → v < y + H → ∃ k, ∃ hk : k < A.length, inT (S.getD A[k] default) u v := fun u v a1 a2 a3 a4 => by
  obtain ⟨k, hk, q⟩ := hcov (u - x) (v - y) (by omega) (by omega) (by omega) (by omega)
  rw [prt_get S x y hk] at q
  refine ⟨k, hk, ?_⟩
  unfold inT at *
  simp only [shT] at q; omega
 obtain ⟨ki, hki, qi⟩ := hcov2 x y (by omega) (by omega) (by omega) (by omega)
 obtain ⟨kj, hkj, qj⟩ := hcov2 (x + W - 1) (y + H - 1) (by omega) (by omega) (by omega) (by omega)
 have mi := List.getElem_mem hki
 have mj := List.getElem_mem hkj
 have x1 := hxl _ mi
 have y1 := hyl _ mi
 have x2 := hwge kj hkj
 have y2 := hhge kj hkj
 unfold inT at qi qj
 have ea : (S.getD A[ki] default).a = x := by omega
 have eb : (S.getD A[ki] default).b = y := by omega
 have ec : (S.getD A[kj] default).a + (S.getD A[kj] default).c = x + W := by omega
 have ed : (S.getD A[kj] default).b + (S.getD A[kj] default).c = y + H := by omega
 have hin : ∀ k, k ∈ A → InR x y (x + W) (y + H) (S.getD k default) := fun k hk => by
  obtain ⟨m, hm, rfl⟩ := List.getElem_of_mem hk
  have a1 := hxl _ hk
  have a2 := hyl _ hk
  have a3 := hwge m hm
  have a4 := hhge m hm
  unfold InR; omega
 have hout : ∀ k, k < S.length → k ∉ A → OutR x y (x + W) (y + H) (S.getD k default) := fun k hk hn => by
  refine Classical.byContradiction (fun q => ?_)
  have rk := hC.rg k hk
  have := rk.c0
  unfold OutR at q
  obtain ⟨m, hm, p⟩ := hcov2 (max x (S.getD k default).a) (max y (S.getD k default).b) (by omega) (by omega) (by omega) (by omega)
  have hne : k ≠ A[m] := fun e => hn (by rw [e]; exact List.getElem_mem hm)
  have ap := cut_ap hC hk (hlt _ (List.getElem_mem hm)) hne
  exact apT_in ap (x := max x (S.getD k default).a) (y := max y (S.getD k default).b) (by unfold inT; omega) p
 refine ⟨A[ki], A[kj], hlt _ mi, hlt _ mj, ?_⟩
 constructor
 ·rw [ea, ec]; omega
 ·rw [eb, ed]; omega
 ·intro k hk
  rw [ea, eb, ec, ed]
  by_cases e : k ∈ A
  ·exact .inl (hin k e)
  ·exact .inr (hout k hk e)
 ·rw [ea, eb, ec, ed]
  refine sorted_ext (R := (· < ·)) (fun a b q => by omega) A _ hinc (insF_inc _ _ _ _ _ _) (fun k => ?_)
  rw [insF_mem]
  constructor
  ·exact fun hk => ⟨hlt k hk, hin k hk⟩
  ·rintro ⟨hk, q⟩
   refine Classical.byContradiction (fun e => ?_)
   have := hout k hk e
   have := (hC.rg k hk).c0
   unfold InR at q
   unfold OutR at *
   omega
 ·exact h2
 ·exact hf
theorem cand_iff {S : List Tr} (hC : CutOK S) (A : List Nat) : CandP S A ↔ CandR S A :=
 ⟨fun ⟨i, j, hi, hj, h⟩ => ⟨_, _, h.cand hC hi hj⟩, fun ⟨x, y, h⟩ => h.candP hC⟩
/-- the order in which parts are preferred -/
def ltA (A B : List Nat) : Prop := A.length < B.length ∨ (A.length = B.length ∧ lexN A B = true)
theorem ltA_asym {A B : List Nat} (h : ltA A B) : ¬ ltA B A := by
 unfold ltA at *
 rcases h with h | ⟨h, h2⟩
 ·omega
 ·rintro (k | ⟨k, k2⟩)
  ·omega
  ·rw [lexN_asym A B h2] at k2; cases k2
theorem ltA_trans {A B C : List Nat} (h : ltA A B) (k : ltA B C) : ltA A C := by
 unfold ltA at *
 rcases h with h | ⟨h, h2⟩ <;> rcases k with k | ⟨k, k2⟩
 ·left; omega
 ·left; omega
 ·left; omega
 ·right; exact ⟨by omega, lexN_trans _ _ _ h2 k2⟩
/-- the best of those that satisfy C; the empty list if there is none -/
structure BestL (C : List Nat → Prop) (b : List Nat) : Prop where
 is : b ≠ [] → C b
 no : ∀ A, C A → b ≠ [] ∧ ¬ ltA A b
theorem BestL.none (C : List Nat → Prop) (h : ∀ A, ¬ C A) : BestL C [] := ⟨fun e => absurd rfl e, fun A hA => absurd hA (h A)⟩
theorem BestL.keep {C D : List Nat → Prop} {b : List Nat} (h : BestL C b) (hD : ∀ A, D A → C A ∨ (b ≠ [] ∧ ¬ ltA A b)) (hC : ∀ A, C A → D A) : BestL D b :=
 ⟨fun e => hC b (h.is e), fun A hA => (hD A hA).elim (h.no A) id⟩
theorem BestL.take {C D : List Nat → Prop} {b A : List Nat} (h : BestL C b) (hA : A ≠ []) (hb : b = [] ∨ ltA A b) (hD : ∀ B, D B ↔ C B ∨ B = A) : BestL D A :=
 ⟨fun _ => (hD A).2 (.inr rfl), fun B hB => ⟨hA, by
  rcases (hD B).1 hB with q | rfl
  ·obtain ⟨n1, n2⟩ := h.no B q
   rcases hb with e | e
   ·exact absurd e n1
   ·exact fun k => n2 (ltA_trans k e)
  ·exact fun k => ltA_asym k k⟩⟩
end Go.Proofs.YtdfkhbflcacbfaaGreat
