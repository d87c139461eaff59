/- Cuts that are made by adding rows of equal squares, plainly. -/
import Derived.Test.YtolkchkedieppaaGreatUPlainCv
import Derived.Test.YtolkchkedieppaaGreatURdA
set_option linter.unusedVariables false
set_option linter.unusedSimpArgs false
namespace Go.Proofs.YtolkchkedieppaaGreat
def sumC : List Tr → Int
 | [] => 0
 | t :: l => t.c * t.c + sumC l
theorem sumC_app : ∀ (a b : List Tr), sumC (a ++ b) = sumC a + sumC b
 | [], b => by simp [sumC]
 | t :: a, b => by simp only [List.cons_append, sumC, sumC_app a b]; omega
/-- a cut with its measures -/
structure MkC (L : List Tr) (W H : Nat) : Prop where
 pos : 0 < L.length
 w1 : 1 ≤ W
 h1 : 1 ≤ H
 wb : W ≤ 1000
 hb : H ≤ 1000
 rg : ∀ t, t ∈ L → 0 ≤ t.a ∧ 0 ≤ t.b ∧ 1 ≤ t.c ∧ t.a + t.c ≤ (W : Int) ∧ t.b + t.c ≤ (H : Int)
 ap : L.Pairwise (fun p q => ApT q p)
 ar : sumC L = (W : Int) * (H : Int)
 mw : ∃ t, t ∈ L ∧ t.a + t.c = (W : Int)
 mh : ∃ t, t ∈ L ∧ t.b + t.c = (H : Int)
theorem getD_memT {L : List Tr} {i : Nat} (h : i < L.length) : L.getD i default ∈ L := by simp [h]
theorem arT_sum (S : List Tr) : ∀ k, k ≤ S.length → arT S k = sumC (S.take k)
 | 0, _ => rfl
 | k + 1, h => by
  have e : S.take (k + 1) = S.take k ++ [S.getD k default] := by rw [List.take_add_one]; simp [show k < S.length by omega]
  simp only [arT]
  rw [e, sumC_app, arT_sum S k (by omega)]
  simp [sumC]
theorem wdT_le {S : List Tr} {W : Int} (h0 : 0 ≤ W) (h : ∀ t, t ∈ S → t.a + t.c ≤ W) : ∀ k, k ≤ S.length → wdT S k ≤ W
 | 0, _ => h0
 | k + 1, hk => by
  have := wdT_le h0 h k (by omega)
  have := h _ (getD_memT (show k < S.length by omega))
  simp only [wdT]; split <;> omega
theorem htT_le {S : List Tr} {H : Int} (h0 : 0 ≤ H) (h : ∀ t, t ∈ S → t.b + t.c ≤ H) : ∀ k, k ≤ S.length → htT S k ≤ H
 | 0, _ => h0
 | k + 1, hk => by
  have := htT_le h0 h k (by omega)
  have := h _ (getD_memT (show k < S.length by omega))
  simp only [htT]; split <;> omega
theorem MkC.wd {L : List Tr} {W H : Nat} (h : MkC L W H) : wdT L L.length = (W : Int) := by
 have h1 := wdT_le (S := L) (W := (W : Int)) (by omega) (fun t ht => (h.rg t ht).2.2.2.1) L.length (Nat.le_refl _)
 obtain ⟨t, ht, e⟩ := h.mw
 obtain ⟨i, hi, rfl⟩ := List.getElem_of_mem ht
 have h2 := wdT_ge L L.length i hi
 simp [hi] at h2
 omega
theorem MkC.ht {L : List Tr} {W H : Nat} (h : MkC L W H) : htT L L.length = (H : Int) := by
 have h1 := htT_le (S := L) (H := (H : Int)) (by omega) (fun t ht => (h.rg t ht).2.2.2.2) L.length (Nat.le_refl _)
 obtain ⟨t, ht, e⟩ := h.mh
 obtain ⟨i, hi, rfl⟩ := List.getElem_of_mem ht
 have h2 := htT_ge L L.length i hi
 simp [hi] at h2
 omega
theorem MkC.cut {L : List Tr} {W H : Nat} (h : MkC L W H) (hn : L.length ≤ 24) : CutOK L := by
 refine ⟨h.pos, hn, fun i hi => ?_, fun i j hji hi => ?_, ?_⟩
 ·obtain ⟨h1, h2, h3, h4, h5⟩ := h.rg _ (getD_memT hi)
  have := h.wb
  have := h.hb
  exact ⟨h1, h2, h3, by omega, by omega, by omega⟩
 ·have := List.pairwise_iff_getElem.1 h.ap j i (by omega) hi hji
  simpa [hi, Nat.lt_trans hji hi] using this
 ·rw [h.wd, h.ht, arT_sum L L.length (Nat.le_refl _), List.take_length]; exact h.ar
theorem MkC.one : MkC [⟨0, 0, 1⟩] 1 1 :=
 ⟨by decide, by decide, by decide, by decide, by decide, fun t ht => by simp at ht; subst ht; decide, by simp, by decide, ⟨_, List.mem_singleton.2 rfl, rfl⟩, ⟨_, List.mem_singleton.2 rfl, rfl⟩⟩
/-- scaled -/
def sclT (m : Nat) (t : Tr) : Tr := ⟨t.a * m, t.b * m, t.c * m⟩
theorem mul4 (a b c d : Int) : a * b * (c * d) = a * c * (b * d) := by
 rw [Int.mul_assoc, Int.mul_assoc, ← Int.mul_assoc b c d, ← Int.mul_assoc c b d, Int.mul_comm b c]
theorem sumC_scl (m : Nat) : ∀ L, sumC (L.map (sclT m)) = sumC L * ((m : Int) * m)
 | [] => by simp [sumC]
 | t :: l => by
  simp only [List.map_cons, sumC, sumC_scl m l, sclT, Int.add_mul]
  congr 1
  rw [mul4]
theorem mul_le' {a b : Int} (m : Nat) (h : a ≤ b) : a * (m : Int) ≤ b * (m : Int) := Int.mul_le_mul_of_nonneg_right h (by omega)
theorem ApT.scl {p q : Tr} (m : Nat) (h : ApT p q) : ApT (sclT m p) (sclT m q) := by
 unfold ApT at *
 simp only [sclT, ← Int.add_mul]
 rcases h with h | h | h | h
 ·exact .inl (mul_le' m h)
 ·exact .inr (.inl (mul_le' m h))
 ·exact .inr (.inr (.inl (mul_le' m h)))
 ·exact .inr (.inr (.inr (mul_le' m h)))
theorem MkC.scale {L : List Tr} {W H m : Nat} (h : MkC L W H) (hm : 1 ≤ m) (hw : W * m ≤ 1000) (hh : H * m ≤ 1000) : MkC (L.map (sclT m)) (W * m) (H * m) := by
 refine ⟨by rw [List.length_map]; exact h.pos, Nat.mul_le_mul h.w1 hm, Nat.mul_le_mul h.h1 hm, hw, hh, fun t ht => ?_, ?_, ?_, ?_, ?_⟩
 ·obtain ⟨u, hu, rfl⟩ := List.mem_map.1 ht
  obtain ⟨h1, h2, h3, h4, h5⟩ := h.rg u hu
  have g1 := mul_le' m h1
  have g2 := mul_le' m h2
  have g3 := mul_le' m h3
  have g4 := mul_le' m h4
  have g5 := mul_le' m h5
  rw [Int.add_mul] at g4 g5
  rw [Int.zero_mul] at g1 g2
  rw [Int.one_mul] at g3
  simp only [sclT, Int.natCast_mul]
  exact ⟨g1, g2, by omega, g4, g5⟩
 ·rw [List.pairwise_map]
  exact h.ap.imp (fun e => e.scl m)
 ·rw [sumC_scl, h.ar, Int.natCast_mul, Int.natCast_mul]
  rw [mul4]
 ·obtain ⟨t, ht, e⟩ := h.mw
  exact ⟨sclT m t, List.mem_map_of_mem ht, by simp only [sclT]; rw [← Int.add_mul, e, Int.natCast_mul]⟩
 ·obtain ⟨t, ht, e⟩ := h.mh
  exact ⟨sclT m t, List.mem_map_of_mem ht, by simp only [sclT]; rw [← Int.add_mul, e, Int.natCast_mul]⟩
/-- k squares of side s, one beside the other: down the right side, or along the bottom -/
def colT (W s k : Nat) : List Tr := (List.range k).map (fun i => ⟨(W : Int), ((i * s : Nat) : Int), (s : Int)⟩)
def rowT (H s k : Nat) : List Tr := (List.range k).map (fun i => ⟨((i * s : Nat) : Int), (H : Int), (s : Int)⟩)
theorem colT_succ (W s k : Nat) : colT W s (k + 1) = colT W s k ++ [⟨(W : Int), ((k * s : Nat) : Int), (s : Int)⟩] := by unfold colT; rw [List.range_succ, List.map_append]; rfl
theorem rowT_succ (H s k : Nat) : rowT H s (k + 1) = rowT H s k ++ [⟨((k * s : Nat) : Int), (H : Int), (s : Int)⟩] := by unfold rowT; rw [List.range_succ, List.map_append]; rfl
theorem colT_len (W s k : Nat) : (colT W s k).length = k := by simp [colT]
theorem rowT_len (W s k : Nat) : (rowT W s k).length = k := by simp [rowT]
theorem sumC_col (W s : Nat) : ∀ k, sumC (colT W s k) = ((s * s * k : Nat) : Int)
 | 0 => by simp [colT, sumC]
 | k + 1 => by
  rw [colT_succ, sumC_app, sumC_col W s k]
  simp only [sumC, Nat.mul_succ, Int.natCast_add, Int.natCast_mul]; omega
theorem sumC_row (W s : Nat) : ∀ k, sumC (rowT W s k) = ((s * s * k : Nat) : Int)
 | 0 => by simp [rowT, sumC]
 | k + 1 => by
  rw [rowT_succ, sumC_app, sumC_row W s k]
  simp only [sumC, Nat.mul_succ, Int.natCast_add, Int.natCast_mul]; omega
theorem step_le {i j s : Nat} (h : i < j) : i * s + s ≤ j * s := by
 have := Nat.mul_le_mul_right s (show i + 1 ≤ j from h)
 rw [Nat.add_mul, Nat.one_mul] at this
 exact this
theorem MkC.right {L : List Tr} {W s m : Nat} (h : MkC L W (s * m)) (hs : 1 ≤ s) (hm : 1 ≤ m) (hw : W + s ≤ 1000) : MkC (L ++ colT W s m) (W + s) (s * m) := by
 have mem : ∀ t, t ∈ colT W s m → ∃ i, i < m ∧ t = ⟨(W : Int), ((i * s : Nat) : Int), (s : Int)⟩ := fun t ht => by
  simp only [colT, List.mem_map, List.mem_range] at ht
  obtain ⟨i, hi, rfl⟩ := ht
  exact ⟨i, hi, rfl⟩
 refine ⟨by rw [List.length_append]; have := h.pos; omega, by omega, h.h1, hw, h.hb, fun t ht => ?_, ?_, ?_, ?_, ?_⟩
 ·rcases List.mem_append.1 ht with ht | ht
  ·obtain ⟨h1, h2, h3, h4, h5⟩ := h.rg t ht
   exact ⟨h1, h2, h3, by omega, h5⟩
  ·obtain ⟨i, hi, rfl⟩ := mem t ht
   have := step_le (s := s) hi
   rw [Nat.mul_comm m s] at this
   refine ⟨by simp, by simp only; omega, by simp only; omega, by simp, by simp only; omega⟩
 ·rw [List.pairwise_append]
  refine ⟨h.ap, ?_, fun p hp q hq => ?_⟩
  ·unfold colT
   rw [List.pairwise_map]
   exact List.pairwise_lt_range.imp (fun {a b} hab => by
    have := step_le (s := s) hab
    unfold ApT; simp only; omega)
  ·obtain ⟨i, hi, rfl⟩ := mem q hq
   have := (h.rg p hp).2.2.2.1
   unfold ApT; simp only; omega
 ·rw [sumC_app, h.ar, sumC_col, ← Int.natCast_mul, ← Int.natCast_mul, ← Int.natCast_add]
  congr 1
  rw [Nat.add_mul, Nat.mul_assoc]
 ·exact ⟨⟨(W : Int), ((0 * s : Nat) : Int), (s : Int)⟩, List.mem_append.2 (.inr (by simp only [colT, List.mem_map, List.mem_range]; exact ⟨0, hm, rfl⟩)), by simp⟩
 ·obtain ⟨t, ht, e⟩ := h.mh
  exact ⟨t, List.mem_append.2 (.inl ht), e⟩
theorem MkC.down {L : List Tr} {H s m : Nat} (h : MkC L (s * m) H) (hs : 1 ≤ s) (hm : 1 ≤ m) (hh : H + s ≤ 1000) : MkC (L ++ rowT H s m) (s * m) (H + s) := by
 have mem : ∀ t, t ∈ rowT H s m → ∃ i, i < m ∧ t = ⟨((i * s : Nat) : Int), (H : Int), (s : Int)⟩ := fun t ht => by
  simp only [rowT, List.mem_map, List.mem_range] at ht
  obtain ⟨i, hi, rfl⟩ := ht
  exact ⟨i, hi, rfl⟩
 refine ⟨by rw [List.length_append]; have := h.pos; omega, h.w1, by omega, h.wb, hh, fun t ht => ?_, ?_, ?_, ?_, ?_⟩
 ·rcases List.mem_append.1 ht with ht | ht
  ·obtain ⟨h1, h2, h3, h4, h5⟩ := h.rg t ht
   exact ⟨h1, h2, h3, h4, by omega⟩
  ·obtain ⟨i, hi, rfl⟩ := mem t ht
   have := step_le (s := s) hi
   rw [Nat.mul_comm m s] at this
   refine ⟨by simp only; omega, by simp, by simp only; omega, by simp only; omega, by simp⟩
 ·rw [List.pairwise_append]
  refine ⟨h.ap, ?_, fun p hp q hq => ?_⟩
  ·unfold rowT
   rw [List.pairwise_map]
   exact List.pairwise_lt_range.imp (fun {a b} hab => by
    have := step_le (s := s) hab
    unfold ApT; simp only; omega)
  ·obtain ⟨i, hi, rfl⟩ := mem q hq
   have := (h.rg p hp).2.2.2.2
   unfold ApT; simp only; omega
 ·rw [sumC_app, h.ar, sumC_row, ← Int.natCast_mul, ← Int.natCast_mul, ← Int.natCast_add]
  congr 1
  rw [Nat.mul_add]
  congr 1
  rw [Nat.mul_assoc, Nat.mul_assoc]
  congr 1
  exact Nat.mul_comm s m
 ·obtain ⟨t, ht, e⟩ := h.mw
  exact ⟨t, List.mem_append.2 (.inl ht), e⟩
 ·exact ⟨⟨((0 * s : Nat) : Int), (H : Int), (s : Int)⟩, List.mem_append.2 (.inr (by simp only [rowT, List.mem_map, List.mem_range]; exact ⟨0, hm, rfl⟩)), by simp⟩
end Go.Proofs.YtolkchkedieppaaGreat

/- Lines of a cut: compared and sorted. -/
namespace Go.Proofs.YtolkchkedieppaaGreat
open Go.RowKit Go.Sort Go.Shelf Go.Lib
attribute [local go_sem ↓] Go.wp_at_zero Go.wp_at_succ
/-- how lines are compared: by y, then from, then to -/
def cmpL (p q : Tr) : Int := if p.a < q.a then -1 else if q.a < p.a then 1 else if p.b < q.b then -1 else if q.b < p.b then 1 else if p.c < q.c then -1 else if q.c < p.c then 1 else 0
def ltL (p q : Tr) : Prop := p.a < q.a ∨ (p.a = q.a ∧ (p.b < q.b ∨ (p.b = q.b ∧ p.c < q.c)))
theorem cmpL_lt (p q : Tr) : cmpL p q < 0 ↔ ltL p q := by
 unfold cmpL ltL
 repeat' split
 all_goals (simp; try omega)
theorem swo_cmpL : Go.Sort.SWO (ltOf cmpL) where
 irrefl x := by rw [ltOf, decide_eq_false_iff_not, cmpL_lt]; unfold ltL; omega
 trans x y z h1 h2 := by
  rw [ltOf, decide_eq_true_iff, cmpL_lt] at *
  unfold ltL at *; omega
 ntrans x y z h1 h2 := by
  rw [ltOf, decide_eq_false_iff_not, cmpL_lt] at *
  unfold ltL at *; omega
def thF (p q r : Int) : Nat → Int := fun j => if j = 0 then p else if j = 1 then q else r
theorem th_ints (w : World) (p q r : Int) : Ints (w.alloc (.cells #[.int .i64 p, .int .i64 q, .int .i64 r] 3)) (.slice (some ⟨w.heap.size, 0, none⟩) 3 3) 3 (thF p q r) :=
 ints_of_own (base := w.heap.size) ⟨rfl, .inr ⟨w.heap.size, 3, #[.int .i64 p, .int .i64 q, .int .i64 r], rfl, Nat.le_refl _, heap_alloc_new w _, by omega, by unfold maxLen; omega, rfl, rfl⟩⟩
theorem lexLn (x y : Tr) : lexC (thF x.a x.b x.c) (thF y.a y.b y.c) 3 3 3 0 = cmpL x y := by
 have t0 : ∀ p q r : Int, thF p q r 0 = p := fun _ _ _ => rfl
 have t1 : ∀ p q r : Int, thF p q r 1 = q := fun _ _ _ => rfl
 have t2 : ∀ p q r : Int, thF p q r 2 = r := fun _ _ _ => rfl
 simp only [lexC, cmp3, cmpL, Nat.zero_add, Nat.reduceAdd, t0, t1, t2]
 by_cases a1 : x.a < y.a
 ·simp [a1]
 ·by_cases a2 : y.a < x.a
  ·simp [a1, a2]
  ·by_cases b1 : x.b < y.b
   ·simp [a1, a2, b1]
   ·by_cases b2 : y.b < x.b
    ·simp [a1, a2, b1, b2]
    ·by_cases c1 : x.c < y.c
     ·simp [a1, a2, b1, b2, c1]
     ·by_cases c2 : y.c < x.c
      ·simp [a1, a2, b1, b2, c1, c2]
      ·simp [a1, a2, b1, b2, c1, c2]
theorem ownT_sort {w : World} {base g cap : Nat} {e : TypeId} {P : List Tr} {d : Array Tr} {m : Nat} {os : Array Obj} (h : w.ownsRow base e 3 (.slice (some ⟨g, 0, none⟩) P.length cap) P.length (trL P)) (hs : d.size = P.length) :
  (sortWorldK trC 3 w g 0 m d os).ownsRow base e 3 (.slice (some ⟨g, 0, none⟩) P.length cap) P.length (trL d.toList) := by
 have hl : d.toList.length = P.length := by simpa using hs
 have hH := holdsK_sortWorldK_c trC 3 w g 0 P.toArray d m os (holdsT_own h) (h.lt g rfl).2 (by simpa using hs)
 rcases h.2 with ⟨h', _⟩ | ⟨g', cap', cur, h', hb, hg, hnc, hcm, hcs, htake⟩
 ·simp at h'
 ·simp only [Value.slice.injEq, Option.some.injEq, Addr.mk.injEq, and_true, true_and] at h'
  obtain ⟨rfl, rfl⟩ := h'
  have hlt : g < w.heap.size := (Array.getElem?_eq_some_iff.1 hg).1
  have hblk : (sortWorldK trC 3 w g 0 m d os).heap[g]? = some (.cells (putCells id 0 (flatK trC 3 d) cur) e (0, 0)) := by
   unfold sortWorldK grow putRowK putRow mapBlock
   rw [Array.getElem?_append_left (by simp [Sort.ahead]; omega), Array.getElem?_modify, if_pos rfl]
   show (w.heap[g]?).map _ = _
   rw [hg]; rfl
  refine ⟨by rw [trL_len, hl], .inr ⟨g, cap, _, rfl, hb, hblk, hnc, hcm, by simp [putCells, hcs], ?_⟩⟩
  have hn3 : P.length * 3 ≤ cap * 3 := Nat.mul_le_mul_right 3 hnc
  apply List.ext_getElem?
  intro t
  by_cases ht : t < P.length * 3
  ·have hc := (hH t (by simpa [hs] using ht)).1
   rw [Nat.zero_add, cell_of_row _ g t _ e (0, 0) hblk] at hc
   have hf := flatT_get d.toList t (by rw [hl]; exact ht)
   rw [List.getElem?_take, if_pos ht, trL_get d.toList t (by rw [hl]; exact ht), Array.getElem?_toList, hc]
   rw [show d.toList.toArray = d by simp] at hf
   rw [id, hf]
   have h3 : t % 3 < 3 := Nat.mod_lt _ (by omega)
   generalize d.toList.getD (t / 3) default = x
   rcases (show t % 3 = 0 ∨ t % 3 = 1 ∨ t % 3 = 2 by omega) with e | e | e <;> rw [e] <;> rfl
  ·rw [List.getElem?_take, if_neg ht, List.getElem?_eq_none_iff.2 (by rw [trL_len, hl]; omega)]
set_option maxHeartbeats 1000000 in
set_option maxRecDepth 100000 in
theorem lcmp_any (x y : Tr) (W : World) : Calls Tryz.prog 107 #[.agg #[.int .i64 x.a, .int .i64 x.b, .int .i64 x.c], .agg #[.int .i64 y.a, .int .i64 y.b, .int .i64 y.c]] W fun e w' => e = .returned (.int .i64 (cmpL x y)) ∧ ∃ q os', w' = grow (W.drewN q) os' := by
 obtain ⟨W2, hW2⟩ : ∃ W2, W2 = (W.alloc (.cells #[.int .i64 x.a, .int .i64 x.b, .int .i64 x.c] 96)).alloc (.cells #[.int .i64 y.a, .int .i64 y.b, .int .i64 y.c] 96) := ⟨_, rfl⟩
 have e2 : W2.heap.size = W.heap.size + 1 + 1 := by rw [hW2]; simp
 have hcon := compare_ints _ _ 3 3 (thF x.a x.b x.c) (thF y.a y.b y.c) _ ((th_ints W2 x.a x.b x.c).mono ((Below.refl _ _).alloc (Nat.le_refl _) (.cells #[.int .i64 y.a, .int .i64 y.b, .int .i64 y.c] 3)) (Nat.le_refl _)) (th_ints (W2.alloc (.cells #[.int .i64 x.a, .int .i64 x.b, .int .i64 x.c] 3)) y.a y.b y.c) (by omega) (by omega)
 rw [lexLn, World.size_alloc, e2] at hcon
 rw [hW2] at hcon
 clear hW2 e2
 generalize cmpL x y = r at hcon ⊢
 go_enter Tryz.func107, Tryz.ntmps107
 go_wp2_with (go_at_call 97; (with_reducible refine hcon.mono ?_); rintro e w' ⟨rfl, rfl⟩)
 go_ret
 exact ⟨rfl, grow4T _ _ _ _ _⟩
theorem lcmp_lays (blk off size : Nat) (w : World) : CmpLays Tryz.prog 107 #[] trC 3 cmpL blk off size w :=
 fun _ _ _ _ x y => lcmp_any x y _
set_option maxHeartbeats 1000000 in
theorem sortLn_any (w : World) (base g cap : Nat) (P : List Tr) (h : w.ownsRow base 96 3 (.slice (some ⟨g, 0, none⟩) P.length cap) P.length (trL P)) (h1000 : P.length ≤ 1000) :
  Calls Tryz.prog 106 #[.slice (some ⟨g, 0, none⟩) P.length cap, .func (.func 107) #[] #[]] w fun e w' => e = .returned (.tuple #[]) ∧ ∃ P' : List Tr, P'.length = P.length ∧ P.Perm P' ∧ P'.Pairwise (fun a b => ¬ ltL b a) ∧ w'.ownsRow base 96 3 (.slice (some ⟨g, 0, none⟩) P'.length cap) P'.length (trL P') ∧ Below g w w' ∧ g < w'.heap.size ∧ (∀ k, k ≠ g → k < w.heap.size → w'.heap[k]? = w.heap[k]?) := by
 have hgb : base ≤ g ∧ g < w.heap.size := h.lt g rfl
 have eg : ∀ args w, (callFunc 107 args).run Tryz.prog w = .ok (.enter 107 args) w := enters_of Tryz.func107 (by kernel_rfl) rfl
 have hcon := AnyQ.slices_SortFunc Tryz.sortLn 3 Tryz.isAgg96 Tryz.sizeOf96 trC (fun _ => rfl) (fun x v hv => by simp [trC] at hv; rcases hv with rfl | rfl | rfl <;> rfl) cmpL swo_cmpL 107 #[] g 0 cap P.toArray w eg (lcmp_lays g 0 P.toArray.size w) (holdsT_own h) hgb.2 (by simp; omega)
 rw [show P.toArray.size = P.length from rfl] at hcon
 refine Calls.mono hcon ?_
 rintro e w' ⟨rfl, d', n, os, hp, hs, rfl⟩
 have hsz : d'.size = P.length := by have := hp.1; simpa using this
 refine ⟨rfl, d'.toList, by simpa using hsz, by have := permT_of hp; simpa using this, ?_, ?_, sortT_below (Nat.le_refl _) (by omega), ?_, fun k hk hkw => ?_⟩
 ·have := sortedT_of (d := P.toArray) (by simpa using hsz) hs
  exact this.imp (fun {a b} q e => q ((cmpL_lt _ _).2 e))
 ·have := ownT_sort (m := n) (os := os) h hsz
  rw [show d'.toList.length = P.length by simpa using hsz]
  exact this
 ·exact Nat.lt_of_lt_of_le hgb.2 (size_sortWorldK_c _ _ _ _ _ _ _ _)
 ·unfold sortWorldK grow putRowK putRow mapBlock
  rw [Array.getElem?_append_left (by simp [Sort.ahead]; omega), Array.getElem?_modify, if_neg (fun e => hk e.symm)]
  rfl
end Go.Proofs.YtolkchkedieppaaGreat

/- Lines of a cut, plainly; and an append into a row that is longer. -/
namespace Go.Proofs.YtolkchkedieppaaGreat
open Go.RowKit
attribute [local go_sem ↓] Go.wp_at_zero Go.wp_at_succ
/-- the lines of the first k squares, two of each -/
def rawF (S : List Tr) : Nat → List Tr
 | 0 => []
 | k + 1 => rawF S k ++ [⟨(S.getD k default).b, (S.getD k default).a, (S.getD k default).a + (S.getD k default).c⟩, ⟨(S.getD k default).b + (S.getD k default).c, (S.getD k default).a, (S.getD k default).a + (S.getD k default).c⟩]
theorem rawF_len (S : List Tr) : ∀ k, (rawF S k).length = 2 * k
 | 0 => rfl
 | k + 1 => by rw [rawF, List.length_append, rawF_len S k]; simp; omega
/-- a line more: joined to the last one, or behind it -/
def jn (J : List Tr) (l : Tr) : List Tr :=
 if (J.getD (J.length - 1) default).a = l.a ∧ l.b ≤ (J.getD (J.length - 1) default).c then
  J.set (J.length - 1) ⟨(J.getD (J.length - 1) default).a, (J.getD (J.length - 1) default).b, if (J.getD (J.length - 1) default).c < l.c then l.c else (J.getD (J.length - 1) default).c⟩
 else J ++ [l]
/-- the first k + 1 lines, joined -/
def joinF (P : List Tr) : Nat → List Tr
 | 0 => [P.getD 0 default]
 | k + 1 => jn (joinF P k) (P.getD (k + 1) default)
theorem jn_len (J : List Tr) (l : Tr) : J.length ≤ (jn J l).length ∧ (jn J l).length ≤ J.length + 1 := by
 unfold jn; split
 ·simp
 ·simp
theorem joinF_len (P : List Tr) : ∀ k, 1 ≤ (joinF P k).length ∧ (joinF P k).length ≤ k + 1
 | 0 => by simp [joinF]
 | k + 1 => by
  have := joinF_len P k
  have := jn_len (joinF P k) (P.getD (k + 1) default)
  simp only [joinF]; omega
theorem drop_cons_getD (P : List Tr) (m : Nat) (h : m < P.length) : P.drop m = P.getD m default :: P.drop (m + 1) := by
 rw [List.drop_eq_getElem_cons h]; simp [h]
theorem join_get {J P : List Tr} {i : Nat} (h : J.length ≤ i) (hi : i < P.length) : (J ++ P.drop J.length).getD i default = P.getD i default := by
 rw [List.getD_eq_getElem?_getD, List.getD_eq_getElem?_getD, List.getElem?_append_right h, List.getElem?_drop, show J.length + (i - J.length) = i by omega]
theorem join_get_old {J P : List Tr} {i : Nat} (h : i < J.length) : (J ++ P.drop J.length).getD i default = J.getD i default := by
 rw [List.getD_eq_getElem?_getD, List.getD_eq_getElem?_getD, List.getElem?_append_left h]
theorem trL_set : ∀ (P : List Tr) (i : Nat) (x : Tr) (v : Int), i < P.length → x = ⟨(P.getD i default).a, (P.getD i default).b, v⟩ → (trL P).set (i * 3 + 2) (.int .i64 v) = trL (P.set i x)
 | [], i, x, v, h, _ => by simp at h
 | p :: P, 0, x, v, _, e => by
  subst e
  simp [trL, trC]
 | p :: P, i + 1, x, v, h, e => by
  have ih := trL_set P i x v (by simpa using h) (by simpa using e)
  simp only [trL, List.set_cons_succ]
  rw [← ih, List.set_append_right _ _ (by simp [trC]; omega)]
  congr 2
  simp [trC]; omega
theorem join_set {J P : List Tr} {x : Tr} {v : Int} (h1 : 1 ≤ J.length) (hp : J.length ≤ P.length) (e : x = ⟨(J.getD (J.length - 1) default).a, (J.getD (J.length - 1) default).b, v⟩) :
  (trL (J ++ P.drop J.length)).set ((J.length - 1) * 3 + 2) (.int .i64 v) = trL (J.set (J.length - 1) x ++ P.drop (J.set (J.length - 1) x).length) := by
 rw [trL_set (J ++ P.drop J.length) (J.length - 1) x v (by simp; omega) (by rw [join_get_old (by omega)]; exact e), List.length_set, List.set_append_left _ _ (by omega)]
theorem join_push {J P : List Tr} {x : Tr} (hp : J.length < P.length) :
  (trL (J ++ P.drop J.length)).take (J.length * 3) ++ trC x ++ (trL (J ++ P.drop J.length)).drop (J.length * 3 + (trC x).length) = trL ((J ++ [x]) ++ P.drop (J ++ [x]).length) := by
 have e : J ++ [x] ++ P.drop (J ++ [x]).length = J ++ ([x] ++ P.drop (J.length + 1)) := by simp
 rw [e, trL_app, trL_app, trL_app, drop_cons_getD P J.length hp]
 rw [List.take_append_of_le_length (by rw [trL_len]; exact Nat.le_refl _), List.take_of_length_le (by rw [trL_len]; exact Nat.le_refl _)]
 rw [List.drop_append, trL_len]
 rw [List.drop_of_length_le (by rw [trL_len]; omega)]
 simp [trL, trC]
theorem infoLn : (Tryz.prog.info? 96).map (fun i => (i.zero, i.size, i.bytes)) = some (some (.agg #[.int .i64 0, .int .i64 0, .int .i64 0]), 3, 24) := by kernel_rfl
theorem lns_s : Tryz.prog.underlying 92 = some (.slice (Tryz.prog.elem 92)) := by kernel_rfl
theorem lns_z (W : World) : (sizeOf (Tryz.prog.elem 92)).run Tryz.prog W = .ok 3 W := by kernel_rfl
theorem ixLn (b n c i : Nat) (hi : i < n) (W : World) :
  (Instr.indexAt 92 (.slice (some ⟨b, 0, none⟩) n c) (.int .i64 (i : Int))).run Tryz.prog W = .ok (.pointer (some ⟨b, i * 3, none⟩)) W := by
 rw [run_indexAt_slice W _ _ _ _ _ _ lns_s, if_pos ⟨by omega, by omega⟩, lns_z]
 simp only [Result.andThen, Int.toNat_natCast]
 congr 3
 unfold Addr.add
 split
 ·rename_i h; simp [show i = 0 by omega]
 ·simp
theorem ixLn3 (b n c i : Nat) (hi : i < n) (W : World) :
  (Instr.indexAt 92 (.slice (some ⟨b, 3, none⟩) n c) (.int .i64 (i : Int))).run Tryz.prog W = .ok (.pointer (some ⟨b, (i + 1) * 3, none⟩)) W := by
 rw [run_indexAt_slice W _ _ _ _ _ _ lns_s, if_pos ⟨by omega, by omega⟩, lns_z]
 simp only [Result.andThen, Int.toNat_natCast]
 congr 3
 unfold Addr.add
 split
 ·rename_i h; simp [show i = 0 by omega]
 ·simp; omega
theorem newT2 (w : World) (x y : Tr) (t : TypeId) : ∀ j u, (trC x ++ trC y)[j]? = some u → (w.alloc (.cells #[.int .i64 x.a, .int .i64 x.b, .int .i64 x.c, .int .i64 y.a, .int .i64 y.b, .int .i64 y.c] t)).cell? ((⟨w.heap.size, 0, none⟩ : Addr).add j) = some u := fun j u hj => by
 have hadd : (⟨w.heap.size, 0, none⟩ : Addr).add j = ⟨w.heap.size, j, none⟩ := by unfold Addr.add; split <;> simp_all
 rw [hadd]
 simp [go_sem]
 exact hj
theorem newT1 (w : World) (x : Tr) (t : TypeId) : ∀ j u, (trC x)[j]? = some u → (w.alloc (.cells #[.int .i64 x.a, .int .i64 x.b, .int .i64 x.c] t)).cell? ((⟨w.heap.size, 0, none⟩ : Addr).add j) = some u := fun j u hj => by
 have hadd : (⟨w.heap.size, 0, none⟩ : Addr).add j = ⟨w.heap.size, j, none⟩ := by unfold Addr.add; split <;> simp_all
 rw [hadd]
 simp [go_sem]
 exact hj
theorem trC2_one (x y : Tr) : ∀ u ∈ trC x ++ trC y, u.oneCell' = true := fun u hu => by
 rcases List.mem_append.1 hu with h | h
 ·exact trC_one x u h
 ·exact trC_one y u h
/-- an append to the first k elements of a row that holds more: it is made in place -/
theorem wpList_append_inner {P : Program} (w : World) {ops : Array Oper} {rest : List Oper} {o : Oper} {a : Act} {Q : Exit → Act → World → Prop}
  (hgd : o.guard = none) (s x : Operand) (t : TypeId) (hop : o.op = Op.call { callee := Callee.builtin Builtin.append, args := #[s, x], argTypes := #[t, t] })
  (base : Nat) (e : TypeId) (i : TypeInfo) (size : Nat) (h1 : P.underlying t = some (.slice e)) (h2 : P.info? e = some i) (h4 : i.size = size)
  (g k N cap : Nat) (xs : List Value) (hs : a.eval s = .slice (some ⟨g, 0, none⟩) k cap) (hown : w.ownsRow base e size (.slice (some ⟨g, 0, none⟩) N cap) N xs) (ad : Addr) (m c : Nat) (news : List Value) (hx : a.eval x = .slice (some ad) m c) (hn : news.length = m * size)
  (hc : ∀ j u, news[j]? = some u → w.cell? (ad.add j) = some u) (h1c : ∀ u ∈ news, u.oneCell' = true) (b1 : k + m ≤ N)
  (hK : ∀ w', w'.ownsRow base e size (.slice (some ⟨g, 0, none⟩) N cap) N (xs.take (k * size) ++ news ++ xs.drop (k * size + news.length)) → w.grownBy w' (some g) → wpList P ops Q rest (a.put o.dst (.slice (some ⟨g, 0, none⟩) (k + m) cap)) w') :
  wpList P ops Q (o :: rest) a w := by
 subst h4
 rcases hown.2 with ⟨h', _⟩ | ⟨g', cap', cur, h', hb, hg, hnc, hcm, hcs, htake⟩
 ·simp at h'
 ·simp only [Value.slice.injEq, Option.some.injEq, Addr.mk.injEq, and_true, true_and] at h'
  obtain ⟨rfl, rfl⟩ := h'
  have hle : (k + m) * i.size ≤ N * i.size := Nat.mul_le_mul_right _ b1
  have hle2 : N * i.size ≤ cap * i.size := Nat.mul_le_mul_right _ hnc
  rw [Nat.add_mul] at hle
  have hfit : k * i.size + news.length ≤ cur.size := by omega
  have hrun := run_append_room (P := P) w t o.type e i h1 h2 g k cap cur hg ad m c news hn hc h1c (by omega) hfit
  refine wpList_plain hgd fun K hK' => ?_
  unfold Oper.wp
  simp only [execOp, hop, resolve, invoke, builtin, Sem.run_bind, Sem.run_pure, Result.andThen_ok, List.map_toArray, List.map_cons, List.map_nil, hs, hx, hrun]
  refine hK' _ _ (hK _ ⟨?_, .inr ⟨g, cap, _, rfl, hb, setRow_heap w g cur _ e _ hg, hnc, hcm, ?_, ?_⟩⟩ ⟨rfl, rfl, rfl, by simp, fun q _ hq => setRow_other w g q _ (fun e => hq (by simp [e]))⟩)
  ·have := hown.1
   simp only [List.length_append, List.length_take, List.length_drop, this]
   omega
  ·simp only [List.size_toArray, List.length_append, List.length_take, List.length_drop, Array.length_toList]
   omega
  ·have hx1 : xs.take (k * i.size) = cur.toList.take (k * i.size) := by rw [← htake, List.take_take, Nat.min_eq_left (by omega)]
   rw [hx1, ← htake, List.take_append, List.take_of_length_le (by simp; omega), List.drop_take]
   congr 2
   simp only [List.length_append, List.length_take, Array.length_toList]
   omega
end Go.Proofs.YtolkchkedieppaaGreat
