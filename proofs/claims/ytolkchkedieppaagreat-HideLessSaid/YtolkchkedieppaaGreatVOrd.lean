/- Cuts that are made by adding rows of equal squares, plainly. -/
import Derived.Test.YtolkchkedieppaaGreatVPlainCv
import Derived.Test.YtolkchkedieppaaGreatVNetB
import Derived.Test.YtolkchkedieppaaGreatVSqA
import Derived.Test.YtolkchkedieppaaGreatVNetA
import Derived.Deep.LoopGhost
import Derived.RegionTactic
import Derived.Deep.RegionHeld3
import Derived.Deep.DeepCutAuto
import Derived.Deep.CutBlock
set_option linter.unusedVariables false
set_option linter.unusedSimpArgs false
namespace Go.Proofs.YtolkchkedieppaaGreat
def sumC : List Tr → Int
 | [] => 0
 | t :: l => t.c * t.c + sumC l
theorem sumC_app : ∀ (a b : List Tr), sumC (a ++ b) = sumC a + sumC b
 | [], b => by simp [sumC]
 | t :: a, b => by simp only [List.cons_append, sumC, sumC_app a b]; omega
/-- a cut with its measures -/
structure MkC (L : List Tr) (W H : Nat) : Prop where
 pos : 0 < L.length
 w1 : 1 ≤ W
 h1 : 1 ≤ H
 wb : W ≤ 1000
 hb : H ≤ 1000
 rg : ∀ t, t ∈ L → 0 ≤ t.a ∧ 0 ≤ t.b ∧ 1 ≤ t.c ∧ t.a + t.c ≤ (W : Int) ∧ t.b + t.c ≤ (H : Int)
 ap : L.Pairwise (fun p q => ApT q p)
 ar : sumC L = (W : Int) * (H : Int)
 mw : ∃ t, t ∈ L ∧ t.a + t.c = (W : Int)
 mh : ∃ t, t ∈ L ∧ t.b + t.c = (H : Int)
theorem getD_memT {L : List Tr} {i : Nat} (h : i < L.length) : L.getD i default ∈ L := by simp [h]
theorem arT_sum (S : List Tr) : ∀ k, k ≤ S.length → arT S k = sumC (S.take k)
 | 0, _ => rfl
 | k + 1, h => by
  have e : S.take (k + 1) = S.take k ++ [S.getD k default] := by rw [List.take_add_one]; simp [show k < S.length by omega]
  simp only [arT]
  rw [e, sumC_app, arT_sum S k (by omega)]
  simp [sumC]
theorem wdT_le {S : List Tr} {W : Int} (h0 : 0 ≤ W) (h : ∀ t, t ∈ S → t.a + t.c ≤ W) : ∀ k, k ≤ S.length → wdT S k ≤ W
 | 0, _ => h0
 | k + 1, hk => by
  have := wdT_le h0 h k (by omega)
  have := h _ (getD_memT (show k < S.length by omega))
  simp only [wdT]; split <;> omega
theorem htT_le {S : List Tr} {H : Int} (h0 : 0 ≤ H) (h : ∀ t, t ∈ S → t.b + t.c ≤ H) : ∀ k, k ≤ S.length → htT S k ≤ H
 | 0, _ => h0
 | k + 1, hk => by
  have := htT_le h0 h k (by omega)
  have := h _ (getD_memT (show k < S.length by omega))
  simp only [htT]; split <;> omega
theorem MkC.wd {L : List Tr} {W H : Nat} (h : MkC L W H) : wdT L L.length = (W : Int) := by
 have h1 := wdT_le (S := L) (W := (W : Int)) (by omega) (fun t ht => (h.rg t ht).2.2.2.1) L.length (Nat.le_refl _)
 obtain ⟨t, ht, e⟩ := h.mw
 obtain ⟨i, hi, rfl⟩ := List.getElem_of_mem ht
 have h2 := wdT_ge L L.length i hi
 simp [hi] at h2
 omega
theorem MkC.ht {L : List Tr} {W H : Nat} (h : MkC L W H) : htT L L.length = (H : Int) := by
 have h1 := htT_le (S := L) (H := (H : Int)) (by omega) (fun t ht => (h.rg t ht).2.2.2.2) L.length (Nat.le_refl _)
 obtain ⟨t, ht, e⟩ := h.mh
 obtain ⟨i, hi, rfl⟩ := List.getElem_of_mem ht
 have h2 := htT_ge L L.length i hi
 simp [hi] at h2
 omega
theorem MkC.cut {L : List Tr} {W H : Nat} (h : MkC L W H) (hn : L.length ≤ 24) : CutOK L := by
 refine ⟨h.pos, hn, fun i hi => ?_, fun i j hji hi => ?_, ?_⟩
 ·obtain ⟨h1, h2, h3, h4, h5⟩ := h.rg _ (getD_memT hi)
  have := h.wb
  have := h.hb
  exact ⟨h1, h2, h3, by omega, by omega, by omega⟩
 ·have := List.pairwise_iff_getElem.1 h.ap j i (by omega) hi hji
  simpa [hi, Nat.lt_trans hji hi] using this
 ·rw [h.wd, h.ht, arT_sum L L.length (Nat.le_refl _), List.take_length]; exact h.ar
theorem MkC.one : MkC [⟨0, 0, 1⟩] 1 1 :=
 ⟨by decide, by decide, by decide, by decide, by decide, fun t ht => by simp at ht; subst ht; decide, by simp, by decide, ⟨_, List.mem_singleton.2 rfl, rfl⟩, ⟨_, List.mem_singleton.2 rfl, rfl⟩⟩
/-- scaled -/
def sclT (m : Nat) (t : Tr) : Tr := ⟨t.a * m, t.b * m, t.c * m⟩
theorem mul4 (a b c d : Int) : a * b * (c * d) = a * c * (b * d) := by
 rw [Int.mul_assoc, Int.mul_assoc, ← Int.mul_assoc b c d, ← Int.mul_assoc c b d, Int.mul_comm b c]
theorem sumC_scl (m : Nat) : ∀ L, sumC (L.map (sclT m)) = sumC L * ((m : Int) * m)
 | [] => by simp [sumC]
 | t :: l => by
  simp only [List.map_cons, sumC, sumC_scl m l, sclT, Int.add_mul]
  congr 1
  rw [mul4]
theorem mul_le' {a b : Int} (m : Nat) (h : a ≤ b) : a * (m : Int) ≤ b * (m : Int) := Int.mul_le_mul_of_nonneg_right h (by omega)
theorem ApT.scl {p q : Tr} (m : Nat) (h : ApT p q) : ApT (sclT m p) (sclT m q) := by
 unfold ApT at *
 simp only [sclT, ← Int.add_mul]
 rcases h with h | h | h | h
 ·exact .inl (mul_le' m h)
 ·exact .inr (.inl (mul_le' m h))
 ·exact .inr (.inr (.inl (mul_le' m h)))
 ·exact .inr (.inr (.inr (mul_le' m h)))
theorem MkC.scale {L : List Tr} {W H m : Nat} (h : MkC L W H) (hm : 1 ≤ m) (hw : W * m ≤ 1000) (hh : H * m ≤ 1000) : MkC (L.map (sclT m)) (W * m) (H * m) := by
 refine ⟨by rw [List.length_map]; exact h.pos, Nat.mul_le_mul h.w1 hm, Nat.mul_le_mul h.h1 hm, hw, hh, fun t ht => ?_, ?_, ?_, ?_, ?_⟩
 ·obtain ⟨u, hu, rfl⟩ := List.mem_map.1 ht
  obtain ⟨h1, h2, h3, h4, h5⟩ := h.rg u hu
  have g1 := mul_le' m h1
  have g2 := mul_le' m h2
  have g3 := mul_le' m h3
  have g4 := mul_le' m h4
  have g5 := mul_le' m h5
  rw [Int.add_mul] at g4 g5
  rw [Int.zero_mul] at g1 g2
  rw [Int.one_mul] at g3
  simp only [sclT, Int.natCast_mul]
  exact ⟨g1, g2, by omega, g4, g5⟩
 ·rw [List.pairwise_map]
  exact h.ap.imp (fun e => e.scl m)
 ·rw [sumC_scl, h.ar, Int.natCast_mul, Int.natCast_mul]
  rw [mul4]
 ·obtain ⟨t, ht, e⟩ := h.mw
  exact ⟨sclT m t, List.mem_map_of_mem ht, by simp only [sclT]; rw [← Int.add_mul, e, Int.natCast_mul]⟩
 ·obtain ⟨t, ht, e⟩ := h.mh
  exact ⟨sclT m t, List.mem_map_of_mem ht, by simp only [sclT]; rw [← Int.add_mul, e, Int.natCast_mul]⟩
/-- k squares of side s, one beside the other: down the right side, or along the bottom -/
def colT (W s k : Nat) : List Tr := (List.range k).map (fun i => ⟨(W : Int), ((i * s : Nat) : Int), (s : Int)⟩)
def rowT (H s k : Nat) : List Tr := (List.range k).map (fun i => ⟨((i * s : Nat) : Int), (H : Int), (s : Int)⟩)
theorem colT_succ (W s k : Nat) : colT W s (k + 1) = colT W s k ++ [⟨(W : Int), ((k * s : Nat) : Int), (s : Int)⟩] := by unfold colT; rw [List.range_succ, List.map_append]; rfl
theorem rowT_succ (H s k : Nat) : rowT H s (k + 1) = rowT H s k ++ [⟨((k * s : Nat) : Int), (H : Int), (s : Int)⟩] := by unfold rowT; rw [List.range_succ, List.map_append]; rfl
theorem colT_len (W s k : Nat) : (colT W s k).length = k := by simp [colT]
theorem rowT_len (W s k : Nat) : (rowT W s k).length = k := by simp [rowT]
theorem sumC_col (W s : Nat) : ∀ k, sumC (colT W s k) = ((s * s * k : Nat) : Int)
 | 0 => by simp [colT, sumC]
 | k + 1 => by
  rw [colT_succ, sumC_app, sumC_col W s k]
  simp only [sumC, Nat.mul_succ, Int.natCast_add, Int.natCast_mul]; omega
theorem sumC_row (W s : Nat) : ∀ k, sumC (rowT W s k) = ((s * s * k : Nat) : Int)
 | 0 => by simp [rowT, sumC]
 | k + 1 => by
  rw [rowT_succ, sumC_app, sumC_row W s k]
  simp only [sumC, Nat.mul_succ, Int.natCast_add, Int.natCast_mul]; omega
theorem step_le {i j s : Nat} (h : i < j) : i * s + s ≤ j * s := by
 have := Nat.mul_le_mul_right s (show i + 1 ≤ j from h)
 rw [Nat.add_mul, Nat.one_mul] at this
 exact this
theorem MkC.right {L : List Tr} {W s m : Nat} (h : MkC L W (s * m)) (hs : 1 ≤ s) (hm : 1 ≤ m) (hw : W + s ≤ 1000) : MkC (L ++ colT W s m) (W + s) (s * m) := by
 have mem : ∀ t, t ∈ colT W s m → ∃ i, i < m ∧ t = ⟨(W : Int), ((i * s : Nat) : Int), (s : Int)⟩ := fun t ht => by
  simp only [colT, List.mem_map, List.mem_range] at ht
  obtain ⟨i, hi, rfl⟩ := ht
  exact ⟨i, hi, rfl⟩
 refine ⟨by rw [List.length_append]; have := h.pos; omega, by omega, h.h1, hw, h.hb, fun t ht => ?_, ?_, ?_, ?_, ?_⟩
 ·rcases List.mem_append.1 ht with ht | ht
  ·obtain ⟨h1, h2, h3, h4, h5⟩ := h.rg t ht
   exact ⟨h1, h2, h3, by omega, h5⟩
  ·obtain ⟨i, hi, rfl⟩ := mem t ht
   have := step_le (s := s) hi
   rw [Nat.mul_comm m s] at this
   refine ⟨by simp, by simp only; omega, by simp only; omega, by simp, by simp only; omega⟩
 ·rw [List.pairwise_append]
  refine ⟨h.ap, ?_, fun p hp q hq => ?_⟩
  ·unfold colT
   rw [List.pairwise_map]
   exact List.pairwise_lt_range.imp (fun {a b} hab => by
    have := step_le (s := s) hab
    unfold ApT; simp only; omega)
  ·obtain ⟨i, hi, rfl⟩ := mem q hq
   have := (h.rg p hp).2.2.2.1
   unfold ApT; simp only; omega
 ·rw [sumC_app, h.ar, sumC_col, ← Int.natCast_mul, ← Int.natCast_mul, ← Int.natCast_add]
  congr 1
  rw [Nat.add_mul, Nat.mul_assoc]
 ·exact ⟨⟨(W : Int), ((0 * s : Nat) : Int), (s : Int)⟩, List.mem_append.2 (.inr (by simp only [colT, List.mem_map, List.mem_range]; exact ⟨0, hm, rfl⟩)), by simp⟩
 ·obtain ⟨t, ht, e⟩ := h.mh
  exact ⟨t, List.mem_append.2 (.inl ht), e⟩
theorem MkC.down {L : List Tr} {H s m : Nat} (h : MkC L (s * m) H) (hs : 1 ≤ s) (hm : 1 ≤ m) (hh : H + s ≤ 1000) : MkC (L ++ rowT H s m) (s * m) (H + s) := by
 have mem : ∀ t, t ∈ rowT H s m → ∃ i, i < m ∧ t = ⟨((i * s : Nat) : Int), (H : Int), (s : Int)⟩ := fun t ht => by
  simp only [rowT, List.mem_map, List.mem_range] at ht
  obtain ⟨i, hi, rfl⟩ := ht
  exact ⟨i, hi, rfl⟩
 refine ⟨by rw [List.length_append]; have := h.pos; omega, h.w1, by omega, h.wb, hh, fun t ht => ?_, ?_, ?_, ?_, ?_⟩
 ·rcases List.mem_append.1 ht with ht | ht
  ·obtain ⟨h1, h2, h3, h4, h5⟩ := h.rg t ht
   exact ⟨h1, h2, h3, h4, by omega⟩
  ·obtain ⟨i, hi, rfl⟩ := mem t ht
   have := step_le (s := s) hi
   rw [Nat.mul_comm m s] at this
   refine ⟨by simp only; omega, by simp, by simp only; omega, by simp only; omega, by simp⟩
 ·rw [List.pairwise_append]
  refine ⟨h.ap, ?_, fun p hp q hq => ?_⟩
  ·unfold rowT
   rw [List.pairwise_map]
   exact List.pairwise_lt_range.imp (fun {a b} hab => by
    have := step_le (s := s) hab
    unfold ApT; simp only; omega)
  ·obtain ⟨i, hi, rfl⟩ := mem q hq
   have := (h.rg p hp).2.2.2.2
   unfold ApT; simp only; omega
 ·rw [sumC_app, h.ar, sumC_row, ← Int.natCast_mul, ← Int.natCast_mul, ← Int.natCast_add]
  congr 1
  rw [Nat.mul_add]
  congr 1
  rw [Nat.mul_assoc, Nat.mul_assoc]
  congr 1
  exact Nat.mul_comm s m
 ·obtain ⟨t, ht, e⟩ := h.mw
  exact ⟨t, List.mem_append.2 (.inl ht), e⟩
 ·exact ⟨⟨((0 * s : Nat) : Int), (H : Int), (s : Int)⟩, List.mem_append.2 (.inr (by simp only [rowT, List.mem_map, List.mem_range]; exact ⟨0, hm, rfl⟩)), by simp⟩
end Go.Proofs.YtolkchkedieppaaGreat

/- Plain laws of package hide: sorted lists are one list; the document's example. -/
namespace Go.Proofs.YtolkchkedieppaaGreat
theorem perm_sorted_uniq {α : Type} {lt : α → α → Prop} : ∀ (l m : List α), l.Perm m → l.Pairwise (fun a b => ¬ lt b a) → m.Pairwise (fun a b => ¬ lt b a) → (∀ x, x ∈ l → ∀ y, y ∈ l → ¬ lt x y → ¬ lt y x → x = y) → l = m
 | [], m, hp, _, _, _ => by simpa using hp.length_eq.symm
 | a :: l, [], hp, _, _, _ => by have := hp.length_eq; simp at this
 | a :: l, b :: m, hp, hl, hm, hu => by
  have ha : a ∈ b :: m := hp.mem_iff.1 (by simp)
  have hb : b ∈ a :: l := hp.mem_iff.2 (by simp)
  rw [List.pairwise_cons] at hl hm
  have e : a = b := by
   rcases List.mem_cons.1 ha with e | ha'
   ·exact e
   ·rcases List.mem_cons.1 hb with e | hb'
    ·exact e.symm
    ·exact hu a (by simp) b hb (hm.1 a ha') (hl.1 b hb')
  subst e
  rw [perm_sorted_uniq l m hp.cons_inv hl.2 hm.2 (fun x hx y hy => hu x (by simp [hx]) y (by simp [hy]))]
theorem ltL_tot (x y : Tr) (h1 : ¬ ltL x y) (h2 : ¬ ltL y x) : x = y := by
 obtain ⟨a, b, c⟩ := x
 obtain ⟨a', b', c'⟩ := y
 unfold ltL at h1 h2
 simp only at h1 h2
 obtain rfl : a = a' := by omega
 obtain rfl : b = b' := by omega
 obtain rfl : c = c' := by omega
 rfl
/-- the squares of the example -/
def S3 : List Tr := [⟨0, 0, 2⟩, ⟨2, 0, 1⟩, ⟨2, 1, 1⟩]
theorem s3_cut : CutOK S3 := by
 refine ⟨by decide, by decide, fun i hi => ?_, fun i j hj hi => ?_, by decide⟩
 ·have hi : i < 3 := hi
  rcases (by omega : i = 0 ∨ i = 1 ∨ i = 2) with rfl | rfl | rfl <;> exact ⟨by decide, by decide, by decide, by decide, by decide, by decide⟩
 ·have hi : i < 3 := hi
  rcases (by omega : (i = 1 ∧ j = 0) ∨ (i = 2 ∧ j = 0) ∨ (i = 2 ∧ j = 1)) with ⟨rfl, rfl⟩ | ⟨rfl, rfl⟩ | ⟨rfl, rfl⟩ <;> decide
theorem s3_sorted {S : List Tr} (hp : S3.Perm S) (hs : S.Pairwise (fun a b => ¬ ltS b a)) : S = S3 := by
 refine (perm_sorted_uniq S3 S hp ?_ hs ?_).symm
 ·simp [S3, ltS]
 ·intro x hx y hy h1 h2
  simp only [S3, List.mem_cons, List.not_mem_nil, or_false] at hx hy
  rcases hx with rfl | rfl | rfl <;> rcases hy with rfl | rfl | rfl <;> simp_all [ltS]
/-- its lines, in order -/
def P3 : List Tr := [⟨0, 0, 2⟩, ⟨0, 2, 3⟩, ⟨1, 2, 3⟩, ⟨1, 2, 3⟩, ⟨2, 0, 2⟩, ⟨2, 2, 3⟩]
theorem s3_lines {P : List Tr} (hp : (rawF S3 3).Perm P) (hs : P.Pairwise (fun a b => ¬ ltL b a)) : (joinF P 5).length = 3 := by
 have e : P3 = P := by
  refine perm_sorted_uniq P3 P ?_ ?_ hs (fun x _ y _ => ltL_tot x y)
  ·refine List.Perm.trans ?_ hp
   have e2 : rawF S3 3 = [⟨0, 0, 2⟩, ⟨2, 0, 2⟩, ⟨0, 2, 3⟩, ⟨1, 2, 3⟩, ⟨1, 2, 3⟩, ⟨2, 2, 3⟩] := rfl
   rw [e2]
   refine List.Perm.cons _ ?_
   exact (List.perm_middle (a := (⟨2, 0, 2⟩ : Tr)) (l₁ := [⟨0, 2, 3⟩, ⟨1, 2, 3⟩, ⟨1, 2, 3⟩]) (l₂ := [⟨2, 2, 3⟩]))
  ·simp [P3, ltL]
 rw [← e]
 decide
/-- the wires of the example -/
def W3 : List (Int × Int) := [(0, 2), (0, 1), (1, 2)]
def x3 (i : Nat) : Rat := if i = 0 then 2 / 3 else 1 / 3
theorem w3_ok : WiresOK 3 W3 := fun k hk => by
 have hk : k < 3 := hk
 rcases (by omega : k = 0 ∨ k = 1 ∨ k = 2) with rfl | rfl | rfl <;> decide
theorem w3_ne : ∀ k, k < W3.length → wA W3 k ≠ wB W3 k := fun k hk => by
 have hk : k < 3 := hk
 rcases (by omega : k = 0 ∨ k = 1 ∨ k = 2) with rfl | rfl | rfl <;> decide
theorem w3_con : ConOK 3 W3 := fun i hi => by
 have h1 : Rea W3 1 := Rea.fw 1 (by decide) Rea.zero
 have h2 : Rea W3 2 := Rea.fw 0 (by decide) Rea.zero
 rcases (by omega : i = 0 ∨ i = 1 ∨ i = 2) with rfl | rfl | rfl
 ·exact Rea.zero
 ·exact h1
 ·exact h2
end Go.Proofs.YtolkchkedieppaaGreat

/- Lay of the width and the code of a cut is that cut, in order: plainly (H1). -/
namespace Go.Proofs.YtolkchkedieppaaGreat
def trSq (q : Tr) : Sq := ⟨q.a.toNat, q.b, q.c.toNat⟩
def szL (S : List Tr) : List Nat := S.map (fun q => q.c.toNat)
theorem szL_len (S : List Tr) : (szL S).length = S.length := by simp [szL]
theorem szL_get {S : List Tr} {k : Nat} (h : k < S.length) : (szL S).getD k 0 = (S.getD k default).c.toNat := by simp [szL, h]
theorem take_succ_getD {S : List Tr} {k : Nat} (h : k < S.length) : S.take (k + 1) = S.take k ++ [S.getD k default] := by
 rw [List.take_add_one]; simp [h]
theorem pair_getD {S : List Tr} (hs : S.Pairwise (fun a b => ¬ ltS b a)) {i j : Nat} (hij : i < j) (hj : j < S.length) : ¬ ltS (S.getD j default) (S.getD i default) := by
 have := List.pairwise_iff_getElem.1 hs i j (by omega) hj hij
 simpa [hj, Nat.lt_trans hij hj] using this
/-- the floor is what the first k squares cover -/
structure Stair (S : List Tr) (W k : Nat) (F : Nat → Int) : Prop where
 nn : ∀ x, 0 ≤ F x
 iff : ∀ x : Nat, x < W → ∀ y : Int, 0 ≤ y → (y < F x ↔ ∃ i, i < k ∧ inT (S.getD i default) (x : Int) y)
section
variable {S : List Tr} {W k : Nat} {F : Nat → Int}
theorem CutOK.apne (h : CutOK S) {i j : Nat} (hi : i < S.length) (hj : j < S.length) (hne : i ≠ j) {x y : Int} (h1 : inT (S.getD i default) x y) (h2 : inT (S.getD j default) x y) : False := by
 rcases Nat.lt_or_gt_of_ne hne with e | e
 ·exact apT_in (h.ap j i e hj) h2 h1
 ·exact apT_in (h.ap i j e hi) h1 h2
/-- what a later square covers lies at or below the floor -/
theorem Stair.later (hst : Stair S W k F) (h : CutOK S) {j : Nat} (hj : j < S.length) (hk : k ≤ j) {x : Nat} (hx : x < W) {y : Int} (hy : 0 ≤ y) (hin : inT (S.getD j default) (x : Int) y) : F x ≤ y := by
 refine Int.not_lt.1 (fun q => ?_)
 obtain ⟨i, hi, h1⟩ := (hst.iff x hx y hy).1 q
 exact h.apne (show i < S.length by omega) hj (by omega) h1 hin
theorem stair_next (h : CutOK S) (hs : S.Pairwise (fun a b => ¬ ltS b a)) (hW : wdT S S.length = (W : Int)) (hst : Stair S W k F) (hk : k < S.length) :
  FitP W F (S.getD k default).c.toNat ∧ minAt F (W - 1) = (S.getD k default).a.toNat ∧ F (minAt F (W - 1)) = (S.getD k default).b ∧ Stair S W (k + 1) (putF F (minAt F (W - 1)) (S.getD k default).c.toNat) := by
 have hr := h.rg k hk
 have hqw := wdT_ge S S.length k hk
 have hqh := htT_ge S S.length k hk
 obtain ⟨q, hq⟩ : ∃ q, q = S.getD k default := ⟨_, rfl⟩
 rw [← hq] at hr hqw hqh ⊢
 obtain ⟨A, hA⟩ := Int.eq_ofNat_of_zero_le hr.a0
 obtain ⟨B, hB⟩ := Int.eq_ofNat_of_zero_le hr.b0
 obtain ⟨C, hC⟩ := Int.eq_ofNat_of_zero_le (show 0 ≤ q.c by have := hr.c0; omega)
 have hC1 : 1 ≤ C := by have := hr.c0; omega
 have hAW : A + C ≤ W := by omega
 have hp := minAt_le F (W - 1)
 have hmin := minAt_min F (W - 1)
 have hfst := minAt_first F (W - 1)
 obtain ⟨p, hpe⟩ : ∃ p, p = minAt F (W - 1) := ⟨_, rfl⟩
 rw [← hpe] at hp hmin hfst ⊢
 have hpW : p < W := by omega
 have hnn := hst.nn p
 have inq : ∀ {x : Nat} {y : Int}, A ≤ x → x < A + C → (B : Int) ≤ y → y < (B : Int) + C → inT (S.getD k default) (x : Int) y := fun h1 h2 h3 h4 => by
  rw [← hq]; unfold inT; omega
 have f1 : F A ≤ (B : Int) := hst.later h hk (Nat.le_refl _) (by omega) (by omega) (inq (Nat.le_refl _) (by omega) (by omega) (by omega))
 have f2 := hmin A (by omega)
 obtain ⟨j, hj, hin⟩ := h.covers (x := (p : Int)) (y := F p) (by omega) (by omega) hnn (by omega)
 have hjk : k ≤ j := by
  refine Nat.le_of_not_lt (fun e => ?_)
  have := (hst.iff p hpW (F p) hnn).2 ⟨j, e, hin⟩
  omega
 have hrj := h.rg j hj
 have hjw := wdT_ge S S.length j hj
 have hso : ¬ ltS (S.getD j default) (S.getD k default) := by
  rcases Nat.lt_or_ge k j with e | e
  ·exact pair_getD hs e hj
  ·obtain rfl : k = j := by omega
   unfold ltS; omega
 obtain ⟨T, hT⟩ : ∃ T, T = S.getD j default := ⟨_, rfl⟩
 rw [← hT] at hin hrj hjw hso
 rw [← hq] at hso
 obtain ⟨A', hA'⟩ := Int.eq_ofNat_of_zero_le hrj.a0
 have hb0 := hrj.b0
 have hin2 := hin
 unfold inT at hin2
 have f3 : F p ≤ T.b := hst.later h hj hjk hpW hb0 (by rw [← hT]; unfold inT; have := hrj.c0; omega)
 have f4 : F A' ≤ F p := hst.later h hj hjk (show A' < W by omega) hnn (by rw [← hT]; unfold inT; omega)
 have f5 : p ≤ A' := Nat.le_of_not_lt (fun e => by have := hfst A' e; omega)
 unfold ltS at hso
 have hBm : (B : Int) = F p := by omega
 have f6 : p ≤ A := Nat.le_of_not_lt (fun e => by have := hfst A e; omega)
 have hAp : A = p := by omega
 have hrow : ∀ i, i < C → F (p + i) = F p := fun i hi => by
  have g1 : F (p + i) ≤ (B : Int) := hst.later h hk (Nat.le_refl _) (by omega) (by omega) (inq (by omega) (by omega) (by omega) (by omega))
  have g2 := hmin (p + i) (by omega)
  omega
 have hb1 := hr.b1
 have hCn : q.c.toNat = C := by omega
 rw [hCn]
 refine ⟨⟨by rw [← hpe]; omega, fun i hi => by rw [← hpe]; exact hrow i hi, by rw [← hpe]; omega⟩, by omega, by omega, ⟨fun x => ?_, fun x hx y hy => ?_⟩⟩
 ·have := hst.nn x
  unfold putF
  split <;> omega
 ·have hi := hst.iff x hx y hy
  unfold putF
  by_cases e : p ≤ x ∧ x < p + C
  ·rw [if_pos e]
   have hx2 := hrow (x - p) (by omega)
   rw [show p + (x - p) = x by omega] at hx2
   constructor
   ·intro g
    by_cases g2 : y < F x
    ·obtain ⟨i, h1, h2⟩ := hi.1 g2
     exact ⟨i, by omega, h2⟩
    ·exact ⟨k, by omega, inq (by omega) (by omega) (by omega) (by omega)⟩
   ·rintro ⟨i, h1, h2⟩
    by_cases g : i = k
    ·rw [g, ← hq] at h2
     unfold inT at h2
     omega
    ·have := hi.2 ⟨i, by omega, h2⟩
     omega
  ·rw [if_neg e]
   constructor
   ·intro g
    obtain ⟨i, h1, h2⟩ := hi.1 g
    exact ⟨i, by omega, h2⟩
   ·rintro ⟨i, h1, h2⟩
    by_cases g : i = k
    ·rw [g, ← hq] at h2
     unfold inT at h2
     omega
    ·exact hi.2 ⟨i, by omega, h2⟩
end
theorem lay_take {S : List Tr} {W : Nat} (h : CutOK S) (hs : S.Pairwise (fun a b => ¬ ltS b a)) (hW : wdT S S.length = (W : Int)) : ∀ k, k ≤ S.length → ∃ F, layF W ((szL S).take k) (fun _ => 0) [] = some ((S.take k).map trSq, F) ∧ Stair S W k F
 | 0, _ => ⟨fun _ => 0, rfl, ⟨fun _ => Int.le_refl _, fun x _ y hy => ⟨fun q => by omega, fun ⟨i, hi, _⟩ => by omega⟩⟩⟩
 | k + 1, hk => by
  obtain ⟨F, h1, h2⟩ := lay_take h hs hW k (by omega)
  obtain ⟨g1, g2, g3, g4⟩ := stair_next h hs hW h2 (show k < S.length by omega)
  refine ⟨_, ?_, g4⟩
  rw [layF_take (by rw [szL_len]; omega) h1, szL_get (by omega), if_pos g1, take_succ_getD (by omega), List.map_append]
  simp only [List.map_cons, List.map_nil, trSq]
  rw [g3, g2]
/-- H1 -/
theorem code_lays {S : List Tr} {W : Nat} (h : CutOK S) (hs : S.Pairwise (fun a b => ¬ ltS b a)) (hW : wdT S S.length = (W : Int)) : ∃ F, layF W (szL S) (fun _ => 0) [] = some (S.map trSq, F) ∧ Lvl W F := by
 obtain ⟨F, h1, h2⟩ := lay_take h hs hW S.length (Nat.le_refl _)
 rw [List.take_length, show (szL S).take S.length = szL S by rw [← szL_len S, List.take_length]] at h1
 have hm := meas_bound h.rg S.length (Nat.le_refl _)
 have key : ∀ x : Nat, x < W → F x = htT S S.length := fun x hx => by
  refine Int.le_antisymm ?_ ?_
  ·refine Int.not_lt.1 (fun q => ?_)
   obtain ⟨i, hi, hin⟩ := (h2.iff x hx _ hm.2.2.1).1 q
   have := htT_ge S S.length i hi
   unfold inT at hin
   omega
  ·refine Int.not_lt.1 (fun q => ?_)
   have hn := h2.nn x
   obtain ⟨i, hi, hin⟩ := h.covers (x := (x : Int)) (y := F x) (by omega) (by omega) hn q
   have := (h2.iff x hx _ hn).2 ⟨i, hi, hin⟩
   omega
 refine ⟨F, h1, fun i hi => ?_⟩
 rw [key i hi, key 0 (by omega)]
end Go.Proofs.YtolkchkedieppaaGreat

/- same of the laws of hide, at equal lists of squares. -/
namespace Go.Proofs.YtolkchkedieppaaGreat
open Go.RowKit
attribute [local go_sem ↓] Go.wp_at_zero Go.wp_at_succ
/-- a laid square -/
def sqT (q : Sq) : Tr := ⟨(q.x : Nat), q.y, (q.s : Nat)⟩
theorem sqL_trL : ∀ l : List Sq, sqL l = trL (l.map sqT)
 | [] => rfl
 | q :: l => by simp only [sqL, List.map_cons, trL, sqL_trL l]; rfl
end Go.Proofs.YtolkchkedieppaaGreat

/- Lay of the reference at sizes in range. -/
namespace Go.Proofs.YtolkchkedieppaaGreat
open Go.RowKit
attribute [local go_sem ↓] Go.wp_at_zero Go.wp_at_succ
theorem minAt_step (F : Nat → Int) (j : Nat) : minAt F j = if F j < F (minAt F (j - 1)) then j else minAt F (j - 1) := by
 cases j with
 | zero => simp [minAt]
 | succ j => simp only [minAt, Nat.add_sub_cancel]
end Go.Proofs.YtolkchkedieppaaGreat

/- Order of the reference: squares in order. (Printed by gen_ord.py.) -/
namespace Go.Proofs.YtolkchkedieppaaGreat
open Go.RowKit
attribute [local go_sem ↓] Go.wp_at_zero Go.wp_at_succ
instance (p q : Tr) : Decidable (ltS p q) := by unfold ltS; infer_instance
/-- where a square goes, of the first n -/
def posT (O : List Tr) (q : Tr) : Nat → Nat
 | 0 => 0
 | n + 1 => if ltS q (O.getD n default) then posT O q n else n + 1
def insT (O : List Tr) (q : Tr) : List Tr := O.take (posT O q O.length) ++ q :: O.drop (posT O q O.length)
def ordL (S : List Tr) : Nat → List Tr
 | 0 => []
 | k + 1 => insT (ordL S k) (S.getD k default)
theorem posT_le (O : List Tr) (q : Tr) : ∀ n, posT O q n ≤ n
 | 0 => Nat.le_refl _
 | n + 1 => by have := posT_le O q n; simp only [posT]; split <;> omega
theorem insT_perm (O : List Tr) (q : Tr) : (q :: O).Perm (insT O q) := by
 unfold insT
 refine List.Perm.trans ?_ List.perm_middle.symm
 rw [List.take_append_drop]
theorem ordL_perm (S : List Tr) : ∀ k, k ≤ S.length → (S.take k).Perm (ordL S k)
 | 0, _ => by simp [ordL]
 | k + 1, h => by
  have e : S.take (k + 1) = S.take k ++ [S.getD k default] := by rw [List.take_add_one]; simp [show k < S.length by omega]
  rw [e]
  refine List.Perm.trans ?_ (insT_perm _ _)
  exact (List.perm_append_comm).trans (List.Perm.cons _ (ordL_perm S k (by omega)))
theorem posT_spec (O : List Tr) (q : Tr) : ∀ n, n ≤ O.length → (∀ j, posT O q n ≤ j → j < n → ltS q (O.getD j default)) ∧ (0 < posT O q n → ¬ ltS q (O.getD (posT O q n - 1) default))
 | 0, _ => ⟨fun j h1 h2 => by omega, fun h => by simp [posT] at h⟩
 | n + 1, hn => by
  obtain ⟨h1, h2⟩ := posT_spec O q n (by omega)
  simp only [posT]
  by_cases e : ltS q (O.getD n default)
  ·rw [if_pos e]
   refine ⟨fun j h3 h4 => ?_, h2⟩
   by_cases e2 : j = n
   ·rw [e2]; exact e
   ·exact h1 j h3 (by omega)
  ·rw [if_neg e]
   exact ⟨fun j h3 h4 => by omega, fun _ => by rw [Nat.add_sub_cancel]; exact e⟩
theorem ltS_trans {p q r : Tr} (h1 : ¬ ltS q p) (h2 : ¬ ltS r q) : ¬ ltS r p := by unfold ltS at *; omega
theorem ltS_asymm {p q : Tr} (h : ltS p q) : ¬ ltS q p := by unfold ltS at *; omega
theorem insT_sorted {O : List Tr} {q : Tr} (h : O.Pairwise (fun a b => ¬ ltS b a)) : (insT O q).Pairwise (fun a b => ¬ ltS b a) := by
 obtain ⟨h1, h2⟩ := posT_spec O q O.length (Nat.le_refl _)
 have hp := posT_le O q O.length
 unfold insT
 generalize posT O q O.length = p at h1 h2 hp
 have hget := List.pairwise_iff_getElem.1 h
 have bef : ∀ x, x ∈ O.take p → ¬ ltS q x := fun x hx => by
  obtain ⟨j, hj, rfl⟩ := List.getElem_of_mem hx
  rw [List.length_take] at hj
  have h3 := h2 (by omega)
  rw [List.getD_eq_getElem?_getD, List.getElem?_eq_getElem (show p - 1 < O.length by omega)] at h3
  simp only [Option.getD_some] at h3
  rw [List.getElem_take]
  by_cases e : j = p - 1
  ·subst e; exact h3
  ·exact ltS_trans (hget j (p - 1) (by omega) (by omega) (by omega)) h3
 have aft : ∀ x, x ∈ O.drop p → ¬ ltS x q := fun x hx => by
  obtain ⟨j, hj, rfl⟩ := List.getElem_of_mem hx
  rw [List.length_drop] at hj
  have h3 := h1 (p + j) (by omega) (by omega)
  rw [List.getD_eq_getElem?_getD, List.getElem?_eq_getElem (show p + j < O.length by omega)] at h3
  simp only [Option.getD_some] at h3
  rw [List.getElem_drop]
  exact ltS_asymm h3
 rw [List.pairwise_append]
 refine ⟨h.sublist (List.take_sublist _ _), ?_, fun a ha b hb => ?_⟩
 ·rw [List.pairwise_cons]
  exact ⟨aft, h.sublist (List.drop_sublist _ _)⟩
 ·rcases List.mem_cons.1 hb with rfl | hb
  ·exact bef a ha
  ·exact ltS_trans (bef a ha) (aft b hb)
theorem ordL_sorted (S : List Tr) : ∀ k, (ordL S k).Pairwise (fun a b => ¬ ltS b a)
 | 0 => List.Pairwise.nil
 | k + 1 => insT_sorted (ordL_sorted S k)
end Go.Proofs.YtolkchkedieppaaGreat
