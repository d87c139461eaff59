/- A cut covers its rectangle, plainly: squares that do not overlap, counted cell by cell. -/
import Derived.Test.YtdfkhbflcacbfaaGreatVRdA
set_option linter.unusedVariables false
set_option linter.unusedSimpArgs false
namespace Go.Proofs.YtdfkhbflcacbfaaGreat
/-- a cell lies in a square -/
def inT (p : Tr) (x y : Int) : Prop := p.a ≤ x ∧ x < p.a + p.c ∧ p.b ≤ y ∧ y < p.b + p.c
instance (p : Tr) (x y : Int) : Decidable (inT p x y) := by unfold inT; infer_instance
def sumZ (f : Nat → Int) : Nat → Int
 | 0 => 0
 | n + 1 => sumZ f n + f n
theorem sumZ_add (f g : Nat → Int) : ∀ n, sumZ (fun i => f i + g i) n = sumZ f n + sumZ g n
 | 0 => rfl
 | n + 1 => by simp only [sumZ, sumZ_add f g n]; omega
theorem sumZ_mul (f : Nat → Int) (c : Int) : ∀ n, sumZ (fun i => f i * c) n = sumZ f n * c
 | 0 => by simp [sumZ]
 | n + 1 => by simp only [sumZ, sumZ_mul f c n, Int.add_mul]
theorem sumZ_zero : ∀ n, sumZ (fun _ => 0) n = 0
 | 0 => rfl
 | n + 1 => by simp [sumZ, sumZ_zero n]
theorem sumZ_congr {f g : Nat → Int} : ∀ {n : Nat}, (∀ i, i < n → f i = g i) → sumZ f n = sumZ g n
 | 0, _ => rfl
 | n + 1, h => by simp only [sumZ]; rw [sumZ_congr (fun i hi => h i (by omega)), h n (by omega)]
theorem sumZ_le {f g : Nat → Int} : ∀ {n : Nat}, (∀ i, i < n → f i ≤ g i) → sumZ f n ≤ sumZ g n
 | 0, _ => Int.le_refl _
 | n + 1, h => by
  simp only [sumZ]
  have := sumZ_le (fun i (hi : i < n) => h i (by omega))
  have := h n (by omega)
  omega
theorem sumZ_const (c : Int) : ∀ n : Nat, sumZ (fun _ => c) n = (n : Int) * c
 | 0 => by simp [sumZ]
 | n + 1 => by simp only [sumZ, sumZ_const c n]; rw [show ((n + 1 : Nat) : Int) = (n : Int) + 1 by omega, Int.add_mul, Int.one_mul]
/-- a sum that reaches its bound reaches it everywhere -/
theorem sumZ_tight {f g : Nat → Int} : ∀ {n : Nat}, (∀ i, i < n → f i ≤ g i) → sumZ g n ≤ sumZ f n → ∀ i, i < n → f i = g i
 | 0, _, _, i, hi => by omega
 | n + 1, h, he, i, hi => by
  simp only [sumZ] at he
  have h1 := sumZ_le (fun i (hi : i < n) => h i (by omega))
  have h2 := h n (by omega)
  by_cases e : i = n
  ·rw [e]; omega
  ·exact sumZ_tight (n := n) (fun i hi => h i (by omega)) (by omega) i (by omega)
/-- how many places of 0 .. n - 1 lie in a .. a + c - 1 -/
theorem sumZ_run (a c : Nat) : ∀ n, sumZ (fun i => if (a : Int) ≤ (i : Int) ∧ (i : Int) < (a : Int) + (c : Int) then 1 else 0) n = ((min (n - a) c : Nat) : Int)
 | 0 => by simp [sumZ]
 | n + 1 => by
  simp only [sumZ, sumZ_run a c n, Nat.min_def]
  split <;> split <;> split <;> omega
/-- how many of the first k squares cover a cell -/
def cvN (S : List Tr) (x y : Int) : Nat → Int
 | 0 => 0
 | k + 1 => cvN S x y k + if inT (S.getD k default) x y then 1 else 0
theorem cvN_nn (S : List Tr) (x y : Int) : ∀ k, 0 ≤ cvN S x y k
 | 0 => by simp [cvN]
 | k + 1 => by have := cvN_nn S x y k; simp only [cvN]; split <;> omega
theorem cvN_ex {S : List Tr} {x y : Int} : ∀ {k : Nat}, 0 < cvN S x y k → ∃ i, i < k ∧ inT (S.getD i default) x y
 | 0, h => by simp [cvN] at h
 | k + 1, h => by
  simp only [cvN] at h
  by_cases e : inT (S.getD k default) x y
  ·exact ⟨k, by omega, e⟩
  ·rw [if_neg e] at h
   obtain ⟨i, hi, q⟩ := cvN_ex (S := S) (x := x) (y := y) (k := k) (by omega)
   exact ⟨i, by omega, q⟩
theorem apT_in {p q : Tr} {x y : Int} (h : ApT p q) (h1 : inT p x y) (h2 : inT q x y) : False := by
 unfold ApT at h
 unfold inT at h1 h2
 omega
theorem cvN_le {S : List Tr} (hap : ∀ i j, j < i → i < S.length → ApT (S.getD i default) (S.getD j default)) (x y : Int) : ∀ k, k ≤ S.length → cvN S x y k ≤ 1
 | 0, _ => by simp [cvN]
 | k + 1, hk => by
  have ih := cvN_le hap x y k (by omega)
  simp only [cvN]
  by_cases e : inT (S.getD k default) x y
  ·rw [if_pos e]
   have : ¬ 0 < cvN S x y k := fun q => by
    obtain ⟨i, hi, h1⟩ := cvN_ex q
    exact apT_in (hap k i hi (by omega)) e h1
   have := cvN_nn S x y k
   omega
  ·rw [if_neg e]; omega
/-- a square inside a rectangle, counted -/
theorem inT_count {p : Tr} {W H : Nat} (h0 : RgT p) (hw : p.a + p.c ≤ (W : Int)) (hh : p.b + p.c ≤ (H : Int)) : sumZ (fun x => sumZ (fun y => if inT p (x : Int) (y : Int) then 1 else 0) H) W = p.c * p.c := by
 obtain ⟨A, hA⟩ := Int.eq_ofNat_of_zero_le h0.a0
 obtain ⟨B, hB⟩ := Int.eq_ofNat_of_zero_le h0.b0
 obtain ⟨C, hC⟩ := Int.eq_ofNat_of_zero_le (show 0 ≤ p.c by have := h0.c0; omega)
 have hi : ∀ x y : Nat, inT p (x : Int) (y : Int) ↔ ((A : Int) ≤ (x : Int) ∧ (x : Int) < (A : Int) + (C : Int)) ∧ ((B : Int) ≤ (y : Int) ∧ (y : Int) < (B : Int) + (C : Int)) := fun x y => by
  unfold inT
  omega
 have e : ∀ x : Nat, sumZ (fun y => if inT p (x : Int) (y : Int) then 1 else 0) H = (if (A : Int) ≤ (x : Int) ∧ (x : Int) < (A : Int) + (C : Int) then 1 else 0) * (C : Int) := fun x => by
  by_cases hx : (A : Int) ≤ (x : Int) ∧ (x : Int) < (A : Int) + (C : Int)
  ·rw [if_pos hx, Int.one_mul]
   have : ∀ y, y < H → (if inT p (x : Int) (y : Int) then (1 : Int) else 0) = if (B : Int) ≤ (y : Int) ∧ (y : Int) < (B : Int) + (C : Int) then 1 else 0 := fun y _ => by
    by_cases q : (B : Int) ≤ (y : Int) ∧ (y : Int) < (B : Int) + (C : Int)
    ·rw [if_pos q, if_pos ((hi x y).2 ⟨hx, q⟩)]
    ·rw [if_neg q, if_neg (fun r => q ((hi x y).1 r).2)]
   rw [sumZ_congr this, sumZ_run]
   omega
  ·rw [if_neg hx, Int.zero_mul]
   have : ∀ y, y < H → (if inT p (x : Int) (y : Int) then (1 : Int) else 0) = 0 := fun y _ => by
    rw [if_neg (fun r => hx ((hi x y).1 r).1)]
   rw [sumZ_congr this, sumZ_zero]
 rw [sumZ_congr (fun x _ => e x), sumZ_mul, sumZ_run, hC]
 congr 1
 omega
theorem cvN_sum {S : List Tr} {W H : Nat} (hr : ∀ i, i < S.length → RgT (S.getD i default)) (hw : ∀ i, i < S.length → (S.getD i default).a + (S.getD i default).c ≤ (W : Int)) (hh : ∀ i, i < S.length → (S.getD i default).b + (S.getD i default).c ≤ (H : Int)) :
  ∀ k, k ≤ S.length → sumZ (fun x => sumZ (fun y => cvN S (x : Int) (y : Int) k) H) W = arT S k
 | 0, _ => by simp only [cvN, sumZ_zero, arT]
 | k + 1, hk => by
  simp only [cvN, arT]
  have e : ∀ x : Nat, sumZ (fun y => cvN S (x : Int) (y : Int) k + if inT (S.getD k default) (x : Int) (y : Int) then 1 else 0) H = sumZ (fun y => cvN S (x : Int) (y : Int) k) H + sumZ (fun y => if inT (S.getD k default) (x : Int) (y : Int) then 1 else 0) H := fun x => sumZ_add _ _ H
  rw [sumZ_congr (fun x _ => e x), sumZ_add, cvN_sum hr hw hh k (by omega), inT_count (hr k (by omega)) (hw k (by omega)) (hh k (by omega))]
/-- the measures bound the squares -/
theorem wdT_ge (S : List Tr) : ∀ k i, i < k → (S.getD i default).a + (S.getD i default).c ≤ wdT S k
 | 0, i, h => by omega
 | k + 1, i, h => by
  simp only [wdT]
  by_cases e : i = k
  ·subst e; split <;> omega
  ·have := wdT_ge S k i (by omega)
   split <;> omega
theorem htT_ge (S : List Tr) : ∀ k i, i < k → (S.getD i default).b + (S.getD i default).c ≤ htT S k
 | 0, i, h => by omega
 | k + 1, i, h => by
  simp only [htT]
  by_cases e : i = k
  ·subst e; split <;> omega
  ·have := htT_ge S k i (by omega)
   split <;> omega
/-- every cell of the rectangle is covered -/
theorem CutOK.covers {S : List Tr} (h : CutOK S) {x y : Int} (hx0 : 0 ≤ x) (hx : x < wdT S S.length) (hy0 : 0 ≤ y) (hy : y < htT S S.length) : ∃ i, i < S.length ∧ inT (S.getD i default) x y := by
 have hm := meas_bound h.rg S.length (Nat.le_refl _)
 obtain ⟨W, hW⟩ := Int.eq_ofNat_of_zero_le hm.1
 obtain ⟨H, hH⟩ := Int.eq_ofNat_of_zero_le hm.2.2.1
 obtain ⟨X, rfl⟩ := Int.eq_ofNat_of_zero_le hx0
 obtain ⟨Y, rfl⟩ := Int.eq_ofNat_of_zero_le hy0
 have hs := cvN_sum (W := W) (H := H) h.rg (fun i hi => by rw [← hW]; exact wdT_ge S _ i hi) (fun i hi => by rw [← hH]; exact htT_ge S _ i hi) S.length (Nat.le_refl _)
 have hle := fun x y => cvN_le h.ap x y S.length (Nat.le_refl _)
 have h1 : ∀ x, x < W → sumZ (fun y => cvN S (x : Int) (y : Int) S.length) H ≤ (H : Int) := fun x _ => by
  have := sumZ_le (n := H) (f := fun y => cvN S (x : Int) (y : Int) S.length) (g := fun _ => 1) (fun y _ => hle _ _)
  rw [sumZ_const] at this
  omega
 have h2 := sumZ_tight h1 (by rw [sumZ_const, hs, h.ar, hW, hH]; exact Int.le_refl _) X (by omega)
 have h3 := sumZ_tight (n := H) (f := fun y => cvN S (X : Int) (y : Int) S.length) (g := fun _ => 1) (fun y _ => hle _ _) (by rw [sumZ_const, h2]; omega) Y (by omega)
 exact cvN_ex (k := S.length) (by omega)
end Go.Proofs.YtdfkhbflcacbfaaGreat

/- Cuts that are made by adding rows of equal squares, plainly. -/
namespace Go.Proofs.YtdfkhbflcacbfaaGreat
def sumC : List Tr → Int
 | [] => 0
 | t :: l => t.c * t.c + sumC l
theorem sumC_app : ∀ (a b : List Tr), sumC (a ++ b) = sumC a + sumC b
 | [], b => by simp [sumC]
 | t :: a, b => by simp only [List.cons_append, sumC, sumC_app a b]; omega
/-- a cut with its measures -/
structure MkC (L : List Tr) (W H : Nat) : Prop where
 pos : 0 < L.length
 w1 : 1 ≤ W
 h1 : 1 ≤ H
 wb : W ≤ 1000
 hb : H ≤ 1000
 rg : ∀ t, t ∈ L → 0 ≤ t.a ∧ 0 ≤ t.b ∧ 1 ≤ t.c ∧ t.a + t.c ≤ (W : Int) ∧ t.b + t.c ≤ (H : Int)
 ap : L.Pairwise (fun p q => ApT q p)
 ar : sumC L = (W : Int) * (H : Int)
 mw : ∃ t, t ∈ L ∧ t.a + t.c = (W : Int)
 mh : ∃ t, t ∈ L ∧ t.b + t.c = (H : Int)
theorem getD_memT {L : List Tr} {i : Nat} (h : i < L.length) : L.getD i default ∈ L := by simp [h]
theorem arT_sum (S : List Tr) : ∀ k, k ≤ S.length → arT S k = sumC (S.take k)
 | 0, _ => rfl
 | k + 1, h => by
  have e : S.take (k + 1) = S.take k ++ [S.getD k default] := by rw [List.take_add_one]; simp [show k < S.length by omega]
  simp only [arT]
  rw [e, sumC_app, arT_sum S k (by omega)]
  simp [sumC]
theorem wdT_le {S : List Tr} {W : Int} (h0 : 0 ≤ W) (h : ∀ t, t ∈ S → t.a + t.c ≤ W) : ∀ k, k ≤ S.length → wdT S k ≤ W
 | 0, _ => h0
 | k + 1, hk => by
  have := wdT_le h0 h k (by omega)
  have := h _ (getD_memT (show k < S.length by omega))
  simp only [wdT]; split <;> omega
theorem htT_le {S : List Tr} {H : Int} (h0 : 0 ≤ H) (h : ∀ t, t ∈ S → t.b + t.c ≤ H) : ∀ k, k ≤ S.length → htT S k ≤ H
 | 0, _ => h0
 | k + 1, hk => by
  have := htT_le h0 h k (by omega)
  have := h _ (getD_memT (show k < S.length by omega))
  simp only [htT]; split <;> omega
theorem MkC.wd {L : List Tr} {W H : Nat} (h : MkC L W H) : wdT L L.length = (W : Int) := by
 have h1 := wdT_le (S := L) (W := (W : Int)) (by omega) (fun t ht => (h.rg t ht).2.2.2.1) L.length (Nat.le_refl _)
 obtain ⟨t, ht, e⟩ := h.mw
 obtain ⟨i, hi, rfl⟩ := List.getElem_of_mem ht
 have h2 := wdT_ge L L.length i hi
 simp [hi] at h2
 omega
theorem MkC.ht {L : List Tr} {W H : Nat} (h : MkC L W H) : htT L L.length = (H : Int) := by
 have h1 := htT_le (S := L) (H := (H : Int)) (by omega) (fun t ht => (h.rg t ht).2.2.2.2) L.length (Nat.le_refl _)
 obtain ⟨t, ht, e⟩ := h.mh
 obtain ⟨i, hi, rfl⟩ := List.getElem_of_mem ht
 have h2 := htT_ge L L.length i hi
 simp [hi] at h2
 omega
theorem MkC.cut {L : List Tr} {W H : Nat} (h : MkC L W H) (hn : L.length ≤ 24) : CutOK L := by
 refine ⟨h.pos, hn, fun i hi => ?_, fun i j hji hi => ?_, ?_⟩
 ·obtain ⟨h1, h2, h3, h4, h5⟩ := h.rg _ (getD_memT hi)
  have := h.wb
  have := h.hb
  exact ⟨h1, h2, h3, by omega, by omega, by omega⟩
 ·have := List.pairwise_iff_getElem.1 h.ap j i (by omega) hi hji
  simpa [hi, Nat.lt_trans hji hi] using this
 ·rw [h.wd, h.ht, arT_sum L L.length (Nat.le_refl _), List.take_length]; exact h.ar
theorem MkC.one : MkC [⟨0, 0, 1⟩] 1 1 :=
 ⟨by decide, by decide, by decide, by decide, by decide, fun t ht => by simp at ht; subst ht; decide, by simp, by decide, ⟨_, List.mem_singleton.2 rfl, rfl⟩, ⟨_, List.mem_singleton.2 rfl, rfl⟩⟩
/-- scaled -/
def sclT (m : Nat) (t : Tr) : Tr := ⟨t.a * m, t.b * m, t.c * m⟩
theorem mul4 (a b c d : Int) : a * b * (c * d) = a * c * (b * d) := by
 rw [Int.mul_assoc, Int.mul_assoc, ← Int.mul_assoc b c d, ← Int.mul_assoc c b d, Int.mul_comm b c]
theorem sumC_scl (m : Nat) : ∀ L, sumC (L.map (sclT m)) = sumC L * ((m : Int) * m)
 | [] => by simp [sumC]
 | t :: l => by
  simp only [List.map_cons, sumC, sumC_scl m l, sclT, Int.add_mul]
  congr 1
  rw [mul4]
theorem mul_le' {a b : Int} (m : Nat) (h : a ≤ b) : a * (m : Int) ≤ b * (m : Int) := Int.mul_le_mul_of_nonneg_right h (by omega)
theorem ApT.scl {p q : Tr} (m : Nat) (h : ApT p q) : ApT (sclT m p) (sclT m q) := by
 unfold ApT at *
 simp only [sclT, ← Int.add_mul]
 rcases h with h | h | h | h
 ·exact .inl (mul_le' m h)
 ·exact .inr (.inl (mul_le' m h))
 ·exact .inr (.inr (.inl (mul_le' m h)))
 ·exact .inr (.inr (.inr (mul_le' m h)))
theorem MkC.scale {L : List Tr} {W H m : Nat} (h : MkC L W H) (hm : 1 ≤ m) (hw : W * m ≤ 1000) (hh : H * m ≤ 1000) : MkC (L.map (sclT m)) (W * m) (H * m) := by
 refine ⟨by rw [List.length_map]; exact h.pos, Nat.mul_le_mul h.w1 hm, Nat.mul_le_mul h.h1 hm, hw, hh, fun t ht => ?_, ?_, ?_, ?_, ?_⟩
 ·obtain ⟨u, hu, rfl⟩ := List.mem_map.1 ht
  obtain ⟨h1, h2, h3, h4, h5⟩ := h.rg u hu
  have g1 := mul_le' m h1
  have g2 := mul_le' m h2
  have g3 := mul_le' m h3
  have g4 := mul_le' m h4
  have g5 := mul_le' m h5
  rw [Int.add_mul] at g4 g5
  rw [Int.zero_mul] at g1 g2
  rw [Int.one_mul] at g3
  simp only [sclT, Int.natCast_mul]
  exact ⟨g1, g2, by omega, g4, g5⟩
 ·rw [List.pairwise_map]
  exact h.ap.imp (fun e => e.scl m)
 ·rw [sumC_scl, h.ar, Int.natCast_mul, Int.natCast_mul]
  rw [mul4]
 ·obtain ⟨t, ht, e⟩ := h.mw
  exact ⟨sclT m t, List.mem_map_of_mem ht, by simp only [sclT]; rw [← Int.add_mul, e, Int.natCast_mul]⟩
 ·obtain ⟨t, ht, e⟩ := h.mh
  exact ⟨sclT m t, List.mem_map_of_mem ht, by simp only [sclT]; rw [← Int.add_mul, e, Int.natCast_mul]⟩
/-- k squares of side s, one beside the other: down the right side, or along the bottom -/
def colT (W s k : Nat) : List Tr := (List.range k).map (fun i => ⟨(W : Int), ((i * s : Nat) : Int), (s : Int)⟩)
def rowT (H s k : Nat) : List Tr := (List.range k).map (fun i => ⟨((i * s : Nat) : Int), (H : Int), (s : Int)⟩)
theorem colT_succ (W s k : Nat) : colT W s (k + 1) = colT W s k ++ [⟨(W : Int), ((k * s : Nat) : Int), (s : Int)⟩] := by unfold colT; rw [List.range_succ, List.map_append]; rfl
theorem rowT_succ (H s k : Nat) : rowT H s (k + 1) = rowT H s k ++ [⟨((k * s : Nat) : Int), (H : Int), (s : Int)⟩] := by unfold rowT; rw [List.range_succ, List.map_append]; rfl
theorem colT_len (W s k : Nat) : (colT W s k).length = k := by simp [colT]
theorem rowT_len (W s k : Nat) : (rowT W s k).length = k := by simp [rowT]
theorem sumC_col (W s : Nat) : ∀ k, sumC (colT W s k) = ((s * s * k : Nat) : Int)
 | 0 => by simp [colT, sumC]
 | k + 1 => by
  rw [colT_succ, sumC_app, sumC_col W s k]
  simp only [sumC, Nat.mul_succ, Int.natCast_add, Int.natCast_mul]; omega
theorem sumC_row (W s : Nat) : ∀ k, sumC (rowT W s k) = ((s * s * k : Nat) : Int)
 | 0 => by simp [rowT, sumC]
 | k + 1 => by
  rw [rowT_succ, sumC_app, sumC_row W s k]
  simp only [sumC, Nat.mul_succ, Int.natCast_add, Int.natCast_mul]; omega
theorem step_le {i j s : Nat} (h : i < j) : i * s + s ≤ j * s := by
 have := Nat.mul_le_mul_right s (show i + 1 ≤ j from h)
 rw [Nat.add_mul, Nat.one_mul] at this
 exact this
theorem MkC.right {L : List Tr} {W s m : Nat} (h : MkC L W (s * m)) (hs : 1 ≤ s) (hm : 1 ≤ m) (hw : W + s ≤ 1000) : MkC (L ++ colT W s m) (W + s) (s * m) := by
 have mem : ∀ t, t ∈ colT W s m → ∃ i, i < m ∧ t = ⟨(W : Int), ((i * s : Nat) : Int), (s : Int)⟩ := fun t ht => by
  simp only [colT, List.mem_map, List.mem_range] at ht
  obtain ⟨i, hi, rfl⟩ := ht
  exact ⟨i, hi, rfl⟩
 refine ⟨by rw [List.length_append]; have := h.pos; omega, by omega, h.h1, hw, h.hb, fun t ht => ?_, ?_, ?_, ?_, ?_⟩
 ·rcases List.mem_append.1 ht with ht | ht
  ·obtain ⟨h1, h2, h3, h4, h5⟩ := h.rg t ht
   exact ⟨h1, h2, h3, by omega, h5⟩
  ·obtain ⟨i, hi, rfl⟩ := mem t ht
   have := step_le (s := s) hi
   rw [Nat.mul_comm m s] at this
   refine ⟨by simp, by simp only; omega, by simp only; omega, by simp, by simp only; omega⟩
 ·rw [List.pairwise_append]
  refine ⟨h.ap, ?_, fun p hp q hq => ?_⟩
  ·unfold colT
   rw [List.pairwise_map]
   exact List.pairwise_lt_range.imp (fun {a b} hab => by
    have := step_le (s := s) hab
    unfold ApT; simp only; omega)
  ·obtain ⟨i, hi, rfl⟩ := mem q hq
   have := (h.rg p hp).2.2.2.1
   unfold ApT; simp only; omega
 ·rw [sumC_app, h.ar, sumC_col, ← Int.natCast_mul, ← Int.natCast_mul, ← Int.natCast_add]
  congr 1
  rw [Nat.add_mul, Nat.mul_assoc]
 ·exact ⟨⟨(W : Int), ((0 * s : Nat) : Int), (s : Int)⟩, List.mem_append.2 (.inr (by simp only [colT, List.mem_map, List.mem_range]; exact ⟨0, hm, rfl⟩)), by simp⟩
 ·obtain ⟨t, ht, e⟩ := h.mh
  exact ⟨t, List.mem_append.2 (.inl ht), e⟩
theorem MkC.down {L : List Tr} {H s m : Nat} (h : MkC L (s * m) H) (hs : 1 ≤ s) (hm : 1 ≤ m) (hh : H + s ≤ 1000) : MkC (L ++ rowT H s m) (s * m) (H + s) := by
 have mem : ∀ t, t ∈ rowT H s m → ∃ i, i < m ∧ t = ⟨((i * s : Nat) : Int), (H : Int), (s : Int)⟩ := fun t ht => by
  simp only [rowT, List.mem_map, List.mem_range] at ht
  obtain ⟨i, hi, rfl⟩ := ht
  exact ⟨i, hi, rfl⟩
 refine ⟨by rw [List.length_append]; have := h.pos; omega, h.w1, by omega, h.wb, hh, fun t ht => ?_, ?_, ?_, ?_, ?_⟩
 ·rcases List.mem_append.1 ht with ht | ht
  ·obtain ⟨h1, h2, h3, h4, h5⟩ := h.rg t ht
   exact ⟨h1, h2, h3, h4, by omega⟩
  ·obtain ⟨i, hi, rfl⟩ := mem t ht
   have := step_le (s := s) hi
   rw [Nat.mul_comm m s] at this
   refine ⟨by simp only; omega, by simp, by simp only; omega, by simp only; omega, by simp⟩
 ·rw [List.pairwise_append]
  refine ⟨h.ap, ?_, fun p hp q hq => ?_⟩
  ·unfold rowT
   rw [List.pairwise_map]
   exact List.pairwise_lt_range.imp (fun {a b} hab => by
    have := step_le (s := s) hab
    unfold ApT; simp only; omega)
  ·obtain ⟨i, hi, rfl⟩ := mem q hq
   have := (h.rg p hp).2.2.2.2
   unfold ApT; simp only; omega
 ·rw [sumC_app, h.ar, sumC_row, ← Int.natCast_mul, ← Int.natCast_mul, ← Int.natCast_add]
  congr 1
  rw [Nat.mul_add]
  congr 1
  rw [Nat.mul_assoc, Nat.mul_assoc]
  congr 1
  exact Nat.mul_comm s m
 ·obtain ⟨t, ht, e⟩ := h.mw
  exact ⟨t, List.mem_append.2 (.inl ht), e⟩
 ·exact ⟨⟨((0 * s : Nat) : Int), (H : Int), (s : Int)⟩, List.mem_append.2 (.inr (by simp only [rowT, List.mem_map, List.mem_range]; exact ⟨0, hm, rfl⟩)), by simp⟩
end Go.Proofs.YtdfkhbflcacbfaaGreat

/- Lines of a cut: compared and sorted. -/
namespace Go.Proofs.YtdfkhbflcacbfaaGreat
open Go.RowKit Go.Sort Go.Shelf Go.Lib
attribute [local go_sem ↓] Go.wp_at_zero Go.wp_at_succ
/-- how lines are compared: by y, then from, then to -/
def cmpL (p q : Tr) : Int := if p.a < q.a then -1 else if q.a < p.a then 1 else if p.b < q.b then -1 else if q.b < p.b then 1 else if p.c < q.c then -1 else if q.c < p.c then 1 else 0
def ltL (p q : Tr) : Prop := p.a < q.a ∨ (p.a = q.a ∧ (p.b < q.b ∨ (p.b = q.b ∧ p.c < q.c)))
theorem cmpL_lt (p q : Tr) : cmpL p q < 0 ↔ ltL p q := by
 unfold cmpL ltL
 repeat' split
 all_goals (simp; try omega)
theorem swo_cmpL : Go.Sort.SWO (ltOf cmpL) where
 irrefl x := by rw [ltOf, decide_eq_false_iff_not, cmpL_lt]; unfold ltL; omega
 trans x y z h1 h2 := by
  rw [ltOf, decide_eq_true_iff, cmpL_lt] at *
  unfold ltL at *; omega
 ntrans x y z h1 h2 := by
  rw [ltOf, decide_eq_false_iff_not, cmpL_lt] at *
  unfold ltL at *; omega
def thF (p q r : Int) : Nat → Int := fun j => if j = 0 then p else if j = 1 then q else r
theorem th_ints (w : World) (p q r : Int) : Ints (w.alloc (.cells #[.int .i64 p, .int .i64 q, .int .i64 r] 3)) (.slice (some ⟨w.heap.size, 0, none⟩) 3 3) 3 (thF p q r) :=
 ints_of_own (base := w.heap.size) ⟨rfl, .inr ⟨w.heap.size, 3, #[.int .i64 p, .int .i64 q, .int .i64 r], rfl, Nat.le_refl _, heap_alloc_new w _, by omega, by unfold maxLen; omega, rfl, rfl⟩⟩
theorem lexLn (x y : Tr) : lexC (thF x.a x.b x.c) (thF y.a y.b y.c) 3 3 3 0 = cmpL x y := by
 have t0 : ∀ p q r : Int, thF p q r 0 = p := fun _ _ _ => rfl
 have t1 : ∀ p q r : Int, thF p q r 1 = q := fun _ _ _ => rfl
 have t2 : ∀ p q r : Int, thF p q r 2 = r := fun _ _ _ => rfl
 simp only [lexC, cmp3, cmpL, Nat.zero_add, Nat.reduceAdd, t0, t1, t2]
 by_cases a1 : x.a < y.a
 ·simp [a1]
 ·by_cases a2 : y.a < x.a
  ·simp [a1, a2]
  ·by_cases b1 : x.b < y.b
   ·simp [a1, a2, b1]
   ·by_cases b2 : y.b < x.b
    ·simp [a1, a2, b1, b2]
    ·by_cases c1 : x.c < y.c
     ·simp [a1, a2, b1, b2, c1]
     ·by_cases c2 : y.c < x.c
      ·simp [a1, a2, b1, b2, c1, c2]
      ·simp [a1, a2, b1, b2, c1, c2]
theorem ownT_sort {w : World} {base g cap : Nat} {e : TypeId} {P : List Tr} {d : Array Tr} {m : Nat} {os : Array Obj} (h : w.ownsRow base e 3 (.slice (some ⟨g, 0, none⟩) P.length cap) P.length (trL P)) (hs : d.size = P.length) :
  (sortWorldK trC 3 w g 0 m d os).ownsRow base e 3 (.slice (some ⟨g, 0, none⟩) P.length cap) P.length (trL d.toList) := by
 have hl : d.toList.length = P.length := by simpa using hs
 have hH := holdsK_sortWorldK_c trC 3 w g 0 P.toArray d m os (holdsT_own h) (h.lt g rfl).2 (by simpa using hs)
 rcases h.2 with ⟨h', _⟩ | ⟨g', cap', cur, h', hb, hg, hnc, hcm, hcs, htake⟩
 ·simp at h'
 ·simp only [Value.slice.injEq, Option.some.injEq, Addr.mk.injEq, and_true, true_and] at h'
  obtain ⟨rfl, rfl⟩ := h'
  have hlt : g < w.heap.size := (Array.getElem?_eq_some_iff.1 hg).1
  have hblk : (sortWorldK trC 3 w g 0 m d os).heap[g]? = some (.cells (putCells id 0 (flatK trC 3 d) cur) e (0, 0)) := by
   unfold sortWorldK grow putRowK putRow mapBlock
   rw [Array.getElem?_append_left (by simp [Sort.ahead]; omega), Array.getElem?_modify, if_pos rfl]
   show (w.heap[g]?).map _ = _
   rw [hg]; rfl
  refine ⟨by rw [trL_len, hl], .inr ⟨g, cap, _, rfl, hb, hblk, hnc, hcm, by simp [putCells, hcs], ?_⟩⟩
  have hn3 : P.length * 3 ≤ cap * 3 := Nat.mul_le_mul_right 3 hnc
  apply List.ext_getElem?
  intro t
  by_cases ht : t < P.length * 3
  ·have hc := (hH t (by simpa [hs] using ht)).1
   rw [Nat.zero_add, cell_of_row _ g t _ e (0, 0) hblk] at hc
   have hf := flatT_get d.toList t (by rw [hl]; exact ht)
   rw [List.getElem?_take, if_pos ht, trL_get d.toList t (by rw [hl]; exact ht), Array.getElem?_toList, hc]
   rw [show d.toList.toArray = d by simp] at hf
   rw [id, hf]
   have h3 : t % 3 < 3 := Nat.mod_lt _ (by omega)
   generalize d.toList.getD (t / 3) default = x
   rcases (show t % 3 = 0 ∨ t % 3 = 1 ∨ t % 3 = 2 by omega) with e | e | e <;> rw [e] <;> rfl
  ·rw [List.getElem?_take, if_neg ht, List.getElem?_eq_none_iff.2 (by rw [trL_len, hl]; omega)]
set_option maxHeartbeats 1000000 in
set_option maxRecDepth 100000 in
theorem lcmp_any (x y : Tr) (W : World) : Calls Tryz.prog 41 #[.agg #[.int .i64 x.a, .int .i64 x.b, .int .i64 x.c], .agg #[.int .i64 y.a, .int .i64 y.b, .int .i64 y.c]] W fun e w' => e = .returned (.int .i64 (cmpL x y)) ∧ ∃ q os', w' = grow (W.drewN q) os' := by
 obtain ⟨W2, hW2⟩ : ∃ W2, W2 = (W.alloc (.cells #[.int .i64 x.a, .int .i64 x.b, .int .i64 x.c] 62)).alloc (.cells #[.int .i64 y.a, .int .i64 y.b, .int .i64 y.c] 62) := ⟨_, rfl⟩
 have e2 : W2.heap.size = W.heap.size + 1 + 1 := by rw [hW2]; simp
 have hcon := compare_ints _ _ 3 3 (thF x.a x.b x.c) (thF y.a y.b y.c) _ ((th_ints W2 x.a x.b x.c).mono ((Below.refl _ _).alloc (Nat.le_refl _) (.cells #[.int .i64 y.a, .int .i64 y.b, .int .i64 y.c] 3)) (Nat.le_refl _)) (th_ints (W2.alloc (.cells #[.int .i64 x.a, .int .i64 x.b, .int .i64 x.c] 3)) y.a y.b y.c) (by omega) (by omega)
 rw [lexLn, World.size_alloc, e2] at hcon
 rw [hW2] at hcon
 clear hW2 e2
 generalize cmpL x y = r at hcon ⊢
 go_enter Tryz.func41, Tryz.ntmps41
 go_wp2_with (go_at_call 29; (with_reducible refine hcon.mono ?_); rintro e w' ⟨rfl, rfl⟩)
 go_ret
 exact ⟨rfl, grow4T _ _ _ _ _⟩
theorem lcmp_lays (blk off size : Nat) (w : World) : CmpLays Tryz.prog 41 #[] trC 3 cmpL blk off size w :=
 fun _ _ _ _ x y => lcmp_any x y _
set_option maxHeartbeats 1000000 in
theorem sortLn_any (w : World) (base g cap : Nat) (P : List Tr) (h : w.ownsRow base 62 3 (.slice (some ⟨g, 0, none⟩) P.length cap) P.length (trL P)) (h1000 : P.length ≤ 1000) :
  Calls Tryz.prog 40 #[.slice (some ⟨g, 0, none⟩) P.length cap, .func (.func 41) #[] #[]] w fun e w' => e = .returned (.tuple #[]) ∧ ∃ P' : List Tr, P'.length = P.length ∧ P.Perm P' ∧ P'.Pairwise (fun a b => ¬ ltL b a) ∧ w'.ownsRow base 62 3 (.slice (some ⟨g, 0, none⟩) P'.length cap) P'.length (trL P') ∧ Below g w w' ∧ g < w'.heap.size ∧ (∀ k, k ≠ g → k < w.heap.size → w'.heap[k]? = w.heap[k]?) := by
 have hgb : base ≤ g ∧ g < w.heap.size := h.lt g rfl
 have eg : ∀ args w, (callFunc 41 args).run Tryz.prog w = .ok (.enter 41 args) w := enters_of Tryz.func41 (by kernel_rfl) rfl
 have hcon := AnyQ.slices_SortFunc Tryz.sortLn 3 Tryz.isAgg62 Tryz.sizeOf62 trC (fun _ => rfl) (fun x v hv => by simp [trC] at hv; rcases hv with rfl | rfl | rfl <;> rfl) cmpL swo_cmpL 41 #[] g 0 cap P.toArray w eg (lcmp_lays g 0 P.toArray.size w) (holdsT_own h) hgb.2 (by simp; omega)
 rw [show P.toArray.size = P.length from rfl] at hcon
 refine Calls.mono hcon ?_
 rintro e w' ⟨rfl, d', n, os, hp, hs, rfl⟩
 have hsz : d'.size = P.length := by have := hp.1; simpa using this
 refine ⟨rfl, d'.toList, by simpa using hsz, by have := permT_of hp; simpa using this, ?_, ?_, sortT_below (Nat.le_refl _) (by omega), ?_, fun k hk hkw => ?_⟩
 ·have := sortedT_of (d := P.toArray) (by simpa using hsz) hs
  exact this.imp (fun {a b} q e => q ((cmpL_lt _ _).2 e))
 ·have := ownT_sort (m := n) (os := os) h hsz
  rw [show d'.toList.length = P.length by simpa using hsz]
  exact this
 ·exact Nat.lt_of_lt_of_le hgb.2 (size_sortWorldK_c _ _ _ _ _ _ _ _)
 ·unfold sortWorldK grow putRowK putRow mapBlock
  rw [Array.getElem?_append_left (by simp [Sort.ahead]; omega), Array.getElem?_modify, if_neg (fun e => hk e.symm)]
  rfl
end Go.Proofs.YtdfkhbflcacbfaaGreat
