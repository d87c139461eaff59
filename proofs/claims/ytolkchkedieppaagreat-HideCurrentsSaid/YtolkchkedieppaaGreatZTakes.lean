/- Plain arithmetic: digits in base 2^32. No program in sight. -/
import Derived.Test.YtolkchkedieppaaGreatProg
import Derived.Deep.OwnRows
import Derived.Deep.QuietTactic
import Derived.BigQuiet
import Derived.WalkKit
import Derived.Lib.Hide
import Derived.Deep.LoopGhost
import Derived.Below
import Derived.ChangeSame
import Derived.ChangeSlices
import Derived.ProofKit
import Derived.OpenShut
import Derived.WideKeyArgs
import Derived.Deep.Matrix
import Derived.Deep.RegionHeld3
set_option linter.unusedVariables false
set_option linter.unusedSimpArgs false
namespace Go.Proofs.YtolkchkedieppaaGreat
theorem Bpow_pos (n : Nat) : 0 < 4294967296 ^ n := Nat.pow_pos (by omega)
/-- the number with the digits f 0 .. f (n - 1), the least first -/
def valF (f : Nat → Nat) : Nat → Nat
  | 0 => 0
  | n + 1 => valF f n + f n * 4294967296 ^ n
/-- digit i of a number -/
def dig (x i : Nat) : Nat := x / 4294967296 ^ i % 4294967296
/-- how many digits a number has -/
def nl (x : Nat) : Nat := if x = 0 then 0 else x.log2 / 32 + 1
theorem dig_lt (x i : Nat) : dig x i < 4294967296 := Nat.mod_lt _ (by omega)
theorem nl_le (x n : Nat) : nl x ≤ n ↔ x < 4294967296 ^ n := by
  unfold nl
  by_cases h : x = 0
  · subst h; simp [Bpow_pos]
  · rw [if_neg h]
    have e : (4294967296 : Nat) ^ n = 2 ^ (32 * n) := by rw [Nat.pow_mul]
    rw [e, ← Nat.log2_lt h]
    omega
theorem lt_nl (x n : Nat) : n < nl x ↔ 4294967296 ^ n ≤ x := by
  have := nl_le x n
  omega
theorem lt_pow_nl (x : Nat) : x < 4294967296 ^ nl x := (nl_le x (nl x)).1 (Nat.le_refl _)
theorem nl_zero : nl 0 = 0 := rfl
theorem nl_pos (x : Nat) : 0 < nl x ↔ 0 < x := by rw [lt_nl]; simp; omega
theorem nl_eq_zero (x : Nat) : nl x = 0 ↔ x = 0 := by have := nl_pos x; omega
theorem nl_mono {x y : Nat} (h : x ≤ y) : nl x ≤ nl y := (nl_le _ _).2 (Nat.lt_of_le_of_lt h (lt_pow_nl y))
theorem valF_lt (f : Nat → Nat) (n : Nat) (h : ∀ i, i < n → f i < 4294967296) : valF f n < 4294967296 ^ n := by
  induction n with
  | zero => simp [valF]
  | succ n ih =>
    have h1 := ih (fun i hi => h i (by omega))
    have h2 := h n (by omega)
    simp only [valF, Nat.pow_succ]
    have : f n * 4294967296 ^ n + 4294967296 ^ n ≤ 4294967296 * 4294967296 ^ n := by
      rw [← Nat.succ_mul]; exact Nat.mul_le_mul_right _ h2
    rw [Nat.mul_comm (4294967296 ^ n)]
    omega
theorem valF_congr {f g : Nat → Nat} {n : Nat} (h : ∀ i, i < n → f i = g i) : valF f n = valF g n := by
  induction n with
  | zero => rfl
  | succ n ih => simp only [valF]; rw [ih (fun i hi => h i (by omega)), h n (by omega)]
theorem valF_dig (x n : Nat) : valF (dig x) n = x % 4294967296 ^ n := by
  induction n with
  | zero => simp [valF, Nat.mod_one]
  | succ n ih =>
    simp only [valF, ih, dig]
    rw [Nat.pow_succ, Nat.mod_mul, Nat.mul_comm (4294967296 ^ n)]
theorem valF_nl (x : Nat) : valF (dig x) (nl x) = x := by
  rw [valF_dig, Nat.mod_eq_of_lt (lt_pow_nl x)]
theorem dig_valF (f : Nat → Nat) (n : Nat) (h : ∀ i, i < n → f i < 4294967296) (i : Nat) (hi : i < n) : dig (valF f n) i = f i := by
  induction n with
  | zero => omega
  | succ n ih =>
    have hl := valF_lt f n (fun i hi => h i (by omega))
    by_cases e : i = n
    · subst e
      have hb := Bpow_pos i
      simp only [valF, dig]
      rw [Nat.add_mul_div_right _ _ hb, Nat.div_eq_of_lt hl, Nat.zero_add, Nat.mod_eq_of_lt (h i (by omega))]
    · have h1 := ih (fun i hi => h i (by omega)) (by omega)
      rw [← h1]
      obtain ⟨d, rfl⟩ : ∃ d, n = i + 1 + d := ⟨n - i - 1, by omega⟩
      simp only [valF, dig]
      have : f (i + 1 + d) * 4294967296 ^ (i + 1 + d) = (f (i + 1 + d) * 4294967296 ^ d * 4294967296) * 4294967296 ^ i := by
        rw [Nat.pow_add, Nat.pow_add]; simp only [Nat.pow_one]; ac_rfl
      rw [this, Nat.add_mul_div_right _ _ (Bpow_pos i), Nat.add_mul_mod_self_right]
theorem dig_zero_of_lt {x n i : Nat} (h : x < 4294967296 ^ n) (hi : n ≤ i) : dig x i = 0 := by
  unfold dig
  rw [Nat.div_eq_of_lt (Nat.lt_of_lt_of_le h (Nat.pow_le_pow_right (by omega) hi))]
/-- how many of the first n digits are left when zeros at the end are left out -/
def trimN (f : Nat → Nat) : Nat → Nat
  | 0 => 0
  | k + 1 => if f k = 0 then trimN f k else k + 1
theorem trimN_le (f : Nat → Nat) (n : Nat) : trimN f n ≤ n := by
  induction n with
  | zero => exact Nat.le_refl _
  | succ n ih => simp only [trimN]; split <;> omega
theorem valF_trimN (f : Nat → Nat) (n : Nat) : valF f (trimN f n) = valF f n := by
  induction n with
  | zero => rfl
  | succ n ih =>
    simp only [trimN]
    split
    · rename_i h; rw [ih]; simp [valF, h]
    · rfl
theorem nl_valF (f : Nat → Nat) (n : Nat) (h : ∀ i, i < n → f i < 4294967296) : nl (valF f n) = trimN f n := by
  have hle := trimN_le f n
  have h1 : nl (valF f n) ≤ trimN f n := by
    rw [nl_le, ← valF_trimN]
    exact valF_lt f _ (fun i hi => h i (by omega))
  have h2 : trimN f n ≤ nl (valF f n) := by
    by_cases e : trimN f n = 0
    · omega
    · obtain ⟨k, hk⟩ : ∃ k, trimN f n = k + 1 := ⟨trimN f n - 1, by omega⟩
      have hne : f k ≠ 0 := by
        clear h1 hle h e
        induction n with
        | zero => simp [trimN] at hk
        | succ n ih =>
          simp only [trimN] at hk
          split at hk
          · exact ih hk
          · have : n = k := by omega
            subst this; assumption
      rw [hk]
      show k < _
      rw [lt_nl, ← valF_trimN, hk]
      simp only [valF]
      have := Nat.mul_le_mul_right (4294967296 ^ k) (Nat.one_le_iff_ne_zero.2 hne)
      omega
  omega
theorem nl_add (x y m : Nat) (hx : nl x ≤ m) (hy : nl y ≤ m) : nl (x + y) ≤ m + 1 := by
  rw [nl_le] at *
  rw [Nat.pow_succ]
  have := Bpow_pos m
  omega
theorem nl_mul (x y m n : Nat) (hx : nl x ≤ m) (hy : nl y ≤ n) : nl (x * y) ≤ m + n := by
  rw [nl_le] at *
  rw [Nat.pow_add]
  exact Nat.mul_lt_mul'' hx hy
end Go.Proofs.YtolkchkedieppaaGreat

/- General words for the walks: a slice of integers that is read, an integer and a rational number in memory. Nothing of the program's own is proved here. -/
namespace Go.Proofs.YtolkchkedieppaaGreat
open Go.RowKit
/-- indexing a slice that may be nil -/
theorem run_indexAt_opt {P : Program} (t : TypeId) (h : P.underlying t = some (.slice (P.elem t))) (hs : ∀ W, (sizeOf (P.elem t)).run P W = .ok 1 W)
   (a : Option Addr) (b o n c : Nat) (ha : 0 < n → a = some ⟨b, o, none⟩) (k : IntKind) (i : Int) (h0 : 0 ≤ i) (h1 : i < n) (W : World) :
    (Instr.indexAt t (.slice a n c) (.int k i)).run P W = .ok (.pointer (some ⟨b, o + i.toNat, none⟩)) W := by
  rw [ha (by omega), run_indexAt_slice W t _ n c k i h, if_pos ⟨h0, h1⟩, hs]
  simp only [Result.andThen, Nat.mul_one]
  congr 3
  unfold Addr.add
  split <;> simp_all
theorem sliced_zero (a : Option Addr) (h c s : Nat) : sliced a 0 h c s = .slice a h c := by
  unfold sliced
  cases a <;> simp [Addr.add]
/-- the slice '.slice a n c' reads as g 0 .. g (n - 1), one cell each -/
structure IsSl (w : World) (a : Option Addr) (b o c n : Nat) (g : Nat → Value) : Prop where
  cap : n ≤ c
  at_ : 0 < n → a = some ⟨b, o, none⟩
  lt : 0 < n → b < w.heap.size
  cell : ∀ i, i < n → w.cell? ⟨b, o + i, none⟩ = some (g i)
  nc : a = none → c = 0
def Sl (w : World) (v : Value) (n : Nat) (g : Nat → Value) : Prop :=
  ∃ (a : Option Addr) (b o c : Nat), v = .slice a n c ∧ IsSl w a b o c n g
section
variable {w w' : World} {a : Option Addr} {b o c n : Nat} {g : Nat → Value}
theorem IsSl.mono {B : Nat} (h : IsSl w a b o c n g) (hb : Below B w w') (hB : w.heap.size ≤ B) : IsSl w' a b o c n g where
  cap := h.cap
  nc := h.nc
  at_ := h.at_
  lt := fun q => Nat.lt_of_lt_of_le (h.lt q) hb.size
  cell := fun i hi => by
    rw [hb.cell (p := ⟨b, o + i, none⟩) (Nat.lt_of_lt_of_le (h.lt (by omega)) hB)]; exact h.cell i hi
theorem IsSl.drew (h : IsSl w a b o c n g) : IsSl w.drew a b o c n g := ⟨h.cap, h.at_, h.lt, h.cell, h.nc⟩
theorem IsSl.alloc (h : IsSl w a b o c n g) (ob : Obj) : IsSl (w.alloc ob) a b o c n g :=
  h.mono ((Below.refl w.heap.size w).alloc (Nat.le_refl _) ob) (Nat.le_refl _)
theorem IsSl.congr {g' : Nat → Value} (h : IsSl w a b o c n g) (e : ∀ i, i < n → g i = g' i) : IsSl w a b o c n g' :=
  ⟨h.cap, h.at_, h.lt, fun i hi => by rw [h.cell i hi, e i hi], h.nc⟩
theorem cell?_setCell_ne' (w : World) (p q : Addr) (u : Value) (h : q ≠ p) (hp : p.spot = none) (hq : q.spot = none) : (w.setCell p u).cell? q = w.cell? q := by
  unfold World.setCell World.cell?
  simp only [Array.getElem?_modify]
  by_cases e : p.block = q.block
  · rw [if_pos e]
    cases hh : w.heap[q.block]? with
    | none => simp
    | some ob =>
      cases ob <;> simp_all
      rename_i c el fr
      have : p.off ≠ q.off := by
        intro e2; apply h; cases p; cases q; simp_all
      simp [Array.getElem?_setIfInBounds, this]
  · rw [if_neg e]
/-- a store into a cell that holds what none of the elements is -/
theorem IsSl.setCell (h : IsSl w a b o c n g) {p : Addr} {v0 : Value} (u : Value) (hp : w.cell? p = some v0) (hne : ∀ i, i < n → g i ≠ v0) : IsSl (w.setCell p u) a b o c n g where
  cap := h.cap
  nc := h.nc
  at_ := h.at_
  lt := fun q => by simp only [World.setCell, Array.size_modify]; exact h.lt q
  cell := fun i hi => by
    have hs : p.spot = none := by
      unfold World.cell? at hp
      split at hp
      · split at hp
        · cases hp
        · rename_i hq; simpa using hq
      · cases hp
    rw [cell?_setCell_ne' _ _ _ _ _ hs rfl]
    · exact h.cell i hi
    · intro e
      have := h.cell i hi
      rw [e, hp] at this
      exact hne i hi (Option.some.inj this).symm
theorem Sl.mono {v : Value} {B : Nat} (h : Sl w v n g) (hb : Below B w w') (hB : w.heap.size ≤ B) : Sl w' v n g := by
  obtain ⟨a, b, o, c, rfl, hs⟩ := h
  exact ⟨a, b, o, c, rfl, hs.mono hb hB⟩
end
/-- nothing but draws has happened -/
def Drawn (w w' : World) : Prop := ∃ n, w' = w.drewN n
theorem Drawn.refl (w : World) : Drawn w w := ⟨0, rfl⟩
theorem Drawn.of (w : World) (n : Nat) : Drawn w (w.drewN n) := ⟨n, rfl⟩
theorem Drawn.step {w w' : World} (h : Drawn w w') (n : Nat) : Drawn w (w'.drewN n) := by
  obtain ⟨k, rfl⟩ := h
  exact ⟨k + n, World.drewN_drewN _ _ _⟩
theorem Drawn.trans {w w' w2 : World} (h : Drawn w w') (h2 : Drawn w' w2) : Drawn w w2 := by
  obtain ⟨k, rfl⟩ := h2
  exact h.step k
theorem below_drawN {B : Nat} {a w : World} (h : Below B a w) (n : Nat) : Below B a (w.drewN n) := ⟨h.os, h.tape, h.output, h.size, h.block⟩
theorem Drawn.below {w w' : World} (h : Drawn w w') (B : Nat) : Below B w w' := by
  obtain ⟨n, rfl⟩ := h
  exact below_drawN (Below.refl B w) n
/-- digit i as a cell -/
def lc (x i : Nat) : Value := .int .u32 (dig x i : Nat)
/-- a natural number's limbs -/
def Mag (w : World) (v : Value) (x : Nat) : Prop := Sl w v (nl x) (lc x)
theorem Mag.mono {w w' : World} {v : Value} {x : Nat} {B : Nat} (h : Mag w v x) (hb : Below B w w') (hB : w.heap.size ≤ B) : Mag w' v x := Sl.mono h hb hB
theorem Mag.drew {w : World} {v : Value} {x : Nat} (h : Mag w v x) : Mag w.drew v x := by
  obtain ⟨a, b, o, c, rfl, hs⟩ := h
  exact ⟨a, b, o, c, rfl, hs.drew⟩
theorem Mag.alloc {w : World} {v : Value} {x : Nat} (h : Mag w v x) (ob : Obj) : Mag (w.alloc ob) v x := by
  obtain ⟨a, b, o, c, rfl, hs⟩ := h
  exact ⟨a, b, o, c, rfl, hs.alloc ob⟩
/-- a store into a cell that holds no number -/
theorem Mag.setCell {w : World} {v : Value} {x : Nat} (h : Mag w v x) {p : Addr} {v0 : Value} (u : Value) (hp : w.cell? p = some v0) (hne : ∀ k z, v0 ≠ .int k z) : Mag (w.setCell p u) v x := by
  obtain ⟨a, b, o, c, rfl, hs⟩ := h
  exact ⟨a, b, o, c, rfl, hs.setCell u hp (fun i _ e => hne _ _ e.symm)⟩
def IntIs (w : World) (v : Value) (z : Int) (m : Nat) : Prop :=
  ∃ u, v = .agg #[.bool (decide (z < 0)), u] ∧ Mag w u z.natAbs ∧ nl z.natAbs ≤ m
theorem IntIs.mono {w w' : World} {v : Value} {z : Int} {m : Nat} {B : Nat} (h : IntIs w v z m) (hb : Below B w w') (hB : w.heap.size ≤ B) : IntIs w' v z m := by
  obtain ⟨u, rfl, h1, h2⟩ := h
  exact ⟨u, rfl, h1.mono hb hB, h2⟩
def RatIs (w : World) (v : Value) (q : Rat) (m : Nat) : Prop :=
  ∃ u d, v = .agg #[.bool (decide (q.num < 0)), u, .bool false, d] ∧ Mag w u q.num.natAbs ∧ Mag w d q.den ∧ nl q.num.natAbs ≤ m ∧ nl q.den ≤ m
theorem RatIs.mono {w w' : World} {v : Value} {q : Rat} {m : Nat} {B : Nat} (h : RatIs w v q m) (hb : Below B w w') (hB : w.heap.size ≤ B) : RatIs w' v q m := by
  obtain ⟨u, d, rfl, h1, h2, h3⟩ := h
  exact ⟨u, d, rfl, h1.mono hb hB, h2.mono hb hB, h3⟩
@[simp] theorem eq_add2 (n : Nat) : (n = n + 1 + 1) = False := by simp only [eq_iff_iff, iff_false]; omega
@[simp] theorem add2_eq (n : Nat) : (n + 1 + 1 = n) = False := by simp only [eq_iff_iff, iff_false]; omega
@[simp] theorem add3_eq (n : Nat) : (n + 1 + 1 + 1 = n) = False := by simp only [eq_iff_iff, iff_false]; omega
/-- what the first three blocks of the call's own hold is kept by a call that makes blocks alone -/
theorem kept3 {w W w1 : World} (hb : Below W.heap.size W w1) (hs : w.heap.size + 3 ≤ W.heap.size) (hw : Below w.heap.size w W) :
    (∀ o, w1.cell? ⟨w.heap.size, o, none⟩ = W.cell? ⟨w.heap.size, o, none⟩) ∧ (∀ o, w1.cell? ⟨w.heap.size + 1, o, none⟩ = W.cell? ⟨w.heap.size + 1, o, none⟩) ∧ (∀ o, w1.cell? ⟨w.heap.size + 1 + 1, o, none⟩ = W.cell? ⟨w.heap.size + 1 + 1, o, none⟩) ∧
    (∀ o, w1.frozen? ⟨w.heap.size, o, none⟩ = W.frozen? ⟨w.heap.size, o, none⟩) ∧ (∀ o, w1.frozen? ⟨w.heap.size + 1, o, none⟩ = W.frozen? ⟨w.heap.size + 1, o, none⟩) ∧ (∀ o, w1.frozen? ⟨w.heap.size + 1 + 1, o, none⟩ = W.frozen? ⟨w.heap.size + 1 + 1, o, none⟩) ∧
    w.heap.size + 3 ≤ w1.heap.size ∧ Hid (Below w.heap.size w w1) :=
  ⟨fun o => hb.cell (p := ⟨_, o, none⟩) (by dsimp only; omega), fun o => hb.cell (p := ⟨_, o, none⟩) (by dsimp only; omega), fun o => hb.cell (p := ⟨_, o, none⟩) (by dsimp only; omega),
   fun o => hb.frozen (p := ⟨_, o, none⟩) (by dsimp only; omega), fun o => hb.frozen (p := ⟨_, o, none⟩) (by dsimp only; omega), fun o => hb.frozen (p := ⟨_, o, none⟩) (by dsimp only; omega),
   Nat.le_trans hs hb.size, hw.trans (hb.mono (by omega))⟩
/-- the world behind three boxes -/
theorem boxes3 (w : World) (a b c : Obj) : Below w.heap.size w (((w.alloc a).alloc b).alloc c) :=
  (((Below.refl _ _).alloc (Nat.le_refl _) _).alloc (by simp) _).alloc (by simp; omega) _
theorem boxes2 (w : World) (a b : Obj) : Below w.heap.size w ((w.alloc a).alloc b) :=
  ((Below.refl _ _).alloc (Nat.le_refl _) _).alloc (by simp) _
theorem boxes1 (w : World) (a : Obj) : Below w.heap.size w (w.alloc a) := (Below.refl _ _).alloc (Nat.le_refl _) _
/-- no number -/
def NoInt (v : Value) : Prop := ∀ k z, v ≠ .int k z
theorem noInt_bool (b : Bool) : NoInt (.bool b) := fun _ _ h => by cases h
theorem noInt_slice (a : Option Addr) (n c : Nat) : NoInt (.slice a n c) := fun _ _ h => by cases h
theorem Mag.store1 {w : World} {v : Value} {x b o : Nat} (h : Mag w v x) (u : Value) {v0 : Value} (hp : w.cell? ⟨b, o, none⟩ = some v0) (hn : NoInt v0) : Mag (w.setCell ⟨b, o, none⟩ u) v x :=
  h.setCell u hp hn
theorem Mag.store2 {w : World} {v : Value} {x b : Nat} (h : Mag w v x) (u0 u1 : Value) {v0 v1 : Value} (h0 : w.cell? ⟨b, 0, none⟩ = some v0) (h1 : w.cell? ⟨b, 1, none⟩ = some v1) (n0 : NoInt v0) (n1 : NoInt v1) :
    Mag ((w.setCell ⟨b, 0, none⟩ u0).setCell ⟨b, 1, none⟩ u1) v x :=
  (h.store1 u0 h0 n0).store1 u1 (by rw [cell?_setCell_ne' _ _ _ _ (by intro e; cases e) rfl rfl]; exact h1) n1
theorem Mag.store4 {w : World} {v : Value} {x b : Nat} (h : Mag w v x) (u0 u1 u2 u3 : Value) {v0 v1 v2 v3 : Value} (h0 : w.cell? ⟨b, 0, none⟩ = some v0) (h1 : w.cell? ⟨b, 1, none⟩ = some v1)
    (h2 : w.cell? ⟨b, 2, none⟩ = some v2) (h3 : w.cell? ⟨b, 3, none⟩ = some v3) (n0 : NoInt v0) (n1 : NoInt v1) (n2 : NoInt v2) (n3 : NoInt v3) :
    Mag ((((w.setCell ⟨b, 0, none⟩ u0).setCell ⟨b, 1, none⟩ u1).setCell ⟨b, 2, none⟩ u2).setCell ⟨b, 3, none⟩ u3) v x := by
  have e : ∀ (W : World) (i j : Nat) (u : Value), i ≠ j → (W.setCell ⟨b, i, none⟩ u).cell? ⟨b, j, none⟩ = W.cell? ⟨b, j, none⟩ := fun W i j u h =>
    cell?_setCell_ne' _ _ _ _ (by intro e; injection e with _ e2; exact h e2.symm) rfl rfl
  refine (((h.store1 u0 h0 n0).store1 u1 ?_ n1).store1 u2 ?_ n2).store1 u3 ?_ n3
  · rw [e _ _ _ _ (by omega)]; exact h1
  · rw [e _ _ _ _ (by omega), e _ _ _ _ (by omega)]; exact h2
  · rw [e _ _ _ _ (by omega), e _ _ _ _ (by omega), e _ _ _ _ (by omega)]; exact h3
/-- a sign and a size -/
def sgn (s : Bool) (x : Nat) : Int := if s then -(x : Int) else x
theorem sgn_abs (s : Bool) (x : Nat) : (sgn s x).natAbs = x := by unfold sgn; split <;> omega
theorem sgn_neg (s : Bool) (x : Nat) : decide (sgn s x < 0) = (s && decide (0 < x)) := by
  cases s <;> simp [sgn]
theorem sgn_of (z : Int) : sgn (decide (z < 0)) z.natAbs = z := by
  unfold sgn; by_cases h : z < 0 <;> simp [h] <;> omega
theorem IntIs.mk {w : World} {s : Bool} {u : Value} {x m : Nat} {z : Int} (hz : z = sgn s x) (hm : Mag w u x) (hl : nl x ≤ m) : IntIs w (.agg #[.bool (s && decide (0 < x)), u]) z m := by
  subst hz
  exact ⟨u, by rw [sgn_neg], by rw [sgn_abs]; exact hm, by rw [sgn_abs]; exact hl⟩
end Go.Proofs.YtolkchkedieppaaGreat

/- Slices and matrices of integers that are read; the small functions of the reference that only look at integers. -/
namespace Go.Proofs.YtolkchkedieppaaGreat
open Go.RowKit
theorem ints_s : Tryz.prog.underlying 22 = some (.slice (Tryz.prog.elem 22)) := by kernel_rfl
theorem ints_z (W : World) : (sizeOf (Tryz.prog.elem 22)).run Tryz.prog W = .ok 1 W := by kernel_rfl
/-- integers as cells -/
def ic (f : Nat → Int) (i : Nat) : Value := .int .i64 (f i)
/-- element i of a slice of integers -/
theorem ixI {w : World} {a : Option Addr} {b o c n : Nat} {g : Nat → Value} (h : IsSl w a b o c n g) (i d : Nat) (hi : i < n) (W : World) :
   (Instr.indexAt 22 (.slice a n d) (.int .i64 (i : Int))).run Tryz.prog W = .ok (.pointer (some ⟨b, o + i, none⟩)) W :=
  run_indexAt_opt 22 ints_s ints_z a b o n d (fun q => h.at_ q) .i64 i (by omega) (by omega) W
def Ints (w : World) (v : Value) (n : Nat) (f : Nat → Int) : Prop := Sl w v n (ic f)
section
variable {w w' : World} {a : Option Addr} {b o c n : Nat} {g : Nat → Value} {ra : Nat → Option Addr} {rb ro rc m : Nat → Nat} {f : Nat → Nat → Int}
theorem IsSl.drawn (h : IsSl w a b o c n g) (hd : Drawn w w') : IsSl w' a b o c n g := h.mono (hd.below _) (Nat.le_refl _)
theorem Ints.mono {v : Value} {f : Nat → Int} {B : Nat} (h : Ints w v n f) (hb : Below B w w') (hB : w.heap.size ≤ B) : Ints w' v n f := Sl.mono h hb hB
theorem Ints.drawn {v : Value} {f : Nat → Int} (h : Ints w v n f) (hd : Drawn w w') : Ints w' v n f := h.mono (hd.below _) (Nat.le_refl _)
end
end Go.Proofs.YtolkchkedieppaaGreat

/- The arguments of the laws, opened: slices of integers; the last step of a row. -/
namespace Go.Proofs.YtolkchkedieppaaGreat
open Go.ChangeShapes Go.WideShapes Go.ChangeAt Go.RowKit Go.Deep
section
variable {H : Type} {enc : TypeId × Value → H} {P : Program}
theorem post_of_below {f : Func} {s : ChangeSpec} {apart fresh handsOn again : Bool} {W W' : World} {args : Array Value} {v : Value} {ds gs : List (DataW H)} {before pa pv : List MemPlace}
    (hW : DataW.Whole enc P f.params.toList s.vars apart W args.toList ds gs before)
    (hres : ∀ (b : Nat) (sp : Nat → Bool) (hd : Bool), DataW.TrodAll enc P W' b sp hd f.resultTypes.toList (v.resultList f.resultTypes.size) (s.fn H (ds ++ gs)).results [])
    (hargs : ∀ sp : Nat → Bool, (∀ p ∈ before, sp p.block = true) → DataW.TrodAll enc P W' 0 sp true f.params.toList args.toList (s.fn H (ds ++ gs)).args pa)
    (hvars : ∀ sp : Nat → Bool, (∀ p ∈ before, sp p.block = true) → DataW.TrodVars enc P W' sp s.vars (s.fn H (ds ++ gs)).vars pv)
    (hps : before = pa ++ pv) (hb : Below W.heap.size W W')
    (hok : ∀ (j : Nat) (t : TypeId) (r : Value), f.resultTypes[j]? = some t → (v.resultList f.resultTypes.size)[j]? = some r → Value.okWide P W' .any 0 t r) :
    s.post enc P f apart fresh handsOn again W args v W' := by
  have hlt : ∀ p ∈ before, p.block < W.heap.size := fun p hp => hW.lt p hp
  have hold : ∀ p ∈ before, (fun b => decide (b < W.heap.size)) p.block = true := fun p hp => by simpa using hlt p hp
  refine ⟨ds, gs, before, [], pa, pv, hW, hres _ _ _, hargs _ hold, hvars _ hold, World.keptBut_mono (fun p hp => ⟨hp, ?_⟩) (hb.frame (· ∈ before)), fun _ => ?_⟩
  · rw [hps, List.mem_append] at hp
    exact Or.inr hp
  · obtain ⟨_, _, _, _, _, hz, hn⟩ := hW
    refine ⟨hok, _, _, ([] ++ pa) ++ pv, ⟨[] ++ pa, pv, trodAll_append (hargs _ (fun _ _ => rfl)) (hres _ _ _), hvars _ (fun _ _ => rfl), rfl, ?_, ?_⟩, ?_⟩
    · intro b off hp
      have hin : MemPlace.cell b off ∈ before := by rw [hps]; simpa using hp
      rw [hb.frozen (hlt _ hin)]
      exact hz b off hin
    · intro ha
      have := hn ha
      rw [hps] at this
      simpa using this
    · intro p hp _
      rw [hps]
      simpa using hp
end
theorem ownGodebug : ownKnob Tryz.prog.godebug = none := by kernel_rfl
theorem laidOutP : laidOutB Tryz.prog = true := by kernel_rfl
section
variable {H : Type} {enc : TypeId × Value → H}
theorem plain_addr {w : World} {a : Addr} {u : Value} (h : w.cell? (a.add 0) = some u) : a = ⟨a.block, a.off, none⟩ := by
  obtain ⟨b, o, s⟩ := a
  have : s = none := by simpa [Addr.add] using World.cell?_spot h
  subst this; rfl
theorem addr_add (b o j : Nat) : (⟨b, o, none⟩ : Addr).add j = ⟨b, o + j, none⟩ := by unfold Addr.add; split <;> simp_all
end
end Go.Proofs.YtolkchkedieppaaGreat

/- Several operations of a drawn region taken one after the other: their numbers in a list. -/
namespace Go.Proofs.YtolkchkedieppaaGreat
open Go Go.RowKit
/-- number i may be taken first -/
def takeB (ops : Array Oper) (L : Array Bool) (i : Nat) : Bool := Region.noSelect ops && (Region.free .any ops L i && (Region.ready .any ops L).contains i)
section
variable {P : Program} {ops : Array Oper} {Q : Exit → Act → World → Prop} {S : World → Prop}
theorem takeB_spec {L : Array Bool} {i : Nat} (h : takeB ops L i = true) : Region.noSelect ops = true ∧ Region.free .any ops L i = true ∧ (Region.ready .any ops L).contains i = true := by
  unfold takeB at h
  simp only [Bool.and_eq_true] at h
  exact h
/-- the operations of the list are taken next -/
def wpTk (P : Program) (ops : Array Oper) (Q : Exit → Act → World → Prop) (S : World → Prop) (is : List Nat) (f : Nat) (L : Array Bool) (a : Act) (w : World) : Prop := wpAnyH P .any ops Q S f L a w
theorem wtk_begin (is : List Nat) {f : Nat} {L : Array Bool} {a : Act} {w : World} (h : wpTk P ops Q S is f L a w) : wpAnyH P .any ops Q S f L a w := h
theorem wtk_end {f : Nat} {L : Array Bool} {a : Act} {w : World} (h : wpAnyH P .any ops Q S f L a w) : wpTk P ops Q S [] f L a w := h
theorem wtk {i : Nat} {is : List Nat} {oi : Oper} {v : Value} {f : Nat} {L : Array Bool} {a : Act} {w : World} (hi : ops[i]? = some oi) (hb : takeB ops L i = true)
    (hQ : ∀ c a w, Q (.panic c) (a.put oi.dst v) w → Q (.panic c) a w) (hw : Region.wanted oi (yielded ops a.tmps) = true) (hv : ∀ w, S w → (execOp a.eval oi).run P w = .ok (.value v) w) (hS : S w)
    (h : wpTk P ops Q S is f (L.setIfInBounds i true) (a.put oi.dst v) w) : wpTk P ops Q S (i :: is) (f + 1) L a w :=
  wpAnyH_take hi (takeB_spec hb).1 (takeB_spec hb).2.1 (takeB_spec hb).2.2 hQ (.inl ⟨hw, hv⟩) hS h
/-- an operation whose guard says no -/
theorem wtk_un {i : Nat} {is : List Nat} {oi : Oper} {f : Nat} {L : Array Bool} {a : Act} {w : World} (hi : ops[i]? = some oi) (hb : takeB ops L i = true)
    (hQ : ∀ c a w, Q (.panic c) (a.put oi.dst undef) w → Q (.panic c) a w) (hw : Region.wanted oi (yielded ops a.tmps) = false) (hS : S w)
    (h : wpTk P ops Q S is f (L.setIfInBounds i true) (a.put oi.dst undef) w) : wpTk P ops Q S (i :: is) (f + 1) L a w :=
  wpAnyH_take hi (takeB_spec hb).1 (takeB_spec hb).2.1 (takeB_spec hb).2.2 hQ (.inr ⟨hw, rfl⟩) hS h
end
end Go.Proofs.YtolkchkedieppaaGreat
