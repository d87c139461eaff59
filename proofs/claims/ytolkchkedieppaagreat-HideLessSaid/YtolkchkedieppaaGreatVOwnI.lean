/- Plain mathematics of relax (Bellman and Ford): what holds of costs and of the arcs by which they came to be; a ring that is found has a cost below 0. No program in sight. -/
import Derived.Test.YtolkchkedieppaaGreatVNum3
import Derived.Test.YtolkchkedieppaaGreatVPlainLy
import Derived.Deep.DrawnRows
import Derived.Deep.QuietTactic
import Derived.BigQuiet
import Derived.Deep.AppendLies
set_option linter.unusedVariables false
set_option linter.unusedSimpArgs false
namespace Go.Proofs.YtolkchkedieppaaGreat
def setN {α : Type} (f : Nat → α) (i : Nat) (x : α) : Nat → α := fun j => if j = i then x else f j
theorem setN_self {α : Type} (f : Nat → α) (i : Nat) (x : α) : setN f i x i = x := if_pos rfl
theorem setN_ne {α : Type} (f : Nat → α) {i j : Nat} (x : α) (h : j ≠ i) : setN f i x j = f j := if_neg h
end Go.Proofs.YtolkchkedieppaaGreat

/- General words on slices in memory of the call itself, gathered by append. -/
namespace Go.Proofs.YtolkchkedieppaaGreat
open Go.RowKit
/-- what the call's own slice holds, as a slice that is read -/
theorem Sl.of_own {w : World} {base e n : Nat} {v : Value} {xs : List Value} {q : Nat → Value} (h : w.ownsRow base e 1 v n xs) (hq : ∀ i, i < n → xs[i]? = some (q i)) : Sl w v n q := by
 rcases h.2 with ⟨rfl, rfl⟩ | ⟨g, cap, cur, rfl, hbg, hg, hnc, hcm, hcs, htake⟩
 ·exact ⟨none, 0, 0, 0, rfl, ⟨Nat.le_refl _, fun h => by omega, fun h => by omega, fun i hi => by omega, fun _ => rfl⟩⟩
 ·refine ⟨some ⟨g, 0, none⟩, g, 0, cap, rfl, ⟨hnc, fun _ => rfl, fun _ => (Array.getElem?_eq_some_iff.1 hg).1, fun i hi => ?_, fun e => by cases e⟩⟩
  rw [Nat.zero_add, h.cellAt i (by omega)]
  exact hq i hi
theorem infoI : (Tryz.prog.info? 3).map (fun i => (i.zero, i.size, i.bytes)) = some (some (.int .i64 0), 1, 8) := by kernel_rfl
/-- the first n values, as a list of cells -/
def ics (f : Nat → Int) (n : Nat) : List Value := (List.range n).map (ic f)
theorem ics_get (f : Nat → Int) (n i : Nat) (h : i < n) : (ics f n)[i]? = some (ic f i) := by simp [ics, h]
theorem ics_succ (f : Nat → Int) (n : Nat) : ics f n ++ [.int .i64 (f n)] = ics f (n + 1) := by simp [ics, List.range_succ, ic]
theorem ints_of_own {w : World} {base n : Nat} {v : Value} {f : Nat → Int} (h : w.ownsRow base 3 1 v n (ics f n)) : Ints w v n f := Sl.of_own h (fun i hi => ics_get f n i hi)
theorem own_shape {w : World} {base e size n : Nat} {v : Value} {xs : List Value} (h : w.ownsRow base e size v n xs) : ∃ a c, v = .slice a n c := by
 rcases h.2 with ⟨rfl, rfl⟩ | ⟨g, cap, cur, rfl, _⟩
 ·exact ⟨none, 0, rfl⟩
 ·exact ⟨_, cap, rfl⟩
theorem rowIs_sl {w : World} {b t n : Nat} {f : Nat → Value} (h : w.rowIs b t n f) : IsSl w (some ⟨b, 0, none⟩) b 0 n n f :=
 ⟨Nat.le_refl _, fun _ => rfl, fun _ => h.lt, fun i hi => by rw [Nat.zero_add]; exact h.cell hi, fun e => by cases e⟩
theorem rowIs_below {w w' : World} {b t n B : Nat} {f : Nat → Value} (h : w.rowIs b t n f) (hb : Below B w w') (hB : b < B) : w'.rowIs b t n f := h.of_block (hb.block b hB)
theorem ics_one (f : Nat → Int) (n : Nat) : ∀ u ∈ ics f n, u.oneCell' = true := fun u hu => by
 simp [ics] at hu
 obtain ⟨i, _, rfl⟩ := hu
 rfl
theorem ics_length (f : Nat → Int) (n : Nat) : (ics f n).length = n := by simp [ics]
/-- the cell of a row of one that was just made -/
theorem new1 (w : World) (u : Value) (t : TypeId) : ∀ j x, [u][j]? = some x → (w.alloc (.cells #[u] t)).cell? ((⟨w.heap.size, 0, none⟩ : Addr).add j) = some x := fun j x hj => by
 match j, hj with
 | 0, hj => simp at hj; subst hj; simp [go_sem, Addr.add]
theorem one1 (u : Value) (h : u.oneCell' = true) : ∀ x ∈ [u], x.oneCell' = true := fun x hx => by simp at hx; subst hx; exact h
theorem own_kept {B : Nat} {e : TypeId} {k : Nat} {v : Value} {n : Nat} {xs : List Value} {w w' : World} (h : w.ownsRow B e k v n xs) (hb : Below w.heap.size w w') : w'.ownsRow B e k v n xs :=
 h.kept (row := none) ⟨hb.os, hb.tape, hb.output, hb.size, fun j hj _ => hb.block j hj⟩ (by cases hv : v.ownBlock <;> simp)
theorem add_at (b o j : Nat) : (⟨b, o, none⟩ : Addr).add j = ⟨b, o + j, none⟩ := by unfold Addr.add; split <;> simp_all
theorem news_of {w : World} {a : Option Addr} {b o c n : Nat} {f : Nat → Int} (h : IsSl w a b o c n (ic f)) (k : Nat) (hk : k ≤ n) : ∀ j u, (ics f k)[j]? = some u → w.cell? ((⟨b, o, none⟩ : Addr).add j) = some u := fun j u hj => by
 have hjk : j < k := by
  have := (List.getElem?_eq_some_iff.1 hj).1
  rw [ics_length] at this; exact this
 rw [ics_get f k j hjk] at hj
 rw [add_at, h.cell j (by omega)]; exact hj
def blk (a : Option Addr) : Option Nat := a.map Addr.block
theorem ownBlock_blk (a : Option Addr) (n c : Nat) : (Value.slice a n c).ownBlock = blk a := by cases a <;> rfl
theorem own_base {w : World} {B B' : Nat} {e : TypeId} {s n : Nat} {v : Value} {xs : List Value} (h : w.ownsRow B' e s v n xs) (hB : B ≤ B') : w.ownsRow B e s v n xs := by
 obtain ⟨h1, h2⟩ := h
 refine ⟨h1, ?_⟩
 rcases h2 with h2 | ⟨g, cap, cur, e1, e2, e3⟩
 ·exact .inl h2
 ·exact .inr ⟨g, cap, cur, e1, Nat.le_trans hB e2, e3⟩
end Go.Proofs.YtolkchkedieppaaGreat

/- slices.Compare of integers. -/
namespace Go.Proofs.YtolkchkedieppaaGreat
open Go.RowKit
attribute [local go_sem ↓] Go.wp_at_zero Go.wp_at_succ
def cmp3 (x y : Int) : Int := if x < y then -1 else if y < x then 1 else 0
theorem cmp_int (x y : Int) (w : World) : Calls Tryz.prog 133 #[.int .i64 x, .int .i64 y] w fun e w' => e = .returned (.int .i64 (cmp3 x y)) ∧ w = w' := by
 unfold cmp3
 by_cases h1 : x < y
 ·have d1 : decide (x < y) = true := by simpa using h1
  rw [if_pos h1]
  clear h1
  go_enter Tryz.func133, Tryz.ntmps133
  go_wp2
  go_ret
  exact ⟨rfl, rfl⟩
 ·have d1 : decide (x < y) = false := by simpa using h1
  rw [if_neg h1]
  clear h1
  by_cases h2 : y < x
  ·have d2 : decide (y < x) = true := by simpa using h2
   rw [if_pos h2]
   clear h2
   go_enter Tryz.func133, Tryz.ntmps133
   go_wp2
   go_ret
   exact ⟨rfl, rfl⟩
  ·have d2 : decide (y < x) = false := by simpa using h2
   rw [if_neg h2]
   clear h2
   go_enter Tryz.func133, Tryz.ntmps133
   go_wp2
   go_ret
   exact ⟨rfl, rfl⟩
/-- slices.Compare -/
def lexC (f g : Nat → Int) (n m : Nat) : Nat → Nat → Int
 | 0, _ => if n < m then -1 else 0
 | u + 1, k => if m ≤ k then 1 else if cmp3 (f k) (g k) = 0 then lexC f g n m u (k + 1) else cmp3 (f k) (g k)
set_option maxHeartbeats 2000000 in
set_option maxRecDepth 100000 in
theorem compare_ints (v1 v2 : Value) (n m : Nat) (f g : Nat → Int) (w : World) (h1 : Ints w v1 n f) (h2 : Ints w v2 m g) (hn : n ≤ 1048576) (hm : m ≤ 1048576) :
  Calls Tryz.prog 97 #[v1, v2] w fun e w' => e = .returned (.int .i64 (lexC f g n m n 0)) ∧ w = w' := by
 obtain ⟨a1, b1, o1, c1, rfl, s1⟩ := h1
 obtain ⟨a2, b2, o2, c2, rfl, s2⟩ := h2
 have S1 := Lib.hid s1
 have S2 := Lib.hid s2
 clear s1 s2
 go_enter Tryz.func97, Tryz.ntmps97
 go_wp2
 go_loopw [11] (fun v11 wr => ∃ k : Nat, k ≤ n ∧ v11 = .int .i64 (k : Nat) ∧ Hid (lexC f g n m n 0 = lexC f g n m (n - k) k) ∧ w = wr) (fun v11 _ => n - (intOf v11).toNat)
 case atStart => exact ⟨0, by omega, rfl, Lib.hid rfl, rfl⟩
 case round =>
  obtain ⟨k, hk, rfl, HX, rfl⟩ := hrel
  by_cases h : k < n
  ·have hstep : lexC f g n m (n - k) k = if m ≤ k then 1 else if cmp3 (f k) (g k) = 0 then lexC f g n m (n - (k + 1)) (k + 1) else cmp3 (f k) (g k) := by
    rw [show n - k = (n - (k + 1)) + 1 by omega]; rfl
   have ix1 := fun W => ixI S1.out k c1 h W
   have x1 := S1.out.cell k h
   simp only [ic] at x1
   by_cases hmk : m ≤ k
   ·rw [if_pos hmk] at hstep
    have HST := Lib.hid hstep
    have d1 : decide ((m : Int) ≤ (k : Int)) = true := by simpa using hmk
    have d1n : decide (m ≤ k) = true := by simpa using hmk
    clear hstep hmk
    go_wp2
    go_ret
    exact ⟨by rw [HX.out, HST.out]; rfl, rfl⟩
   ·rw [if_neg hmk] at hstep
    have h3 : k < m := by omega
    have d1 : decide ((m : Int) ≤ (k : Int)) = false := by simp; omega
    have d1n : decide (m ≤ k) = false := by simp; omega
    have ix2 := fun W => ixI S2.out k c2 h3 W
    have x2 := S2.out.cell k h3
    simp only [ic] at x2
    clear hmk
    by_cases h0 : cmp3 (f k) (g k) = 0
    ·rw [if_pos h0] at hstep
     have HST := Lib.hid hstep
     have H0 := Lib.hid h0
     clear hstep h0
     go_wp2_with (go_at_call 133; (with_reducible refine (cmp_int _ _ _).mono ?_); rintro e w1 ⟨rfl, rfl⟩; rw [H0.out])
     go_roundw
     case rel => exact ⟨k + 1, by omega, by go_num, Lib.hid (HX.out.trans HST.out), by first | rfl | trivial⟩
     case measure => simp [intOf]; omega
    ·rw [if_neg h0] at hstep
     have HST := Lib.hid hstep
     have d2 : (cmp3 (f k) (g k) != 0) = true := by simpa using h0
     clear hstep h0
     go_wp2_with (go_at_call 133; (with_reducible refine (cmp_int _ _ _).mono ?_); rintro e w1 ⟨rfl, rfl⟩)
     go_ret
     exact ⟨by rw [HX.out, HST.out]; rfl, rfl⟩
  ·obtain rfl : k = n := by omega
   by_cases h3 : k < m
   ·have d1 : decide ((k : Int) < (m : Int)) = true := by simpa using h3
    have d1n : decide (k < m) = true := by simpa using h3
    have HM3 := Lib.hid h3
    clear h3
    go_wp2
    go_ret
    refine ⟨?_, rfl⟩
    rw [HX.out, Nat.sub_self]
    simp only [lexC]
    rw [if_pos HM3.out]
    rfl
   ·have d1 : decide ((k : Int) < (m : Int)) = false := by simpa using h3
    have d1n : decide (k < m) = false := by simpa using h3
    have HM3 := Lib.hid h3
    clear h3
    go_wp2
    go_ret
    refine ⟨?_, rfl⟩
    rw [HX.out, Nat.sub_self]
    simp only [lexC]
    rw [if_neg HM3.out]
    rfl
end Go.Proofs.YtolkchkedieppaaGreat

/- sets as numbers, their members; the order of lists. -/
namespace Go.Proofs.YtolkchkedieppaaGreat
open Go.RowKit
/-- the bits of s below i -/
def mem (s i : Nat) : List Nat := (List.range i).filter (fun t => s.testBit t)
def intC (l : List Nat) : List Value := l.map (fun t => .int .i64 (t : Nat))
theorem intC_app (l : List Nat) (i : Nat) : intC l ++ [.int .i64 (i : Nat)] = intC (l ++ [i]) := by simp [intC]
/-- the order of lists -/
def lexN : List Nat → List Nat → Bool
 | [], [] => false
 | [], _ :: _ => true
 | _ :: _, [] => false
 | a :: x, b :: y => if a < b then true else if b < a then false else lexN x y
theorem lexN_asym : ∀ a b : List Nat, lexN a b = true → lexN b a = false
 | [], [], h => by cases h
 | [], _ :: _, _ => rfl
 | _ :: _, [], h => by cases h
 | a :: x, b :: y, h => by
  simp only [lexN] at h ⊢
  by_cases h1 : a < b
  ·rw [if_neg (by omega), if_pos h1]
  ·rw [if_neg h1] at h
   by_cases h2 : b < a
   ·rw [if_pos h2] at h; cases h
   ·rw [if_neg h2] at h
    rw [if_neg h2, if_neg h1]
    exact lexN_asym x y h
/-- a list's numbers -/
def lsF (a : List Nat) (i : Nat) : Int := ((a.getD i 0 : Nat) : Int)
theorem intC_ics (L : List Nat) : intC L = ics (fun i => ((L.getD i 0 : Nat) : Int)) L.length := by
 apply List.ext_getElem?
 intro i
 by_cases h : i < L.length
 ·rw [ics_get _ _ _ h]
  simp [intC, h, ic]
 ·rw [List.getElem?_eq_none (by simp [intC]; omega), List.getElem?_eq_none (by simp [ics]; omega)]
theorem list_ints {w : World} {B : Nat} {L : List Nat} {v : Value} (h : w.ownsRow B 3 1 v L.length (intC L)) : Ints w v L.length (lsF L) := by
 rw [intC_ics] at h; exact ints_of_own h
end Go.Proofs.YtolkchkedieppaaGreat

/- The first of the codes with the fewest squares, plainly. -/
namespace Go.Proofs.YtolkchkedieppaaGreat
open Go.RowKit
/-- the first lowest place -/
def loP (W : Nat) (F : Nat → Int) : Nat := minAt F (W - 1)
/-- sizes that level a floor at a height -/
def SolP (W : Nat) (H : Int) : List Nat → (Nat → Int) → Prop
 | [], F => F (loP W F) = H
 | s :: l, F => F (loP W F) < H ∧ 1 ≤ s ∧ loP W F + s ≤ W ∧ (∀ i, i < s → F (loP W F + i) = F (loP W F)) ∧ F (loP W F) + (s : Int) ≤ H ∧ SolP W H l (putF F (loP W F) s)
/-- the floor in range -/
def FlR (W : Nat) (H : Int) (F : Nat → Int) : Prop := ∀ i, i < W → 0 ≤ F i ∧ F i ≤ H
theorem loP_lt {W : Nat} {F : Nat → Int} (hW : 1 ≤ W) : loP W F < W := by have := minAt_le F (W - 1); unfold loP; omega
theorem loP_min {W : Nat} {F : Nat → Int} (i : Nat) (hi : i < W) : F (loP W F) ≤ F i := minAt_min F (W - 1) i (by omega)
theorem FlR.put {W : Nat} {H : Int} {F : Nat → Int} (h : FlR W H F) {s : Nat} (h2 : ∀ i, i < s → F (loP W F + i) = F (loP W F)) (h3 : F (loP W F) + (s : Int) ≤ H) : FlR W H (putF F (loP W F) s) := fun i hi => by
 have hi2 := h i hi
 unfold putF
 by_cases e : loP W F ≤ i ∧ i < loP W F + s
 ·rw [if_pos e]
  have := h2 (i - loP W F) (by omega)
  rw [show loP W F + (i - loP W F) = i by omega] at this
  omega
 ·rw [if_neg e]; exact hi2
/-- what is still to be covered -/
def arF (H : Int) (F : Nat → Int) : Nat → Int
 | 0 => 0
 | k + 1 => arF H F k + (H - F k)
theorem arF_nn {W : Nat} {H : Int} {F : Nat → Int} (h : FlR W H F) : ∀ k, k ≤ W → 0 ≤ arF H F k
 | 0, _ => Int.le_refl _
 | k + 1, hk => by have := arF_nn h k (by omega); have := h k (by omega); simp only [arF]; omega
theorem arF_put (H : Int) (F : Nat → Int) (p s : Nat) : ∀ k, arF H (putF F p s) k = arF H F k - (s : Int) * ((min k (p + s) - p : Nat) : Int)
 | 0 => by simp [arF]
 | k + 1 => by
  simp only [arF]
  rw [arF_put H F p s k]
  unfold putF
  by_cases e : p ≤ k ∧ k < p + s
  ·rw [if_pos e, show min (k + 1) (p + s) - p = (min k (p + s) - p) + 1 by omega]
   rw [show (((min k (p + s) - p) + 1 : Nat) : Int) = ((min k (p + s) - p : Nat) : Int) + 1 by omega, Int.mul_add, Int.mul_one]
   omega
  ·rw [if_neg e, show min (k + 1) (p + s) - p = min k (p + s) - p by omega]
   omega
def sqN : List Nat → Int
 | [] => 0
 | s :: l => (s : Int) * (s : Int) + sqN l
theorem arF_level {W : Nat} {H : Int} {F : Nat → Int} (h : FlR W H F) (hl : F (loP W F) = H) : ∀ k, k ≤ W → arF H F k = 0
 | 0, _ => rfl
 | k + 1, hk => by
  have := arF_level h hl k (by omega)
  have := h k (by omega)
  have := loP_min (F := F) k (show k < W by omega)
  simp only [arF]; omega
/-- the sizes cover what is left, and none is longer than a side -/
theorem SolP.area {W : Nat} {H : Int} : ∀ {l : List Nat} {F : Nat → Int}, FlR W H F → 1 ≤ W → SolP W H l F → arF H F W = sqN l ∧ ∀ s, s ∈ l → s ≤ W ∧ (s : Int) ≤ H
 | [], F, h, _, hs => ⟨arF_level h hs W (Nat.le_refl _), fun s hs => by simp at hs⟩
 | s :: l, F, h, hW, ⟨h1, h2, h3, h4, h5, h6⟩ => by
  obtain ⟨a, b⟩ := SolP.area (h.put h4 h5) hW h6
  rw [arF_put, show min W (loP W F + s) - loP W F = s by omega] at a
  have h0 := (h _ (loP_lt (F := F) hW)).1
  refine ⟨by simp only [sqN]; omega, fun t ht => ?_⟩
  rcases List.mem_cons.1 ht with rfl | ht
  ·omega
  ·exact b t ht
theorem sqN_le {W : Nat} {H : Int} (m : Int) (hm : 0 ≤ m) : ∀ {l : List Nat}, (∀ s, s ∈ l → (s : Int) ≤ m) → sqN l ≤ (l.length : Int) * (m * m)
 | [], _ => by simp [sqN]
 | s :: l, h => by
  have ih := sqN_le (W := W) (H := H) m hm (l := l) (fun t ht => h t (by simp [ht]))
  have hs := h s (by simp)
  have h2 : (s : Int) * (s : Int) ≤ m * m := Int.mul_le_mul hs hs (by omega) hm
  simp only [sqN, List.length_cons]
  rw [show ((l.length + 1 : Nat) : Int) = (l.length : Int) + 1 by omega, Int.add_mul, Int.one_mul]
  omega
/-- there always is a code -/
theorem sol_ex {W : Nat} {H : Int} (hW : 1 ≤ W) : ∀ (n : Nat) (F : Nat → Int), FlR W H F → arF H F W = (n : Int) → ∃ l, SolP W H l F := fun n => by
 induction n using Nat.strongRecOn with
 | _ n ih =>
  intro F hF he
  have hp := loP_lt (F := F) hW
  by_cases e : F (loP W F) = H
  ·exact ⟨[], e⟩
  ·have h1 := hF _ hp
   have h4 : ∀ i, i < 1 → F (loP W F + i) = F (loP W F) := fun i hi => by rw [show i = 0 by omega]; rfl
   have hF2 := hF.put (s := 1) h4 (by omega)
   have ha := arF_put H F (loP W F) 1 W
   rw [show min W (loP W F + 1) - loP W F = 1 by omega] at ha
   have hnn := arF_nn hF2 W (Nat.le_refl _)
   have ha2 : arF H (putF F (loP W F) 1) W = arF H F W - 1 := by rw [ha]; simp
   obtain ⟨l, hl⟩ := ih (n - 1) (by omega) (putF F (loP W F) 1) hF2 (by omega)
   exact ⟨1 :: l, by omega, by omega, by omega, h4, by omega, hl⟩
/-- the first of the codes of m squares -/
structure BestS (W : Nat) (H : Int) (F : Nat → Int) (m : Nat) (l : List Nat) : Prop where
 sol : SolP W H l F
 len : l.length = m
 le : ∀ l', SolP W H l' F → l'.length = m → l' = l ∨ lexN l l' = true
theorem BestS.uniq {W : Nat} {H : Int} {F : Nat → Int} {m : Nat} {a b : List Nat} (ha : BestS W H F m a) (hb : BestS W H F m b) : a = b := by
 rcases ha.le b hb.sol hb.len with e | e
 ·exact e.symm
 ·rcases hb.le a ha.sol ha.len with f | f
  ·exact f
  ·rw [lexN_asym a b e] at f; cases f
/-- none of m squares -/
def NoS (W : Nat) (H : Int) (F : Nat → Int) (m : Nat) : Prop := ∀ l, SolP W H l F → l.length ≠ m
/-- none of fewer than m squares -/
def NoLess (W : Nat) (H : Int) (F : Nat → Int) (m : Nat) : Prop := ∀ l, SolP W H l F → m ≤ l.length
/-- no code of m + 1 squares begins with less than s -/
def NoFst (W : Nat) (H : Int) (F : Nat → Int) (m s : Nat) : Prop := ∀ t l, t < s → SolP W H (t :: l) F → l.length ≠ m
theorem NoFst.one (W : Nat) (H : Int) (F : Nat → Int) (m : Nat) : NoFst W H F m 1 := fun t l ht hs => by
 have := hs.2.1; omega
theorem NoFst.next {W : Nat} {H : Int} {F : Nat → Int} {m s : Nat} (h : NoFst W H F m s) (hs : NoS W H (putF F (loP W F) s) m) : NoFst W H F m (s + 1) := fun t l ht hl => by
 by_cases e : t = s
 ·subst e; exact hs l hl.2.2.2.2.2
 ·exact h t l (by omega) hl
theorem NoFst.next' {W : Nat} {H : Int} {F : Nat → Int} {m s : Nat} (h : NoFst W H F m s) (hs : ∀ l, SolP W H (s :: l) F → l.length ≠ m) : NoFst W H F m (s + 1) := fun t l ht hl => by
 by_cases e : t = s
 ·subst e; exact hs l hl
 ·exact h t l (by omega) hl
theorem NoFst.best {W : Nat} {H : Int} {F : Nat → Int} {m s : Nat} {l : List Nat} (h : NoFst W H F m s) (hb : BestS W H (putF F (loP W F) s) m l) (h1 : F (loP W F) < H) (h2 : 1 ≤ s) (h3 : loP W F + s ≤ W) (h4 : ∀ i, i < s → F (loP W F + i) = F (loP W F)) (h5 : F (loP W F) + (s : Int) ≤ H) : BestS W H F (m + 1) (s :: l) := by
 refine ⟨⟨h1, h2, h3, h4, h5, hb.sol⟩, by rw [List.length_cons, hb.len], fun l' hl' hn => ?_⟩
 cases l' with
 | nil => simp at hn
 | cons t k =>
  have hn2 : k.length = m := by simpa using hn
  rcases Nat.lt_trichotomy t s with q | q | q
  ·exact absurd hn2 (h t k q hl')
  ·subst q
   rcases hb.le k hl'.2.2.2.2.2 hn2 with e | e
   ·left; rw [e]
   ·right; simp only [lexN]; rw [if_neg (by omega), if_neg (by omega)]; exact e
  ·right; simp only [lexN]; rw [if_pos q]
/-- the loop over the first square has come to its end -/
theorem NoFst.none {W : Nat} {H : Int} {F : Nat → Int} {m r : Nat} (hW : 1 ≤ W) (hr : RunP W F (loP W F) r) (h : NoFst W H F m (min r (H - F (loP W F)).toNat + 1)) : NoS W H F (m + 1) := fun l hl hn => by
 cases l with
 | nil => simp at hn
 | cons t k =>
  obtain ⟨h1, h2, h3, h4, h5, h6⟩ := hl
  have hf := (hr.fit (s := t) (F := F)).1
  have htr : t ≤ r := by
   rcases hr.stop with e | e
   ·have := hr.le; omega
   ·exact Nat.not_lt.1 (fun q => e (h4 r q))
  exact h t k (by omega) ⟨h1, h2, h3, h4, h5, h6⟩ (by simpa using hn)
theorem bestS_nil {W : Nat} {H : Int} {F : Nat → Int} (h : F (loP W F) = H) : BestS W H F 0 [] := ⟨h, rfl, fun l' _ hn => .inl (List.eq_nil_of_length_eq_zero hn)⟩
theorem noS_level {W : Nat} {H : Int} {F : Nat → Int} (h : F (loP W F) = H) (m : Nat) : NoS W H F (m + 1) := fun l hl hn => by
 cases l with
 | nil => simp at hn
 | cons t k => have := hl.1; omega
theorem noS_zero {W : Nat} {H : Int} {F : Nat → Int} (h : F (loP W F) ≠ H) : NoS W H F 0 := fun l hl hn => by
 cases l with
 | nil => exact h hl
 | cons t k => simp at hn
/-- a row of one square: it is as wide as it is deep -/
theorem noS_one {W : Nat} {H : Int} {F : Nat → Int} {r : Nat} (hW : 1 ≤ W) (hr : RunP W F (loP W F) r) (hne : (r : Int) ≠ H - F (loP W F)) (h : F (loP W F) ≠ H) : NoS W H F 1 := fun l hl hn => by
 match l, hl, hn with
 | [], hl, hn => simp at hn
 | _ :: _ :: _, hl, hn => simp at hn
 | [t], hl, _ =>
  obtain ⟨h1, h2, h3, h4, h5, h6⟩ := hl
  have h6 : (putF F (loP W F) t) (loP W (putF F (loP W F) t)) = H := h6
  have hmin := fun i hi => loP_min (W := W) (F := putF F (loP W F) t) i hi
  rw [h6] at hmin
  have a := hmin (loP W F) (loP_lt hW)
  unfold putF at a
  rw [if_pos ⟨Nat.le_refl _, by omega⟩] at a
  have htr : t ≤ r := by
   rcases hr.stop with e | e
   ·have := hr.le; omega
   ·exact Nat.not_lt.1 (fun q => e (h4 r q))
  by_cases e : t = r
  ·subst e; exact hne (by omega)
  ·have b := hmin (loP W F + t) (by have := hr.le; omega)
   unfold putF at b
   rw [if_neg (by omega)] at b
   have := hr.same t (by omega)
   omega
theorem NoLess.step {W : Nat} {H : Int} {F : Nat → Int} {m s : Nat} (h : NoLess W H F (m + 1)) (h1 : F (loP W F) < H) (h2 : 1 ≤ s) (h3 : loP W F + s ≤ W) (h4 : ∀ i, i < s → F (loP W F + i) = F (loP W F)) (h5 : F (loP W F) + (s : Int) ≤ H) : NoLess W H (putF F (loP W F) s) m := fun l hl => by
 have := h (s :: l) ⟨h1, h2, h3, h4, h5, hl⟩
 simp at this; omega
/-- too much is left for so few squares -/
theorem noS_area {W : Nat} {H : Int} {F : Nat → Int} {m s : Nat} (hF : FlR W H F) (hW : 1 ≤ W) (hH : 0 ≤ H) (mn : Int) (hmn : mn = min (W : Int) H) (ha : (m : Int) * mn * mn < arF H F W - (s : Int) * (s : Int)) : ∀ l, SolP W H (s :: l) F → l.length ≠ m := fun l hl hn => by
 obtain ⟨a, b⟩ := hl.area hF hW
 have h1 := sqN_le (W := W) (H := H) mn (by omega) (l := l) (fun t ht => by have := b t (by simp [ht]); omega)
 simp only [sqN] at a
 rw [hn, ← Int.mul_assoc] at h1
 omega
/-- the least number of squares -/
theorem least_n {W : Nat} {H : Int} {F : Nat → Int} (hex : ∃ l, SolP W H l F) : ∃ m l, SolP W H l F ∧ l.length = m ∧ NoLess W H F m := by
 obtain ⟨l0, h0⟩ := hex
 have key : ∀ n, ∀ l, SolP W H l F → l.length ≤ n → ∃ m l, SolP W H l F ∧ l.length = m ∧ NoLess W H F m := fun n => by
  induction n with
  | zero => intro l hl hn; exact ⟨0, l, hl, by omega, fun k _ => Nat.zero_le _⟩
  | succ n ih =>
   intro l hl hn
   by_cases e : ∃ k, SolP W H k F ∧ k.length < l.length
   ·obtain ⟨k, hk, hkn⟩ := e
    exact ih k hk (by omega)
   ·exact ⟨l.length, l, hl, rfl, fun k hk => Nat.not_lt.1 (fun q => e ⟨k, hk, q⟩)⟩
 exact key _ l0 h0 (Nat.le_refl _)
end Go.Proofs.YtolkchkedieppaaGreat

/- A row of integers of the call's own, written. -/
namespace Go.Proofs.YtolkchkedieppaaGreat
open Go.RowKit
theorem own_cap {w : World} {base e size n : Nat} {a : Option Addr} {c : Nat} {xs : List Value} (h : w.ownsRow base e size (.slice a n c) n xs) : n ≤ c := by
 rcases h.2 with ⟨h1, h2⟩ | ⟨g, cap, cur, h1, _, _, h2, _⟩
 ·rw [h2]; exact Nat.zero_le _
 ·cases h1; exact h2
theorem ics_set (f : Nat → Int) (n j : Nat) (x : Int) : (ics f n).set j (.int .i64 x) = ics (setN f j x) n := by
 apply List.ext_getElem?
 intro i
 rw [List.getElem?_set]
 by_cases h : j = i
 ·subst h
  rw [if_pos rfl, ics_length]
  by_cases hj : j < n
  ·rw [if_pos hj, ics_get _ _ _ hj]; simp [ic, setN]
  ·rw [if_neg hj]; symm; rw [List.getElem?_eq_none_iff, ics_length]; omega
 ·rw [if_neg h]
  by_cases hi : i < n
  ·rw [ics_get _ _ _ hi, ics_get _ _ _ hi]; simp [ic, setN, Ne.symm h]
  ·rw [List.getElem?_eq_none_iff.2 (by rw [ics_length]; omega), List.getElem?_eq_none_iff.2 (by rw [ics_length]; omega)]
/-- a row of the call's own, written -/
theorem own_ints_set {w : World} {B n g cap : Nat} {f : Nat → Int} (h : w.ownsRow B 3 1 (.slice (some ⟨g, 0, none⟩) n cap) n (ics f n)) (j : Nat) (x : Int) :
  (w.setCell ⟨g, j, none⟩ (.int .i64 x)).ownsRow B 3 1 (.slice (some ⟨g, 0, none⟩) n cap) n (ics (setN f j x) n) := by
 rw [← ics_set]; exact (h.stored j _).1
theorem rowIs_own {w : World} {B n g cap : Nat} {f : Nat → Int} (h : w.ownsRow B 3 1 (.slice (some ⟨g, 0, none⟩) n cap) n (ics f n)) (h0 : 0 < n) : IsSl w (some ⟨g, 0, none⟩) g 0 cap n (ic f) :=
 ⟨own_cap h, fun _ => rfl, fun _ => (h.lt g rfl).2, fun i hi => by rw [Nat.zero_add, h.cellAt i (by omega)]; exact ics_get f n i hi, fun e => by cases e⟩
end Go.Proofs.YtolkchkedieppaaGreat
