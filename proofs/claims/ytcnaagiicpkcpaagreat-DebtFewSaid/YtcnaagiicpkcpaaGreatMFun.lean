/- Plain mathematics of relax (Bellman and Ford): what holds of costs and of the arcs by which they came to be; a ring that is found has a cost below 0. No program in sight. -/
import Derived.Test.YtcnaagiicpkcpaaGreatMNum3
import Derived.Test.YtcnaagiicpkcpaaGreatMTakes
set_option linter.unusedVariables false
set_option linter.unusedSimpArgs false
namespace Go.Proofs.YtcnaagiicpkcpaaGreat
/-- an arc: from, to, its cost, by how much its debt can change, and that debt's place -/
structure Arc where
 src : Nat
 dst : Nat
 c : Int
 most : Int
 pi : Nat
 pj : Nat
/-- f applied t times -/
def iter (f : Nat → Nat) : Nat → Nat → Nat
 | 0, x => x
 | t + 1, x => f (iter f t x)
theorem iter_add (f : Nat → Nat) (a b x : Nat) : iter f (a + b) x = iter f a (iter f b x) := by
 induction a with
 | zero => rw [Nat.zero_add]; rfl
 | succ a ih => rw [Nat.succ_add]; simp only [iter]; rw [ih]
/-- after q passes and r arcs of the next one; τ: when a cost was changed last -/
structure BInv (n m : Nat) (l : Nat → Arc) (q r : Nat) (cost b : Nat → Int) (τ : Nat → Nat) : Prop where
 le : ∀ v, v < n → τ v ≤ q * m + r
 pos : ∀ v, v < n → 0 < τ v → ∃ k : Nat, k < m ∧ b v = (k : Int) ∧ (l k).dst = v ∧ cost (l k).src + (l k).c ≤ cost v ∧ (τ v < τ (l k).src → cost (l k).src + (l k).c < cost v) ∧ (τ v ≤ m ∨ τ v < τ (l k).src + m)
 inj : ∀ u v, u < n → v < n → 0 < τ u → τ u = τ v → u = v
 low : ∀ k, k < m → k < r → cost (l k).dst ≤ cost (l k).src + (l k).c ∨ q * m + k + 1 < τ (l k).src
 high : ∀ k, k < m → r ≤ k → 0 < q → cost (l k).dst ≤ cost (l k).src + (l k).c ∨ (q - 1) * m + k + 1 < τ (l k).src
/-- arcs lead between two of n firms -/
def ArcsIn (n m : Nat) (l : Nat → Arc) : Prop := ∀ k, k < m → (l k).src < n ∧ (l k).dst < n ∧ (l k).src ≠ (l k).dst
def setN {α : Type} (f : Nat → α) (i : Nat) (x : α) : Nat → α := fun j => if j = i then x else f j
theorem setN_self {α : Type} (f : Nat → α) (i : Nat) (x : α) : setN f i x i = x := if_pos rfl
theorem setN_ne {α : Type} (f : Nat → α) {i j : Nat} (x : α) (h : j ≠ i) : setN f i x j = f j := if_neg h
theorem BInv.start (n m : Nat) (l : Nat → Arc) (cost b : Nat → Int) : BInv n m l 0 0 cost b (fun _ => 0) :=
 ⟨fun v _ => by omega, fun v _ h => absurd h (by simp), fun u v _ _ h => absurd h (by simp), fun k _ h => by omega, fun k _ _ h => by omega⟩
theorem BInv.pass {n m : Nat} {l : Nat → Arc} {q : Nat} {cost b : Nat → Int} {τ : Nat → Nat} (h : BInv n m l q m cost b τ) : BInv n m l (q + 1) 0 cost b τ :=
 ⟨fun v hv => by have := h.le v hv; rw [Nat.succ_mul]; omega, h.pos, h.inj, fun k _ hk => by omega, fun k hk _ _ => by
  have := h.low k hk hk
  rw [Nat.add_sub_cancel]; exact this⟩
theorem BInv.skip {n m : Nat} {l : Nat → Arc} {q r : Nat} {cost b : Nat → Int} {τ : Nat → Nat} (h : BInv n m l q r cost b τ) (hr : r < m) (hok : cost (l r).dst ≤ cost (l r).src + (l r).c) : BInv n m l q (r + 1) cost b τ :=
 ⟨fun v hv => by have := h.le v hv; omega, h.pos, h.inj, fun k hk hkr => by
  by_cases e : k = r
  ·subst e; exact .inl hok
  ·exact h.low k hk (by omega), fun k hk hkr hq => h.high k hk (by omega) hq⟩
theorem BInv.turn {n m : Nat} {l : Nat → Arc} {q r : Nat} {cost b : Nat → Int} {τ : Nat → Nat} (h : BInv n m l q r cost b τ) (hin : ArcsIn n m l) (hr : r < m) (hno : cost (l r).src + (l r).c < cost (l r).dst) :
  BInv n m l q (r + 1) (setN cost (l r).dst (cost (l r).src + (l r).c)) (setN b (l r).dst (r : Int)) (setN τ (l r).dst (q * m + r + 1)) := by
 obtain ⟨h1, h2, h3⟩ := hin r hr
 have hold : 0 < q → (q - 1) * m + r + 1 < τ (l r).src := fun hq => by
  rcases h.high r hr (Nat.le_refl _) hq with h4 | h4
  ·omega
  ·exact h4
 have hq0 : q = 0 ∨ (0 < q ∧ (q - 1) * m + m = q * m) := by
  rcases Nat.eq_zero_or_pos q with e | e
  ·exact .inl e
  ·right; exact ⟨e, by rw [← Nat.succ_mul]; congr 1; omega⟩
 refine ⟨fun v hv => ?_, fun v hv hp => ?_, fun u v hu hv hp he => ?_, fun k hk hkr => ?_, fun k hk hkr hq => ?_⟩
 ·by_cases e : v = (l r).dst
  ·rw [e, setN_self]; omega
  ·rw [setN_ne _ _ e]; have := h.le v hv; omega
 ·by_cases e : v = (l r).dst
  ·subst e
   refine ⟨r, hr, setN_self _ _ _, rfl, ?_, ?_, ?_⟩
   ·rw [setN_self, setN_ne _ _ h3]; exact Int.le_refl _
   ·rw [setN_self, setN_ne _ _ h3]
    intro hlt
    have := h.le _ h1
    omega
   ·rw [setN_self, setN_ne _ _ h3]
    rcases hq0 with e | ⟨hq, e⟩
    ·left; subst e; rw [Nat.zero_mul, Nat.zero_add]; exact hr
    ·right; have := hold hq; omega
  ·rw [setN_ne _ _ e] at hp
   obtain ⟨k, hk, hb, hd, hc, hs, ht⟩ := h.pos v hv hp
   refine ⟨k, hk, by rw [setN_ne _ _ e]; exact hb, hd, ?_, ?_, ?_⟩
   ·rw [setN_ne cost _ e]
    by_cases e2 : (l k).src = (l r).dst
    ·rw [e2, setN_self]; rw [e2] at hc; omega
    ·rw [setN_ne _ _ e2]; exact hc
   ·rw [setN_ne cost _ e, setN_ne τ _ e]
    by_cases e2 : (l k).src = (l r).dst
    ·rw [e2, setN_self cost]; rw [e2] at hc; intro _; omega
    ·rw [setN_ne _ _ e2, setN_ne _ _ e2]; exact hs
   ·rw [setN_ne τ _ e]
    by_cases e2 : (l k).src = (l r).dst
    ·rw [e2, setN_self]; have := h.le v hv; right; omega
    ·rw [setN_ne _ _ e2]; exact ht
 ·by_cases e : u = (l r).dst
  ·by_cases e2 : v = (l r).dst
   ·rw [e, e2]
   ·rw [e, setN_self, setN_ne _ _ e2] at he
    have := h.le v hv; omega
  ·by_cases e2 : v = (l r).dst
   ·rw [e2, setN_self, setN_ne _ _ e] at he
    have := h.le u hu; omega
   ·rw [setN_ne _ _ e, setN_ne _ _ e2] at he
    rw [setN_ne _ _ e] at hp
    exact h.inj u v hu hv hp he
 ·by_cases es : (l k).src = (l r).dst
  ·right; rw [es, setN_self]
   by_cases e : k = r
   ·subst e; exact absurd es h3
   ·omega
  ·rw [setN_ne cost _ es, setN_ne τ _ es]
   by_cases e : k = r
   ·subst e; left; rw [setN_self]; exact Int.le_refl _
   ·rcases h.low k hk (by omega) with h4 | h4
    ·left
     by_cases ed : (l k).dst = (l r).dst
     ·rw [ed, setN_self]; rw [ed] at h4; omega
     ·rw [setN_ne _ _ ed]; exact h4
    ·right; exact h4
 ·by_cases es : (l k).src = (l r).dst
  ·right; rw [es, setN_self]
   rcases hq0 with e | ⟨_, e⟩
   ·omega
   ·omega
  ·rw [setN_ne cost _ es, setN_ne τ _ es]
   rcases h.high k hk (by omega) hq with h4 | h4
   ·left
    by_cases ed : (l k).dst = (l r).dst
    ·rw [ed, setN_self]; rw [ed] at h4; omega
    ·rw [setN_ne _ _ ed]; exact h4
   ·right; exact h4
/-- of n + 1 numbers below n two are the same -/
theorem pigeon : ∀ (n : Nat) (g : Nat → Nat), (∀ i, i ≤ n → g i < n) → ∃ i j, i < j ∧ j ≤ n ∧ g i = g j
 | 0, g, h => absurd (h 0 (Nat.le_refl _)) (by omega)
 | n + 1, g, h => by
  -- is the last value met before? else it is left out
  by_cases hx : ∃ i, i ≤ n ∧ g i = g (n + 1)
  ·obtain ⟨i, hi, e⟩ := hx
   exact ⟨i, n + 1, by omega, Nat.le_refl _, e⟩
  ·have hne : ∀ i, i ≤ n → g i ≠ g (n + 1) := fun i hi e => hx ⟨i, hi, e⟩
   have hlast := h (n + 1) (Nat.le_refl _)
   obtain ⟨i, j, hij, hj, e⟩ := pigeon n (fun i => if g i < g (n + 1) then g i else g i - 1) (fun i hi => by
    have h1 := h i (by omega)
    have h2 := hne i hi
    split <;> omega)
   refine ⟨i, j, hij, by omega, ?_⟩
   have h1 := hne i (by omega)
   have h2 := hne j hj
   split at e <;> split at e <;> omega
/-- from which firm the cost of a firm came -/
def fromF (l : Nat → Arc) (b : Nat → Int) (v : Nat) : Nat := (l (b v).toNat).src
/-- going back n times from a firm whose cost was changed in pass n + 1 one is on a ring -/
theorem on_ring {n m : Nat} {l : Nat → Arc} {cost b : Nat → Int} {τ : Nat → Nat} (h : BInv n m l n m cost b τ) (hin : ArcsIn n m l) (last : Nat) (hl : last < n) (ht : n * m < τ last) :
  (∀ i, i ≤ n → iter (fromF l b) i last < n ∧ 0 < τ (iter (fromF l b) i last)) ∧
  ∃ p, 0 < p ∧ p ≤ n ∧ iter (fromF l b) p (iter (fromF l b) n last) = iter (fromF l b) n last ∧ ∀ t, iter (fromF l b) t (iter (fromF l b) n last) < n ∧ 0 < τ (iter (fromF l b) t (iter (fromF l b) n last)) := by
 have hx : ∀ i, i ≤ n → iter (fromF l b) i last < n ∧ (n - i) * m < τ (iter (fromF l b) i last) := by
  intro i
  induction i with
  | zero => intro _; exact ⟨hl, ht⟩
  | succ i ih =>
   intro hi
   obtain ⟨h1, h2⟩ := ih (by omega)
   obtain ⟨k, hk, hb, hd, _, _, hm⟩ := h.pos _ h1 (by omega)
   have e : iter (fromF l b) (i + 1) last = (l k).src := by
    simp only [iter, fromF]; rw [hb]; rfl
   have e3 : (n - i) * m = (n - (i + 1)) * m + m := by
    rw [← Nat.succ_mul]; congr 1; omega
   rw [e]
   refine ⟨(hin k hk).1, ?_⟩
   rcases hm with hm | hm
   ·omega
   ·omega
 have hpos : ∀ i, i ≤ n → iter (fromF l b) i last < n ∧ 0 < τ (iter (fromF l b) i last) := fun i hi => ⟨(hx i hi).1, by have := (hx i hi).2; omega⟩
 refine ⟨hpos, ?_⟩
 obtain ⟨i, j, hij, hj, e⟩ := pigeon n (fun i => iter (fromF l b) i last) (fun i hi => (hpos i hi).1)
 have hcyc : ∀ t, ∃ s, i ≤ s ∧ s < j ∧ iter (fromF l b) (i + t) last = iter (fromF l b) s last := by
  intro t
  induction t with
  | zero => exact ⟨i, Nat.le_refl _, hij, rfl⟩
  | succ t ih =>
   obtain ⟨s, h1, h2, h3⟩ := ih
   have e2 : iter (fromF l b) (i + (t + 1)) last = fromF l b (iter (fromF l b) (i + t) last) := rfl
   rw [e2, h3]
   by_cases e3 : s + 1 = j
   ·exact ⟨i, Nat.le_refl _, hij, by rw [e, ← e3]; rfl⟩
   ·exact ⟨s + 1, by omega, by omega, rfl⟩
 refine ⟨j - i, by omega, by omega, ?_, fun t => ?_⟩
 ·rw [← iter_add]
  have e1 : iter (fromF l b) (j - i + n) last = iter (fromF l b) (n - i) (iter (fromF l b) j last) := by
   rw [← iter_add]; congr 1; omega
  have e2 : iter (fromF l b) n last = iter (fromF l b) (n - i) (iter (fromF l b) i last) := by
   rw [← iter_add]; congr 1; omega
  rw [e1, e2, e]
 ·rw [← iter_add]
  obtain ⟨s, h1, h2, h3⟩ := hcyc (t + n - i)
  rw [show t + n = i + (t + n - i) by omega, h3]
  exact hpos s (by omega)
/-- the cost of a ring: p arcs back from y -/
def ringC (l : Nat → Arc) (b : Nat → Int) (y : Nat) : Nat → Int
 | 0 => 0
 | p + 1 => ringC l b y p + (l (b (iter (fromF l b) p y)).toNat).c
/-- a ring has a cost below 0 -/
theorem ring_neg {n m : Nat} {l : Nat → Arc} {q r : Nat} {cost b : Nat → Int} {τ : Nat → Nat} (h : BInv n m l q r cost b τ) (hin : ArcsIn n m l) (y p : Nat) (hp : 0 < p)
  (hy : ∀ t, iter (fromF l b) t y < n ∧ 0 < τ (iter (fromF l b) t y)) (he : iter (fromF l b) p y = y) : ringC l b y p < 0 := by
 -- along the way the cost falls by at least what the arcs cost; somewhere by more
 have step : ∀ t, cost (iter (fromF l b) (t + 1) y) + (l (b (iter (fromF l b) t y)).toNat).c ≤ cost (iter (fromF l b) t y) ∧
   (τ (iter (fromF l b) t y) < τ (iter (fromF l b) (t + 1) y) → cost (iter (fromF l b) (t + 1) y) + (l (b (iter (fromF l b) t y)).toNat).c < cost (iter (fromF l b) t y)) ∧ τ (iter (fromF l b) t y) ≠ τ (iter (fromF l b) (t + 1) y) := by
  intro t
  obtain ⟨h1, h2⟩ := hy t
  obtain ⟨k, hk, hb, hd, hc, hs, _⟩ := h.pos _ h1 h2
  have e : iter (fromF l b) (t + 1) y = (l k).src := by simp only [iter, fromF]; rw [hb]; rfl
  have e2 : (b (iter (fromF l b) t y)).toNat = k := by rw [hb]; rfl
  rw [e, e2]
  refine ⟨hc, hs, fun e3 => ?_⟩
  have := h.inj _ _ h1 (hin k hk).1 h2 e3
  exact (hin k hk).2.2 (by rw [hd, ← this])
 have acc : ∀ t, cost (iter (fromF l b) t y) + ringC l b y t ≤ cost y ∧ ((cost (iter (fromF l b) t y) + ringC l b y t = cost y) → τ (iter (fromF l b) t y) + t ≤ τ y) := by
  intro t
  induction t with
  | zero => exact ⟨by simp [iter, ringC], fun _ => by simp [iter]⟩
  | succ t ih =>
   obtain ⟨s1, s2, s3⟩ := step t
   simp only [ringC]
   refine ⟨by omega, fun heq => ?_⟩
   have h4 : cost (iter (fromF l b) t y) + ringC l b y t = cost y := by omega
   have h5 := ih.2 h4
   have h6 : ¬ τ (iter (fromF l b) t y) < τ (iter (fromF l b) (t + 1) y) := fun hlt => by
    have := s2 hlt; omega
   omega
 obtain ⟨a1, a2⟩ := acc p
 rw [he] at a1 a2
 rcases Int.lt_or_le (ringC l b y p) 0 with hlt | hge
 ·exact hlt
 ·have : cost y + ringC l b y p = cost y := by omega
  have := a2 this
  omega
end Go.Proofs.YtcnaagiicpkcpaaGreat

/- General words on slices in memory of the call itself, gathered by append. -/
namespace Go.Proofs.YtcnaagiicpkcpaaGreat
open Go.RowKit
/-- what the call's own slice holds, as a slice that is read -/
theorem Sl.of_own {w : World} {base e n : Nat} {v : Value} {xs : List Value} {q : Nat → Value} (h : w.ownsRow base e 1 v n xs) (hq : ∀ i, i < n → xs[i]? = some (q i)) : Sl w v n q := by
 rcases h.2 with ⟨rfl, rfl⟩ | ⟨g, cap, cur, rfl, hbg, hg, hnc, hcm, hcs, htake⟩
 ·exact ⟨none, 0, 0, 0, rfl, ⟨Nat.le_refl _, fun h => by omega, fun h => by omega, fun i hi => by omega, fun _ => rfl⟩⟩
 ·refine ⟨some ⟨g, 0, none⟩, g, 0, cap, rfl, ⟨hnc, fun _ => rfl, fun _ => (Array.getElem?_eq_some_iff.1 hg).1, fun i hi => ?_, fun e => by cases e⟩⟩
  rw [Nat.zero_add, h.cellAt i (by omega)]
  exact hq i hi
theorem infoI : (Tryz.prog.info? 3).map (fun i => (i.zero, i.size, i.bytes)) = some (some (.int .i64 0), 1, 8) := by kernel_rfl
/-- the first n values, as a list of cells -/
def ics (f : Nat → Int) (n : Nat) : List Value := (List.range n).map (ic f)
theorem ics_get (f : Nat → Int) (n i : Nat) (h : i < n) : (ics f n)[i]? = some (ic f i) := by simp [ics, h]
theorem ics_succ (f : Nat → Int) (n : Nat) : ics f n ++ [.int .i64 (f n)] = ics f (n + 1) := by simp [ics, List.range_succ, ic]
theorem ints_of_own {w : World} {base n : Nat} {v : Value} {f : Nat → Int} (h : w.ownsRow base 3 1 v n (ics f n)) : Ints w v n f := Sl.of_own h (fun i hi => ics_get f n i hi)
theorem own_shape {w : World} {base e size n : Nat} {v : Value} {xs : List Value} (h : w.ownsRow base e size v n xs) : ∃ a c, v = .slice a n c := by
 rcases h.2 with ⟨rfl, rfl⟩ | ⟨g, cap, cur, rfl, _⟩
 ·exact ⟨none, 0, rfl⟩
 ·exact ⟨_, cap, rfl⟩
theorem rowIs_sl {w : World} {b t n : Nat} {f : Nat → Value} (h : w.rowIs b t n f) : IsSl w (some ⟨b, 0, none⟩) b 0 n n f :=
 ⟨Nat.le_refl _, fun _ => rfl, fun _ => h.lt, fun i hi => by rw [Nat.zero_add]; exact h.cell hi, fun e => by cases e⟩
theorem rowIs_below {w w' : World} {b t n B : Nat} {f : Nat → Value} (h : w.rowIs b t n f) (hb : Below B w w') (hB : b < B) : w'.rowIs b t n f := h.of_block (hb.block b hB)
theorem ics_one (f : Nat → Int) (n : Nat) : ∀ u ∈ ics f n, u.oneCell' = true := fun u hu => by
 simp [ics] at hu
 obtain ⟨i, _, rfl⟩ := hu
 rfl
theorem ics_length (f : Nat → Int) (n : Nat) : (ics f n).length = n := by simp [ics]
/-- the cell of a row of one that was just made -/
theorem new1 (w : World) (u : Value) (t : TypeId) : ∀ j x, [u][j]? = some x → (w.alloc (.cells #[u] t)).cell? ((⟨w.heap.size, 0, none⟩ : Addr).add j) = some x := fun j x hj => by
 match j, hj with
 | 0, hj => simp at hj; subst hj; simp [go_sem, Addr.add]
theorem one1 (u : Value) (h : u.oneCell' = true) : ∀ x ∈ [u], x.oneCell' = true := fun x hx => by simp at hx; subst hx; exact h
theorem own_kept {B : Nat} {e : TypeId} {k : Nat} {v : Value} {n : Nat} {xs : List Value} {w w' : World} (h : w.ownsRow B e k v n xs) (hb : Below w.heap.size w w') : w'.ownsRow B e k v n xs :=
 h.kept (row := none) ⟨hb.os, hb.tape, hb.output, hb.size, fun j hj _ => hb.block j hj⟩ (by cases hv : v.ownBlock <;> simp)
theorem add_at (b o j : Nat) : (⟨b, o, none⟩ : Addr).add j = ⟨b, o + j, none⟩ := by unfold Addr.add; split <;> simp_all
theorem news_of {w : World} {a : Option Addr} {b o c n : Nat} {f : Nat → Int} (h : IsSl w a b o c n (ic f)) (k : Nat) (hk : k ≤ n) : ∀ j u, (ics f k)[j]? = some u → w.cell? ((⟨b, o, none⟩ : Addr).add j) = some u := fun j u hj => by
 have hjk : j < k := by
  have := (List.getElem?_eq_some_iff.1 hj).1
  rw [ics_length] at this; exact this
 rw [ics_get f k j hjk] at hj
 rw [add_at, h.cell j (by omega)]; exact hj
theorem infoM : (Tryz.prog.info? 22).map (fun i => (i.zero, i.size, i.bytes)) = some (some (.slice none 0 0), 1, 24) := by kernel_rfl
def blk (a : Option Addr) : Option Nat := a.map Addr.block
theorem ownBlock_blk (a : Option Addr) (n c : Nat) : (Value.slice a n c).ownBlock = blk a := by cases a <;> rfl
theorem own_base {w : World} {B B' : Nat} {e : TypeId} {s n : Nat} {v : Value} {xs : List Value} (h : w.ownsRow B' e s v n xs) (hB : B ≤ B') : w.ownsRow B e s v n xs := by
 obtain ⟨h1, h2⟩ := h
 refine ⟨h1, ?_⟩
 rcases h2 with h2 | ⟨g, cap, cur, e1, e2, e3⟩
 ·exact .inl h2
 ·exact .inr ⟨g, cap, cur, e1, Nat.le_trans hB e2, e3⟩
/-- the rows' headers, as cells -/
def rowCells (ra : Nat → Option Addr) (m rc : Nat → Nat) (q : Nat) : List Value := (List.range q).map (fun i => .slice (ra i) (m i) (rc i))
theorem rowCells_get (ra : Nat → Option Addr) (m rc : Nat → Nat) (q i : Nat) (h : i < q) : (rowCells ra m rc q)[i]? = some (.slice (ra i) (m i) (rc i)) := by simp [rowCells, h]
theorem rowCells_succ (ra : Nat → Option Addr) (m rc : Nat → Nat) (q : Nat) (a : Option Addr) (c : Nat) : rowCells ra m rc q ++ [.slice a (m q) c] = rowCells (setN ra q a) m (setN rc q c) (q + 1) := by
 unfold rowCells
 rw [List.range_succ, List.map_append]
 congr 1
 ·apply List.map_congr_left
  intro i hi
  have : i < q := List.mem_range.1 hi
  rw [setN_ne _ _ (by omega), setN_ne _ _ (by omega)]
 ·simp [setN_self]
/-- the rows gathered so far, each in memory of its own -/
structure RowsIn (B : Nat) (w : World) (q : Nat) (v : Value) (ra : Nat → Option Addr) (rc m : Nat → Nat) (f : Nat → Nat → Int) : Prop where
 own : w.ownsRow B 22 1 v q (rowCells ra m rc q)
 row : ∀ i, i < q → w.ownsRow B 3 1 (.slice (ra i) (m i) (rc i)) (m i) (ics (f i) (m i))
 far : ∀ i g, i < q → blk (ra i) = some g → v.ownBlock ≠ some g
 apart : ∀ i j g, i < j → j < q → blk (ra i) = some g → blk (ra j) ≠ some g
theorem RowsIn.start {B : Nat} {w : World} {v : Value} {m : Nat → Nat} {f : Nat → Nat → Int} (h : w.ownsRow B 22 1 v 0 []) : RowsIn B w 0 v (fun _ => none) (fun _ => 0) m f :=
 ⟨h, fun i h => by omega, fun i g h => by omega, fun i j g _ h => by omega⟩
theorem RowsIn.push {B : Nat} {w w2 w5 : World} {q : Nat} {v v' : Value} {ra : Nat → Option Addr} {rc m : Nat → Nat} {f : Nat → Nat → Int} (G : RowsIn B w q v ra rc m f) {a : Option Addr} {c : Nat} (hB : B ≤ w.heap.size)
  (hb : Below w.heap.size w w2) (hs : w2.ownsRow w.heap.size 3 1 (.slice a (m q) c) (m q) (ics (f q) (m q))) (ob : Obj) (hgrow : (w2.alloc ob).grownBy w5 v.ownBlock)
  (hbk : v'.ownBlock = v.ownBlock ∨ v'.ownBlock = some (w2.alloc ob).heap.size) (hown : w5.ownsRow B 22 1 v' (q + 1) (rowCells ra m rc q ++ [.slice a (m q) c])) :
  RowsIn B w5 (q + 1) v' (setN ra q a) (setN rc q c) m f := by
 have hlt : ∀ i g, i < q → blk (ra i) = some g → g < w.heap.size := fun i g hi e => ((G.row i hi).lt g (by rw [ownBlock_blk]; exact e)).2
 have hnew : ∀ g, blk a = some g → w.heap.size ≤ g ∧ g < w2.heap.size := fun g e => hs.lt g (by rw [ownBlock_blk]; exact e)
 have hv : ∀ g, v.ownBlock = some g → g < w.heap.size := fun g e => (G.own.lt g e).2
 have hsz := hb.size
 have hal : (w2.alloc ob).heap.size = w2.heap.size + 1 := by simp
 have hv' : ∀ g, v'.ownBlock = some g → g < w.heap.size ∧ v.ownBlock = some g ∨ g = w2.heap.size + 1 := fun g e => by
  rcases hbk with h | h
  ·left; exact ⟨hv g (by rw [← h]; exact e), by rw [← h]; exact e⟩
  ·right; rw [h, hal] at e; exact (Option.some.inj e).symm
 refine ⟨by rw [← rowCells_succ]; exact hown, fun i hi => ?_, fun i g hi e e2 => ?_, fun i j g hij hj e e2 => ?_⟩
 ·by_cases h : i = q
  ·subst h
   rw [setN_self, setN_self]
   refine ((own_base hs hB).alloc ob).kept hgrow ?_
   rw [ownBlock_blk]
   rcases hbb : blk a with _ | g
   ·exact .inl rfl
   ·right; intro e; have := hv g e.symm; have := hnew g hbb; omega
  ·rw [setN_ne _ _ h, setN_ne _ _ h]
   have hi' : i < q := by omega
   refine ((own_kept (G.row i hi') hb).alloc ob).kept hgrow ?_
   rw [ownBlock_blk]
   rcases hbb : blk (ra i) with _ | g
   ·exact .inl rfl
   ·right; intro e; exact G.far i g hi' hbb e.symm
 ·by_cases h : i = q
  ·subst h
   rw [setN_self] at e
   have h1 := hnew g e
   rcases hv' g e2 with h2 | h2 <;> omega
  ·rw [setN_ne _ _ h] at e
   have hi' : i < q := by omega
   have h1 := hlt i g hi' e
   rcases hv' g e2 with h2 | h2
   ·exact G.far i g hi' e h2.2
   ·omega
 ·have hi : i < q := by omega
  rw [setN_ne _ _ (by omega)] at e
  by_cases h : j = q
  ·subst h
   rw [setN_self] at e2
   have h1 := hlt i g hi e
   have h2 := hnew g e2
   omega
  ·rw [setN_ne _ _ h] at e2
   exact G.apart i j g hij (by omega) e e2
theorem RowsIn.mat {B : Nat} {w : World} {q : Nat} {v : Value} {ra : Nat → Option Addr} {rc m : Nat → Nat} {f : Nat → Nat → Int} (G : RowsIn B w q v ra rc m f) : Mat w v q m f := by
 obtain ⟨a4, b4, o4, c4, hv4, hs4⟩ := Sl.of_own G.own (fun i hi => rowCells_get ra m rc q i hi)
 have hrow : ∀ i, ∃ p : Nat × Nat, i < q → IsSl w (ra i) p.1 p.2 (rc i) (m i) (ic (f i)) := fun i => by
  by_cases hi : i < q
  ·obtain ⟨a, b, o, c, he, hs⟩ := ints_of_own (G.row i hi)
   cases he
   exact ⟨(b, o), fun _ => hs⟩
  ·exact ⟨(0, 0), fun h => absurd h hi⟩
 refine ⟨a4, b4, o4, c4, ra, fun i => (Classical.choose (hrow i)).1, fun i => (Classical.choose (hrow i)).2, rc, hv4, ⟨hs4, fun i hi => ?_⟩⟩
 exact Classical.choose_spec (hrow i) hi
end Go.Proofs.YtcnaagiicpkcpaaGreat

/- Small laws for tests; what a market of debts is. -/
namespace Go.Proofs.YtcnaagiicpkcpaaGreat
open Go.RowKit
theorem ext_lt {P : Nat → Prop} {k : Nat} (h : ∀ i, i < k → P i) (hk : P k) : ∀ i, i < k + 1 → P i := fun i hi => by
 rcases Nat.lt_or_ge i k with q | q
 ·exact h i q
 ·obtain rfl : i = k := by omega
  exact hk
theorem bool_false {r : Bool} {P : Prop} (h : r = true ↔ P) (hn : ¬ P) : r = false := by
 cases r
 ·rfl
 ·exact absurd (h.1 rfl) hn
/-- the matrix of a market's debts -/
def Debts (n : Nat) (m : Nat → Nat) (f : Nat → Nat → Int) : Prop := 1 ≤ n ∧ n ≤ 8 ∧ ∀ i, i < n → m i = n ∧ f i i = 0 ∧ ∀ j, j < n → 0 ≤ f i j ∧ f i j ≤ 1000
end Go.Proofs.YtcnaagiicpkcpaaGreat

/- slices.ContainsFunc over []int for the closures of package debt; within; square. (Printed by gen_fun.py.) -/
namespace Go.Proofs.YtcnaagiicpkcpaaGreat
open Go.RowKit
theorem cf_w_yes (x : Int) (w : World) (h : (x < 0 ∨ 1000 < x)) : Calls Tryz.prog 67 #[.int .i64 x] w fun e w' => e = .returned (.bool true) ∧ w = w' := by
 by_cases h1 : x < 0
 ·have d1 : decide (x < 0) = true := by simpa using h1
  go_enter Tryz.func67, Tryz.ntmps67
  go_wp2
  go_ret
  exact ⟨rfl, rfl⟩
 ·have d1 : decide (x < 0) = false := by simpa using h1
  have d2 : decide (1000 < x) = true := by simp; omega
  go_enter Tryz.func67, Tryz.ntmps67
  go_wp2
  go_ret
  exact ⟨rfl, rfl⟩
theorem cf_w_no (x : Int) (w : World) (h : ¬ (x < 0 ∨ 1000 < x)) : Calls Tryz.prog 67 #[.int .i64 x] w fun e w' => e = .returned (.bool false) ∧ w = w' := by
 have d1 : decide (x < 0) = false := by simp; omega
 have d2 : decide (1000 < x) = false := by simp; omega
 clear h
 go_enter Tryz.func67, Tryz.ntmps67
 go_wp2
 go_ret
 exact ⟨rfl, rfl⟩
theorem cf_w_hit (v : Value) (n : Nat) (f : Nat → Int) (w : World) (hv : Ints w v n f) (hn : n ≤ 1048576) (hit : ∃ i, i < n ∧ (f i < 0 ∨ 1000 < f i)) :
  Calls Tryz.prog 18 #[v, .func (.func 67) #[] #[]] w fun e w' => ∃ z : Nat, e = .returned (.int .i64 (z : Nat)) ∧ Drawn w w' := by
 obtain ⟨a, b, o, c, rfl, hs⟩ := hv
 have HH := Lib.hid hit
 clear hit
 go_enter Tryz.func18, Tryz.ntmps18
 go_wp2
 go_loopw [5, 8] (fun _ i wr => ∃ k : Nat, k ≤ n ∧ i = .int .i64 (k : Nat) ∧ Hid (∀ i, i < k → ¬ (f i < 0 ∨ 1000 < f i)) ∧ Hid (Drawn w wr)) (fun _ i _ => n - (intOf i).toNat)
 case atStart => exact ⟨0, by omega, rfl, Lib.hid (fun i hi => by omega), Lib.hid (Drawn.refl _)⟩
 case round =>
  obtain ⟨k, hk, rfl, HG, hd⟩ := hrel
  by_cases h : k < n
  ·have hix := fun W => ixI hs k c h W
   have hc := (hs.drawn hd.out).cell k h
   simp only [ic] at hc
   by_cases hb : (f k < 0 ∨ 1000 < f k)
   ·have HB := Lib.hid hb
    clear hb
    go_wp2_with (go_at_call 67; (with_reducible refine (cf_w_yes _ _ HB.out).mono ?_); rintro e w' ⟨rfl, rfl⟩)
    go_ret
    exact ⟨k, rfl, hd.out⟩
   ·have HB := Lib.hid hb
    clear hb
    go_wp2_with (go_at_call 67; (with_reducible refine (cf_w_no _ _ HB.out).mono ?_); rintro e w' ⟨rfl, rfl⟩)
    go_roundw
    case rel => exact ⟨k + 1, by omega, by go_num, Lib.hid (ext_lt HG.out HB.out), hd⟩
    case measure => simp [intOf]; omega
  ·exfalso
   obtain ⟨i, hi, hb⟩ := HH.out
   exact HG.out i (by omega) hb
theorem cf_w_miss (v : Value) (n : Nat) (f : Nat → Int) (w : World) (hv : Ints w v n f) (hn : n ≤ 1048576) (miss : ∀ i, i < n → ¬ (f i < 0 ∨ 1000 < f i)) :
  Calls Tryz.prog 18 #[v, .func (.func 67) #[] #[]] w fun e w' => e = .returned (.int .i64 (-1)) ∧ Drawn w w' := by
 obtain ⟨a, b, o, c, rfl, hs⟩ := hv
 have HH := Lib.hid miss
 clear miss
 go_enter Tryz.func18, Tryz.ntmps18
 go_wp2
 go_loopw [5, 8] (fun _ i wr => ∃ k : Nat, k ≤ n ∧ i = .int .i64 (k : Nat) ∧ Hid (Drawn w wr)) (fun _ i _ => n - (intOf i).toNat)
 case atStart => exact ⟨0, by omega, rfl, Lib.hid (Drawn.refl _)⟩
 case round =>
  obtain ⟨k, hk, rfl, hd⟩ := hrel
  by_cases h : k < n
  ·have hix := fun W => ixI hs k c h W
   have hc := (hs.drawn hd.out).cell k h
   simp only [ic] at hc
   have HB := Lib.hid (HH.out k h)
   go_wp2_with (go_at_call 67; (with_reducible refine (cf_w_no _ _ HB.out).mono ?_); rintro e w' ⟨rfl, rfl⟩)
   go_roundw
   case rel => exact ⟨k + 1, by omega, by go_num, hd⟩
   case measure => simp [intOf]; omega
  ·go_wp2
   go_ret
   exact ⟨rfl, hd.out⟩
/-- is there an element of that kind? -/
theorem cf_w_any (v : Value) (n : Nat) (f : Nat → Int) (r : Bool) (hr : r = true ↔ ∃ i, i < n ∧ (f i < 0 ∨ 1000 < f i)) (w : World) (hv : Ints w v n f) (hn : n ≤ 1048576) :
  Calls Tryz.prog 66 #[v, .func (.func 67) #[] #[]] w fun e w' => e = .returned (.bool r) ∧ Drawn w w' := by
 have HV := Lib.hid hv
 obtain ⟨a, b, o, c, rfl, hs⟩ := hv
 clear hs
 cases r with
 | true =>
  have HH := Lib.hid (hr.1 rfl)
  clear hr
  go_enter Tryz.func66, Tryz.ntmps66
  go_wp2_with (go_at_call 18; (with_reducible refine (cf_w_hit _ n f _ HV.out hn HH.out).mono ?_); rintro e w' ⟨z, rfl, hd⟩; have hz : decide ((0 : Int) ≤ (z : Int)) = true := (by simp))
  go_ret
  exact ⟨rfl, hd⟩
 | false =>
  have HH := Lib.hid (show ∀ i, i < n → ¬ (f i < 0 ∨ 1000 < f i) from fun i hi hb => by have := hr.2 ⟨i, hi, hb⟩; cases this)
  clear hr
  go_enter Tryz.func66, Tryz.ntmps66
  go_wp2_with (go_at_call 18; (with_reducible refine (cf_w_miss _ n f _ HV.out hn HH.out).mono ?_); rintro e w' ⟨rfl, hd⟩)
  go_ret
  exact ⟨rfl, hd⟩
theorem within_any (v : Value) (n : Nat) (f : Nat → Int) (r : Bool) (hr : r = true ↔ ∀ i, i < n → 0 ≤ f i ∧ f i ≤ 1000) (w : World) (hv : Ints w v n f) (hn : n ≤ 1048576) :
  Calls Tryz.prog 52 #[v] w fun e w' => e = .returned (.bool r) ∧ Drawn w w' := by
 have HV := Lib.hid hv
 obtain ⟨a, b, o, c, rfl, hs⟩ := hv
 clear hs
 have HH : Hid ((!r) = true ↔ ∃ i, i < n ∧ (f i < 0 ∨ 1000 < f i)) := Lib.hid (by
  cases r
  ·simp only [Bool.not_false, true_iff]
   apply Classical.byContradiction
   intro hne
   have : false = true := hr.2 fun i hi => by
    apply Classical.byContradiction
    intro hx
    exact hne ⟨i, hi, by omega⟩
   cases this
  ·simp only [Bool.not_true, Bool.false_eq_true, false_iff]
   rintro ⟨i, hi, hx⟩
   have := hr.1 rfl i hi
   omega)
 clear hr
 obtain ⟨q, rfl⟩ : ∃ q, r = !q := ⟨!r, by simp⟩
 rw [Bool.not_not] at HH
 go_enter Tryz.func52, Tryz.ntmps52
 go_wp2_with (go_at_call 66; (with_reducible refine (cf_w_any _ n f q HH.out _ HV.out hn).mono ?_); rintro e w' ⟨rfl, hd⟩)
 go_ret
 exact ⟨rfl, hd⟩
set_option maxHeartbeats 1000000 in
theorem square_any (v : Value) (n : Nat) (m : Nat → Nat) (f : Nat → Nat → Int) (r : Bool) (hr : r = true ↔ Debts n m f) (w : World) (hv : Mat w v n m f) (hn : n ≤ 1048576) (hm : ∀ i, i < n → m i ≤ 1048576) :
  Calls Tryz.prog 38 #[v] w fun e w' => e = .returned (.bool r) ∧ Drawn w w' := by
 obtain ⟨a, b, o, c, ra, rb, ro, rc, rfl, hs⟩ := hv
 have HR := Lib.hid hr
 have HMM := Lib.hid hm
 clear hr hm
 by_cases h1 : n < 1
 ·obtain rfl : r = false := bool_false HR.out (fun q => by have := q.1; omega)
  have d1 : decide ((n : Int) < 1) = true := by simp; omega
  clear h1
  go_enter Tryz.func38, Tryz.ntmps38
  go_wp2
  go_ret
  exact ⟨rfl, Drawn.refl _⟩
 ·have d1 : decide ((n : Int) < 1) = false := by simp; omega
  by_cases h8 : 8 < n
  ·obtain rfl : r = false := bool_false HR.out (fun q => by have := q.2.1; omega)
   have d2 : decide ((8 : Int) < (n : Int)) = true := by simp; omega
   clear h1 h8
   go_enter Tryz.func38, Tryz.ntmps38
   go_wp2
   go_ret
   exact ⟨rfl, Drawn.refl _⟩
  ·have d2 : decide ((8 : Int) < (n : Int)) = false := by simp; omega
   have HN := Lib.hid (show 1 ≤ n ∧ n ≤ 8 by omega)
   clear h1 h8
   go_enter Tryz.func38, Tryz.ntmps38
   go_wp2
   go_loopw [3, 4, 15] (fun _ _ i wr => ∃ k : Nat, k ≤ n ∧ i = .int .i64 (k : Nat) ∧ Hid (∀ i, i < k → m i = n ∧ f i i = 0 ∧ ∀ j, j < n → 0 ≤ f i j ∧ f i j ≤ 1000) ∧ Hid (Drawn w wr)) (fun _ _ i _ => n - (intOf i).toNat)
   case atStart => exact ⟨0, by omega, rfl, Lib.hid (fun i hi => by omega), Lib.hid (Drawn.refl _)⟩
   case round =>
    obtain ⟨k, hk, rfl, HG, hd⟩ := hrel
    by_cases h : k < n
    ·have hix := fun W => ixM hs.top k c h W
     have hc := (hs.top.drawn hd.out).cell k h
     by_cases h1 : m k = n
     ·have d3 : (((m k : Nat) : Int) != ((n : Nat) : Int)) = false := by simp [h1]
      have HM := Lib.hid h1
      have HRow : Hid (Ints wr (.slice (ra k) (m k) (rc k)) (m k) (f k)) := Lib.hid ⟨ra k, rb k, ro k, rc k, rfl, (hs.row k h).drawn hd.out⟩
      have hmk := HMM.out k h
      by_cases h2 : ∀ j, j < m k → 0 ≤ f k j ∧ f k j ≤ 1000
      ·have H2 := Lib.hid h2
       have hjx := fun W => ixI (hs.row k h) k (rc k) (by omega) W
       have hjc0 := Lib.hid ((hs.row k h).cell k (by omega))
       have HSL := Lib.hid ((hs.row k h).lt (by omega))
       clear h1 h2
       have HD0 := hd
       by_cases h3 : f k k = 0
       ·have d4 : (f k k != 0) = false := by simpa using h3
        have H3 := Lib.hid h3
        clear h3
        go_wp2_with (go_at_call 52; (with_reducible refine (within_any _ (m k) (f k) true ⟨fun _ => H2.out, fun _ => rfl⟩ _ HRow.out hmk).mono ?_); rintro e w1 ⟨rfl, hd1⟩; have hd := Lib.hid (hd.out.trans hd1); have hjc := (hd.out.below w.heap.size).cell (p := ⟨rb k, ro k + k, none⟩) HSL.out; rw [hjc0.out] at hjc; simp only [ic] at hjc)
        go_roundw
        case rel => exact ⟨k + 1, by omega, by go_num, Lib.hid (ext_lt HG.out ⟨HM.out, H3.out, fun j hj => H2.out j (by rw [HM.out]; exact hj)⟩), hd⟩
        case measure => simp [intOf]; omega
       ·have d4 : (f k k != 0) = true := by simpa using h3
        obtain rfl : r = false := bool_false HR.out (fun q => h3 (q.2.2 k h).2.1)
        clear h3
        go_wp2_with (go_at_call 52; (with_reducible refine (within_any _ (m k) (f k) true ⟨fun _ => H2.out, fun _ => rfl⟩ _ HRow.out hmk).mono ?_); rintro e w1 ⟨rfl, hd1⟩; have hd := Lib.hid (hd.out.trans hd1); have hjc := (hd.out.below w.heap.size).cell (p := ⟨rb k, ro k + k, none⟩) HSL.out; rw [hjc0.out] at hjc; simp only [ic] at hjc)
        go_ret
        exact ⟨rfl, hd.out⟩
      ·obtain rfl : r = false := bool_false HR.out (fun q => h2 (fun j hj => (q.2.2 k h).2.2 j (by rw [← h1]; exact hj)))
       have H2 := Lib.hid h2
       clear h1 h2
       go_wp2_with (go_at_call 52; (with_reducible refine (within_any _ (m k) (f k) false ⟨fun q => (by cases q), fun q => absurd q H2.out⟩ _ HRow.out hmk).mono ?_); rintro e w1 ⟨rfl, hd1⟩; have hd := Lib.hid (hd.out.trans hd1))
       go_ret
       exact ⟨rfl, hd.out⟩
     ·have d3 : (((m k : Nat) : Int) != ((n : Nat) : Int)) = true := by simp; omega
      obtain rfl : r = false := bool_false HR.out (fun q => h1 (q.2.2 k h).1)
      clear h1
      go_wp2
      go_ret
      exact ⟨rfl, hd.out⟩
    ·obtain rfl : k = n := by omega
     obtain rfl : r = true := HR.out.2 ⟨HN.out.1, HN.out.2, HG.out⟩
     go_wp2
     go_ret
     exact ⟨rfl, hd.out⟩
end Go.Proofs.YtcnaagiicpkcpaaGreat
