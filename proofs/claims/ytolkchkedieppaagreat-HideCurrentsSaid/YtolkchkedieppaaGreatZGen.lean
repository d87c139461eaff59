/- Plain mathematics of relax (Bellman and Ford): what holds of costs and of the arcs by which they came to be; a ring that is found has a cost below 0. No program in sight. -/
import Derived.Test.YtolkchkedieppaaGreatZNum3
import Derived.Test.YtolkchkedieppaaGreatZTakes
set_option linter.unusedVariables false
set_option linter.unusedSimpArgs false
namespace Go.Proofs.YtolkchkedieppaaGreat
def setN {α : Type} (f : Nat → α) (i : Nat) (x : α) : Nat → α := fun j => if j = i then x else f j
theorem setN_self {α : Type} (f : Nat → α) (i : Nat) (x : α) : setN f i x i = x := if_pos rfl
theorem setN_ne {α : Type} (f : Nat → α) {i j : Nat} (x : α) (h : j ≠ i) : setN f i x j = f j := if_neg h
end Go.Proofs.YtolkchkedieppaaGreat

/- General words on slices in memory of the call itself, gathered by append. -/
namespace Go.Proofs.YtolkchkedieppaaGreat
open Go.RowKit
/-- what the call's own slice holds, as a slice that is read -/
theorem Sl.of_own {w : World} {base e n : Nat} {v : Value} {xs : List Value} {q : Nat → Value} (h : w.ownsRow base e 1 v n xs) (hq : ∀ i, i < n → xs[i]? = some (q i)) : Sl w v n q := by
 rcases h.2 with ⟨rfl, rfl⟩ | ⟨g, cap, cur, rfl, hbg, hg, hnc, hcm, hcs, htake⟩
 ·exact ⟨none, 0, 0, 0, rfl, ⟨Nat.le_refl _, fun h => by omega, fun h => by omega, fun i hi => by omega, fun _ => rfl⟩⟩
 ·refine ⟨some ⟨g, 0, none⟩, g, 0, cap, rfl, ⟨hnc, fun _ => rfl, fun _ => (Array.getElem?_eq_some_iff.1 hg).1, fun i hi => ?_, fun e => by cases e⟩⟩
  rw [Nat.zero_add, h.cellAt i (by omega)]
  exact hq i hi
theorem infoI : (Tryz.prog.info? 3).map (fun i => (i.zero, i.size, i.bytes)) = some (some (.int .i64 0), 1, 8) := by kernel_rfl
/-- the first n values, as a list of cells -/
def ics (f : Nat → Int) (n : Nat) : List Value := (List.range n).map (ic f)
theorem ics_get (f : Nat → Int) (n i : Nat) (h : i < n) : (ics f n)[i]? = some (ic f i) := by simp [ics, h]
theorem ics_succ (f : Nat → Int) (n : Nat) : ics f n ++ [.int .i64 (f n)] = ics f (n + 1) := by simp [ics, List.range_succ, ic]
theorem ints_of_own {w : World} {base n : Nat} {v : Value} {f : Nat → Int} (h : w.ownsRow base 3 1 v n (ics f n)) : Ints w v n f := Sl.of_own h (fun i hi => ics_get f n i hi)
theorem own_shape {w : World} {base e size n : Nat} {v : Value} {xs : List Value} (h : w.ownsRow base e size v n xs) : ∃ a c, v = .slice a n c := by
 rcases h.2 with ⟨rfl, rfl⟩ | ⟨g, cap, cur, rfl, _⟩
 ·exact ⟨none, 0, rfl⟩
 ·exact ⟨_, cap, rfl⟩
theorem rowIs_sl {w : World} {b t n : Nat} {f : Nat → Value} (h : w.rowIs b t n f) : IsSl w (some ⟨b, 0, none⟩) b 0 n n f :=
 ⟨Nat.le_refl _, fun _ => rfl, fun _ => h.lt, fun i hi => by rw [Nat.zero_add]; exact h.cell hi, fun e => by cases e⟩
theorem rowIs_below {w w' : World} {b t n B : Nat} {f : Nat → Value} (h : w.rowIs b t n f) (hb : Below B w w') (hB : b < B) : w'.rowIs b t n f := h.of_block (hb.block b hB)
theorem ics_one (f : Nat → Int) (n : Nat) : ∀ u ∈ ics f n, u.oneCell' = true := fun u hu => by
 simp [ics] at hu
 obtain ⟨i, _, rfl⟩ := hu
 rfl
theorem ics_length (f : Nat → Int) (n : Nat) : (ics f n).length = n := by simp [ics]
/-- the cell of a row of one that was just made -/
theorem new1 (w : World) (u : Value) (t : TypeId) : ∀ j x, [u][j]? = some x → (w.alloc (.cells #[u] t)).cell? ((⟨w.heap.size, 0, none⟩ : Addr).add j) = some x := fun j x hj => by
 match j, hj with
 | 0, hj => simp at hj; subst hj; simp [go_sem, Addr.add]
theorem one1 (u : Value) (h : u.oneCell' = true) : ∀ x ∈ [u], x.oneCell' = true := fun x hx => by simp at hx; subst hx; exact h
theorem own_kept {B : Nat} {e : TypeId} {k : Nat} {v : Value} {n : Nat} {xs : List Value} {w w' : World} (h : w.ownsRow B e k v n xs) (hb : Below w.heap.size w w') : w'.ownsRow B e k v n xs :=
 h.kept (row := none) ⟨hb.os, hb.tape, hb.output, hb.size, fun j hj _ => hb.block j hj⟩ (by cases hv : v.ownBlock <;> simp)
theorem add_at (b o j : Nat) : (⟨b, o, none⟩ : Addr).add j = ⟨b, o + j, none⟩ := by unfold Addr.add; split <;> simp_all
theorem news_of {w : World} {a : Option Addr} {b o c n : Nat} {f : Nat → Int} (h : IsSl w a b o c n (ic f)) (k : Nat) (hk : k ≤ n) : ∀ j u, (ics f k)[j]? = some u → w.cell? ((⟨b, o, none⟩ : Addr).add j) = some u := fun j u hj => by
 have hjk : j < k := by
  have := (List.getElem?_eq_some_iff.1 hj).1
  rw [ics_length] at this; exact this
 rw [ics_get f k j hjk] at hj
 rw [add_at, h.cell j (by omega)]; exact hj
def blk (a : Option Addr) : Option Nat := a.map Addr.block
theorem ownBlock_blk (a : Option Addr) (n c : Nat) : (Value.slice a n c).ownBlock = blk a := by cases a <;> rfl
theorem own_base {w : World} {B B' : Nat} {e : TypeId} {s n : Nat} {v : Value} {xs : List Value} (h : w.ownsRow B' e s v n xs) (hB : B ≤ B') : w.ownsRow B e s v n xs := by
 obtain ⟨h1, h2⟩ := h
 refine ⟨h1, ?_⟩
 rcases h2 with h2 | ⟨g, cap, cur, e1, e2, e3⟩
 ·exact .inl h2
 ·exact .inr ⟨g, cap, cur, e1, Nat.le_trans hB e2, e3⟩
end Go.Proofs.YtolkchkedieppaaGreat
