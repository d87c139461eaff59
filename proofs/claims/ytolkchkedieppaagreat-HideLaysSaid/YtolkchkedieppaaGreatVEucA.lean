/- Plain mathematics of relax (Bellman and Ford): what holds of costs and of the arcs by which they came to be; a ring that is found has a cost below 0. No program in sight. -/
import Derived.Test.YtolkchkedieppaaGreatVNum3
import Derived.Test.YtolkchkedieppaaGreatVOpen0
import Derived.Deep.AppendLies
import Derived.Test.YtolkchkedieppaaGreatProg
import Derived.Deep.DrawnRows
import Derived.Deep.QuietTactic
import Derived.BigQuiet
set_option linter.unusedVariables false
set_option linter.unusedSimpArgs false
namespace Go.Proofs.YtolkchkedieppaaGreat
def setN {α : Type} (f : Nat → α) (i : Nat) (x : α) : Nat → α := fun j => if j = i then x else f j
theorem setN_self {α : Type} (f : Nat → α) (i : Nat) (x : α) : setN f i x i = x := if_pos rfl
theorem setN_ne {α : Type} (f : Nat → α) {i j : Nat} (x : α) (h : j ≠ i) : setN f i x j = f j := if_neg h
end Go.Proofs.YtolkchkedieppaaGreat

/- General words on slices in memory of the call itself, gathered by append. -/
namespace Go.Proofs.YtolkchkedieppaaGreat
open Go.RowKit
/-- what the call's own slice holds, as a slice that is read -/
theorem Sl.of_own {w : World} {base e n : Nat} {v : Value} {xs : List Value} {q : Nat → Value} (h : w.ownsRow base e 1 v n xs) (hq : ∀ i, i < n → xs[i]? = some (q i)) : Sl w v n q := by
  rcases h.2 with ⟨rfl, rfl⟩ | ⟨g, cap, cur, rfl, hbg, hg, hnc, hcm, hcs, htake⟩
  · exact ⟨none, 0, 0, 0, rfl, ⟨Nat.le_refl _, fun h => by omega, fun h => by omega, fun i hi => by omega, fun _ => rfl⟩⟩
  · refine ⟨some ⟨g, 0, none⟩, g, 0, cap, rfl, ⟨hnc, fun _ => rfl, fun _ => (Array.getElem?_eq_some_iff.1 hg).1, fun i hi => ?_, fun e => by cases e⟩⟩
    rw [Nat.zero_add, h.cellAt i (by omega)]
    exact hq i hi
theorem infoI : (Tryz.prog.info? 3).map (fun i => (i.zero, i.size, i.bytes)) = some (some (.int .i64 0), 1, 8) := by kernel_rfl
/-- the first n values, as a list of cells -/
def ics (f : Nat → Int) (n : Nat) : List Value := (List.range n).map (ic f)
theorem ics_get (f : Nat → Int) (n i : Nat) (h : i < n) : (ics f n)[i]? = some (ic f i) := by simp [ics, h]
theorem ics_succ (f : Nat → Int) (n : Nat) : ics f n ++ [.int .i64 (f n)] = ics f (n + 1) := by simp [ics, List.range_succ, ic]
theorem ints_of_own {w : World} {base n : Nat} {v : Value} {f : Nat → Int} (h : w.ownsRow base 3 1 v n (ics f n)) : Ints w v n f := Sl.of_own h (fun i hi => ics_get f n i hi)
theorem own_shape {w : World} {base e size n : Nat} {v : Value} {xs : List Value} (h : w.ownsRow base e size v n xs) : ∃ a c, v = .slice a n c := by
  rcases h.2 with ⟨rfl, rfl⟩ | ⟨g, cap, cur, rfl, _⟩
  · exact ⟨none, 0, rfl⟩
  · exact ⟨_, cap, rfl⟩
theorem rowIs_sl {w : World} {b t n : Nat} {f : Nat → Value} (h : w.rowIs b t n f) : IsSl w (some ⟨b, 0, none⟩) b 0 n n f :=
  ⟨Nat.le_refl _, fun _ => rfl, fun _ => h.lt, fun i hi => by rw [Nat.zero_add]; exact h.cell hi, fun e => by cases e⟩
theorem rowIs_below {w w' : World} {b t n B : Nat} {f : Nat → Value} (h : w.rowIs b t n f) (hb : Below B w w') (hB : b < B) : w'.rowIs b t n f := h.of_block (hb.block b hB)
theorem ics_one (f : Nat → Int) (n : Nat) : ∀ u ∈ ics f n, u.oneCell' = true := fun u hu => by
  simp [ics] at hu
  obtain ⟨i, _, rfl⟩ := hu
  rfl
theorem ics_length (f : Nat → Int) (n : Nat) : (ics f n).length = n := by simp [ics]
/-- the cell of a row of one that was just made -/
theorem new1 (w : World) (u : Value) (t : TypeId) : ∀ j x, [u][j]? = some x → (w.alloc (.cells #[u] t)).cell? ((⟨w.heap.size, 0, none⟩ : Addr).add j) = some x := fun j x hj => by
  match j, hj with
  | 0, hj => simp at hj; subst hj; simp [go_sem, Addr.add]
theorem one1 (u : Value) (h : u.oneCell' = true) : ∀ x ∈ [u], x.oneCell' = true := fun x hx => by simp at hx; subst hx; exact h
theorem own_kept {B : Nat} {e : TypeId} {k : Nat} {v : Value} {n : Nat} {xs : List Value} {w w' : World} (h : w.ownsRow B e k v n xs) (hb : Below w.heap.size w w') : w'.ownsRow B e k v n xs :=
  h.kept (row := none) ⟨hb.os, hb.tape, hb.output, hb.size, fun j hj _ => hb.block j hj⟩ (by cases hv : v.ownBlock <;> simp)
theorem add_at (b o j : Nat) : (⟨b, o, none⟩ : Addr).add j = ⟨b, o + j, none⟩ := by unfold Addr.add; split <;> simp_all
theorem news_of {w : World} {a : Option Addr} {b o c n : Nat} {f : Nat → Int} (h : IsSl w a b o c n (ic f)) (k : Nat) (hk : k ≤ n) : ∀ j u, (ics f k)[j]? = some u → w.cell? ((⟨b, o, none⟩ : Addr).add j) = some u := fun j u hj => by
  have hjk : j < k := by
    have := (List.getElem?_eq_some_iff.1 hj).1
    rw [ics_length] at this; exact this
  rw [ics_get f k j hjk] at hj
  rw [add_at, h.cell j (by omega)]; exact hj
def blk (a : Option Addr) : Option Nat := a.map Addr.block
theorem ownBlock_blk (a : Option Addr) (n c : Nat) : (Value.slice a n c).ownBlock = blk a := by cases a <;> rfl
theorem own_base {w : World} {B B' : Nat} {e : TypeId} {s n : Nat} {v : Value} {xs : List Value} (h : w.ownsRow B' e s v n xs) (hB : B ≤ B') : w.ownsRow B e s v n xs := by
  obtain ⟨h1, h2⟩ := h
  refine ⟨h1, ?_⟩
  rcases h2 with h2 | ⟨g, cap, cur, e1, e2, e3⟩
  · exact .inl h2
  · exact .inr ⟨g, cap, cur, e1, Nat.le_trans hB e2, e3⟩
end Go.Proofs.YtolkchkedieppaaGreat

/- A row of integers of the call's own, written. -/
namespace Go.Proofs.YtolkchkedieppaaGreat
open Go.RowKit
theorem own_cap {w : World} {base e size n : Nat} {a : Option Addr} {c : Nat} {xs : List Value} (h : w.ownsRow base e size (.slice a n c) n xs) : n ≤ c := by
  rcases h.2 with ⟨h1, h2⟩ | ⟨g, cap, cur, h1, _, _, h2, _⟩
  · rw [h2]; exact Nat.zero_le _
  · cases h1; exact h2
end Go.Proofs.YtolkchkedieppaaGreat

/- Lay, plainly: a floor of places, squares put at the first lowest place. -/
namespace Go.Proofs.YtolkchkedieppaaGreat
/-- the first place with the least floor, of the first k + 1 -/
def minAt (F : Nat → Int) : Nat → Nat
  | 0 => 0
  | k + 1 => if F (k + 1) < F (minAt F k) then k + 1 else minAt F k
theorem minAt_le (F : Nat → Int) : ∀ k, minAt F k ≤ k
  | 0 => Nat.le_refl _
  | k + 1 => by have := minAt_le F k; simp only [minAt]; split <;> omega
theorem minAt_min (F : Nat → Int) : ∀ k i, i ≤ k → F (minAt F k) ≤ F i
  | 0, i, h => by obtain rfl : i = 0 := by omega
                  exact Int.le_refl _
  | k + 1, i, h => by
    simp only [minAt]
    by_cases e : i = k + 1
    · subst e; split <;> omega
    · have := minAt_min F k i (by omega)
      split <;> omega
theorem minAt_first (F : Nat → Int) : ∀ k i, i < minAt F k → F (minAt F k) < F i
  | 0, i, h => by simp [minAt] at h
  | k + 1, i, h => by
    simp only [minAt] at h ⊢
    by_cases e : F (k + 1) < F (minAt F k)
    · rw [if_pos e] at h ⊢
      have := minAt_min F k i (by omega)
      omega
    · rw [if_neg e] at h ⊢
      exact minAt_first F k i h
/-- a square as laid -/
structure Sq where
  x : Nat
  y : Int
  s : Nat
def putF (F : Nat → Int) (a s : Nat) : Nat → Int := fun i => if a ≤ i ∧ i < a + s then F i + s else F i
/-- a square of side s can be put at a -/
def FitP (W : Nat) (F : Nat → Int) (s : Nat) : Prop := minAt F (W - 1) + s ≤ W ∧ (∀ i, i < s → F (minAt F (W - 1) + i) = F (minAt F (W - 1))) ∧ F (minAt F (W - 1)) + (s : Int) ≤ 1000
instance (W : Nat) (F : Nat → Int) (s : Nat) : Decidable (FitP W F s) := by unfold FitP; infer_instance
def layF (W : Nat) : List Nat → (Nat → Int) → List Sq → Option (List Sq × (Nat → Int))
  | [], F, out => some (out, F)
  | s :: l, F, out => if FitP W F s then layF W l (putF F (minAt F (W - 1)) s) (out ++ [⟨minAt F (W - 1), F (minAt F (W - 1)), s⟩]) else none
theorem layF_app (W : Nat) (s : Nat) : ∀ (l : List Nat) (F : Nat → Int) (out : List Sq), layF W (l ++ [s]) F out = (layF W l F out).bind (fun r => layF W [s] r.2 r.1)
  | [], F, out => rfl
  | x :: l, F, out => by
    simp only [List.cons_append, layF]
    split
    · exact layF_app W s l _ _
    · rfl
/-- how many places side by side have the floor of the first lowest one -/
structure RunP (W : Nat) (F : Nat → Int) (a n : Nat) : Prop where
  pos : 1 ≤ n
  le : a + n ≤ W
  same : ∀ i, i < n → F (a + i) = F a
  stop : a + n = W ∨ F (a + n) ≠ F a
theorem RunP.fit {W : Nat} {F : Nat → Int} {n s : Nat} (h : RunP W F (minAt F (W - 1)) n) : FitP W F s ↔ (s ≤ n ∧ F (minAt F (W - 1)) + (s : Int) ≤ 1000) := by
  constructor
  · rintro ⟨h1, h2, h3⟩
    refine ⟨Nat.not_lt.1 (fun q => ?_), h3⟩
    rcases h.stop with e | e
    · omega
    · exact e (h2 n q)
  · rintro ⟨h1, h2⟩
    exact ⟨by have := h.le; omega, fun i hi => h.same i (by omega), h2⟩
/-- the floor is level -/
def Lvl (W : Nat) (F : Nat → Int) : Prop := ∀ i, i < W → F i = F 0
instance (W : Nat) (F : Nat → Int) : Decidable (Lvl W F) := by unfold Lvl; infer_instance
/-- the floor stays in range -/
theorem layF_range (W : Nat) : ∀ (l : List Nat) (F : Nat → Int) (out out' : List Sq) (F' : Nat → Int), (∀ i, 0 ≤ F i ∧ F i ≤ 1000) → layF W l F out = some (out', F') → (∀ i, 0 ≤ F' i ∧ F' i ≤ 1000) ∧ out'.length = out.length + l.length
  | [], F, out, out', F', h, e => by
    simp only [layF, Option.some.injEq, Prod.mk.injEq] at e
    obtain ⟨rfl, rfl⟩ := e
    exact ⟨h, by simp⟩
  | s :: l, F, out, out', F', h, e => by
    simp only [layF] at e
    by_cases hf : FitP W F s
    · rw [if_pos hf] at e
      have ih := layF_range W l _ _ out' F' (fun i => ?_) e
      · refine ⟨ih.1, ?_⟩
        have := ih.2
        simp at this ⊢; omega
      · unfold putF
        by_cases q : minAt F (W - 1) ≤ i ∧ i < minAt F (W - 1) + s
        · rw [if_pos q]
          have h1 := hf.2.1 (i - minAt F (W - 1)) (by omega)
          rw [show minAt F (W - 1) + (i - minAt F (W - 1)) = i by omega] at h1
          have h2 := hf.2.2
          have := h i
          omega
        · rw [if_neg q]; exact h i
    · rw [if_neg hf] at e; cases e
theorem lay_ex : ∃ out F, layF 32 [18, 14, 4, 10, 15, 7, 1, 9, 8] (fun _ => 0) [] = some (out, F) ∧ out.length = 9 ∧ Lvl 32 F := by
  rcases h : layF 32 [18, 14, 4, 10, 15, 7, 1, 9, 8] (fun _ => 0) [] with _ | ⟨out, F⟩
  · exfalso
    have e : (layF 32 [18, 14, 4, 10, 15, 7, 1, 9, 8] (fun _ => 0) []).isSome = true := by decide +kernel
    rw [h] at e; cases e
  · have e1 : ∀ r, layF 32 [18, 14, 4, 10, 15, 7, 1, 9, 8] (fun _ => 0) [] = some r → Lvl 32 r.2 := by
      have e : ((layF 32 [18, 14, 4, 10, 15, 7, 1, 9, 8] (fun _ => 0) []).elim true (fun r => decide (Lvl 32 r.2))) = true := by decide +kernel
      intro r hr
      rw [hr] at e
      simpa using e
    exact ⟨out, F, rfl, by have := (layF_range 32 _ _ _ _ _ (fun i => by simp) h).2; simpa using this, e1 _ h⟩
end Go.Proofs.YtolkchkedieppaaGreat

/- The floor of package hide: least and greatest place, put. -/
namespace Go.Proofs.YtolkchkedieppaaGreat
open Go.RowKit
attribute [local go_sem ↓] Go.wp_at_zero Go.wp_at_succ
theorem flr_s : Tryz.prog.underlying 84 = some (.slice (Tryz.prog.elem 84)) := by kernel_rfl
theorem flr_z (W : World) : (sizeOf (Tryz.prog.elem 84)).run Tryz.prog W = .ok 1 W := by kernel_rfl
theorem ixFl {w : World} {a : Option Addr} {b o c n : Nat} {g : Nat → Value} (h : IsSl w a b o c n g) (i d : Nat) (hi : i < n) (W : World) :
    (Instr.indexAt 84 (.slice a n d) (.int .i64 (i : Int))).run Tryz.prog W = .ok (.pointer (some ⟨b, o + i, none⟩)) W :=
  run_indexAt_opt 84 flr_s flr_z a b o n d (fun q => h.at_ q) .i64 i (by omega) (by omega) W
theorem ixF0 {w : World} {a : Option Addr} {b o c n : Nat} {g : Nat → Value} (h : IsSl w a b o c n g) (d : Nat) (hi : 0 < n) (W : World) :
    (Instr.indexAt 84 (.slice a n d) (.int .i64 0)).run Tryz.prog W = .ok (.pointer (some ⟨b, o + 0, none⟩)) W := ixFl h 0 d hi W
set_option maxHeartbeats 2000000 in
set_option maxRecDepth 100000 in
theorem fmin_any (v : Value) (n : Nat) (f : Nat → Int) (w : World) (hv : Ints w v n f) (hn : 1 ≤ n) (hn2 : n ≤ 1000) :
    Calls Tryz.prog 51 #[v] w fun e w' => e = .returned (.int .i64 (f (minAt f (n - 1)))) ∧ w = w' := by
  obtain ⟨a, b, o, c, rfl, hs⟩ := hv
  have HS := Lib.hid hs
  have d0 : decide ((n : Int) < 1) = false := by simp; omega
  have d0n : decide (n < 1) = false := by simp; omega
  have hix0 := fun W => ixF0 hs c hn W
  have hc0 := hs.cell 0 hn
  simp only [ic, Nat.add_zero] at hix0 hc0
  clear hs
  go_enter Tryz.func51, Tryz.ntmps51
  go_wp2
  go_loopw [3, 4] (fun v3 v4 wr => ∃ k : Nat, 1 ≤ k ∧ k ≤ n ∧ v4 = .int .i64 (k : Nat) ∧ v3 = .int .i64 (f (minAt f (k - 1))) ∧ w = wr) (fun _ v4 _ => n - (intOf v4).toNat)
  case atStart => exact ⟨1, by omega, by omega, rfl, rfl, rfl⟩
  case round =>
    clear hix0 hc0
    obtain ⟨k, hk1, hk, rfl, rfl, rfl⟩ := hrel
    by_cases h : k < n
    · have e1 : decide ((k : Int) < (n : Int)) = true := by simpa using h
      have e1n : decide (k < n) = true := by simpa using h
      have hix := fun W => ixFl HS.out k c h W
      have hc := HS.out.cell k h
      simp only [ic] at hc
      obtain ⟨m, hm⟩ : ∃ m, m = f (minAt f (k - 1)) := ⟨_, rfl⟩
      rw [← hm]
      have HQ : Hid ((if f k < m then f k else m) = f (minAt f k)) := Lib.hid (by
        obtain ⟨j, rfl⟩ : ∃ j, k = j + 1 := ⟨k - 1, by omega⟩
        simp only [minAt, Nat.add_sub_cancel] at hm ⊢
        rw [hm]
        split <;> rfl)
      clear hm
      by_cases h2 : f k < m
      · have e2 : decide (f k < m) = true := by simpa using h2
        have HQ2 : Hid (f k = f (minAt f k)) := Lib.hid (by have := HQ.out; rw [if_pos h2] at this; exact this)
        go_wp2
        go_roundw
        case rel => exact ⟨k + 1, by omega, by omega, by go_num, by rw [Nat.add_sub_cancel, ← HQ2.out]; first | done | rfl | (simp; omega), by first | rfl | trivial⟩
        case measure => simp [intOf]; omega
      · have e2 : decide (f k < m) = false := by simpa using h2
        have HQ2 : Hid (m = f (minAt f k)) := Lib.hid (by have := HQ.out; rw [if_neg h2] at this; exact this)
        go_wp2
        go_roundw
        case rel => exact ⟨k + 1, by omega, by omega, by go_num, by rw [Nat.add_sub_cancel, ← HQ2.out]; first | done | rfl | (simp; omega), by first | rfl | trivial⟩
        case measure => simp [intOf]; omega
    · obtain rfl : k = n := by omega
      have e1 : decide ((k : Int) < (k : Int)) = false := by simp
      go_wp2
      go_ret
      exact ⟨rfl, rfl⟩
/-- the greatest of the first k + 1 -/
def maxTo (F : Nat → Int) : Nat → Int
  | 0 => F 0
  | k + 1 => if maxTo F k < F (k + 1) then F (k + 1) else maxTo F k
theorem maxTo_ge (F : Nat → Int) : ∀ k i, i ≤ k → F i ≤ maxTo F k
  | 0, i, h => by obtain rfl : i = 0 := by omega
                  exact Int.le_refl _
  | k + 1, i, h => by
    simp only [maxTo]
    by_cases e : i = k + 1
    · subst e; split <;> omega
    · have := maxTo_ge F k i (by omega)
      split <;> omega
theorem maxTo_at (F : Nat → Int) : ∀ k, ∃ i, i ≤ k ∧ maxTo F k = F i
  | 0 => ⟨0, Nat.le_refl _, rfl⟩
  | k + 1 => by
    obtain ⟨i, h1, h2⟩ := maxTo_at F k
    simp only [maxTo]
    split
    · exact ⟨k + 1, Nat.le_refl _, rfl⟩
    · exact ⟨i, by omega, h2⟩
theorem lvl_iff {W : Nat} {F : Nat → Int} (h : 1 ≤ W) : F (minAt F (W - 1)) = maxTo F (W - 1) ↔ Lvl W F := by
  constructor
  · intro e i hi
    have h1 := minAt_min F (W - 1) i (by omega)
    have h2 := maxTo_ge F (W - 1) i (by omega)
    have h3 := minAt_min F (W - 1) 0 (by omega)
    have h4 := maxTo_ge F (W - 1) 0 (by omega)
    omega
  · intro q
    obtain ⟨i, h1, h2⟩ := maxTo_at F (W - 1)
    have := minAt_le F (W - 1)
    rw [h2, q i (by omega), q (minAt F (W - 1)) (by omega)]
set_option maxHeartbeats 2000000 in
set_option maxRecDepth 100000 in
theorem fmax_any (v : Value) (n : Nat) (f : Nat → Int) (w : World) (hv : Ints w v n f) (hn : 1 ≤ n) (hn2 : n ≤ 1000) :
    Calls Tryz.prog 52 #[v] w fun e w' => e = .returned (.int .i64 (maxTo f (n - 1))) ∧ w = w' := by
  obtain ⟨a, b, o, c, rfl, hs⟩ := hv
  have HS := Lib.hid hs
  have d0 : decide ((n : Int) < 1) = false := by simp; omega
  have d0n : decide (n < 1) = false := by simp; omega
  have hix0 := fun W => ixF0 hs c hn W
  have hc0 := hs.cell 0 hn
  simp only [ic, Nat.add_zero] at hix0 hc0
  clear hs
  go_enter Tryz.func52, Tryz.ntmps52
  go_wp2
  go_loopw [3, 4] (fun v3 v4 wr => ∃ k : Nat, 1 ≤ k ∧ k ≤ n ∧ v4 = .int .i64 (k : Nat) ∧ v3 = .int .i64 (maxTo f (k - 1)) ∧ w = wr) (fun _ v4 _ => n - (intOf v4).toNat)
  case atStart => exact ⟨1, by omega, by omega, rfl, rfl, rfl⟩
  case round =>
    clear hix0 hc0
    obtain ⟨k, hk1, hk, rfl, rfl, rfl⟩ := hrel
    by_cases h : k < n
    · have e1 : decide ((k : Int) < (n : Int)) = true := by simpa using h
      have e1n : decide (k < n) = true := by simpa using h
      have hix := fun W => ixFl HS.out k c h W
      have hc := HS.out.cell k h
      simp only [ic] at hc
      obtain ⟨m, hm⟩ : ∃ m, m = maxTo f (k - 1) := ⟨_, rfl⟩
      rw [← hm]
      have HQ : Hid ((if m < f k then f k else m) = maxTo f k) := Lib.hid (by
        obtain ⟨j, rfl⟩ : ∃ j, k = j + 1 := ⟨k - 1, by omega⟩
        simp only [maxTo, Nat.add_sub_cancel] at hm ⊢
        rw [hm])
      clear hm
      by_cases h2 : m < f k
      · have e2 : decide (m < f k) = true := by simpa using h2
        have HQ2 : Hid (f k = maxTo f k) := Lib.hid (by have := HQ.out; rw [if_pos h2] at this; exact this)
        go_wp2
        go_roundw
        case rel => exact ⟨k + 1, by omega, by omega, by go_num, by rw [Nat.add_sub_cancel, ← HQ2.out]; first | done | rfl | (simp; omega), by first | rfl | trivial⟩
        case measure => simp [intOf]; omega
      · have e2 : decide (m < f k) = false := by simpa using h2
        have HQ2 : Hid (m = maxTo f k) := Lib.hid (by have := HQ.out; rw [if_neg h2] at this; exact this)
        go_wp2
        go_roundw
        case rel => exact ⟨k + 1, by omega, by omega, by go_num, by rw [Nat.add_sub_cancel, ← HQ2.out]; first | done | rfl | (simp; omega), by first | rfl | trivial⟩
        case measure => simp [intOf]; omega
    · obtain rfl : k = n := by omega
      have e1 : decide ((k : Int) < (k : Int)) = false := by simp
      go_wp2
      go_ret
      exact ⟨rfl, rfl⟩
set_option maxHeartbeats 2000000 in
set_option maxRecDepth 100000 in
theorem findex_any (v : Value) (n : Nat) (f : Nat → Int) (x : Int) (p : Nat) (w : World) (hv : Ints w v n f) (hp : p < n) (hx : f p = x) (hf : ∀ i, i < p → f i ≠ x) (hn2 : n ≤ 1000) :
    Calls Tryz.prog 101 #[v, .int .i64 x] w fun e w' => e = .returned (.int .i64 (p : Nat)) ∧ w = w' := by
  obtain ⟨a, b, o, c, rfl, hs⟩ := hv
  have HS := Lib.hid hs
  have HX := Lib.hid hx
  have HF := Lib.hid hf
  clear hs hx hf
  go_enter Tryz.func101, Tryz.ntmps101
  go_wp2
  go_loopw [5, 8] (fun _ v8 wr => ∃ k : Nat, k ≤ p ∧ v8 = .int .i64 (k : Nat) ∧ w = wr) (fun _ v8 _ => n - (intOf v8).toNat)
  case atStart => exact ⟨0, by omega, rfl, rfl⟩
  case round =>
    obtain ⟨k, hk, rfl, rfl⟩ := hrel
    have h : k < n := by omega
    have e1 : decide ((k : Int) < (n : Int)) = true := by simpa using h
    have e1n : decide (k < n) = true := by simpa using h
    have hix := fun W => ixFl HS.out k c h W
    have hc := HS.out.cell k h
    simp only [ic] at hc
    by_cases hq : k = p
    · have e2 : (x == f k) = true := by rw [hq, HX.out]; simp
      subst hq
      go_wp2
      go_ret
      exact ⟨rfl, rfl⟩
    · have e2 : (x == f k) = false := by have := HF.out k (by omega); simp; exact fun e => this e.symm
      go_wp2
      go_roundw
      case rel => exact ⟨k + 1, by omega, by go_num, by first | rfl | trivial⟩
      case measure => simp [intOf]; omega
end Go.Proofs.YtolkchkedieppaaGreat

/- Euclid of package hide, and the reference's. -/
namespace Go.Proofs.YtolkchkedieppaaGreat
open Go.RowKit
attribute [local go_sem ↓] Go.wp_at_zero Go.wp_at_succ
def eF (l : List Nat) (i : Nat) : Int := ((l.getD i 0 : Nat) : Int)
end Go.Proofs.YtolkchkedieppaaGreat
