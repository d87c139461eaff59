/- Plain laws of package hide: sorted lists are one list; the document's example. -/
import Derived.Test.YtolkchkedieppaaGreatZNetB
import Derived.Test.YtolkchkedieppaaGreatZCurA
import Derived.Test.YtolkchkedieppaaGreatProg
import Derived.Test.YtolkchkedieppaaGreatZGen
import Derived.Test.YtolkchkedieppaaGreatZLnA
import Derived.Deep.DrawnRows
import Derived.Deep.QuietTactic
import Derived.BigQuiet
import Derived.Maps.AppendAt
import Derived.Deep.AppendLies
set_option linter.unusedVariables false
set_option linter.unusedSimpArgs false
namespace Go.Proofs.YtolkchkedieppaaGreat
theorem perm_sorted_uniq {α : Type} {lt : α → α → Prop} : ∀ (l m : List α), l.Perm m → l.Pairwise (fun a b => ¬ lt b a) → m.Pairwise (fun a b => ¬ lt b a) → (∀ x, x ∈ l → ∀ y, y ∈ l → ¬ lt x y → ¬ lt y x → x = y) → l = m
  | [], m, hp, _, _, _ => by simpa using hp.length_eq.symm
  | a :: l, [], hp, _, _, _ => by have := hp.length_eq; simp at this
  | a :: l, b :: m, hp, hl, hm, hu => by
    have ha : a ∈ b :: m := hp.mem_iff.1 (by simp)
    have hb : b ∈ a :: l := hp.mem_iff.2 (by simp)
    rw [List.pairwise_cons] at hl hm
    have e : a = b := by
      rcases List.mem_cons.1 ha with e | ha'
      · exact e
      · rcases List.mem_cons.1 hb with e | hb'
        · exact e.symm
        · exact hu a (by simp) b hb (hm.1 a ha') (hl.1 b hb')
    subst e
    rw [perm_sorted_uniq l m hp.cons_inv hl.2 hm.2 (fun x hx y hy => hu x (by simp [hx]) y (by simp [hy]))]
theorem ltL_tot (x y : Tr) (h1 : ¬ ltL x y) (h2 : ¬ ltL y x) : x = y := by
  obtain ⟨a, b, c⟩ := x
  obtain ⟨a', b', c'⟩ := y
  unfold ltL at h1 h2
  simp only at h1 h2
  obtain rfl : a = a' := by omega
  obtain rfl : b = b' := by omega
  obtain rfl : c = c' := by omega
  rfl
/-- the squares of the example -/
def S3 : List Tr := [⟨0, 0, 2⟩, ⟨2, 0, 1⟩, ⟨2, 1, 1⟩]
theorem s3_cut : CutOK S3 := by
  refine ⟨by decide, by decide, fun i hi => ?_, fun i j hj hi => ?_, by decide⟩
  · have hi : i < 3 := hi
    rcases (by omega : i = 0 ∨ i = 1 ∨ i = 2) with rfl | rfl | rfl <;> exact ⟨by decide, by decide, by decide, by decide, by decide, by decide⟩
  · have hi : i < 3 := hi
    rcases (by omega : (i = 1 ∧ j = 0) ∨ (i = 2 ∧ j = 0) ∨ (i = 2 ∧ j = 1)) with ⟨rfl, rfl⟩ | ⟨rfl, rfl⟩ | ⟨rfl, rfl⟩ <;> decide
theorem s3_sorted {S : List Tr} (hp : S3.Perm S) (hs : S.Pairwise (fun a b => ¬ ltS b a)) : S = S3 := by
  refine (perm_sorted_uniq S3 S hp ?_ hs ?_).symm
  · simp [S3, ltS]
  · intro x hx y hy h1 h2
    simp only [S3, List.mem_cons, List.not_mem_nil, or_false] at hx hy
    rcases hx with rfl | rfl | rfl <;> rcases hy with rfl | rfl | rfl <;> simp_all [ltS]
/-- its lines, in order -/
def P3 : List Tr := [⟨0, 0, 2⟩, ⟨0, 2, 3⟩, ⟨1, 2, 3⟩, ⟨1, 2, 3⟩, ⟨2, 0, 2⟩, ⟨2, 2, 3⟩]
theorem s3_lines {P : List Tr} (hp : (rawF S3 3).Perm P) (hs : P.Pairwise (fun a b => ¬ ltL b a)) : (joinF P 5).length = 3 := by
  have e : P3 = P := by
    refine perm_sorted_uniq P3 P ?_ ?_ hs (fun x _ y _ => ltL_tot x y)
    · refine List.Perm.trans ?_ hp
      have e2 : rawF S3 3 = [⟨0, 0, 2⟩, ⟨2, 0, 2⟩, ⟨0, 2, 3⟩, ⟨1, 2, 3⟩, ⟨1, 2, 3⟩, ⟨2, 2, 3⟩] := rfl
      rw [e2]
      refine List.Perm.cons _ ?_
      exact (List.perm_middle (a := (⟨2, 0, 2⟩ : Tr)) (l₁ := [⟨0, 2, 3⟩, ⟨1, 2, 3⟩, ⟨1, 2, 3⟩]) (l₂ := [⟨2, 2, 3⟩]))
    · simp [P3, ltL]
  rw [← e]
  decide
/-- the wires of the example -/
def W3 : List (Int × Int) := [(0, 2), (0, 1), (1, 2)]
def x3 (i : Nat) : Rat := if i = 0 then 2 / 3 else 1 / 3
theorem w3_ok : WiresOK 3 W3 := fun k hk => by
  have hk : k < 3 := hk
  rcases (by omega : k = 0 ∨ k = 1 ∨ k = 2) with rfl | rfl | rfl <;> decide
theorem w3_ne : ∀ k, k < W3.length → wA W3 k ≠ wB W3 k := fun k hk => by
  have hk : k < 3 := hk
  rcases (by omega : k = 0 ∨ k = 1 ∨ k = 2) with rfl | rfl | rfl <;> decide
theorem w3_con : ConOK 3 W3 := fun i hi => by
  have h1 : Rea W3 1 := Rea.fw 1 (by decide) Rea.zero
  have h2 : Rea W3 2 := Rea.fw 0 (by decide) Rea.zero
  rcases (by omega : i = 0 ∨ i = 1 ∨ i = 2) with rfl | rfl | rfl
  · exact Rea.zero
  · exact h1
  · exact h2
end Go.Proofs.YtolkchkedieppaaGreat

/- Lay, plainly: a floor of places, squares put at the first lowest place. -/
namespace Go.Proofs.YtolkchkedieppaaGreat
/-- the first place with the least floor, of the first k + 1 -/
def minAt (F : Nat → Int) : Nat → Nat
  | 0 => 0
  | k + 1 => if F (k + 1) < F (minAt F k) then k + 1 else minAt F k
theorem minAt_le (F : Nat → Int) : ∀ k, minAt F k ≤ k
  | 0 => Nat.le_refl _
  | k + 1 => by have := minAt_le F k; simp only [minAt]; split <;> omega
theorem minAt_min (F : Nat → Int) : ∀ k i, i ≤ k → F (minAt F k) ≤ F i
  | 0, i, h => by obtain rfl : i = 0 := by omega
                  exact Int.le_refl _
  | k + 1, i, h => by
    simp only [minAt]
    by_cases e : i = k + 1
    · subst e; split <;> omega
    · have := minAt_min F k i (by omega)
      split <;> omega
theorem minAt_first (F : Nat → Int) : ∀ k i, i < minAt F k → F (minAt F k) < F i
  | 0, i, h => by simp [minAt] at h
  | k + 1, i, h => by
    simp only [minAt] at h ⊢
    by_cases e : F (k + 1) < F (minAt F k)
    · rw [if_pos e] at h ⊢
      have := minAt_min F k i (by omega)
      omega
    · rw [if_neg e] at h ⊢
      exact minAt_first F k i h
/-- a square as laid -/
structure Sq where
  x : Nat
  y : Int
  s : Nat
def putF (F : Nat → Int) (a s : Nat) : Nat → Int := fun i => if a ≤ i ∧ i < a + s then F i + s else F i
/-- a square of side s can be put at a -/
def FitP (W : Nat) (F : Nat → Int) (s : Nat) : Prop := minAt F (W - 1) + s ≤ W ∧ (∀ i, i < s → F (minAt F (W - 1) + i) = F (minAt F (W - 1))) ∧ F (minAt F (W - 1)) + (s : Int) ≤ 1000
instance (W : Nat) (F : Nat → Int) (s : Nat) : Decidable (FitP W F s) := by unfold FitP; infer_instance
def layF (W : Nat) : List Nat → (Nat → Int) → List Sq → Option (List Sq × (Nat → Int))
  | [], F, out => some (out, F)
  | s :: l, F, out => if FitP W F s then layF W l (putF F (minAt F (W - 1)) s) (out ++ [⟨minAt F (W - 1), F (minAt F (W - 1)), s⟩]) else none
theorem layF_app (W : Nat) (s : Nat) : ∀ (l : List Nat) (F : Nat → Int) (out : List Sq), layF W (l ++ [s]) F out = (layF W l F out).bind (fun r => layF W [s] r.2 r.1)
  | [], F, out => rfl
  | x :: l, F, out => by
    simp only [List.cons_append, layF]
    split
    · exact layF_app W s l _ _
    · rfl
/-- how many places side by side have the floor of the first lowest one -/
structure RunP (W : Nat) (F : Nat → Int) (a n : Nat) : Prop where
  pos : 1 ≤ n
  le : a + n ≤ W
  same : ∀ i, i < n → F (a + i) = F a
  stop : a + n = W ∨ F (a + n) ≠ F a
theorem RunP.fit {W : Nat} {F : Nat → Int} {n s : Nat} (h : RunP W F (minAt F (W - 1)) n) : FitP W F s ↔ (s ≤ n ∧ F (minAt F (W - 1)) + (s : Int) ≤ 1000) := by
  constructor
  · rintro ⟨h1, h2, h3⟩
    refine ⟨Nat.not_lt.1 (fun q => ?_), h3⟩
    rcases h.stop with e | e
    · omega
    · exact e (h2 n q)
  · rintro ⟨h1, h2⟩
    exact ⟨by have := h.le; omega, fun i hi => h.same i (by omega), h2⟩
/-- the floor is level -/
def Lvl (W : Nat) (F : Nat → Int) : Prop := ∀ i, i < W → F i = F 0
instance (W : Nat) (F : Nat → Int) : Decidable (Lvl W F) := by unfold Lvl; infer_instance
/-- the floor stays in range -/
theorem layF_range (W : Nat) : ∀ (l : List Nat) (F : Nat → Int) (out out' : List Sq) (F' : Nat → Int), (∀ i, 0 ≤ F i ∧ F i ≤ 1000) → layF W l F out = some (out', F') → (∀ i, 0 ≤ F' i ∧ F' i ≤ 1000) ∧ out'.length = out.length + l.length
  | [], F, out, out', F', h, e => by
    simp only [layF, Option.some.injEq, Prod.mk.injEq] at e
    obtain ⟨rfl, rfl⟩ := e
    exact ⟨h, by simp⟩
  | s :: l, F, out, out', F', h, e => by
    simp only [layF] at e
    by_cases hf : FitP W F s
    · rw [if_pos hf] at e
      have ih := layF_range W l _ _ out' F' (fun i => ?_) e
      · refine ⟨ih.1, ?_⟩
        have := ih.2
        simp at this ⊢; omega
      · unfold putF
        by_cases q : minAt F (W - 1) ≤ i ∧ i < minAt F (W - 1) + s
        · rw [if_pos q]
          have h1 := hf.2.1 (i - minAt F (W - 1)) (by omega)
          rw [show minAt F (W - 1) + (i - minAt F (W - 1)) = i by omega] at h1
          have h2 := hf.2.2
          have := h i
          omega
        · rw [if_neg q]; exact h i
    · rw [if_neg hf] at e; cases e
theorem lay_ex : ∃ out F, layF 32 [18, 14, 4, 10, 15, 7, 1, 9, 8] (fun _ => 0) [] = some (out, F) ∧ out.length = 9 ∧ Lvl 32 F := by
  rcases h : layF 32 [18, 14, 4, 10, 15, 7, 1, 9, 8] (fun _ => 0) [] with _ | ⟨out, F⟩
  · exfalso
    have e : (layF 32 [18, 14, 4, 10, 15, 7, 1, 9, 8] (fun _ => 0) []).isSome = true := by decide +kernel
    rw [h] at e; cases e
  · have e1 : ∀ r, layF 32 [18, 14, 4, 10, 15, 7, 1, 9, 8] (fun _ => 0) [] = some r → Lvl 32 r.2 := by
      have e : ((layF 32 [18, 14, 4, 10, 15, 7, 1, 9, 8] (fun _ => 0) []).elim true (fun r => decide (Lvl 32 r.2))) = true := by decide +kernel
      intro r hr
      rw [hr] at e
      simpa using e
    exact ⟨out, F, rfl, by have := (layF_range 32 _ _ _ _ _ (fun i => by simp) h).2; simpa using this, e1 _ h⟩
end Go.Proofs.YtolkchkedieppaaGreat

/- The floor of package hide: least and greatest place, put. -/
namespace Go.Proofs.YtolkchkedieppaaGreat
open Go.RowKit
attribute [local go_sem ↓] Go.wp_at_zero Go.wp_at_succ
theorem flr_s : Tryz.prog.underlying 84 = some (.slice (Tryz.prog.elem 84)) := by kernel_rfl
theorem flr_z (W : World) : (sizeOf (Tryz.prog.elem 84)).run Tryz.prog W = .ok 1 W := by kernel_rfl
theorem ixFl {w : World} {a : Option Addr} {b o c n : Nat} {g : Nat → Value} (h : IsSl w a b o c n g) (i d : Nat) (hi : i < n) (W : World) :
    (Instr.indexAt 84 (.slice a n d) (.int .i64 (i : Int))).run Tryz.prog W = .ok (.pointer (some ⟨b, o + i, none⟩)) W :=
  run_indexAt_opt 84 flr_s flr_z a b o n d (fun q => h.at_ q) .i64 i (by omega) (by omega) W
theorem ixF0 {w : World} {a : Option Addr} {b o c n : Nat} {g : Nat → Value} (h : IsSl w a b o c n g) (d : Nat) (hi : 0 < n) (W : World) :
    (Instr.indexAt 84 (.slice a n d) (.int .i64 0)).run Tryz.prog W = .ok (.pointer (some ⟨b, o + 0, none⟩)) W := ixFl h 0 d hi W
set_option maxHeartbeats 2000000 in
set_option maxRecDepth 100000 in
theorem fmin_any (v : Value) (n : Nat) (f : Nat → Int) (w : World) (hv : Ints w v n f) (hn : 1 ≤ n) (hn2 : n ≤ 1000) :
    Calls Tryz.prog 51 #[v] w fun e w' => e = .returned (.int .i64 (f (minAt f (n - 1)))) ∧ w = w' := by
  obtain ⟨a, b, o, c, rfl, hs⟩ := hv
  have HS := Lib.hid hs
  have d0 : decide ((n : Int) < 1) = false := by simp; omega
  have d0n : decide (n < 1) = false := by simp; omega
  have hix0 := fun W => ixF0 hs c hn W
  have hc0 := hs.cell 0 hn
  simp only [ic, Nat.add_zero] at hix0 hc0
  clear hs
  go_enter Tryz.func51, Tryz.ntmps51
  go_wp2
  go_loopw [3, 4] (fun v3 v4 wr => ∃ k : Nat, 1 ≤ k ∧ k ≤ n ∧ v4 = .int .i64 (k : Nat) ∧ v3 = .int .i64 (f (minAt f (k - 1))) ∧ w = wr) (fun _ v4 _ => n - (intOf v4).toNat)
  case atStart => exact ⟨1, by omega, by omega, rfl, rfl, rfl⟩
  case round =>
    clear hix0 hc0
    obtain ⟨k, hk1, hk, rfl, rfl, rfl⟩ := hrel
    by_cases h : k < n
    · have e1 : decide ((k : Int) < (n : Int)) = true := by simpa using h
      have e1n : decide (k < n) = true := by simpa using h
      have hix := fun W => ixFl HS.out k c h W
      have hc := HS.out.cell k h
      simp only [ic] at hc
      obtain ⟨m, hm⟩ : ∃ m, m = f (minAt f (k - 1)) := ⟨_, rfl⟩
      rw [← hm]
      have HQ : Hid ((if f k < m then f k else m) = f (minAt f k)) := Lib.hid (by
        obtain ⟨j, rfl⟩ : ∃ j, k = j + 1 := ⟨k - 1, by omega⟩
        simp only [minAt, Nat.add_sub_cancel] at hm ⊢
        rw [hm]
        split <;> rfl)
      clear hm
      by_cases h2 : f k < m
      · have e2 : decide (f k < m) = true := by simpa using h2
        have HQ2 : Hid (f k = f (minAt f k)) := Lib.hid (by have := HQ.out; rw [if_pos h2] at this; exact this)
        go_wp2
        go_roundw
        case rel => exact ⟨k + 1, by omega, by omega, by go_num, by rw [Nat.add_sub_cancel, ← HQ2.out]; first | done | rfl | (simp; omega), by first | rfl | trivial⟩
        case measure => simp [intOf]; omega
      · have e2 : decide (f k < m) = false := by simpa using h2
        have HQ2 : Hid (m = f (minAt f k)) := Lib.hid (by have := HQ.out; rw [if_neg h2] at this; exact this)
        go_wp2
        go_roundw
        case rel => exact ⟨k + 1, by omega, by omega, by go_num, by rw [Nat.add_sub_cancel, ← HQ2.out]; first | done | rfl | (simp; omega), by first | rfl | trivial⟩
        case measure => simp [intOf]; omega
    · obtain rfl : k = n := by omega
      have e1 : decide ((k : Int) < (k : Int)) = false := by simp
      go_wp2
      go_ret
      exact ⟨rfl, rfl⟩
/-- the greatest of the first k + 1 -/
def maxTo (F : Nat → Int) : Nat → Int
  | 0 => F 0
  | k + 1 => if maxTo F k < F (k + 1) then F (k + 1) else maxTo F k
theorem maxTo_ge (F : Nat → Int) : ∀ k i, i ≤ k → F i ≤ maxTo F k
  | 0, i, h => by obtain rfl : i = 0 := by omega
                  exact Int.le_refl _
  | k + 1, i, h => by
    simp only [maxTo]
    by_cases e : i = k + 1
    · subst e; split <;> omega
    · have := maxTo_ge F k i (by omega)
      split <;> omega
theorem maxTo_at (F : Nat → Int) : ∀ k, ∃ i, i ≤ k ∧ maxTo F k = F i
  | 0 => ⟨0, Nat.le_refl _, rfl⟩
  | k + 1 => by
    obtain ⟨i, h1, h2⟩ := maxTo_at F k
    simp only [maxTo]
    split
    · exact ⟨k + 1, Nat.le_refl _, rfl⟩
    · exact ⟨i, by omega, h2⟩
theorem lvl_iff {W : Nat} {F : Nat → Int} (h : 1 ≤ W) : F (minAt F (W - 1)) = maxTo F (W - 1) ↔ Lvl W F := by
  constructor
  · intro e i hi
    have h1 := minAt_min F (W - 1) i (by omega)
    have h2 := maxTo_ge F (W - 1) i (by omega)
    have h3 := minAt_min F (W - 1) 0 (by omega)
    have h4 := maxTo_ge F (W - 1) 0 (by omega)
    omega
  · intro q
    obtain ⟨i, h1, h2⟩ := maxTo_at F (W - 1)
    have := minAt_le F (W - 1)
    rw [h2, q i (by omega), q (minAt F (W - 1)) (by omega)]
set_option maxHeartbeats 2000000 in
set_option maxRecDepth 100000 in
theorem fmax_any (v : Value) (n : Nat) (f : Nat → Int) (w : World) (hv : Ints w v n f) (hn : 1 ≤ n) (hn2 : n ≤ 1000) :
    Calls Tryz.prog 52 #[v] w fun e w' => e = .returned (.int .i64 (maxTo f (n - 1))) ∧ w = w' := by
  obtain ⟨a, b, o, c, rfl, hs⟩ := hv
  have HS := Lib.hid hs
  have d0 : decide ((n : Int) < 1) = false := by simp; omega
  have d0n : decide (n < 1) = false := by simp; omega
  have hix0 := fun W => ixF0 hs c hn W
  have hc0 := hs.cell 0 hn
  simp only [ic, Nat.add_zero] at hix0 hc0
  clear hs
  go_enter Tryz.func52, Tryz.ntmps52
  go_wp2
  go_loopw [3, 4] (fun v3 v4 wr => ∃ k : Nat, 1 ≤ k ∧ k ≤ n ∧ v4 = .int .i64 (k : Nat) ∧ v3 = .int .i64 (maxTo f (k - 1)) ∧ w = wr) (fun _ v4 _ => n - (intOf v4).toNat)
  case atStart => exact ⟨1, by omega, by omega, rfl, rfl, rfl⟩
  case round =>
    clear hix0 hc0
    obtain ⟨k, hk1, hk, rfl, rfl, rfl⟩ := hrel
    by_cases h : k < n
    · have e1 : decide ((k : Int) < (n : Int)) = true := by simpa using h
      have e1n : decide (k < n) = true := by simpa using h
      have hix := fun W => ixFl HS.out k c h W
      have hc := HS.out.cell k h
      simp only [ic] at hc
      obtain ⟨m, hm⟩ : ∃ m, m = maxTo f (k - 1) := ⟨_, rfl⟩
      rw [← hm]
      have HQ : Hid ((if m < f k then f k else m) = maxTo f k) := Lib.hid (by
        obtain ⟨j, rfl⟩ : ∃ j, k = j + 1 := ⟨k - 1, by omega⟩
        simp only [maxTo, Nat.add_sub_cancel] at hm ⊢
        rw [hm])
      clear hm
      by_cases h2 : m < f k
      · have e2 : decide (m < f k) = true := by simpa using h2
        have HQ2 : Hid (f k = maxTo f k) := Lib.hid (by have := HQ.out; rw [if_pos h2] at this; exact this)
        go_wp2
        go_roundw
        case rel => exact ⟨k + 1, by omega, by omega, by go_num, by rw [Nat.add_sub_cancel, ← HQ2.out]; first | done | rfl | (simp; omega), by first | rfl | trivial⟩
        case measure => simp [intOf]; omega
      · have e2 : decide (m < f k) = false := by simpa using h2
        have HQ2 : Hid (m = maxTo f k) := Lib.hid (by have := HQ.out; rw [if_neg h2] at this; exact this)
        go_wp2
        go_roundw
        case rel => exact ⟨k + 1, by omega, by omega, by go_num, by rw [Nat.add_sub_cancel, ← HQ2.out]; first | done | rfl | (simp; omega), by first | rfl | trivial⟩
        case measure => simp [intOf]; omega
    · obtain rfl : k = n := by omega
      have e1 : decide ((k : Int) < (k : Int)) = false := by simp
      go_wp2
      go_ret
      exact ⟨rfl, rfl⟩
set_option maxHeartbeats 2000000 in
set_option maxRecDepth 100000 in
theorem findex_any (v : Value) (n : Nat) (f : Nat → Int) (x : Int) (p : Nat) (w : World) (hv : Ints w v n f) (hp : p < n) (hx : f p = x) (hf : ∀ i, i < p → f i ≠ x) (hn2 : n ≤ 1000) :
    Calls Tryz.prog 101 #[v, .int .i64 x] w fun e w' => e = .returned (.int .i64 (p : Nat)) ∧ w = w' := by
  obtain ⟨a, b, o, c, rfl, hs⟩ := hv
  have HS := Lib.hid hs
  have HX := Lib.hid hx
  have HF := Lib.hid hf
  clear hs hx hf
  go_enter Tryz.func101, Tryz.ntmps101
  go_wp2
  go_loopw [5, 8] (fun _ v8 wr => ∃ k : Nat, k ≤ p ∧ v8 = .int .i64 (k : Nat) ∧ w = wr) (fun _ v8 _ => n - (intOf v8).toNat)
  case atStart => exact ⟨0, by omega, rfl, rfl⟩
  case round =>
    obtain ⟨k, hk, rfl, rfl⟩ := hrel
    have h : k < n := by omega
    have e1 : decide ((k : Int) < (n : Int)) = true := by simpa using h
    have e1n : decide (k < n) = true := by simpa using h
    have hix := fun W => ixFl HS.out k c h W
    have hc := HS.out.cell k h
    simp only [ic] at hc
    by_cases hq : k = p
    · have e2 : (x == f k) = true := by rw [hq, HX.out]; simp
      subst hq
      go_wp2
      go_ret
      exact ⟨rfl, rfl⟩
    · have e2 : (x == f k) = false := by have := HF.out k (by omega); simp; exact fun e => this e.symm
      go_wp2
      go_roundw
      case rel => exact ⟨k + 1, by omega, by go_num, by first | rfl | trivial⟩
      case measure => simp [intOf]; omega
end Go.Proofs.YtolkchkedieppaaGreat

/- Euclid of package hide, and the reference's. -/
namespace Go.Proofs.YtolkchkedieppaaGreat
open Go.RowKit
attribute [local go_sem ↓] Go.wp_at_zero Go.wp_at_succ
def eF (l : List Nat) (i : Nat) : Int := ((l.getD i 0 : Nat) : Int)
end Go.Proofs.YtolkchkedieppaaGreat

/- Lay of package hide. -/
namespace Go.Proofs.YtolkchkedieppaaGreat
open Go.RowKit
attribute [local go_sem ↓] Go.wp_at_zero Go.wp_at_succ
set_option maxHeartbeats 2000000 in
set_option maxRecDepth 100000 in
theorem fnext_any (v : Value) (n : Nat) (f : Nat → Int) (w : World) (hv : Ints w v n f) (hn : 1 ≤ n) (hn2 : n ≤ 1000) :
    Calls Tryz.prog 49 #[v] w fun e w' => ∃ r : Nat, RunP n f (minAt f (n - 1)) r ∧ e = .returned (.tuple #[.int .i64 (minAt f (n - 1) : Nat), .int .i64 (r : Nat)]) ∧ Drawn w w' := by
  have HI := Lib.hid hv
  obtain ⟨a, b, o, c, rfl, hs⟩ := hv
  have HS := Lib.hid hs
  obtain ⟨p, hp⟩ : ∃ p, p = minAt f (n - 1) := ⟨_, rfl⟩
  have hpn : p < n := by have := minAt_le f (n - 1); omega
  have HF : Hid (∀ i, i < p → f i ≠ f p) := Lib.hid (fun i hi e => by rw [hp] at hi e; have := minAt_first f (n - 1) i hi; omega)
  rw [← hp]
  have HM := Lib.hid (fmin_any _ n f w HI.out hn hn2)
  rw [← hp] at HM
  clear hs hp
  go_enter Tryz.func49, Tryz.ntmps49
  go_wp2_with (first
    | (go_at_call 51; (with_reducible refine (HM.out).mono ?_); rintro e w1 ⟨rfl, rfl⟩)
    | (go_at_call 101; (with_reducible refine (findex_any _ n f (f p) p _ HI.out hpn rfl HF.out hn2).mono ?_); rintro e w1 ⟨rfl, rfl⟩))
  go_loopw [5] (fun v5 wr => ∃ r : Nat, 1 ≤ r ∧ p + r ≤ n ∧ v5 = .int .i64 (r : Nat) ∧ Hid (∀ i, i < r → f (p + i) = f p) ∧ Hid (Drawn w wr)) (fun v5 _ => n - (intOf v5).toNat)
  case atStart => exact ⟨1, by omega, by omega, rfl, Lib.hid (fun i hi => by obtain rfl : i = 0 := by omega
                                                                             rfl), Lib.hid (Drawn.refl _)⟩
  case round =>
    obtain ⟨r, hr1, hr, rfl, HR, hd⟩ := hrel
    have hw : IntKind.i64.wrap ((p : Int) + (r : Int)) = ((p + r : Nat) : Int) := by rw [IntKind.wrap_i64]; omega
    by_cases h : p + r < n
    · have e1 : decide (((p + r : Nat) : Int) < (n : Int)) = true := by simp; omega
      have e1n : decide (p + r < n) = true := by simpa using h
      have e1m : decide ((p : Int) + (r : Int) < (n : Int)) = true := by simp; omega
      have ix1 := fun W => ixFl HS.out (p + r) c h W
      have ix2 := fun W => ixFl HS.out p c hpn W
      have c1 := (HS.out.drawn hd.out).cell (p + r) h
      have c2 := (HS.out.drawn hd.out).cell p hpn
      simp only [ic] at c1 c2
      obtain ⟨t, ht⟩ : ∃ t, t = p + r := ⟨_, rfl⟩
      rw [← ht] at hw e1 e1n ix1 c1
      have HT := Lib.hid ht
      clear ht
      by_cases h2 : f t = f p
      · have e2 : (f t == f p) = true := by simpa using h2
        have H2 := Lib.hid h2
        clear h2
        go_wp2
        go_quiet (fail)
        go_wp2
        go_roundw
        case rel => exact ⟨r + 1, by omega, by omega, by go_num, Lib.hid (fun i hi => by
          by_cases q : i = r
          · rw [q, ← HT.out]; exact H2.out
          · exact HR.out i (by omega)), Lib.hid (hd.out.trans (Drawn.of _ _))⟩
        case measure => simp [intOf]; omega
      · have e2 : (f t == f p) = false := by simpa using h2
        have H2 := Lib.hid h2
        clear h2
        go_wp2
        go_quiet (fail)
        go_wp2
        go_ret2
        exact ⟨r, ⟨hr1, hr, HR.out, .inr (by rw [← HT.out]; exact H2.out)⟩, rfl, hd.out.trans (Drawn.of _ _)⟩
    · have e1 : decide (((p + r : Nat) : Int) < (n : Int)) = false := by simp; omega
      have e1n : decide (p + r < n) = false := by simpa using h
      have e1m : decide ((p : Int) + (r : Int) < (n : Int)) = false := by simp; omega
      obtain ⟨t, ht⟩ : ∃ t, t = p + r := ⟨_, rfl⟩
      rw [← ht] at hw e1 e1n
      have hpe : p + r = n := by omega
      have HPE := Lib.hid hpe
      clear ht hpe
      go_wp2
      go_quiet (fail)
      go_wp2
      go_ret2
      exact ⟨r, ⟨hr1, hr, HR.out, .inl HPE.out⟩, rfl, hd.out.trans (Drawn.of _ _)⟩
theorem gset1 (w : World) (b o : Nat) (u : Value) : w.grownBy (w.setCell ⟨b, o, none⟩ u) (some b) := ⟨rfl, rfl, rfl, by simp [World.setCell], fun k _ hk => Below.heap_setCell _ _ _ _ (fun e => hk (by rw [e]))⟩
/-- places at .. k - 1 raised by z -/
def raiseF (F : Nat → Int) (at_ k : Nat) (z : Int) : Nat → Int := fun i => if at_ ≤ i ∧ i < k then F i + z else F i
set_option maxHeartbeats 2000000 in
set_option maxRecDepth 100000 in
theorem fput_any (g W m a : Nat) (z : Int) (F : Nat → Int) (w : World) (hrow : w.rowIs g 3 W (ic F)) (ha : a + m ≤ W) (hW : W ≤ 1000) (hF : ∀ i, i < W → -1000 ≤ F i ∧ F i ≤ 1000) (hz : -1000 ≤ z ∧ z ≤ 1000) :
    Calls Tryz.prog 50 #[.slice (some ⟨g, 0, none⟩) W W, .int .i64 (a : Nat), .int .i64 (m : Nat), .int .i64 z] w fun e w' => e = .returned (.tuple #[]) ∧ w'.rowIs g 3 W (ic (raiseF F a (a + m) z)) ∧ w.grownBy w' (some g) := by
  have R0 : Hid (w.rowIs g 3 W (ic (raiseF F a a z))) := Lib.hid (hrow.congr (fun i hi => by simp only [ic, raiseF]; rw [if_neg (by omega)]))
  have G0 : Hid (w.grownBy w (some g)) := Lib.hid ⟨rfl, rfl, rfl, Nat.le_refl _, fun _ _ _ => rfl⟩
  have HF := Lib.hid hF
  have hw : IntKind.i64.wrap ((a : Int) + (m : Int)) = ((a + m : Nat) : Int) := by rw [IntKind.wrap_i64]; omega
  obtain ⟨T, hT⟩ : ∃ T, T = a + m := ⟨_, rfl⟩
  rw [← hT] at hw ⊢
  clear hrow hF
  go_enter Tryz.func50, Tryz.ntmps50
  go_wp2
  go_loopw [8] (fun v8 wr => ∃ k : Nat, a ≤ k ∧ k ≤ T ∧ v8 = .int .i64 (k : Nat) ∧ Hid (wr.rowIs g 3 W (ic (raiseF F a k z))) ∧ Hid (w.grownBy wr (some g))) (fun v8 _ => T - (intOf v8).toNat)
  case atStart => exact ⟨a, by omega, by omega, rfl, R0, G0⟩
  case round =>
    clear R0 G0
    obtain ⟨k, hk1, hk, rfl, R, G⟩ := hrel
    by_cases h : k < T
    · have e1 : decide ((k : Int) < (T : Int)) = true := by simpa using h
      have e1n : decide (k < T) = true := by simpa using h
      have hkW : k < W := by omega
      have g0 : (0 : Int) ≤ (k : Int) := Int.natCast_nonneg k
      have g1 : (k : Int) < (W : Int) := by omega
      have hix := fun W' => ixFl (rowIs_sl R.out) k W hkW W'
      have cb := R.out.cell (i := k) hkW
      have fb := R.out.frozen k
      have hr := HF.out k hkW
      simp only [ic, raiseF, Nat.zero_add] at cb hix
      rw [if_neg (by omega)] at cb
      have hw2 : IntKind.i64.wrap (F k + z) = F k + z := by rw [IntKind.wrap_i64]; omega
      have R2 : Hid ((wr.setCell ⟨g, k, none⟩ (.int .i64 (F k + z))).rowIs g 3 W (ic (raiseF F a (k + 1) z))) := Lib.hid ((R.out.set k _).congr (fun i hi => by
        simp only [ic, raiseF]
        by_cases q : i = k
        · subst q; simp [show i < i + 1 by omega, hk1]
        · simp only [q, if_false]
          by_cases q2 : a ≤ i ∧ i < k
          · rw [if_pos q2, if_pos (by omega)]
          · rw [if_neg q2, if_neg (by omega)]))
      have G2 := Lib.hid (G.out.trans (gset1 wr g k (.int .i64 (F k + z))))
      go_wp2
      go_roundw
      case rel => exact ⟨k + 1, by omega, by omega, by go_num, R2, G2⟩
      case measure => simp [intOf]; omega
    · obtain rfl : k = T := by omega
      have e1 : decide ((k : Int) < (k : Int)) = false := by simp
      go_wp2
      go_end0
      exact ⟨rfl, R.out, G.out⟩
theorem lay_yes (x : Int) (w : World) (h : x < 1 ∨ 1000 < x) : Calls Tryz.prog 47 #[.int .i64 x] w fun e w' => e = .returned (.bool true) ∧ w = w' := by
  by_cases h1 : x < 1
  · have d1 : decide (x < 1) = true := by simpa using h1
    go_enter Tryz.func47, Tryz.ntmps47
    go_wp2
    go_ret
    exact ⟨rfl, rfl⟩
  · have d1 : decide (x < 1) = false := by simpa using h1
    have d2 : decide (1000 < x) = true := by simp; omega
    go_enter Tryz.func47, Tryz.ntmps47
    go_wp2
    go_ret
    exact ⟨rfl, rfl⟩
theorem lay_not (x : Int) (w : World) (h : ¬ (x < 1 ∨ 1000 < x)) : Calls Tryz.prog 47 #[.int .i64 x] w fun e w' => e = .returned (.bool false) ∧ w = w' := by
  have d1 : decide (x < 1) = false := by simp; omega
  have d2 : decide (1000 < x) = false := by simp; omega
  clear h
  go_enter Tryz.func47, Tryz.ntmps47
  go_wp2
  go_ret
  exact ⟨rfl, rfl⟩
theorem ext_lt2 {n k : Nat} {P : Nat → Prop} (h : ∀ i, i < k → P i) (hk : P k) : ∀ i, i < k + 1 → P i := fun i hi => by
  by_cases e : i = k
  · rw [e]; exact hk
  · exact h i (by omega)
theorem lay_hit (v : Value) (n : Nat) (f : Nat → Int) (w : World) (hv : Ints w v n f) (hn : n ≤ 1048576) (hit : ∃ i, i < n ∧ (f i < 1 ∨ 1000 < f i)) :
    Calls Tryz.prog 100 #[v, .func (.func 47) #[] #[]] w fun e w' => ∃ z : Nat, e = .returned (.int .i64 (z : Nat)) ∧ Drawn w w' := by
  obtain ⟨a, b, o, c, rfl, hs⟩ := hv
  have HH := Lib.hid hit
  clear hit
  go_enter Tryz.func100, Tryz.ntmps100
  go_wp2
  go_loopw [5, 8] (fun _ i wr => ∃ k : Nat, k ≤ n ∧ i = .int .i64 (k : Nat) ∧ Hid (∀ i, i < k → ¬ (f i < 1 ∨ 1000 < f i)) ∧ Hid (Drawn w wr)) (fun _ i _ => n - (intOf i).toNat)
  case atStart => exact ⟨0, by omega, rfl, Lib.hid (fun i hi => by omega), Lib.hid (Drawn.refl _)⟩
  case round =>
    obtain ⟨k, hk, rfl, HG, hd⟩ := hrel
    by_cases h : k < n
    · have hix := fun W => ixI hs k c h W
      have hc := (hs.drawn hd.out).cell k h
      simp only [ic] at hc
      by_cases hb : (f k < 1 ∨ 1000 < f k)
      · have HB := Lib.hid hb
        clear hb
        go_wp2_with (go_at_call 47; (with_reducible refine (lay_yes _ _ HB.out).mono ?_); rintro e w' ⟨rfl, rfl⟩)
        go_ret
        exact ⟨k, rfl, hd.out⟩
      · have HB := Lib.hid hb
        clear hb
        go_wp2_with (go_at_call 47; (with_reducible refine (lay_not _ _ HB.out).mono ?_); rintro e w' ⟨rfl, rfl⟩)
        go_roundw
        case rel => exact ⟨k + 1, by omega, by go_num, Lib.hid (ext_lt2 (n := n) HG.out HB.out), hd⟩
        case measure => simp [intOf]; omega
    · exfalso
      obtain ⟨i, hi, hb⟩ := HH.out
      exact HG.out i (by omega) hb
theorem lay_miss (v : Value) (n : Nat) (f : Nat → Int) (w : World) (hv : Ints w v n f) (hn : n ≤ 1048576) (miss : ∀ i, i < n → ¬ (f i < 1 ∨ 1000 < f i)) :
    Calls Tryz.prog 100 #[v, .func (.func 47) #[] #[]] w fun e w' => e = .returned (.int .i64 (-1)) ∧ Drawn w w' := by
  obtain ⟨a, b, o, c, rfl, hs⟩ := hv
  have HH := Lib.hid miss
  clear miss
  go_enter Tryz.func100, Tryz.ntmps100
  go_wp2
  go_loopw [5, 8] (fun _ i wr => ∃ k : Nat, k ≤ n ∧ i = .int .i64 (k : Nat) ∧ Hid (Drawn w wr)) (fun _ i _ => n - (intOf i).toNat)
  case atStart => exact ⟨0, by omega, rfl, Lib.hid (Drawn.refl _)⟩
  case round =>
    obtain ⟨k, hk, rfl, hd⟩ := hrel
    by_cases h : k < n
    · have hix := fun W => ixI hs k c h W
      have hc := (hs.drawn hd.out).cell k h
      simp only [ic] at hc
      have HB := Lib.hid (HH.out k h)
      go_wp2_with (go_at_call 47; (with_reducible refine (lay_not _ _ HB.out).mono ?_); rintro e w' ⟨rfl, rfl⟩)
      go_roundw
      case rel => exact ⟨k + 1, by omega, by go_num, hd⟩
      case measure => simp [intOf]; omega
    · go_wp2
      go_ret
      exact ⟨rfl, hd.out⟩
theorem lay_cont (v : Value) (n : Nat) (f : Nat → Int) (r : Bool) (hr : r = true ↔ ∃ i, i < n ∧ (f i < 1 ∨ 1000 < f i)) (w : World) (hv : Ints w v n f) (hn : n ≤ 1048576) :
    Calls Tryz.prog 48 #[v, .func (.func 47) #[] #[]] w fun e w' => e = .returned (.bool r) ∧ Drawn w w' := by
  have HV := Lib.hid hv
  obtain ⟨a, b, o, c, rfl, hs⟩ := hv
  clear hs
  cases r with
  | true =>
    have HH := Lib.hid (hr.1 rfl)
    clear hr
    go_enter Tryz.func48, Tryz.ntmps48
    go_wp2_with (go_at_call 100; (with_reducible refine (lay_hit _ n f _ HV.out hn HH.out).mono ?_); rintro e w' ⟨z, rfl, hd⟩; have hz : decide ((0 : Int) ≤ (z : Int)) = true := (by simp))
    go_ret
    exact ⟨rfl, hd⟩
  | false =>
    have HH := Lib.hid (show ∀ i, i < n → ¬ (f i < 1 ∨ 1000 < f i) from fun i hi hb => by have := hr.2 ⟨i, hi, hb⟩; cases this)
    clear hr
    go_enter Tryz.func48, Tryz.ntmps48
    go_wp2_with (go_at_call 100; (with_reducible refine (lay_miss _ n f _ HV.out hn HH.out).mono ?_); rintro e w' ⟨rfl, hd⟩)
    go_ret
    exact ⟨rfl, hd⟩
end Go.Proofs.YtolkchkedieppaaGreat
