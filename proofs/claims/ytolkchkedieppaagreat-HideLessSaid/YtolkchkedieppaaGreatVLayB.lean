/- slices.Clone of integers. -/
import Derived.Test.YtolkchkedieppaaGreatVOwnI
import Derived.Lib.SliceRun
import Derived.Test.YtolkchkedieppaaGreatVPlainLy
import Derived.Deep.DrawnRows
import Derived.Deep.QuietTactic
import Derived.BigQuiet
import Derived.Maps.AppendAt
import Derived.Deep.AppendLies
set_option linter.unusedVariables false
set_option linter.unusedSimpArgs false
namespace Go.Proofs.YtolkchkedieppaaGreat
open Go.RowKit
attribute [local go_sem ↓] Go.wp_at_zero Go.wp_at_succ
set_option maxHeartbeats 1000000 in
set_option maxRecDepth 100000 in
theorem clone_any (v : Value) (n : Nat) (f : Nat → Int) (w : World) (hv : Ints w v n f) (h1 : 1 ≤ n) (hn : n ≤ 1000) :
    Calls Tryz.prog 95 #[v] w fun e w' => ∃ g c, e = .returned (.slice (some ⟨g, 0, none⟩) n c) ∧ w'.ownsRow w.heap.size 3 1 (.slice (some ⟨g, 0, none⟩) n c) n (ics f n) ∧ Below w.heap.size w w' := by
  obtain ⟨a, b, o, c, rfl, hs⟩ := hv
  obtain ⟨i0, hinf, hz0, hz1, hz2⟩ := info_parts infoI
  obtain rfl := hs.at_ (by omega)
  have hnil : ∀ (W : World) (x : Option Addr) (n c : Nat), (binOp .eql 22 (.slice x n c) (.slice none 0 0)).run Tryz.prog W = .ok (.bool x.isNone) W := fun W x n c => Lib.run_eql_slice_nil W 22 3 x n c 0 0 Tryz.underlying22
  have KW := Lib.hid ((Below.refl w.heap.size w).alloc (Nat.le_refl _) (.cells #[] 3))
  have OW : Hid ((w.alloc (.cells #[] 3)).ownsRow w.heap.size 3 1 (.slice (some ⟨w.heap.size, 0, none⟩) 0 0) 0 []) := Lib.hid (World.ownsRow_made w #[] 0 (Nat.le_refl _) (by unfold maxLen; omega) rfl)
  have HS := Lib.hid (hs.alloc (.cells #[] 3))
  have HONE := Lib.hid (ics_one f n)
  have HLEN := Lib.hid (show (ics f n).length = n * 1 by rw [ics_length]; omega)
  have HNW := Lib.hid (news_of HS.out n (Nat.le_refl _))
  clear hs
  go_enter Tryz.func95, Tryz.ntmps95
  go_wp2_with (at_builtin; refine wpList_append_own _ rfl (.tmp 5) (.tmp 6) 22 rfl w.heap.size 3 i0 (.int .i64 0) 1 8 Tryz.underlying22 hinf hz0 hz1 hz2 rfl (by decide) (.slice (some ⟨w.heap.size, 0, none⟩) 0 0) 0 [] rfl OW.out ⟨b, o, none⟩ n c (ics f n) rfl HLEN.out HNW.out HONE.out (by unfold maxLen; omega) (by omega) (by simp) ?_; intro v' w3 hown hgrow _; have KW := Lib.hid (KW.out.grown hgrow (by simp) (fun kk e => by cases e; exact Nat.le_refl _)); have HOWN := Lib.hid hown; clear hown hgrow)
  go_ret
  have hown := HOWN.out
  rw [Nat.zero_add, List.nil_append] at hown
  obtain ⟨g, cap, rfl, _, _⟩ := hown.form (by omega)
  exact ⟨g, cap, rfl, hown, KW.out⟩
set_option maxHeartbeats 1000000 in
set_option maxRecDepth 100000 in
theorem clone_nil (w : World) :
    Calls Tryz.prog 95 #[.slice none 0 0] w fun e w' => e = .returned (.slice none 0 0) ∧ Below w.heap.size w w' := by
  have hnil : ∀ (W : World) (x : Option Addr) (n c : Nat), (binOp .eql 22 (.slice x n c) (.slice none 0 0)).run Tryz.prog W = .ok (.bool x.isNone) W := fun W x n c => Lib.run_eql_slice_nil W 22 3 x n c 0 0 Tryz.underlying22
  go_enter Tryz.func95, Tryz.ntmps95
  go_wp2
  go_ret
  exact ⟨rfl, Below.refl _ _⟩
/-- a list of numbers, as read, away from block g -/
structure CodeV (w : World) (g : Nat) (v : Value) (C : List Nat) : Prop where
  sh : (C = [] ∧ v = .slice none 0 0) ∨ (C ≠ [] ∧ ∃ b c, v = .slice (some ⟨b, 0, none⟩) C.length c ∧ C.length ≤ c ∧ b ≠ g ∧ b < w.heap.size ∧ ∀ i, i < C.length → w.cell? ⟨b, i, none⟩ = some (.int .i64 ((C.getD i 0 : Nat) : Int)))
theorem CodeV.ints {w : World} {g : Nat} {v : Value} {C : List Nat} (h : CodeV w g v C) : Ints w v C.length (lsF C) := by
  rcases h.sh with ⟨rfl, rfl⟩ | ⟨hne, b, c, rfl, hc, _, hl, hx⟩
  · exact ⟨none, 0, 0, 0, rfl, ⟨Nat.le_refl _, fun e => by simp at e, fun e => by simp at e, fun i hi => by simp at hi, fun _ => rfl⟩⟩
  · exact ⟨_, b, 0, c, rfl, ⟨hc, fun _ => rfl, fun _ => hl, fun i hi => by rw [Nat.zero_add]; exact hx i hi, fun e => by cases e⟩⟩
theorem CodeV.grown {w w' : World} {g : Nat} {v : Value} {C : List Nat} (h : CodeV w g v C) (hg : w.grownBy w' (some g)) : CodeV w' g v C := by
  refine ⟨h.sh.imp id (fun ⟨hne, b, c, e, hc, hb, hl, hx⟩ => ⟨hne, b, c, e, hc, hb, Nat.lt_of_lt_of_le hl hg.size, fun i hi => ?_⟩)⟩
  exact (World.cell?_of_block (a := ⟨b, i, none⟩) (hg.block b hl (fun e => hb (Option.some.inj e)))).trans (hx i hi)
theorem CodeV.below {w w' : World} {g : Nat} {v : Value} {C : List Nat} (h : CodeV w g v C) (hb' : Below w.heap.size w w') : CodeV w' g v C := by
  refine ⟨h.sh.imp id (fun ⟨hne, b, c, e, hc, hb, hl, hx⟩ => ⟨hne, b, c, e, hc, hb, Nat.lt_of_lt_of_le hl hb'.size, fun i hi => ?_⟩)⟩
  exact (hb'.cell (p := ⟨b, i, none⟩) hl).trans (hx i hi)
theorem CodeV.own {w : World} {g base : Nat} {v : Value} {C : List Nat} (h : w.ownsRow base 3 1 v C.length (intC C)) (h0 : C ≠ []) (hg : g < base) : CodeV w g v C := by
  have hp : 0 < C.length := List.length_pos_iff.2 h0
  obtain ⟨b, c, rfl, hb, hl⟩ := h.form hp
  have hcap := own_cap h
  obtain ⟨a9, b9, o9, c9, hv9, s9⟩ := list_ints h
  injection hv9 with u1 u2 u3
  have e9 := s9.at_ hp
  rw [← u1] at e9
  injection e9 with e9
  injection e9 with e91 e92
  subst e91 e92
  refine ⟨.inr ⟨h0, b, c, rfl, hcap, by omega, s9.lt hp, fun i hi => ?_⟩⟩
  have := s9.cell i hi
  rw [Nat.zero_add] at this
  exact this
theorem clone_code {g : Nat} (v : Value) (C : List Nat) (w : World) (hv : CodeV w g v C) (hn : C.length ≤ 1000) :
    Calls Tryz.prog 95 #[v] w fun e w' => ∃ va vk, e = .returned (.slice va C.length vk) ∧ w'.ownsRow w.heap.size 3 1 (.slice va C.length vk) C.length (intC C) ∧ Below w.heap.size w w' := by
  by_cases h0 : C = []
  · rcases hv.sh with ⟨_, rfl⟩ | ⟨hne, _⟩
    · subst h0
      refine (clone_nil w).mono ?_
      rintro e w' ⟨rfl, hb⟩
      exact ⟨none, 0, rfl, World.ownsRow_nil _ _ _ _, hb⟩
    · exact absurd h0 hne
  · refine (clone_any v C.length (lsF C) w hv.ints (List.length_pos_iff.2 h0) hn).mono ?_
    rintro e w' ⟨b, c, rfl, ho, hb⟩
    exact ⟨_, c, rfl, by rw [intC_ics]; exact ho, hb⟩
end Go.Proofs.YtolkchkedieppaaGreat

/- The floor of package hide: least and greatest place, put. -/
namespace Go.Proofs.YtolkchkedieppaaGreat
open Go.RowKit
attribute [local go_sem ↓] Go.wp_at_zero Go.wp_at_succ
theorem flr_s : Tryz.prog.underlying 84 = some (.slice (Tryz.prog.elem 84)) := by kernel_rfl
theorem flr_z (W : World) : (sizeOf (Tryz.prog.elem 84)).run Tryz.prog W = .ok 1 W := by kernel_rfl
theorem ixFl {w : World} {a : Option Addr} {b o c n : Nat} {g : Nat → Value} (h : IsSl w a b o c n g) (i d : Nat) (hi : i < n) (W : World) :
    (Instr.indexAt 84 (.slice a n d) (.int .i64 (i : Int))).run Tryz.prog W = .ok (.pointer (some ⟨b, o + i, none⟩)) W :=
  run_indexAt_opt 84 flr_s flr_z a b o n d (fun q => h.at_ q) .i64 i (by omega) (by omega) W
theorem ixF0 {w : World} {a : Option Addr} {b o c n : Nat} {g : Nat → Value} (h : IsSl w a b o c n g) (d : Nat) (hi : 0 < n) (W : World) :
    (Instr.indexAt 84 (.slice a n d) (.int .i64 0)).run Tryz.prog W = .ok (.pointer (some ⟨b, o + 0, none⟩)) W := ixFl h 0 d hi W
set_option maxHeartbeats 2000000 in
set_option maxRecDepth 100000 in
theorem fmin_any (v : Value) (n : Nat) (f : Nat → Int) (w : World) (hv : Ints w v n f) (hn : 1 ≤ n) (hn2 : n ≤ 1000) :
    Calls Tryz.prog 51 #[v] w fun e w' => e = .returned (.int .i64 (f (minAt f (n - 1)))) ∧ w = w' := by
  obtain ⟨a, b, o, c, rfl, hs⟩ := hv
  have HS := Lib.hid hs
  have d0 : decide ((n : Int) < 1) = false := by simp; omega
  have d0n : decide (n < 1) = false := by simp; omega
  have hix0 := fun W => ixF0 hs c hn W
  have hc0 := hs.cell 0 hn
  simp only [ic, Nat.add_zero] at hix0 hc0
  clear hs
  go_enter Tryz.func51, Tryz.ntmps51
  go_wp2
  go_loopw [3, 4] (fun v3 v4 wr => ∃ k : Nat, 1 ≤ k ∧ k ≤ n ∧ v4 = .int .i64 (k : Nat) ∧ v3 = .int .i64 (f (minAt f (k - 1))) ∧ w = wr) (fun _ v4 _ => n - (intOf v4).toNat)
  case atStart => exact ⟨1, by omega, by omega, rfl, rfl, rfl⟩
  case round =>
    clear hix0 hc0
    obtain ⟨k, hk1, hk, rfl, rfl, rfl⟩ := hrel
    by_cases h : k < n
    · have e1 : decide ((k : Int) < (n : Int)) = true := by simpa using h
      have e1n : decide (k < n) = true := by simpa using h
      have hix := fun W => ixFl HS.out k c h W
      have hc := HS.out.cell k h
      simp only [ic] at hc
      obtain ⟨m, hm⟩ : ∃ m, m = f (minAt f (k - 1)) := ⟨_, rfl⟩
      rw [← hm]
      have HQ : Hid ((if f k < m then f k else m) = f (minAt f k)) := Lib.hid (by
        obtain ⟨j, rfl⟩ : ∃ j, k = j + 1 := ⟨k - 1, by omega⟩
        simp only [minAt, Nat.add_sub_cancel] at hm ⊢
        rw [hm]
        split <;> rfl)
      clear hm
      by_cases h2 : f k < m
      · have e2 : decide (f k < m) = true := by simpa using h2
        have HQ2 : Hid (f k = f (minAt f k)) := Lib.hid (by have := HQ.out; rw [if_pos h2] at this; exact this)
        go_wp2
        go_roundw
        case rel => exact ⟨k + 1, by omega, by omega, by go_num, by rw [Nat.add_sub_cancel, ← HQ2.out]; first | done | rfl | (simp; omega), by first | rfl | trivial⟩
        case measure => simp [intOf]; omega
      · have e2 : decide (f k < m) = false := by simpa using h2
        have HQ2 : Hid (m = f (minAt f k)) := Lib.hid (by have := HQ.out; rw [if_neg h2] at this; exact this)
        go_wp2
        go_roundw
        case rel => exact ⟨k + 1, by omega, by omega, by go_num, by rw [Nat.add_sub_cancel, ← HQ2.out]; first | done | rfl | (simp; omega), by first | rfl | trivial⟩
        case measure => simp [intOf]; omega
    · obtain rfl : k = n := by omega
      have e1 : decide ((k : Int) < (k : Int)) = false := by simp
      go_wp2
      go_ret
      exact ⟨rfl, rfl⟩
/-- the greatest of the first k + 1 -/
def maxTo (F : Nat → Int) : Nat → Int
  | 0 => F 0
  | k + 1 => if maxTo F k < F (k + 1) then F (k + 1) else maxTo F k
theorem maxTo_ge (F : Nat → Int) : ∀ k i, i ≤ k → F i ≤ maxTo F k
  | 0, i, h => by obtain rfl : i = 0 := by omega
                  exact Int.le_refl _
  | k + 1, i, h => by
    simp only [maxTo]
    by_cases e : i = k + 1
    · subst e; split <;> omega
    · have := maxTo_ge F k i (by omega)
      split <;> omega
theorem maxTo_at (F : Nat → Int) : ∀ k, ∃ i, i ≤ k ∧ maxTo F k = F i
  | 0 => ⟨0, Nat.le_refl _, rfl⟩
  | k + 1 => by
    obtain ⟨i, h1, h2⟩ := maxTo_at F k
    simp only [maxTo]
    split
    · exact ⟨k + 1, Nat.le_refl _, rfl⟩
    · exact ⟨i, by omega, h2⟩
theorem lvl_iff {W : Nat} {F : Nat → Int} (h : 1 ≤ W) : F (minAt F (W - 1)) = maxTo F (W - 1) ↔ Lvl W F := by
  constructor
  · intro e i hi
    have h1 := minAt_min F (W - 1) i (by omega)
    have h2 := maxTo_ge F (W - 1) i (by omega)
    have h3 := minAt_min F (W - 1) 0 (by omega)
    have h4 := maxTo_ge F (W - 1) 0 (by omega)
    omega
  · intro q
    obtain ⟨i, h1, h2⟩ := maxTo_at F (W - 1)
    have := minAt_le F (W - 1)
    rw [h2, q i (by omega), q (minAt F (W - 1)) (by omega)]
set_option maxHeartbeats 2000000 in
set_option maxRecDepth 100000 in
theorem fmax_any (v : Value) (n : Nat) (f : Nat → Int) (w : World) (hv : Ints w v n f) (hn : 1 ≤ n) (hn2 : n ≤ 1000) :
    Calls Tryz.prog 52 #[v] w fun e w' => e = .returned (.int .i64 (maxTo f (n - 1))) ∧ w = w' := by
  obtain ⟨a, b, o, c, rfl, hs⟩ := hv
  have HS := Lib.hid hs
  have d0 : decide ((n : Int) < 1) = false := by simp; omega
  have d0n : decide (n < 1) = false := by simp; omega
  have hix0 := fun W => ixF0 hs c hn W
  have hc0 := hs.cell 0 hn
  simp only [ic, Nat.add_zero] at hix0 hc0
  clear hs
  go_enter Tryz.func52, Tryz.ntmps52
  go_wp2
  go_loopw [3, 4] (fun v3 v4 wr => ∃ k : Nat, 1 ≤ k ∧ k ≤ n ∧ v4 = .int .i64 (k : Nat) ∧ v3 = .int .i64 (maxTo f (k - 1)) ∧ w = wr) (fun _ v4 _ => n - (intOf v4).toNat)
  case atStart => exact ⟨1, by omega, by omega, rfl, rfl, rfl⟩
  case round =>
    clear hix0 hc0
    obtain ⟨k, hk1, hk, rfl, rfl, rfl⟩ := hrel
    by_cases h : k < n
    · have e1 : decide ((k : Int) < (n : Int)) = true := by simpa using h
      have e1n : decide (k < n) = true := by simpa using h
      have hix := fun W => ixFl HS.out k c h W
      have hc := HS.out.cell k h
      simp only [ic] at hc
      obtain ⟨m, hm⟩ : ∃ m, m = maxTo f (k - 1) := ⟨_, rfl⟩
      rw [← hm]
      have HQ : Hid ((if m < f k then f k else m) = maxTo f k) := Lib.hid (by
        obtain ⟨j, rfl⟩ : ∃ j, k = j + 1 := ⟨k - 1, by omega⟩
        simp only [maxTo, Nat.add_sub_cancel] at hm ⊢
        rw [hm])
      clear hm
      by_cases h2 : m < f k
      · have e2 : decide (m < f k) = true := by simpa using h2
        have HQ2 : Hid (f k = maxTo f k) := Lib.hid (by have := HQ.out; rw [if_pos h2] at this; exact this)
        go_wp2
        go_roundw
        case rel => exact ⟨k + 1, by omega, by omega, by go_num, by rw [Nat.add_sub_cancel, ← HQ2.out]; first | done | rfl | (simp; omega), by first | rfl | trivial⟩
        case measure => simp [intOf]; omega
      · have e2 : decide (m < f k) = false := by simpa using h2
        have HQ2 : Hid (m = maxTo f k) := Lib.hid (by have := HQ.out; rw [if_neg h2] at this; exact this)
        go_wp2
        go_roundw
        case rel => exact ⟨k + 1, by omega, by omega, by go_num, by rw [Nat.add_sub_cancel, ← HQ2.out]; first | done | rfl | (simp; omega), by first | rfl | trivial⟩
        case measure => simp [intOf]; omega
    · obtain rfl : k = n := by omega
      have e1 : decide ((k : Int) < (k : Int)) = false := by simp
      go_wp2
      go_ret
      exact ⟨rfl, rfl⟩
set_option maxHeartbeats 2000000 in
set_option maxRecDepth 100000 in
theorem findex_any (v : Value) (n : Nat) (f : Nat → Int) (x : Int) (p : Nat) (w : World) (hv : Ints w v n f) (hp : p < n) (hx : f p = x) (hf : ∀ i, i < p → f i ≠ x) (hn2 : n ≤ 1000) :
    Calls Tryz.prog 101 #[v, .int .i64 x] w fun e w' => e = .returned (.int .i64 (p : Nat)) ∧ w = w' := by
  obtain ⟨a, b, o, c, rfl, hs⟩ := hv
  have HS := Lib.hid hs
  have HX := Lib.hid hx
  have HF := Lib.hid hf
  clear hs hx hf
  go_enter Tryz.func101, Tryz.ntmps101
  go_wp2
  go_loopw [5, 8] (fun _ v8 wr => ∃ k : Nat, k ≤ p ∧ v8 = .int .i64 (k : Nat) ∧ w = wr) (fun _ v8 _ => n - (intOf v8).toNat)
  case atStart => exact ⟨0, by omega, rfl, rfl⟩
  case round =>
    obtain ⟨k, hk, rfl, rfl⟩ := hrel
    have h : k < n := by omega
    have e1 : decide ((k : Int) < (n : Int)) = true := by simpa using h
    have e1n : decide (k < n) = true := by simpa using h
    have hix := fun W => ixFl HS.out k c h W
    have hc := HS.out.cell k h
    simp only [ic] at hc
    by_cases hq : k = p
    · have e2 : (x == f k) = true := by rw [hq, HX.out]; simp
      subst hq
      go_wp2
      go_ret
      exact ⟨rfl, rfl⟩
    · have e2 : (x == f k) = false := by have := HF.out k (by omega); simp; exact fun e => this e.symm
      go_wp2
      go_roundw
      case rel => exact ⟨k + 1, by omega, by go_num, by first | rfl | trivial⟩
      case measure => simp [intOf]; omega
end Go.Proofs.YtolkchkedieppaaGreat

/- Euclid of package hide, and the reference's. -/
namespace Go.Proofs.YtolkchkedieppaaGreat
open Go.RowKit
attribute [local go_sem ↓] Go.wp_at_zero Go.wp_at_succ
/-- numbers as cells, and as read -/
def intL (l : List Nat) : List Value := l.map (fun t => .int .i64 (t : Nat))
def eF (l : List Nat) (i : Nat) : Int := ((l.getD i 0 : Nat) : Int)
theorem intL_ics (L : List Nat) : intL L = ics (eF L) L.length := by
  apply List.ext_getElem?
  intro i
  by_cases h : i < L.length
  · rw [ics_get _ _ _ h]; simp [intL, h, ic, eF]
  · rw [List.getElem?_eq_none_iff.2 (by simp [intL]; omega), List.getElem?_eq_none_iff.2 (by rw [ics_length]; omega)]
theorem intL_app (l : List Nat) (x : Nat) : intL l ++ [.int .i64 (x : Nat)] = intL (l ++ [x]) := by simp [intL]
theorem ints_intL {w : World} {B : Nat} {v : Value} {L : List Nat} (h : w.ownsRow B 3 1 v L.length (intL L)) : Ints w v L.length (eF L) := by
  rw [intL_ics] at h; exact ints_of_own h
def eucF : Nat → Nat → Nat → List Nat
  | 0, _, _ => []
  | u + 1, a, b => if b = 0 then [] else b :: eucF u (max (a - b) b) (min (a - b) b)
def euc (a b : Nat) : List Nat := eucF (a + b) a b
theorem eucF_same : ∀ u v a b, b ≤ a → a + b ≤ u → a + b ≤ v → eucF u a b = eucF v a b
  | 0, v, a, b, _, h, _ => by
    obtain rfl : b = 0 := by omega
    cases v <;> simp [eucF]
  | u + 1, 0, a, b, _, _, h => by
    obtain rfl : b = 0 := by omega
    simp [eucF]
  | u + 1, v + 1, a, b, hab, h1, h2 => by
    simp only [eucF]
    by_cases e : b = 0
    · rw [if_pos e, if_pos e]
    · rw [if_neg e, if_neg e, eucF_same u v _ _ (by omega) (by omega) (by omega)]
theorem euc_zero (a : Nat) : euc a 0 = [] := by
  unfold euc
  cases a <;> simp [eucF]
theorem euc_pos {a b : Nat} (h : b ≤ a) (h0 : 0 < b) : euc a b = b :: euc (max (a - b) b) (min (a - b) b) := by
  unfold euc
  obtain ⟨u, hu⟩ : ∃ u, a + b = u + 1 := ⟨a + b - 1, by omega⟩
  rw [hu]
  simp only [eucF]
  rw [if_neg (by omega), eucF_same u _ _ _ (by omega) (by omega) (Nat.le_refl _)]
theorem euc_len : ∀ u a b, b ≤ a → a + b ≤ u → (euc a b).length ≤ u
  | 0, a, b, hab, h => by
    obtain rfl : b = 0 := by omega
    rw [euc_zero]; simp
  | u + 1, a, b, hab, h => by
    by_cases e : b = 0
    · subst e; rw [euc_zero]; simp
    · rw [euc_pos hab (by omega)]
      have := euc_len u (max (a - b) b) (min (a - b) b) (by omega) (by omega)
      simp only [List.length_cons]; omega
set_option maxHeartbeats 2000000 in
set_option maxRecDepth 100000 in
theorem euclid_core (x y : Int) (a0 b0 : Nat) (w : World) (hm1 : (if y < x then y else x) = (b0 : Int)) (hm2 : (if x < y then y else x) = (a0 : Int)) (hab0 : b0 ≤ a0) (hb1 : 1 ≤ b0) (ha1000 : a0 ≤ 1000) (L : List Nat) (hL : L = euc a0 b0) :
    Calls Tryz.prog 38 #[.int .i64 x, .int .i64 y] w fun e w' =>
      ((L.length ≤ 24 ∧ ∃ va vk, e = .returned (.tuple #[.slice va L.length vk, .int .i64 0]) ∧ Ints w' (.slice va L.length vk) L.length (eF L)) ∨
        (24 < L.length ∧ e = .returned (.tuple #[.slice none 0 0, .int .i64 3]))) ∧ Below w.heap.size w w' := by
  obtain ⟨i0, hinf, hz0, hz1, hz2⟩ := info_parts infoI
  have d1 : decide ((b0 : Int) < 1) = false := by simp; omega
  have d1n : decide (b0 < 1) = false := by simp; omega
  have d2 : decide ((1000 : Int) < (a0 : Int)) = false := by simp; omega
  have d2n : decide (1000 < a0) = false := by simp; omega
  have KW0 := Lib.hid (Below.refl w.heap.size w)
  have HL0 : Hid (([] : List Nat) ++ euc a0 b0 = L) := Lib.hid (by rw [hL]; rfl)
  clear hL hb1
  go_enter Tryz.func38, Tryz.ntmps38
  go_wp2
  go_loopw [6, 7, 8] (fun v6 v7 v8 wr => ∃ (out : List Nat) (a b : Nat), b ≤ a ∧ a ≤ 1000 ∧ v7 = .int .i64 (a : Nat) ∧ v8 = .int .i64 (b : Nat) ∧ out.length ≤ 24 ∧ ∃ va vk, v6 = .slice va out.length vk ∧ Hid (out ++ euc a b = L) ∧ Hid (wr.ownsRow w.heap.size 3 1 (.slice va out.length vk) out.length (intL out)) ∧ Hid (Below w.heap.size w wr)) (fun _ v7 v8 _ => (intOf v7).toNat + (intOf v8).toNat)
  case atStart => exact ⟨[], a0, b0, hab0, ha1000, rfl, rfl, by simp, none, 0, rfl, HL0, Lib.hid (World.ownsRow_nil _ _ _ _), KW0⟩
  case round =>
    clear KW0 HL0 hm1 hm2 d1 d1n d2 d2n hab0 ha1000
    obtain ⟨out, a, b, hab, ha, rfl, rfl, hol, va, vk, rfl, HLL, OW, KW⟩ := hrel
    by_cases h : 0 < b
    · have e1 : decide ((0 : Int) < (b : Int)) = true := by simpa using h
      have e1n : decide (0 < b) = true := by simpa using h
      by_cases h24 : out.length = 24
      · have e2 : (((out.length : Nat) : Int) == 24) = true := by rw [h24]; rfl
        have e2n : (out.length == 24) = true := by rw [h24]; rfl
        have HQ : Hid (24 < L.length) := Lib.hid (by rw [← HLL.out, euc_pos hab h]; simp; omega)
        clear h24
        go_wp2
        go_ret2
        exact ⟨.inr ⟨HQ.out, rfl⟩, KW.out⟩
      · have e2 : (((out.length : Nat) : Int) == 24) = false := by simp; omega
        have e2n : (out.length == 24) = false := by simpa using h24
        have HL2 : Hid ((out ++ [b]) ++ euc (max (a - b) b) (min (a - b) b) = L) := Lib.hid (by rw [← HLL.out, euc_pos hab h]; simp)
        have hw1 : IntKind.i64.wrap ((a : Int) - (b : Int)) = ((a - b : Nat) : Int) := by rw [IntKind.wrap_i64]; omega
        have hm3 : max ((a - b : Nat) : Int) (b : Int) = ((max (a - b) b : Nat) : Int) := by omega
        have hm4 : min ((a - b : Nat) : Int) (b : Int) = ((min (a - b) b : Nat) : Int) := by omega
        have hlt : max (a - b) b + min (a - b) b < a + b := by omega
        have hle : min (a - b) b ≤ max (a - b) b := by omega
        have hl1 : max (a - b) b ≤ 1000 := by omega
        obtain ⟨a1, ha1⟩ : ∃ a1, a1 = max (a - b) b := ⟨_, rfl⟩
        obtain ⟨b1, hb1⟩ : ∃ b1, b1 = min (a - b) b := ⟨_, rfl⟩
        rw [← ha1] at hm3 hlt hle hl1 HL2
        rw [← hb1] at hm4 hlt hle HL2
        have hm3n : (if ((a - b : Nat) : Int) < (b : Int) then (b : Int) else ((a - b : Nat) : Int)) = (a1 : Int) := by rw [ha1]; split <;> omega
        have hm4n : (if (b : Int) < ((a - b : Nat) : Int) then (b : Int) else ((a - b : Nat) : Int)) = (b1 : Int) := by rw [hb1]; split <;> omega
        have HSZ := Lib.hid KW.out.size
        have HBK := Lib.hid OW.out.lt
        clear ha1 hb1
        go_wp2_with (at_builtin; refine wpList_append_own _ rfl (.tmp 40) (.tmp 42) 22 rfl w.heap.size 3 i0 (.int .i64 0) 1 8 Tryz.underlying22 hinf hz0 hz1 hz2 rfl (by decide) (.slice va out.length vk) out.length (intL out) rfl (OW.out.alloc _) ⟨wr.heap.size, 0, none⟩ 1 1 [.int .i64 (b : Nat)] rfl rfl (new1 wr (.int .i64 (b : Nat)) 3) (one1 _ rfl) (by unfold maxLen; omega) (by omega) (by simp; have := HSZ.out; omega) ?_; intro v' w5 hown hgrow _; have KW := Lib.hid ((KW.out.alloc KW.out.size _).grown hgrow (by have := HSZ.out; simp; omega) (fun kk e => (HBK.out kk e).1)); rw [intL_app] at hown; obtain ⟨va', vk', rfl⟩ := own_shape hown; have OW := Lib.hid hown; clear hown hgrow)
        have hl2 : (out ++ [b]).length = out.length + 1 := by simp
        go_roundw
        case rel => exact ⟨out ++ [b], a1, b1, hle, hl1, by first | rfl | go_num, by first | rfl | go_num, by omega, va', vk', by rw [hl2], HL2, by rw [hl2]; exact OW, KW⟩
        case measure => simp [intOf]; omega
    · obtain rfl : b = 0 := by omega
      have e1 : decide ((0 : Int) < ((0 : Nat) : Int)) = false := by simp
      have HE : Hid (L = out) := Lib.hid (by rw [← HLL.out, euc_zero, List.append_nil])
      go_wp2
      go_ret2
      rw [HE.out]
      exact ⟨.inl ⟨hol, va, vk, rfl, ints_intL OW.out⟩, KW.out⟩
end Go.Proofs.YtolkchkedieppaaGreat

/- Lay of package hide. -/
namespace Go.Proofs.YtolkchkedieppaaGreat
open Go.RowKit
attribute [local go_sem ↓] Go.wp_at_zero Go.wp_at_succ
set_option maxHeartbeats 2000000 in
set_option maxRecDepth 100000 in
theorem fnext_any (v : Value) (n : Nat) (f : Nat → Int) (w : World) (hv : Ints w v n f) (hn : 1 ≤ n) (hn2 : n ≤ 1000) :
    Calls Tryz.prog 49 #[v] w fun e w' => ∃ r : Nat, RunP n f (minAt f (n - 1)) r ∧ e = .returned (.tuple #[.int .i64 (minAt f (n - 1) : Nat), .int .i64 (r : Nat)]) ∧ Drawn w w' := by
  have HI := Lib.hid hv
  obtain ⟨a, b, o, c, rfl, hs⟩ := hv
  have HS := Lib.hid hs
  obtain ⟨p, hp⟩ : ∃ p, p = minAt f (n - 1) := ⟨_, rfl⟩
  have hpn : p < n := by have := minAt_le f (n - 1); omega
  have HF : Hid (∀ i, i < p → f i ≠ f p) := Lib.hid (fun i hi e => by rw [hp] at hi e; have := minAt_first f (n - 1) i hi; omega)
  rw [← hp]
  have HM := Lib.hid (fmin_any _ n f w HI.out hn hn2)
  rw [← hp] at HM
  clear hs hp
  go_enter Tryz.func49, Tryz.ntmps49
  go_wp2_with (first
    | (go_at_call 51; (with_reducible refine (HM.out).mono ?_); rintro e w1 ⟨rfl, rfl⟩)
    | (go_at_call 101; (with_reducible refine (findex_any _ n f (f p) p _ HI.out hpn rfl HF.out hn2).mono ?_); rintro e w1 ⟨rfl, rfl⟩))
  go_loopw [5] (fun v5 wr => ∃ r : Nat, 1 ≤ r ∧ p + r ≤ n ∧ v5 = .int .i64 (r : Nat) ∧ Hid (∀ i, i < r → f (p + i) = f p) ∧ Hid (Drawn w wr)) (fun v5 _ => n - (intOf v5).toNat)
  case atStart => exact ⟨1, by omega, by omega, rfl, Lib.hid (fun i hi => by obtain rfl : i = 0 := by omega
                                                                             rfl), Lib.hid (Drawn.refl _)⟩
  case round =>
    obtain ⟨r, hr1, hr, rfl, HR, hd⟩ := hrel
    have hw : IntKind.i64.wrap ((p : Int) + (r : Int)) = ((p + r : Nat) : Int) := by rw [IntKind.wrap_i64]; omega
    by_cases h : p + r < n
    · have e1 : decide (((p + r : Nat) : Int) < (n : Int)) = true := by simp; omega
      have e1n : decide (p + r < n) = true := by simpa using h
      have e1m : decide ((p : Int) + (r : Int) < (n : Int)) = true := by simp; omega
      have ix1 := fun W => ixFl HS.out (p + r) c h W
      have ix2 := fun W => ixFl HS.out p c hpn W
      have c1 := (HS.out.drawn hd.out).cell (p + r) h
      have c2 := (HS.out.drawn hd.out).cell p hpn
      simp only [ic] at c1 c2
      obtain ⟨t, ht⟩ : ∃ t, t = p + r := ⟨_, rfl⟩
      rw [← ht] at hw e1 e1n ix1 c1
      have HT := Lib.hid ht
      clear ht
      by_cases h2 : f t = f p
      · have e2 : (f t == f p) = true := by simpa using h2
        have H2 := Lib.hid h2
        clear h2
        go_wp2
        go_quiet (fail)
        go_wp2
        go_roundw
        case rel => exact ⟨r + 1, by omega, by omega, by go_num, Lib.hid (fun i hi => by
          by_cases q : i = r
          · rw [q, ← HT.out]; exact H2.out
          · exact HR.out i (by omega)), Lib.hid (hd.out.trans (Drawn.of _ _))⟩
        case measure => simp [intOf]; omega
      · have e2 : (f t == f p) = false := by simpa using h2
        have H2 := Lib.hid h2
        clear h2
        go_wp2
        go_quiet (fail)
        go_wp2
        go_ret2
        exact ⟨r, ⟨hr1, hr, HR.out, .inr (by rw [← HT.out]; exact H2.out)⟩, rfl, hd.out.trans (Drawn.of _ _)⟩
    · have e1 : decide (((p + r : Nat) : Int) < (n : Int)) = false := by simp; omega
      have e1n : decide (p + r < n) = false := by simpa using h
      have e1m : decide ((p : Int) + (r : Int) < (n : Int)) = false := by simp; omega
      obtain ⟨t, ht⟩ : ∃ t, t = p + r := ⟨_, rfl⟩
      rw [← ht] at hw e1 e1n
      have hpe : p + r = n := by omega
      have HPE := Lib.hid hpe
      clear ht hpe
      go_wp2
      go_quiet (fail)
      go_wp2
      go_ret2
      exact ⟨r, ⟨hr1, hr, HR.out, .inl HPE.out⟩, rfl, hd.out.trans (Drawn.of _ _)⟩
theorem gset1 (w : World) (b o : Nat) (u : Value) : w.grownBy (w.setCell ⟨b, o, none⟩ u) (some b) := ⟨rfl, rfl, rfl, by simp [World.setCell], fun k _ hk => Below.heap_setCell _ _ _ _ (fun e => hk (by rw [e]))⟩
/-- places at .. k - 1 raised by z -/
def raiseF (F : Nat → Int) (at_ k : Nat) (z : Int) : Nat → Int := fun i => if at_ ≤ i ∧ i < k then F i + z else F i
set_option maxHeartbeats 2000000 in
set_option maxRecDepth 100000 in
theorem fput_any (g W m a : Nat) (z : Int) (F : Nat → Int) (w : World) (hrow : w.rowIs g 3 W (ic F)) (ha : a + m ≤ W) (hW : W ≤ 1000) (hF : ∀ i, i < W → -1000 ≤ F i ∧ F i ≤ 1000) (hz : -1000 ≤ z ∧ z ≤ 1000) :
    Calls Tryz.prog 50 #[.slice (some ⟨g, 0, none⟩) W W, .int .i64 (a : Nat), .int .i64 (m : Nat), .int .i64 z] w fun e w' => e = .returned (.tuple #[]) ∧ w'.rowIs g 3 W (ic (raiseF F a (a + m) z)) ∧ w.grownBy w' (some g) := by
  have R0 : Hid (w.rowIs g 3 W (ic (raiseF F a a z))) := Lib.hid (hrow.congr (fun i hi => by simp only [ic, raiseF]; rw [if_neg (by omega)]))
  have G0 : Hid (w.grownBy w (some g)) := Lib.hid ⟨rfl, rfl, rfl, Nat.le_refl _, fun _ _ _ => rfl⟩
  have HF := Lib.hid hF
  have hw : IntKind.i64.wrap ((a : Int) + (m : Int)) = ((a + m : Nat) : Int) := by rw [IntKind.wrap_i64]; omega
  obtain ⟨T, hT⟩ : ∃ T, T = a + m := ⟨_, rfl⟩
  rw [← hT] at hw ⊢
  clear hrow hF
  go_enter Tryz.func50, Tryz.ntmps50
  go_wp2
  go_loopw [8] (fun v8 wr => ∃ k : Nat, a ≤ k ∧ k ≤ T ∧ v8 = .int .i64 (k : Nat) ∧ Hid (wr.rowIs g 3 W (ic (raiseF F a k z))) ∧ Hid (w.grownBy wr (some g))) (fun v8 _ => T - (intOf v8).toNat)
  case atStart => exact ⟨a, by omega, by omega, rfl, R0, G0⟩
  case round =>
    clear R0 G0
    obtain ⟨k, hk1, hk, rfl, R, G⟩ := hrel
    by_cases h : k < T
    · have e1 : decide ((k : Int) < (T : Int)) = true := by simpa using h
      have e1n : decide (k < T) = true := by simpa using h
      have hkW : k < W := by omega
      have g0 : (0 : Int) ≤ (k : Int) := Int.natCast_nonneg k
      have g1 : (k : Int) < (W : Int) := by omega
      have hix := fun W' => ixFl (rowIs_sl R.out) k W hkW W'
      have cb := R.out.cell (i := k) hkW
      have fb := R.out.frozen k
      have hr := HF.out k hkW
      simp only [ic, raiseF, Nat.zero_add] at cb hix
      rw [if_neg (by omega)] at cb
      have hw2 : IntKind.i64.wrap (F k + z) = F k + z := by rw [IntKind.wrap_i64]; omega
      have R2 : Hid ((wr.setCell ⟨g, k, none⟩ (.int .i64 (F k + z))).rowIs g 3 W (ic (raiseF F a (k + 1) z))) := Lib.hid ((R.out.set k _).congr (fun i hi => by
        simp only [ic, raiseF]
        by_cases q : i = k
        · subst q; simp [show i < i + 1 by omega, hk1]
        · simp only [q, if_false]
          by_cases q2 : a ≤ i ∧ i < k
          · rw [if_pos q2, if_pos (by omega)]
          · rw [if_neg q2, if_neg (by omega)]))
      have G2 := Lib.hid (G.out.trans (gset1 wr g k (.int .i64 (F k + z))))
      go_wp2
      go_roundw
      case rel => exact ⟨k + 1, by omega, by omega, by go_num, R2, G2⟩
      case measure => simp [intOf]; omega
    · obtain rfl : k = T := by omega
      have e1 : decide ((k : Int) < (k : Int)) = false := by simp
      go_wp2
      go_end0
      exact ⟨rfl, R.out, G.out⟩
theorem lay_yes (x : Int) (w : World) (h : x < 1 ∨ 1000 < x) : Calls Tryz.prog 47 #[.int .i64 x] w fun e w' => e = .returned (.bool true) ∧ w = w' := by
  by_cases h1 : x < 1
  · have d1 : decide (x < 1) = true := by simpa using h1
    go_enter Tryz.func47, Tryz.ntmps47
    go_wp2
    go_ret
    exact ⟨rfl, rfl⟩
  · have d1 : decide (x < 1) = false := by simpa using h1
    have d2 : decide (1000 < x) = true := by simp; omega
    go_enter Tryz.func47, Tryz.ntmps47
    go_wp2
    go_ret
    exact ⟨rfl, rfl⟩
theorem lay_not (x : Int) (w : World) (h : ¬ (x < 1 ∨ 1000 < x)) : Calls Tryz.prog 47 #[.int .i64 x] w fun e w' => e = .returned (.bool false) ∧ w = w' := by
  have d1 : decide (x < 1) = false := by simp; omega
  have d2 : decide (1000 < x) = false := by simp; omega
  clear h
  go_enter Tryz.func47, Tryz.ntmps47
  go_wp2
  go_ret
  exact ⟨rfl, rfl⟩
theorem ext_lt2 {n k : Nat} {P : Nat → Prop} (h : ∀ i, i < k → P i) (hk : P k) : ∀ i, i < k + 1 → P i := fun i hi => by
  by_cases e : i = k
  · rw [e]; exact hk
  · exact h i (by omega)
theorem lay_hit (v : Value) (n : Nat) (f : Nat → Int) (w : World) (hv : Ints w v n f) (hn : n ≤ 1048576) (hit : ∃ i, i < n ∧ (f i < 1 ∨ 1000 < f i)) :
    Calls Tryz.prog 100 #[v, .func (.func 47) #[] #[]] w fun e w' => ∃ z : Nat, e = .returned (.int .i64 (z : Nat)) ∧ Drawn w w' := by
  obtain ⟨a, b, o, c, rfl, hs⟩ := hv
  have HH := Lib.hid hit
  clear hit
  go_enter Tryz.func100, Tryz.ntmps100
  go_wp2
  go_loopw [5, 8] (fun _ i wr => ∃ k : Nat, k ≤ n ∧ i = .int .i64 (k : Nat) ∧ Hid (∀ i, i < k → ¬ (f i < 1 ∨ 1000 < f i)) ∧ Hid (Drawn w wr)) (fun _ i _ => n - (intOf i).toNat)
  case atStart => exact ⟨0, by omega, rfl, Lib.hid (fun i hi => by omega), Lib.hid (Drawn.refl _)⟩
  case round =>
    obtain ⟨k, hk, rfl, HG, hd⟩ := hrel
    by_cases h : k < n
    · have hix := fun W => ixI hs k c h W
      have hc := (hs.drawn hd.out).cell k h
      simp only [ic] at hc
      by_cases hb : (f k < 1 ∨ 1000 < f k)
      · have HB := Lib.hid hb
        clear hb
        go_wp2_with (go_at_call 47; (with_reducible refine (lay_yes _ _ HB.out).mono ?_); rintro e w' ⟨rfl, rfl⟩)
        go_ret
        exact ⟨k, rfl, hd.out⟩
      · have HB := Lib.hid hb
        clear hb
        go_wp2_with (go_at_call 47; (with_reducible refine (lay_not _ _ HB.out).mono ?_); rintro e w' ⟨rfl, rfl⟩)
        go_roundw
        case rel => exact ⟨k + 1, by omega, by go_num, Lib.hid (ext_lt2 (n := n) HG.out HB.out), hd⟩
        case measure => simp [intOf]; omega
    · exfalso
      obtain ⟨i, hi, hb⟩ := HH.out
      exact HG.out i (by omega) hb
theorem lay_miss (v : Value) (n : Nat) (f : Nat → Int) (w : World) (hv : Ints w v n f) (hn : n ≤ 1048576) (miss : ∀ i, i < n → ¬ (f i < 1 ∨ 1000 < f i)) :
    Calls Tryz.prog 100 #[v, .func (.func 47) #[] #[]] w fun e w' => e = .returned (.int .i64 (-1)) ∧ Drawn w w' := by
  obtain ⟨a, b, o, c, rfl, hs⟩ := hv
  have HH := Lib.hid miss
  clear miss
  go_enter Tryz.func100, Tryz.ntmps100
  go_wp2
  go_loopw [5, 8] (fun _ i wr => ∃ k : Nat, k ≤ n ∧ i = .int .i64 (k : Nat) ∧ Hid (Drawn w wr)) (fun _ i _ => n - (intOf i).toNat)
  case atStart => exact ⟨0, by omega, rfl, Lib.hid (Drawn.refl _)⟩
  case round =>
    obtain ⟨k, hk, rfl, hd⟩ := hrel
    by_cases h : k < n
    · have hix := fun W => ixI hs k c h W
      have hc := (hs.drawn hd.out).cell k h
      simp only [ic] at hc
      have HB := Lib.hid (HH.out k h)
      go_wp2_with (go_at_call 47; (with_reducible refine (lay_not _ _ HB.out).mono ?_); rintro e w' ⟨rfl, rfl⟩)
      go_roundw
      case rel => exact ⟨k + 1, by omega, by go_num, hd⟩
      case measure => simp [intOf]; omega
    · go_wp2
      go_ret
      exact ⟨rfl, hd.out⟩
theorem lay_cont (v : Value) (n : Nat) (f : Nat → Int) (r : Bool) (hr : r = true ↔ ∃ i, i < n ∧ (f i < 1 ∨ 1000 < f i)) (w : World) (hv : Ints w v n f) (hn : n ≤ 1048576) :
    Calls Tryz.prog 48 #[v, .func (.func 47) #[] #[]] w fun e w' => e = .returned (.bool r) ∧ Drawn w w' := by
  have HV := Lib.hid hv
  obtain ⟨a, b, o, c, rfl, hs⟩ := hv
  clear hs
  cases r with
  | true =>
    have HH := Lib.hid (hr.1 rfl)
    clear hr
    go_enter Tryz.func48, Tryz.ntmps48
    go_wp2_with (go_at_call 100; (with_reducible refine (lay_hit _ n f _ HV.out hn HH.out).mono ?_); rintro e w' ⟨z, rfl, hd⟩; have hz : decide ((0 : Int) ≤ (z : Int)) = true := (by simp))
    go_ret
    exact ⟨rfl, hd⟩
  | false =>
    have HH := Lib.hid (show ∀ i, i < n → ¬ (f i < 1 ∨ 1000 < f i) from fun i hi hb => by have := hr.2 ⟨i, hi, hb⟩; cases this)
    clear hr
    go_enter Tryz.func48, Tryz.ntmps48
    go_wp2_with (go_at_call 100; (with_reducible refine (lay_miss _ n f _ HV.out hn HH.out).mono ?_); rintro e w' ⟨rfl, hd⟩)
    go_ret
    exact ⟨rfl, hd⟩
end Go.Proofs.YtolkchkedieppaaGreat
