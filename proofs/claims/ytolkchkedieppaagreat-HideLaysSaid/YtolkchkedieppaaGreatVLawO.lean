/- The law HideLays: its walk. -/
import Derived.Test.YtolkchkedieppaaGreatVCmpI
import Derived.Test.YtolkchkedieppaaGreatVLnA
import Derived.Test.YtolkchkedieppaaGreatVLivH
set_option linter.unusedVariables false
set_option linter.unusedSimpArgs false
namespace Go.Proofs.YtolkchkedieppaaGreat
open Go.RowKit
attribute [local go_sem ↓] Go.wp_at_zero Go.wp_at_succ
/-- a size is out of range -/
def badS (z : Int) : Prop := z < 1 ∨ 1000 < z
instance (z : Int) : Decidable (badS z) := by unfold badS; infer_instance
/-- what HideLays has behind its copy -/
structure LyC (w wx : World) (va : Option Addr) (k vk : Nat) (f : Nat → Int) : Prop where
 own : wx.ownsRow w.heap.size 3 1 (.slice va k vk) k (ics f k)
 kb : Below w.heap.size w wx
theorem some_inj2 {α β : Type} {a a' : α} {b b' : β} {o : Option (α × β)} (h1 : o = some (a, b)) (h2 : o = some (a', b')) : a = a' ∧ b = b' := by
 rw [h1] at h2
 injection h2 with h2
 injection h2 with h3 h4
 exact ⟨h3, h4⟩
section
variable (v : Value) (W : Nat) (S : List Nat) (w : World) (hv : Ints w v S.length (eF S)) (hW : 1 ≤ W) (hW2 : W ≤ 1000) (hS24 : S.length ≤ 24) (hS : ∀ s ∈ S, 1 ≤ s ∧ s ≤ 1000)
include hv hW hW2 hS24 hS
theorem lay_ok (hS0 : 0 < S.length) (out : List Sq) (F : Nat → Int) (h1 : layF W S (fun _ => 0) [] = some (out, F)) (h2 : Lvl W F) :
  Calls Tryz.prog 15 #[.int .i64 (W : Nat), v] w fun e w' => ∃ va vk, e = .returned (.tuple #[.slice va out.length vk, .int .i64 0]) ∧ w'.ownsRow w.heap.size 47 3 (.slice va out.length vk) out.length (sqL out) ∧ Below w.heap.size w w' := by
 refine (lay_good v W S w hv hW hW2 hS0 hS24 hS).mono ?_
 rintro e w' ⟨⟨o, G, h3, h4, va, vk, rfl, ho⟩ | ⟨h3, _⟩, hb⟩
 ·obtain ⟨rfl, rfl⟩ := some_inj2 h1 h3
  exact ⟨va, vk, rfl, ho, hb⟩
 ·exact absurd h2 (h3 _ _ h1)
theorem lay_no (hS0 : 0 < S.length) (h : ∀ out F, layF W S (fun _ => 0) [] = some (out, F) → ¬ Lvl W F) :
  Calls Tryz.prog 15 #[.int .i64 (W : Nat), v] w fun e w' => e = .returned (.tuple #[.slice none 0 0, .int .i64 5]) ∧ Below w.heap.size w w' := by
 refine (lay_good v W S w hv hW hW2 hS0 hS24 hS).mono ?_
 rintro e w' ⟨⟨o, G, h3, h4, _⟩ | ⟨_, rfl⟩, hb⟩
 ·exact absurd h4 (h _ _ h3)
 ·exact ⟨rfl, hb⟩
theorem rlay_ok (out : List Sq) (F : Nat → Int) (h1 : layF W S (fun _ => 0) [] = some (out, F)) (h2 : Lvl W F) :
  Calls Tryz.prog 16 #[.int .i64 (W : Nat), v] w fun e w' => ∃ va vk, e = .returned (.tuple #[.slice va out.length vk, .bool true]) ∧ w'.ownsRow w.heap.size 47 3 (.slice va out.length vk) out.length (sqL out) ∧ Below w.heap.size w w' := by
 refine (rlay_any v W S w hv hW hW2 hS24 hS).mono ?_
 rintro e w' ⟨⟨o, G, h3, h4, va, vk, rfl, ho⟩ | ⟨h3, _⟩, hb⟩
 ·obtain ⟨rfl, rfl⟩ := some_inj2 h1 h3
  exact ⟨va, vk, rfl, ho, hb⟩
 ·exact absurd h2 (h3 _ _ h1)
theorem rlay_no (h : ∀ out F, layF W S (fun _ => 0) [] = some (out, F) → ¬ Lvl W F) :
  Calls Tryz.prog 16 #[.int .i64 (W : Nat), v] w fun e w' => e = .returned (.tuple #[.slice none 0 0, .bool false]) ∧ Below w.heap.size w w' := by
 refine (rlay_any v W S w hv hW hW2 hS24 hS).mono ?_
 rintro e w' ⟨⟨o, G, h3, h4, _⟩ | ⟨_, rfl⟩, hb⟩
 ·exact absurd h4 (h _ _ h3)
 ·exact ⟨rfl, hb⟩
end
theorem sqV_of {w : World} {base : Nat} {va : Option Addr} {vk : Nat} {out : List Sq} (h : w.ownsRow base 47 3 (.slice va out.length vk) out.length (sqL out)) : SqV w (.slice va out.length vk) (out.map sqT) := by
 refine sqV_own (base := base) ?_
 rw [List.length_map, ← sqL_trL]
 exact h
set_option maxHeartbeats 8000000 in
set_option maxRecDepth 100000 in
theorem lawLays (x : Int) (v : Value) (n : Nat) (f : Nat → Int) (w : World) (hv : Ints w v n f) (hn : n ≤ 9223372036854775807) :
  Calls Tryz.prog 3 #[.int .i64 x, v] w fun e w' => e = .returned (.bool true) ∧ Below w.heap.size w w' := by
 obtain ⟨a, b, o, c, rfl, hs⟩ := hv
 obtain ⟨i0, hinf, hz0, hz1, hz2⟩ := info_parts infoI
 have hz := sliced_zero
 have hc := hs.cap
 obtain ⟨k, hk⟩ : ∃ k, k = min n 25 := ⟨_, rfl⟩
 have hkn : k ≤ n := by omega
 have hk9 : k ≤ 25 := by omega
 have hkc : k ≤ c := by omega
 have hmin : min (n : Int) 25 = (k : Int) := by omega
 have hmi2 : (if (25 : Int) < (n : Int) then (25 : Int) else (n : Int)) = (k : Int) := by split <;> omega
 have KW := Lib.hid ((Below.refl w.heap.size w).alloc (Nat.le_refl _) (.cells #[] 3))
 have hown0 : (w.alloc (.cells #[] 3)).ownsRow w.heap.size 3 1 (.slice (some ⟨w.heap.size, 0, none⟩) 0 0) 0 [] := World.ownsRow_made w #[] 0 (Nat.le_refl _) (by unfold maxLen; omega) rfl
 have OW := Lib.hid hown0
 have HS := Lib.hid hs
 have HK := Lib.hid hk
 clear hown0 hk hs
 go_enter Tryz.func3, Tryz.ntmps3
 go_upto_region 1 with (fail)
 go_cut [5] (fun v5 wx => ∃ va vk, v5 = .slice va k vk ∧ Hid (LyC w wx va k vk f))
 case first =>
  have hlast : ∀ w3 v', w3.ownsRow w.heap.size 3 1 v' (0 + k) ([] ++ ics f k) → Below w.heap.size w w3 → ∃ va vk, v' = .slice va k vk ∧ Hid (LyC w w3 va k vk f) := fun w3 v' ho hb => by
   rw [Nat.zero_add, List.nil_append] at ho
   obtain ⟨va, vk, rfl⟩ := own_shape ho
   exact ⟨va, vk, rfl, Lib.hid ⟨ho, hb⟩⟩
  have HLAST := Lib.hid hlast
  clear hlast
  by_cases h0 : 0 < n
  ·obtain rfl := HS.out.at_ h0
   have HONE := Lib.hid (ics_one f k)
   have HLEN := Lib.hid (show (ics f k).length = k * 1 by rw [ics_length]; omega)
   have HNW := Lib.hid (news_of (HS.out.alloc (.cells #[] 3)) k hkn)
   go_wp2_with (at_builtin; refine wpList_append_own _ rfl (.tmp 12) (.tmp 17) 22 rfl w.heap.size 3 i0 (.int .i64 0) 1 8 Tryz.underlying22 hinf hz0 hz1 hz2 rfl (by decide) (.slice (some ⟨w.heap.size, 0, none⟩) 0 0) 0 [] rfl OW.out ⟨b, o, none⟩ k c (ics f k) rfl HLEN.out HNW.out HONE.out (by unfold maxLen; omega) (by omega) (by simp) ?_; intro v' w3 hown hgrow _; have KW := Lib.hid (KW.out.grown hgrow (by simp) (fun kk e => by cases e; exact Nat.le_refl _)); have HOWN := Lib.hid hown; clear hown hgrow)
   go_meet
   case rel => exact HLAST.out _ _ HOWN.out KW.out
  ·obtain rfl : n = 0 := by omega
   obtain rfl : k = 0 := by omega
   rcases a with _ | ad
   ·obtain rfl := HS.out.nc rfl
    go_wp2_with (at_builtin; refine wpList_append_own_none rfl (.tmp 12) (.tmp 17) 22 rfl w.heap.size 3 i0 1 Tryz.underlying22 hinf (.slice (some ⟨w.heap.size, 0, none⟩) 0 0) 0 [] rfl OW.out rfl ?_)
    go_meet
    case rel => exact HLAST.out _ _ (by exact OW.out) KW.out
   ·go_wp2_with (at_builtin; refine wpList_append_own _ rfl (.tmp 12) (.tmp 17) 22 rfl w.heap.size 3 i0 (.int .i64 0) 1 8 Tryz.underlying22 hinf hz0 hz1 hz2 rfl (by decide) (.slice (some ⟨w.heap.size, 0, none⟩) 0 0) 0 [] rfl OW.out ad 0 c [] rfl rfl (fun j u h => by simp at h) (fun u h => by simp at h) (by unfold maxLen; omega) (by omega) (by simp) ?_; intro v' w3 hown hgrow _; have KW := Lib.hid (KW.out.grown hgrow (by simp) (fun kk e => by cases e; exact Nat.le_refl _)); have HOWN := Lib.hid hown; clear hown hgrow)
    go_meet
    case rel => exact HLAST.out _ _ (by exact HOWN.out) KW.out
 case rest =>
 obtain ⟨va, vk, rfl, LC⟩ := hcut
 clear hmin hmi2 hkc hc HS KW OW hz
 have HI := Lib.hid (ints_of_own LC.out.own)
 have KW := Lib.hid LC.out.kb
 clear LC HK
 by_cases hA : 24 < k
 ·have d1 : decide ((24 : Int) < (k : Int)) = true := by simp; omega
  have d1n : decide (24 < k) = true := by simpa using hA
  have d2 : decide ((0 : Int) < (k : Int)) = true := by simp; omega
  have d2n : decide (0 < k) = true := by simp; omega
  go_wp2_with (first
   | (go_at_call 15; (with_reducible refine (lay_long x _ k f _ HI.out hA).mono ?_); rintro e w1 ⟨rfl, rfl⟩))
  go_loopw [8, 9] (fun v8 v9 wr => v8 = .int .i64 3 ∧ v9 = .int .i64 0 ∧ Hid (Below w.heap.size w wr)) (fun _ _ _ => 0)
  case atStart => exact ⟨rfl, rfl, KW⟩
  case round =>
   clear KW
   obtain ⟨rfl, rfl, KW⟩ := hrel
   go_wp2_with (first
    | (go_at_call 18; (with_reducible refine (livesH_true _).mono ?_); rintro e w4 ⟨rfl, hb⟩; have KW := Lib.hid (KW.out.trans (hb.mono KW.out.size)); clear hb))
   go_ret
   exact ⟨rfl, KW.out⟩
 ·have d1 : decide ((24 : Int) < (k : Int)) = false := by simp; omega
  have d1n : decide (24 < k) = false := by simpa using hA
  by_cases h0 : k = 0
  ·have HBAD : Hid ((x < 1 ∨ 1000 < x) ∨ k = 0 ∨ ∃ i, i < k ∧ (f i < 1 ∨ 1000 < f i)) := Lib.hid (.inr (.inl h0))
   subst h0
   go_wp2_with (first
    | (go_at_call 15; (with_reducible refine (lay_arg x _ 0 f _ HI.out (by omega) HBAD.out).mono ?_); rintro e w1 ⟨rfl, hd⟩; have HI := Lib.hid (HI.out.mono (hd.below _) (Nat.le_refl _)); have KW := Lib.hid (KW.out.trans (hd.below _)); clear hd))
   go_loopw [8, 9] (fun v8 v9 wr => v8 = .int .i64 1 ∧ v9 = .int .i64 0 ∧ Hid (Below w.heap.size w wr)) (fun _ _ _ => 0)
   case atStart => exact ⟨rfl, rfl, KW⟩
   case round =>
    clear KW
    obtain ⟨rfl, rfl, KW⟩ := hrel
    go_wp2_with (first
     | (go_at_call 18; (with_reducible refine (livesH_true _).mono ?_); rintro e w4 ⟨rfl, hb⟩; have KW := Lib.hid (KW.out.trans (hb.mono KW.out.size)); clear hb))
    go_ret
    exact ⟨rfl, KW.out⟩
  ·have d2 : ((k : Int) == 0) = false := by rw [beq_eq_false_iff_ne]; omega
   have d2n : (k == 0) = false := by rw [beq_eq_false_iff_ne]; exact h0
   have d3 : decide ((0 : Int) < (k : Int)) = true := by simp; omega
   have d3n : decide (0 < k) = true := by simp; omega
   by_cases h1 : x < 1
   ·have HBAD : Hid ((x < 1 ∨ 1000 < x) ∨ k = 0 ∨ ∃ i, i < k ∧ (f i < 1 ∨ 1000 < f i)) := Lib.hid (.inl (.inl h1))
    have d4 : decide (x < 1) = true := by simpa using h1
    clear h1 h0
    go_wp2_with (first
     | (go_at_call 15; (with_reducible refine (lay_arg x _ k f _ HI.out (by omega) HBAD.out).mono ?_); rintro e w1 ⟨rfl, hd⟩; have HI := Lib.hid (HI.out.mono (hd.below _) (Nat.le_refl _)); have KW := Lib.hid (KW.out.trans (hd.below _)); clear hd))
    go_loopw [8, 9] (fun v8 v9 wr => v8 = .int .i64 1 ∧ v9 = .int .i64 0 ∧ Hid (Below w.heap.size w wr)) (fun _ _ _ => 0)
    case atStart => exact ⟨rfl, rfl, KW⟩
    case round =>
     clear KW
     obtain ⟨rfl, rfl, KW⟩ := hrel
     go_wp2_with (first
      | (go_at_call 18; (with_reducible refine (livesH_true _).mono ?_); rintro e w4 ⟨rfl, hb⟩; have KW := Lib.hid (KW.out.trans (hb.mono KW.out.size)); clear hb))
     go_ret
     exact ⟨rfl, KW.out⟩
   ·have d4 : decide (x < 1) = false := by simpa using h1
    by_cases h2 : 1000 < x
    ·have HBAD : Hid ((x < 1 ∨ 1000 < x) ∨ k = 0 ∨ ∃ i, i < k ∧ (f i < 1 ∨ 1000 < f i)) := Lib.hid (.inl (.inr h2))
     have d5 : decide (1000 < x) = true := by simpa using h2
     clear h1 h2 h0
     go_wp2_with (first
      | (go_at_call 15; (with_reducible refine (lay_arg x _ k f _ HI.out (by omega) HBAD.out).mono ?_); rintro e w1 ⟨rfl, hd⟩; have HI := Lib.hid (HI.out.mono (hd.below _) (Nat.le_refl _)); have KW := Lib.hid (KW.out.trans (hd.below _)); clear hd))
     go_loopw [8, 9] (fun v8 v9 wr => v8 = .int .i64 1 ∧ v9 = .int .i64 0 ∧ Hid (Below w.heap.size w wr)) (fun _ _ _ => 0)
     case atStart => exact ⟨rfl, rfl, KW⟩
     case round =>
      clear KW
      obtain ⟨rfl, rfl, KW⟩ := hrel
      go_wp2_with (first
       | (go_at_call 18; (with_reducible refine (livesH_true _).mono ?_); rintro e w4 ⟨rfl, hb⟩; have KW := Lib.hid (KW.out.trans (hb.mono KW.out.size)); clear hb))
      go_ret
      exact ⟨rfl, KW.out⟩
    ·have d5 : decide (1000 < x) = false := by simpa using h2
     by_cases hb : ∃ i, i < k ∧ badS (f i)
     ·have HBAD : Hid ((x < 1 ∨ 1000 < x) ∨ k = 0 ∨ ∃ i, i < k ∧ (f i < 1 ∨ 1000 < f i)) := Lib.hid (.inr (.inr hb))
      have HB := Lib.hid hb
      clear h1 h2 hb
      go_wp2_with (first
       | (go_at_call 15; (with_reducible refine (lay_arg x _ k f _ HI.out (by omega) HBAD.out).mono ?_); rintro e w1 ⟨rfl, hd⟩; have HI := Lib.hid (HI.out.mono (hd.below _) (Nat.le_refl _)); have KW := Lib.hid (KW.out.trans (hd.below _)); clear hd))
      go_loopw [8, 9] (fun v8 v9 wr => ∃ i β : Nat, i ≤ k ∧ v9 = .int .i64 (i : Nat) ∧ v8 = .int .i64 (β : Nat) ∧ Hid (β = 0 ∧ (∀ j, j < i → ¬ badS (f j)) ∨ β = 1) ∧ Hid (Ints wr (.slice va k vk) k f) ∧ Hid (Below w.heap.size w wr)) (fun _ v9 _ => k - (intOf v9).toNat)
      case atStart => exact ⟨0, 0, by omega, rfl, rfl, Lib.hid (.inl ⟨rfl, fun j hj => by omega⟩), HI, KW⟩
      case round =>
       clear KW HI
       obtain ⟨i, β, hi, rfl, rfl, HOR, HI, KW⟩ := hrel
       by_cases hβ : β = 1
       ·subst hβ
        by_cases h3 : i < k
        ·have e1 : decide ((i : Int) < (k : Int)) = true := by simpa using h3
         have e1n : decide (i < k) = true := by simpa using h3
         go_wp2_with (first
          | (go_at_call 18; (with_reducible refine (livesH_true _).mono ?_); rintro e w4 ⟨rfl, hb⟩; have KW := Lib.hid (KW.out.trans (hb.mono KW.out.size)); clear hb))
         go_ret
         exact ⟨rfl, KW.out⟩
        ·have e1 : decide ((i : Int) < (k : Int)) = false := by simpa using h3
         have e1n : decide (i < k) = false := by simpa using h3
         go_wp2_with (first
          | (go_at_call 18; (with_reducible refine (livesH_true _).mono ?_); rintro e w4 ⟨rfl, hb⟩; have KW := Lib.hid (KW.out.trans (hb.mono KW.out.size)); clear hb))
         go_ret
         exact ⟨rfl, KW.out⟩
       ·have HOK : Hid (∀ j, j < i → ¬ badS (f j)) := Lib.hid (by
         rcases HOR.out with ⟨_, q⟩ | q
         ·exact q
         ·exact absurd q hβ)
        have hβ0 : β = 0 := by
         rcases HOR.out with ⟨q, _⟩ | q
         ·exact q
         ·exact absurd q hβ
        subst hβ0
        have h3 : i < k := by
         obtain ⟨j, hj, hbj⟩ := HB.out
         refine Nat.lt_of_not_le (fun q => HOK.out j (by omega) hbj)
        have e1 : decide ((i : Int) < (k : Int)) = true := by simpa using h3
        have e1n : decide (i < k) = true := by simpa using h3
        obtain ⟨a2, b2, o2, c2, hve, hs2⟩ := HI.out
        injection hve with q1 q2 q3
        subst q1; subst q3
        have ix := fun X => ixI hs2 i vk h3 X
        have hat := hs2.at_ (by omega)
        subst hat
        have hci := hs2.cell i h3
        simp only [ic] at hci
        clear hs2 q2 HOR hβ
        obtain ⟨z, hz⟩ : ∃ z, z = f i := ⟨_, rfl⟩
        rw [← hz] at hci
        by_cases g1 : z < 1
        ·have t1 : decide (z < 1) = true := by simpa using g1
         go_wp2
         go_roundw
         case rel => exact ⟨i + 1, 1, by omega, by go_num, rfl, Lib.hid (.inr rfl), HI, KW⟩
         case measure => simp [intOf]; omega
        ·have t1 : decide (z < 1) = false := by simpa using g1
         by_cases g2 : 1000 < z
         ·have t2 : decide (1000 < z) = true := by simpa using g2
          go_wp2
          go_roundw
          case rel => exact ⟨i + 1, 1, by omega, by go_num, rfl, Lib.hid (.inr rfl), HI, KW⟩
          case measure => simp [intOf]; omega
         ·have t2 : decide (1000 < z) = false := by simpa using g2
          have HOK2 : Hid (∀ j, j < i + 1 → ¬ badS (f j)) := Lib.hid (fun j hj => by
           by_cases e : j = i
           ·rw [e, ← hz]; unfold badS; omega
           ·exact HOK.out j (by omega))
          go_wp2
          go_roundw
          case rel => exact ⟨i + 1, 0, by omega, by go_num, rfl, Lib.hid (.inl ⟨rfl, HOK2.out⟩), HI, KW⟩
          case measure => simp [intOf]; omega
     ·have HOKA : Hid (∀ i, i < k → ¬ badS (f i)) := Lib.hid (fun i hi q => hb ⟨i, hi, q⟩)
      obtain ⟨W, hW⟩ : ∃ W : Nat, x = (W : Int) := ⟨x.toNat, by omega⟩
      subst hW
      obtain ⟨S, hS⟩ : ∃ S : List Nat, S = (List.range k).map (fun i => (f i).toNat) := ⟨_, rfl⟩
      have hSl : S.length = k := by rw [hS]; simp
      have hSf : ∀ i, i < k → eF S i = f i := fun i hi => by
       have := HOKA.out i hi
       unfold badS at this
       unfold eF
       rw [hS]
       simp [hi]
       omega
      have hSm : ∀ s ∈ S, 1 ≤ s ∧ s ≤ 1000 := fun s hs => by
       rw [hS] at hs
       simp only [List.mem_map, List.mem_range] at hs
       obtain ⟨i, hi, rfl⟩ := hs
       have := HOKA.out i hi
       unfold badS at this
       omega
      have HIS : Hid (Ints wc (.slice va S.length vk) S.length (eF S)) := Lib.hid (by
       rw [hSl]
       obtain ⟨a2, b2, o2, c2, hve, hs2⟩ := HI.out
       exact ⟨a2, b2, o2, c2, hve, ⟨hs2.cap, hs2.at_, hs2.lt, fun i hi => by rw [hs2.cell i hi]; simp only [ic, hSf i hi], hs2.nc⟩⟩)
      subst hSl
      have HSM := Lib.hid hSm
      have hW1 : 1 ≤ W := by omega
      have hW3 : W ≤ 1000 := by omega
      clear hS hSf hSm hb h1 h2 HI HOKA
      by_cases hy : ∃ out F, layF W S (fun _ => 0) [] = some (out, F) ∧ Lvl W F
      ·obtain ⟨out, F, hl1, hl2⟩ := hy
       have HL1 := Lib.hid hl1
       have HL2 := Lib.hid hl2
       have hol : out.length ≤ 1000000 := by have := (layF_range W _ _ _ _ _ (fun i => by simp) hl1).2; simp at this; omega
       clear hl1 hl2
       go_wp2_with (first
        | (go_at_call 15; (with_reducible refine (lay_ok _ W S _ HIS.out (by omega) (by omega) (by omega) HSM.out (by omega) out F HL1.out HL2.out).mono ?_); rintro e w1 ⟨ya, yk, rfl, ho, hb⟩; have HSQ := Lib.hid (sqV_of ho); have HIS := Lib.hid (HIS.out.mono hb (Nat.le_refl _)); have KW := Lib.hid (KW.out.trans (hb.mono KW.out.size)); clear ho hb))
       go_loopw [8, 9] (fun v8 v9 wr => ∃ i : Nat, i ≤ S.length ∧ v9 = .int .i64 (i : Nat) ∧ v8 = .int .i64 0 ∧ Hid (Ints wr (.slice va S.length vk) S.length (eF S)) ∧ Hid (SqV wr (.slice ya out.length yk) (out.map sqT)) ∧ Hid (Below w.heap.size w wr)) (fun _ v9 _ => S.length - (intOf v9).toNat)
       case atStart => exact ⟨0, by omega, rfl, rfl, HIS, HSQ, KW⟩
       case round =>
        clear KW HIS HSQ
        obtain ⟨i, hi, rfl, rfl, HIS, HSQ, KW⟩ := hrel
        by_cases h3 : i < S.length
        ·have e1 : decide ((i : Int) < ((S.length : Nat) : Int)) = true := by simpa using h3
         have e1n : decide (i < S.length) = true := by simpa using h3
         obtain ⟨a2, b2, o2, c2, hve, hs2⟩ := HIS.out
         injection hve with q1 q2 q3
         subst q1; subst q3
         have ix := fun X => ixI hs2 i vk h3 X
         have hat := hs2.at_ (by omega)
         subst hat
         have hci := hs2.cell i h3
         simp only [ic, eF] at hci
         have hsr := HSM.out _ (getD_mem h3)
         clear hs2 q2
         obtain ⟨z, hz⟩ : ∃ z, z = S.getD i 0 := ⟨_, rfl⟩
         rw [← hz] at hci hsr
         have t1 : decide ((z : Int) < 1) = false := by simp; omega
         have t2 : decide ((1000 : Int) < (z : Int)) = false := by simp; omega
         have t1n : decide (z < 1) = false := by simp; omega
         have t2n : decide (1000 < z) = false := by simp; omega
         clear hz hsr
         go_wp2
         go_roundw
         case rel => exact ⟨i + 1, by omega, by go_num, rfl, HIS, HSQ, KW⟩
         case measure => simp [intOf]; omega
        ·obtain rfl : i = S.length := by omega
         have e1 : decide (((S.length : Nat) : Int) < ((S.length : Nat) : Int)) = false := by simp
         have e1n : decide (S.length < S.length) = false := by simp
         go_wp2_with (first
          | (go_at_call 16; (with_reducible refine (rlay_ok _ W S _ HIS.out (by omega) (by omega) (by omega) HSM.out out F HL1.out HL2.out).mono ?_); rintro e w2 ⟨za, zk, rfl, ho, hb⟩; have HSR := Lib.hid (sqV_of ho); have HSQ := Lib.hid (HSQ.out.mono hb (Nat.le_refl _)); have KW := Lib.hid (KW.out.trans (hb.mono KW.out.size)); clear ho hb)
          | (go_at_call 17; (with_reducible refine (hsame_eq _ _ (out.map sqT) _ HSQ.out HSR.out (by rw [List.length_map]; exact hol)).mono ?_); rintro e w3 ⟨rfl, hd⟩; have KW := Lib.hid (KW.out.trans (hd.below _)); clear hd)
          | (go_at_call 18; (with_reducible refine (livesH_true _).mono ?_); rintro e w4 ⟨rfl, hb⟩; have KW := Lib.hid (KW.out.trans (hb.mono KW.out.size)); clear hb))
         go_ret
         exact ⟨rfl, KW.out⟩
      ·have HNO : Hid (∀ out F, layF W S (fun _ => 0) [] = some (out, F) → ¬ Lvl W F) := Lib.hid (fun out F h1 h2 => hy ⟨out, F, h1, h2⟩)
       clear hy
       go_wp2_with (first
        | (go_at_call 15; (with_reducible refine (lay_no _ W S _ HIS.out (by omega) (by omega) (by omega) HSM.out (by omega) HNO.out).mono ?_); rintro e w1 ⟨rfl, hb⟩; have HIS := Lib.hid (HIS.out.mono hb (Nat.le_refl _)); have KW := Lib.hid (KW.out.trans (hb.mono KW.out.size)); clear hb))
       go_loopw [8, 9] (fun v8 v9 wr => ∃ i : Nat, i ≤ S.length ∧ v9 = .int .i64 (i : Nat) ∧ v8 = .int .i64 0 ∧ Hid (Ints wr (.slice va S.length vk) S.length (eF S)) ∧ Hid (Below w.heap.size w wr)) (fun _ v9 _ => S.length - (intOf v9).toNat)
       case atStart => exact ⟨0, by omega, rfl, rfl, HIS, KW⟩
       case round =>
        clear KW HIS
        obtain ⟨i, hi, rfl, rfl, HIS, KW⟩ := hrel
        by_cases h3 : i < S.length
        ·have e1 : decide ((i : Int) < ((S.length : Nat) : Int)) = true := by simpa using h3
         have e1n : decide (i < S.length) = true := by simpa using h3
         obtain ⟨a2, b2, o2, c2, hve, hs2⟩ := HIS.out
         injection hve with q1 q2 q3
         subst q1; subst q3
         have ix := fun X => ixI hs2 i vk h3 X
         have hat := hs2.at_ (by omega)
         subst hat
         have hci := hs2.cell i h3
         simp only [ic, eF] at hci
         have hsr := HSM.out _ (getD_mem h3)
         clear hs2 q2
         obtain ⟨z, hz⟩ : ∃ z, z = S.getD i 0 := ⟨_, rfl⟩
         rw [← hz] at hci hsr
         have t1 : decide ((z : Int) < 1) = false := by simp; omega
         have t2 : decide ((1000 : Int) < (z : Int)) = false := by simp; omega
         have t1n : decide (z < 1) = false := by simp; omega
         have t2n : decide (1000 < z) = false := by simp; omega
         clear hz hsr
         go_wp2
         go_roundw
         case rel => exact ⟨i + 1, by omega, by go_num, rfl, HIS, KW⟩
         case measure => simp [intOf]; omega
        ·obtain rfl : i = S.length := by omega
         have e1 : decide (((S.length : Nat) : Int) < ((S.length : Nat) : Int)) = false := by simp
         have e1n : decide (S.length < S.length) = false := by simp
         go_wp2_with (first
          | (go_at_call 16; (with_reducible refine (rlay_no _ W S _ HIS.out (by omega) (by omega) (by omega) HSM.out HNO.out).mono ?_); rintro e w2 ⟨rfl, hb⟩; have KW := Lib.hid (KW.out.trans (hb.mono KW.out.size)); clear hb)
          | (go_at_call 18; (with_reducible refine (livesH_true _).mono ?_); rintro e w4 ⟨rfl, hb⟩; have KW := Lib.hid (KW.out.trans (hb.mono KW.out.size)); clear hb))
         go_ret
         exact ⟨rfl, KW.out⟩
end Go.Proofs.YtolkchkedieppaaGreat
