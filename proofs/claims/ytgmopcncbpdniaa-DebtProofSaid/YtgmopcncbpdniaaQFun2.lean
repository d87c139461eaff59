/- The reference's functions on integers: prices, Shape, Debts, Sum. -/
import Derived.Test.YtgmopcncbpdniaaQMat
set_option linter.unusedVariables false
set_option linter.unusedSimpArgs false
namespace Go.Proofs.Ytgmopcncbpdniaa
open Go.RowKit

theorem ext_lt {P : Nat → Prop} {k : Nat} (h : ∀ i, i < k → P i) (hk : P k) : ∀ i, i < k + 1 → P i := fun i hi => by
  rcases Nat.lt_or_ge i k with q | q
  · exact h i q
  · obtain rfl : i = k := by omega
    exact hk
theorem bool_false {r : Bool} {P : Prop} (h : r = true ↔ P) (hn : ¬ P) : r = false := by
  cases r
  · rfl
  · exact absurd (h.1 rfl) hn

theorem prices_any (v : Value) (n : Nat) (f : Nat → Int) (r : Bool) (hr : r = true ↔ ∀ i, i < n → -1000 ≤ f i ∧ f i ≤ 1000) (w : World) (hv : Ints w v n f) (hn : n ≤ 1048576) :
    Calls Try.prog 16 #[v] w fun e w' => e = .returned (.bool r) ∧ Drawn w w' := by
  obtain ⟨a, b, o, c, rfl, hs⟩ := hv
  have HR := Lib.hid hr
  clear hr
  go_enter Try.func16, Try.ntmps16
  go_wp2
  go_loopw [3] (fun i wr => ∃ k : Nat, k ≤ n ∧ i = .int .i64 (k : Nat) ∧ Hid (∀ i, i < k → -1000 ≤ f i ∧ f i ≤ 1000) ∧ Hid (Drawn w wr)) (fun i _ => n - (intOf i).toNat)
  case atStart => exact ⟨0, by omega, rfl, Lib.hid (fun i hi => by omega), Lib.hid (Drawn.refl _)⟩
  case round =>
    obtain ⟨k, hk, rfl, HG, hd⟩ := hrel
    by_cases h : k < n
    · have hix := fun W => ixI hs k c h W
      have hc := (hs.drawn hd.out).cell k h
      simp only [ic] at hc
      by_cases h1 : f k < -1000
      · obtain rfl : r = false := by
          cases r
          · rfl
          · have := HR.out.1 rfl k h; omega
        have d1 : decide (f k < -1000) = true := by simpa using h1
        go_wp2
        go_ret
        exact ⟨rfl, hd.out⟩
      · have d1 : decide (f k < -1000) = false := by simpa using h1
        by_cases h2 : 1000 < f k
        · obtain rfl : r = false := by
            cases r
            · rfl
            · have := HR.out.1 rfl k h; omega
          have d2 : decide (1000 < f k) = true := by simpa using h2
          go_wp2
          go_ret
          exact ⟨rfl, hd.out⟩
        · have d2 : decide (1000 < f k) = false := by simpa using h2
          have HP := Lib.hid (show -1000 ≤ f k ∧ f k ≤ 1000 by omega)
          clear h1 h2
          go_wp2
          go_roundw
          case rel => exact ⟨k + 1, by omega, by go_num, Lib.hid (ext_lt HG.out HP.out), hd⟩
          case measure => simp [intOf]; omega
    · obtain rfl : k = n := by omega
      obtain rfl : r = true := HR.out.2 HG.out
      go_wp2
      go_ret
      exact ⟨rfl, hd.out⟩

theorem shape_any (u v : Value) (n0 n : Nat) (m0 m : Nat → Nat) (f0 f : Nat → Nat → Int) (r : Bool) (hr : r = true ↔ n = n0 ∧ ∀ i, i < n → m i = n0) (w : World) (hu : Mat w u n0 m0 f0) (hv : Mat w v n m f) (hn0 : n0 ≤ 1048576) (hn : n ≤ 1048576) :
    Calls Try.prog 9 #[u, v] w fun e w' => e = .returned (.bool r) ∧ Drawn w w' := by
  obtain ⟨a0, b0, o0, c0, ra0, rb0, ro0, rc0, rfl, hs0⟩ := hu
  obtain ⟨a, b, o, c, ra, rb, ro, rc, rfl, hs⟩ := hv
  have HR := Lib.hid hr
  clear hr
  go_enter Try.func9, Try.ntmps9
  go_wp2
  go_loopw [5] (fun i wr => ∃ k : Nat, k ≤ n ∧ i = .int .i64 (k : Nat) ∧ Hid (∀ i, i < k → m i = n0) ∧ Hid (Drawn w wr)) (fun i _ => n - (intOf i).toNat)
  case atStart => exact ⟨0, by omega, rfl, Lib.hid (fun i hi => by omega), Lib.hid (Drawn.refl _)⟩
  case round =>
    obtain ⟨k, hk, rfl, HG, hd⟩ := hrel
    by_cases h : k < n
    · have hix := fun W => ixM hs.top k c h W
      have hc := (hs.top.drawn hd.out).cell k h
      by_cases h1 : m k = n0
      · have d1 : (((m k : Nat) : Int) != ((n0 : Nat) : Int)) = false := by simp [h1]
        have HP := Lib.hid h1
        clear h1
        go_wp2
        go_roundw
        case rel => exact ⟨k + 1, by omega, by go_num, Lib.hid (ext_lt HG.out HP.out), hd⟩
        case measure => simp [intOf]; omega
      · have d1 : (((m k : Nat) : Int) != ((n0 : Nat) : Int)) = true := by simp; omega
        obtain rfl : r = false := by
          cases r
          · rfl
          · exact absurd ((HR.out.1 rfl).2 k h) h1
        go_wp2
        go_ret
        exact ⟨rfl, hd.out⟩
    · obtain rfl : k = n := by omega
      by_cases h2 : k = n0
      · have d2 : (((k : Nat) : Int) == ((n0 : Nat) : Int)) = true := by simp [h2]
        obtain rfl : r = true := HR.out.2 ⟨h2, HG.out⟩
        clear h2
        go_wp2
        go_ret
        exact ⟨rfl, hd.out⟩
      · have d2 : (((k : Nat) : Int) == ((n0 : Nat) : Int)) = false := by simp; omega
        obtain rfl : r = false := by
          cases r
          · rfl
          · exact absurd (HR.out.1 rfl).1 h2
        clear h2
        go_wp2
        go_ret
        exact ⟨rfl, hd.out⟩

/-- the matrix of a market's debts -/
def Debts (n : Nat) (m : Nat → Nat) (f : Nat → Nat → Int) : Prop := 1 ≤ n ∧ n ≤ 8 ∧ ∀ i, i < n → m i = n ∧ f i i = 0 ∧ ∀ j, j < n → 0 ≤ f i j ∧ f i j ≤ 1000

set_option maxHeartbeats 1000000 in
theorem debts_any (v : Value) (n : Nat) (m : Nat → Nat) (f : Nat → Nat → Int) (r : Bool) (hr : r = true ↔ Debts n m f) (w : World) (hv : Mat w v n m f) (hn : n ≤ 1048576) :
    Calls Try.prog 15 #[v] w fun e w' => e = .returned (.bool r) ∧ Drawn w w' := by
  obtain ⟨a, b, o, c, ra, rb, ro, rc, rfl, hs⟩ := hv
  have HR := Lib.hid hr
  clear hr
  go_enter Try.func15, Try.ntmps15
  go_wp2
  go_loopw [3, 4] (fun i _ wr => ∃ k : Nat, k ≤ n ∧ i = .int .i64 (k : Nat) ∧ Hid (∀ i, i < k → m i = n ∧ f i i = 0 ∧ ∀ j, j < n → 0 ≤ f i j ∧ f i j ≤ 1000) ∧ Hid (Drawn w wr)) (fun i _ _ => n - (intOf i).toNat)
  case atStart => exact ⟨0, by omega, rfl, Lib.hid (fun i hi => by omega), Lib.hid (Drawn.refl _)⟩
  case round =>
    obtain ⟨k, hk, rfl, HG, hd⟩ := hrel
    by_cases h : k < n
    · have hix := fun W => ixM hs.top k c h W
      have hc := (hs.top.drawn hd.out).cell k h
      by_cases h1 : m k = n
      · have d1 : (((m k : Nat) : Int) != ((n : Nat) : Int)) = false := by simp [h1]
        have hjx := fun W => ixI (hs.row k h) k (rc k) (by omega) W
        have hjc := ((hs.row k h).drawn hd.out).cell k (by omega)
        simp only [ic] at hjc
        have HM := Lib.hid h1
        by_cases h2 : f k k = 0
        · have d2 : (f k k != 0) = false := by simp [h2]
          have H2 := Lib.hid h2
          clear h1 h2
          go_wp2
          go_loopw [4] (fun j wr => ∃ l : Nat, l ≤ n ∧ j = .int .i64 (l : Nat) ∧ Hid (∀ j, j < l → 0 ≤ f k j ∧ f k j ≤ 1000) ∧ Hid (Drawn w wr)) (fun j _ => n - (intOf j).toNat)
          case atStart => exact ⟨0, by omega, rfl, Lib.hid (fun i hi => by omega), hd⟩
          case round =>
            obtain ⟨l, hl, rfl, HL, hd2⟩ := hrel
            clear hjx hjc
            have hc2 := (hs.top.drawn hd2.out).cell k h
            by_cases h3 : l < n
            · have hjx := fun W => ixI (hs.row k h) l (rc k) (by rw [HM.out]; exact h3) W
              have hjc := ((hs.row k h).drawn hd2.out).cell l (by rw [HM.out]; exact h3)
              simp only [ic] at hjc
              by_cases h4 : 0 ≤ f k l ∧ f k l ≤ 1000
              · have H4 := Lib.hid h4
                go_wp2_with (go_at_call 29; (with_reducible refine (in_any _ _ _ true (by simpa using H4.out) _).mono ?_); rintro e w1 ⟨rfl, rfl⟩)
                go_roundw
                case rel => exact ⟨l + 1, by omega, by go_num, Lib.hid (ext_lt HL.out H4.out), hd2⟩
                case measure => simp [intOf]; omega
              · have H4 := Lib.hid h4
                clear h4
                obtain rfl : r = false := bool_false HR.out (fun q => H4.out ((q.2.2 k h).2.2 l h3))
                go_wp2_with (go_at_call 29; (with_reducible refine (in_any _ _ _ false (by simpa using H4.out) _).mono ?_); rintro e w1 ⟨rfl, rfl⟩)
                go_ret
                exact ⟨rfl, hd2.out⟩
            · obtain rfl : l = n := by omega
              go_wp2
              go_roundw
              case rel => exact ⟨k + 1, by omega, by go_num, Lib.hid (ext_lt HG.out ⟨HM.out, H2.out, HL.out⟩), hd2⟩
              case measure => simp [intOf]; omega
        · have d2 : (f k k != 0) = true := by simpa using h2
          obtain rfl : r = false := bool_false HR.out (fun q => h2 (q.2.2 k h).2.1)
          clear h1 h2
          go_wp2
          go_ret
          exact ⟨rfl, hd.out⟩
      · have d1 : (((m k : Nat) : Int) != ((n : Nat) : Int)) = true := by simp; omega
        obtain rfl : r = false := bool_false HR.out (fun q => h1 (q.2.2 k h).1)
        clear h1
        go_wp2
        go_ret
        exact ⟨rfl, hd.out⟩
    · obtain rfl : k = n := by omega
      by_cases h5 : 1 ≤ k ∧ k ≤ 8
      · obtain rfl : r = true := HR.out.2 ⟨h5.1, h5.2, HG.out⟩
        go_wp2_with (go_at_call 29; (with_reducible refine (in_any _ _ _ true (by simp; omega) _).mono ?_); rintro e w1 ⟨rfl, rfl⟩)
        go_ret
        exact ⟨rfl, hd.out⟩
      · obtain rfl : r = false := bool_false HR.out (fun q => h5 ⟨q.1, q.2.1⟩)
        go_wp2_with (go_at_call 29; (with_reducible refine (in_any _ _ _ false (by simp; omega) _).mono ?_); rintro e w1 ⟨rfl, rfl⟩)
        go_ret
        exact ⟨rfl, hd.out⟩

end Go.Proofs.Ytgmopcncbpdniaa

/- slices.ContainsFunc over []int for the closures of package debt; within; square. (Printed by gen_fun.py.) -/
set_option linter.unusedVariables false
set_option linter.unusedSimpArgs false
namespace Go.Proofs.Ytgmopcncbpdniaa
open Go.RowKit

theorem cf_w_yes (x : Int) (w : World) (h : (x < 0 ∨ 1000 < x)) : Calls Try.prog 48 #[.int .i64 x] w fun e w' => e = .returned (.bool true) ∧ w = w' := by
  by_cases h1 : x < 0
  · have d1 : decide (x < 0) = true := by simpa using h1
    go_enter Try.func48, Try.ntmps48
    go_wp2
    go_ret
    exact ⟨rfl, rfl⟩
  · have d1 : decide (x < 0) = false := by simpa using h1
    have d2 : decide (1000 < x) = true := by simp; omega
    go_enter Try.func48, Try.ntmps48
    go_wp2
    go_ret
    exact ⟨rfl, rfl⟩
theorem cf_w_no (x : Int) (w : World) (h : ¬ (x < 0 ∨ 1000 < x)) : Calls Try.prog 48 #[.int .i64 x] w fun e w' => e = .returned (.bool false) ∧ w = w' := by
  have d1 : decide (x < 0) = false := by simp; omega
  have d2 : decide (1000 < x) = false := by simp; omega
  clear h
  go_enter Try.func48, Try.ntmps48
  go_wp2
  go_ret
  exact ⟨rfl, rfl⟩

theorem cf_w_hit (v : Value) (n : Nat) (f : Nat → Int) (w : World) (hv : Ints w v n f) (hn : n ≤ 1048576) (hit : ∃ i, i < n ∧ (f i < 0 ∨ 1000 < f i)) :
    Calls Try.prog 47 #[v, .func (.func 48) #[] #[]] w fun e w' => ∃ z : Nat, e = .returned (.int .i64 (z : Nat)) ∧ Drawn w w' := by
  obtain ⟨a, b, o, c, rfl, hs⟩ := hv
  have HH := Lib.hid hit
  clear hit
  go_enter Try.func47, Try.ntmps47
  go_wp2
  go_loopw [5, 8] (fun _ i wr => ∃ k : Nat, k ≤ n ∧ i = .int .i64 (k : Nat) ∧ Hid (∀ i, i < k → ¬ (f i < 0 ∨ 1000 < f i)) ∧ Hid (Drawn w wr)) (fun _ i _ => n - (intOf i).toNat)
  case atStart => exact ⟨0, by omega, rfl, Lib.hid (fun i hi => by omega), Lib.hid (Drawn.refl _)⟩
  case round =>
    obtain ⟨k, hk, rfl, HG, hd⟩ := hrel
    by_cases h : k < n
    · have hix := fun W => ixI hs k c h W
      have hc := (hs.drawn hd.out).cell k h
      simp only [ic] at hc
      by_cases hb : (f k < 0 ∨ 1000 < f k)
      · have HB := Lib.hid hb
        clear hb
        go_wp2_with (go_at_call 48; (with_reducible refine (cf_w_yes _ _ HB.out).mono ?_); rintro e w' ⟨rfl, rfl⟩)
        go_ret
        exact ⟨k, rfl, hd.out⟩
      · have HB := Lib.hid hb
        clear hb
        go_wp2_with (go_at_call 48; (with_reducible refine (cf_w_no _ _ HB.out).mono ?_); rintro e w' ⟨rfl, rfl⟩)
        go_roundw
        case rel => exact ⟨k + 1, by omega, by go_num, Lib.hid (ext_lt HG.out HB.out), hd⟩
        case measure => simp [intOf]; omega
    · exfalso
      obtain ⟨i, hi, hb⟩ := HH.out
      exact HG.out i (by omega) hb
theorem cf_w_miss (v : Value) (n : Nat) (f : Nat → Int) (w : World) (hv : Ints w v n f) (hn : n ≤ 1048576) (miss : ∀ i, i < n → ¬ (f i < 0 ∨ 1000 < f i)) :
    Calls Try.prog 47 #[v, .func (.func 48) #[] #[]] w fun e w' => e = .returned (.int .i64 (-1)) ∧ Drawn w w' := by
  obtain ⟨a, b, o, c, rfl, hs⟩ := hv
  have HH := Lib.hid miss
  clear miss
  go_enter Try.func47, Try.ntmps47
  go_wp2
  go_loopw [5, 8] (fun _ i wr => ∃ k : Nat, k ≤ n ∧ i = .int .i64 (k : Nat) ∧ Hid (Drawn w wr)) (fun _ i _ => n - (intOf i).toNat)
  case atStart => exact ⟨0, by omega, rfl, Lib.hid (Drawn.refl _)⟩
  case round =>
    obtain ⟨k, hk, rfl, hd⟩ := hrel
    by_cases h : k < n
    · have hix := fun W => ixI hs k c h W
      have hc := (hs.drawn hd.out).cell k h
      simp only [ic] at hc
      have HB := Lib.hid (HH.out k h)
      go_wp2_with (go_at_call 48; (with_reducible refine (cf_w_no _ _ HB.out).mono ?_); rintro e w' ⟨rfl, rfl⟩)
      go_roundw
      case rel => exact ⟨k + 1, by omega, by go_num, hd⟩
      case measure => simp [intOf]; omega
    · go_wp2
      go_ret
      exact ⟨rfl, hd.out⟩
/-- is there an element of that kind? -/
theorem cf_w_any (v : Value) (n : Nat) (f : Nat → Int) (r : Bool) (hr : r = true ↔ ∃ i, i < n ∧ (f i < 0 ∨ 1000 < f i)) (w : World) (hv : Ints w v n f) (hn : n ≤ 1048576) :
    Calls Try.prog 32 #[v, .func (.func 48) #[] #[]] w fun e w' => e = .returned (.bool r) ∧ Drawn w w' := by
  have HV := Lib.hid hv
  obtain ⟨a, b, o, c, rfl, hs⟩ := hv
  clear hs
  cases r with
  | true =>
    have HH := Lib.hid (hr.1 rfl)
    clear hr
    go_enter Try.func32, Try.ntmps32
    go_wp2_with (go_at_call 47; (with_reducible refine (cf_w_hit _ n f _ HV.out hn HH.out).mono ?_); rintro e w' ⟨z, rfl, hd⟩; have hz : decide ((0 : Int) ≤ (z : Int)) = true := (by simp))
    go_ret
    exact ⟨rfl, hd⟩
  | false =>
    have HH := Lib.hid (show ∀ i, i < n → ¬ (f i < 0 ∨ 1000 < f i) from fun i hi hb => by have := hr.2 ⟨i, hi, hb⟩; cases this)
    clear hr
    go_enter Try.func32, Try.ntmps32
    go_wp2_with (go_at_call 47; (with_reducible refine (cf_w_miss _ n f _ HV.out hn HH.out).mono ?_); rintro e w' ⟨rfl, hd⟩)
    go_ret
    exact ⟨rfl, hd⟩

theorem cf_p_yes (x : Int) (w : World) (h : (x < -1000 ∨ 1000 < x)) : Calls Try.prog 33 #[.int .i64 x] w fun e w' => e = .returned (.bool true) ∧ w = w' := by
  by_cases h1 : x < -1000
  · have d1 : decide (x < -1000) = true := by simpa using h1
    go_enter Try.func33, Try.ntmps33
    go_wp2
    go_ret
    exact ⟨rfl, rfl⟩
  · have d1 : decide (x < -1000) = false := by simpa using h1
    have d2 : decide (1000 < x) = true := by simp; omega
    go_enter Try.func33, Try.ntmps33
    go_wp2
    go_ret
    exact ⟨rfl, rfl⟩
theorem cf_p_no (x : Int) (w : World) (h : ¬ (x < -1000 ∨ 1000 < x)) : Calls Try.prog 33 #[.int .i64 x] w fun e w' => e = .returned (.bool false) ∧ w = w' := by
  have d1 : decide (x < -1000) = false := by simp; omega
  have d2 : decide (1000 < x) = false := by simp; omega
  clear h
  go_enter Try.func33, Try.ntmps33
  go_wp2
  go_ret
  exact ⟨rfl, rfl⟩

theorem cf_p_hit (v : Value) (n : Nat) (f : Nat → Int) (w : World) (hv : Ints w v n f) (hn : n ≤ 1048576) (hit : ∃ i, i < n ∧ (f i < -1000 ∨ 1000 < f i)) :
    Calls Try.prog 47 #[v, .func (.func 33) #[] #[]] w fun e w' => ∃ z : Nat, e = .returned (.int .i64 (z : Nat)) ∧ Drawn w w' := by
  obtain ⟨a, b, o, c, rfl, hs⟩ := hv
  have HH := Lib.hid hit
  clear hit
  go_enter Try.func47, Try.ntmps47
  go_wp2
  go_loopw [5, 8] (fun _ i wr => ∃ k : Nat, k ≤ n ∧ i = .int .i64 (k : Nat) ∧ Hid (∀ i, i < k → ¬ (f i < -1000 ∨ 1000 < f i)) ∧ Hid (Drawn w wr)) (fun _ i _ => n - (intOf i).toNat)
  case atStart => exact ⟨0, by omega, rfl, Lib.hid (fun i hi => by omega), Lib.hid (Drawn.refl _)⟩
  case round =>
    obtain ⟨k, hk, rfl, HG, hd⟩ := hrel
    by_cases h : k < n
    · have hix := fun W => ixI hs k c h W
      have hc := (hs.drawn hd.out).cell k h
      simp only [ic] at hc
      by_cases hb : (f k < -1000 ∨ 1000 < f k)
      · have HB := Lib.hid hb
        clear hb
        go_wp2_with (go_at_call 33; (with_reducible refine (cf_p_yes _ _ HB.out).mono ?_); rintro e w' ⟨rfl, rfl⟩)
        go_ret
        exact ⟨k, rfl, hd.out⟩
      · have HB := Lib.hid hb
        clear hb
        go_wp2_with (go_at_call 33; (with_reducible refine (cf_p_no _ _ HB.out).mono ?_); rintro e w' ⟨rfl, rfl⟩)
        go_roundw
        case rel => exact ⟨k + 1, by omega, by go_num, Lib.hid (ext_lt HG.out HB.out), hd⟩
        case measure => simp [intOf]; omega
    · exfalso
      obtain ⟨i, hi, hb⟩ := HH.out
      exact HG.out i (by omega) hb
theorem cf_p_miss (v : Value) (n : Nat) (f : Nat → Int) (w : World) (hv : Ints w v n f) (hn : n ≤ 1048576) (miss : ∀ i, i < n → ¬ (f i < -1000 ∨ 1000 < f i)) :
    Calls Try.prog 47 #[v, .func (.func 33) #[] #[]] w fun e w' => e = .returned (.int .i64 (-1)) ∧ Drawn w w' := by
  obtain ⟨a, b, o, c, rfl, hs⟩ := hv
  have HH := Lib.hid miss
  clear miss
  go_enter Try.func47, Try.ntmps47
  go_wp2
  go_loopw [5, 8] (fun _ i wr => ∃ k : Nat, k ≤ n ∧ i = .int .i64 (k : Nat) ∧ Hid (Drawn w wr)) (fun _ i _ => n - (intOf i).toNat)
  case atStart => exact ⟨0, by omega, rfl, Lib.hid (Drawn.refl _)⟩
  case round =>
    obtain ⟨k, hk, rfl, hd⟩ := hrel
    by_cases h : k < n
    · have hix := fun W => ixI hs k c h W
      have hc := (hs.drawn hd.out).cell k h
      simp only [ic] at hc
      have HB := Lib.hid (HH.out k h)
      go_wp2_with (go_at_call 33; (with_reducible refine (cf_p_no _ _ HB.out).mono ?_); rintro e w' ⟨rfl, rfl⟩)
      go_roundw
      case rel => exact ⟨k + 1, by omega, by go_num, hd⟩
      case measure => simp [intOf]; omega
    · go_wp2
      go_ret
      exact ⟨rfl, hd.out⟩
/-- is there an element of that kind? -/
theorem cf_p_any (v : Value) (n : Nat) (f : Nat → Int) (r : Bool) (hr : r = true ↔ ∃ i, i < n ∧ (f i < -1000 ∨ 1000 < f i)) (w : World) (hv : Ints w v n f) (hn : n ≤ 1048576) :
    Calls Try.prog 32 #[v, .func (.func 33) #[] #[]] w fun e w' => e = .returned (.bool r) ∧ Drawn w w' := by
  have HV := Lib.hid hv
  obtain ⟨a, b, o, c, rfl, hs⟩ := hv
  clear hs
  cases r with
  | true =>
    have HH := Lib.hid (hr.1 rfl)
    clear hr
    go_enter Try.func32, Try.ntmps32
    go_wp2_with (go_at_call 47; (with_reducible refine (cf_p_hit _ n f _ HV.out hn HH.out).mono ?_); rintro e w' ⟨z, rfl, hd⟩; have hz : decide ((0 : Int) ≤ (z : Int)) = true := (by simp))
    go_ret
    exact ⟨rfl, hd⟩
  | false =>
    have HH := Lib.hid (show ∀ i, i < n → ¬ (f i < -1000 ∨ 1000 < f i) from fun i hi hb => by have := hr.2 ⟨i, hi, hb⟩; cases this)
    clear hr
    go_enter Try.func32, Try.ntmps32
    go_wp2_with (go_at_call 47; (with_reducible refine (cf_p_miss _ n f _ HV.out hn HH.out).mono ?_); rintro e w' ⟨rfl, hd⟩)
    go_ret
    exact ⟨rfl, hd⟩

theorem cf_z_yes (x : Int) (w : World) (h : (x ≠ 0)) : Calls Try.prog 34 #[.int .i64 x] w fun e w' => e = .returned (.bool true) ∧ w = w' := by
  have d1 : (x != 0) = true := by simpa using h
  clear h
  go_enter Try.func34, Try.ntmps34
  go_wp2
  go_ret
  exact ⟨rfl, rfl⟩
theorem cf_z_no (x : Int) (w : World) (h : ¬ (x ≠ 0)) : Calls Try.prog 34 #[.int .i64 x] w fun e w' => e = .returned (.bool false) ∧ w = w' := by
  have d1 : (x != 0) = false := by simpa using h
  clear h
  go_enter Try.func34, Try.ntmps34
  go_wp2
  go_ret
  exact ⟨rfl, rfl⟩

theorem cf_z_hit (v : Value) (n : Nat) (f : Nat → Int) (w : World) (hv : Ints w v n f) (hn : n ≤ 1048576) (hit : ∃ i, i < n ∧ (f i ≠ 0)) :
    Calls Try.prog 47 #[v, .func (.func 34) #[] #[]] w fun e w' => ∃ z : Nat, e = .returned (.int .i64 (z : Nat)) ∧ Drawn w w' := by
  obtain ⟨a, b, o, c, rfl, hs⟩ := hv
  have HH := Lib.hid hit
  clear hit
  go_enter Try.func47, Try.ntmps47
  go_wp2
  go_loopw [5, 8] (fun _ i wr => ∃ k : Nat, k ≤ n ∧ i = .int .i64 (k : Nat) ∧ Hid (∀ i, i < k → ¬ (f i ≠ 0)) ∧ Hid (Drawn w wr)) (fun _ i _ => n - (intOf i).toNat)
  case atStart => exact ⟨0, by omega, rfl, Lib.hid (fun i hi => by omega), Lib.hid (Drawn.refl _)⟩
  case round =>
    obtain ⟨k, hk, rfl, HG, hd⟩ := hrel
    by_cases h : k < n
    · have hix := fun W => ixI hs k c h W
      have hc := (hs.drawn hd.out).cell k h
      simp only [ic] at hc
      by_cases hb : (f k ≠ 0)
      · have HB := Lib.hid hb
        clear hb
        go_wp2_with (go_at_call 34; (with_reducible refine (cf_z_yes _ _ HB.out).mono ?_); rintro e w' ⟨rfl, rfl⟩)
        go_ret
        exact ⟨k, rfl, hd.out⟩
      · have HB := Lib.hid hb
        clear hb
        go_wp2_with (go_at_call 34; (with_reducible refine (cf_z_no _ _ HB.out).mono ?_); rintro e w' ⟨rfl, rfl⟩)
        go_roundw
        case rel => exact ⟨k + 1, by omega, by go_num, Lib.hid (ext_lt HG.out HB.out), hd⟩
        case measure => simp [intOf]; omega
    · exfalso
      obtain ⟨i, hi, hb⟩ := HH.out
      exact HG.out i (by omega) hb
theorem cf_z_miss (v : Value) (n : Nat) (f : Nat → Int) (w : World) (hv : Ints w v n f) (hn : n ≤ 1048576) (miss : ∀ i, i < n → ¬ (f i ≠ 0)) :
    Calls Try.prog 47 #[v, .func (.func 34) #[] #[]] w fun e w' => e = .returned (.int .i64 (-1)) ∧ Drawn w w' := by
  obtain ⟨a, b, o, c, rfl, hs⟩ := hv
  have HH := Lib.hid miss
  clear miss
  go_enter Try.func47, Try.ntmps47
  go_wp2
  go_loopw [5, 8] (fun _ i wr => ∃ k : Nat, k ≤ n ∧ i = .int .i64 (k : Nat) ∧ Hid (Drawn w wr)) (fun _ i _ => n - (intOf i).toNat)
  case atStart => exact ⟨0, by omega, rfl, Lib.hid (Drawn.refl _)⟩
  case round =>
    obtain ⟨k, hk, rfl, hd⟩ := hrel
    by_cases h : k < n
    · have hix := fun W => ixI hs k c h W
      have hc := (hs.drawn hd.out).cell k h
      simp only [ic] at hc
      have HB := Lib.hid (HH.out k h)
      go_wp2_with (go_at_call 34; (with_reducible refine (cf_z_no _ _ HB.out).mono ?_); rintro e w' ⟨rfl, rfl⟩)
      go_roundw
      case rel => exact ⟨k + 1, by omega, by go_num, hd⟩
      case measure => simp [intOf]; omega
    · go_wp2
      go_ret
      exact ⟨rfl, hd.out⟩
/-- is there an element of that kind? -/
theorem cf_z_any (v : Value) (n : Nat) (f : Nat → Int) (r : Bool) (hr : r = true ↔ ∃ i, i < n ∧ (f i ≠ 0)) (w : World) (hv : Ints w v n f) (hn : n ≤ 1048576) :
    Calls Try.prog 32 #[v, .func (.func 34) #[] #[]] w fun e w' => e = .returned (.bool r) ∧ Drawn w w' := by
  have HV := Lib.hid hv
  obtain ⟨a, b, o, c, rfl, hs⟩ := hv
  clear hs
  cases r with
  | true =>
    have HH := Lib.hid (hr.1 rfl)
    clear hr
    go_enter Try.func32, Try.ntmps32
    go_wp2_with (go_at_call 47; (with_reducible refine (cf_z_hit _ n f _ HV.out hn HH.out).mono ?_); rintro e w' ⟨z, rfl, hd⟩; have hz : decide ((0 : Int) ≤ (z : Int)) = true := (by simp))
    go_ret
    exact ⟨rfl, hd⟩
  | false =>
    have HH := Lib.hid (show ∀ i, i < n → ¬ (f i ≠ 0) from fun i hi hb => by have := hr.2 ⟨i, hi, hb⟩; cases this)
    clear hr
    go_enter Try.func32, Try.ntmps32
    go_wp2_with (go_at_call 47; (with_reducible refine (cf_z_miss _ n f _ HV.out hn HH.out).mono ?_); rintro e w' ⟨rfl, hd⟩)
    go_ret
    exact ⟨rfl, hd⟩

theorem within_any (v : Value) (n : Nat) (f : Nat → Int) (r : Bool) (hr : r = true ↔ ∀ i, i < n → 0 ≤ f i ∧ f i ≤ 1000) (w : World) (hv : Ints w v n f) (hn : n ≤ 1048576) :
    Calls Try.prog 35 #[v] w fun e w' => e = .returned (.bool r) ∧ Drawn w w' := by
  have HV := Lib.hid hv
  obtain ⟨a, b, o, c, rfl, hs⟩ := hv
  clear hs
  have HH : Hid ((!r) = true ↔ ∃ i, i < n ∧ (f i < 0 ∨ 1000 < f i)) := Lib.hid (by
    cases r
    · simp only [Bool.not_false, true_iff]
      apply Classical.byContradiction
      intro hne
      have : false = true := hr.2 fun i hi => by
        apply Classical.byContradiction
        intro hx
        exact hne ⟨i, hi, by omega⟩
      cases this
    · simp only [Bool.not_true, Bool.false_eq_true, false_iff]
      rintro ⟨i, hi, hx⟩
      have := hr.1 rfl i hi
      omega)
  clear hr
  obtain ⟨q, rfl⟩ : ∃ q, r = !q := ⟨!r, by simp⟩
  rw [Bool.not_not] at HH
  go_enter Try.func35, Try.ntmps35
  go_wp2_with (go_at_call 32; (with_reducible refine (cf_w_any _ n f q HH.out _ HV.out hn).mono ?_); rintro e w' ⟨rfl, hd⟩)
  go_ret
  exact ⟨rfl, hd⟩

set_option maxHeartbeats 1000000 in
theorem square_any (v : Value) (n : Nat) (m : Nat → Nat) (f : Nat → Nat → Int) (r : Bool) (hr : r = true ↔ Debts n m f) (w : World) (hv : Mat w v n m f) (hn : n ≤ 1048576) (hm : ∀ i, i < n → m i ≤ 1048576) :
    Calls Try.prog 20 #[v] w fun e w' => e = .returned (.bool r) ∧ Drawn w w' := by
  obtain ⟨a, b, o, c, ra, rb, ro, rc, rfl, hs⟩ := hv
  have HR := Lib.hid hr
  have HMM := Lib.hid hm
  clear hr hm
  by_cases h1 : n < 1
  · obtain rfl : r = false := bool_false HR.out (fun q => by have := q.1; omega)
    have d1 : decide ((n : Int) < 1) = true := by simp; omega
    clear h1
    go_enter Try.func20, Try.ntmps20
    go_wp2
    go_ret
    exact ⟨rfl, Drawn.refl _⟩
  · have d1 : decide ((n : Int) < 1) = false := by simp; omega
    by_cases h8 : 8 < n
    · obtain rfl : r = false := bool_false HR.out (fun q => by have := q.2.1; omega)
      have d2 : decide ((8 : Int) < (n : Int)) = true := by simp; omega
      clear h1 h8
      go_enter Try.func20, Try.ntmps20
      go_wp2
      go_ret
      exact ⟨rfl, Drawn.refl _⟩
    · have d2 : decide ((8 : Int) < (n : Int)) = false := by simp; omega
      have HN := Lib.hid (show 1 ≤ n ∧ n ≤ 8 by omega)
      clear h1 h8
      go_enter Try.func20, Try.ntmps20
      go_wp2
      go_loopw [3, 4, 15] (fun _ _ i wr => ∃ k : Nat, k ≤ n ∧ i = .int .i64 (k : Nat) ∧ Hid (∀ i, i < k → m i = n ∧ f i i = 0 ∧ ∀ j, j < n → 0 ≤ f i j ∧ f i j ≤ 1000) ∧ Hid (Drawn w wr)) (fun _ _ i _ => n - (intOf i).toNat)
      case atStart => exact ⟨0, by omega, rfl, Lib.hid (fun i hi => by omega), Lib.hid (Drawn.refl _)⟩
      case round =>
        obtain ⟨k, hk, rfl, HG, hd⟩ := hrel
        by_cases h : k < n
        · have hix := fun W => ixM hs.top k c h W
          have hc := (hs.top.drawn hd.out).cell k h
          by_cases h1 : m k = n
          · have d3 : (((m k : Nat) : Int) != ((n : Nat) : Int)) = false := by simp [h1]
            have HM := Lib.hid h1
            have HRow : Hid (Ints wr (.slice (ra k) (m k) (rc k)) (m k) (f k)) := Lib.hid ⟨ra k, rb k, ro k, rc k, rfl, (hs.row k h).drawn hd.out⟩
            have hmk := HMM.out k h
            by_cases h2 : ∀ j, j < m k → 0 ≤ f k j ∧ f k j ≤ 1000
            · have H2 := Lib.hid h2
              have hjx := fun W => ixI (hs.row k h) k (rc k) (by omega) W
              have hjc0 := Lib.hid ((hs.row k h).cell k (by omega))
              have HSL := Lib.hid ((hs.row k h).lt (by omega))
              clear h1 h2
              have HD0 := hd
              by_cases h3 : f k k = 0
              · have d4 : (f k k != 0) = false := by simpa using h3
                have H3 := Lib.hid h3
                clear h3
                go_wp2_with (go_at_call 35; (with_reducible refine (within_any _ (m k) (f k) true ⟨fun _ => H2.out, fun _ => rfl⟩ _ HRow.out hmk).mono ?_); rintro e w1 ⟨rfl, hd1⟩; have hd := Lib.hid (hd.out.trans hd1); have hjc := (hd.out.below w.heap.size).cell (p := ⟨rb k, ro k + k, none⟩) HSL.out; rw [hjc0.out] at hjc; simp only [ic] at hjc)
                go_roundw
                case rel => exact ⟨k + 1, by omega, by go_num, Lib.hid (ext_lt HG.out ⟨HM.out, H3.out, fun j hj => H2.out j (by rw [HM.out]; exact hj)⟩), hd⟩
                case measure => simp [intOf]; omega
              · have d4 : (f k k != 0) = true := by simpa using h3
                obtain rfl : r = false := bool_false HR.out (fun q => h3 (q.2.2 k h).2.1)
                clear h3
                go_wp2_with (go_at_call 35; (with_reducible refine (within_any _ (m k) (f k) true ⟨fun _ => H2.out, fun _ => rfl⟩ _ HRow.out hmk).mono ?_); rintro e w1 ⟨rfl, hd1⟩; have hd := Lib.hid (hd.out.trans hd1); have hjc := (hd.out.below w.heap.size).cell (p := ⟨rb k, ro k + k, none⟩) HSL.out; rw [hjc0.out] at hjc; simp only [ic] at hjc)
                go_ret
                exact ⟨rfl, hd.out⟩
            · obtain rfl : r = false := bool_false HR.out (fun q => h2 (fun j hj => (q.2.2 k h).2.2 j (by rw [← h1]; exact hj)))
              have H2 := Lib.hid h2
              clear h1 h2
              go_wp2_with (go_at_call 35; (with_reducible refine (within_any _ (m k) (f k) false ⟨fun q => (by cases q), fun q => absurd q H2.out⟩ _ HRow.out hmk).mono ?_); rintro e w1 ⟨rfl, hd1⟩; have hd := Lib.hid (hd.out.trans hd1))
              go_ret
              exact ⟨rfl, hd.out⟩
          · have d3 : (((m k : Nat) : Int) != ((n : Nat) : Int)) = true := by simp; omega
            obtain rfl : r = false := bool_false HR.out (fun q => h1 (q.2.2 k h).1)
            clear h1
            go_wp2
            go_ret
            exact ⟨rfl, hd.out⟩
        · obtain rfl : k = n := by omega
          obtain rfl : r = true := HR.out.2 ⟨HN.out.1, HN.out.2, HG.out⟩
          go_wp2
          go_ret
          exact ⟨rfl, hd.out⟩

end Go.Proofs.Ytgmopcncbpdniaa

/- slices.ContainsFunc over [][]int for the closure of debt.Proves that holds a row's wanted length. -/
set_option linter.unusedVariables false
set_option linter.unusedSimpArgs false
namespace Go.Proofs.Ytgmopcncbpdniaa
open Go.RowKit

theorem cr_yes (a : Option Addr) (k c n pb : Nat) (w : World) (hp : w.cell? ⟨pb, 0, none⟩ = some (.int .i64 (n : Nat))) (h : k ≠ n) : Calls Try.prog 31 #[.slice a k c, .pointer (some ⟨pb, 0, none⟩)] w fun e w' => e = .returned (.bool true) ∧ w = w' := by
  have d1 : (((k : Nat) : Int) != ((n : Nat) : Int)) = true := by simp; omega
  clear h
  go_enter Try.func31, Try.ntmps31
  go_wp2
  go_ret
  exact ⟨rfl, rfl⟩
theorem cr_no (a : Option Addr) (k c n pb : Nat) (w : World) (hp : w.cell? ⟨pb, 0, none⟩ = some (.int .i64 (n : Nat))) (h : ¬ k ≠ n) : Calls Try.prog 31 #[.slice a k c, .pointer (some ⟨pb, 0, none⟩)] w fun e w' => e = .returned (.bool false) ∧ w = w' := by
  obtain rfl : k = n := by omega
  have d1 : (((k : Nat) : Int) != ((k : Nat) : Int)) = false := by simp
  clear h
  go_enter Try.func31, Try.ntmps31
  go_wp2
  go_ret
  exact ⟨rfl, rfl⟩

theorem drawn_cell {w w' : World} (h : Drawn w w') (p : Addr) : w'.cell? p = w.cell? p := by
  obtain ⟨n, rfl⟩ := h
  rfl

theorem cr_hit (v : Value) (q n pb : Nat) (m : Nat → Nat) (f : Nat → Nat → Int) (w : World) (hv : Mat w v q m f) (hp : w.cell? ⟨pb, 0, none⟩ = some (.int .i64 (n : Nat))) (hn : q ≤ 1048576) (hit : ∃ i, i < q ∧ m i ≠ n) :
    Calls Try.prog 46 #[v, .func (.func 31) #[] #[.pointer (some ⟨pb, 0, none⟩)]] w fun e w' => ∃ z : Nat, e = .returned (.int .i64 (z : Nat)) ∧ Drawn w w' := by
  obtain ⟨a, b, o, c, ra, rb, ro, rc, rfl, hs⟩ := hv
  have HS := Lib.hid hs
  have HH := Lib.hid hit
  have HP := Lib.hid hp
  clear hit hs hp
  go_enter Try.func46, Try.ntmps46
  go_wp2
  go_loopw [5, 8] (fun _ i wr => ∃ k : Nat, k ≤ q ∧ i = .int .i64 (k : Nat) ∧ Hid (∀ i, i < k → ¬ m i ≠ n) ∧ Hid (Drawn w wr)) (fun _ i _ => q - (intOf i).toNat)
  case atStart => exact ⟨0, by omega, rfl, Lib.hid (fun i hi => by omega), Lib.hid (Drawn.refl _)⟩
  case round =>
    obtain ⟨k, hk, rfl, HG, hd⟩ := hrel
    by_cases h : k < q
    · have hix := fun W => ixM HS.out.top k c h W
      have hc := (HS.out.top.drawn hd.out).cell k h
      have HPC : Hid (wr.cell? ⟨pb, 0, none⟩ = some (.int .i64 (n : Nat))) := Lib.hid (by rw [drawn_cell hd.out]; exact HP.out)
      by_cases hb : m k ≠ n
      · have HB := Lib.hid hb
        clear hb
        go_wp2_with (go_at_call 31; (with_reducible refine (cr_yes _ _ _ _ _ _ HPC.out HB.out).mono ?_); rintro e w' ⟨rfl, rfl⟩)
        go_ret
        exact ⟨k, rfl, hd.out⟩
      · have HB := Lib.hid hb
        clear hb
        go_wp2_with (go_at_call 31; (with_reducible refine (cr_no _ _ _ _ _ _ HPC.out HB.out).mono ?_); rintro e w' ⟨rfl, rfl⟩)
        go_roundw
        case rel => exact ⟨k + 1, by omega, by go_num, Lib.hid (ext_lt HG.out HB.out), hd⟩
        case measure => simp [intOf]; omega
    · exfalso
      obtain ⟨i, hi, hb⟩ := HH.out
      exact HG.out i (by omega) hb
theorem cr_miss (v : Value) (q n pb : Nat) (m : Nat → Nat) (f : Nat → Nat → Int) (w : World) (hv : Mat w v q m f) (hp : w.cell? ⟨pb, 0, none⟩ = some (.int .i64 (n : Nat))) (hn : q ≤ 1048576) (miss : ∀ i, i < q → ¬ m i ≠ n) :
    Calls Try.prog 46 #[v, .func (.func 31) #[] #[.pointer (some ⟨pb, 0, none⟩)]] w fun e w' => e = .returned (.int .i64 (-1)) ∧ Drawn w w' := by
  obtain ⟨a, b, o, c, ra, rb, ro, rc, rfl, hs⟩ := hv
  have HS := Lib.hid hs
  have HH := Lib.hid miss
  have HP := Lib.hid hp
  clear miss hs hp
  go_enter Try.func46, Try.ntmps46
  go_wp2
  go_loopw [5, 8] (fun _ i wr => ∃ k : Nat, k ≤ q ∧ i = .int .i64 (k : Nat) ∧ Hid (Drawn w wr)) (fun _ i _ => q - (intOf i).toNat)
  case atStart => exact ⟨0, by omega, rfl, Lib.hid (Drawn.refl _)⟩
  case round =>
    obtain ⟨k, hk, rfl, hd⟩ := hrel
    by_cases h : k < q
    · have hix := fun W => ixM HS.out.top k c h W
      have hc := (HS.out.top.drawn hd.out).cell k h
      have HPC : Hid (wr.cell? ⟨pb, 0, none⟩ = some (.int .i64 (n : Nat))) := Lib.hid (by rw [drawn_cell hd.out]; exact HP.out)
      have HB := Lib.hid (HH.out k h)
      go_wp2_with (go_at_call 31; (with_reducible refine (cr_no _ _ _ _ _ _ HPC.out HB.out).mono ?_); rintro e w' ⟨rfl, rfl⟩)
      go_roundw
      case rel => exact ⟨k + 1, by omega, by go_num, hd⟩
      case measure => simp [intOf]; omega
    · go_wp2
      go_ret
      exact ⟨rfl, hd.out⟩
/-- is there a row of another length? -/
theorem cr_any (v : Value) (q n pb : Nat) (m : Nat → Nat) (f : Nat → Nat → Int) (t : Bool) (ht : t = true ↔ ∃ i, i < q ∧ m i ≠ n) (w : World) (hv : Mat w v q m f) (hp : w.cell? ⟨pb, 0, none⟩ = some (.int .i64 (n : Nat))) (hn : q ≤ 1048576) :
    Calls Try.prog 30 #[v, .func (.func 31) #[] #[.pointer (some ⟨pb, 0, none⟩)]] w fun e w' => e = .returned (.bool t) ∧ Drawn w w' := by
  have HV := Lib.hid hv
  have HP := Lib.hid hp
  obtain ⟨a, b, o, c, ra, rb, ro, rc, rfl, hs⟩ := hv
  clear hs hp
  cases t with
  | true =>
    have HH := Lib.hid (ht.1 rfl)
    clear ht
    go_enter Try.func30, Try.ntmps30
    go_wp2_with (go_at_call 46; (with_reducible refine (cr_hit _ q n pb m f _ HV.out HP.out hn HH.out).mono ?_); rintro e w' ⟨z, rfl, hd⟩; have hz : decide ((0 : Int) ≤ (z : Int)) = true := (by simp))
    go_ret
    exact ⟨rfl, hd⟩
  | false =>
    have HH := Lib.hid (show ∀ i, i < q → ¬ m i ≠ n from fun i hi hb => by have := ht.2 ⟨i, hi, hb⟩; cases this)
    clear ht
    go_enter Try.func30, Try.ntmps30
    go_wp2_with (go_at_call 46; (with_reducible refine (cr_miss _ q n pb m f _ HV.out HP.out hn HH.out).mono ?_); rintro e w' ⟨rfl, hd⟩)
    go_ret
    exact ⟨rfl, hd⟩

end Go.Proofs.Ytgmopcncbpdniaa
