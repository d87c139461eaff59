/- debt.members, debt.balanced, slices.Compare. -/
import Derived.Test.YtgmopcncbpdniaaGreatQRep
import Derived.Test.YtgmopcncbpdniaaGreatQLive3
set_option linter.unusedVariables false
set_option linter.unusedSimpArgs false
namespace Go.Proofs.YtgmopcncbpdniaaGreat
open Go.RowKit
attribute [local go_sem ↓] Go.wp_at_zero Go.wp_at_succ

/-- the bits of s below i -/
def mem (s i : Nat) : List Nat := (List.range i).filter (fun t => s.testBit t)
def intC (l : List Nat) : List Value := l.map (fun t => .int .i64 (t : Nat))

theorem i64_and1 (n : Int) : bits .and .i64 n 1 = n % 2 := by
  have h1 : (BitVec.ofInt 64 1).toNat = 2 ^ 1 - 1 := by decide
  have key : (BitVec.ofInt 64 n &&& BitVec.ofInt 64 1).toNat = (n % ((2 ^ 64 : Nat) : Int)).toNat % 2 ^ 1 := by
    rw [BitVec.toNat_and, BitVec.toNat_ofInt, h1, Nat.and_two_pow_sub_one_eq_mod]
  show IntKind.i64.wrap ((BitVec.ofInt 64 n &&& BitVec.ofInt 64 1).toNat : Nat) = n % 2
  rw [key, IntKind.wrap_i64]
  omega

theorem mem_succ (s i : Nat) : mem s (i + 1) = mem s i ++ if s.testBit i then [i] else [] := by
  unfold mem
  rw [List.range_succ, List.filter_append]
  congr 1
  by_cases h : s.testBit i <;> simp [h]
theorem mem_done (s i : Nat) (h : s < 2 ^ i) : ∀ k, mem s (i + k) = mem s i
  | 0 => rfl
  | k + 1 => by
    rw [← Nat.add_assoc, mem_succ, mem_done s i h k]
    have h2 : s < 2 ^ (i + k) := Nat.lt_of_lt_of_le h (Nat.pow_le_pow_right (by omega) (by omega))
    rw [Nat.testBit_lt_two_pow h2]
    simp
theorem mem_len (s : Nat) : ∀ i, (mem s i).length ≤ i
  | 0 => by simp [mem]
  | i + 1 => by
    rw [mem_succ, List.length_append]
    have := mem_len s i
    split <;> simp <;> omega
theorem intC_app (l : List Nat) (i : Nat) : intC l ++ [.int .i64 (i : Nat)] = intC (l ++ [i]) := by simp [intC]

set_option maxHeartbeats 2000000 in
set_option maxRecDepth 100000 in
theorem members_any (s : Nat) (w : World) (hs : s < 1024) :
    Calls Tryz.prog 77 #[.int .i64 (s : Nat)] w fun e w' => ∃ va vk, e = .returned (.slice va (mem s 10).length vk) ∧ w'.ownsRow w.heap.size 3 1 (.slice va (mem s 10).length vk) (mem s 10).length (intC (mem s 10)) ∧ Below w.heap.size w w' := by
  obtain ⟨i0, hinf, hz0, hz1, hz2⟩ := info_parts infoI
  have KW0 := Lib.hid (Below.refl w.heap.size w)
  go_enter Tryz.func77, Tryz.ntmps77
  go_wp2
  go_loopw [3, 4] (fun v3 v4 wr => ∃ i : Nat, i ≤ 10 ∧ v4 = .int .i64 (i : Nat) ∧ ∃ va vk, v3 = .slice va (mem s i).length vk ∧ Hid (wr.ownsRow w.heap.size 3 1 (.slice va (mem s i).length vk) (mem s i).length (intC (mem s i))) ∧ Hid (Below w.heap.size w wr)) (fun _ v4 _ => 10 - (intOf v4).toNat)
  case atStart => exact ⟨0, by omega, rfl, none, 0, rfl, Lib.hid (World.ownsRow_nil _ _ _ _), KW0⟩
  case round =>
    clear KW0
    obtain ⟨i, hi, rfl, va, vk, rfl, OW, KW⟩ := hrel
    have hdiv : (s : Int) / 2 ^ i = ((s / 2 ^ i : Nat) : Int) := by simp
    by_cases hq : s / 2 ^ i = 0
    · have d1 : decide ((0 : Int) < (s : Int) / 2 ^ i) = false := by rw [hdiv, hq]; rfl
      have hlt : s < 2 ^ i := (Nat.div_eq_zero_iff_lt (Nat.two_pow_pos i)).1 hq
      have hm := mem_done s i hlt (10 - i)
      rw [show i + (10 - i) = 10 by omega] at hm
      have HM := Lib.hid hm
      clear hm hdiv
      go_wp2
      go_ret
      rw [HM.out]
      exact ⟨va, vk, rfl, OW.out, KW.out⟩
    · have hi10 : i < 10 := by
        rcases Nat.lt_or_ge i 10 with h | h
        · exact h
        · exact absurd (Nat.div_eq_of_lt (Nat.lt_of_lt_of_le hs (Nat.pow_le_pow_right (n := 2) (by omega) h))) hq
      have d1 : decide ((0 : Int) < (s : Int) / 2 ^ i) = true := decide_eq_true (by rw [hdiv]; exact Int.natCast_pos.2 (Nat.pos_of_ne_zero hq))
      have hbit : (bits .and .i64 ((s : Int) / 2 ^ i) 1 == 1) = s.testBit i := by
        rw [i64_and1, hdiv, Nat.testBit_eq_decide_div_mod_eq]
        by_cases h : s / 2 ^ i % 2 = 1
        · rw [decide_eq_true h]
          have : (((s / 2 ^ i : Nat) : Int) % 2) = 1 := by omega
          rw [this]; rfl
        · rw [decide_eq_false h]
          have : (((s / 2 ^ i : Nat) : Int) % 2) = 0 := by omega
          rw [this]; rfl
      have HSZ := Lib.hid KW.out.size
      have HBK := Lib.hid OW.out.lt
      have HLN := Lib.hid (mem_len s i)
      have hms := mem_succ s i
      clear hdiv hq
      by_cases hb : s.testBit i = true
      · rw [hb] at hbit
        rw [hb, if_pos rfl] at hms
        have HMS := Lib.hid hms
        clear hms hb
        go_wp2_with (at_builtin; refine wpList_append_own _ rfl (.tmp 16) (.tmp 18) 24 rfl w.heap.size 3 i0 (.int .i64 0) 1 8 Tryz.underlying24 hinf hz0 hz1 hz2 rfl (by decide) (.slice va (mem s i).length vk) (mem s i).length (intC (mem s i)) rfl (OW.out.alloc _) ⟨wr.heap.size, 0, none⟩ 1 1 [.int .i64 (i : Nat)] rfl rfl (new1 wr (.int .i64 (i : Nat)) 3) (one1 _ rfl) (by have := HLN.out; unfold maxLen; omega) (by have := HLN.out; omega) (by simp; have := HSZ.out; omega) ?_; intro v' w5 hown hgrow _; have KW := Lib.hid ((KW.out.alloc KW.out.size _).grown hgrow (by have := HSZ.out; simp; omega) (fun kk e => (HBK.out kk e).1)); rw [intC_app, ← HMS.out] at hown; obtain ⟨va', vk', rfl⟩ := own_shape hown; have OW := Lib.hid hown; clear hown hgrow)
        go_roundw
        case rel =>
          have hl : (mem s (i + 1)).length = (mem s i).length + 1 := by rw [HMS.out]; simp
          exact ⟨i + 1, by omega, by go_num, va', vk', by rw [hl], by rw [hl]; exact OW, KW⟩
        case measure => simp [intOf]; omega
      · have hb2 : s.testBit i = false := by simpa using hb
        rw [hb2] at hbit hms
        have hms2 : mem s (i + 1) = mem s i := by simpa using hms
        have HMS := Lib.hid hms2
        clear hms hms2 hb hb2
        go_wp2
        go_roundw
        case rel => exact ⟨i + 1, by omega, by go_num, va, vk, by rw [HMS.out], by rw [HMS.out]; exact OW, KW⟩
        case measure => simp [intOf]; omega

end Go.Proofs.YtgmopcncbpdniaaGreat

/- debt.balanced, slices.Compare. -/
set_option linter.unusedVariables false
set_option linter.unusedSimpArgs false
namespace Go.Proofs.YtgmopcncbpdniaaGreat
open Go.RowKit
attribute [local go_sem ↓] Go.wp_at_zero Go.wp_at_succ

def cmp3 (x y : Int) : Int := if x < y then -1 else if y < x then 1 else 0

theorem cmp_int (x y : Int) (w : World) : Calls Tryz.prog 141 #[.int .i64 x, .int .i64 y] w fun e w' => e = .returned (.int .i64 (cmp3 x y)) ∧ w = w' := by
  unfold cmp3
  by_cases h1 : x < y
  · have d1 : decide (x < y) = true := by simpa using h1
    rw [if_pos h1]
    clear h1
    go_enter Tryz.func141, Tryz.ntmps141
    go_wp2
    go_ret
    exact ⟨rfl, rfl⟩
  · have d1 : decide (x < y) = false := by simpa using h1
    rw [if_neg h1]
    clear h1
    by_cases h2 : y < x
    · have d2 : decide (y < x) = true := by simpa using h2
      rw [if_pos h2]
      clear h2
      go_enter Tryz.func141, Tryz.ntmps141
      go_wp2
      go_ret
      exact ⟨rfl, rfl⟩
    · have d2 : decide (y < x) = false := by simpa using h2
      rw [if_neg h2]
      clear h2
      go_enter Tryz.func141, Tryz.ntmps141
      go_wp2
      go_ret
      exact ⟨rfl, rfl⟩

/-- slices.Compare -/
def lexC (f g : Nat → Int) (n m : Nat) : Nat → Nat → Int
  | 0, _ => if n < m then -1 else 0
  | u + 1, k => if m ≤ k then 1 else if cmp3 (f k) (g k) = 0 then lexC f g n m u (k + 1) else cmp3 (f k) (g k)

set_option maxHeartbeats 2000000 in
set_option maxRecDepth 100000 in
theorem compare_ints (v1 v2 : Value) (n m : Nat) (f g : Nat → Int) (w : World) (h1 : Ints w v1 n f) (h2 : Ints w v2 m g) (hn : n ≤ 1048576) (hm : m ≤ 1048576) :
    Calls Tryz.prog 119 #[v1, v2] w fun e w' => e = .returned (.int .i64 (lexC f g n m n 0)) ∧ w = w' := by
  obtain ⟨a1, b1, o1, c1, rfl, s1⟩ := h1
  obtain ⟨a2, b2, o2, c2, rfl, s2⟩ := h2
  have S1 := Lib.hid s1
  have S2 := Lib.hid s2
  clear s1 s2
  go_enter Tryz.func119, Tryz.ntmps119
  go_wp2
  go_loopw [11] (fun v11 wr => ∃ k : Nat, k ≤ n ∧ v11 = .int .i64 (k : Nat) ∧ Hid (lexC f g n m n 0 = lexC f g n m (n - k) k) ∧ w = wr) (fun v11 _ => n - (intOf v11).toNat)
  case atStart => exact ⟨0, by omega, rfl, Lib.hid rfl, rfl⟩
  case round =>
    obtain ⟨k, hk, rfl, HX, rfl⟩ := hrel
    by_cases h : k < n
    · have hstep : lexC f g n m (n - k) k = if m ≤ k then 1 else if cmp3 (f k) (g k) = 0 then lexC f g n m (n - (k + 1)) (k + 1) else cmp3 (f k) (g k) := by
        rw [show n - k = (n - (k + 1)) + 1 by omega]; rfl
      have ix1 := fun W => ixI S1.out k c1 h W
      have x1 := S1.out.cell k h
      simp only [ic] at x1
      by_cases hmk : m ≤ k
      · rw [if_pos hmk] at hstep
        have HST := Lib.hid hstep
        have d1 : decide ((m : Int) ≤ (k : Int)) = true := by simpa using hmk
        have d1n : decide (m ≤ k) = true := by simpa using hmk
        clear hstep hmk
        go_wp2
        go_ret
        exact ⟨by rw [HX.out, HST.out]; rfl, rfl⟩
      · rw [if_neg hmk] at hstep
        have h3 : k < m := by omega
        have d1 : decide ((m : Int) ≤ (k : Int)) = false := by simp; omega
        have d1n : decide (m ≤ k) = false := by simp; omega
        have ix2 := fun W => ixI S2.out k c2 h3 W
        have x2 := S2.out.cell k h3
        simp only [ic] at x2
        clear hmk
        by_cases h0 : cmp3 (f k) (g k) = 0
        · rw [if_pos h0] at hstep
          have HST := Lib.hid hstep
          have H0 := Lib.hid h0
          clear hstep h0
          go_wp2_with (go_at_call 141; (with_reducible refine (cmp_int _ _ _).mono ?_); rintro e w1 ⟨rfl, rfl⟩; rw [H0.out])
          go_roundw
          case rel => exact ⟨k + 1, by omega, by go_num, Lib.hid (HX.out.trans HST.out), by first | rfl | trivial⟩
          case measure => simp [intOf]; omega
        · rw [if_neg h0] at hstep
          have HST := Lib.hid hstep
          have d2 : (cmp3 (f k) (g k) != 0) = true := by simpa using h0
          clear hstep h0
          go_wp2_with (go_at_call 141; (with_reducible refine (cmp_int _ _ _).mono ?_); rintro e w1 ⟨rfl, rfl⟩)
          go_ret
          exact ⟨by rw [HX.out, HST.out]; rfl, rfl⟩
    · obtain rfl : k = n := by omega
      by_cases h3 : k < m
      · have d1 : decide ((k : Int) < (m : Int)) = true := by simpa using h3
        have d1n : decide (k < m) = true := by simpa using h3
        have HM3 := Lib.hid h3
        clear h3
        go_wp2
        go_ret
        refine ⟨?_, rfl⟩
        rw [HX.out, Nat.sub_self]
        simp only [lexC]
        rw [if_pos HM3.out]
        rfl
      · have d1 : decide ((k : Int) < (m : Int)) = false := by simpa using h3
        have d1n : decide (k < m) = false := by simpa using h3
        have HM3 := Lib.hid h3
        clear h3
        go_wp2
        go_ret
        refine ⟨?_, rfl⟩
        rw [HX.out, Nat.sub_self]
        simp only [lexC]
        rw [if_neg HM3.out]
        rfl

/-- are balances valid? -/
def Balances (n : Nat) (f : Nat → Int) : Prop := 1 ≤ n ∧ n ≤ 10 ∧ (∀ i, i < n → -10000 ≤ f i ∧ f i ≤ 10000) ∧ sumF f n = 0

set_option maxHeartbeats 2000000 in
set_option maxRecDepth 100000 in
theorem balanced_any (v : Value) (n : Nat) (f : Nat → Int) (r : Bool) (hr : r = true ↔ Balances n f) (w : World) (hv : Ints w v n f) (hn : n ≤ 1048576) :
    Calls Tryz.prog 75 #[v] w fun e w' => e = .returned (.bool r) ∧ w = w' := by
  obtain ⟨a, b, o, c, rfl, hs⟩ := hv
  have HR := Lib.hid hr
  have HS := Lib.hid hs
  clear hr hs
  by_cases h1 : n < 1
  · obtain rfl : r = false := bool_false HR.out (fun q => by have := q.1; omega)
    have d1 : decide ((n : Int) < 1) = true := by simp; omega
    clear h1
    go_enter Tryz.func75, Tryz.ntmps75
    go_wp2
    go_ret
    exact ⟨rfl, rfl⟩
  · have d1 : decide ((n : Int) < 1) = false := by simp; omega
    by_cases h2 : 10 < n
    · obtain rfl : r = false := bool_false HR.out (fun q => by have := q.2.1; omega)
      have d2 : decide ((10 : Int) < (n : Int)) = true := by simp; omega
      clear h1 h2
      go_enter Tryz.func75, Tryz.ntmps75
      go_wp2
      go_ret
      exact ⟨rfl, rfl⟩
    · have d2 : decide ((10 : Int) < (n : Int)) = false := by simp; omega
      have n10 : n ≤ 10 := by omega
      have n1 : 1 ≤ n := by omega
      clear h1 h2
      go_enter Tryz.func75, Tryz.ntmps75
      go_wp2
      go_loopw [3, 16] (fun v3 v16 wr => ∃ k : Nat, k ≤ n ∧ v16 = .int .i64 (k : Nat) ∧ v3 = .int .i64 (sumF f k) ∧ Hid (∀ i, i < k → -10000 ≤ f i ∧ f i ≤ 10000) ∧ w = wr) (fun _ v16 _ => n - (intOf v16).toNat)
      case atStart => exact ⟨0, by omega, rfl, rfl, Lib.hid (fun i hi => by omega), rfl⟩
      case round =>
        obtain ⟨k, hk, rfl, rfl, HX, rfl⟩ := hrel
        by_cases h : k < n
        · have hix := fun W => ixI HS.out k c h W
          have hc := HS.out.cell k h
          simp only [ic] at hc
          by_cases h3 : f k < -10000
          · obtain rfl : r = false := bool_false HR.out (fun q => by have := q.2.2.1 k h; omega)
            have d3 : decide (f k < -10000) = true := by simpa using h3
            clear h3
            go_wp2
            go_ret
            exact ⟨rfl, rfl⟩
          · have d3 : decide (f k < -10000) = false := by simpa using h3
            by_cases h4 : 10000 < f k
            · obtain rfl : r = false := bool_false HR.out (fun q => by have := q.2.2.1 k h; omega)
              have d4 : decide ((10000 : Int) < f k) = true := by simpa using h4
              clear h3 h4
              go_wp2
              go_ret
              exact ⟨rfl, rfl⟩
            · have d4 : decide ((10000 : Int) < f k) = false := by simpa using h4
              have b2 := sumF_bound f k 10000 (fun i hi => by have := HX.out i hi; omega)
              have hwr : IntKind.i64.wrap (sumF f k + f k) = sumF f k + f k := by rw [IntKind.wrap_i64]; omega
              have HX2 : Hid (∀ i, i < k + 1 → -10000 ≤ f i ∧ f i ≤ 10000) := Lib.hid (fun i hi => by
                by_cases e : i = k
                · subst e; omega
                · exact HX.out i (by omega))
              clear h3 h4 b2
              go_wp2
              go_roundw
              case rel => exact ⟨k + 1, by omega, by go_num, rfl, HX2, by first | rfl | trivial⟩
              case measure => simp [intOf]; omega
        · obtain rfl : k = n := by omega
          by_cases h5 : sumF f k = 0
          · obtain rfl : r = true := HR.out.2 ⟨n1, n10, HX.out, h5⟩
            have d5 : (sumF f k == 0) = true := by simpa using h5
            clear h5
            go_wp2
            go_ret
            exact ⟨rfl, rfl⟩
          · obtain rfl : r = false := bool_false HR.out (fun q => h5 q.2.2.2)
            have d5 : (sumF f k == 0) = false := by simpa using h5
            clear h5
            go_wp2
            go_ret
            exact ⟨rfl, rfl⟩

end Go.Proofs.YtgmopcncbpdniaaGreat
