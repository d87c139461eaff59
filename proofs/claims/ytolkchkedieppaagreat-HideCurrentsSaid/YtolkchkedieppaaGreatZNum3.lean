/- trim and compare of package num do what they say, for all slices. -/
import Derived.Test.YtolkchkedieppaaGreatZTakes
import Derived.Deep.QuietTactic
import Derived.BigQuiet
set_option linter.unusedVariables false
set_option linter.unusedSimpArgs false
namespace Go.Proofs.YtolkchkedieppaaGreat
open Go.RowKit
theorem u32s : Tryz.prog.underlying 110 = some (.slice (Tryz.prog.elem 110)) := by kernel_rfl
theorem s32s (W : World) : (sizeOf (Tryz.prog.elem 110)).run Tryz.prog W = .ok 1 W := by kernel_rfl
/-- limb i of a slice of limbs -/
theorem ix32 {w : World} {a : Option Addr} {b o c n : Nat} {g : Nat → Value} (h : IsSl w a b o c n g) (i : Int) (h0 : 0 ≤ i) (h1 : i < n) (m d : Nat) (W : World) (hm : m ≤ n := by omega) (h2 : i < m := by omega) :
   (Instr.indexAt 110 (.slice a m d) (.int .i64 i)).run Tryz.prog W = .ok (.pointer (some ⟨b, o + i.toNat, none⟩)) W :=
  run_indexAt_opt 110 u32s s32s a b o m d (fun q => h.at_ (by omega)) .i64 i h0 h2 W
theorem trim_any (a : Option Addr) (b o c n : Nat) (f : Nat → Nat) (w : World) (hn : n ≤ 4398046511104) (hx : IsSl w a b o c n (fun i => .int .u32 (f i : Nat))) :
    Calls Tryz.prog 116 #[.slice a n c] w fun e w' => e = .returned (.slice a (trimN f n) c) ∧ w' = w := by
  go_enter Tryz.func116, Tryz.ntmps116
  go_wp2
  go_loop [0] (fun v => ∃ k : Nat, k ≤ n ∧ v = .slice a k c ∧ trimN f k = trimN f n) (fun v => match v with | .slice _ k _ => k | _ => 0)
  case atStart => exact ⟨n, Nat.le_refl _, rfl, rfl⟩
  case round =>
    obtain ⟨k, hk, rfl, ht⟩ := hrel
    have HT := Lib.hid ht
    clear ht
    have hz := sliced_zero
    have hcap := hx.cap
    by_cases h0 : 0 < k
    · have hcell := hx.cell (k - 1) (by omega)
      have hix := fun W => ix32 hx (↑k - 1) (by omega) (by omega) k c W
      have en : ((k : Int) - 1).toNat = k - 1 := by omega
      rw [en] at hix
      clear en
      by_cases h1 : f (k - 1) = 0
      · have h1b : (((f (k - 1) : Nat) : Int) == 0) = true := by simp [h1]
        have H1 := Lib.hid h1
        clear h1
        go_wp2
        go_round
        case rel => exact ⟨k - 1, by omega, rfl, by
          rw [← HT.out]; obtain ⟨j, rfl⟩ : ∃ j, k = j + 1 := ⟨k - 1, by omega⟩
          have h1 := H1.out
          simp only [Nat.add_sub_cancel] at h1 ⊢
          simp [trimN, h1]⟩
        case measure => simp; omega
      · have h1b : (((f (k - 1) : Nat) : Int) == 0) = false := by simp; omega
        have H1 := Lib.hid h1
        clear h1
        go_wp2
        go_ret
        refine ⟨?_, rfl⟩
        rw [← HT.out]
        obtain ⟨j, rfl⟩ : ∃ j, k = j + 1 := ⟨k - 1, by omega⟩
        have h1 := H1.out
        simp only [Nat.add_sub_cancel] at h1
        simp [trimN, h1]
    · clear hcap
      go_wp2
      go_ret
      refine ⟨?_, rfl⟩
      rw [← HT.out]
      obtain rfl : k = 0 := by omega
      rfl
/-- what trim leaves of digits is the number's own digits -/
theorem trim_mag {w : World} {a : Option Addr} {b o c n : Nat} {f : Nat → Nat} (hf : ∀ i, i < n → f i < 4294967296) (hx : IsSl w a b o c n (fun i => .int .u32 (f i : Nat))) : Mag w (.slice a (trimN f n) c) (valF f n) := by
  have hle := trimN_le f n
  have hcap := hx.cap
  refine ⟨a, b, o, c, by rw [nl_valF f n hf], ?_⟩
  rw [nl_valF f n hf]
  exact ⟨by omega, fun q => hx.at_ (by omega), fun q => hx.lt (by omega), fun i hi => by rw [hx.cell i (by omega), lc, dig_valF f n hf i (by omega)], hx.nc⟩
def cmpN (x y : Nat) : Int := if x < y then -1 else if x = y then 0 else 1
theorem div_step (x k : Nat) : x / 4294967296 ^ k = (x / 4294967296 ^ (k + 1)) * 4294967296 + dig x k := by
  unfold dig
  rw [Nat.pow_succ, ← Nat.div_div_eq_div_mul]
  omega
theorem compare_any (u v : Value) (x y : Nat) (w : World) (hu : Mag w u x) (hv : Mag w v y) (bx : nl x ≤ 4398046511104) (_by : nl y ≤ 4398046511104) :
    Calls Tryz.prog 142 #[u, v] w fun e w' => e = .returned (.int .i64 (cmpN x y)) ∧ Drawn w w' := by
  obtain ⟨a1, b1, o1, c1, rfl, i1⟩ := hu
  obtain ⟨a2, b2, o2, c2, rfl, i2⟩ := hv
  by_cases hl : nl x = nl y
  · have hl1 : (((nl x : Nat) : Int) != ((nl y : Nat) : Int)) = false := by simp [hl]
    have HL := Lib.hid hl
    clear hl
    go_enter Tryz.func142, Tryz.ntmps142
    go_wp2
    go_loopw [5] (fun i wr => ∃ k m : Nat, k ≤ nl x ∧ i = .int .i64 ((k : Int) - 1) ∧ wr = w.drewN m ∧ x / 4294967296 ^ k = y / 4294967296 ^ k) (fun i _ => (intOf i + 1).toNat)
    case atStart => exact ⟨nl x, 0, Nat.le_refl _, rfl, rfl, by
      rw [Nat.div_eq_of_lt (lt_pow_nl x), HL.out, Nat.div_eq_of_lt (lt_pow_nl y)]⟩
    case round =>
      obtain ⟨k, m, hk, rfl, rfl, hq⟩ := hrel
      have HQ := Lib.hid hq
      clear hq
      by_cases h0 : 0 < k
      · have hc1 := i1.cell (k - 1) (by omega)
        have hc2 := i2.cell (k - 1) (by rw [← HL.out]; omega)
        have hx1 := fun W => ix32 i1 (↑k - 1) (by omega) (by omega) (nl x) c1 W
        have hx2 := fun W => ix32 i2 (↑k - 1) (by omega) (by rw [← HL.out]; omega) (nl y) c2 W (Nat.le_refl _) (by rw [← HL.out]; omega)
        have en : ((k : Int) - 1).toNat = k - 1 := by omega
        rw [en] at hx1 hx2
        clear en
        simp only [lc] at hc1 hc2
        have hs : 1 ≤ k := h0
        by_cases h1 : dig x (k - 1) = dig y (k - 1)
        · have h1b : (((dig x (k - 1) : Nat) : Int) != ((dig y (k - 1) : Nat) : Int)) = false := by simp [h1]
          have H1 := Lib.hid h1
          clear h1
          go_wp2
          go_quiet (fail)
          go_wp2
          go_roundw
          case rel => exact ⟨k - 1, _, by omega, by congr 1; omega, rfl, by
            have e1 := div_step x (k - 1)
            have e2 := div_step y (k - 1)
            rw [show k - 1 + 1 = k from by omega] at e1 e2
            rw [e1, e2, HQ.out, H1.out]⟩
          case measure => simp [intOf]; omega
        · have h1b : (((dig x (k - 1) : Nat) : Int) != ((dig y (k - 1) : Nat) : Int)) = true := by simp; omega
          have e1 := div_step x (k - 1)
          have e2 := div_step y (k - 1)
          rw [show k - 1 + 1 = k from by omega] at e1 e2
          have hlt : dig x (k - 1) < dig y (k - 1) → x < y := fun h => by
            rcases Nat.lt_or_ge x y with q | q
            · exact q
            · have := Nat.div_le_div_right (c := 4294967296 ^ (k - 1)) q
              rw [e1, e2, HQ.out] at this; omega
          have hgt : ¬ dig x (k - 1) < dig y (k - 1) → y < x := fun h => by
            rcases Nat.lt_or_ge y x with q | q
            · exact q
            · have := Nat.div_le_div_right (c := 4294967296 ^ (k - 1)) q
              rw [e1, e2, HQ.out] at this; omega
          have HLT := Lib.hid hlt
          have HGT := Lib.hid hgt
          clear hlt hgt e1 e2 h1
          by_cases hd : dig x (k - 1) < dig y (k - 1)
          · have hd1 : decide (((dig x (k - 1) : Nat) : Int) < ((dig y (k - 1) : Nat) : Int)) = true := by simpa using hd
            have HD := Lib.hid hd
            clear hd
            go_wp2
            go_quiet (fail)
            go_wp2
            go_quiet (fail)
            go_wp2
            go_ret
            refine ⟨?_, by first | exact Drawn.of _ _ | exact ((Drawn.of _ _).step _).step _⟩
            simp [cmpN, HLT.out HD.out]
          · have hd1 : decide (((dig x (k - 1) : Nat) : Int) < ((dig y (k - 1) : Nat) : Int)) = false := by simp; omega
            have HD := Lib.hid hd
            clear hd
            go_wp2
            go_quiet (fail)
            go_wp2
            go_quiet (fail)
            go_wp2
            go_ret
            refine ⟨?_, by first | exact Drawn.of _ _ | exact ((Drawn.of _ _).step _).step _⟩
            have := HGT.out HD.out
            simp only [cmpN]
            rw [if_neg (by omega), if_neg (by omega)]; rfl
      · go_wp2
        go_ret
        refine ⟨?_, by first | exact Drawn.of _ _ | exact ((Drawn.of _ _).step _).step _⟩
        have := HQ.out
        obtain rfl : k = 0 := by omega
        simp at this
        simp [cmpN, this]
  · have hl1 : (((nl x : Nat) : Int) != ((nl y : Nat) : Int)) = true := by simp; omega
    by_cases hd : nl x < nl y
    · have HD := Lib.hid hl
      clear hl
      have hd1 : decide (((nl x : Nat) : Int) < ((nl y : Nat) : Int)) = true := by simpa using hd
      go_enter Tryz.func142, Tryz.ntmps142
      go_wp2
      go_ret
      refine ⟨?_, Drawn.refl _⟩
      have : x < y := by
        rcases Nat.lt_or_ge x y with q | q
        · exact q
        · have := nl_mono q; omega
      simp [cmpN, this]
    · have HD := Lib.hid hl
      clear hl
      have hd1 : decide (((nl x : Nat) : Int) < ((nl y : Nat) : Int)) = false := by simp; omega
      go_enter Tryz.func142, Tryz.ntmps142
      go_wp2
      go_ret
      refine ⟨?_, Drawn.refl _⟩
      have : y < x := by
        rcases Nat.lt_or_ge y x with q | q
        · exact q
        · have := nl_mono q; have := HD.out; omega
      simp only [cmpN]
      rw [if_neg (by omega), if_neg (by omega)]; rfl
end Go.Proofs.YtolkchkedieppaaGreat

/- Add32, Sub32 of math/bits; plus, minus of package num: sums and differences of limbs, for all slices. -/
namespace Go.Proofs.YtolkchkedieppaaGreat
open Go.RowKit
theorem add32_any (x y c : Int) (w : World) (hx : 0 ≤ x) (hx2 : x < 4294967296) (hy : 0 ≤ y) (hy2 : y < 4294967296) (hc : 0 ≤ c) (hc2 : c ≤ 4294967295) :
    Calls Tryz.prog 191 #[.int .u32 x, .int .u32 y, .int .u32 c] w fun e w' => e = .returned (.tuple #[.int .u32 ((x + y + c) % 4294967296), .int .u32 ((x + y + c) / 4294967296)]) ∧ w' = w := by
  go_enter Tryz.func191, Tryz.ntmps191
  go_wp2
  go_ret2
  exact ⟨rfl, rfl⟩
def borrow (x y c : Int) : Int := if x < y + c then 1 else 0
theorem borrow_le (x y c : Int) : 0 ≤ borrow x y c ∧ borrow x y c ≤ 1 := by unfold borrow; split <;> omega
theorem top_bit (n : Nat) (h : n < 4294967296) : n / 2147483648 = (n.testBit 31).toNat := by
  rw [Nat.testBit_eq_decide_div_mod_eq]
  have : n / 2 ^ 31 % 2 = n / 2147483648 := by omega
  rw [this]
  have : n / 2147483648 < 2 := by omega
  by_cases e : n / 2147483648 = 1 <;> simp [e]; omega
theorem top_bit_dec (n : Nat) (h : n < 4294967296) : n.testBit 31 = decide (2147483648 ≤ n) := by
  rw [Nat.testBit_eq_decide_div_mod_eq]
  have : n / 2 ^ 31 % 2 = n / 2147483648 := by omega
  rw [this]
  by_cases e : 2147483648 ≤ n <;> simp [e] <;> omega
theorem borrow_bits (x y c d : Int) (hx : 0 ≤ x) (hx2 : x < 4294967296) (hy : 0 ≤ y) (hy2 : y < 4294967296) (hc : 0 ≤ c) (hc2 : c ≤ 1) (hd : d = (x - y - c) % 4294967296) :
   bits BinOp.or IntKind.u32 (bits BinOp.and IntKind.u32 (bits BinOp.xor IntKind.u32 IntKind.u32.max x) y)
                (bits BinOp.and IntKind.u32 (bits BinOp.xor IntKind.u32 IntKind.u32.max (bits BinOp.xor IntKind.u32 x y)) d) / 2147483648 = borrow x y c := by
  obtain ⟨X, rfl⟩ := Int.eq_ofNat_of_zero_le hx
  obtain ⟨Y, rfl⟩ := Int.eq_ofNat_of_zero_le hy
  obtain ⟨D, rfl⟩ := Int.eq_ofNat_of_zero_le (a := d) (by omega)
  have em : IntKind.u32.max = ((4294967295 : Nat) : Int) := rfl
  have bx : X < 4294967296 := by omega
  have byy : Y < 4294967296 := by omega
  have bd : D < 4294967296 := by omega
  have lim : ∀ n : Nat, n < 4294967296 ↔ n < 2 ^ 32 := fun n => by simp
  have b1 : 4294967295 ^^^ X < 4294967296 := (lim _).2 (Nat.xor_lt_two_pow (by omega) ((lim _).1 bx))
  have b2 : X ^^^ Y < 4294967296 := (lim _).2 (Nat.xor_lt_two_pow ((lim _).1 bx) ((lim _).1 byy))
  have b3 : 4294967295 ^^^ (X ^^^ Y) < 4294967296 := (lim _).2 (Nat.xor_lt_two_pow (by omega) ((lim _).1 b2))
  have b4 : (4294967295 ^^^ X) &&& Y < 4294967296 := Nat.lt_of_le_of_lt Nat.and_le_right byy
  have b5 : (4294967295 ^^^ (X ^^^ Y)) &&& D < 4294967296 := Nat.lt_of_le_of_lt Nat.and_le_right bd
  have b6 : ((4294967295 ^^^ X) &&& Y) ||| ((4294967295 ^^^ (X ^^^ Y)) &&& D) < 4294967296 := (lim _).2 (Nat.or_lt_two_pow ((lim _).1 b4) ((lim _).1 b5))
  rw [em, u32_xor_nat _ _ (by omega) bx, u32_xor_nat _ _ bx byy, u32_xor_nat _ _ (by omega) b2, u32_and_nat _ _ b1 byy, u32_and_nat _ _ b3 bd, u32_or_nat _ _ b4 b5]
  have e : ((((4294967295 ^^^ X) &&& Y) ||| ((4294967295 ^^^ (X ^^^ Y)) &&& D) : Nat) : Int) / 2147483648 = (((((4294967295 ^^^ X) &&& Y) ||| ((4294967295 ^^^ (X ^^^ Y)) &&& D)) / 2147483648 : Nat) : Int) := by omega
  rw [e, top_bit _ b6]
  simp only [Nat.testBit_or, Nat.testBit_and, Nat.testBit_xor, top_bit_dec X bx, top_bit_dec Y byy, top_bit_dec D bd, top_bit_dec 4294967295 (by omega)]
  unfold borrow
  by_cases p : 2147483648 ≤ X <;> by_cases q : 2147483648 ≤ Y <;> by_cases r : 2147483648 ≤ D <;> simp [p, q, r] <;> first | rfl | (split <;> omega) | omega
theorem sub32_any (x y c : Int) (w : World) (hx : 0 ≤ x) (hx2 : x < 4294967296) (hy : 0 ≤ y) (hy2 : y < 4294967296) (hc : 0 ≤ c) (hc2 : c ≤ 1) :
    Calls Tryz.prog 190 #[.int .u32 x, .int .u32 y, .int .u32 c] w fun e w' => e = .returned (.tuple #[.int .u32 ((x - y - c) % 4294967296), .int .u32 (borrow x y c)]) ∧ w' = w := by
  have hb := borrow_bits x y c _ hx hx2 hy hy2 hc hc2 rfl
  have HB := Lib.hid hb
  clear hb
  go_enter Tryz.func190, Tryz.ntmps190
  go_wp2
  go_ret2
  refine ⟨?_, rfl⟩
  rw [← HB.out]
  rfl
end Go.Proofs.YtolkchkedieppaaGreat

/- plus and minus of package num: the sum and the difference of two sizes. -/
namespace Go.Proofs.YtolkchkedieppaaGreat
open Go.RowKit
theorem info32 : (Tryz.prog.info? 166).map (fun i => (i.zero, i.size, i.bytes)) = some (some (.int .u32 0), 1, 4) := by kernel_rfl
/-- a row of the call's own, as a slice of its first n cells -/
theorem IsSl.of_row {w : World} {b t n m : Nat} {g : Nat → Value} (h : w.rowIs b t m g) (hn : n ≤ m) (c : Nat) (hc : n ≤ c) : IsSl w (some ⟨b, 0, none⟩) b 0 c n g :=
  ⟨hc, fun _ => rfl, fun _ => h.lt, fun i hi => by rw [Nat.zero_add]; exact h.cell (by omega), fun e => by cases e⟩
theorem add_step (v x y cy dx dy P : Nat) (h : v + cy * P = x + y) :
    v + (dx + dy + cy) % 4294967296 * P + (dx + dy + cy) / 4294967296 * (P * 4294967296) = (x + dx * P) + (y + dy * P) := by
  have e := Nat.div_add_mod (dx + dy + cy) 4294967296
  generalize (dx + dy + cy) / 4294967296 = q at *
  generalize (dx + dy + cy) % 4294967296 = r at *
  have : r * P + q * (P * 4294967296) = (dx + dy + cy) * P := by rw [← e]; grind
  have h2 : (dx + dy + cy) * P = dx * P + dy * P + cy * P := by grind
  omega
theorem sub_step (v x y cy dx dy P : Nat) (d b : Nat) (h : v + y = x + cy * P) (hd : (d : Int) = ((dx : Int) - dy - cy) % 4294967296) (hb : (b : Int) = if (dx : Int) < dy + cy then 1 else 0)
    (h1 : dx < 4294967296) (h2 : dy < 4294967296) (h3 : cy ≤ 1) :
    v + d * P + (y + dy * P) = (x + dx * P) + b * (P * 4294967296) := by
  have e : (d : Int) + dy + cy = dx + 4294967296 * b := by
    split at hb <;> omega
  have e2 : d + dy + cy = dx + 4294967296 * b := by omega
  have e3 : d * P + dy * P + cy * P = dx * P + 4294967296 * b * P := by rw [← Nat.add_mul, ← Nat.add_mul, ← Nat.add_mul, e2]
  have e4 : 4294967296 * b * P = b * (P * 4294967296) := by grind
  omega
/-- f with one digit set -/
def upd (f : Nat → Nat) (k d : Nat) : Nat → Nat := fun j => if j = k then d else f j
theorem upd_lt {f : Nat → Nat} {k d n : Nat} (hf : ∀ j, j < n → f j < 4294967296) (hd : d < 4294967296) : ∀ j, j < n → upd f k d j < 4294967296 := by
  intro j hj; unfold upd; split
  · exact hd
  · exact hf j hj
theorem valF_upd (f : Nat → Nat) (k d n : Nat) (h : n ≤ k) : valF (upd f k d) n = valF f n :=
  valF_congr (fun i hi => by unfold upd; rw [if_neg (by omega)])
theorem upd_self (f : Nat → Nat) (k d : Nat) : upd f k d k = d := by simp [upd]
theorem row_upd {w : World} {b n k : Nat} {f : Nat → Nat} (h : w.rowIs b 166 n (fun j => .int .u32 (f j : Nat))) (d : Nat) (u : Value) (hu : u = .int .u32 (d : Nat)) :
    (w.setCell ⟨b, k, none⟩ u).rowIs b 166 n (fun j => .int .u32 (upd f k d j : Nat)) := by
  subst hu
  exact (h.set k _).congr (fun i hi => by unfold upd; split <;> rfl)
theorem valF_dig_le (x n : Nat) (h : nl x ≤ n) : valF (dig x) n = x := by
  rw [valF_dig, Nat.mod_eq_of_lt ((nl_le x n).1 h)]
set_option maxHeartbeats 1000000 in
theorem plus_any (u v : Value) (x y : Nat) (w : World) (hu : Mag w u x) (hv : Mag w v y) (bx : nl x ≤ 1099511627776) (b_y : nl y ≤ 1099511627776) :
    Calls Tryz.prog 148 #[u, v] w fun e w' => ∃ r, e = .returned r ∧ Mag w' r (x + y) ∧ Below w.heap.size w w' := by
  obtain ⟨a1, b1, o1, c1, rfl, i1⟩ := hu
  obtain ⟨a2, b2, o2, c2, rfl, i2⟩ := hv
  by_cases hd : nl x < nl y
  · have hd1 : decide (((nl x : Nat) : Int) < ((nl y : Nat) : Int)) = true := by simpa using hd
    have hmk := run_make_row' (P := Tryz.prog) 110 166 (.int .u32 0) 4 Tryz.underlying110 info32 rfl .i64 .i64 (nl y + 1) (by omega) (by omega)
    have ec : ((nl y + 1 : Nat) : Int) = (nl y : Int) + 1 := by omega
    rw [ec] at hmk
    clear ec
    have hrow := World.rowIs_made w (.int .u32 0) (nl y + 1) 166
    have hbel : Below w.heap.size w (w.alloc (.cells (madeCells #[.int .u32 0] (nl y + 1)) 166)) := (Below.refl _ _).alloc (Nat.le_refl _) _
    have HR := Lib.hid hrow
    have HB := Lib.hid hbel
    clear hrow hbel
    go_enter Tryz.func148, Tryz.ntmps148
    go_wp2
    go_loopw [6, 22] (fun cy i wr => ∃ (k d : Nat) (f : Nat → Nat), k ≤ nl y ∧ i = .int .i64 k ∧ cy = .int .u32 d ∧ d ≤ 1 ∧ wr.rowIs w.heap.size 166 (nl y + 1) (fun j => .int .u32 (f j : Nat)) ∧
        (∀ j, j < k → f j < 4294967296) ∧ valF f k + d * 4294967296 ^ k = valF (dig y) k + valF (dig x) k ∧ Below w.heap.size w wr) (fun _ i _ => nl y - (intOf i).toNat)
    case atStart => exact ⟨0, 0, fun _ => 0, Nat.zero_le _, rfl, rfl, by omega, HR.out, fun j hj => by omega, by simp [valF], HB.out⟩
    case round =>
      obtain ⟨k, d, f, hk, rfl, rfl, hd1, hrow, hf, hv, hb⟩ := hrel
      have HV := Lib.hid hv
      have HF := Lib.hid hf
      clear hv hf hmk
      have hc := hrow.cell (i := k) (by omega)
      have hfz := hrow.frozen k
      by_cases hlt : k < nl y
      · have j1 := i2.mono hb (Nat.le_refl _)
        have hc1 := j1.cell k hlt
        have hx1 := fun W => ix32 j1 (k : Int) (by omega) (by omega) (nl y) c2 W
        simp only [Int.toNat_natCast] at hx1
        simp only [lc] at hc1
        have hdx := dig_lt y k
        by_cases hy : k < nl x
        · have j2 := i1.mono hb (Nat.le_refl _)
          have hc2 := j2.cell k hy
          have hx2 := fun W => ix32 j2 (k : Int) (by omega) (by omega) (nl x) c1 W
          simp only [Int.toNat_natCast] at hx2
          simp only [lc] at hc2
          have hdy := dig_lt x k
          clear j1 j2
          go_wp2_with (go_at_call 191; refine (add32_any _ _ _ _ (by omega) (by omega) (by omega) (by omega) (by omega) (by omega)).mono ?_; rintro e w' ⟨rfl, rfl⟩)
          have hu : Value.int IntKind.u32 (((dig y k : Int) + dig x k + d) % 4294967296) = .int .u32 (((dig y k + dig x k + d) % 4294967296 : Nat) : Int) := by congr 1
          go_roundw
          case rel => exact ⟨k + 1, (dig y k + dig x k + d) / 4294967296, upd f k ((dig y k + dig x k + d) % 4294967296), by omega, by go_num, by congr 1, by omega, row_upd hrow _ _ hu,
            (fun j hj => by
              by_cases e : j = k
              · rw [e, upd_self]; omega
              · unfold upd; rw [if_neg e]; exact HF.out j (by omega)), (by
            simp only [valF, valF_upd f k _ k (Nat.le_refl _), upd_self, Nat.pow_succ]
            have := add_step _ _ _ d (dig y k) (dig x k) _ HV.out
            omega), hb.setCell (Nat.le_refl _) _⟩
          case measure => simp [intOf]; omega
        · have hz : dig x k = 0 := dig_zero_of_lt (lt_pow_nl x) (by omega)
          have HZ := Lib.hid hz
          clear hz j1
          go_wp2_with (go_at_call 191; refine (add32_any _ _ _ _ (by omega) (by omega) (by omega) (by omega) (by omega) (by omega)).mono ?_; rintro e w' ⟨rfl, rfl⟩)
          have hu : Value.int IntKind.u32 (((dig y k : Int) + 0 + d) % 4294967296) = .int .u32 (((dig y k + dig x k + d) % 4294967296 : Nat) : Int) := by congr 1; rw [HZ.out]; omega
          have hu1 : Value.int IntKind.u32 (((dig y k : Int) + d) % 4294967296) = .int .u32 (((dig y k + dig x k + d) % 4294967296 : Nat) : Int) := by congr 1; rw [HZ.out]; omega
          go_roundw
          case rel => exact ⟨k + 1, (dig y k + dig x k + d) / 4294967296, upd f k ((dig y k + dig x k + d) % 4294967296), by omega, by go_num, by congr 1; rw [HZ.out]; omega, by have := HZ.out; omega, by first | exact row_upd hrow _ _ hu | exact row_upd hrow _ _ hu1,
            (fun j hj => by
              by_cases e : j = k
              · rw [e, upd_self]; omega
              · unfold upd; rw [if_neg e]; exact HF.out j (by omega)), (by
            simp only [valF, valF_upd f k _ k (Nat.le_refl _), upd_self, Nat.pow_succ]
            have := add_step _ _ _ d (dig y k) (dig x k) _ HV.out
            omega), hb.setCell (Nat.le_refl _) _⟩
          case measure => simp [intOf]; omega
      · obtain rfl : k = nl y := by omega
        have hrow2 : ∀ u, u = Value.int .u32 (d : Nat) → (wr.setCell ⟨w.heap.size, nl y, none⟩ u).rowIs w.heap.size 166 (nl y + 1) (fun j => .int .u32 (upd f (nl y) d j : Nat)) := fun u hu => row_upd hrow _ _ hu
        have HR2 := Lib.hid hrow2
        clear hrow2
        go_wp2_with (go_at_call 116; refine (trim_any _ w.heap.size 0 _ _ (upd f (nl y) d) _ (by omega) (IsSl.of_row (HR2.out _ rfl) (Nat.le_refl _) _ (Nat.le_refl _))).mono ?_; rintro e w' ⟨rfl, rfl⟩)
        go_ret
        refine ⟨_, rfl, ?_, hb.setCell (Nat.le_refl _) _⟩
        have hall : ∀ j, j < nl y + 1 → upd f (nl y) d j < 4294967296 := fun j hj => by
          by_cases e : j = nl y
          · rw [e, upd_self]; omega
          · unfold upd; rw [if_neg e]; exact HF.out j (by omega)
        have hval : valF (upd f (nl y) d) (nl y + 1) = x + y := by
          simp only [valF, valF_upd f _ _ _ (Nat.le_refl _), upd_self]
          rw [HV.out, valF_nl, valF_dig_le x _ (by omega)]
          try omega
        rw [← hval]
        exact trim_mag hall (IsSl.of_row (HR2.out _ rfl) (Nat.le_refl _) _ (Nat.le_refl _))
  · have hd1 : decide (((nl x : Nat) : Int) < ((nl y : Nat) : Int)) = false := by simp; omega
    have hmk := run_make_row' (P := Tryz.prog) 110 166 (.int .u32 0) 4 Tryz.underlying110 info32 rfl .i64 .i64 (nl x + 1) (by omega) (by omega)
    have ec : ((nl x + 1 : Nat) : Int) = (nl x : Int) + 1 := by omega
    rw [ec] at hmk
    clear ec
    have hrow := World.rowIs_made w (.int .u32 0) (nl x + 1) 166
    have hbel : Below w.heap.size w (w.alloc (.cells (madeCells #[.int .u32 0] (nl x + 1)) 166)) := (Below.refl _ _).alloc (Nat.le_refl _) _
    have HR := Lib.hid hrow
    have HB := Lib.hid hbel
    clear hrow hbel
    go_enter Tryz.func148, Tryz.ntmps148
    go_wp2
    go_loopw [6, 22] (fun cy i wr => ∃ (k d : Nat) (f : Nat → Nat), k ≤ nl x ∧ i = .int .i64 k ∧ cy = .int .u32 d ∧ d ≤ 1 ∧ wr.rowIs w.heap.size 166 (nl x + 1) (fun j => .int .u32 (f j : Nat)) ∧
        (∀ j, j < k → f j < 4294967296) ∧ valF f k + d * 4294967296 ^ k = valF (dig x) k + valF (dig y) k ∧ Below w.heap.size w wr) (fun _ i _ => nl x - (intOf i).toNat)
    case atStart => exact ⟨0, 0, fun _ => 0, Nat.zero_le _, rfl, rfl, by omega, HR.out, fun j hj => by omega, by simp [valF], HB.out⟩
    case round =>
      obtain ⟨k, d, f, hk, rfl, rfl, hd1, hrow, hf, hv, hb⟩ := hrel
      have HV := Lib.hid hv
      have HF := Lib.hid hf
      clear hv hf hmk
      have hc := hrow.cell (i := k) (by omega)
      have hfz := hrow.frozen k
      by_cases hlt : k < nl x
      · have j1 := i1.mono hb (Nat.le_refl _)
        have hc1 := j1.cell k hlt
        have hx1 := fun W => ix32 j1 (k : Int) (by omega) (by omega) (nl x) c1 W
        simp only [Int.toNat_natCast] at hx1
        simp only [lc] at hc1
        have hdx := dig_lt x k
        by_cases hy : k < nl y
        · have j2 := i2.mono hb (Nat.le_refl _)
          have hc2 := j2.cell k hy
          have hx2 := fun W => ix32 j2 (k : Int) (by omega) (by omega) (nl y) c2 W
          simp only [Int.toNat_natCast] at hx2
          simp only [lc] at hc2
          have hdy := dig_lt y k
          clear j1 j2
          go_wp2_with (go_at_call 191; refine (add32_any _ _ _ _ (by omega) (by omega) (by omega) (by omega) (by omega) (by omega)).mono ?_; rintro e w' ⟨rfl, rfl⟩)
          have hu : Value.int IntKind.u32 (((dig x k : Int) + dig y k + d) % 4294967296) = .int .u32 (((dig x k + dig y k + d) % 4294967296 : Nat) : Int) := by congr 1
          go_roundw
          case rel => exact ⟨k + 1, (dig x k + dig y k + d) / 4294967296, upd f k ((dig x k + dig y k + d) % 4294967296), by omega, by go_num, by congr 1, by omega, row_upd hrow _ _ hu,
            (fun j hj => by
              by_cases e : j = k
              · rw [e, upd_self]; omega
              · unfold upd; rw [if_neg e]; exact HF.out j (by omega)), (by
            simp only [valF, valF_upd f k _ k (Nat.le_refl _), upd_self, Nat.pow_succ]
            have := add_step _ _ _ d (dig x k) (dig y k) _ HV.out
            omega), hb.setCell (Nat.le_refl _) _⟩
          case measure => simp [intOf]; omega
        · have hz : dig y k = 0 := dig_zero_of_lt (lt_pow_nl y) (by omega)
          have HZ := Lib.hid hz
          clear hz j1
          go_wp2_with (go_at_call 191; refine (add32_any _ _ _ _ (by omega) (by omega) (by omega) (by omega) (by omega) (by omega)).mono ?_; rintro e w' ⟨rfl, rfl⟩)
          have hu : Value.int IntKind.u32 (((dig x k : Int) + 0 + d) % 4294967296) = .int .u32 (((dig x k + dig y k + d) % 4294967296 : Nat) : Int) := by congr 1; rw [HZ.out]; omega
          have hu1 : Value.int IntKind.u32 (((dig x k : Int) + d) % 4294967296) = .int .u32 (((dig x k + dig y k + d) % 4294967296 : Nat) : Int) := by congr 1; rw [HZ.out]; omega
          go_roundw
          case rel => exact ⟨k + 1, (dig x k + dig y k + d) / 4294967296, upd f k ((dig x k + dig y k + d) % 4294967296), by omega, by go_num, by congr 1; rw [HZ.out]; omega, by have := HZ.out; omega, by first | exact row_upd hrow _ _ hu | exact row_upd hrow _ _ hu1,
            (fun j hj => by
              by_cases e : j = k
              · rw [e, upd_self]; omega
              · unfold upd; rw [if_neg e]; exact HF.out j (by omega)), (by
            simp only [valF, valF_upd f k _ k (Nat.le_refl _), upd_self, Nat.pow_succ]
            have := add_step _ _ _ d (dig x k) (dig y k) _ HV.out
            omega), hb.setCell (Nat.le_refl _) _⟩
          case measure => simp [intOf]; omega
      · obtain rfl : k = nl x := by omega
        have hrow2 : ∀ u, u = Value.int .u32 (d : Nat) → (wr.setCell ⟨w.heap.size, nl x, none⟩ u).rowIs w.heap.size 166 (nl x + 1) (fun j => .int .u32 (upd f (nl x) d j : Nat)) := fun u hu => row_upd hrow _ _ hu
        have HR2 := Lib.hid hrow2
        clear hrow2
        go_wp2_with (go_at_call 116; refine (trim_any _ w.heap.size 0 _ _ (upd f (nl x) d) _ (by omega) (IsSl.of_row (HR2.out _ rfl) (Nat.le_refl _) _ (Nat.le_refl _))).mono ?_; rintro e w' ⟨rfl, rfl⟩)
        go_ret
        refine ⟨_, rfl, ?_, hb.setCell (Nat.le_refl _) _⟩
        have hall : ∀ j, j < nl x + 1 → upd f (nl x) d j < 4294967296 := fun j hj => by
          by_cases e : j = nl x
          · rw [e, upd_self]; omega
          · unfold upd; rw [if_neg e]; exact HF.out j (by omega)
        have hval : valF (upd f (nl x) d) (nl x + 1) = x + y := by
          simp only [valF, valF_upd f _ _ _ (Nat.le_refl _), upd_self]
          rw [HV.out, valF_nl, valF_dig_le y _ (by omega)]
          try omega
        rw [← hval]
        exact trim_mag hall (IsSl.of_row (HR2.out _ rfl) (Nat.le_refl _) _ (Nat.le_refl _))
set_option maxHeartbeats 1000000 in
theorem minus_any (u v : Value) (x y : Nat) (w : World) (hu : Mag w u x) (hv : Mag w v y) (hle : y ≤ x) (bx : nl x ≤ 1099511627776) :
    Calls Tryz.prog 149 #[u, v] w fun e w' => ∃ r, e = .returned r ∧ Mag w' r (x - y) ∧ Below w.heap.size w w' := by
  obtain ⟨a1, b1, o1, c1, rfl, i1⟩ := hu
  obtain ⟨a2, b2, o2, c2, rfl, i2⟩ := hv
  have hny := nl_mono hle
  have HLE := Lib.hid hle
  clear hle
  have hmk := run_make_row' (P := Tryz.prog) 110 166 (.int .u32 0) 4 Tryz.underlying110 info32 rfl .i64 .i64 (nl x) (by omega) (by omega)
  have hrow := World.rowIs_made w (.int .u32 0) (nl x) 166
  have hbel : Below w.heap.size w (w.alloc (.cells (madeCells #[.int .u32 0] (nl x)) 166)) := (Below.refl _ _).alloc (Nat.le_refl _) _
  have HR := Lib.hid hrow
  have HB := Lib.hid hbel
  clear hrow hbel
  go_enter Tryz.func149, Tryz.ntmps149
  go_wp2
  go_loopw [6, 14] (fun cy i wr => ∃ (k d : Nat) (f : Nat → Nat), k ≤ nl x ∧ i = .int .i64 k ∧ cy = .int .u32 d ∧ d ≤ 1 ∧ wr.rowIs w.heap.size 166 (nl x) (fun j => .int .u32 (f j : Nat)) ∧
      (∀ j, j < k → f j < 4294967296) ∧ valF f k + valF (dig y) k = valF (dig x) k + d * 4294967296 ^ k ∧ Below w.heap.size w wr) (fun _ i _ => nl x - (intOf i).toNat)
  case atStart => exact ⟨0, 0, fun _ => 0, Nat.zero_le _, rfl, rfl, by omega, HR.out, fun j hj => by omega, by simp [valF], HB.out⟩
  case round =>
    obtain ⟨k, d, f, hk, rfl, rfl, hd1, hrow, hf, hv, hb⟩ := hrel
    have HV := Lib.hid hv
    have HF := Lib.hid hf
    clear hv hf hmk
    by_cases hlt : k < nl x
    · have hc := hrow.cell (i := k) (by omega)
      have hfz := hrow.frozen k
      have j1 := i1.mono hb (Nat.le_refl _)
      have hc1 := j1.cell k hlt
      have hx1 := fun W => ix32 j1 (k : Int) (by omega) (by omega) (nl x) c1 W
      simp only [Int.toNat_natCast] at hx1
      simp only [lc] at hc1
      have hdx := dig_lt x k
      by_cases hy : k < nl y
      · have j2 := i2.mono hb (Nat.le_refl _)
        have hc2 := j2.cell k hy
        have hx2 := fun W => ix32 j2 (k : Int) (by omega) (by omega) (nl y) c2 W
        simp only [Int.toNat_natCast] at hx2
        simp only [lc] at hc2
        have hdy := dig_lt y k
        clear j1 j2
        have hbw := borrow_le (dig x k) (dig y k : Int) d
        obtain ⟨d2, hd2⟩ := Int.eq_ofNat_of_zero_le hbw.1
        obtain ⟨q, hq⟩ := Int.eq_ofNat_of_zero_le (a := ((dig x k : Int) - (dig y k : Int) - d) % 4294967296) (by omega)
        have hbl : d2 ≤ 1 := by omega
        have hql : q < 4294967296 := by omega
        have hstep : valF f k + q * 4294967296 ^ k + (valF (dig y) k + dig y k * 4294967296 ^ k) = (valF (dig x) k + dig x k * 4294967296 ^ k) + d2 * (4294967296 ^ k * 4294967296) := by
          refine sub_step _ _ _ d _ _ _ q d2 HV.out ?_ ?_ hdx (dig_lt _ _) hd1
          · rw [← hq]
          · rw [← hd2]; unfold borrow; rfl
        have HS := Lib.hid hstep
        have HD2 := Lib.hid hd2
        have HQ := Lib.hid hq
        clear hstep hd2 hq hbw
        go_wp2_with (go_at_call 190; refine (sub32_any _ _ _ _ (by omega) (by omega) (by omega) (by omega) (by omega) (by omega)).mono ?_; rintro e w' ⟨rfl, rfl⟩)
        go_roundw
        case rel => exact ⟨k + 1, d2, upd f k q, by omega, by go_num, by rw [← HD2.out], hbl, row_upd hrow _ _ (by first | (rw [← HQ.out]; done) | rw [← HQ.out, Int.sub_zero]),
          (fun j hj => by
            by_cases e : j = k
            · rw [e, upd_self]; exact hql
            · unfold upd; rw [if_neg e]; exact HF.out j (by omega)), (by
          simp only [valF, valF_upd f k _ k (Nat.le_refl _), upd_self, Nat.pow_succ]
          exact HS.out), hb.setCell (Nat.le_refl _) _⟩
        case measure => simp [intOf]; omega
      · have hz : dig y k = 0 := dig_zero_of_lt (lt_pow_nl y) (by omega)
        have HZ := Lib.hid hz
        clear hz j1
        have hbw := borrow_le (dig x k) 0 d
        obtain ⟨d2, hd2⟩ := Int.eq_ofNat_of_zero_le hbw.1
        obtain ⟨q, hq⟩ := Int.eq_ofNat_of_zero_le (a := ((dig x k : Int) - 0 - d) % 4294967296) (by omega)
        have hbl : d2 ≤ 1 := by omega
        have hql : q < 4294967296 := by omega
        have hstep : valF f k + q * 4294967296 ^ k + (valF (dig y) k + dig y k * 4294967296 ^ k) = (valF (dig x) k + dig x k * 4294967296 ^ k) + d2 * (4294967296 ^ k * 4294967296) := by
          refine sub_step _ _ _ d _ _ _ q d2 HV.out ?_ ?_ hdx (dig_lt _ _) hd1
          · rw [← hq]; rw [HZ.out]; rfl
          · rw [← hd2]; unfold borrow; rw [HZ.out]; rfl
        have HS := Lib.hid hstep
        have HD2 := Lib.hid hd2
        have HQ := Lib.hid hq
        clear hstep hd2 hq hbw
        go_wp2_with (go_at_call 190; refine (sub32_any _ _ _ _ (by omega) (by omega) (by omega) (by omega) (by omega) (by omega)).mono ?_; rintro e w' ⟨rfl, rfl⟩)
        go_roundw
        case rel => exact ⟨k + 1, d2, upd f k q, by omega, by go_num, by rw [← HD2.out], hbl, row_upd hrow _ _ (by first | (rw [← HQ.out]; done) | rw [← HQ.out, Int.sub_zero]),
          (fun j hj => by
            by_cases e : j = k
            · rw [e, upd_self]; exact hql
            · unfold upd; rw [if_neg e]; exact HF.out j (by omega)), (by
          simp only [valF, valF_upd f k _ k (Nat.le_refl _), upd_self, Nat.pow_succ]
          exact HS.out), hb.setCell (Nat.le_refl _) _⟩
        case measure => simp [intOf]; omega
    · obtain rfl : k = nl x := by omega
      go_wp2_with (go_at_call 116; refine (trim_any _ w.heap.size 0 _ _ f _ (by omega) (IsSl.of_row hrow (Nat.le_refl _) _ (Nat.le_refl _))).mono ?_; rintro e w' ⟨rfl, rfl⟩)
      go_ret
      refine ⟨_, rfl, ?_, hb⟩
      have hval : valF f (nl x) = x - y := by
        have h1 := HV.out
        have h2 := valF_lt f (nl x) HF.out
        have h3 := HLE.out
        rw [valF_nl, valF_dig_le y _ hny] at h1
        have : d = 0 := by
          rcases Nat.eq_zero_or_pos d with e | e
          · exact e
          · have := Nat.mul_le_mul_right (4294967296 ^ nl x) e
            omega
        subst this
        omega
      rw [← hval]
      exact trim_mag HF.out (IsSl.of_row hrow (Nat.le_refl _) _ (Nat.le_refl _))
end Go.Proofs.YtolkchkedieppaaGreat
