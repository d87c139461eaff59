/- rounds of package debt at the document's example. -/
import Derived.Test.YtcnaagiicpkcpaaGreatMLive1
import Derived.Laws.Cover3
import Derived.Test.YtcnaagiicpkcpaaGreatMFun
import Derived.Test.YtcnaagiicpkcpaaGreatMMkt2
import Derived.Test.YtcnaagiicpkcpaaGreatMTakes
set_option linter.unusedVariables false
set_option linter.unusedSimpArgs false
namespace Go.Proofs.YtcnaagiicpkcpaaGreat
open Go.RowKit
attribute [local go_sem ↓] Go.wp_at_zero Go.wp_at_succ
theorem eql_nil_some (x : Addr) (l c : Nat) (W : World) : (binOp .eql 22 (.slice (some x) l c) (.slice none 0 0)).run Tryz.prog W = .ok (.bool false) W :=
 by
 simp only [binOp]
 simp [run_equal_slice_nil W 22 3 (some x) l c Tryz.underlying22]
theorem eql_nil_none (W : World) : (binOp .eql 22 (.slice none 0 0) (.slice none 0 0)).run Tryz.prog W = .ok (.bool true) W :=
 by
 simp only [binOp]
 simp [run_equal_slice_nil W 22 3 none 0 0 Tryz.underlying22]
theorem rat_cmp_val (x y : Value) (a b : Rat) (k : Nat) (w : World) (c : Int) (hx : RatIs w x a k) (hy : RatIs w y b k) (hk : 2 * k ≤ 549755813888) (hc : cmpQ a b = c) :
  Calls Tryz.prog 55 #[x, y] w fun e w' => e = .returned (.int .i64 c) ∧ Below w.heap.size w w' := by
 subst hc
 exact rat_cmp x y a b k w hx hy hk
end Go.Proofs.YtcnaagiicpkcpaaGreat

/- Num of Rat at a whole number of one digit; Nums of package linear at the payments of the example. -/
namespace Go.Proofs.YtcnaagiicpkcpaaGreat
open Go.RowKit
attribute [local go_sem ↓] Go.wp_at_zero Go.wp_at_succ
theorem own_below {w w' : World} {base B e size n : Nat} {v : Value} {xs : List Value} (h : w.ownsRow base e size v n xs) (hb : Below B w w') (hB : w.heap.size ≤ B := by exact Nat.le_refl _) : w'.ownsRow base e size v n xs :=
 h.kept (row := none) ⟨hb.os, hb.tape, hb.output, hb.size, fun k hk _ => hb.block k (Nat.lt_of_lt_of_le hk hB)⟩ (by
  rcases hh : v.ownBlock with _ | g
  ·exact .inl rfl
  ·exact .inr (by intro e; cases e))
/-- the text of a digit -/
def digS (N : Nat) : ByteArray := ⟨#[48 + UInt8.ofNat N]⟩
theorem digS_size (N : Nat) : (digS N).size = 1 := rfl
theorem infoN : (Tryz.prog.info? 58).map (fun i => (i.zero, i.size, i.bytes)) = some (some (.string ByteArray.empty), 1, 16) := by kernel_rfl
end Go.Proofs.YtcnaagiicpkcpaaGreat

/- debt.members, debt.balanced, slices.Compare. -/
namespace Go.Proofs.YtcnaagiicpkcpaaGreat
open Go.RowKit
attribute [local go_sem ↓] Go.wp_at_zero Go.wp_at_succ
/-- the bits of s below i -/
def mem (s i : Nat) : List Nat := (List.range i).filter (fun t => s.testBit t)
def intC (l : List Nat) : List Value := l.map (fun t => .int .i64 (t : Nat))
theorem i64_and1 (n : Int) : bits .and .i64 n 1 = n % 2 := by
 have h1 : (BitVec.ofInt 64 1).toNat = 2 ^ 1 - 1 := by decide
 have key : (BitVec.ofInt 64 n &&& BitVec.ofInt 64 1).toNat = (n % ((2 ^ 64 : Nat) : Int)).toNat % 2 ^ 1 := by
  rw [BitVec.toNat_and, BitVec.toNat_ofInt, h1, Nat.and_two_pow_sub_one_eq_mod]
 show IntKind.i64.wrap ((BitVec.ofInt 64 n &&& BitVec.ofInt 64 1).toNat : Nat) = n % 2
 rw [key, IntKind.wrap_i64]
 omega
theorem mem_succ (s i : Nat) : mem s (i + 1) = mem s i ++ if s.testBit i then [i] else [] := by
 unfold mem
 rw [List.range_succ, List.filter_append]
 congr 1
 by_cases h : s.testBit i <;> simp [h]
theorem mem_done (s i : Nat) (h : s < 2 ^ i) : ∀ k, mem s (i + k) = mem s i
 | 0 => rfl
 | k + 1 => by
  rw [← Nat.add_assoc, mem_succ, mem_done s i h k]
  have h2 : s < 2 ^ (i + k) := Nat.lt_of_lt_of_le h (Nat.pow_le_pow_right (by omega) (by omega))
  rw [Nat.testBit_lt_two_pow h2]
  simp
theorem mem_len (s : Nat) : ∀ i, (mem s i).length ≤ i
 | 0 => by simp [mem]
 | i + 1 => by
  rw [mem_succ, List.length_append]
  have := mem_len s i
  split <;> simp <;> omega
theorem intC_app (l : List Nat) (i : Nat) : intC l ++ [.int .i64 (i : Nat)] = intC (l ++ [i]) := by simp [intC]
set_option maxHeartbeats 2000000 in
set_option maxRecDepth 100000 in
theorem members_any (s : Nat) (w : World) (hs : s < 1024) :
  Calls Tryz.prog 15 #[.int .i64 (s : Nat)] w fun e w' => ∃ va vk, e = .returned (.slice va (mem s 10).length vk) ∧ w'.ownsRow w.heap.size 3 1 (.slice va (mem s 10).length vk) (mem s 10).length (intC (mem s 10)) ∧ Below w.heap.size w w' := by
 obtain ⟨i0, hinf, hz0, hz1, hz2⟩ := info_parts infoI
 have KW0 := Lib.hid (Below.refl w.heap.size w)
 go_enter Tryz.func15, Tryz.ntmps15
 go_wp2
 go_loopw [3, 4] (fun v3 v4 wr => ∃ i : Nat, i ≤ 10 ∧ v4 = .int .i64 (i : Nat) ∧ ∃ va vk, v3 = .slice va (mem s i).length vk ∧ Hid (wr.ownsRow w.heap.size 3 1 (.slice va (mem s i).length vk) (mem s i).length (intC (mem s i))) ∧ Hid (Below w.heap.size w wr)) (fun _ v4 _ => 10 - (intOf v4).toNat)
 case atStart => exact ⟨0, by omega, rfl, none, 0, rfl, Lib.hid (World.ownsRow_nil _ _ _ _), KW0⟩
 case round =>
  clear KW0
  obtain ⟨i, hi, rfl, va, vk, rfl, OW, KW⟩ := hrel
  have hdiv : (s : Int) / 2 ^ i = ((s / 2 ^ i : Nat) : Int) := by simp
  by_cases hq : s / 2 ^ i = 0
  ·have d1 : decide ((0 : Int) < (s : Int) / 2 ^ i) = false := by rw [hdiv, hq]; rfl
   have hlt : s < 2 ^ i := (Nat.div_eq_zero_iff_lt (Nat.two_pow_pos i)).1 hq
   have hm := mem_done s i hlt (10 - i)
   rw [show i + (10 - i) = 10 by omega] at hm
   have HM := Lib.hid hm
   clear hm hdiv
   go_wp2
   go_ret
   rw [HM.out]
   exact ⟨va, vk, rfl, OW.out, KW.out⟩
  ·have hi10 : i < 10 := by
    rcases Nat.lt_or_ge i 10 with h | h
    ·exact h
    ·exact absurd (Nat.div_eq_of_lt (Nat.lt_of_lt_of_le hs (Nat.pow_le_pow_right (n := 2) (by omega) h))) hq
   have d1 : decide ((0 : Int) < (s : Int) / 2 ^ i) = true := decide_eq_true (by rw [hdiv]; exact Int.natCast_pos.2 (Nat.pos_of_ne_zero hq))
   have hbit : (bits .and .i64 ((s : Int) / 2 ^ i) 1 == 1) = s.testBit i := by
    rw [i64_and1, hdiv, Nat.testBit_eq_decide_div_mod_eq]
    by_cases h : s / 2 ^ i % 2 = 1
    ·rw [decide_eq_true h]
     have : (((s / 2 ^ i : Nat) : Int) % 2) = 1 := by omega
     rw [this]; rfl
    ·rw [decide_eq_false h]
     have : (((s / 2 ^ i : Nat) : Int) % 2) = 0 := by omega
     rw [this]; rfl
   have HSZ := Lib.hid KW.out.size
   have HBK := Lib.hid OW.out.lt
   have HLN := Lib.hid (mem_len s i)
   have hms := mem_succ s i
   clear hdiv hq
   by_cases hb : s.testBit i = true
   ·rw [hb] at hbit
    rw [hb, if_pos rfl] at hms
    have HMS := Lib.hid hms
    clear hms hb
    go_wp2_with (at_builtin; refine wpList_append_own _ rfl (.tmp 16) (.tmp 18) 22 rfl w.heap.size 3 i0 (.int .i64 0) 1 8 Tryz.underlying22 hinf hz0 hz1 hz2 rfl (by decide) (.slice va (mem s i).length vk) (mem s i).length (intC (mem s i)) rfl (OW.out.alloc _) ⟨wr.heap.size, 0, none⟩ 1 1 [.int .i64 (i : Nat)] rfl rfl (new1 wr (.int .i64 (i : Nat)) 3) (one1 _ rfl) (by have := HLN.out; unfold maxLen; omega) (by have := HLN.out; omega) (by simp; have := HSZ.out; omega) ?_; intro v' w5 hown hgrow _; have KW := Lib.hid ((KW.out.alloc KW.out.size _).grown hgrow (by have := HSZ.out; simp; omega) (fun kk e => (HBK.out kk e).1)); rw [intC_app, ← HMS.out] at hown; obtain ⟨va', vk', rfl⟩ := own_shape hown; have OW := Lib.hid hown; clear hown hgrow)
    go_roundw
    case rel =>
     have hl : (mem s (i + 1)).length = (mem s i).length + 1 := by rw [HMS.out]; simp
     exact ⟨i + 1, by omega, by go_num, va', vk', by rw [hl], by rw [hl]; exact OW, KW⟩
    case measure => simp [intOf]; omega
   ·have hb2 : s.testBit i = false := by simpa using hb
    rw [hb2] at hbit hms
    have hms2 : mem s (i + 1) = mem s i := by simpa using hms
    have HMS := Lib.hid hms2
    clear hms hms2 hb hb2
    go_wp2
    go_roundw
    case rel => exact ⟨i + 1, by omega, by go_num, va, vk, by rw [HMS.out], by rw [HMS.out]; exact OW, KW⟩
    case measure => simp [intOf]; omega
end Go.Proofs.YtcnaagiicpkcpaaGreat

/- debt.balanced, slices.Compare. -/
namespace Go.Proofs.YtcnaagiicpkcpaaGreat
open Go.RowKit
attribute [local go_sem ↓] Go.wp_at_zero Go.wp_at_succ
def cmp3 (x y : Int) : Int := if x < y then -1 else if y < x then 1 else 0
theorem cmp_int (x y : Int) (w : World) : Calls Tryz.prog 34 #[.int .i64 x, .int .i64 y] w fun e w' => e = .returned (.int .i64 (cmp3 x y)) ∧ w = w' := by
 unfold cmp3
 by_cases h1 : x < y
 ·have d1 : decide (x < y) = true := by simpa using h1
  rw [if_pos h1]
  clear h1
  go_enter Tryz.func34, Tryz.ntmps34
  go_wp2
  go_ret
  exact ⟨rfl, rfl⟩
 ·have d1 : decide (x < y) = false := by simpa using h1
  rw [if_neg h1]
  clear h1
  by_cases h2 : y < x
  ·have d2 : decide (y < x) = true := by simpa using h2
   rw [if_pos h2]
   clear h2
   go_enter Tryz.func34, Tryz.ntmps34
   go_wp2
   go_ret
   exact ⟨rfl, rfl⟩
  ·have d2 : decide (y < x) = false := by simpa using h2
   rw [if_neg h2]
   clear h2
   go_enter Tryz.func34, Tryz.ntmps34
   go_wp2
   go_ret
   exact ⟨rfl, rfl⟩
/-- slices.Compare -/
def lexC (f g : Nat → Int) (n m : Nat) : Nat → Nat → Int
 | 0, _ => if n < m then -1 else 0
 | u + 1, k => if m ≤ k then 1 else if cmp3 (f k) (g k) = 0 then lexC f g n m u (k + 1) else cmp3 (f k) (g k)
set_option maxHeartbeats 2000000 in
set_option maxRecDepth 100000 in
theorem compare_ints (v1 v2 : Value) (n m : Nat) (f g : Nat → Int) (w : World) (h1 : Ints w v1 n f) (h2 : Ints w v2 m g) (hn : n ≤ 1048576) (hm : m ≤ 1048576) :
  Calls Tryz.prog 22 #[v1, v2] w fun e w' => e = .returned (.int .i64 (lexC f g n m n 0)) ∧ w = w' := by
 obtain ⟨a1, b1, o1, c1, rfl, s1⟩ := h1
 obtain ⟨a2, b2, o2, c2, rfl, s2⟩ := h2
 have S1 := Lib.hid s1
 have S2 := Lib.hid s2
 clear s1 s2
 go_enter Tryz.func22, Tryz.ntmps22
 go_wp2
 go_loopw [11] (fun v11 wr => ∃ k : Nat, k ≤ n ∧ v11 = .int .i64 (k : Nat) ∧ Hid (lexC f g n m n 0 = lexC f g n m (n - k) k) ∧ w = wr) (fun v11 _ => n - (intOf v11).toNat)
 case atStart => exact ⟨0, by omega, rfl, Lib.hid rfl, rfl⟩
 case round =>
  obtain ⟨k, hk, rfl, HX, rfl⟩ := hrel
  by_cases h : k < n
  ·have hstep : lexC f g n m (n - k) k = if m ≤ k then 1 else if cmp3 (f k) (g k) = 0 then lexC f g n m (n - (k + 1)) (k + 1) else cmp3 (f k) (g k) := by
    rw [show n - k = (n - (k + 1)) + 1 by omega]; rfl
   have ix1 := fun W => ixI S1.out k c1 h W
   have x1 := S1.out.cell k h
   simp only [ic] at x1
   by_cases hmk : m ≤ k
   ·rw [if_pos hmk] at hstep
    have HST := Lib.hid hstep
    have d1 : decide ((m : Int) ≤ (k : Int)) = true := by simpa using hmk
    have d1n : decide (m ≤ k) = true := by simpa using hmk
    clear hstep hmk
    go_wp2
    go_ret
    exact ⟨by rw [HX.out, HST.out]; rfl, rfl⟩
   ·rw [if_neg hmk] at hstep
    have h3 : k < m := by omega
    have d1 : decide ((m : Int) ≤ (k : Int)) = false := by simp; omega
    have d1n : decide (m ≤ k) = false := by simp; omega
    have ix2 := fun W => ixI S2.out k c2 h3 W
    have x2 := S2.out.cell k h3
    simp only [ic] at x2
    clear hmk
    by_cases h0 : cmp3 (f k) (g k) = 0
    ·rw [if_pos h0] at hstep
     have HST := Lib.hid hstep
     have H0 := Lib.hid h0
     clear hstep h0
     go_wp2_with (go_at_call 34; (with_reducible refine (cmp_int _ _ _).mono ?_); rintro e w1 ⟨rfl, rfl⟩; rw [H0.out])
     go_roundw
     case rel => exact ⟨k + 1, by omega, by go_num, Lib.hid (HX.out.trans HST.out), by first | rfl | trivial⟩
     case measure => simp [intOf]; omega
    ·rw [if_neg h0] at hstep
     have HST := Lib.hid hstep
     have d2 : (cmp3 (f k) (g k) != 0) = true := by simpa using h0
     clear hstep h0
     go_wp2_with (go_at_call 34; (with_reducible refine (cmp_int _ _ _).mono ?_); rintro e w1 ⟨rfl, rfl⟩)
     go_ret
     exact ⟨by rw [HX.out, HST.out]; rfl, rfl⟩
  ·obtain rfl : k = n := by omega
   by_cases h3 : k < m
   ·have d1 : decide ((k : Int) < (m : Int)) = true := by simpa using h3
    have d1n : decide (k < m) = true := by simpa using h3
    have HM3 := Lib.hid h3
    clear h3
    go_wp2
    go_ret
    refine ⟨?_, rfl⟩
    rw [HX.out, Nat.sub_self]
    simp only [lexC]
    rw [if_pos HM3.out]
    rfl
   ·have d1 : decide ((k : Int) < (m : Int)) = false := by simpa using h3
    have d1n : decide (k < m) = false := by simpa using h3
    have HM3 := Lib.hid h3
    clear h3
    go_wp2
    go_ret
    refine ⟨?_, rfl⟩
    rw [HX.out, Nat.sub_self]
    simp only [lexC]
    rw [if_neg HM3.out]
    rfl
/-- are balances valid? -/
def Balances (n : Nat) (f : Nat → Int) : Prop := 1 ≤ n ∧ n ≤ 10 ∧ (∀ i, i < n → -10000 ≤ f i ∧ f i ≤ 10000) ∧ sumF f n = 0
set_option maxHeartbeats 2000000 in
set_option maxRecDepth 100000 in
theorem balanced_any (v : Value) (n : Nat) (f : Nat → Int) (r : Bool) (hr : r = true ↔ Balances n f) (w : World) (hv : Ints w v n f) (hn : n ≤ 1048576) :
  Calls Tryz.prog 13 #[v] w fun e w' => e = .returned (.bool r) ∧ w = w' := by
 obtain ⟨a, b, o, c, rfl, hs⟩ := hv
 have HR := Lib.hid hr
 have HS := Lib.hid hs
 clear hr hs
 by_cases h1 : n < 1
 ·obtain rfl : r = false := bool_false HR.out (fun q => by have := q.1; omega)
  have d1 : decide ((n : Int) < 1) = true := by simp; omega
  clear h1
  go_enter Tryz.func13, Tryz.ntmps13
  go_wp2
  go_ret
  exact ⟨rfl, rfl⟩
 ·have d1 : decide ((n : Int) < 1) = false := by simp; omega
  by_cases h2 : 10 < n
  ·obtain rfl : r = false := bool_false HR.out (fun q => by have := q.2.1; omega)
   have d2 : decide ((10 : Int) < (n : Int)) = true := by simp; omega
   clear h1 h2
   go_enter Tryz.func13, Tryz.ntmps13
   go_wp2
   go_ret
   exact ⟨rfl, rfl⟩
  ·have d2 : decide ((10 : Int) < (n : Int)) = false := by simp; omega
   have n10 : n ≤ 10 := by omega
   have n1 : 1 ≤ n := by omega
   clear h1 h2
   go_enter Tryz.func13, Tryz.ntmps13
   go_wp2
   go_loopw [3, 16] (fun v3 v16 wr => ∃ k : Nat, k ≤ n ∧ v16 = .int .i64 (k : Nat) ∧ v3 = .int .i64 (sumF f k) ∧ Hid (∀ i, i < k → -10000 ≤ f i ∧ f i ≤ 10000) ∧ w = wr) (fun _ v16 _ => n - (intOf v16).toNat)
   case atStart => exact ⟨0, by omega, rfl, rfl, Lib.hid (fun i hi => by omega), rfl⟩
   case round =>
    obtain ⟨k, hk, rfl, rfl, HX, rfl⟩ := hrel
    by_cases h : k < n
    ·have hix := fun W => ixI HS.out k c h W
     have hc := HS.out.cell k h
     simp only [ic] at hc
     by_cases h3 : f k < -10000
     ·obtain rfl : r = false := bool_false HR.out (fun q => by have := q.2.2.1 k h; omega)
      have d3 : decide (f k < -10000) = true := by simpa using h3
      clear h3
      go_wp2
      go_ret
      exact ⟨rfl, rfl⟩
     ·have d3 : decide (f k < -10000) = false := by simpa using h3
      by_cases h4 : 10000 < f k
      ·obtain rfl : r = false := bool_false HR.out (fun q => by have := q.2.2.1 k h; omega)
       have d4 : decide ((10000 : Int) < f k) = true := by simpa using h4
       clear h3 h4
       go_wp2
       go_ret
       exact ⟨rfl, rfl⟩
      ·have d4 : decide ((10000 : Int) < f k) = false := by simpa using h4
       have b2 := sumF_bound f k 10000 (fun i hi => by have := HX.out i hi; omega)
       have hwr : IntKind.i64.wrap (sumF f k + f k) = sumF f k + f k := by rw [IntKind.wrap_i64]; omega
       have HX2 : Hid (∀ i, i < k + 1 → -10000 ≤ f i ∧ f i ≤ 10000) := Lib.hid (fun i hi => by
        by_cases e : i = k
        ·subst e; omega
        ·exact HX.out i (by omega))
       clear h3 h4 b2
       go_wp2
       go_roundw
       case rel => exact ⟨k + 1, by omega, by go_num, rfl, HX2, by first | rfl | trivial⟩
       case measure => simp [intOf]; omega
    ·obtain rfl : k = n := by omega
     by_cases h5 : sumF f k = 0
     ·obtain rfl : r = true := HR.out.2 ⟨n1, n10, HX.out, h5⟩
      have d5 : (sumF f k == 0) = true := by simpa using h5
      clear h5
      go_wp2
      go_ret
      exact ⟨rfl, rfl⟩
     ·obtain rfl : r = false := bool_false HR.out (fun q => h5 q.2.2.2)
      have d5 : (sumF f k == 0) = false := by simpa using h5
      clear h5
      go_wp2
      go_ret
      exact ⟨rfl, rfl⟩
end Go.Proofs.YtcnaagiicpkcpaaGreat

/- Plain mathematics of cancelling: what a ring of arcs does to what is left of debts. -/
namespace Go.Proofs.YtcnaagiicpkcpaaGreat
/-- arc k of a matrix r of what is left of debts d -/
def FwdArc (d r : Nat → Nat → Int) (a : Arc) : Prop := a.src = a.pi ∧ a.dst = a.pj ∧ a.c = 1 ∧ r a.pi a.pj < d a.pi a.pj ∧ a.most = d a.pi a.pj - r a.pi a.pj
def BwdArc (d r : Nat → Nat → Int) (a : Arc) : Prop := a.src = a.pj ∧ a.dst = a.pi ∧ a.c = -1 ∧ 0 < r a.pi a.pj ∧ a.most = r a.pi a.pj
structure ArcsOK (n m : Nat) (l : Nat → Arc) (d r : Nat → Nat → Int) : Prop where
 sound : ∀ k, k < m → (l k).pi < n ∧ (l k).pj < n ∧ (l k).pi ≠ (l k).pj ∧ (FwdArc d r (l k) ∨ BwdArc d r (l k))
 fwd : ∀ i j, i < n → j < n → r i j < d i j → ∃ k, k < m ∧ (l k).src = i ∧ (l k).dst = j ∧ (l k).c = 1
 bwd : ∀ i j, i < n → j < n → 0 < r i j → ∃ k, k < m ∧ (l k).src = j ∧ (l k).dst = i ∧ (l k).c = -1
theorem ArcsOK.arcsIn {n m : Nat} {l : Nat → Arc} {d r : Nat → Nat → Int} (h : ArcsOK n m l d r) : ArcsIn n m l := fun k hk => by
 obtain ⟨h1, h2, h3, h4⟩ := h.sound k hk
 rcases h4 with ⟨e1, e2, _⟩ | ⟨e1, e2, _⟩
 ·rw [e1, e2]; exact ⟨h1, h2, h3⟩
 ·rw [e1, e2]; exact ⟨h2, h1, fun e => h3 e.symm⟩
/-- a matrix with one element turned -/
def upd2 (f : Nat → Nat → Int) (i j : Nat) (x : Int) : Nat → Nat → Int := fun a b => if a = i ∧ b = j then x else f a b
theorem upd2_self (f : Nat → Nat → Int) (i j : Nat) (x : Int) : upd2 f i j x i j = x := if_pos ⟨rfl, rfl⟩
theorem upd2_ne (f : Nat → Nat → Int) {i j a b : Nat} (x : Int) (h : ¬ (a = i ∧ b = j)) : upd2 f i j x a b = f a b := if_neg h
theorem sumF_add (f g : Nat → Int) (n : Nat) : sumF (fun i => f i + g i) n = sumF f n + sumF g n := by
 induction n with
 | zero => rfl
 | succ n ih => simp only [sumF]; rw [ih]; omega
theorem sumF_ind (i : Nat) (x : Int) (n : Nat) : sumF (fun a => if a = i then x else 0) n = if i < n then x else 0 := by
 induction n with
 | zero => simp [sumF]
 | succ n ih =>
  simp only [sumF]; rw [ih]
  by_cases h1 : i < n
  ·rw [if_pos h1, if_neg (by omega), if_pos (by omega)]; omega
  ·by_cases h2 : n = i
   ·rw [if_neg h1, if_pos h2, if_pos (by omega)]; omega
   ·rw [if_neg h1, if_neg h2, if_neg (by omega)]; omega
/-- the sum of a matrix -/
def sum2 (n : Nat) (f : Nat → Nat → Int) : Int := sumF (fun i => sumF (f i) n) n
/-- by how much more firm v owes than it is owed -/
def bal (n : Nat) (f : Nat → Nat → Int) (v : Nat) : Int := sumF (fun j => f v j) n - sumF (fun j => f j v) n
theorem upd2_row (f : Nat → Nat → Int) (i j : Nat) (x : Int) (a : Nat) (n : Nat) (hj : j < n) : sumF (upd2 f i j x a) n = sumF (f a) n + (if a = i then x - f i j else 0) := by
 have e : upd2 f i j x a = fun b => f a b + (if b = j then (if a = i then x - f i j else 0) else 0) := by
  funext b
  unfold upd2
  by_cases h1 : a = i
  ·by_cases h2 : b = j
   ·subst h1; subst h2; simp; omega
   ·simp [h1, h2]
  ·simp [h1]
 rw [e, sumF_add, sumF_ind, if_pos hj]
theorem upd2_col (f : Nat → Nat → Int) (i j : Nat) (x : Int) (b : Nat) (n : Nat) (hi : i < n) : sumF (fun a => upd2 f i j x a b) n = sumF (fun a => f a b) n + (if b = j then x - f i j else 0) := by
 have e : (fun a => upd2 f i j x a b) = fun a => f a b + (if a = i then (if b = j then x - f i j else 0) else 0) := by
  funext a
  unfold upd2
  by_cases h1 : b = j
  ·by_cases h2 : a = i
   ·subst h1; subst h2; simp; omega
   ·simp [h1, h2]
  ·simp [h1]
 rw [e, sumF_add, sumF_ind, if_pos hi]
theorem upd2_sum (n : Nat) (f : Nat → Nat → Int) (i j : Nat) (x : Int) (hi : i < n) (hj : j < n) : sum2 n (upd2 f i j x) = sum2 n f + (x - f i j) := by
 unfold sum2
 have e : (fun a => sumF (upd2 f i j x a) n) = fun a => sumF (f a) n + (if a = i then x - f i j else 0) := by
  funext a; exact upd2_row f i j x a n hj
 rw [e, sumF_add, sumF_ind, if_pos hi]
theorem upd2_bal (n : Nat) (f : Nat → Nat → Int) (i j : Nat) (x : Int) (v : Nat) (hi : i < n) (hj : j < n) : bal n (upd2 f i j x) v = bal n f v + ((if v = i then x - f i j else 0) - (if v = j then x - f i j else 0)) := by
 unfold bal
 have e := upd2_row f i j x v n hj
 have e1 : sumF (fun b => upd2 f i j x v b) n = sumF (upd2 f i j x v) n := rfl
 rw [e1, e, upd2_col f i j x v n hi]
 have e2 : sumF (fun b => f v b) n = sumF (f v) n := rfl
 rw [e2]; omega
/-- what is left when s arcs of a ring from y back have been gone along by the amount mst -/
def along (l : Nat → Arc) (b : Nat → Int) (y : Nat) (mst : Int) (r : Nat → Nat → Int) : Nat → Nat → Nat → Int
 | 0 => r
 | s + 1 => upd2 (along l b y mst r s) (l (b (iter (fromF l b) s y)).toNat).pi (l (b (iter (fromF l b) s y)).toNat).pj
   (along l b y mst r s (l (b (iter (fromF l b) s y)).toNat).pi (l (b (iter (fromF l b) s y)).toNat).pj + (l (b (iter (fromF l b) s y)).toNat).c * mst)
/-- a ring: p firms, each of them once; arc s leads to firm s from firm s + 1 -/
structure IsRing (n m : Nat) (l : Nat → Arc) (b : Nat → Int) (y p : Nat) : Prop where
 pos : 0 < p
 back : iter (fromF l b) p y = y
 first : ∀ s, 0 < s → s < p → iter (fromF l b) s y ≠ y
 arc : ∀ s, (b (iter (fromF l b) s y)).toNat < m ∧ (l (b (iter (fromF l b) s y)).toNat).dst = iter (fromF l b) s y ∧ (l (b (iter (fromF l b) s y)).toNat).src = iter (fromF l b) (s + 1) y
theorem IsRing.apart {n m : Nat} {l : Nat → Arc} {b : Nat → Int} {y p : Nat} (h : IsRing n m l b y p) {s t : Nat} (hst : s < t) (ht : t < p) : iter (fromF l b) s y ≠ iter (fromF l b) t y := fun e => by
 have e1 : iter (fromF l b) (p - t + t) y = y := by rw [Nat.sub_add_cancel (by omega)]; exact h.back
 rw [iter_add, ← e, ← iter_add] at e1
 exact h.first (p - t + s) (by omega) (by omega) e1
section
variable {n m : Nat} {l : Nat → Arc} {d r : Nat → Nat → Int} {b : Nat → Int} {y p : Nat} {mst : Int}
theorem along_sum (h : ArcsOK n m l d r) (hr : IsRing n m l b y p) : ∀ s, sum2 n (along l b y mst r s) = sum2 n r + ringC l b y s * mst
 | 0 => by simp [along, ringC]
 | s + 1 => by
  obtain ⟨h1, h2, h3, _⟩ := h.sound _ (hr.arc s).1
  simp only [along, ringC]
  rw [upd2_sum n _ _ _ _ h1 h2, along_sum h hr s, Int.add_mul]
  omega
theorem along_bal (h : ArcsOK n m l d r) (hr : IsRing n m l b y p) (v : Nat) : ∀ s, bal n (along l b y mst r s) v = bal n r v + ((if v = iter (fromF l b) s y then mst else 0) - (if v = y then mst else 0))
 | 0 => by simp [along, iter]; omega
 | s + 1 => by
  obtain ⟨h1, h2, h3, h4⟩ := h.sound _ (hr.arc s).1
  obtain ⟨_, hd, hs⟩ := hr.arc s
  simp only [along]
  rw [upd2_bal n _ _ _ _ _ h1 h2, along_bal h hr v s]
  rcases h4 with ⟨e1, e2, e3, _⟩ | ⟨e1, e2, e3, _⟩
  ·rw [e3, ← e1, ← e2, hd, hs]
   split <;> split <;> split <;> omega
  ·rw [e3, ← e1, ← e2, hd, hs]
   split <;> split <;> split <;> omega
/-- has the debt (i, j) been made greater, or less, by one of the first s arcs? -/
def Used (l : Nat → Arc) (b : Nat → Int) (y : Nat) (c : Int) (i j s : Nat) : Prop :=
 ∃ t, t < s ∧ (l (b (iter (fromF l b) t y)).toNat).pi = i ∧ (l (b (iter (fromF l b) t y)).toNat).pj = j ∧ (l (b (iter (fromF l b) t y)).toNat).c = c
open Classical in
theorem along_val (h : ArcsOK n m l d r) (hr : IsRing n m l b y p) (i j : Nat) : ∀ s, s ≤ p → along l b y mst r s i j = r i j + (if Used l b y 1 i j s then mst else 0) - (if Used l b y (-1) i j s then mst else 0)
 | 0, _ => by
  have h0 : ∀ c, ¬ Used l b y c i j 0 := fun c ⟨t, ht, _⟩ => by omega
  rw [if_neg (h0 _), if_neg (h0 _)]
  simp [along]
 | s + 1, hsp => by
  have ih := along_val h hr i j s (by omega)
  obtain ⟨h1, h2, h3, h4⟩ := h.sound _ (hr.arc s).1
  obtain ⟨_, hd, hs⟩ := hr.arc s
  simp only [along]
  have grow : ∀ c, Used l b y c i j (s + 1) ↔ Used l b y c i j s ∨ ((l (b (iter (fromF l b) s y)).toNat).pi = i ∧ (l (b (iter (fromF l b) s y)).toNat).pj = j ∧ (l (b (iter (fromF l b) s y)).toNat).c = c) := by
   intro c
   constructor
   ·rintro ⟨t, ht, ho⟩
    rcases Nat.lt_or_ge t s with q | q
    ·exact .inl ⟨t, q, ho⟩
    ·obtain rfl : t = s := by omega
     exact .inr ho
   ·rintro (⟨t, ht, ho⟩ | ho)
    ·exact ⟨t, by omega, ho⟩
    ·exact ⟨s, by omega, ho⟩
  by_cases hij : (l (b (iter (fromF l b) s y)).toNat).pi = i ∧ (l (b (iter (fromF l b) s y)).toNat).pj = j
  ·obtain ⟨ei, ej⟩ := hij
   rw [ei, ej, upd2_self, ih]
   rcases h4 with ⟨e1, e2, e3, _⟩ | ⟨e1, e2, e3, _⟩
   ·have hn : ¬ Used l b y 1 i j s := fun ⟨t, ht, oi, oj, oc⟩ => by
     obtain ⟨_, _, _, g4⟩ := h.sound _ (hr.arc t).1
     rcases g4 with ⟨g1, g2, g3, _⟩ | ⟨g1, g2, g3, _⟩
     ·exact hr.apart ht (by omega) (by rw [← (hr.arc t).2.1, ← hd, g2, e2, oj, ej])
     ·rw [g3] at oc; exact absurd oc (by decide)
    have hy : Used l b y 1 i j (s + 1) := (grow 1).2 (.inr ⟨ei, ej, e3⟩)
    have hm : Used l b y (-1) i j (s + 1) ↔ Used l b y (-1) i j s := by
     rw [grow]
     constructor
     ·rintro (q | ⟨_, _, q⟩)
      ·exact q
      ·rw [e3] at q; exact absurd q (by decide)
     ·exact .inl
    rw [if_neg hn, if_pos hy, e3]
    simp only [hm]
    split <;> omega
   ·have hn : ¬ Used l b y (-1) i j s := fun ⟨t, ht, oi, oj, oc⟩ => by
     obtain ⟨_, _, _, g4⟩ := h.sound _ (hr.arc t).1
     rcases g4 with ⟨g1, g2, g3, _⟩ | ⟨g1, g2, g3, _⟩
     ·rw [g3] at oc; exact absurd oc (by decide)
     ·exact hr.apart ht (by omega) (by rw [← (hr.arc t).2.1, ← hd, g2, e2, oi, ei])
    have hy : Used l b y (-1) i j (s + 1) := (grow (-1)).2 (.inr ⟨ei, ej, e3⟩)
    have hm : Used l b y 1 i j (s + 1) ↔ Used l b y 1 i j s := by
     rw [grow]
     constructor
     ·rintro (q | ⟨_, _, q⟩)
      ·exact q
      ·rw [e3] at q; exact absurd q (by decide)
     ·exact .inl
    rw [if_neg hn, if_pos hy, e3]
    simp only [hm]
    split <;> omega
  ·rw [upd2_ne _ _ (fun e => hij ⟨e.1.symm, e.2.symm⟩), ih]
   have hm : ∀ c, Used l b y c i j (s + 1) ↔ Used l b y c i j s := fun c => by
    rw [grow]
    constructor
    ·rintro (q | ⟨q1, q2, _⟩)
     ·exact q
     ·exact absurd ⟨q1, q2⟩ hij
    ·exact .inl
   simp only [hm]
/-- what is left stays between 0 and the debt -/
theorem along_range (h : ArcsOK n m l d r) (hr : IsRing n m l b y p) (h0 : 0 ≤ mst) (hmst : ∀ s, s < p → mst ≤ (l (b (iter (fromF l b) s y)).toNat).most) (i j : Nat) (hij : 0 ≤ r i j ∧ r i j ≤ d i j) :
  0 ≤ along l b y mst r p i j ∧ along l b y mst r p i j ≤ d i j := by
 classical
 have hv := along_val (mst := mst) h hr i j p (Nat.le_refl _)
 have hf : Used l b y 1 i j p → mst ≤ d i j - r i j := fun ⟨t, ht, oi, oj, oc⟩ => by
  have := hmst t ht
  obtain ⟨_, _, _, g4⟩ := h.sound _ (hr.arc t).1
  rcases g4 with ⟨_, _, _, _, g5⟩ | ⟨_, _, g3, _⟩
  ·rw [g5, oi, oj] at this; exact this
  ·rw [g3] at oc; exact absurd oc (by decide)
 have hb : Used l b y (-1) i j p → mst ≤ r i j := fun ⟨t, ht, oi, oj, oc⟩ => by
  have := hmst t ht
  obtain ⟨_, _, _, g4⟩ := h.sound _ (hr.arc t).1
  rcases g4 with ⟨_, _, g3, _⟩ | ⟨_, _, _, _, g5⟩
  ·rw [g3] at oc; exact absurd oc (by decide)
  ·rw [g5, oi, oj] at this; exact this
 rw [hv]
 by_cases u1 : Used l b y 1 i j p
 ·have := hf u1
  by_cases u2 : Used l b y (-1) i j p
  ·have := hb u2; rw [if_pos u1, if_pos u2]; omega
  ·rw [if_pos u1, if_neg u2]; omega
 ·by_cases u2 : Used l b y (-1) i j p
  ·have := hb u2; rw [if_neg u1, if_pos u2]; omega
  ·rw [if_neg u1, if_neg u2]; omega
end
end Go.Proofs.YtcnaagiicpkcpaaGreat
