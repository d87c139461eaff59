/- The reference's Balances, its sums and members of sets, Before. -/
import Derived.Test.YtcnaagiicpkcpaaGreatLGrpC
import Derived.Test.YtcnaagiicpkcpaaGreatLGrpA
set_option linter.unusedVariables false
set_option linter.unusedSimpArgs false
namespace Go.Proofs.YtcnaagiicpkcpaaGreat
open Go.RowKit
attribute [local go_sem ↓] Go.wp_at_zero Go.wp_at_succ
/-- how the programs test a bit -/
theorem bit_test (s i : Nat) : (bits .and .i64 ((s : Int) / 2 ^ i) 1 == 1) = s.testBit i := by
 have hdiv : (s : Int) / 2 ^ i = ((s / 2 ^ i : Nat) : Int) := by simp
 rw [i64_and1, hdiv, Nat.testBit_eq_decide_div_mod_eq]
 by_cases h : s / 2 ^ i % 2 = 1
 ·rw [decide_eq_true h]
  have : (((s / 2 ^ i : Nat) : Int) % 2) = 1 := by omega
  rw [this]; rfl
 ·rw [decide_eq_false h]
  have : (((s / 2 ^ i : Nat) : Int) % 2) = 0 := by omega
  rw [this]; rfl
set_option maxHeartbeats 2000000 in
set_option maxRecDepth 100000 in
theorem sumOf_any (v : Value) (n : Nat) (f : Nat → Int) (s : Nat) (w : World) (hv : Ints w v n f) (hn : n ≤ 10) (hf : ∀ i, i < n → -10000 ≤ f i ∧ f i ≤ 10000) :
  Calls Tryz.prog 28 #[v, .int .i64 (s : Nat)] w fun e w' => e = .returned (.int .i64 (smI f s n)) ∧ w = w' := by
 obtain ⟨a, b, o, c, rfl, hs⟩ := hv
 have HS := Lib.hid hs
 have HF := Lib.hid hf
 clear hs hf
 go_enter Tryz.func28, Tryz.ntmps28
 go_wp2
 go_loopw [5, 6] (fun v5 v6 wr => ∃ i : Nat, i ≤ n ∧ v6 = .int .i64 (i : Nat) ∧ v5 = .int .i64 (smI f s i) ∧ w = wr) (fun _ v6 _ => n - (intOf v6).toNat)
 case atStart => exact ⟨0, by omega, rfl, rfl, rfl⟩
 case round =>
  obtain ⟨i, hi, rfl, rfl, rfl⟩ := hrel
  by_cases h : i < n
  ·have e1 : decide ((i : Int) < (n : Int)) = true := by simpa using h
   have e1n : decide (i < n) = true := by simpa using h
   have hix := fun W => ixI HS.out i c h W
   have hc := HS.out.cell i h
   simp only [ic] at hc
   have hbit := bit_test s i
   by_cases hb : s.testBit i = true
   ·rw [hb] at hbit
    have hr := HF.out i h
    have hq := smI_bound HF.out s i hi
    have HB : Hid (smI f s (i + 1) = smI f s i + f i) := Lib.hid (by simp only [smI]; rw [if_pos hb])
    obtain ⟨z, hz⟩ : ∃ z, z = smI f s i := ⟨_, rfl⟩
    rw [← hz] at hq HB ⊢
    have hw : IntKind.i64.wrap (z + f i) = z + f i := by rw [IntKind.wrap_i64]; omega
    clear hb hr hz
    have HQ := Lib.hid hq
    clear hq
    go_wp2
    go_roundw
    case rel => exact ⟨i + 1, by omega, by go_num, by rw [HB.out], by first | rfl | trivial⟩
    case measure => simp [intOf]; omega
   ·have hb2 : s.testBit i = false := by simpa using hb
    rw [hb2] at hbit
    have HB : Hid (smI f s (i + 1) = smI f s i) := Lib.hid (by simp only [smI]; rw [if_neg hb]; omega)
    clear hb hb2
    go_wp2
    go_roundw
    case rel => exact ⟨i + 1, by omega, by go_num, by rw [HB.out], by first | rfl | trivial⟩
    case measure => simp [intOf]; omega
  ·obtain rfl : i = n := by omega
   have e1 : decide ((i : Int) < (i : Int)) = false := by simp
   go_wp2
   go_ret
   exact ⟨rfl, rfl⟩
set_option maxHeartbeats 2000000 in
set_option maxRecDepth 100000 in
theorem rmembers_any (s n : Nat) (w : World) (hn : n ≤ 10) :
  Calls Tryz.prog 29 #[.int .i64 (s : Nat), .int .i64 (n : Nat)] w fun e w' => ∃ va vk, e = .returned (.slice va (mem s n).length vk) ∧ w'.ownsRow w.heap.size 3 1 (.slice va (mem s n).length vk) (mem s n).length (intC (mem s n)) ∧ Below w.heap.size w w' := by
 obtain ⟨i0, hinf, hz0, hz1, hz2⟩ := info_parts infoI
 have KW0 := Lib.hid ((Below.refl w.heap.size w).alloc (Nat.le_refl _) (.cells #[] 3))
 have OW0 := Lib.hid (World.ownsRow_made (e := 3) (base := w.heap.size) (size := 1) w #[] 0 (Nat.le_refl _) (by unfold maxLen; omega) rfl)
 go_enter Tryz.func29, Tryz.ntmps29
 go_wp2
 go_loopw [5, 6] (fun v5 v6 wr => ∃ i : Nat, i ≤ n ∧ v6 = .int .i64 (i : Nat) ∧ ∃ va vk, v5 = .slice va (mem s i).length vk ∧ Hid (wr.ownsRow w.heap.size 3 1 (.slice va (mem s i).length vk) (mem s i).length (intC (mem s i))) ∧ Hid (Below w.heap.size w wr)) (fun _ v6 _ => n - (intOf v6).toNat)
 case atStart => exact ⟨0, by omega, rfl, _, 0, rfl, OW0, KW0⟩
 case round =>
  clear KW0 OW0
  obtain ⟨i, hi, rfl, va, vk, rfl, OW, KW⟩ := hrel
  by_cases h : i < n
  ·have e1 : decide ((i : Int) < (n : Int)) = true := by simpa using h
   have e1n : decide (i < n) = true := by simpa using h
   have hbit := bit_test s i
   have HSZ := Lib.hid KW.out.size
   have HBK := Lib.hid OW.out.lt
   have HLN := Lib.hid (mem_len s i)
   have hms := mem_succ s i
   by_cases hb : s.testBit i = true
   ·rw [hb] at hbit
    rw [hb, if_pos rfl] at hms
    have HMS := Lib.hid hms
    clear hms hb
    go_wp2_with (at_builtin; refine wpList_append_own _ rfl (.tmp 18) (.tmp 20) 22 rfl w.heap.size 3 i0 (.int .i64 0) 1 8 Tryz.underlying22 hinf hz0 hz1 hz2 rfl (by decide) (.slice va (mem s i).length vk) (mem s i).length (intC (mem s i)) rfl (OW.out.alloc _) ⟨wr.heap.size, 0, none⟩ 1 1 [.int .i64 (i : Nat)] rfl rfl (new1 wr (.int .i64 (i : Nat)) 3) (one1 _ rfl) (by have := HLN.out; unfold maxLen; omega) (by have := HLN.out; omega) (by simp; have := HSZ.out; omega) ?_; intro v' w5 hown hgrow _; have KW := Lib.hid ((KW.out.alloc KW.out.size _).grown hgrow (by have := HSZ.out; simp; omega) (fun kk e => (HBK.out kk e).1)); rw [intC_app, ← HMS.out] at hown; obtain ⟨va', vk', rfl⟩ := own_shape hown; have OW := Lib.hid hown; clear hown hgrow)
    go_roundw
    case rel =>
     have hl : (mem s (i + 1)).length = (mem s i).length + 1 := by rw [HMS.out]; simp
     exact ⟨i + 1, by omega, by go_num, va', vk', by rw [hl], by rw [hl]; exact OW, KW⟩
    case measure => simp [intOf]; omega
   ·have hb2 : s.testBit i = false := by simpa using hb
    rw [hb2] at hbit hms
    have hms2 : mem s (i + 1) = mem s i := by simpa using hms
    have HMS := Lib.hid hms2
    clear hms hms2 hb hb2
    go_wp2
    go_roundw
    case rel => exact ⟨i + 1, by omega, by go_num, va, vk, by rw [HMS.out], by rw [HMS.out]; exact OW, KW⟩
    case measure => simp [intOf]; omega
  ·obtain rfl : i = n := by omega
   have e1 : decide ((i : Int) < (i : Int)) = false := by simp
   go_wp2
   go_ret
   exact ⟨va, vk, rfl, OW.out, KW.out⟩
set_option maxHeartbeats 2000000 in
set_option maxRecDepth 100000 in
theorem before_any (v1 v2 : Value) (n m : Nat) (f g : Nat → Int) (w : World) (h1 : Ints w v1 n f) (h2 : Ints w v2 m g) (hn : n ≤ 1048576) (hm : m ≤ 1048576) :
  Calls Tryz.prog 30 #[v1, v2] w fun e w' => e = .returned (.bool (decide (lexC f g n m n 0 < 0))) ∧ Drawn w w' := by
 obtain ⟨a1, b1, o1, c1, rfl, s1⟩ := h1
 obtain ⟨a2, b2, o2, c2, rfl, s2⟩ := h2
 have S1 := Lib.hid s1
 have S2 := Lib.hid s2
 clear s1 s2
 go_enter Tryz.func30, Tryz.ntmps30
 go_wp2
 go_loopw [5] (fun v5 wr => ∃ k : Nat, k ≤ n ∧ k ≤ m ∧ v5 = .int .i64 (k : Nat) ∧ Hid (lexC f g n m n 0 = lexC f g n m (n - k) k) ∧ Hid (Drawn w wr)) (fun v5 _ => n - (intOf v5).toNat)
 case atStart => exact ⟨0, by omega, by omega, rfl, Lib.hid rfl, Lib.hid (Drawn.refl _)⟩
 case round =>
  obtain ⟨k, hk, hkm, rfl, HX, hd⟩ := hrel
  by_cases h : k < n
  ·have d1 : decide ((k : Int) < (n : Int)) = true := by simpa using h
   have d1n : decide (k < n) = true := by simpa using h
   have hstep : lexC f g n m (n - k) k = if m ≤ k then 1 else if cmp3 (f k) (g k) = 0 then lexC f g n m (n - (k + 1)) (k + 1) else cmp3 (f k) (g k) := by
    rw [show n - k = (n - (k + 1)) + 1 by omega]; rfl
   by_cases h2 : k < m
   ·rw [if_neg (by omega)] at hstep
    have d2 : decide ((k : Int) < (m : Int)) = true := by simpa using h2
    have d2n : decide (k < m) = true := by simpa using h2
    have ix1 := fun W => ixI S1.out k c1 h W
    have ix2 := fun W => ixI S2.out k c2 h2 W
    have x1 := (S1.out.drawn hd.out).cell k h
    have x2 := (S2.out.drawn hd.out).cell k h2
    simp only [ic] at x1 x2
    by_cases he : f k = g k
    ·have d3 : (f k != g k) = false := by simpa using he
     rw [if_pos (by unfold cmp3; rw [if_neg (by omega), if_neg (by omega)])] at hstep
     have HST := Lib.hid hstep
     clear hstep he
     go_wp2
     go_quiet (fail)
     go_wp2
     go_roundw
     case rel => exact ⟨k + 1, by omega, by omega, by go_num, Lib.hid (HX.out.trans HST.out), Lib.hid (hd.out.trans (Drawn.of _ _))⟩
     case measure => simp [intOf]; omega
    ·have d3 : (f k != g k) = true := by simpa using he
     have hlt : (lexC f g n m n 0 < 0) ↔ f k < g k := by
      rw [HX.out, hstep, if_neg (by unfold cmp3; split <;> (try split) <;> omega)]
      unfold cmp3
      split <;> (try split) <;> omega
     have HLT := Lib.hid hlt
     have y1 := x1
     have y2 := x2
     clear hstep he hlt
     go_wp2
     go_quiet (fail)
     go_wp2
     go_quiet (fail)
     go_wp2
     go_ret
     refine ⟨?_, (hd.out.step _).step _⟩
     all_goals (rw [decide_eq_decide.2 HLT.out]; rfl)
   ·obtain rfl : k = m := by omega
    rw [if_pos (Nat.le_refl _)] at hstep
    have d2 : decide ((k : Int) < (k : Int)) = false := by simp
    have d3 : decide ((n : Int) < (k : Int)) = false := by simp; omega
    have d3n : decide (n < k) = false := by simp; omega
    have HST := Lib.hid hstep
    clear hstep h2
    go_wp2
    go_ret
    refine ⟨?_, hd.out⟩
    rw [HX.out, HST.out]; rfl
  ·obtain rfl : k = n := by omega
   have d1 : decide ((k : Int) < (k : Int)) = false := by simp
   have HST : Hid (lexC f g k m (k - k) k = if k < m then -1 else 0) := Lib.hid (by rw [Nat.sub_self]; rfl)
   go_wp2
   go_ret
   refine ⟨?_, hd.out⟩
   rw [HX.out, HST.out]
   by_cases e : k < m
   ·simp [e]
   ·simp [e]
set_option maxHeartbeats 2000000 in
set_option maxRecDepth 100000 in
theorem rbalances_any (v : Value) (n : Nat) (f : Nat → Int) (r : Bool) (hr : r = true ↔ Balances n f) (w : World) (hv : Ints w v n f) (hn : n ≤ 1000) :
  Calls Tryz.prog 8 #[v] w fun e w' => e = .returned (.bool r) ∧ w = w' := by
 obtain ⟨a, b, o, c, rfl, hs⟩ := hv
 have HS := Lib.hid hs
 have HR := Lib.hid hr
 clear hs hr
 go_enter Tryz.func8, Tryz.ntmps8
 go_wp2
 go_loopw [3, 4] (fun v3 v4 wr => ∃ k : Nat, k ≤ n ∧ v4 = .int .i64 (k : Nat) ∧ v3 = .int .i64 (sumF f k) ∧ Hid (∀ i, i < k → -10000 ≤ f i ∧ f i ≤ 10000) ∧ w = wr) (fun _ v4 _ => n - (intOf v4).toNat)
 case atStart => exact ⟨0, by omega, rfl, rfl, Lib.hid (fun i hi => by omega), rfl⟩
 case round =>
  obtain ⟨k, hk, rfl, rfl, HX, rfl⟩ := hrel
  by_cases h : k < n
  ·have e1 : decide ((k : Int) < (n : Int)) = true := by simpa using h
   have e1n : decide (k < n) = true := by simpa using h
   have hix := fun W => ixI HS.out k c h W
   have hc := HS.out.cell k h
   simp only [ic] at hc
   by_cases h3 : -10000 ≤ f k ∧ f k ≤ 10000
   ·have H3 : Hid (decide (-10000 ≤ f k ∧ f k ≤ 10000) = true) := Lib.hid (decide_eq_true h3)
    have b2 := sumF_bound f k 10000 (fun i hi => by have := HX.out i hi; omega)
    have hwr : IntKind.i64.wrap (sumF f k + f k) = sumF f k + f k := by rw [IntKind.wrap_i64]; omega
    have HX2 : Hid (∀ i, i < k + 1 → -10000 ≤ f i ∧ f i ≤ 10000) := Lib.hid (fun i hi => by
     by_cases e : i = k
     ·subst e; exact h3
     ·exact HX.out i (by omega))
    clear h3 b2
    go_wp2_with (go_at_call 23; (with_reducible refine (in_any _ _ _ true H3.out _).mono ?_); rintro e w1 ⟨rfl, rfl⟩)
    go_roundw
    case rel => exact ⟨k + 1, by omega, by go_num, rfl, HX2, by first | rfl | trivial⟩
    case measure => simp [intOf]; omega
   ·obtain rfl : r = false := bool_false HR.out (fun q => h3 (q.2.2.1 k h))
    have H3 : Hid (decide (-10000 ≤ f k ∧ f k ≤ 10000) = false) := Lib.hid (decide_eq_false h3)
    clear h3
    go_wp2_with (go_at_call 23; (with_reducible refine (in_any _ _ _ false H3.out _).mono ?_); rintro e w1 ⟨rfl, rfl⟩)
    go_ret
    exact ⟨rfl, rfl⟩
  ·obtain rfl : k = n := by omega
   have e1 : decide ((k : Int) < (k : Int)) = false := by simp
   by_cases h4 : 1 ≤ k ∧ k ≤ 10
   ·have H4 : Hid (decide ((1 : Int) ≤ (k : Int) ∧ (k : Int) ≤ 10) = true) := Lib.hid (decide_eq_true (by omega))
    by_cases h5 : sumF f k = 0
    ·obtain rfl : r = true := HR.out.2 ⟨h4.1, h4.2, HX.out, h5⟩
     have d5 : (sumF f k == 0) = true := by simpa using h5
     clear h5 h4
     go_wp2_with (go_at_call 23; (with_reducible refine (in_any _ _ _ true H4.out _).mono ?_); rintro e w1 ⟨rfl, rfl⟩)
     go_ret
     exact ⟨rfl, rfl⟩
    ·obtain rfl : r = false := bool_false HR.out (fun q => h5 q.2.2.2)
     have d5 : (sumF f k == 0) = false := by simpa using h5
     clear h5 h4
     go_wp2_with (go_at_call 23; (with_reducible refine (in_any _ _ _ true H4.out _).mono ?_); rintro e w1 ⟨rfl, rfl⟩)
     go_ret
     exact ⟨rfl, rfl⟩
   ·obtain rfl : r = false := bool_false HR.out (fun q => h4 ⟨q.1, q.2.1⟩)
    have H4 : Hid (decide ((1 : Int) ≤ (k : Int) ∧ (k : Int) ≤ 10) = false) := Lib.hid (decide_eq_false (by omega))
    clear h4
    go_wp2_with (go_at_call 23; (with_reducible refine (in_any _ _ _ false H4.out _).mono ?_); rintro e w1 ⟨rfl, rfl⟩)
    go_ret
    exact ⟨rfl, rfl⟩
end Go.Proofs.YtcnaagiicpkcpaaGreat

/- The reference's groups, plainly. -/
namespace Go.Proofs.YtcnaagiicpkcpaaGreat
section
variable {n : Nat} {f : Nat → Int}
/-- what the reference notes of a set -/
def rmv (n : Nat) (f : Nat → Int) (t : Nat) : Int := if smI f t n = 0 then ((pm n f t : Nat) : Int) else -1
theorem rmv_zero : rmv n f 0 = 0 := by unfold rmv; rw [if_pos (smI_zero f n), gm_zero]; rfl
theorem rmv_range {t : Nat} (h : t < 1024) : -1 ≤ rmv n f t ∧ rmv n f t ≤ 1024 := by
 unfold rmv
 have := pm_le (n := n) (f := f) t
 split <;> omega
/-- the parts above p have been looked at -/
def PartI (n : Nat) (f : Nat → Int) (s b p acc : Nat) : Prop :=
 1 ≤ acc ∧ acc ≤ pm n f s ∧ ∀ q, Sb q s → q ≠ s → p < q → q.testBit b = true → smI f q n = 0 → 1 + pm n f (s - q) ≤ acc
theorem PartI.start {s b : Nat} (hs : s < 2 ^ n) (h : 0 < s) (h0 : smI f s n = 0) : PartI n f s b ((s - 1) &&& s) 1 :=
 ⟨Nat.le_refl _, pm_one hs h h0, fun q hq hne hlt => by have := next_le s s q (Sb.refl s) hq (by have := hq.le; omega); omega⟩
theorem PartI.skip {s b p acc : Nat} (h : PartI n f s b p acc) (hp : Sb p s) (hn : ¬ (p.testBit b = true ∧ smI f p n = 0)) : PartI n f s b ((p - 1) &&& s) acc :=
 ⟨h.1, h.2.1, fun q hq hne hlt hb h0 => by
  rcases Nat.lt_trichotomy q p with e | e | e
  ·have := next_le s p q hp hq e; omega
  ·subst e; exact absurd ⟨hb, h0⟩ hn
  ·exact h.2.2 q hq hne e hb h0⟩
theorem PartI.take {s b p acc : Nat} (h : PartI n f s b p acc) (hs : s < 2 ^ n) (h0s : smI f s n = 0) (hp : Sb p s) (hpos : 0 < p) (hne : p ≠ s) (h0 : smI f p n = 0) : PartI n f s b ((p - 1) &&& s) (max acc (1 + pm n f (s - p))) := by
 have hle := hp.le
 have h1 := pm_more (n := n) (f := f) hs (rest_sb hp) (by omega) h0s
 refine ⟨by have := h.1; omega, by have := h.2.1; omega, fun q hq hqn hlt hb hq0 => ?_⟩
 rcases Nat.lt_trichotomy q p with e | e | e
 ·have := next_le s p q hp hq e; omega
 ·subst e; omega
 ·have := h.2.2 q hq hqn e hb hq0; omega
theorem PartI.done {s b acc : Nat} (h : PartI n f s b 0 acc) (hs : s < 2 ^ n) (hpos : 0 < s) (h0 : smI f s n = 0) (hb : Low s b) : acc = pm n f s := by
 rcases pm_split s hs hpos h0 b hb with e | ⟨p, h1, h2, h3, h4, h5⟩
 ·have := h.1; have := h.2.1; omega
 ·have := h.2.2 p h1 h2 (by
   rcases Nat.eq_zero_or_pos p with e | e
   ·subst e; simp at h3
   ·exact e) h3 h4
  have := h.2.1; omega
/-- the rest of a set with the sum 0 -/
theorem rmv_rest {s p : Nat} (hp : Sb p s) (h0s : smI f s n = 0) (h0 : smI f p n = 0) : rmv n f (s - p) = ((pm n f (s - p) : Nat) : Int) := by
 have := smI_rest f hp n
 unfold rmv
 rw [if_pos (by omega)]
theorem rmv_more {s p : Nat} (hs : s < 2 ^ n) (hp : Sb p s) (hne : p ≠ s) (h0s : smI f s n = 0) (h0 : smI f p n = 0) : 0 < rmv n f (s - p) := by
 have := smI_rest f hp n
 have hle := hp.le
 have := pm_one (n := n) (f := f) (s := s - p) (by omega) (by omega) (by omega)
 rw [rmv_rest hp h0s h0]; omega
/-- whether a part may be the next group -/
theorem cand_rmv {s p b : Nat} (hp : Sb p s) (hpos : 0 < p) (h0s : smI f s n = 0) (h0 : smI f p n = 0) (hb : Low s b) (hpb : p.testBit b = true) : rmv n f (s - p) + 1 = rmv n f s ↔ Cand n f s p := by
 rw [rmv_rest hp h0s h0]
 have e : rmv n f s = ((pm n f s : Nat) : Int) := by unfold rmv; rw [if_pos h0s]
 rw [e]
 constructor
 ·exact fun h => ⟨hp, hpos, ⟨b, hb, hpb⟩, h0, by omega⟩
 ·intro h; have := h.most; omega
theorem cand_bit {s p b : Nat} (h : Cand n f s p) (hb : Low s b) : p.testBit b = true := by
 obtain ⟨c, hc, hp⟩ := h.low
 rw [hb.uniq hc]; exact hp
end
end Go.Proofs.YtcnaagiicpkcpaaGreat
