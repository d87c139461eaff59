/- Before of the reference. -/
import Derived.Test.YtolkchkedieppaaGreatZCmpI
import Derived.Test.YtolkchkedieppaaGreatZCurA
import Derived.Test.YtolkchkedieppaaGreatZLayB
import Derived.Test.YtolkchkedieppaaGreatZCurB
import Derived.Test.YtolkchkedieppaaGreatZSameR
set_option linter.unusedVariables false
set_option linter.unusedSimpArgs false
namespace Go.Proofs.YtolkchkedieppaaGreat
open Go.RowKit
attribute [local go_sem ↓] Go.wp_at_zero Go.wp_at_succ
set_option maxHeartbeats 2000000 in
set_option maxRecDepth 100000 in
theorem before_any (v1 v2 : Value) (n m : Nat) (f g : Nat → Int) (w : World) (h1 : Ints w v1 n f) (h2 : Ints w v2 m g) (hn : n ≤ 1048576) (hm : m ≤ 1048576) :
  Calls Tryz.prog 93 #[v1, v2] w fun e w' => e = .returned (.bool (decide (lexC f g n m n 0 < 0))) ∧ Drawn w w' := by
 obtain ⟨a1, b1, o1, c1, rfl, s1⟩ := h1
 obtain ⟨a2, b2, o2, c2, rfl, s2⟩ := h2
 have S1 := Lib.hid s1
 have S2 := Lib.hid s2
 clear s1 s2
 go_enter Tryz.func93, Tryz.ntmps93
 go_wp2
 go_loopw [5] (fun v5 wr => ∃ k : Nat, k ≤ n ∧ k ≤ m ∧ v5 = .int .i64 (k : Nat) ∧ Hid (lexC f g n m n 0 = lexC f g n m (n - k) k) ∧ Hid (Drawn w wr)) (fun v5 _ => n - (intOf v5).toNat)
 case atStart => exact ⟨0, by omega, by omega, rfl, Lib.hid rfl, Lib.hid (Drawn.refl _)⟩
 case round =>
  obtain ⟨k, hk, hkm, rfl, HX, hd⟩ := hrel
  by_cases h : k < n
  ·have d1 : decide ((k : Int) < (n : Int)) = true := by simpa using h
   have d1n : decide (k < n) = true := by simpa using h
   have hstep : lexC f g n m (n - k) k = if m ≤ k then 1 else if cmp3 (f k) (g k) = 0 then lexC f g n m (n - (k + 1)) (k + 1) else cmp3 (f k) (g k) := by
    rw [show n - k = (n - (k + 1)) + 1 by omega]; rfl
   by_cases h2 : k < m
   ·rw [if_neg (by omega)] at hstep
    have d2 : decide ((k : Int) < (m : Int)) = true := by simpa using h2
    have d2n : decide (k < m) = true := by simpa using h2
    have ix1 := fun W => ixI S1.out k c1 h W
    have ix2 := fun W => ixI S2.out k c2 h2 W
    have x1 := (S1.out.drawn hd.out).cell k h
    have x2 := (S2.out.drawn hd.out).cell k h2
    simp only [ic] at x1 x2
    by_cases he : f k = g k
    ·have d3 : (f k != g k) = false := by simpa using he
     rw [if_pos (by unfold cmp3; rw [if_neg (by omega), if_neg (by omega)])] at hstep
     have HST := Lib.hid hstep
     clear hstep he
     go_wp2
     go_quiet (fail)
     go_wp2
     go_roundw
     case rel => exact ⟨k + 1, by omega, by omega, by go_num, Lib.hid (HX.out.trans HST.out), Lib.hid (hd.out.trans (Drawn.of _ _))⟩
     case measure => simp [intOf]; omega
    ·have d3 : (f k != g k) = true := by simpa using he
     have hlt : (lexC f g n m n 0 < 0) ↔ f k < g k := by
      rw [HX.out, hstep, if_neg (by unfold cmp3; split <;> (try split) <;> omega)]
      unfold cmp3
      split <;> (try split) <;> omega
     have HLT := Lib.hid hlt
     have y1 := x1
     have y2 := x2
     clear hstep he hlt
     go_wp2
     go_quiet (fail)
     go_wp2
     go_quiet (fail)
     go_wp2
     go_ret
     refine ⟨?_, (hd.out.step _).step _⟩
     all_goals (rw [decide_eq_decide.2 HLT.out]; rfl)
   ·obtain rfl : k = m := by omega
    rw [if_pos (Nat.le_refl _)] at hstep
    have d2 : decide ((k : Int) < (k : Int)) = false := by simp
    have d3 : decide ((n : Int) < (k : Int)) = false := by simp; omega
    have d3n : decide (n < k) = false := by simp; omega
    have HST := Lib.hid hstep
    clear hstep h2
    go_wp2
    go_ret
    refine ⟨?_, hd.out⟩
    rw [HX.out, HST.out]; rfl
  ·obtain rfl : k = n := by omega
   have d1 : decide ((k : Int) < (k : Int)) = false := by simp
   have HST : Hid (lexC f g k m (k - k) k = if k < m then -1 else 0) := Lib.hid (by rw [Nat.sub_self]; rfl)
   go_wp2
   go_ret
   refine ⟨?_, hd.out⟩
   rw [HX.out, HST.out]
   by_cases e : k < m
   ·simp [e]
   ·simp [e]
end Go.Proofs.YtolkchkedieppaaGreat

/- ref.Same of equal lists, by Before of any two. -/
namespace Go.Proofs.YtolkchkedieppaaGreat
open Go.RowKit
attribute [local go_sem ↓] Go.wp_at_zero Go.wp_at_succ
theorem lexC_same (f : Nat → Int) (n : Nat) : ∀ u k, u + k = n → lexC f f n n u k = 0
 | 0, k, h => by simp [lexC]
 | u + 1, k, h => by
  unfold lexC
  rw [if_neg (by omega), if_pos (by unfold cmp3; rw [if_neg (by omega), if_neg (by omega)])]
  exact lexC_same f n u (k + 1) (by omega)
theorem before_same (v1 v2 : Value) (n : Nat) (f : Nat → Int) (w : World) (h1 : Ints w v1 n f) (h2 : Ints w v2 n f) (hn : n ≤ 1048576) :
  Calls Tryz.prog 93 #[v1, v2] w fun e w' => e = .returned (.bool false) ∧ Drawn w w' := by
 have h := before_any v1 v2 n n f f w h1 h2 hn hn
 rw [lexC_same f n n 0 (by omega)] at h
 exact h
theorem same_same (v1 v2 : Value) (n : Nat) (f : Nat → Int) (w : World) (h1 : Ints w v1 n f) (h2 : Ints w v2 n f) (hn : n ≤ 1048576) :
  Calls Tryz.prog 40 #[v1, v2] w fun e w' => e = .returned (.bool true) ∧ Drawn w w' := by
 have H1 := Lib.hid h1
 have H2 := Lib.hid h2
 have HD := Lib.hid (Drawn.refl w)
 clear h1 h2
 go_enter Tryz.func40, Tryz.ntmps40
 go_wp2_with (first
  | (go_at_call 93; (with_reducible refine (before_same v1 v2 n f _ (H1.out.drawn HD.out) (H2.out.drawn HD.out) hn).mono ?_); rintro e w1 ⟨rfl, hd⟩; have HD := Lib.hid (HD.out.trans hd); clear hd)
  | (go_at_call 93; (with_reducible refine (before_same v2 v1 n f _ (H2.out.drawn HD.out) (H1.out.drawn HD.out) hn).mono ?_); rintro e w2 ⟨rfl, hd⟩; have HD := Lib.hid (HD.out.trans hd); clear hd))
 go_ret
 exact ⟨rfl, HD.out⟩
end Go.Proofs.YtolkchkedieppaaGreat

/- A number has one text. -/
namespace Go.Proofs.YtolkchkedieppaaGreat
open Go.RowKit
theorem Len10.uniq {x L M : Nat} (h : Len10 x L) (h' : Len10 x M) : L = M := by
 rcases Nat.eq_zero_or_pos x with e | e
 ·rw [h.zero e, h'.zero e]
 ·obtain ⟨a1, a2⟩ := h.ge e
  obtain ⟨b1, b2⟩ := h'.ge e
  have key : ∀ {L M : Nat}, 10 ^ (L - 1) ≤ x → x < 10 ^ M → 0 < L → L ≤ M := fun h1 h2 h3 => by
   have h4 := (Nat.pow_lt_pow_iff_right (by omega : 1 < 10)).1 (Nat.lt_of_le_of_lt h1 h2)
   omega
  exact Nat.le_antisymm (key a2 h'.lt a1) (key b2 h.lt b1)
theorem IsTxt.uniq {s t : ByteArray} {x : Nat} (h : IsTxt s x) (h' : IsTxt t x) : s = t := by
 obtain ⟨L, h1, h2, h3⟩ := h
 obtain ⟨M, g1, g2, g3⟩ := h'
 obtain rfl := h1.uniq g1
 have hs : s.data.size = t.data.size := by
  have a : s.data.size = s.size := rfl
  have b : t.data.size = t.size := rfl
  omega
 have hd : s.data = t.data := by
  apply Array.ext hs
  intro i hi hj
  apply UInt8.toNat_inj.1
  have a := h3 i hi
  have b := g3 i hj
  exact a.trans b.symm
 cases s; cases t; simp_all
theorem FracTxt.uniq {s t : ByteArray} {p : Int} {d : Nat} (h : FracTxt s p d) (h' : FracTxt t p d) : s = t := by
 obtain ⟨a, h1, h2⟩ := h
 obtain ⟨b, g1, g2⟩ := h'
 obtain rfl := h1.uniq g1
 rcases h2 with ⟨hd, rfl⟩ | ⟨hd, u, hu, rfl⟩
 ·rcases g2 with ⟨_, rfl⟩ | ⟨hd2, _⟩
  ·rfl
  ·exact absurd hd hd2
 ·rcases g2 with ⟨hd2, _⟩ | ⟨_, v, hv, rfl⟩
  ·exact absurd hd2 hd
  ·rw [hu.uniq hv]
end Go.Proofs.YtolkchkedieppaaGreat

/- lives of the laws of hide. -/
namespace Go.Proofs.YtolkchkedieppaaGreat
open Go.RowKit
attribute [local go_sem ↓] Go.wp_at_zero Go.wp_at_succ
theorem w3_ht : HtOK 3 W3 x3 2 2 where
 piv := by show ∀ c, c < 2 → _; decide +kernel
 sz := fun c hc i j hi hj => by
  have h : ∀ c, c < 3 → ∀ i, i < 2 → ∀ j, j < 3 → szQ (triQ (augQ 2 (castM (hMat 3 W3 3)) (fun i => if i = 0 then 1 else 0)) c i j) ≤ 2 := by decide +kernel
  exact h c (by omega) i hi j hj
 k1 := by omega
 k2 := by omega
 sol := by show ∀ i, i < 2 → _; decide +kernel
 xs := by show ∀ i, i < 2 → _; decide +kernel
 x2 := by omega
 x1 := by omega
theorem w3_U : uK (curQ W3 (potQ 3 x3)) 3 = 3 := by decide +kernel
theorem w3_G : gK (curQ W3 (potQ 3 x3)) 3 3 = 1 := by decide +kernel
theorem w3_cq : ∀ k, k < 3 → curQ W3 (potQ 3 x3) k * ((3 : Nat) : Int) / ((1 : Nat) : Int) = if k = 0 then 2 else 1 := by decide +kernel
theorem maxD_of {x e : Nat} (hx : x < 10 ^ e) (he : e ≤ 4000) : MaxD x := by
 have h : ∀ m, e ≤ m → x < 10 ^ m := fun m hm => Nat.lt_of_lt_of_le hx (Nat.pow_le_pow_right (Nat.succ_pos 9) hm)
 exact ⟨h 4000 he⟩
theorem maxD_1 : MaxD 1 := maxD_of (e := 1) (by decide) (by decide)
theorem maxD_2 : MaxD 2 := maxD_of (e := 1) (by decide) (by decide)
theorem w3_cur : CurOK W3.length (curQ W3 (potQ 3 x3)) 2 where
 s1 := by show ∀ k, k < 3 → _; decide +kernel
 u1 := by show ∀ k, k ≤ 3 → _; intro k hk; revert k; decide +kernel
 s2 := by show ∀ k, k < 3 → szQ (_ * ((uK (curQ W3 (potQ 3 x3)) 3 : Nat) : Int)) ≤ 2; rw [w3_U]; decide +kernel
 g0 := by show 0 < gK _ (uK (curQ W3 (potQ 3 x3)) 3) 3; rw [w3_U, w3_G]; omega
 s3 := by
  show ∀ k, k < 3 → szQ (_ * ((uK (curQ W3 (potQ 3 x3)) 3 : Nat) : Int) / ((gK (curQ W3 (potQ 3 x3)) (uK (curQ W3 (potQ 3 x3)) 3) 3 : Nat) : Int)) ≤ 2
  rw [w3_U, w3_G]
  intro k hk
  rw [w3_cq k hk]
  rcases (by omega : k = 0 ∨ k = 1 ∨ k = 2) with rfl | rfl | rfl <;> decide +kernel
 d := by
  show ∀ k, k < 3 → MaxD (_ * ((uK (curQ W3 (potQ 3 x3)) 3 : Nat) : Int) / ((gK (curQ W3 (potQ 3 x3)) (uK (curQ W3 (potQ 3 x3)) 3) 3 : Nat) : Int) : Rat).num.natAbs ∧ MaxD (_ * ((uK (curQ W3 (potQ 3 x3)) 3 : Nat) : Int) / ((gK (curQ W3 (potQ 3 x3)) (uK (curQ W3 (potQ 3 x3)) 3) 3 : Nat) : Int) : Rat).den
  rw [w3_U, w3_G]
  intro k hk
  rw [w3_cq k hk]
  rcases (by omega : k = 0 ∨ k = 1 ∨ k = 2) with rfl | rfl | rfl
  ·exact ⟨maxD_2, maxD_1⟩
  ·exact ⟨maxD_1, maxD_1⟩
  ·exact ⟨maxD_1, maxD_1⟩
/-- the texts of the example's currents -/
def t3 (j : Nat) : ByteArray := if j = 0 then ⟨#[50]⟩ else ⟨#[49]⟩
theorem w3_txt {ss : Nat → ByteArray} (h : TxtsOf W3.length (fun k => curQ W3 (potQ 3 x3) k * ((uK (curQ W3 (potQ 3 x3)) W3.length : Nat) : Int) / ((gK (curQ W3 (potQ 3 x3)) (uK (curQ W3 (potQ 3 x3)) W3.length) W3.length : Nat) : Int)) ss) : ∀ j, j < 3 → ss j = t3 j := fun j hj => by
 have h1 := h.txt j hj
 have hl : W3.length = 3 := rfl
 rw [hl, w3_U, w3_G, w3_cq j hj] at h1
 refine h1.uniq ?_
 rcases (by omega : j = 0 ∨ j = 1 ∨ j = 2) with rfl | rfl | rfl
 ·refine ⟨⟨#[50]⟩, ⟨1, ⟨by decide, fun e => by omega, fun _ => ⟨by omega, by decide⟩⟩, rfl, fun i hi => ?_⟩, .inl ⟨rfl, rfl⟩⟩
  obtain rfl : i = 0 := by have : i < 1 := hi; omega
  rfl
 ·refine ⟨⟨#[49]⟩, ⟨1, ⟨by decide, fun e => by omega, fun _ => ⟨by omega, by decide⟩⟩, rfl, fun i hi => ?_⟩, .inl ⟨rfl, rfl⟩⟩
  obtain rfl : i = 0 := by have : i < 1 := hi; omega
  rfl
 ·refine ⟨⟨#[49]⟩, ⟨1, ⟨by decide, fun e => by omega, fun _ => ⟨by omega, by decide⟩⟩, rfl, fun i hi => ?_⟩, .inl ⟨rfl, rfl⟩⟩
  obtain rfl : i = 0 := by have : i < 1 := hi; omega
  rfl
/-- a row that was just made -/
theorem slH_new (w : World) (xs : List Value) (t : TypeId) (g : Nat → Value) (hg : ∀ i, i < xs.length → xs[i]? = some (g i)) : Sl (w.alloc (.cells xs.toArray t)) (.slice (some ⟨w.heap.size, 0, none⟩) xs.length xs.length) xs.length g := by
 refine ⟨_, _, _, _, rfl, Nat.le_refl _, fun _ => rfl, fun _ => by simp, fun i hi => ?_, fun e => by cases e⟩
 rw [Nat.zero_add]
 have h := cell_of_row (w.alloc (.cells xs.toArray t)) w.heap.size i xs.toArray t (0, 0) (heap_alloc_new w _)
 rw [h]; simpa using hg i hi
def L9 : List Nat := [18, 14, 4, 10, 15, 7, 1, 9, 8]
set_option maxHeartbeats 4000000 in
set_option maxRecDepth 100000 in
theorem livesH_true (w : World) : Calls Tryz.prog 18 #[] w fun e w' => e = .returned (.bool true) ∧ Below w.heap.size w w' := by
 go_enter Tryz.func18, Tryz.ntmps18
 go_upto_region 2 with (fail)
 have TR : Hid (TrR (w.alloc (.cells #[.int .i64 0, .int .i64 0, .int .i64 2, .int .i64 2, .int .i64 0, .int .i64 1, .int .i64 2, .int .i64 1, .int .i64 1] 47)) w.heap.size 0 S3) := Lib.hid (by
  refine ⟨fun i hi => ?_, fun i hi => ?_, fun i hi => ?_⟩ <;> (have hi : i < 3 := hi; rcases (by omega : i = 0 ∨ i = 1 ∨ i = 2) with rfl | rfl | rfl <;> simp [go_sem, S3]))
 have KW := Lib.hid ((Below.refl w.heap.size w).alloc (Nat.le_refl _) (.cells #[.int .i64 0, .int .i64 0, .int .i64 2, .int .i64 2, .int .i64 0, .int .i64 1, .int .i64 2, .int .i64 1, .int .i64 1] 47))
 have HG : Hid (w.heap.size < (w.alloc (.cells #[.int .i64 0, .int .i64 0, .int .i64 2, .int .i64 2, .int .i64 0, .int .i64 1, .int .i64 2, .int .i64 1, .int .i64 1] 47)).heap.size) := Lib.hid (by simp)
 generalize w.alloc (.cells #[.int .i64 0, .int .i64 0, .int .i64 2, .int .i64 2, .int .i64 0, .int .i64 1, .int .i64 2, .int .i64 1, .int .i64 1] 47) = w1 at TR KW HG ⊢
 obtain ⟨g0, hg0⟩ : ∃ g0, g0 = w.heap.size := ⟨_, rfl⟩
 rw [← hg0] at TR HG ⊢
 clear hg0
 have hc := code_good g0 3 S3 w1 TR.out HG.out (by decide) s3_cut
 rw [show S3.length = 3 from rfl] at hc
 go_upto_region 3 with (first
  | (go_at_call 31; (with_reducible refine hc.mono ?_); rintro e w2 ⟨va, vk, S', B, rfl, hl, hp, hs, hB, ho, hb⟩; obtain rfl := s3_sorted hp hs; have HI := Lib.hid (ints_of_own ho); have KW := Lib.hid (KW.out.trans (hb.mono KW.out.size)); have TR := Lib.hid (TR.out.below hb HG.out); have HG := Lib.hid (Nat.lt_of_lt_of_le HG.out hb.size); clear hl hp hs hB ho hb))
 clear hc
 have hn := network_good g0 3 S3 w2 TR.out HG.out (by decide) s3_cut
 rw [show S3.length = 3 from rfl] at hn
 go_upto_region 4 with (first
  | (go_at_call 20; (with_reducible refine hn.mono ?_); rintro e w3 ⟨na, nk, S', P, B, hl, hp, hs, hp2, hs2, rfl, hB, ho, hb⟩; obtain rfl := s3_sorted hp hs; have hj := s3_lines hp2 hs2; rw [show 2 * 3 - 1 = 5 from rfl, hj] at *; have HI := Lib.hid (HI.out.mono hb (Nat.le_refl _)); have KW := Lib.hid (KW.out.trans (hb.mono KW.out.size)); clear hl hp hs hp2 hs2 hB ho hb hj))
 clear hn TR HG
 have PR : Hid (PrR (w3.alloc (.cells #[.int .i64 0, .int .i64 2, .int .i64 0, .int .i64 1, .int .i64 1, .int .i64 2] 40)) w3.heap.size 0 W3) := Lib.hid (by
  refine ⟨fun i hi => ?_, fun i hi => ?_⟩ <;> (have hi : i < 3 := hi; rcases (by omega : i = 0 ∨ i = 1 ∨ i = 2) with rfl | rfl | rfl <;> simp [go_sem, W3]))
 have HA := Lib.hid (boxes1 w3 (.cells #[.int .i64 0, .int .i64 2, .int .i64 0, .int .i64 1, .int .i64 1, .int .i64 2] 40))
 have hk := currents_any w3.heap.size 3 3 W3 x3 2 2 2 _ PR.out (by simp) (by decide) (by decide) (by omega) (by omega) w3_ok w3_ne w3_con w3_ht (Nat.le_refl _) (Nat.le_refl _) (by omega) w3_cur
 rw [show W3.length = 3 from rfl, show ((3 : Nat) : Int) = 3 from rfl] at hk
 go_upto_region 5 with (first
  | (go_at_call 25; go_loud ((with_reducible refine hk.mono ?_); rintro e w4 ⟨ca, ck, ss, rfl, hss, ho, hb⟩; have hs := w3_txt (by exact hss); have hb2 := HA.out.trans (hb.mono HA.out.size); have TX : Hid (Sl w4 (.slice ca 3 ck) 3 (fun j => .string (t3 j))) := Lib.hid (Sl.of_own ho (fun i hi => by rw [strL_get ss 3 i hi, hs i hi])); have HI := Lib.hid (HI.out.mono hb2 (Nat.le_refl _)); have KW := Lib.hid (KW.out.trans (hb2.mono KW.out.size)); clear hss ho hb hs hb2)))
 clear hk PR HA
 have LI : Hid (Ints (w4.alloc (.cells #[.int .i64 18, .int .i64 14, .int .i64 4, .int .i64 10, .int .i64 15, .int .i64 7, .int .i64 1, .int .i64 9, .int .i64 8] 3)) (.slice (some ⟨w4.heap.size, 0, none⟩) 9 9) 9 (eF L9)) :=
  Lib.hid (slH_new w4 [.int .i64 18, .int .i64 14, .int .i64 4, .int .i64 10, .int .i64 15, .int .i64 7, .int .i64 1, .int .i64 9, .int .i64 8] 3 (ic (eF L9)) (fun i hi => by
   have hi : i < 9 := hi
   rcases (by omega : i = 0 ∨ i = 1 ∨ i = 2 ∨ i = 3 ∨ i = 4 ∨ i = 5 ∨ i = 6 ∨ i = 7 ∨ i = 8) with rfl | rfl | rfl | rfl | rfl | rfl | rfl | rfl | rfl <;> rfl))
 have HA := Lib.hid (boxes1 w4 (.cells #[.int .i64 18, .int .i64 14, .int .i64 4, .int .i64 10, .int .i64 15, .int .i64 7, .int .i64 1, .int .i64 9, .int .i64 8] 3))
 have hy := lay_good (.slice (some ⟨w4.heap.size, 0, none⟩) 9 9) 32 L9 _ LI.out (by omega) (by omega) (by decide) (by decide) (by decide)
 rw [show ((32 : Nat) : Int) = 32 from rfl] at hy
 obtain ⟨out9, F9, hl9, hlen, hlv⟩ := lay_ex
 have HL9 := Lib.hid hl9
 have HLV := Lib.hid hlv
 clear hl9 hlv
 go_upto_region 6 with (first
  | (go_at_call 15; go_loud ((with_reducible refine hy.mono ?_); rintro e w5 ⟨hor, hb⟩; have hor2 : ∃ va vk, e = .returned (.tuple #[.slice va 9 vk, .int .i64 0]) := (by
    rcases hor with ⟨out, F, h1, h2, ya, yk, h3, h4⟩ | ⟨h1, h2⟩
    ·have h5 := HL9.out.symm.trans h1
     injection h5 with h5
     injection h5 with h5 h6
     subst h5
     rw [hlen] at h3
     exact ⟨ya, yk, h3⟩
    ·exact absurd HLV.out (h1 out9 F9 HL9.out)); obtain ⟨ya, yk, rfl⟩ := hor2; have hb2 := HA.out.trans (hb.mono HA.out.size); have HI := Lib.hid (HI.out.mono hb2 (Nat.le_refl _)); have TX := Lib.hid (Sl.mono TX.out hb2 (Nat.le_refl _)); have KW := Lib.hid (KW.out.trans (hb2.mono KW.out.size)); clear hor hb hb2)))
 clear hy LI HA HL9 HLV hlen
 have I2 : Hid (Ints (w5.alloc (.cells #[.int .i64 2, .int .i64 1, .int .i64 1] 3)) (.slice (some ⟨w5.heap.size, 0, none⟩) 3 3) 3 (szF S3)) :=
  Lib.hid (slH_new w5 [.int .i64 2, .int .i64 1, .int .i64 1] 3 (ic (szF S3)) (fun i hi => by
   have hi : i < 3 := hi
   rcases (by omega : i = 0 ∨ i = 1 ∨ i = 2) with rfl | rfl | rfl <;> rfl))
 have HA := Lib.hid (boxes1 w5 (.cells #[.int .i64 2, .int .i64 1, .int .i64 1] 3))
 have HI := Lib.hid (HI.out.mono HA.out (Nat.le_refl _))
 have TX := Lib.hid (Sl.mono TX.out HA.out (Nat.le_refl _))
 have KW := Lib.hid (KW.out.trans (HA.out.mono KW.out.size))
 have hT : ∀ W : World, Sl (W.alloc (.cells #[.string { data := #[50] }, .string { data := #[49] }, .string { data := #[49] }] 52)) (.slice (some ⟨W.heap.size, 0, none⟩) 3 3) 3 (fun j => .string (t3 j)) := fun W => slH_new W [.string { data := #[50] }, .string { data := #[49] }, .string { data := #[49] }] 52 _ (fun i hi => by
   have hi : i < 3 := hi
   rcases (by omega : i = 0 ∨ i = 1 ∨ i = 2) with rfl | rfl | rfl <;> rfl)
 have HT := Lib.hid hT
 clear hT
 go_wp2_with (first
  | (go_at_call 40; go_loud ((with_reducible refine (same_same _ _ 3 (szF S3) _ HI.out I2.out (by omega)).mono ?_); rintro e w6 ⟨rfl, hd⟩; have hb := hd.below (w5.alloc (.cells #[.int .i64 2, .int .i64 1, .int .i64 1] 3)).heap.size; have TX := Lib.hid (Sl.mono TX.out hb (Nat.le_refl _)); have KW := Lib.hid (KW.out.trans (hb.mono KW.out.size)); clear hd hb))
  | (go_at_call 53; go_loud ((with_reducible refine (sameRow_eq _ _ 3 t3 _ (Sl.mono TX.out (boxes1 _ _) (Nat.le_refl _)) (HT.out _) (by omega)).mono ?_); rintro e w7 ⟨rfl, hd⟩; have KW := Lib.hid ((KW.out.alloc KW.out.size _).trans (hd.below _)); clear hd)))
 go_ret
 exact ⟨rfl, KW.out⟩
end Go.Proofs.YtolkchkedieppaaGreat
