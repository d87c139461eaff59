/- The reference's numbers: digits in base 10000; sizes and lean. -/
import Derived.Test.YtolkchkedieppaaGreatZPlainD
import Derived.Test.YtolkchkedieppaaGreatZGen
import Derived.Test.YtolkchkedieppaaGreatZInt1
import Derived.Test.YtolkchkedieppaaGreatZRat4
import Derived.Laws.AppendOwnNone
import Derived.Deep.LoopGhost
import Derived.Deep.DeepCutAuto
import Derived.Deep.CutBlock
set_option linter.unusedVariables false
set_option linter.unusedSimpArgs false
namespace Go.Proofs.YtolkchkedieppaaGreat
open Go.RowKit
attribute [local go_sem ↓] Go.wp_at_zero Go.wp_at_succ
/-- digits as integers -/
def dI (f : Nat → Nat) (i : Nat) : Int := (f i : Nat)
/-- digits in base 10000, zeros at the end allowed -/
def Raw (w : World) (u : Value) (n : Nat) (f : Nat → Nat) : Prop := Ints w u n (dI f)
/-- the digits of a natural number -/
def Dg (w : World) (u : Value) (x : Nat) : Prop := Raw w u (nd x) (dg x)
theorem Dg.mono {w w' : World} {u : Value} {x B : Nat} (h : Dg w u x) (hb : Below B w w') (hB : w.heap.size ≤ B) : Dg w' u x := Ints.mono h hb hB
theorem Dg.drawn {w w' : World} {u : Value} {x : Nat} (h : Dg w u x) (hd : Drawn w w') : Dg w' u x := Ints.drawn h hd
def ZIs (w : World) (v : Value) (z : Int) (m : Nat) : Prop := ∃ u, v = .agg #[.bool (decide (z < 0)), u] ∧ Dg w u z.natAbs ∧ nd z.natAbs ≤ m
theorem ZIs.mono {w w' : World} {v : Value} {z : Int} {m B : Nat} (h : ZIs w v z m) (hb : Below B w w') (hB : w.heap.size ≤ B) : ZIs w' v z m := by
 obtain ⟨u, rfl, h1, h2⟩ := h
 exact ⟨u, rfl, h1.mono hb hB, h2⟩
theorem ZIs.drawn {w w' : World} {v : Value} {z : Int} {m : Nat} (h : ZIs w v z m) (hd : Drawn w w') : ZIs w' v z m := h.mono (hd.below _) (Nat.le_refl _)
theorem ZIs.le {w : World} {v : Value} {z : Int} {m n : Nat} (h : ZIs w v z m) (hle : m ≤ n) : ZIs w v z n := by
 obtain ⟨u, rfl, h1, h2⟩ := h
 exact ⟨u, rfl, h1, Nat.le_trans h2 hle⟩
theorem ZIs.mk {w : World} {s : Bool} {u : Value} {x m : Nat} {z : Int} (hz : z = sgn s x) (hm : Dg w u x) (hl : nd x ≤ m) : ZIs w (.agg #[.bool (s && decide (0 < x)), u]) z m := by
 subst hz
 exact ⟨u, by rw [sgn_neg], by rw [sgn_abs]; exact hm, by rw [sgn_abs]; exact hl⟩
theorem div_stepD (x k : Nat) : x / 10000 ^ k = (x / 10000 ^ (k + 1)) * 10000 + dg x k := by
 unfold dg
 rw [Nat.pow_succ, ← Nat.div_div_eq_div_mul]
 have := Nat.div_add_mod (x / 10000 ^ k) 10000
 omega
set_option maxHeartbeats 2000000 in
theorem sizes_any (u v : Value) (x y : Nat) (w : World) (hu : Dg w u x) (hv : Dg w v y) (bx : nd x ≤ 1099511627776) (b_y : nd y ≤ 1099511627776) :
  Calls Tryz.prog 154 #[u, v] w fun e w' => e = .returned (.int .i64 (cmpN x y)) ∧ Drawn w w' := by
 obtain ⟨a1, b1, o1, c1, rfl, i1⟩ := hu
 obtain ⟨a2, b2, o2, c2, rfl, i2⟩ := hv
 by_cases hl : nd x = nd y
 ·have hl1 : (((nd x : Nat) : Int) != ((nd y : Nat) : Int)) = false := by simp [hl]
  have HL := Lib.hid hl
  clear hl
  go_enter Tryz.func154, Tryz.ntmps154
  go_wp2
  go_loopw [5] (fun i wr => ∃ k : Nat, k ≤ nd x ∧ i = .int .i64 ((k : Int) - 1) ∧ Hid (Drawn w wr) ∧ Hid (x / 10000 ^ k = y / 10000 ^ k)) (fun i _ => (intOf i + 1).toNat)
  case atStart => exact ⟨nd x, Nat.le_refl _, rfl, Lib.hid (Drawn.refl _), Lib.hid (by
   rw [Nat.div_eq_of_lt (lt_pow_nd x), HL.out, Nat.div_eq_of_lt (lt_pow_nd y)])⟩
  case round =>
   obtain ⟨k, hk, rfl, hd, HQ⟩ := hrel
   by_cases h0 : 0 < k
   ·obtain ⟨j, rfl⟩ : ∃ j, k = j + 1 := ⟨k - 1, by omega⟩
    have hj1 : j < nd x := by omega
    have hj2 : j < nd y := by rw [← HL.out]; omega
    have e0 : ((j + 1 : Nat) : Int) - 1 = (j : Int) := by omega
    rw [e0]
    clear e0
    have hc1 := (i1.drawn hd.out).cell j hj1
    have hc2 := (i2.drawn hd.out).cell j hj2
    have hx1 := fun W => ixI i1 j c1 hj1 W
    have hx2 := fun W => ixI i2 j c2 hj2 W
    simp only [ic, dI] at hc1 hc2
    have g0 : decide ((0 : Int) ≤ (j : Int)) = true := by simp
    have hw1 : IntKind.i64.wrap ((j : Int) - 1) = (j : Int) - 1 := by rw [IntKind.wrap_i64]; omega
    have e1 := div_stepD x j
    have e2 := div_stepD y j
    have hq := HQ.out
    have hlt : dg x j < dg y j → x < y := fun h => by
     rcases Nat.lt_or_ge x y with q | q
     ·exact q
     ·have := Nat.div_le_div_right (c := 10000 ^ j) q
      rw [e1, e2, hq] at this; omega
    have hgt : dg y j < dg x j → y < x := fun h => by
     rcases Nat.lt_or_ge y x with q | q
     ·exact q
     ·have := Nat.div_le_div_right (c := 10000 ^ j) q
      rw [e1, e2, hq] at this; omega
    have heq : dg x j = dg y j → x / 10000 ^ j = y / 10000 ^ j := fun h => by rw [e1, e2, hq, h]
    have HLT := Lib.hid hlt
    have HGT := Lib.hid hgt
    have HEQ := Lib.hid heq
    clear hlt hgt heq e1 e2 hq
    by_cases h1 : dg x j < dg y j
    ·have d1 : decide (((dg x j : Nat) : Int) < ((dg y j : Nat) : Int)) = true := by simpa using h1
     have H1 := Lib.hid (HLT.out h1)
     go_wp2
     go_quiet (fail)
     go_wp2
     go_ret
     exact ⟨by simp [cmpN, H1.out], hd.out.step _⟩
    ·have d1 : decide (((dg x j : Nat) : Int) < ((dg y j : Nat) : Int)) = false := by simpa using h1
     by_cases h2 : dg y j < dg x j
     ·have d2 : decide (((dg y j : Nat) : Int) < ((dg x j : Nat) : Int)) = true := by simpa using h2
      have H1 := Lib.hid (HGT.out h2)
      go_wp2
      go_quiet (fail)
      go_wp2
      go_quiet (fail)
      go_wp2
      go_ret
      refine ⟨?_, (hd.out.step _).step _⟩
      have := H1.out
      have q3 : ¬ x < y := by omega
      have q4 : ¬ x = y := by omega
      simp [cmpN, q3, q4]
     ·have d2 : decide (((dg y j : Nat) : Int) < ((dg x j : Nat) : Int)) = false := by simpa using h2
      have H1 := Lib.hid (HEQ.out (by omega))
      go_wp2
      go_quiet (fail)
      go_wp2
      go_quiet (fail)
      go_wp2
      go_roundw
      case rel => exact ⟨j, by omega, rfl, Lib.hid (hd.out.step _), H1⟩
      case measure => simp [intOf]
   ·obtain rfl : k = 0 := by omega
    have hxy : x = y := by have := HQ.out; simpa using this
    have HXY := Lib.hid hxy
    clear hxy
    have g0 : decide ((0 : Int) ≤ ((0 : Nat) : Int) - 1) = false := by decide
    go_wp2
    go_ret
    exact ⟨by simp [cmpN, HXY.out], hd.out⟩
 ·have hl1 : (((nd x : Nat) : Int) != ((nd y : Nat) : Int)) = true := by simp; omega
  have HD := Lib.hid hl
  by_cases hd : nd x < nd y
  ·clear hl
   have hd1 : decide (((nd x : Nat) : Int) < ((nd y : Nat) : Int)) = true := by simpa using hd
   go_enter Tryz.func154, Tryz.ntmps154
   go_wp2
   go_ret
   refine ⟨?_, Drawn.refl _⟩
   have : x < y := by
    rcases Nat.lt_or_ge x y with q | q
    ·exact q
    ·have := nd_mono q; omega
   simp [cmpN, this]
  ·clear hl
   have hd1 : decide (((nd x : Nat) : Int) < ((nd y : Nat) : Int)) = false := by simp; omega
   go_enter Tryz.func154, Tryz.ntmps154
   go_wp2
   go_ret
   refine ⟨?_, Drawn.refl _⟩
   have : y < x := by
    rcases Nat.lt_or_ge y x with q | q
    ·exact q
    ·have := nd_mono q; have := HD.out; omega
   have q3 : ¬ x < y := by omega
   have q4 : ¬ x = y := by omega
   simp [cmpN, q3, q4]
theorem own2_block {w w' : World} {b : Nat} {row : Option Nat} {x y : Value} (h : Own2 w b x y) (hg : w.grownBy w' row) (hne : some b ≠ row) : Own2 w' b x y :=
 have e := hg.block b h.lt hne
 have c : ∀ o, w'.cell? ⟨b, o, none⟩ = w.cell? ⟨b, o, none⟩ := fun o => World.cell?_of_block (a := ⟨b, o, none⟩) e
 ⟨(c 0).trans h.c0, (c 1).trans h.c1, fun o => (World.frozen?_of_block (a := ⟨b, o, none⟩) e).trans (h.f o), Nat.lt_of_lt_of_le h.lt hg.size⟩
/-- lean's stores leave the digits as they are -/
theorem lean_fin {w w3 : World} {B k b1 b2 : Nat} {va : Option Addr} {vk : Nat} {xs : List Value} (hown : w3.ownsRow B 3 1 (.slice va k vk) k xs) (hb : Below w.heap.size w w3) (h1 : w.heap.size ≤ b1) (h2 : b1 < B) (h3 : w.heap.size ≤ b2) (h4 : b2 < B) (u1 u2 u3 u4 : Value) :
  ((((w3.setCell ⟨b1, 1, none⟩ u1).setCell ⟨b1, 0, none⟩ u2).setCell ⟨b2, 0, none⟩ u3).setCell ⟨b2, 1, none⟩ u4).ownsRow B 3 1 (.slice va k vk) k xs ∧
  Below w.heap.size w ((((w3.setCell ⟨b1, 1, none⟩ u1).setCell ⟨b1, 0, none⟩ u2).setCell ⟨b2, 0, none⟩ u3).setCell ⟨b2, 1, none⟩ u4) :=
 ⟨ownsRow_setCell_below (ownsRow_setCell_below (ownsRow_setCell_below (ownsRow_setCell_below hown h2 _) h2 _) h4 _) h4 _, (((hb.setCell h1 _).setCell h1 _).setCell h3 _).setCell h3 _⟩
/-- the digits of lean's number, as integers -/
theorem dg_of_own {w : World} {B : Nat} {va : Option Addr} {vk n : Nat} {f : Nat → Nat} (hf : ∀ i, i < n → f i < 10000) (h : w.ownsRow B 3 1 (.slice va (trimN f n) vk) (trimN f n) (ics (dI f) (trimN f n))) : Dg w (.slice va (trimN f n) vk) (valD f n) := by
 have hi := ints_of_own h
 unfold Dg Raw
 rw [nd_valD f n hf]
 obtain ⟨a, b, o, c, he, hs⟩ := hi
 refine ⟨a, b, o, c, he, hs.congr (fun i hi => ?_)⟩
 have := trimN_le f n
 simp only [ic, dI]
 rw [dg_valD f n hf i (by omega)]
set_option maxHeartbeats 4000000 in
set_option maxRecDepth 100000 in
theorem lean_own (u : Value) (s : Bool) (n : Nat) (f : Nat → Nat) (w : World) (hu : Raw w u n f) (hf : ∀ i, i < n → f i < 10000) (hn : n ≤ 1099511627776) :
  Calls Tryz.prog 153 #[.agg #[.bool s, u]] w fun e w' => ∃ u', e = .returned (.agg #[.bool (s && decide (0 < valD f n)), u']) ∧ Dg w' u' (valD f n) ∧ (∀ k, u'.ownBlock = some k → w.heap.size ≤ k) ∧ Below w.heap.size w w' := by
 obtain ⟨a, b, o, c, rfl, hs⟩ := hu
 obtain ⟨i0, hinf, hz0, hz1, hz2⟩ := info_parts infoI
 have hz := sliced_zero
 have hc := hs.cap
 have HF := Lib.hid hf
 have HS := Lib.hid hs
 have OA0 := Lib.hid ((own2_new w w.heap.size rfl (.bool s) (.slice a n c) 57).alloc (.cells #[.bool false, .slice none 0 0] 57))
 have OR0 := Lib.hid (own2_new (w.alloc (.cells #[.bool s, .slice a n c] 57)) (w.heap.size + 1) (by simp) (.bool false) (.slice none 0 0) 57)
 have KW0 := Lib.hid (((Below.refl w.heap.size w).alloc (Nat.le_refl _) (.cells #[.bool s, .slice a n c] 57)).alloc (by simp) (.cells #[.bool false, .slice none 0 0] 57))
 have HB0 : Hid (IsSl ((w.alloc (.cells #[.bool s, .slice a n c] 57)).alloc (.cells #[.bool false, .slice none 0 0] 57)) a b o c n (ic (dI f))) := Lib.hid ((hs.alloc _).alloc _)
 have SZ0 : Hid (((w.alloc (.cells #[.bool s, .slice a n c] 57)).alloc (.cells #[.bool false, .slice none 0 0] 57)).heap.size = w.heap.size + 2) := Lib.hid (by simp)
 clear hs hf
 go_enter Tryz.func153, Tryz.ntmps153
 go_upto_block 0 with (fail)
 go_cut [3] (fun v3 wx => v3 = .int .i64 (trimN f n : Nat) ∧ Hid (Own2 wx w.heap.size (.bool s) (.slice a n c)) ∧ Hid (Own2 wx (w.heap.size + 1) (.bool false) (.slice none 0 0)) ∧ Hid (IsSl wx a b o c n (ic (dI f))) ∧ Hid (Below w.heap.size w wx) ∧ Hid (wx.heap.size = w.heap.size + 2))
 case first =>
  go_wp2_with fail
  go_loop [3] (fun v3 => ∃ k : Nat, k ≤ n ∧ v3 = .int .i64 (k : Nat) ∧ Hid (trimN f n = trimN f k)) (fun v3 => (intOf v3).toNat)
  case atStart => exact ⟨n, Nat.le_refl _, rfl, Lib.hid rfl⟩
  case round =>
   obtain ⟨k, hk, rfl, HT⟩ := hrel
   by_cases h0 : 0 < k
   ·obtain ⟨j, rfl⟩ : ∃ j, k = j + 1 := ⟨k - 1, by omega⟩
    have hj : j < n := by omega
    have g0 : decide ((0 : Int) < ((j + 1 : Nat) : Int)) = true := by simp
    have w1 : IntKind.i64.wrap (((j + 1 : Nat) : Int) - 1) = (j : Int) := by rw [IntKind.wrap_i64]; omega
    have ix := fun W => ixI HB0.out j c hj W
    have cl := HB0.out.cell j hj
    simp only [ic, dI] at cl
    by_cases hz2 : f j = 0
    ·have d1 : (((f j : Nat) : Int) == 0) = true := by simp [hz2]
     have HT2 : Hid (trimN f n = trimN f j) := Lib.hid (by rw [HT.out]; simp only [trimN]; rw [if_pos hz2])
     clear hz2
     go_wp2
     go_round
     case rel => exact ⟨j, by omega, by simp, HT2⟩
     case measure => simp [intOf]
    ·have d1 : (((f j : Nat) : Int) == 0) = false := by simp; omega
     have HT2 : Hid (trimN f n = j + 1) := Lib.hid (by rw [HT.out]; simp only [trimN]; rw [if_neg hz2])
     clear hz2
     go_wp2
     go_meet
     case rel => exact ⟨by rw [HT2.out]; simp, OA0, OR0, HB0, KW0, SZ0⟩
   ·obtain rfl : k = 0 := by omega
    have HT2 : Hid (trimN f n = 0) := Lib.hid (by rw [HT.out]; rfl)
    go_wp2
    go_meet
    case rel => exact ⟨by rw [HT2.out]; simp, OA0, OR0, HB0, KW0, SZ0⟩
 case rest =>
  clear OA0 OR0 KW0 HB0 SZ0
  obtain ⟨rfl, OA, OR, HB, KW, SZ⟩ := hcut
  have hle := trimN_le f n
  have HV := Lib.hid (nd_valD f n HF.out)
  have HDG0 := Lib.hid (fun (W : World) (B : Nat) (va : Option Addr) (vk : Nat) (h : W.ownsRow B 3 1 (.slice va (trimN f n) vk) (trimN f n) (ics (dI f) (trimN f n))) => dg_of_own HF.out h)
  obtain ⟨k, hk⟩ : ∃ k, k = trimN f n := ⟨_, rfl⟩
  rw [← hk] at HV HDG0 hle ⊢
  have hkc : k ≤ c := by omega
  have OW : Hid ((wc.alloc (.cells #[] 3)).ownsRow wc.heap.size 3 1 (.slice (some ⟨wc.heap.size, 0, none⟩) 0 0) 0 []) := Lib.hid (World.ownsRow_made wc #[] 0 (Nat.le_refl _) (by unfold maxLen; omega) rfl)
  have p0 := OA.out.c0
  have p1 := OA.out.c1
  have pf := OA.out.f
  have r0 := OR.out.c0
  have r1 := OR.out.c1
  have rf := OR.out.f
  have l1 := OA.out.lt
  have l2 := OR.out.lt
  clear hk
  by_cases hk0 : 0 < k
  ·obtain rfl := HB.out.at_ (by omega)
   have HPOS : Hid (decide (0 < valD f n) = true) := Lib.hid (by have := HV.out; have := nd_pos (valD f n); simp; omega)
   have HDG : Hid (∀ {W : World} {B : Nat} {va : Option Addr} {vk : Nat}, W.ownsRow B 3 1 (.slice va k vk) k (ics (dI f) k) → Dg W (.slice va k vk) (valD f n)) := Lib.hid (fun h => HDG0.out _ _ _ _ h)
   have HNW := Lib.hid (news_of (HB.out.alloc (.cells #[] 3)) k hle)
   have HONE := Lib.hid (ics_one (dI f) k)
   have HLEN := Lib.hid (show (ics (dI f) k).length = k * 1 by rw [ics_length]; omega)
   clear HDG0
   cases s with
   | true =>
    go_wp2_with (at_builtin; refine wpList_append_own _ rfl (.tmp 20) (.tmp 24) 22 rfl wc.heap.size 3 i0 (.int .i64 0) 1 8 Tryz.underlying22 hinf hz0 hz1 hz2 rfl (by decide) (.slice (some ⟨wc.heap.size, 0, none⟩) 0 0) 0 [] rfl OW.out ⟨b, o, none⟩ k c (ics (dI f) k) rfl HLEN.out HNW.out HONE.out (by unfold maxLen; omega) (by omega) (by simp) ?_; intro v' w3 hown hgrow _; have KW3 := Lib.hid ((KW.out.alloc KW.out.size (.cells #[] 3)).grown hgrow (by have := KW.out.size; simp; omega) (fun kk e => by cases e; exact KW.out.size)); have OA := Lib.hid (own2_block (OA.out.alloc _) hgrow (by intro e; have := Option.some.inj e; simp at this; omega)); have OR := Lib.hid (own2_block (OR.out.alloc _) hgrow (by intro e; have := Option.some.inj e; simp at this; omega)); rw [Nat.zero_add, List.nil_append] at hown; obtain ⟨va, vk, rfl⟩ := own_shape hown; have HOWN := Lib.hid hown; clear hown hgrow p1 p0 pf r0 r1 rf l1 l2; have p0 := OA.out.c0; have p1 := OA.out.c1; have pf := OA.out.f; have r0 := OR.out.c0; have r1 := OR.out.c1; have rf := OR.out.f; have l1 := OA.out.lt; have l2 := OR.out.lt)
    refine bodyPost_ret (v := .agg #[.bool true, .slice va k vk]) (by simp [results, Tryz.results153, go_sem, p0, p1, pf, r0, r1, rf, l1, l2]) rfl ?_
    obtain ⟨f1, f2⟩ := lean_fin HOWN.out KW3.out (b1 := w.heap.size) (b2 := w.heap.size + 1) (Nat.le_refl _) (by have := SZ.out; omega) (by omega) (by have := SZ.out; omega) (.slice va k vk) (.bool true) (.bool true) (.slice va k vk)
    exact ⟨_, by first | rfl | (rw [HPOS.out]; done) | (simp [HPOS.out]; done), HDG.out f1, fun kk ek => Nat.le_trans KW.out.size (f1.lt kk ek).1, f2⟩
   | false =>
    go_wp2_with (at_builtin; refine wpList_append_own _ rfl (.tmp 20) (.tmp 24) 22 rfl wc.heap.size 3 i0 (.int .i64 0) 1 8 Tryz.underlying22 hinf hz0 hz1 hz2 rfl (by decide) (.slice (some ⟨wc.heap.size, 0, none⟩) 0 0) 0 [] rfl OW.out ⟨b, o, none⟩ k c (ics (dI f) k) rfl HLEN.out HNW.out HONE.out (by unfold maxLen; omega) (by omega) (by simp) ?_; intro v' w3 hown hgrow _; have KW3 := Lib.hid ((KW.out.alloc KW.out.size (.cells #[] 3)).grown hgrow (by have := KW.out.size; simp; omega) (fun kk e => by cases e; exact KW.out.size)); have OA := Lib.hid (own2_block (OA.out.alloc _) hgrow (by intro e; have := Option.some.inj e; simp at this; omega)); have OR := Lib.hid (own2_block (OR.out.alloc _) hgrow (by intro e; have := Option.some.inj e; simp at this; omega)); rw [Nat.zero_add, List.nil_append] at hown; obtain ⟨va, vk, rfl⟩ := own_shape hown; have HOWN := Lib.hid hown; clear hown hgrow p1 p0 pf r0 r1 rf l1 l2; have p0 := OA.out.c0; have p1 := OA.out.c1; have pf := OA.out.f; have r0 := OR.out.c0; have r1 := OR.out.c1; have rf := OR.out.f; have l1 := OA.out.lt; have l2 := OR.out.lt)
    refine bodyPost_ret (v := .agg #[.bool false, .slice va k vk]) (by simp [results, Tryz.results153, go_sem, p0, p1, pf, r0, r1, rf, l1, l2]) rfl ?_
    obtain ⟨f1, f2⟩ := lean_fin HOWN.out KW3.out (b1 := w.heap.size) (b2 := w.heap.size + 1) (Nat.le_refl _) (by have := SZ.out; omega) (by omega) (by have := SZ.out; omega) (.slice va k vk) (.bool false) (.bool false) (.slice va k vk)
    exact ⟨_, by first | rfl | (rw [HPOS.out]; done) | (simp [HPOS.out]; done), HDG.out f1, fun kk ek => Nat.le_trans KW.out.size (f1.lt kk ek).1, f2⟩
  ·obtain rfl : k = 0 := by omega
   have HPOS : Hid (decide (0 < valD f n) = false) := Lib.hid (by have := HV.out; have := nd_pos (valD f n); simp; omega)
   have HDG : Hid (∀ {W : World} {B : Nat} {va : Option Addr} {vk : Nat}, W.ownsRow B 3 1 (.slice va 0 vk) 0 [] → Dg W (.slice va 0 vk) (valD f n)) := Lib.hid (fun h => HDG0.out _ _ _ _ h)
   clear HDG0
   rcases a with _ | ad
   ·obtain rfl := HB.out.nc rfl
    cases s with
    | true =>
     go_wp2_with (at_builtin; refine wpList_append_own_none rfl (.tmp 20) (.tmp 24) 22 rfl wc.heap.size 3 i0 1 Tryz.underlying22 hinf (.slice (some ⟨wc.heap.size, 0, none⟩) 0 0) 0 [] rfl OW.out rfl ?_; clear p1 p0 pf r0 r1 rf l1 l2; have OA := Lib.hid (OA.out.alloc (.cells #[] 3)); have OR := Lib.hid (OR.out.alloc (.cells #[] 3)); have KW3 := Lib.hid (KW.out.alloc KW.out.size (.cells #[] 3)); have HOWN := OW; have p0 := OA.out.c0; have p1 := OA.out.c1; have pf := OA.out.f; have r0 := OR.out.c0; have r1 := OR.out.c1; have rf := OR.out.f; have l1 := OA.out.lt; have l2 := OR.out.lt)
     refine bodyPost_ret (v := .agg #[.bool false, .slice (some ⟨wc.heap.size, 0, none⟩) 0 0]) (by simp [results, Tryz.results153, go_sem, p0, p1, pf, r0, r1, rf, l1, l2]) rfl ?_
     obtain ⟨f1, f2⟩ := lean_fin HOWN.out KW3.out (b1 := w.heap.size) (b2 := w.heap.size + 1) (Nat.le_refl _) (by have := SZ.out; omega) (by omega) (by have := SZ.out; omega) (.slice (some ⟨wc.heap.size, 0, none⟩) 0 0) (.bool false) (.bool false) (.slice (some ⟨wc.heap.size, 0, none⟩) 0 0)
     exact ⟨_, by first | rfl | (rw [HPOS.out]; done) | (simp [HPOS.out]; done), HDG.out f1, fun kk ek => Nat.le_trans KW.out.size (f1.lt kk ek).1, f2⟩
    | false =>
     go_wp2_with (at_builtin; refine wpList_append_own_none rfl (.tmp 20) (.tmp 24) 22 rfl wc.heap.size 3 i0 1 Tryz.underlying22 hinf (.slice (some ⟨wc.heap.size, 0, none⟩) 0 0) 0 [] rfl OW.out rfl ?_; clear p1 p0 pf r0 r1 rf l1 l2; have OA := Lib.hid (OA.out.alloc (.cells #[] 3)); have OR := Lib.hid (OR.out.alloc (.cells #[] 3)); have KW3 := Lib.hid (KW.out.alloc KW.out.size (.cells #[] 3)); have HOWN := OW; have p0 := OA.out.c0; have p1 := OA.out.c1; have pf := OA.out.f; have r0 := OR.out.c0; have r1 := OR.out.c1; have rf := OR.out.f; have l1 := OA.out.lt; have l2 := OR.out.lt)
     refine bodyPost_ret (v := .agg #[.bool false, .slice (some ⟨wc.heap.size, 0, none⟩) 0 0]) (by simp [results, Tryz.results153, go_sem, p0, p1, pf, r0, r1, rf, l1, l2]) rfl ?_
     obtain ⟨f1, f2⟩ := lean_fin HOWN.out KW3.out (b1 := w.heap.size) (b2 := w.heap.size + 1) (Nat.le_refl _) (by have := SZ.out; omega) (by omega) (by have := SZ.out; omega) (.slice (some ⟨wc.heap.size, 0, none⟩) 0 0) (.bool false) (.bool false) (.slice (some ⟨wc.heap.size, 0, none⟩) 0 0)
     exact ⟨_, by first | rfl | (rw [HPOS.out]; done) | (simp [HPOS.out]; done), HDG.out f1, fun kk ek => Nat.le_trans KW.out.size (f1.lt kk ek).1, f2⟩
   ·
    cases s with
    | true =>
     go_wp2_with (at_builtin; refine wpList_append_own _ rfl (.tmp 20) (.tmp 24) 22 rfl wc.heap.size 3 i0 (.int .i64 0) 1 8 Tryz.underlying22 hinf hz0 hz1 hz2 rfl (by decide) (.slice (some ⟨wc.heap.size, 0, none⟩) 0 0) 0 [] rfl OW.out ad 0 c [] rfl rfl (fun j u h => by simp at h) (fun u h => by simp at h) (by unfold maxLen; omega) (by omega) (by simp) ?_; intro v' w3 hown hgrow _; have KW3 := Lib.hid ((KW.out.alloc KW.out.size (.cells #[] 3)).grown hgrow (by have := KW.out.size; simp; omega) (fun kk e => by cases e; exact KW.out.size)); have OA := Lib.hid (own2_block (OA.out.alloc _) hgrow (by intro e; have := Option.some.inj e; simp at this; omega)); have OR := Lib.hid (own2_block (OR.out.alloc _) hgrow (by intro e; have := Option.some.inj e; simp at this; omega)); rw [Nat.zero_add, List.nil_append] at hown; obtain ⟨va, vk, rfl⟩ := own_shape hown; have HOWN := Lib.hid hown; clear hown hgrow p1 p0 pf r0 r1 rf l1 l2; have p0 := OA.out.c0; have p1 := OA.out.c1; have pf := OA.out.f; have r0 := OR.out.c0; have r1 := OR.out.c1; have rf := OR.out.f; have l1 := OA.out.lt; have l2 := OR.out.lt)
     refine bodyPost_ret (v := .agg #[.bool false, .slice va 0 vk]) (by simp [results, Tryz.results153, go_sem, p0, p1, pf, r0, r1, rf, l1, l2]) rfl ?_
     obtain ⟨f1, f2⟩ := lean_fin HOWN.out KW3.out (b1 := w.heap.size) (b2 := w.heap.size + 1) (Nat.le_refl _) (by have := SZ.out; omega) (by omega) (by have := SZ.out; omega) (.slice va 0 vk) (.bool false) (.bool false) (.slice va 0 vk)
     exact ⟨_, by first | rfl | (rw [HPOS.out]; done) | (simp [HPOS.out]; done), HDG.out f1, fun kk ek => Nat.le_trans KW.out.size (f1.lt kk ek).1, f2⟩
    | false =>
     go_wp2_with (at_builtin; refine wpList_append_own _ rfl (.tmp 20) (.tmp 24) 22 rfl wc.heap.size 3 i0 (.int .i64 0) 1 8 Tryz.underlying22 hinf hz0 hz1 hz2 rfl (by decide) (.slice (some ⟨wc.heap.size, 0, none⟩) 0 0) 0 [] rfl OW.out ad 0 c [] rfl rfl (fun j u h => by simp at h) (fun u h => by simp at h) (by unfold maxLen; omega) (by omega) (by simp) ?_; intro v' w3 hown hgrow _; have KW3 := Lib.hid ((KW.out.alloc KW.out.size (.cells #[] 3)).grown hgrow (by have := KW.out.size; simp; omega) (fun kk e => by cases e; exact KW.out.size)); have OA := Lib.hid (own2_block (OA.out.alloc _) hgrow (by intro e; have := Option.some.inj e; simp at this; omega)); have OR := Lib.hid (own2_block (OR.out.alloc _) hgrow (by intro e; have := Option.some.inj e; simp at this; omega)); rw [Nat.zero_add, List.nil_append] at hown; obtain ⟨va, vk, rfl⟩ := own_shape hown; have HOWN := Lib.hid hown; clear hown hgrow p1 p0 pf r0 r1 rf l1 l2; have p0 := OA.out.c0; have p1 := OA.out.c1; have pf := OA.out.f; have r0 := OR.out.c0; have r1 := OR.out.c1; have rf := OR.out.f; have l1 := OA.out.lt; have l2 := OR.out.lt)
     refine bodyPost_ret (v := .agg #[.bool false, .slice va 0 vk]) (by simp [results, Tryz.results153, go_sem, p0, p1, pf, r0, r1, rf, l1, l2]) rfl ?_
     obtain ⟨f1, f2⟩ := lean_fin HOWN.out KW3.out (b1 := w.heap.size) (b2 := w.heap.size + 1) (Nat.le_refl _) (by have := SZ.out; omega) (by omega) (by have := SZ.out; omega) (.slice va 0 vk) (.bool false) (.bool false) (.slice va 0 vk)
     exact ⟨_, by first | rfl | (rw [HPOS.out]; done) | (simp [HPOS.out]; done), HDG.out f1, fun kk ek => Nat.le_trans KW.out.size (f1.lt kk ek).1, f2⟩
theorem lean_any (u : Value) (s : Bool) (n : Nat) (f : Nat → Nat) (w : World) (hu : Raw w u n f) (hf : ∀ i, i < n → f i < 10000) (hn : n ≤ 1099511627776) :
  Calls Tryz.prog 153 #[.agg #[.bool s, u]] w fun e w' => ∃ u', e = .returned (.agg #[.bool (s && decide (0 < valD f n)), u']) ∧ Dg w' u' (valD f n) ∧ Below w.heap.size w w' :=
 (lean_own u s n f w hu hf hn).mono (by
  rintro e w' ⟨u', rfl, h1, _, h2⟩
  exact ⟨u', rfl, h1, h2⟩)
end Go.Proofs.YtolkchkedieppaaGreat
