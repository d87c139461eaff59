/- Groups of the reference. (Printed by gen_rgb.py.) -/
import Derived.Test.YtcnaagiicpkcpaaGreatLTakes
import Derived.Test.YtcnaagiicpkcpaaGreatLPlainRg
import Derived.Deep.DeepCutAuto
import Derived.Deep.CutBlock
import Derived.Lib.SliceRun
set_option linter.unusedVariables false
set_option linter.unusedSimpArgs false
namespace Go.Proofs.YtcnaagiicpkcpaaGreat
open Go.RowKit
attribute [local go_sem ↓] Go.wp_at_zero Go.wp_at_succ
/-- the reference's table while set s is under way -/
structure RT (N : Nat) (F : Nat → Int) (w0 w : World) (B s : Nat) (x : Int) : Prop where
 b : w.rowIs B 3 N (ic (rowF F s x))
 below : Below w0.heap.size w0 w
theorem RT.set {N : Nat} {F : Nat → Int} {w0 w : World} {B s : Nat} {x : Int} (h : RT N F w0 w B s x) (hB : w0.heap.size ≤ B) (y : Int) : RT N F w0 (w.setCell ⟨B, s, none⟩ (.int .i64 y)) B s y :=
 ⟨(h.b.set _ _).congr fun i hi => by
   simp only [ic, rowF]
   by_cases e : i = s
   ·subst e; simp
   ·simp [e], h.below.setCell (by exact hB) _⟩
theorem RT.drew {N : Nat} {F : Nat → Int} {w0 w : World} {B s : Nat} {x : Int} (h : RT N F w0 w B s x) : RT N F w0 w.drew B s x := ⟨h.b.drew, h.below.drew⟩
theorem RT.next {N : Nat} {F : Nat → Int} {w0 w : World} {B s : Nat} {x : Int} (h : RT N F w0 w B s x) (hx : x = F s) : RT N F w0 w B (s + 1) 0 := by
 subst hx
 exact ⟨h.b.congr fun i hi => by
   simp only [ic, rowF]
   by_cases e : i = s
   ·subst e; simp
   ·by_cases e2 : i < s
    ·simp [e2, show i < s + 1 by omega]
    ·simp [e, e2, show ¬ i < s + 1 by omega], h.below⟩
theorem RowsIn.congr {B : Nat} {w : World} {q : Nat} {v : Value} {ra : Nat → Option Addr} {rc m m' : Nat → Nat} {f f' : Nat → Nat → Int} (G : RowsIn B w q v ra rc m f) (h : ∀ i, i < q → m i = m' i ∧ f i = f' i) : RowsIn B w q v ra rc m' f' :=
 ⟨by
  have e : rowCells ra m' rc q = rowCells ra m rc q := List.map_congr_left (fun i hi => by rw [(h i (List.mem_range.1 hi)).1])
  rw [e]; exact G.own, fun i hi => by rw [← (h i hi).1, ← (h i hi).2]; exact G.row i hi, G.far, G.apart⟩
theorem mlen_app (L : List Nat) (x i : Nat) (h : i < L.length) : mlen L i = mlen (L ++ [x]) i ∧ mF L i = mF (L ++ [x]) i := by
 unfold mlen mF
 have e : (L ++ [x]).getD i 0 = L.getD i 0 := by simp [List.getD_eq_getElem?_getD, List.getElem?_append_left h]
 rw [e]; exact ⟨rfl, rfl⟩
theorem mlen_last (L : List Nat) (x : Nat) : mlen (L ++ [x]) L.length = (mem x 10).length ∧ mF (L ++ [x]) L.length = lsF (mem x 10) := by
 unfold mlen mF
 have e : (L ++ [x]).getD L.length 0 = x := by simp
 rw [e]; exact ⟨rfl, rfl⟩
theorem mem_ints {w : World} {B s : Nat} {v : Value} (h : w.ownsRow B 3 1 v (mem s 10).length (intC (mem s 10))) : Ints w v (mem s 10).length (lsF (mem s 10)) := by
 rw [intC_ics] at h; exact ints_of_own h
theorem own_fst {w : World} {base e n : Nat} {a : Option Addr} {c : Nat} {xs : List Value} (h : w.ownsRow base e 1 (.slice a n c) n xs) (hn : 0 < n) : ∃ g, a = some ⟨g, 0, none⟩ := by
 rcases h.2 with ⟨_, e⟩ | ⟨g, cap, cur, hv, hbg, _⟩
 ·omega
 ·injection hv with e1 e2 e3
  exact ⟨g, e1⟩
/-- the best list so far -/
def BB (w0 : World) (v : Value) (at_ : Nat) (w : World) : Prop :=
 (at_ = 0 ∧ v = .slice none 0 0) ∨ (0 < at_ ∧ ∃ g vk, v = .slice (some ⟨g, 0, none⟩) (mem at_ 10).length vk ∧ w.ownsRow w0.heap.size 3 1 v (mem at_ 10).length (intC (mem at_ 10)))
theorem BB.kept {w0 w w' : World} {v : Value} {t : Nat} (h : BB w0 v t w) (hb : Below w.heap.size w w') : BB w0 v t w' := by
 rcases h with h | ⟨h0, g, vk, e, ho⟩
 ·exact .inl h
 ·exact .inr ⟨h0, g, vk, e, own_kept ho hb⟩
set_option maxHeartbeats 16000000 in
set_option maxRecDepth 100000 in
theorem rgroups_any (v : Value) (n : Nat) (f : Nat → Int) (w : World) (hv : Ints w v n f) (hB : Balances n f) :
  Calls Tryz.prog 10 #[v] w fun e w' => ∃ va vk L, e = .returned (.slice va L.length vk) ∧ GrpP n f (2 ^ n - 1) L 0 ∧ L.length ≤ 1023 ∧ Mat w' (.slice va L.length vk) L.length (mlen L) (mF L) ∧ Below w.heap.size w w' := by
 have HI := Lib.hid hv
 obtain ⟨a, b, o, c, rfl, hs⟩ := hv
 obtain ⟨hn1, hn10, hfr, hsum⟩ := hB
 have HFR := Lib.hid hfr
 obtain ⟨N, hN⟩ : ∃ N, N = 2 ^ n := ⟨_, rfl⟩
 have hN1 : N ≤ 1024 := by rw [hN]; exact Nat.le_trans (Nat.pow_le_pow_right (by omega) hn10) (by decide)
 have hN0 : 1 ≤ N := by rw [hN]; exact Nat.one_le_two_pow
 have hw2 : RowKit.wrap64 ((2 : Int) ^ n) = ((N : Nat) : Int) := by rw [(pow_wrap2 n (by omega)).2, hN]; simp
 have HSM : Hid (smI f (N - 1) n = 0) := Lib.hid (by rw [hN, smI_all f n n (Nat.le_refl _)]; exact hsum)
 have HN := Lib.hid hN
 have hn64 : n < 64 := by omega
 have hnil : ∀ (W : World) (x : Option Addr) (n c : Nat), (binOp .eql 22 (.slice x n c) (.slice none 0 0)).run Tryz.prog W = .ok (.bool x.isNone) W := fun W x n c => Lib.run_eql_slice_nil W 22 3 x n c 0 0 Tryz.underlying22
 have hmk := run_make_row' (P := Tryz.prog) 22 3 (.int .i64 0) 8 Tryz.underlying22 infoI rfl .i64 .i64 N (by omega) (by omega)
 have hrow0 : ∀ i, i < N → ic (fun _ => 0) i = ic (rowF (rmv n f) 1 0) i := fun i hi => by
  simp only [ic, rowF]
  by_cases e : i < 1
  ·obtain rfl : i = 0 := by omega
   simp [rmv_zero]
  ·simp [e]
 have G0 : Hid (RT N (rmv n f) w (w.alloc (.cells (madeCells #[.int .i64 0] N) 3)) w.heap.size 1 0) := Lib.hid ⟨(World.rowIs_made w (.int .i64 0) N 3).congr hrow0, (Below.refl w.heap.size w).alloc (Nat.le_refl _) _⟩
 clear hs hN hfr hsum hrow0
 go_enter Tryz.func10, Tryz.ntmps10
 go_wp2
 (try rw [hw2])
 go_loopw [5, 6, 7] (fun v5 v6 v7 wr => ∃ s : Nat, 1 ≤ s ∧ s ≤ N ∧ v5 = .int .i64 (s : Nat) ∧ Hid (RT N (rmv n f) w wr w.heap.size s 0)) (fun v5 _ _ _ => N - (intOf v5).toNat)
 case atStart => exact ⟨1, by omega, by omega, rfl, G0⟩
 case round =>
  clear G0 hmk
  obtain ⟨s, hs1, hs, rfl, G⟩ := hrel
  have hBB : w.heap.size ≤ w.heap.size := Nat.le_refl _
  by_cases h : s < N
  ·skip
   have e1 : decide ((s : Int) < (N : Int)) = true := by simpa using h
   have e1n : decide (s < N) = true := by simpa using h
   have HSN : Hid (s < 2 ^ n) := Lib.hid (by rw [← HN.out]; exact h)
   have g2 : (0 : Int) ≤ (s : Int) := Int.natCast_nonneg s
   have g3 : (s : Int) < (N : Int) := by omega
   have cb2 := G.out.b.cell (i := s) (by omega)
   have fb2 := G.out.b.frozen s
   simp only [ic, rowF, Nat.lt_irrefl, if_false, if_true] at cb2
   have GA := Lib.hid (G.out.set hBB (-1))
   by_cases h0 : smI f s n = 0
   ·have d0 : (smI f s n != 0) = false := by simpa using h0
    obtain ⟨bt, hbt, hlow, hb1, hb2⟩ := low_bit s (by omega) (by omega)
    have HLW : Hid (Low s bt) := Lib.hid ⟨hb1, hb2⟩
    have l3 := (low_facts s (by omega) (by omega)).1
    rw [hlow] at l3
    have hneg : IntKind.i64.wrap (-(s : Int)) = -(s : Int) := by rw [IntKind.wrap_i64]; omega
    have hlb : 2 ^ bt ≤ 1023 := by have := (sb_bit hb1).le; omega
    obtain ⟨lb, hlbe⟩ : ∃ lb, lb = 2 ^ bt := ⟨_, rfl⟩
    rw [← hlbe] at l3 hlb
    have HLB := Lib.hid hlbe
    have hw1 : IntKind.i64.wrap ((s : Int) - 1) = (s : Int) - 1 := by rw [IntKind.wrap_i64]; omega
    have m3 : bits .and .i64 ((s : Int) - 1) (s : Int) = (((s - 1) &&& s : Nat) : Int) := by
     rw [show (s : Int) - 1 = ((s - 1 : Nat) : Int) by omega]; exact bits_and (s - 1) s (by omega) (by omega)
    have m4 := next_lt (m := s) (s := s) (by omega)
    have M5 := Lib.hid (next_sb s s)
    have P0 := Lib.hid (PartI.start (b := bt) HSN.out (by omega) h0)
    have H0 := Lib.hid h0
    obtain ⟨p0, hp0⟩ : ∃ p0, p0 = (s - 1) &&& s := ⟨_, rfl⟩
    rw [← hp0] at m3 m4 M5 P0
    clear hb1 hb2 hlow hlbe hp0
    go_wp2_with (go_at_call 28; (with_reducible refine (sumOf_any _ n f s _ (HI.out.mono GA.out.below (Nat.le_refl _)) hn10 HFR.out).mono ?_); rintro e w1 ⟨rfl, rfl⟩; have cb3 := GA.out.b.cell (i := s) (by omega); have fb3 := GA.out.b.frozen s; simp only [ic, rowF, Nat.lt_irrefl, if_false, if_true] at cb3)
    have GC := Lib.hid (GA.out.set hBB 1)
    clear cb2 fb2 cb3 fb3 d0 l3 hneg hw1 m3 h0
    go_loopw [7] (fun v7 wr => ∃ p acc : Nat, p < s ∧ acc ≤ s ∧ v7 = .int .i64 (p : Nat) ∧ Hid (Sb p s) ∧ Hid (PartI n f s bt p acc) ∧ Hid (RT N (rmv n f) w wr w.heap.size s (acc : Nat))) (fun v7 _ => (intOf v7).toNat)
    case atStart => exact ⟨p0, 1, m4, by omega, rfl, M5, P0, GC⟩
    case round =>
     clear GC P0 M5 m4 G GA
     obtain ⟨p, acc, hps, hac, rfl, SB, PI, G⟩ := hrel
     by_cases h4 : 0 < p
     ·have d1 : decide ((0 : Int) < (p : Int)) = true := by simpa using h4
      have m2 : bits .and .i64 (p : Int) (lb : Int) = ((p &&& lb : Nat) : Int) := bits_and p lb (by omega) (by omega)
      have hw1b : IntKind.i64.wrap ((p : Int) - 1) = (p : Int) - 1 := by rw [IntKind.wrap_i64]; omega
      have m3 : bits .and .i64 ((p : Int) - 1) (s : Int) = (((p - 1) &&& s : Nat) : Int) := by
       rw [show (p : Int) - 1 = ((p - 1 : Nat) : Int) by omega]; exact bits_and (p - 1) s (by omega) (by omega)
      have m4 := next_lt (m := s) h4
      have M5 := Lib.hid (next_sb s p)
      have m6 : bits .xor .i64 (s : Int) (p : Int) = ((s - p : Nat) : Int) := bits_xor s p SB.out (by omega)
      have g4 : (0 : Int) ≤ ((s - p : Nat) : Int) := Int.natCast_nonneg _
      have g5 : ((s - p : Nat) : Int) < (N : Int) := by omega
      obtain ⟨nx, hnx⟩ : ∃ nx, nx = (p - 1) &&& s := ⟨_, rfl⟩
      rw [← hnx] at m3 m4 M5
      have HNX := Lib.hid hnx
      clear hnx
      by_cases k1 : p &&& lb = 0
      ·have dA : decide ((0 : Int) < ((p &&& lb : Nat) : Int)) = false := by rw [k1]; rfl
       have dAn : decide (0 < p &&& lb) = false := by rw [k1]; rfl
       have PI2 : Hid (PartI n f s bt nx acc) := Lib.hid (by
        rw [HNX.out]
        refine PI.out.skip SB.out (fun q => ?_)
        rw [HLB.out] at k1
        rw [(and_pow p bt).1 k1] at q; cases q.1)
       clear k1
       go_wp2_with fail
       go_roundw
       case rel => exact ⟨nx, acc, by omega, hac, by first | rfl | go_num, M5, PI2, G⟩
       case measure => simp [intOf]; omega
      ·have dA : decide ((0 : Int) < ((p &&& lb : Nat) : Int)) = true := by
        rw [decide_eq_true_iff]; have := Nat.pos_of_ne_zero k1; omega
       have dAn : decide (0 < p &&& lb) = true := decide_eq_true (Nat.pos_of_ne_zero k1)
       clear k1
       by_cases k2 : smI f p n = 0
       ·have dB : (smI f p n == 0) = true := by simpa using k2
        have ca := G.out.b.cell (i := s - p) (by omega)
        have ca2 := G.out.b.cell (i := s) (by omega)
        have fa := G.out.b.frozen s
        simp only [ic, rowF, if_pos (show s - p < s by omega), Nat.lt_irrefl, if_false, if_true] at ca ca2
        rw [rmv_rest SB.out H0.out k2] at ca
        have hpos := rmv_more HSN.out SB.out (by omega) H0.out k2
        rw [rmv_rest SB.out H0.out k2] at hpos
        have hp1 := pm_le (n := n) (f := f) (s - p)
        have hwm : IntKind.i64.wrap (1 + ((pm n f (s - p) : Nat) : Int)) = 1 + ((pm n f (s - p) : Nat) : Int) := by rw [IntKind.wrap_i64]; omega
        have PI2 : Hid (PartI n f s bt nx (max acc (1 + pm n f (s - p)))) := Lib.hid (by rw [HNX.out]; exact PI.out.take HSN.out H0.out SB.out h4 (by omega) k2)
        have hmx : max (acc : Int) (1 + ((pm n f (s - p) : Nat) : Int)) = ((max acc (1 + pm n f (s - p)) : Nat) : Int) := by omega
        have hmx2 : max acc (1 + pm n f (s - p)) ≤ s := by omega
        have GB := Lib.hid G.out.below
        obtain ⟨u, hu⟩ : ∃ u, u = pm n f (s - p) := ⟨_, rfl⟩
        rw [← hu] at ca hpos hwm PI2 hmx hmx2
        have dC : decide ((0 : Int) < (u : Int)) = true := by simpa using hpos
        have dCn : decide (0 < u) = true := by simp; omega
        clear k2 hp1 hpos hu
        go_wp2_with (go_at_call 28; (with_reducible refine (sumOf_any _ n f p _ (HI.out.mono GB.out (Nat.le_refl _)) hn10 HFR.out).mono ?_); rintro e w1 ⟨rfl, rfl⟩)
        clear GB
        go_region
        have G := Lib.hid (G.out.set hBB (max (acc : Int) (1 + (u : Int)))).drew
        rw [hmx] at G
        go_wp2
        go_roundw
        case rel => exact ⟨nx, max acc (1 + u), by omega, hmx2, by first | rfl | go_num, M5, PI2, G⟩
        case measure => simp [intOf]; omega
       ·have dB : (smI f p n == 0) = false := by simpa using k2
        have PI2 : Hid (PartI n f s bt nx acc) := Lib.hid (by
         rw [HNX.out]
         exact PI.out.skip SB.out (fun q => k2 q.2))
        clear k2
        go_wp2_with (go_at_call 28; (with_reducible refine (sumOf_any _ n f p _ (HI.out.mono G.out.below (Nat.le_refl _)) hn10 HFR.out).mono ?_); rintro e w1 ⟨rfl, rfl⟩)
        go_roundw
        case rel => exact ⟨nx, acc, by omega, hac, by first | rfl | go_num, M5, PI2, G⟩
        case measure => simp [intOf]; omega
     ·obtain rfl : p = 0 := by omega
      have hdn := PI.out.done HSN.out (by omega) H0.out HLW.out
      have G2 := Lib.hid (G.out.next (by unfold rmv; rw [if_pos H0.out, hdn]))
      clear hdn
      go_wp2
      go_roundw
      case rel => exact ⟨s + 1, by omega, by omega, by go_num, G2⟩
      case measure => simp [intOf]; omega
   ·have d0 : (smI f s n != 0) = true := by simpa using h0
    have G2 := Lib.hid (GA.out.next (by unfold rmv; rw [if_neg h0]))
    clear h0
    go_wp2_with (go_at_call 28; (with_reducible refine (sumOf_any _ n f s _ (HI.out.mono GA.out.below (Nat.le_refl _)) hn10 HFR.out).mono ?_); rintro e w1 ⟨rfl, rfl⟩)
    go_roundw
    case rel => exact ⟨s + 1, by omega, by omega, by go_num, G2⟩
    case measure => simp [intOf]; omega
  ·skip
   have hsN : s = N := by omega
   rw [hsN] at G
   have hsd : decide ((s : Int) < (N : Int)) = false := by simp; omega
   have hsdn : decide (s < N) = false := by simpa using h
   clear hsN
   generalize wr = wo at *
   clear wr
   have hB2 := G.out.b.lt
   have WB := Lib.hid G.out.below
   obtain ⟨i0, hinf, hz0, hz1, hz2⟩ := info_parts infoM
   have KW0 := Lib.hid ((Below.refl wo.heap.size wo).alloc (Nat.le_refl _) (.cells #[] 22))
   have R0 := Lib.hid (RowsIn.start (m := mlen []) (f := mF []) (World.ownsRow_made (e := 22) (base := wo.heap.size) (size := 1) wo #[] 0 (Nat.le_refl _) (by unfold maxLen; omega) rfl))
   have hNm : IntKind.i64.wrap ((N : Int) - 1) = ((N - 1 : Nat) : Int) := by rw [IntKind.wrap_i64]; omega
   have GP0 : Hid (GrpP n f (2 ^ n - 1) [] (N - 1)) := Lib.hid (show N - 1 = 2 ^ n - 1 by rw [HN.out])
   go_wp2
   (try rw [hw2])
   go_loopw [8, 9, 10, 11, 12, 13] (fun v8 v9 v10 v11 v12 v13 wr => ∃ (L : List Nat) (left : Nat), left < N ∧ L.length + left ≤ 1023 ∧ v9 = .int .i64 (left : Nat) ∧ ∃ va vk ra rc, v8 = .slice va L.length vk ∧ Hid (GrpP n f (2 ^ n - 1) L left) ∧ Hid (smI f left n = 0) ∧ Hid (RowsIn wo.heap.size wr L.length (.slice va L.length vk) ra rc (mlen L) (mF L)) ∧ Hid (Below wo.heap.size wo wr)) (fun _ v9 _ _ _ _ _ => (intOf v9).toNat)
   case atStart => exact ⟨[], N - 1, by omega, by simp; omega, rfl, _, 0, _, _, rfl, GP0, HSM, R0, KW0⟩
   case round =>
    clear KW0 GP0 R0
    obtain ⟨L, left, hl, hLl, rfl, va, vk, ra, rc, rfl, GP, HS0, RI, KQ0⟩ := hrel
    by_cases h3 : 0 < left
    ·generalize wr = wq at *
     clear wr
     have d0 : decide ((0 : Int) < (left : Int)) = true := by simpa using h3
     have HL2 : Hid (left < 2 ^ n) := Lib.hid (by rw [← HN.out]; exact hl)
     have BT0 : Hid (BestTo n f left left 0) := Lib.hid BestTo.start
     obtain ⟨bt, hbt, hlow, hb1, hb2⟩ := low_bit left (by omega) h3
     have HLW : Hid (Low left bt) := Lib.hid ⟨hb1, hb2⟩
     have l3 := (low_facts left (by omega) h3).1
     rw [hlow] at l3
     have hneg : IntKind.i64.wrap (-(left : Int)) = -(left : Int) := by rw [IntKind.wrap_i64]; omega
     have hlb : 2 ^ bt ≤ 1023 := by have := (sb_bit hb1).le; omega
     obtain ⟨lb, hlbe⟩ : ∃ lb, lb = 2 ^ bt := ⟨_, rfl⟩
     rw [← hlbe] at l3 hlb
     have HLB := Lib.hid hlbe
     have VV0 := Lib.hid (Below.refl wq.heap.size wq)
     have BB0 : Hid (BB wq (.slice none 0 0) 0 wq) := Lib.hid (.inl ⟨rfl, rfl⟩)
     clear hb1 hb2 hlow hlbe
     go_wp2
     go_loopw [10, 11, 12, 13] (fun v10 v11 v12 v13 wr => ∃ (p best : Nat) (vb : Value), p ≤ left ∧ best < 1024 ∧ vb = v10 ∧ v12 = .int .i64 (p : Nat) ∧ v11 = .int .i64 (best : Nat) ∧ Hid (Sb p left) ∧ Hid (BestTo n f left p best) ∧ Hid (BB wq vb best wr) ∧ Hid (Below wq.heap.size wq wr)) (fun _ _ v12 _ _ => (intOf v12).toNat)
     case atStart => exact ⟨left, 0, _, Nat.le_refl _, by omega, rfl, rfl, rfl, Lib.hid (Sb.refl _), BT0, BB0, VV0⟩
     case round =>
      clear BT0 BB0 VV0
      obtain ⟨p, best, vb, hpl, hbl, rfl, rfl, rfl, SB, BT, BE, KV⟩ := hrel
      have KQ := Lib.hid (KQ0.out.trans (KV.out.mono KQ0.out.size))
      by_cases h4 : 0 < p
      ·have d1 : decide ((0 : Int) < (p : Int)) = true := by simpa using h4
       have m2 : bits .and .i64 (p : Int) (lb : Int) = ((p &&& lb : Nat) : Int) := bits_and p lb (by omega) (by omega)
       have hw1b : IntKind.i64.wrap ((p : Int) - 1) = (p : Int) - 1 := by rw [IntKind.wrap_i64]; omega
       have m3 : bits .and .i64 ((p : Int) - 1) (left : Int) = (((p - 1) &&& left : Nat) : Int) := by
        rw [show (p : Int) - 1 = ((p - 1 : Nat) : Int) by omega]; exact bits_and (p - 1) left (by omega) (by omega)
       have m4 := next_lt (m := left) h4
       have M5 := Lib.hid (next_sb left p)
       have m6 : bits .xor .i64 (left : Int) (p : Int) = ((left - p : Nat) : Int) := bits_xor left p SB.out (by omega)
       have ca := (rowIs_below G.out.b KQ.out hB2).cell (i := left - p) (by omega)
       have ca2 := (rowIs_below G.out.b KQ.out hB2).cell (i := left) (by omega)
       simp only [ic, rowF, if_pos hl, if_pos (show left - p < N by omega)] at ca ca2
       have hrl : rmv n f left = ((pm n f left : Nat) : Int) := by unfold rmv; rw [if_pos HS0.out]
       rw [hrl] at ca2
       have hp1 := pm_le (n := n) (f := f) left
       have hp2 := rmv_range (n := n) (f := f) (t := left - p) (by omega)
       have hwm : IntKind.i64.wrap (rmv n f (left - p) + 1) = rmv n f (left - p) + 1 := by rw [IntKind.wrap_i64]; omega
       have g0 : (0 : Int) ≤ (p : Int) := Int.natCast_nonneg p
       have g1 : (p : Int) < (N : Int) := by omega
       have g2 : (0 : Int) ≤ (left : Int) := Int.natCast_nonneg _
       have g3 : (left : Int) < (N : Int) := by omega
       have g4 : (0 : Int) ≤ ((left - p : Nat) : Int) := Int.natCast_nonneg _
       have g5 : ((left - p : Nat) : Int) < (N : Int) := by omega
       have keepR : Hid (∀ w', Below wr.heap.size wr w' → w'.cell? ⟨w.heap.size, left - p, none⟩ = some (.int .i64 (rmv n f (left - p))) ∧ w'.cell? ⟨w.heap.size, left, none⟩ = some (.int .i64 ((pm n f left : Nat) : Int))) := Lib.hid (fun w' hb => ⟨bel1 hb ca (Nat.lt_of_lt_of_le hB2 KQ.out.size), bel1 hb ca2 (Nat.lt_of_lt_of_le hB2 KQ.out.size)⟩)
       have VL := Lib.hid (Below.refl wr.heap.size wr).drew
       clear hp1 hp2 ca ca2
       obtain ⟨nx, hnx⟩ : ∃ nx, nx = (p - 1) &&& left := ⟨_, rfl⟩
       rw [← hnx] at m3 m4 M5
       have HNX := Lib.hid hnx
       clear hnx
       have hdec : (p &&& lb ≠ 0 ∧ smI f p n = 0 ∧ rmv n f (left - p) + 1 = ((pm n f left : Nat) : Int)) ↔ Cand n f left p := by
        rw [← hrl]
        constructor
        ·intro q
         refine (cand_rmv SB.out h4 HS0.out q.2.1 HLW.out ?_).1 q.2.2
         rcases hb : p.testBit bt with _ | _
         ·exfalso; apply q.1; rw [HLB.out]; exact (and_pow p bt).2 hb
         ·rfl
        ·intro hc
         have hb := cand_bit hc HLW.out
         refine ⟨fun e => ?_, hc.sum, (cand_rmv SB.out h4 HS0.out hc.sum HLW.out hb).2 hc⟩
         rw [HLB.out] at e
         rw [(and_pow p bt).1 e] at hb; cases hb
       have HDEC := Lib.hid hdec
       clear hdec
       have SKIP : Hid (¬ Cand n f left p → BestTo n f left nx best) := Lib.hid (fun q => by rw [HNX.out]; exact BT.out.skip SB.out q)
       obtain ⟨cb, hcb⟩ : ∃ cb : Bool, cb = true ↔ ¬ Cand n f left p := by
        by_cases q : Cand n f left p
        ·exact ⟨false, by simp [q]⟩
        ·exact ⟨true, by simp [q]⟩
       have HCB := Lib.hid hcb
       clear hcb
       go_upto_region 23 with (fail)
       go_cut [136] (fun v136 wx => v136 = .bool cb ∧ Hid (Below wr.heap.size wr wx))
       case first =>
        by_cases k1 : p &&& lb = 0
        ·have dA : (((p &&& lb : Nat) : Int) == 0) = true := by rw [k1]; rfl
         have HE := Lib.hid (HCB.out.2 (fun q => (HDEC.out.2 q).1 k1))
         clear k1
         refine wp_region_held_drew (S := fun w' => w'.cell? ⟨w.heap.size, left - p, none⟩ = some (.int .i64 (rmv n f (left - p))) ∧ w'.cell? ⟨w.heap.size, left, none⟩ = some (.int .i64 ((pm n f left : Nat) : Int))) (by kernel_rfl) (keepR.out _ VL.out) (fun hHeld => ?_)
         refine wtk_begin [0, 1, 2, 3, 4, 5, 6, 7] ?_
         iterate 8 (refine wtk (v := ?_) rfl (by kernel_rfl) (fun _ _ _ h => h) (by kernel_rfl) ?_ (by assumption) ?_; rotate_left; (focus intro w0 hSw; (try dsimp only at hSw); go_simp; all_goals (with_reducible rfl)); simp only [Act.put, List.setIfInBounds_toArray, List.set_cons_zero, List.set_cons_succ])
         refine wtk_end ?_
         refine wtk_begin [8, 9, 10, 11] ?_
         iterate 4 (refine wtk_un rfl (by kernel_rfl) (fun _ _ _ h => h) (by kernel_rfl) (by assumption) ?_; simp only [List.getElem_toArray, List.getElem_cons_succ, List.getElem_cons_zero, Act.put, List.setIfInBounds_toArray, List.set_cons_zero, List.set_cons_succ])
         refine wtk_end ?_
         refine wtk_begin [12, 13] ?_
         iterate 2 (refine wtk (v := ?_) rfl (by kernel_rfl) (fun _ _ _ h => h) (by kernel_rfl) ?_ (by assumption) ?_; rotate_left; (focus intro w0 hSw; (try dsimp only at hSw); go_simp; all_goals (with_reducible rfl)); simp only [Act.put, List.setIfInBounds_toArray, List.set_cons_zero, List.set_cons_succ])
         refine wtk_end ?_
         refine wtk_begin [14, 15, 16, 17, 18, 19, 20, 21, 22, 23, 24, 25] ?_
         iterate 12 (refine wtk_un rfl (by kernel_rfl) (fun _ _ _ h => h) (by kernel_rfl) (by assumption) ?_; simp only [List.getElem_toArray, List.getElem_cons_succ, List.getElem_cons_zero, Act.put, List.setIfInBounds_toArray, List.set_cons_zero, List.set_cons_succ])
         refine wtk_end ?_
         refine wtk_begin [26, 27] ?_
         iterate 2 (refine wtk (v := ?_) rfl (by kernel_rfl) (fun _ _ _ h => h) (by kernel_rfl) ?_ (by assumption) ?_; rotate_left; (focus intro w0 hSw; (try dsimp only at hSw); go_simp; all_goals (with_reducible rfl)); simp only [Act.put, List.setIfInBounds_toArray, List.set_cons_zero, List.set_cons_succ])
         refine wtk_end ?_
         refine wtk_begin [28, 29, 30, 31, 32, 33, 34, 35, 36, 37, 38, 39] ?_
         iterate 12 (refine wtk_un rfl (by kernel_rfl) (fun _ _ _ h => h) (by kernel_rfl) (by assumption) ?_; simp only [List.getElem_toArray, List.getElem_cons_succ, List.getElem_cons_zero, Act.put, List.setIfInBounds_toArray, List.set_cons_zero, List.set_cons_succ])
         refine wtk_end ?_
         refine wtk_begin [40] ?_
         (refine wtk (v := ?_) rfl (by kernel_rfl) (fun _ _ _ h => h) (by kernel_rfl) ?_ (by assumption) ?_; rotate_left; (focus intro w0 hSw; (try dsimp only at hSw); go_simp; all_goals (with_reducible rfl)); simp only [Act.put, List.setIfInBounds_toArray, List.set_cons_zero, List.set_cons_succ])
         refine wtk_end ?_
         refine wpAnyH_done (by kernel_rfl) ?_ _
         (try simp only [List.getElem_toArray, List.getElem_cons_succ, List.getElem_cons_zero, Act.put, List.setIfInBounds_toArray, List.set_cons_zero, List.set_cons_succ])
         go_wp2
         go_meet
         case rel => exact ⟨by rw [HE.out], VL⟩
        ·have dA : (((p &&& lb : Nat) : Int) == 0) = false := by simpa using k1
         have K1 := Lib.hid k1
         clear k1
         by_cases k2 : smI f p n = 0
         ·have dB : (smI f p n != 0) = false := by simpa using k2
          by_cases k3 : rmv n f (left - p) + 1 = ((pm n f left : Nat) : Int)
          ·have dC : (rmv n f (left - p) + 1 != ((pm n f left : Nat) : Int)) = false := by simpa using k3
           have HE : Hid (cb = false) := Lib.hid (by
            rcases hc : cb with _ | _
            ·rfl
            ·exact absurd (HDEC.out.1 ⟨K1.out, k2, k3⟩) (HCB.out.1 hc))
           have HK2 := Lib.hid k2
           clear k2 k3
           by_cases k4 : p = left
           ·have dD : ((p : Int) != (left : Int)) = false := by rw [k4]; simp
            clear k4
            refine wp_region_held_drew (S := fun w' => w'.cell? ⟨w.heap.size, left - p, none⟩ = some (.int .i64 (rmv n f (left - p))) ∧ w'.cell? ⟨w.heap.size, left, none⟩ = some (.int .i64 ((pm n f left : Nat) : Int))) (by kernel_rfl) (keepR.out _ VL.out) (fun hHeld => ?_)
            refine wtk_begin [0, 1, 2, 3, 4, 5, 6, 7, 8, 9] ?_
            iterate 10 (refine wtk (v := ?_) rfl (by kernel_rfl) (fun _ _ _ h => h) (by kernel_rfl) ?_ (by assumption) ?_; rotate_left; (focus intro w0 hSw; (try dsimp only at hSw); go_simp; all_goals (with_reducible rfl)); simp only [Act.put, List.setIfInBounds_toArray, List.set_cons_zero, List.set_cons_succ])
            refine wtk_end ?_
            refine wpAnyH_ready (rs := [10]) (by kernel_rfl) (by simp) ?_
            refine AllReadyH.cons rfl (fun Kn hKn => ?_) AllReadyH.nil
            go_simp
            (go_at_call 28; (with_reducible refine (sumOf_any _ n f p _ (HI.out.mono ((WB.out.trans (KQ.out.mono WB.out.size)).trans (VL.out.mono (WB.out.trans (KQ.out.mono WB.out.size)).size)) (Nat.le_refl _)) hn10 HFR.out).mono ?_); rintro e w3 ⟨rfl, rfl⟩)
            go_wp2_with fail
            refine hKn.out _ _ ?_ (fun hHeld => ?_)
            ·(try dsimp only); exact keepR.out _ VL.out
            clear hKn Kn
            (try simp only [Act.put, List.setIfInBounds_toArray, List.set_cons_zero, List.set_cons_succ])
            refine wtk_begin [11, 12, 13, 14, 15, 16, 17, 18, 19, 20, 21, 22, 23, 24, 25, 26, 27, 28, 29, 30, 31] ?_
            iterate 21 (refine wtk (v := ?_) rfl (by kernel_rfl) (fun _ _ _ h => h) (by kernel_rfl) ?_ (by assumption) ?_; rotate_left; (focus intro w0 hSw; (try dsimp only at hSw); go_simp; all_goals (with_reducible rfl)); simp only [Act.put, List.setIfInBounds_toArray, List.set_cons_zero, List.set_cons_succ])
            refine wtk_end ?_
            refine wtk_begin [32, 33, 34, 35, 36, 37, 38] ?_
            iterate 7 (refine wtk_un rfl (by kernel_rfl) (fun _ _ _ h => h) (by kernel_rfl) (by assumption) ?_; simp only [List.getElem_toArray, List.getElem_cons_succ, List.getElem_cons_zero, Act.put, List.setIfInBounds_toArray, List.set_cons_zero, List.set_cons_succ])
            refine wtk_end ?_
            refine wtk_begin [39, 40] ?_
            iterate 2 (refine wtk (v := ?_) rfl (by kernel_rfl) (fun _ _ _ h => h) (by kernel_rfl) ?_ (by assumption) ?_; rotate_left; (focus intro w0 hSw; (try dsimp only at hSw); go_simp; all_goals (with_reducible rfl)); simp only [Act.put, List.setIfInBounds_toArray, List.set_cons_zero, List.set_cons_succ])
            refine wtk_end ?_
            refine wpAnyH_done (by kernel_rfl) ?_ _
            (try simp only [List.getElem_toArray, List.getElem_cons_succ, List.getElem_cons_zero, Act.put, List.setIfInBounds_toArray, List.set_cons_zero, List.set_cons_succ])
            go_wp2
            go_meet
            case rel => exact ⟨by rw [HE.out], VL⟩
           ·have dD : ((p : Int) != (left : Int)) = true := by rw [bne_iff_ne]; omega
            have dE : decide (rmv n f (left - p) < 0) = false := by
             have := rmv_more HL2.out SB.out k4 HS0.out HK2.out
             simp; omega
            clear k4
            refine wp_region_held_drew (S := fun w' => w'.cell? ⟨w.heap.size, left - p, none⟩ = some (.int .i64 (rmv n f (left - p))) ∧ w'.cell? ⟨w.heap.size, left, none⟩ = some (.int .i64 ((pm n f left : Nat) : Int))) (by kernel_rfl) (keepR.out _ VL.out) (fun hHeld => ?_)
            refine wtk_begin [0, 1, 2, 3, 4, 5, 6, 7, 8, 9] ?_
            iterate 10 (refine wtk (v := ?_) rfl (by kernel_rfl) (fun _ _ _ h => h) (by kernel_rfl) ?_ (by assumption) ?_; rotate_left; (focus intro w0 hSw; (try dsimp only at hSw); go_simp; all_goals (with_reducible rfl)); simp only [Act.put, List.setIfInBounds_toArray, List.set_cons_zero, List.set_cons_succ])
            refine wtk_end ?_
            refine wpAnyH_ready (rs := [10]) (by kernel_rfl) (by simp) ?_
            refine AllReadyH.cons rfl (fun Kn hKn => ?_) AllReadyH.nil
            go_simp
            (go_at_call 28; (with_reducible refine (sumOf_any _ n f p _ (HI.out.mono ((WB.out.trans (KQ.out.mono WB.out.size)).trans (VL.out.mono (WB.out.trans (KQ.out.mono WB.out.size)).size)) (Nat.le_refl _)) hn10 HFR.out).mono ?_); rintro e w3 ⟨rfl, rfl⟩)
            go_wp2_with fail
            refine hKn.out _ _ ?_ (fun hHeld => ?_)
            ·(try dsimp only); exact keepR.out _ VL.out
            clear hKn Kn
            (try simp only [Act.put, List.setIfInBounds_toArray, List.set_cons_zero, List.set_cons_succ])
            refine wtk_begin [11, 12, 13, 14, 15, 16, 17, 18, 19, 20, 21, 22, 23, 24, 25, 26, 27, 28, 29, 30, 31, 32, 33, 34, 35, 36, 37, 38, 39, 40] ?_
            iterate 30 (refine wtk (v := ?_) rfl (by kernel_rfl) (fun _ _ _ h => h) (by kernel_rfl) ?_ (by assumption) ?_; rotate_left; (focus intro w0 hSw; (try dsimp only at hSw); go_simp; all_goals (with_reducible rfl)); simp only [Act.put, List.setIfInBounds_toArray, List.set_cons_zero, List.set_cons_succ])
            refine wtk_end ?_
            refine wpAnyH_done (by kernel_rfl) ?_ _
            (try simp only [List.getElem_toArray, List.getElem_cons_succ, List.getElem_cons_zero, Act.put, List.setIfInBounds_toArray, List.set_cons_zero, List.set_cons_succ])
            go_wp2
            go_meet
            case rel => exact ⟨by rw [HE.out], VL⟩
          ·have dC : (rmv n f (left - p) + 1 != ((pm n f left : Nat) : Int)) = true := by simpa using k3
           have HE := Lib.hid (HCB.out.2 (fun q => k3 (HDEC.out.2 q).2.2))
           clear k2 k3
           refine wp_region_held_drew (S := fun w' => w'.cell? ⟨w.heap.size, left - p, none⟩ = some (.int .i64 (rmv n f (left - p))) ∧ w'.cell? ⟨w.heap.size, left, none⟩ = some (.int .i64 ((pm n f left : Nat) : Int))) (by kernel_rfl) (keepR.out _ VL.out) (fun hHeld => ?_)
           refine wtk_begin [0, 1, 2, 3, 4, 5, 6, 7, 8, 9] ?_
           iterate 10 (refine wtk (v := ?_) rfl (by kernel_rfl) (fun _ _ _ h => h) (by kernel_rfl) ?_ (by assumption) ?_; rotate_left; (focus intro w0 hSw; (try dsimp only at hSw); go_simp; all_goals (with_reducible rfl)); simp only [Act.put, List.setIfInBounds_toArray, List.set_cons_zero, List.set_cons_succ])
           refine wtk_end ?_
           refine wpAnyH_ready (rs := [10]) (by kernel_rfl) (by simp) ?_
           refine AllReadyH.cons rfl (fun Kn hKn => ?_) AllReadyH.nil
           go_simp
           (go_at_call 28; (with_reducible refine (sumOf_any _ n f p _ (HI.out.mono ((WB.out.trans (KQ.out.mono WB.out.size)).trans (VL.out.mono (WB.out.trans (KQ.out.mono WB.out.size)).size)) (Nat.le_refl _)) hn10 HFR.out).mono ?_); rintro e w3 ⟨rfl, rfl⟩)
           go_wp2_with fail
           refine hKn.out _ _ ?_ (fun hHeld => ?_)
           ·(try dsimp only); exact keepR.out _ VL.out
           clear hKn Kn
           (try simp only [Act.put, List.setIfInBounds_toArray, List.set_cons_zero, List.set_cons_succ])
           refine wtk_begin [11, 12, 13, 14, 15, 16, 17, 18, 19, 20, 21, 22, 23, 24, 25, 26, 27] ?_
           iterate 17 (refine wtk (v := ?_) rfl (by kernel_rfl) (fun _ _ _ h => h) (by kernel_rfl) ?_ (by assumption) ?_; rotate_left; (focus intro w0 hSw; (try dsimp only at hSw); go_simp; all_goals (with_reducible rfl)); simp only [Act.put, List.setIfInBounds_toArray, List.set_cons_zero, List.set_cons_succ])
           refine wtk_end ?_
           refine wtk_begin [28, 29, 30, 31, 32, 33, 34, 35, 36, 37, 38, 39] ?_
           iterate 12 (refine wtk_un rfl (by kernel_rfl) (fun _ _ _ h => h) (by kernel_rfl) (by assumption) ?_; simp only [List.getElem_toArray, List.getElem_cons_succ, List.getElem_cons_zero, Act.put, List.setIfInBounds_toArray, List.set_cons_zero, List.set_cons_succ])
           refine wtk_end ?_
           refine wtk_begin [40] ?_
           (refine wtk (v := ?_) rfl (by kernel_rfl) (fun _ _ _ h => h) (by kernel_rfl) ?_ (by assumption) ?_; rotate_left; (focus intro w0 hSw; (try dsimp only at hSw); go_simp; all_goals (with_reducible rfl)); simp only [Act.put, List.setIfInBounds_toArray, List.set_cons_zero, List.set_cons_succ])
           refine wtk_end ?_
           refine wpAnyH_done (by kernel_rfl) ?_ _
           (try simp only [List.getElem_toArray, List.getElem_cons_succ, List.getElem_cons_zero, Act.put, List.setIfInBounds_toArray, List.set_cons_zero, List.set_cons_succ])
           go_wp2
           go_meet
           case rel => exact ⟨by rw [HE.out], VL⟩
         ·have dB : (smI f p n != 0) = true := by simpa using k2
          have HE := Lib.hid (HCB.out.2 (fun q => k2 (HDEC.out.2 q).2.1))
          clear k2
          refine wp_region_held_drew (S := fun w' => w'.cell? ⟨w.heap.size, left - p, none⟩ = some (.int .i64 (rmv n f (left - p))) ∧ w'.cell? ⟨w.heap.size, left, none⟩ = some (.int .i64 ((pm n f left : Nat) : Int))) (by kernel_rfl) (keepR.out _ VL.out) (fun hHeld => ?_)
          refine wtk_begin [0, 1, 2, 3, 4, 5, 6, 7, 8, 9] ?_
          iterate 10 (refine wtk (v := ?_) rfl (by kernel_rfl) (fun _ _ _ h => h) (by kernel_rfl) ?_ (by assumption) ?_; rotate_left; (focus intro w0 hSw; (try dsimp only at hSw); go_simp; all_goals (with_reducible rfl)); simp only [Act.put, List.setIfInBounds_toArray, List.set_cons_zero, List.set_cons_succ])
          refine wtk_end ?_
          refine wpAnyH_ready (rs := [10]) (by kernel_rfl) (by simp) ?_
          refine AllReadyH.cons rfl (fun Kn hKn => ?_) AllReadyH.nil
          go_simp
          (go_at_call 28; (with_reducible refine (sumOf_any _ n f p _ (HI.out.mono ((WB.out.trans (KQ.out.mono WB.out.size)).trans (VL.out.mono (WB.out.trans (KQ.out.mono WB.out.size)).size)) (Nat.le_refl _)) hn10 HFR.out).mono ?_); rintro e w3 ⟨rfl, rfl⟩)
          go_wp2_with fail
          refine hKn.out _ _ ?_ (fun hHeld => ?_)
          ·(try dsimp only); exact keepR.out _ VL.out
          clear hKn Kn
          (try simp only [Act.put, List.setIfInBounds_toArray, List.set_cons_zero, List.set_cons_succ])
          refine wtk_begin [11, 12, 13] ?_
          iterate 3 (refine wtk (v := ?_) rfl (by kernel_rfl) (fun _ _ _ h => h) (by kernel_rfl) ?_ (by assumption) ?_; rotate_left; (focus intro w0 hSw; (try dsimp only at hSw); go_simp; all_goals (with_reducible rfl)); simp only [Act.put, List.setIfInBounds_toArray, List.set_cons_zero, List.set_cons_succ])
          refine wtk_end ?_
          refine wtk_begin [14, 15, 16, 17, 18, 19, 20, 21, 22, 23, 24, 25] ?_
          iterate 12 (refine wtk_un rfl (by kernel_rfl) (fun _ _ _ h => h) (by kernel_rfl) (by assumption) ?_; simp only [List.getElem_toArray, List.getElem_cons_succ, List.getElem_cons_zero, Act.put, List.setIfInBounds_toArray, List.set_cons_zero, List.set_cons_succ])
          refine wtk_end ?_
          refine wtk_begin [26, 27] ?_
          iterate 2 (refine wtk (v := ?_) rfl (by kernel_rfl) (fun _ _ _ h => h) (by kernel_rfl) ?_ (by assumption) ?_; rotate_left; (focus intro w0 hSw; (try dsimp only at hSw); go_simp; all_goals (with_reducible rfl)); simp only [Act.put, List.setIfInBounds_toArray, List.set_cons_zero, List.set_cons_succ])
          refine wtk_end ?_
          refine wtk_begin [28, 29, 30, 31, 32, 33, 34, 35, 36, 37, 38, 39] ?_
          iterate 12 (refine wtk_un rfl (by kernel_rfl) (fun _ _ _ h => h) (by kernel_rfl) (by assumption) ?_; simp only [List.getElem_toArray, List.getElem_cons_succ, List.getElem_cons_zero, Act.put, List.setIfInBounds_toArray, List.set_cons_zero, List.set_cons_succ])
          refine wtk_end ?_
          refine wtk_begin [40] ?_
          (refine wtk (v := ?_) rfl (by kernel_rfl) (fun _ _ _ h => h) (by kernel_rfl) ?_ (by assumption) ?_; rotate_left; (focus intro w0 hSw; (try dsimp only at hSw); go_simp; all_goals (with_reducible rfl)); simp only [Act.put, List.setIfInBounds_toArray, List.set_cons_zero, List.set_cons_succ])
          refine wtk_end ?_
          refine wpAnyH_done (by kernel_rfl) ?_ _
          (try simp only [List.getElem_toArray, List.getElem_cons_succ, List.getElem_cons_zero, Act.put, List.setIfInBounds_toArray, List.set_cons_zero, List.set_cons_succ])
          go_wp2
          go_meet
          case rel => exact ⟨by rw [HE.out], VL⟩
       case rest =>
        clear VL keepR
        obtain ⟨rfl, VL⟩ := hcut
        rcases hcb : cb with _ | _
        ·have HC : Hid (Cand n f left p) := Lib.hid (Classical.byContradiction (fun q => by have := HCB.out.2 q; rw [hcb] at this; cases this))
         have hP2 : p < 2 ^ n := Nat.lt_of_le_of_lt SB.out.le HL2.out
         have hP1024 : p < 1024 := by omega
         have HMT := Lib.hid (mem_ten hP2 hn10)
         have hmp : 0 < (mem p 10).length := by rw [HMT.out]; exact mem_some p hP2 h4
         have BE2 : Hid (∀ vp kp wz, wz.ownsRow wq.heap.size 3 1 (.slice vp (mem p 10).length kp) (mem p 10).length (intC (mem p 10)) → BB wq (.slice vp (mem p 10).length kp) p wz) := Lib.hid (fun vp kp wz ho => by
          obtain ⟨g, e⟩ := own_fst ho hmp
          subst e
          exact .inr ⟨h4, g, kp, rfl, ho⟩)
         clear hP2 hcb hmp
         by_cases k5 : best = 0
         ·subst k5
          have hBE : vb = .slice none 0 0 := by
           rcases BE.out with q | q
           ·exact q.2
           ·exact absurd q.1 (by omega)
          subst hBE
          have BT2 : Hid (BestTo n f left nx p) := Lib.hid (by rw [HNX.out]; exact BT.out.first SB.out HC.out)
          go_wp2_with (go_at_call 29; (with_reducible refine (rmembers_any p n _ hn10).mono ?_); rintro e w5 ⟨va5, vk5, rfl, ho5, hb5⟩; rw [← HMT.out] at ho5 ⊢; have HO5 := Lib.hid (own_base ho5 (KV.out.trans (VL.out.mono KV.out.size)).size); have VL := Lib.hid (VL.out.trans (hb5.mono VL.out.size)); clear ho5 hb5)
          go_roundw
          case rel => exact ⟨nx, p, _, by omega, hP1024, rfl, by first | rfl | go_num, rfl, M5, BT2, Lib.hid (BE2.out _ _ _ HO5.out), Lib.hid (KV.out.trans (VL.out.mono KV.out.size))⟩
          case measure => simp [intOf]; omega
         ·obtain ⟨bg, bk, hv10, hbo⟩ : ∃ g vk, vb = .slice (some ⟨g, 0, none⟩) (mem best 10).length vk ∧ wr.ownsRow wq.heap.size 3 1 vb (mem best 10).length (intC (mem best 10)) := by
           rcases BE.out with q | q
           ·exact absurd q.1 k5
           ·exact q.2
          subst hv10
          have BO := Lib.hid hbo
          have HLX : Hid (lexC (lsF (mem p 10)) (lsF (mem best 10)) (mem p 10).length (mem best 10).length (mem p 10).length 0 < 0 ↔ lexN (mem p n) (mem best n) = true) := Lib.hid (by
           rw [lex_sets, HMT.out, mem_ten (Nat.lt_of_le_of_lt (by rcases BT.out with ⟨e, _⟩ | ⟨e, _⟩; exact absurd e k5; exact e.sub.le) HL2.out) hn10])
          have K5 := Lib.hid k5
          have hbl2 := mem_len best 10
          have hpl2 := mem_len p 10
          clear k5 hbo
          by_cases k6 : lexC (lsF (mem p 10)) (lsF (mem best 10)) (mem p 10).length (mem best 10).length (mem p 10).length 0 < 0
          ·have dF := decide_eq_true k6
           have BT2 : Hid (BestTo n f left nx p) := Lib.hid (by rw [HNX.out]; exact BT.out.better K5.out SB.out HC.out (HLX.out.1 k6))
           clear k6
           go_wp2_with (first
            | (go_at_call 29; (with_reducible refine (rmembers_any p n _ hn10).mono ?_); rintro e w5 ⟨va5, vk5, rfl, ho5, hb5⟩; rw [← HMT.out] at ho5 ⊢; have HO5 := Lib.hid (own_base ho5 (KV.out.trans (VL.out.mono KV.out.size)).size); have VL := Lib.hid (VL.out.trans (hb5.mono VL.out.size)); clear ho5 hb5)
            | (go_at_call 30; (with_reducible refine (before_any _ _ _ _ _ _ _ (mem_ints HO5.out) ((mem_ints BO.out).mono VL.out (Nat.le_refl _)) (by omega) (by omega)).mono ?_); rintro e w6 ⟨rfl, hd6⟩; have HO5 := Lib.hid (own_kept HO5.out (hd6.below _)); have VL := Lib.hid (VL.out.trans (hd6.below _)); clear hd6))
           go_roundw
           case rel => exact ⟨nx, p, _, by omega, hP1024, rfl, by first | rfl | go_num, rfl, M5, BT2, Lib.hid (BE2.out _ _ _ HO5.out), Lib.hid (KV.out.trans (VL.out.mono KV.out.size))⟩
           case measure => simp [intOf]; omega
          ·have dF := decide_eq_false k6
           have BT2 : Hid (BestTo n f left nx best) := Lib.hid (by rw [HNX.out]; exact BT.out.keep K5.out SB.out HL2.out HC.out (fun q => k6 (HLX.out.2 q)))
           clear k6
           go_wp2_with (first
            | (go_at_call 29; (with_reducible refine (rmembers_any p n _ hn10).mono ?_); rintro e w5 ⟨va5, vk5, rfl, ho5, hb5⟩; rw [← HMT.out] at ho5 ⊢; have HO5 := Lib.hid (own_base ho5 (KV.out.trans (VL.out.mono KV.out.size)).size); have VL := Lib.hid (VL.out.trans (hb5.mono VL.out.size)); clear ho5 hb5)
            | (go_at_call 30; (with_reducible refine (before_any _ _ _ _ _ _ _ (mem_ints HO5.out) ((mem_ints BO.out).mono VL.out (Nat.le_refl _)) (by omega) (by omega)).mono ?_); rintro e w6 ⟨rfl, hd6⟩; have HO5 := Lib.hid (own_kept HO5.out (hd6.below _)); have VL := Lib.hid (VL.out.trans (hd6.below _)); clear hd6))
           go_roundw
           case rel => exact ⟨nx, best, _, by omega, hbl, rfl, by first | rfl | go_num, rfl, M5, BT2, Lib.hid (BE.out.kept VL.out), Lib.hid (KV.out.trans (VL.out.mono KV.out.size))⟩
           case measure => simp [intOf]; omega
        ·have BT2 := Lib.hid (SKIP.out (HCB.out.1 hcb))
         clear hcb
         go_wp2
         go_roundw
         case rel => exact ⟨nx, best, _, by omega, hbl, rfl, by first | rfl | go_num, rfl, M5, BT2, Lib.hid (BE.out.kept VL.out), Lib.hid (KV.out.trans (VL.out.mono KV.out.size))⟩
         case measure => simp [intOf]; omega
      ·obtain rfl : p = 0 := by omega
       have HBS := Lib.hid (BT.out.done HL2.out h3 HS0.out)
       have hbl2 := HBS.out.1.sub.le
       have hbp := HBS.out.1.pos
       have GP2 := Lib.hid (GP.out.push HBS.out)
       have HS2 := Lib.hid (HBS.out.rest HS0.out)
       have hl6 : bits .xor .i64 (left : Int) (best : Int) = ((left - best : Nat) : Int) := bits_xor left best HBS.out.1.sub (by omega)
       obtain ⟨bg, bk, hv10, hbo⟩ : ∃ g vk, vb = .slice (some ⟨g, 0, none⟩) (mem best 10).length vk ∧ wr.ownsRow wq.heap.size 3 1 vb (mem best 10).length (intC (mem best 10)) := by
        rcases BE.out with q | q
        ·exact absurd q.1 (by omega)
        ·exact q.2
       subst hv10
       have BO := Lib.hid hbo
       have OW := Lib.hid (own_kept RI.out.own KV.out)
       have KWS := Lib.hid KQ.out.size
       clear hbo
       go_wp2_with (at_builtin; refine wpList_append_own_at _ rfl (.tmp 149) (.tmp 151) 24 rfl wo.heap.size 22 i0 (.slice none 0 0) 1 24 Tryz.underlying24 hinf hz0 hz1 hz2 rfl (by decide) (.slice va L.length vk) L.length (rowCells ra (mlen L) rc L.length) rfl (OW.out.alloc _) ⟨wr.heap.size, 0, none⟩ 1 1 [.slice (some ⟨bg, 0, none⟩) (mem best 10).length bk] rfl rfl (new1 wr (.slice (some ⟨bg, 0, none⟩) (mem best 10).length bk) 22) (one1 _ rfl) (by unfold maxLen; omega) (by omega) (by have := KWS.out; simp; omega) ?_; intro v' w5 hown hgrow _ hbk; have HOWN := Lib.hid hown; have HGROW := Lib.hid hgrow; have HBK := Lib.hid hbk; obtain ⟨va5, vk5, rfl⟩ := own_shape hown; clear hown hgrow hbk)
       go_roundw
       case rel =>
        have hlen2 : (L ++ [best]).length = L.length + 1 := by simp
        have G1 := RI.out.congr (m' := mlen (L ++ [best])) (f' := mF (L ++ [best])) (fun i hi => mlen_app L best i hi)
        have hrc : rowCells ra (mlen L) rc L.length = rowCells ra (mlen (L ++ [best])) rc L.length := List.map_congr_left (fun i hi => by rw [(mlen_app L best i (List.mem_range.1 hi)).1])
        have hml := mlen_last L best
        have ho1 := HOWN.out
        rw [hrc] at ho1
        have ho2 := BO.out
        rw [intC_ics] at ho2
        have G2 := G1.push KQ0.out.size KV.out (a := some ⟨bg, 0, none⟩) (c := bk) (by rw [hml.1, hml.2]; exact ho2) _ HGROW.out HBK.out (by rw [hml.1]; exact ho1)
        refine ⟨L ++ [best], left - best, by omega, by rw [hlen2]; omega, by first | rfl | go_num, va5, vk5, _, _, by rw [hlen2], GP2, HS2, Lib.hid (by rw [hlen2]; exact G2), Lib.hid ((KQ.out.alloc KQ.out.size _).grown HGROW.out (by have := KWS.out; simp; omega) (fun kk e => (RI.out.own.lt kk e).1))⟩
       case measure => simp [intOf]; omega
    ·obtain rfl : left = 0 := by omega
     go_wp2
     go_ret
     exact ⟨va, vk, L, rfl, GP.out, by omega, RI.out.mat, G.out.below.trans (KQ0.out.mono G.out.below.size)⟩
end Go.Proofs.YtcnaagiicpkcpaaGreat
