/- debt.groups: the walk. -/
import Derived.Test.YtcnaagiicpkcpaaGreatMGrpA
import Derived.Test.YtcnaagiicpkcpaaGreatMFun
set_option linter.unusedVariables false
set_option linter.unusedSimpArgs false
namespace Go.Proofs.YtcnaagiicpkcpaaGreat
open Go.RowKit
attribute [local go_sem ↓] Go.wp_at_zero Go.wp_at_succ
theorem smI_all (f : Nat → Int) (n : Nat) : ∀ k, k ≤ n → smI f (2 ^ n - 1) k = sumF f k
 | 0, _ => rfl
 | k + 1, h => by
  simp only [smI, sumF, smI_all f n k (by omega), Nat.testBit_two_pow_sub_one]
  rw [if_pos (by simp; omega)]
theorem members_set (s : Nat) (w : World) (hs : s < 1024) :
  Calls Tryz.prog 15 #[.int .i64 (s : Nat)] w fun e w' => ∃ va vk, e = .returned (.slice va (mem s 10).length vk) ∧ Ints w' (.slice va (mem s 10).length vk) (mem s 10).length (lsF (mem s 10)) ∧ Below w.heap.size w w' := members_ints s w hs
/-- the best of the sets above s -/
def BestTo (n : Nat) (f : Nat → Int) (left s best : Nat) : Prop := (best = 0 ∧ ∀ c, Cand n f left c → c ≤ s) ∨ (Cand n f left best ∧ ∀ c, Cand n f left c → s < c → c = best ∨ lexN (mem best n) (mem c n) = true)
section
variable {n : Nat} {f : Nat → Int} {left s best : Nat}
theorem BestTo.start : BestTo n f left left 0 := .inl ⟨rfl, fun c hc => hc.sub.le⟩
theorem next_or (hs : Sb s left) {c : Nat} (hc : Cand n f left c) (h : (s - 1) &&& left < c) : c = s ∨ s < c := by
 rcases Nat.lt_trichotomy c s with e | e | e
 ·have := next_le left s c hs hc.sub e; omega
 ·exact .inl e
 ·exact .inr e
theorem BestTo.skip (h : BestTo n f left s best) (hs : Sb s left) (hn : ¬ Cand n f left s) : BestTo n f left ((s - 1) &&& left) best := by
 rcases h with ⟨e, h⟩ | ⟨hc, h⟩
 ·refine .inl ⟨e, fun c hc => Nat.not_lt.1 (fun q => ?_)⟩
  rcases next_or hs hc q with a | a
  ·rw [a] at hc; exact hn hc
  ·have := h c hc; omega
 ·refine .inr ⟨hc, fun c k q => ?_⟩
  rcases next_or hs k q with a | a
  ·rw [a] at k; exact absurd k hn
  ·exact h c k a
theorem BestTo.first (h : BestTo n f left s 0) (hs : Sb s left) (hc : Cand n f left s) : BestTo n f left ((s - 1) &&& left) s := by
 rcases h with ⟨_, h⟩ | ⟨k, _⟩
 ·refine .inr ⟨hc, fun c k q => ?_⟩
  rcases next_or hs k q with a | a
  ·exact .inl a
  ·have := h c k; omega
 ·exact absurd k.pos (by omega)
theorem BestTo.better (h : BestTo n f left s best) (hb : best ≠ 0) (hs : Sb s left) (hc : Cand n f left s) (hl : lexN (mem s n) (mem best n) = true) : BestTo n f left ((s - 1) &&& left) s := by
 rcases h with ⟨e, _⟩ | ⟨hb2, h⟩
 ·exact absurd e hb
 ·refine .inr ⟨hc, fun c k q => ?_⟩
  rcases next_or hs k q with a | a
  ·exact .inl a
  ·rcases h c k a with e | e
   ·rw [e]; exact .inr hl
   ·exact .inr (lexN_trans _ _ _ hl e)
theorem BestTo.keep (h : BestTo n f left s best) (hb : best ≠ 0) (hs : Sb s left) (hl2 : left < 2 ^ n) (hc : Cand n f left s) (hl : ¬ lexN (mem s n) (mem best n) = true) : BestTo n f left ((s - 1) &&& left) best := by
 rcases h with ⟨e, _⟩ | ⟨hb2, h⟩
 ·exact absurd e hb
 ·refine .inr ⟨hb2, fun c k q => ?_⟩
  rcases next_or hs k q with a | a
  ·by_cases e : s = best
   ·exact .inl (a.trans e)
   ·right
    rw [a]
    have hne : mem s n ≠ mem best n := fun q => e (mem_inj (Nat.lt_of_le_of_lt hs.le hl2) (Nat.lt_of_le_of_lt hb2.sub.le hl2) q)
    exact (lexN_total _ _ hne).resolve_left hl
  ·exact h c k a
theorem BestTo.done (h : BestTo n f left 0 best) (hl : left < 2 ^ n) (hp : 0 < left) (h0 : smI f left n = 0) : Best n f left best := by
 rcases h with ⟨e, h⟩ | ⟨hc, h⟩
 ·obtain ⟨c, hc⟩ := cand_ex hl hp h0
  have := h c hc
  have := hc.pos
  omega
 ·exact ⟨hc, fun c k => h c k k.pos⟩
end
set_option maxHeartbeats 8000000 in
set_option maxRecDepth 100000 in
theorem groups_own (v : Value) (n : Nat) (f : Nat → Int) (w : World) (hv : Ints w v n f) (hB : Balances n f) :
  Calls Tryz.prog 14 #[v] w fun e w' => ∃ va vk L, e = .returned (.slice va L.length vk) ∧ GrpP n f (2 ^ n - 1) L 0 ∧ L.length ≤ 1023 ∧ w'.ownsRow w.heap.size 3 1 (.slice va L.length vk) L.length (intC L) ∧ Below w.heap.size w w' := by
 obtain ⟨a, b, o, c, rfl, hs⟩ := hv
 have HV := Lib.hid hs
 obtain ⟨hn1, hn10, hfr, hsum⟩ := hB
 have HFR := Lib.hid hfr
 obtain ⟨N, hN⟩ : ∃ N, N = 2 ^ n := ⟨_, rfl⟩
 have hN1 : N ≤ 1024 := by rw [hN]; exact Nat.le_trans (Nat.pow_le_pow_right (by omega) hn10) (by decide)
 have hN0 : 1 ≤ N := by rw [hN]; exact Nat.one_le_two_pow
 have hw2 : RowKit.wrap64 ((2 : Int) ^ n) = ((N : Nat) : Int) := by rw [(pow_wrap2 n (by omega)).2, hN]; simp
 have HSM : Hid (smI f (N - 1) n = 0) := Lib.hid (by rw [hN, smI_all f n n (Nat.le_refl _)]; exact hsum)
 have HN := Lib.hid hN
 have hn64 : n < 64 := by omega
 have hmk := run_make_row' (P := Tryz.prog) 22 3 (.int .i64 0) 8 Tryz.underlying22 infoI rfl .i64 .i64 N (by omega) (by omega)
 have HR0 := Lib.hid (World.rowIs_made w (.int .i64 0) N 3)
 clear hs hN hfr hsum
 go_enter Tryz.func14, Tryz.ntmps14
 go_wp2
 go_cut [3, 4] (fun v3 v4 wx => ∃ A B : Nat, v3 = .slice (some ⟨A, 0, none⟩) N N ∧ v4 = .slice (some ⟨B, 0, none⟩) N N ∧ Hid (wx.rowIs A 3 N (ic (fun _ => 0))) ∧ Hid (wx.rowIs B 3 N (ic (fun _ => 0))) ∧ A ≠ B ∧ w.heap.size ≤ A ∧ w.heap.size ≤ B ∧ Hid (Below w.heap.size w wx))
 case first =>
  go_region
  all_goals
   go_wp2_with fail
   go_meet
   case rel =>
    have h1 := World.rowIs_made (w.alloc (.cells (madeCells #[.int .i64 0] N) 3)) (.int .i64 0) N 3
    simp only [World.size_alloc] at h1
    have hb := (((Below.refl w.heap.size w).alloc (Nat.le_refl _) (.cells (madeCells #[.int .i64 0] N) 3)).alloc (by simp) (.cells (madeCells #[.int .i64 0] N) 3)).drew
    first
    | exact ⟨w.heap.size, w.heap.size + 1, rfl, rfl, Lib.hid (HR0.out.alloc _).drew, Lib.hid h1.drew, by omega, by omega, by omega, Lib.hid hb⟩
    | exact ⟨w.heap.size + 1, w.heap.size, rfl, rfl, Lib.hid h1.drew, Lib.hid (HR0.out.alloc _).drew, by omega, by omega, by omega, Lib.hid hb⟩
 case rest =>
  obtain ⟨A, B, rfl, rfl, RA, RB, hne, hA, hB, KW⟩ := hcut
  have hrow0 : ∀ F : Nat → Int, F 0 = 0 → ∀ i, i < N → ic (fun _ => 0) i = ic (rowF F 1 0) i := fun F hF i hi => by
   simp only [ic, rowF]
   by_cases e : i < 1
   ·obtain rfl : i = 0 := by omega
    simp [hF]
   ·simp [e]
  have G0 : Hid (GT N (fun s => smI f s n) (fun s => ((pm n f s : Nat) : Int)) w wc A B 1 0 0) := Lib.hid ⟨RA.out.congr (hrow0 _ (smI_zero f n)), RB.out.congr (hrow0 _ rfl), KW.out⟩
  clear RA RB KW hrow0 hmk HR0
  go_wp2
  go_loopw [5] (fun v5 wr => ∃ s : Nat, 1 ≤ s ∧ s ≤ N ∧ v5 = .int .i64 (s : Nat) ∧ Hid (GT N (fun s => smI f s n) (fun s => ((pm n f s : Nat) : Int)) w wr A B s 0 0)) (fun v5 _ => N - (intOf v5).toNat)
  case atStart => exact ⟨1, by omega, by omega, rfl, G0⟩
  case round =>
   clear G0
   obtain ⟨s, hs1, hs, rfl, G⟩ := hrel
   by_cases h : s < N
   ·have e1 : decide ((s : Int) < (N : Int)) = true := by simpa using h
    have e1n : decide (s < N) = true := by simpa using h
    have HSN : Hid (s < 2 ^ n) := Lib.hid (by rw [← HN.out]; exact h)
    have t6 : 0 < (mem s 10).length := by rw [mem_ten HSN.out hn10]; exact mem_some s HSN.out (by omega)
    have HT : Hid (pq n f s (mem s 10).length + (if smI f s n = 0 then 1 else 0) = ((pm n f s : Nat) : Int)) := Lib.hid (by
     rw [pq_end s HSN.out hn10, pm_eq n f (by omega)]
     split <;> simp)
    go_wp2_with (first
     | (go_at_call 15; (with_reducible refine (members_row s _ (by omega) t6).mono ?_); rintro e w1 ⟨g, cap, rfl, hsl, hg, hb⟩; have OW := Lib.hid hsl; have hAl := G.out.a.lt; have hBl := G.out.b.lt; have G := Lib.hid (G.out.below' hb); clear hsl hb))
    have OW0 := OW
    have hlen := mem_len s 10
    have gA : A ≠ g := by omega
    have gB : B ≠ g := by omega
    have GX : Hid (GT N (fun s => smI f s n) (fun s => ((pm n f s : Nat) : Int)) w w1 A B s (if (0 : Nat) = 0 then 0 else smI f s n) (pq n f s 0)) := Lib.hid (by rw [pq_zero, if_pos rfl]; exact G.out)
    go_loopw [29] (fun v29 wr => ∃ j : Nat, j ≤ (mem s 10).length ∧ v29 = .int .i64 (j : Nat) ∧ Hid (GT N (fun s => smI f s n) (fun s => ((pm n f s : Nat) : Int)) w wr A B s (if j = 0 then 0 else smI f s n) (pq n f s j)) ∧ Hid (IsSl wr (some ⟨g, 0, none⟩) g 0 cap (mem s 10).length (ic (lsF (mem s 10))))) (fun v29 _ => (mem s 10).length - (intOf v29).toNat)
    case atStart => exact ⟨0, by omega, rfl, GX, OW⟩
    case round =>
     clear G GX OW OW0
     obtain ⟨j, hj, rfl, G, OW⟩ := hrel
     by_cases h2 : j < (mem s 10).length
     ·have hK := memb_at (n := 10) s j h2
      have hK2 : (mem s 10).getD j 0 < n := bit_lt HSN.out hK.2
      have F6 := Lib.hid (pq_succ (n := n) (f := f) s j h2)
      have hpr := pq_range (n := n) (f := f) s j (by omega)
      have ix0 := fun W => ixI OW.out j cap h2 W
      have x0 := OW.out.cell j h2
      simp only [ic, lsF, Nat.zero_add] at ix0 x0
      generalize (mem s 10).getD j 0 = K at *
      have hb2 := (sb_bit hK.2).le
      have p1 := Nat.one_le_two_pow (n := K)
      have f4 : bits .andNot .i64 (s : Int) ((2 : Int) ^ K) = ((s - 2 ^ K : Nat) : Int) := by
       have e : ((2 ^ K : Nat) : Int) = (2 : Int) ^ K := by simp
       rw [← e]; exact bits_not s (2 ^ K) (sb_bit hK.2) (by omega)
      have f5 : smI f (s - 2 ^ K) n + f K = smI f s n := smI_bit f hK.2 n hK2
      have hb := HV.out.mono G.out.below (Nat.le_refl _)
      have ixb := fun W => ixI hb K c hK2 W
      have xb := hb.cell K hK2
      obtain ⟨p3, p4⟩ := pow_wrap2 K (by omega)
      obtain ⟨r, hr⟩ : ∃ r, r = s - 2 ^ K := ⟨_, rfl⟩
      have f3 : r < s := by omega
      rw [← hr] at f4 f5 F6
      have ca := G.out.a.cell (i := r) (by omega)
      have ca2 := G.out.a.cell (i := s) (by omega)
      have fa := G.out.a.frozen s
      simp only [ic, rowF, if_pos f3, Nat.lt_irrefl, if_false, if_true] at ca ca2 xb
      have g0 : (0 : Int) ≤ (r : Int) := Int.natCast_nonneg r
      have g1 : (r : Int) < (N : Int) := by omega
      have g2 : (0 : Int) ≤ (s : Int) := Int.natCast_nonneg s
      have g3 : (s : Int) < (N : Int) := by omega
      have hsb := smI_bound HFR.out s n (Nat.le_refl _)
      have hwr : IntKind.i64.wrap (smI f r n + f K) = smI f r n + f K := by rw [f5, IntKind.wrap_i64]; omega
      have F5 := Lib.hid f5
      have HPM : Hid (0 ≤ ((pm n f r : Nat) : Int)) := Lib.hid (Int.natCast_nonneg _)
      have n1 : ¬ A = B := hne
      have n2 : ¬ B = A := fun e => hne e.symm
      have hK64 : K < 64 := by omega
      clear hb hr f5 hsb hpr hb2 p1
      go_wp2
      go_region
      have G := Lib.hid (G.out.setA hne hA (smI f r n + f K)).drew
      have OW := Lib.hid (OW.out.setFar (o' := s) gA (.int .i64 (smI f r n + f K))).drew
      clear ix0 x0 xb ca ca2 fa
      generalize (wr.setCell ⟨A, s, none⟩ (.int .i64 (smI f r n + f K))).drew = wB at G OW ⊢
      have cb := G.out.b.cell (i := r) (by omega)
      have cb2 := G.out.b.cell (i := s) (by omega)
      have fb := G.out.b.frozen s
      simp only [ic, rowF, if_pos f3, Nat.lt_irrefl, if_false, if_true] at cb cb2
      go_wp2
      go_region
      have G := Lib.hid (G.out.setB hne hB (max (pq n f s j) ((pm n f r : Nat) : Int))).drew
      have OW := Lib.hid (OW.out.setFar (o' := s) gB (.int .i64 (max (pq n f s j) ((pm n f r : Nat) : Int)))).drew
      go_wp2
      go_roundw
      case rel =>
       refine ⟨j + 1, by omega, by go_num, ?_, OW⟩
       rw [if_neg (by omega), ← F5.out, F6.out]
       exact G
      case measure => simp [intOf]; omega
     ·have hje : j = (mem s 10).length := by omega
      have hx : (if j = 0 then 0 else smI f s n) = smI f s n := if_neg (by omega)
      rw [hx] at G
      have ca2 := G.out.a.cell (i := s) (by omega)
      have cb2 := G.out.b.cell (i := s) (by omega)
      have fb := G.out.b.frozen s
      simp only [ic, rowF, Nat.lt_irrefl, if_false, if_true] at ca2 cb2
      have g2 : (0 : Int) ≤ (s : Int) := Int.natCast_nonneg s
      have g3 : (s : Int) < (N : Int) := by omega
      have hpm := pq_range (n := n) (f := f) s j (by omega)
      have hwr : IntKind.i64.wrap (pq n f s j + 1) = pq n f s j + 1 := by rw [IntKind.wrap_i64]; omega
      have hmo := HT.out
      rw [← hje] at hmo
      have HEX : Hid (decide ((j : Int) < (((mem s 10).length : Nat) : Int)) = false) := Lib.hid (by simp; omega)
      have e9 := HEX.out
      clear hje
      by_cases hz : smI f s n = 0
      ·have d1 : (smI f s n == 0) = true := by simpa using hz
       have HZ := Lib.hid hz
       rw [if_pos hz] at hmo
       have HMO := Lib.hid hmo
       clear hz hmo hx hpm
       go_wp2
       go_roundw
       case rel =>
        have G := G.out.setB hne hB (pq n f s j + 1)
        refine ⟨s + 1, by omega, by omega, by go_num, Lib.hid ?_⟩
        rw [HMO.out] at G ⊢
        exact G.next
       case measure => simp [intOf]; omega
      ·have d1 : (smI f s n == 0) = false := by simpa using hz
       have HZ := Lib.hid hz
       rw [if_neg hz, Int.add_zero] at hmo
       have HMO := Lib.hid hmo
       clear hz hmo hx hpm
       go_wp2
       go_roundw
       case rel =>
        have G := G.out
        rw [HMO.out] at G
        exact ⟨s + 1, by omega, by omega, by go_num, Lib.hid G.next⟩
       case measure => simp [intOf]; omega
   ·have hsN : s = N := by omega
    rw [hsN] at G
    have hsd : decide ((s : Int) < (N : Int)) = false := by simp; omega
    have hsdn : decide (s < N) = false := by simpa using h
    clear hsN
    generalize wr = wo at *
    clear wr
    have hA2 := G.out.a.lt
    have hB2 := G.out.b.lt
    obtain ⟨i0, hinf, hz0, hz1, hz2⟩ := info_parts infoI
    have KW0 := Lib.hid (Below.refl wo.heap.size wo)
    have hNm : IntKind.i64.wrap ((N : Int) - 1) = ((N - 1 : Nat) : Int) := by rw [IntKind.wrap_i64]; omega
    have GP0 : Hid (GrpP n f (2 ^ n - 1) [] (N - 1)) := Lib.hid (show N - 1 = 2 ^ n - 1 by rw [HN.out])
    go_wp2
    go_loopw [8, 9, 10, 11] (fun v8 v9 v10 v11 wr => ∃ (L : List Nat) (left : Nat), left < N ∧ L.length + left ≤ 1023 ∧ v9 = .int .i64 (left : Nat) ∧ ∃ va vk, v8 = .slice va L.length vk ∧ Hid (GrpP n f (2 ^ n - 1) L left) ∧ Hid (smI f left n = 0) ∧ Hid (wr.ownsRow wo.heap.size 3 1 (.slice va L.length vk) L.length (intC L)) ∧ Hid (Below wo.heap.size wo wr)) (fun _ v9 _ _ _ => (intOf v9).toNat)
    case atStart => exact ⟨[], N - 1, by omega, by simp; omega, rfl, none, 0, rfl, GP0, HSM, Lib.hid (World.ownsRow_nil _ _ _ _), KW0⟩
    case round =>
     clear KW0 GP0
     obtain ⟨L, left, hl, hLl, rfl, va, vk, rfl, GP, HS0, OW, KW⟩ := hrel
     by_cases h3 : 0 < left
     ·have d0 : decide ((0 : Int) < (left : Int)) = true := by simpa using h3
      have HL2 : Hid (left < 2 ^ n) := Lib.hid (by rw [← HN.out]; exact hl)
      have BT0 : Hid (BestTo n f left left 0) := Lib.hid BestTo.start
      obtain ⟨bt, hbt, hlow, hb1, hb2⟩ := low_bit left (by omega) h3
      have HLW : Hid (Low left bt) := Lib.hid ⟨hb1, hb2⟩
      have l3 := (low_facts left (by omega) h3).1
      rw [hlow] at l3
      have hneg : IntKind.i64.wrap (-(left : Int)) = -(left : Int) := by rw [IntKind.wrap_i64]; omega
      have hlb : 2 ^ bt ≤ 1023 := by have := (sb_bit hb1).le; omega
      obtain ⟨lb, hlbe⟩ : ∃ lb, lb = 2 ^ bt := ⟨_, rfl⟩
      rw [← hlbe] at l3 hlb
      have HLB := Lib.hid hlbe
      clear hb1 hb2 hlow hlbe
      go_wp2
      go_loopw [10, 11] (fun v10 v11 wr => ∃ s best : Nat, s ≤ left ∧ best < 1024 ∧ v11 = .int .i64 (s : Nat) ∧ v10 = .int .i64 (best : Nat) ∧ Hid (Sb s left) ∧ Hid (BestTo n f left s best) ∧ Hid (wr.ownsRow wo.heap.size 3 1 (.slice va L.length vk) L.length (intC L)) ∧ Hid (Below wo.heap.size wo wr)) (fun _ v11 _ => (intOf v11).toNat)
      case atStart => exact ⟨left, 0, Nat.le_refl _, by omega, rfl, rfl, Lib.hid (Sb.refl _), BT0, OW, KW⟩
      case round =>
       clear OW KW BT0
       obtain ⟨s, best, hsl, hbl, rfl, rfl, SB, BT, OW, KW⟩ := hrel
       by_cases h4 : 0 < s
       ·have d1 : decide ((0 : Int) < (s : Int)) = true := by simpa using h4
        have m2 : bits .and .i64 (s : Int) (lb : Int) = ((s &&& lb : Nat) : Int) := bits_and s lb (by omega) (by omega)
        have hw1 : IntKind.i64.wrap ((s : Int) - 1) = ((s - 1 : Nat) : Int) := by rw [IntKind.wrap_i64]; omega
        have hw1b : IntKind.i64.wrap ((s : Int) - 1) = (s : Int) - 1 := by rw [IntKind.wrap_i64]; omega
        have m3 : bits .and .i64 ((s : Int) - 1) (left : Int) = (((s - 1) &&& left : Nat) : Int) := by
         rw [show (s : Int) - 1 = ((s - 1 : Nat) : Int) by omega]; exact bits_and (s - 1) left (by omega) (by omega)
        have m4 := next_lt (m := left) h4
        have M5 := Lib.hid (next_sb left s)
        have m6 : bits .andNot .i64 (left : Int) (s : Int) = ((left - s : Nat) : Int) := bits_not left s SB.out (by omega)
        have ca := (rowIs_below G.out.a KW.out hA2).cell (i := s) (by omega)
        have cb := (rowIs_below G.out.b KW.out hB2).cell (i := left - s) (by omega)
        have cb2 := (rowIs_below G.out.b KW.out hB2).cell (i := left) (by omega)
        simp only [ic, rowF, if_pos (show s < N by omega), if_pos hl, if_pos (show left - s < N by omega)] at ca cb cb2
        have hp1 := pm_le (n := n) (f := f) (left - s)
        have hwm : IntKind.i64.wrap (1 + ((pm n f (left - s) : Nat) : Int)) = 1 + ((pm n f (left - s) : Nat) : Int) := by rw [IntKind.wrap_i64]; omega
        have g0 : (0 : Int) ≤ (s : Int) := Int.natCast_nonneg s
        have g1 : (s : Int) < (N : Int) := by omega
        have g2 : (0 : Int) ≤ (left : Int) := Int.natCast_nonneg _
        have g3 : (left : Int) < (N : Int) := by omega
        have g4 : (0 : Int) ≤ ((left - s : Nat) : Int) := Int.natCast_nonneg _
        have g5 : ((left - s : Nat) : Int) < (N : Int) := by omega
        clear hw1 hp1
        obtain ⟨nx, hnx⟩ : ∃ nx, nx = (s - 1) &&& left := ⟨_, rfl⟩
        rw [← hnx] at m3 m4 M5
        have HNX := Lib.hid hnx
        clear hnx
        by_cases k1 : s &&& lb = 0
        ·have HNC : Hid (¬ Cand n f left s) := Lib.hid (fun hc => by
          obtain ⟨b', hb', hsb⟩ := hc.low
          rw [hb'.uniq HLW.out] at hsb
          rw [HLB.out] at k1
          rw [(and_pow s bt).1 k1] at hsb; cases hsb)
         have BT2 : Hid (BestTo n f left nx best) := Lib.hid (by rw [HNX.out]; exact BT.out.skip SB.out HNC.out)
         have dA : (((s &&& lb : Nat) : Int) == 0) = true := by rw [k1]; rfl
         clear k1
         go_wp2
         go_quiet (fail)
         go_wp2
         go_roundw
         case rel => exact ⟨nx, best, by omega, hbl, by first | rfl | go_num, rfl, M5, BT2, Lib.hid (show (wr.drewN nq).ownsRow _ _ _ _ _ _ from OW.out), Lib.hid (below_drawN KW.out nq)⟩
         case measure => simp [intOf]; omega
        ·have dA : (((s &&& lb : Nat) : Int) == 0) = false := by simpa using k1
         have HK1 : Hid (s.testBit bt = true) := Lib.hid (by
          rcases hb : s.testBit bt with _ | _
          ·exact absurd (by rw [HLB.out]; exact (and_pow s bt).2 hb) k1
          ·rfl)
         by_cases k2 : smI f s n = 0
         ·have dB : (smI f s n != 0) = false := by rw [k2]; rfl
          have HK2 := Lib.hid k2
          by_cases k3 : 1 + pm n f (left - s) = pm n f left
          ·have HK3 := Lib.hid k3
           have k3i : 1 + ((pm n f (left - s) : Nat) : Int) = ((pm n f left : Nat) : Int) := by omega
           have dC : (1 + ((pm n f (left - s) : Nat) : Int) != ((pm n f left : Nat) : Int)) = false := by rw [k3i]; simp
           have HC : Hid (Cand n f left s) := Lib.hid ⟨SB.out, h4, ⟨bt, HLW.out, HK1.out⟩, HK2.out, HK3.out⟩
           clear k1 k2 k3 k3i
           by_cases hb0 : best = 0
           ·subst hb0
            have BT2 : Hid (BestTo n f left nx s) := Lib.hid (by rw [HNX.out]; exact BT.out.first SB.out HC.out)
            go_wp2
            go_quiet (fail)
            go_wp2
            go_roundw
            case rel => exact ⟨nx, s, by omega, by omega, by first | rfl | go_num, rfl, M5, BT2, Lib.hid (show (wr.drewN nq).ownsRow _ _ _ _ _ _ from OW.out), Lib.hid (below_drawN KW.out nq)⟩
            case measure => simp [intOf]; omega
           ·have dD : (((best : Nat) : Int) == 0) = false := by simpa using hb0
            have HB0 := Lib.hid hb0
            have HLX := Lib.hid (lex_sets (mem s 10) (mem best 10))
            have hs10 : s < 1024 := by omega
            clear hb0
            go_wp2
            go_quiet (fail)
            have OW := Lib.hid (show (wr.drewN nq).ownsRow wo.heap.size 3 1 (.slice va L.length vk) L.length (intC L) from OW.out)
            have KW := Lib.hid (below_drawN KW.out nq)
            clear ca cb cb2
            generalize wr.drewN nq = wA at *
            by_cases hlt : lexC (lsF (mem s 10)) (lsF (mem best 10)) (mem s 10).length (mem best 10).length (mem s 10).length 0 < 0
            ·have dE : decide (lexC (lsF (mem s 10)) (lsF (mem best 10)) (mem s 10).length (mem best 10).length (mem s 10).length 0 < 0) = true := by simpa using hlt
             have BT2 : Hid (BestTo n f left nx s) := Lib.hid (by
              rw [HNX.out]
              refine BT.out.better HB0.out SB.out HC.out ?_
              rw [← mem_ten (Nat.lt_of_le_of_lt SB.out.le HL2.out) hn10, ← mem_ten (show best < 2 ^ n by rcases BT.out with ⟨e, _⟩ | ⟨e, _⟩; exact absurd e HB0.out; exact Nat.lt_of_le_of_lt e.sub.le HL2.out) hn10]
              exact HLX.out.1 hlt)
             clear hlt
             go_wp2_with (first
              | (go_at_call 15; (with_reducible refine (members_set s _ hs10).mono ?_); rintro e w1 ⟨ga, gk, rfl, hsl, hb⟩; have M1 := Lib.hid hsl; have OW := Lib.hid (own_kept OW.out hb); have KW := Lib.hid (KW.out.trans (hb.mono KW.out.size)); clear hsl hb)
              | (go_at_call 15; (with_reducible refine (members_set best _ hbl).mono ?_); rintro e w2 ⟨ga2, gk2, rfl, hsl, hb⟩; have M2 := Lib.hid hsl; have M1 := Lib.hid (M1.out.mono hb (Nat.le_refl _)); have OW := Lib.hid (own_kept OW.out hb); have KW := Lib.hid (KW.out.trans (hb.mono KW.out.size)); clear hsl hb)
              | (go_at_call 22; (with_reducible refine (compare_ints _ _ _ _ _ _ _ M1.out M2.out (by have := mem_len s 10; omega) (by have := mem_len best 10; omega)).mono ?_); rintro e w3 ⟨rfl, hww⟩; subst hww))
             go_roundw
             case rel => exact ⟨nx, s, by omega, by omega, by first | rfl | go_num, rfl, M5, BT2, OW, KW⟩
             case measure => simp [intOf]; omega
            ·have dE : decide (lexC (lsF (mem s 10)) (lsF (mem best 10)) (mem s 10).length (mem best 10).length (mem s 10).length 0 < 0) = false := by simpa using hlt
             have BT2 : Hid (BestTo n f left nx best) := Lib.hid (by
              rw [HNX.out]
              refine BT.out.keep HB0.out SB.out HL2.out HC.out (fun q => hlt (HLX.out.2 ?_))
              rw [mem_ten (Nat.lt_of_le_of_lt SB.out.le HL2.out) hn10, mem_ten (show best < 2 ^ n by rcases BT.out with ⟨e, _⟩ | ⟨e, _⟩; exact absurd e HB0.out; exact Nat.lt_of_le_of_lt e.sub.le HL2.out) hn10]
              exact q)
             clear hlt
             go_wp2_with (first
              | (go_at_call 15; (with_reducible refine (members_set s _ hs10).mono ?_); rintro e w1 ⟨ga, gk, rfl, hsl, hb⟩; have M1 := Lib.hid hsl; have OW := Lib.hid (own_kept OW.out hb); have KW := Lib.hid (KW.out.trans (hb.mono KW.out.size)); clear hsl hb)
              | (go_at_call 15; (with_reducible refine (members_set best _ hbl).mono ?_); rintro e w2 ⟨ga2, gk2, rfl, hsl, hb⟩; have M2 := Lib.hid hsl; have M1 := Lib.hid (M1.out.mono hb (Nat.le_refl _)); have OW := Lib.hid (own_kept OW.out hb); have KW := Lib.hid (KW.out.trans (hb.mono KW.out.size)); clear hsl hb)
              | (go_at_call 22; (with_reducible refine (compare_ints _ _ _ _ _ _ _ M1.out M2.out (by have := mem_len s 10; omega) (by have := mem_len best 10; omega)).mono ?_); rintro e w3 ⟨rfl, hww⟩; subst hww))
             go_roundw
             case rel => exact ⟨nx, best, by omega, hbl, by first | rfl | go_num, rfl, M5, BT2, OW, KW⟩
             case measure => simp [intOf]; omega
          ·have k3i : ¬ 1 + ((pm n f (left - s) : Nat) : Int) = ((pm n f left : Nat) : Int) := by omega
           have dC : (1 + ((pm n f (left - s) : Nat) : Int) != ((pm n f left : Nat) : Int)) = true := by simpa using k3i
           have BT2 : Hid (BestTo n f left nx best) := Lib.hid (by rw [HNX.out]; exact BT.out.skip SB.out (fun hc => k3 hc.most))
           clear k1 k2 k3 k3i
           go_wp2
           go_quiet (fail)
           go_wp2
           go_roundw
           case rel => exact ⟨nx, best, by omega, hbl, by first | rfl | go_num, rfl, M5, BT2, Lib.hid (show (wr.drewN nq).ownsRow _ _ _ _ _ _ from OW.out), Lib.hid (below_drawN KW.out nq)⟩
           case measure => simp [intOf]; omega
         ·have dB : (smI f s n != 0) = true := by simpa using k2
          have BT2 : Hid (BestTo n f left nx best) := Lib.hid (by rw [HNX.out]; exact BT.out.skip SB.out (fun hc => k2 hc.sum))
          clear k1 k2
          go_wp2
          go_quiet (fail)
          go_wp2
          go_roundw
          case rel => exact ⟨nx, best, by omega, hbl, by first | rfl | go_num, rfl, M5, BT2, Lib.hid (show (wr.drewN nq).ownsRow _ _ _ _ _ _ from OW.out), Lib.hid (below_drawN KW.out nq)⟩
          case measure => simp [intOf]; omega
       ·obtain rfl : s = 0 := by omega
        have HBS := Lib.hid (BT.out.done HL2.out h3 HS0.out)
        have hbl2 := HBS.out.1.sub.le
        have hbp := HBS.out.1.pos
        have GP2 := Lib.hid (GP.out.push HBS.out)
        have HS2 := Lib.hid (HBS.out.rest HS0.out)
        have hl6 : bits .andNot .i64 (left : Int) (best : Int) = ((left - best : Nat) : Int) := bits_not left best HBS.out.1.sub (by omega)
        have HBK := Lib.hid OW.out.lt
        have HSZ := Lib.hid KW.out.size
        go_wp2_with (at_builtin; refine wpList_append_own _ rfl (.tmp 126) (.tmp 128) 22 rfl wo.heap.size 3 i0 (.int .i64 0) 1 8 Tryz.underlying22 hinf hz0 hz1 hz2 rfl (by decide) (.slice va L.length vk) L.length (intC L) rfl (OW.out.alloc _) ⟨wr.heap.size, 0, none⟩ 1 1 [.int .i64 (best : Nat)] rfl rfl (new1 wr (.int .i64 (best : Nat)) 3) (one1 _ rfl) (by unfold maxLen; omega) (by omega) (by simp; have := HSZ.out; omega) ?_; intro v' w5 hown hgrow _; have KW := Lib.hid ((KW.out.alloc KW.out.size _).grown hgrow (by have := HSZ.out; simp; omega) (fun kk e => (HBK.out kk e).1)); rw [intC_app] at hown; obtain ⟨va', vk', rfl⟩ := own_shape hown; have OW := Lib.hid hown; clear hown hgrow)
        have hlen2 : (L ++ [best]).length = L.length + 1 := by simp
        rw [← hlen2] at OW ⊢
        go_roundw
        case rel => exact ⟨L ++ [best], left - best, by omega, by rw [hlen2]; omega, by first | rfl | go_num, va', vk', rfl, GP2, HS2, OW, KW⟩
        case measure => simp [intOf]; omega
     ·obtain rfl : left = 0 := by omega
      go_wp2
      go_ret
      exact ⟨va, vk, L, rfl, GP.out, by omega, own_base OW.out G.out.below.size, G.out.below.trans (KW.out.mono G.out.below.size)⟩
theorem groups_any (v : Value) (n : Nat) (f : Nat → Int) (w : World) (hv : Ints w v n f) (hB : Balances n f) :
  Calls Tryz.prog 14 #[v] w fun e w' => ∃ va vk L, e = .returned (.slice va L.length vk) ∧ GrpP n f (2 ^ n - 1) L 0 ∧ L.length ≤ 1023 ∧ Ints w' (.slice va L.length vk) L.length (lsF L) ∧ Below w.heap.size w w' := by
 refine (groups_own v n f w hv hB).mono ?_
 rintro e w' ⟨va, vk, L, rfl, hG, hL, ho, hb⟩
 rw [intC_ics] at ho
 exact ⟨va, vk, L, rfl, hG, hL, ints_of_own ho, hb⟩
end Go.Proofs.YtcnaagiicpkcpaaGreat
