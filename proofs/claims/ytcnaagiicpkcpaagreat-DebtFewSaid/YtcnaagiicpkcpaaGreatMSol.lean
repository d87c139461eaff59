/- solve of package debt at any market. -/
import Derived.Test.YtcnaagiicpkcpaaGreatMPlainC
set_option linter.unusedVariables false
set_option linter.unusedSimpArgs false
namespace Go.Proofs.YtcnaagiicpkcpaaGreat
open Go.RowKit
attribute [local go_sem ↓] Go.wp_at_zero Go.wp_at_succ
theorem bools_s : Tryz.prog.underlying 38 = some (.slice (Tryz.prog.elem 38)) := by kernel_rfl
theorem bools_z (W : World) : (sizeOf (Tryz.prog.elem 38)).run Tryz.prog W = .ok 1 W := by kernel_rfl
theorem ixB (b n c i : Nat) (hi : i < n) (W : World) :
  (Instr.indexAt 38 (.slice (some ⟨b, 0, none⟩) n c) (.int .i64 (i : Int))).run Tryz.prog W = .ok (.pointer (some ⟨b, i, none⟩)) W := by
 have h := run_indexAt_opt 38 bools_s bools_z (some ⟨b, 0, none⟩) b 0 n c (fun _ => rfl) .i64 i (by omega) (by omega) W
 simpa using h
/-- n bools in a row -/
structure Bls (w : World) (b n : Nat) (F : Nat → Bool) : Prop where
 cell : ∀ i, i < n → w.cell? ⟨b, i, none⟩ = some (.bool (F i))
 lt : b < w.heap.size
/-- member r of a set, rising -/
def frN (F : Nat → Bool) (n r : Nat) : Nat := (frL F n).getD r 0
/-- what the others pay -/
def pay0 (F : Nat → Bool) (T : Nat → Rat) (i : Nat) : Rat := if F i then 0 else T i
/-- totals, or nothing -/
def totG (G : Nat → Bool) (n : Nat) (d : Nat → Nat → Int) (i : Nat) : Rat := if G i then 0 else ((sumF (d i) n : Int) : Rat)
def cashQ (cash : Nat → Int) (i : Nat) : Rat := (cash i : Rat)
def shQ (n : Nat) (d : Nat → Nat → Int) (j i : Nat) : Rat := shareQ (sumF (d j) n) (d j i)
theorem hasQ_eq (n : Nat) (cash : Nat → Int) (d : Nat → Nat → Int) (q : Nat → Rat) (i : Nat) : hasQ n cash d q i = hasP n (cashQ cash) (shQ n d) q i := rfl
theorem noLimb_i64 (z : Int) : NoLimb (.int .i64 z) := fun z' h => by injection h with h1 h2; cases h1
/-- a market that is in range -/
structure Rng (n : Nat) (cash : Nat → Int) (d : Nat → Nat → Int) : Prop where
 deb : ∀ i j, i < n → j < n → 0 ≤ d i j ∧ d i j ≤ 1000
 tot : ∀ i, i < n → 0 ≤ sumF (d i) n ∧ sumF (d i) n ≤ 100000
 csh : ∀ i, i < n → 0 ≤ cash i ∧ cash i ≤ 1000
/-- the matrix while solve sets it up: rows below r whole, row r up to column c -/
def stgQ (A : Nat → Nat → Rat) (r c : Nat) (one : Bool) (r' c' : Nat) : Rat := if r' < r then A r' c' else if r' = r then (if c' < c then A r' c' else if one = true ∧ c' = r then 1 else 0) else 0
theorem stgQ_one (A : Nat → Nat → Rat) (r r' c' : Nat) : updM (stgQ A r 0 false) r r 1 r' c' = stgQ A r 0 true r' c' := by
 unfold updM stgQ
 by_cases h : r' = r ∧ c' = r
 ·obtain ⟨rfl, rfl⟩ := h; simp
 ·rw [if_neg h]
  by_cases h1 : r' < r
  ·simp [h1]
  ·by_cases h2 : r' = r
   ·have h3 : c' ≠ r := fun e => h ⟨h2, e⟩
    simp [h2, h3]
   ·simp [h1, h2]
theorem stgQ_add (A : Nat → Nat → Rat) (r c : Nat) (x : Rat) (hx : stgQ A r c true r c + x = A r c) (r' c' : Nat) : updM (stgQ A r c true) r c (stgQ A r c true r c + x) r' c' = stgQ A r (c + 1) true r' c' := by
 rw [hx]
 unfold updM stgQ
 by_cases h : r' = r ∧ c' = c
 ·obtain ⟨rfl, rfl⟩ := h; simp
 ·rw [if_neg h]
  by_cases h1 : r' < r
  ·simp [h1]
  ·by_cases h2 : r' = r
   ·have h3 : c' ≠ c := fun e => h ⟨h2, e⟩
    simp only [h1, h2, if_true, if_false]
    by_cases h4 : c' < c
    ·rw [if_neg (Nat.lt_irrefl _), if_neg (Nat.lt_irrefl _), if_pos h4, if_pos (by omega)]
    ·have h5 : ¬ c' < c + 1 := by omega
     simp [h4, h5]
   ·simp [h1, h2]
theorem stgQ_next (A : Nat → Nat → Rat) (r k r' c' : Nat) (hc : c' < k) : stgQ A r k true r' c' = stgQ A (r + 1) 0 false r' c' := by
 unfold stgQ
 by_cases h1 : r' < r
 ·rw [if_pos h1, if_pos (by omega)]
 ·rw [if_neg h1]
  by_cases h2 : r' = r
  ·rw [if_pos h2, if_pos hc, if_pos (by omega)]
  ·rw [if_neg h2, if_neg (by omega)]
   by_cases h3 : r' = r + 1 <;> simp [h3]
theorem stgQ_start (A : Nat → Nat → Rat) (r' c' : Nat) : stgQ A 0 0 false r' c' = 0 := by unfold stgQ; simp
theorem stgQ_end (A : Nat → Nat → Rat) (k r' c' : Nat) (h : r' < k) : stgQ A k 0 false r' c' = A r' c' := by unfold stgQ; rw [if_pos h]
theorem stgQ_at (A : Nat → Nat → Rat) (r c : Nat) : stgQ A r c true r c = if c = r then 1 else 0 := by unfold stgQ; simp
theorem szQ_one : szQ 1 ≤ 2 := szQ_int 1 (by decide)
theorem aug_solA {n : Nat} {c T : Nat → Rat} {S : Nat → Nat → Rat} {F : Nat → Bool} : augQ (rankF F n) (solA n c T S F) (fun r => solA n c T S F r (rankF F n)) = solA n c T S F := by
 funext r j
 unfold augQ
 split
 ·rfl
 ·rename_i h; simp only [solA]; rw [if_neg (Nat.lt_irrefl _), if_neg h]
theorem far_new {va va' : Option Addr} {n c n' c' P H : Nat} (h : blk va ≠ some P) (hb : (Value.slice va' n' c').ownBlock = (Value.slice va n c).ownBlock ∨ (Value.slice va' n' c').ownBlock = some H) (hH : P < H) : blk va' ≠ some P := by
 simp only [ownBlock_blk] at hb
 rcases hb with hb | hb
 ·rw [hb]; exact h
 ·rw [hb]; intro e; have := Option.some.inj e; omega
set_option maxHeartbeats 8000000 in
set_option maxRecDepth 100000 in
theorem solve_any (b n : Nat) (cash : Nat → Int) (d : Nat → Nat → Int) (vc vd vt : Value) (F G : Nat → Bool) (fb fc nb nc : Nat) (x : Nat → Rat) (KM KX : Nat) (w : World) (hm : IsMkt w b n cash d vc vd vt) (h0 : 0 < n) (hn : n ≤ 8) (hR : Rng n cash d)
  (hF : Bls w fb n F) (hG : Bls w nb n G)
  (hpiv : ∀ c, c < rankF F n → 0 < triQ (solA n (cashQ cash) (totG G n d) (shQ n d) F) c c c) (hsz : ∀ c, c ≤ rankF F n → ∀ i j, i < rankF F n → j < rankF F n + 1 → szQ (triQ (solA n (cashQ cash) (totG G n d) (shQ n d) F) c i j) ≤ KM) (hK1 : 2560 ≤ KM) (hK2 : KM ≤ 100000000)
  (hx : ∀ i, i < rankF F n → resid (rankF F n) i (triQ (solA n (cashQ cash) (totG G n d) (shQ n d) F) (rankF F n)) x i = 0) (hxs : ∀ i, i < rankF F n → szQ (x i) ≤ KX) (hX : 4 ≤ KX ∧ KX ≤ 100000000) :
  Calls Tryz.prog 53 #[.pointer (some ⟨b, 0, none⟩), .slice (some ⟨fb, 0, none⟩) n fc, .slice (some ⟨nb, 0, none⟩) n nc] w fun e w' => ∃ P, e = .returned (.slice (some ⟨P, 0, none⟩) n n) ∧
   RatRow w' P n (fun i => if F i then x (rankF F i) else totG G n d i) KX ∧ w.heap.size ≤ P ∧ Below w.heap.size w w' := by
 have HM := Lib.hid hm
 have HR := Lib.hid hR
 have HF := Lib.hid hF
 have HG := Lib.hid hG
 have HPV := Lib.hid hpiv
 have HSZ := Lib.hid hsz
 have HX := Lib.hid hx
 have HXS := Lib.hid hxs
 have HTS := Lib.hid hm.htot
 obtain ⟨c0, -, -, c3, -, -, ⟨ta, tb, t_o, tc, rfl, hts⟩, hlt⟩ := hm
 have hTS := Lib.hid hts
 clear hR hF hG hpiv hsz hx hxs hts
 obtain ⟨i0, hi, hz0, hz1, hz2⟩ := info_parts infoI
 have hmk := mkRn n (by omega)
 have KW0 := Lib.hid ((Below.refl w.heap.size w).alloc (Nat.le_refl _) (.cells (madeCells zR (n * 4)) 95))
 have PR0 : Hid (RowP (w.alloc (.cells (madeCells zR (n * 4)) 95)) w.heap.size n (fun j => j < 0) (pay0 F (totG G n d)) 4) := Lib.hid ((RowP.made w n (pay0 F (totG G n d)) 4).congr (fun j _ h => by omega))
 have keepS : Hid (∀ w', Below w.heap.size w w' → w'.cell? ⟨b, 0, none⟩ = some (.int .i64 (n : Nat)) ∧ w'.cell? ⟨b, 3, none⟩ = some (.slice ta n tc)) :=
  Lib.hid (fun w' hb => ⟨bel1 hb c0 hlt, bel1 hb c3 hlt⟩)
 go_enter Tryz.func53, Tryz.ntmps53
 have d0 := (keepS.out _ KW0.out).1
 go_wp2
 clear d0 c0 c3
 obtain ⟨P, hP⟩ : ∃ P, P = w.heap.size := ⟨_, rfl⟩
 have HP := Lib.hid hP
 rw [← hP] at PR0
 rw [← hP]
 clear hP
 go_loopw [8, 9, 27] (fun v8 v9 v27 wr => ∃ i : Nat, i ≤ n ∧ v27 = .int .i64 (i : Nat) ∧ ∃ va vk, v8 = .slice va (rankF F i) vk ∧ Hid (wr.ownsRow w.heap.size 3 1 (.slice va (rankF F i) vk) (rankF F i) (ics (fun r => ((frN F n r : Nat) : Int)) (rankF F i))) ∧ Hid (KindB wr (.slice va (rankF F i) vk)) ∧ Hid (blk va ≠ some P) ∧
  Hid (RowP wr P n (fun j => j < i) (pay0 F (totG G n d)) 4) ∧ Hid (Below w.heap.size w wr)) (fun _ _ v27 _ => n - (intOf v27).toNat)
 case atStart => exact ⟨0, by omega, rfl, none, 0, rfl, Lib.hid (World.ownsRow_nil _ _ _ _), Lib.hid (kind_nil _ _ _), Lib.hid (by simp [blk]), PR0, KW0⟩
 case round =>
  clear KW0 PR0
  obtain ⟨i, hin, rfl, va, vk, rfl, OW, KB, HVP, PR, KW⟩ := hrel
  by_cases h : i < n
  ·have e1 : decide ((i : Int) < (n : Int)) = true := by simpa using h
   have e1n : decide (i < n) = true := by simpa using h
   have ib := fun W => ixB fb n fc i h W
   have ig := fun W => ixB nb n nc i h W
   have ip := fun W => rowIx P n n i h W
   have fF := bel1 KW.out (HF.out.cell i h) HF.out.lt
   have fG := bel1 KW.out (HG.out.cell i h) HG.out.lt
   rcases hFi : F i with _ | _
   ·rw [hFi] at fF
    have hrk : rankF F (i + 1) = rankF F i := by rw [rankF_succ, hFi]; simp
    have hFi := Lib.hid hFi
    have hrk := Lib.hid hrk
    rcases hGi : G i with _ | _
    ·rw [hGi] at fG
     have HGi := Lib.hid hGi
     have q3 := (keepS.out _ KW.out).2
     have ixt := fun W => ixI hTS.out i tc h W
     have qt := (hTS.out.mono KW.out (Nat.le_refl _)).cell i h
     simp only [ic] at qt
     have hr := HR.out.tot i h
     obtain ⟨Ti, hTi⟩ : ∃ Ti, Ti = sumF (d i) n := ⟨_, rfl⟩
     rw [← hTi] at qt hr
     have HTi := Lib.hid hTi
     clear hGi hTi
     go_wp2_with (first
      | (go_at_call 56; (with_reducible refine (rat_whole Ti (by omega) (by omega) _).mono ?_); rintro e w1 ⟨r1, rfl, hr1, hb1⟩; obtain ⟨s1, a1, n1, c1, b1, m1, d1, rfl, K1⟩ := hr1.shape; clear hr1; have KW1 := Lib.hid (KW.out.trans (hb1.mono KW.out.size)); have OW1 := Lib.hid (own_kept OW.out hb1); have KB1 := Lib.hid (KB.out.below hb1 (fun g hg => (OW.out.lt g hg).2)); have PR1 := Lib.hid (PR.out.below hb1 (Nat.le_refl _)); clear hb1; obtain ⟨_, _, _, _, _, _, _, ⟨p0, p1, p2, p3, pl⟩, _⟩ := PR1.out.cell i h; have pf := PR1.out.f))
     have HTR : Hid (((Ti : Int) : Rat) = ((sumF (d i) n : Int) : Rat)) := Lib.hid (by rw [HTi.out])
     rw [HTR.out] at K1
     go_roundw
     case rel =>
      have PR2 := Lib.hid ((PR1.out.set (i := i) (o := i * 4) h rfl (K1.out.le (by omega))).congr (P' := fun j => j < i + 1) (q' := pay0 F (totG G n d)) (fun j hj hp => by
       by_cases ej : j = i
       ·exact ⟨.inl ej, by rw [ej]; simp [updQ, pay0, totG, hFi.out, HGi.out]⟩
       ·exact ⟨.inr (by omega), by simp [updQ, ej]⟩))
      exact ⟨i + 1, by omega, by go_num, _, _, by rw [hrk.out], Lib.hid (by rw [hrk.out]; exact own_st4 OW1.out P (i * 4) (by rw [ownBlock_blk]; exact HVP.out) _ _ _ _), Lib.hid (by rw [hrk.out]; exact kind_st4 KB1.out P (i * 4) (by rw [ownBlock_blk]; exact HVP.out) _ _ _ _), HVP, PR2, Lib.hid (below_st4 KW1.out (Nat.le_of_eq HP.out.symm) _ _ _ _)⟩
     case measure => simp [intOf]; omega
    ·rw [hGi] at fG
     have HGi := Lib.hid hGi
     clear hGi
     go_wp2_with (first
      | (go_at_call 56; (with_reducible refine (rat_whole 0 (by omega) (by omega) _).mono ?_); rintro e w1 ⟨r1, rfl, hr1, hb1⟩; obtain ⟨s1, a1, n1, c1, b1, m1, d1, rfl, K1⟩ := hr1.shape; clear hr1; have KW1 := Lib.hid (KW.out.trans (hb1.mono KW.out.size)); have OW1 := Lib.hid (own_kept OW.out hb1); have KB1 := Lib.hid (KB.out.below hb1 (fun g hg => (OW.out.lt g hg).2)); have PR1 := Lib.hid (PR.out.below hb1 (Nat.le_refl _)); clear hb1; obtain ⟨_, _, _, _, _, _, _, ⟨p0, p1, p2, p3, pl⟩, _⟩ := PR1.out.cell i h; have pf := PR1.out.f))
     go_roundw
     case rel =>
      have PR2 := Lib.hid ((PR1.out.set (i := i) (o := i * 4) h rfl (K1.out.le (by omega))).congr (P' := fun j => j < i + 1) (q' := pay0 F (totG G n d)) (fun j hj hp => by
       by_cases ej : j = i
       ·exact ⟨.inl ej, by rw [ej]; simp [updQ, pay0, totG, hFi.out, HGi.out]⟩
       ·exact ⟨.inr (by omega), by simp [updQ, ej]⟩))
      exact ⟨i + 1, by omega, by go_num, _, _, by rw [hrk.out], Lib.hid (by rw [hrk.out]; exact own_st4 OW1.out P (i * 4) (by rw [ownBlock_blk]; exact HVP.out) _ _ _ _), Lib.hid (by rw [hrk.out]; exact kind_st4 KB1.out P (i * 4) (by rw [ownBlock_blk]; exact HVP.out) _ _ _ _), HVP, PR2, Lib.hid (below_st4 KW1.out (Nat.le_of_eq HP.out.symm) _ _ _ _)⟩
     case measure => simp [intOf]; omega
   ·rw [hFi] at fF
    have hrk : rankF F (i + 1) = rankF F i + 1 := by rw [rankF_succ, hFi]; simp
    have hle : rankF F i ≤ i := rankF_le F i
    have HFR : Hid (((frN F n (rankF F i) : Nat) : Int) = (i : Int)) := Lib.hid (by unfold frN; rw [(frL_rank F n i h hFi).2])
    have hFi := Lib.hid hFi
    have hrk := Lib.hid hrk
    obtain ⟨rk, hrk2⟩ : ∃ rk, rk = rankF F i := ⟨_, rfl⟩
    rw [← hrk2] at OW KB HFR hrk hle
    rw [← hrk2]
    clear hrk2
    have HA3 : Hid (w.heap.size ≤ (wr.alloc (.cells #[.int .i64 (i : Int)] 3)).heap.size) := Lib.hid (by have := KW.out.size; simp; omega)
    have KBA := Lib.hid (KB.out.below (boxes1 wr (.cells #[.int .i64 (i : Int)] 3)) (fun g hg => (OW.out.lt g hg).2))
    go_wp2_with (first
     | (at_builtin; refine wpList_append_kind rfl (.tmp 46) (.tmp 48) 22 rfl w.heap.size 3 i0 (.int .i64 0) 1 8 Tryz.underlying22 hi hz0 hz1 hz2 rfl (by decide) (.slice va rk vk) rk (ics (fun r => ((frN F n r : Nat) : Int)) rk) rfl (OW.out.alloc _) KBA.out (fun u hu => by simp [Value.cells] at hu; rw [hu]; exact noLimb_i64 _) ⟨wr.heap.size, 0, none⟩ 1 1 [.int .i64 (i : Int)] rfl rfl (new1 _ _ _) (one1 _ rfl) (fun u hu => by simp at hu; rw [hu]; exact noLimb_i64 _) (by unfold maxLen; omega) (by omega) HA3.out (by omega) ?_; intro v' w3 hown hgrow hblk hkind; rw [← HFR.out, ics_succ] at hown; obtain ⟨va', vk', rfl⟩ := own_shape hown; have HV3 : Hid (blk va' ≠ some P) := Lib.hid (far_new HVP.out hblk (by have := PR.out.lt; simp; omega)); have PR := Lib.hid ((PR.out.alloc (.cells #[.int .i64 (i : Int)] 3)).keep' KBA.out hgrow (by rw [ownBlock_blk]; exact fun e => HVP.out e.symm)); have KW := Lib.hid ((KW.out.alloc KW.out.size (.cells #[.int .i64 (i : Int)] 3)).grown hgrow HA3.out (fun kk e => ((OW.out.alloc (.cells #[.int .i64 (i : Int)] 3)).lt kk e).1)); have OW := Lib.hid hown; have KB := Lib.hid hkind; clear hown hgrow hblk hkind)
     | (go_at_call 56; (with_reducible refine (rat_whole 0 (by omega) (by omega) _).mono ?_); rintro e w1 ⟨r1, rfl, hr1, hb1⟩; obtain ⟨s1, a1, n1, c1, b1, m1, d1, rfl, K1⟩ := hr1.shape; clear hr1; have KW1 := Lib.hid (KW.out.trans (hb1.mono KW.out.size)); have OW1 := Lib.hid (own_kept OW.out hb1); have KB1 := Lib.hid (KB.out.below hb1 (fun g hg => (OW.out.lt g hg).2)); have PR1 := Lib.hid (PR.out.below hb1 (Nat.le_refl _)); clear hb1; obtain ⟨_, _, _, _, _, _, _, ⟨p0, p1, p2, p3, pl⟩, _⟩ := PR1.out.cell i h; have pf := PR1.out.f))
    go_roundw
    case rel =>
     have PR2 := Lib.hid ((PR1.out.set (i := i) (o := i * 4) h rfl (K1.out.le (by omega))).congr (P' := fun j => j < i + 1) (q' := pay0 F (totG G n d)) (fun j hj hp => by
      by_cases ej : j = i
      ·exact ⟨.inl ej, by rw [ej]; simp [updQ, pay0, hFi.out]⟩
      ·exact ⟨.inr (by omega), by simp [updQ, ej]⟩))
     exact ⟨i + 1, by omega, by go_num, va', vk', by rw [hrk.out], Lib.hid (by rw [hrk.out]; exact own_st4 OW1.out P (i * 4) (by rw [ownBlock_blk]; exact HV3.out) _ _ _ _), Lib.hid (by rw [hrk.out]; exact kind_st4 KB1.out P (i * 4) (by rw [ownBlock_blk]; exact HV3.out) _ _ _ _), HV3, PR2, Lib.hid (below_st4 KW1.out (Nat.le_of_eq HP.out.symm) _ _ _ _)⟩
    case measure => simp [intOf]; omega
  ·obtain rfl : n = i := by omega
   have e1 : decide ((n : Int) < (n : Int)) = false := by simp
   have PRA : Hid (RatRow wr P n (pay0 F (totG G n d)) 4) := Lib.hid (PR.out.congr (fun j hj _ => ⟨hj, rfl⟩))
   obtain ⟨k, hk⟩ : ∃ k, k = rankF F n := ⟨_, rfl⟩
   rw [← hk] at OW KB HPV HSZ HX HXS
   rw [← hk]
   have hkn : k ≤ n := by rw [hk]; exact rankF_le F n
   have HK := Lib.hid hk
   clear hk PR
   rcases Nat.eq_zero_or_pos k with hk0 | hk0
   ·subst hk0
    go_wp2_with (first
     | (go_at_call 68; (with_reducible refine (zero_none _).mono ?_); rintro e w3 ⟨g3, rfl, hb3⟩; have PRA := Lib.hid (PRA.out.below hb3 (Nat.le_refl _)); have KW := Lib.hid (KW.out.trans (hb3.mono KW.out.size)); clear hb3))
    refine wp_loop_rounds 1 ?_
    rw [rounds_succ]
    go_wp2_with (first
     | (go_at_call 72; (with_reducible refine (lsolve_none _ _ _ _).mono ?_); rintro e w4 ⟨g4, rfl, hb4⟩; have PRA := Lib.hid (PRA.out.below hb4 (Nat.le_refl _)); have KW := Lib.hid (KW.out.trans (hb4.mono KW.out.size)); clear hb4))
    go_rounds 1
    go_ret
    refine ⟨P, rfl, (PRA.out.le hX.1).congr (fun j hj _ => ⟨trivial, ?_⟩), Nat.le_of_eq HP.out.symm, KW.out⟩
    have hno : F j = false := by
     rcases hFj : F j with _ | _
     ·rfl
     ·have := (frL_rank F n j hj hFj).1; have := HK.out; omega
    simp [pay0, hno]
   ·obtain ⟨fa, fbk, fo, fcp, hfe, hfs⟩ := ints_of_own OW.out
    have hfa : fa = va := by injection hfe with e1 e2 e3; exact e1.symm
    subst hfa
    have hfa2 := hfs.at_ hk0
    have HFP : Hid (fbk ≠ P) := Lib.hid (fun e => HVP.out (by rw [hfa2, e]; rfl))
    have HFS := Lib.hid hfs
    have HFL := Lib.hid (hfs.lt hk0)
    have hPn := PRA.out.lt
    clear hfe hfs hfa2 OW KB HVP
    obtain ⟨wL, rfl⟩ : ∃ wL : World, wL = wr := ⟨_, rfl⟩
    obtain ⟨A, hA⟩ : ∃ A, A = solA n (cashQ cash) (totG G n d) (shQ n d) F := ⟨_, rfl⟩
    have HA0 : Hid (∀ r c, c < k → A r c = (if c = r then 1 else 0) - shQ n d (frN F n c) (frN F n r)) := Lib.hid (fun r c hc => by rw [hA]; unfold solA; rw [if_pos (by rw [← HK.out]; exact hc)]; rfl)
    have HA1 : Hid (∀ r, A r k = hasQ n cash d (pay0 F (totG G n d)) (frN F n r)) := Lib.hid (fun r => by rw [hA, HK.out]; unfold solA; rw [if_neg (Nat.lt_irrefl _)]; rfl)
    have HA2 : Hid (augQ k A (fun r => A r k) = A) := Lib.hid (by rw [hA, HK.out]; exact aug_solA)
    rw [← hA] at HPV HSZ HX
    clear hA
    have HSA : Hid (∀ i j, i < k → j ≤ k → szQ (A i j) ≤ KM) := Lib.hid (fun i j hi hj => HSZ.out 0 (Nat.zero_le _) i j hi (by omega))
    have HFRN : Hid (∀ r, r < k → frN F n r < n ∧ F (frN F n r) = true ∧ rankF F (frN F n r) = r) := Lib.hid (fun r hr => by
     have h1 := frL_spec F n r (by rw [← HK.out]; exact hr)
     exact ⟨h1.2.1, h1.1, h1.2.2⟩)
    have HPA := PRA
    have HPL := Lib.hid hPn
    have HMw := Lib.hid (HM.out.mono KW.out (Nat.le_refl _))
    clear PRA
    go_wp2_with (first
     | (go_at_call 68; (with_reducible refine (zero_any k hk0 (by omega) _).mono ?_); rintro e w3 ⟨g, rb, rfl, RM3, hb3⟩; have RM : Hid (RMat w3 wL.heap.size g k k rb (fun _ => k) (stgQ A 0 0 false) KM) := Lib.hid ((RM3.le (by omega)).congr (fun i j _ _ => (stgQ_start A i j).symm)); have VL := Lib.hid hb3; clear RM3 hb3))
    obtain ⟨j0, hj, hy0, hy1, hy2⟩ := info_parts infoR
    have BR0 : Hid (BRow w3 wL.heap.size (.slice none 0 0) 0 (fun r => A r k) KM []) := Lib.hid (BRow.nil _ _ _ _)
    have HRB := Lib.hid (fun i hi => (RM.out.row i hi).lt)
    have HGL := Lib.hid RM.out.gl
    clear hi hz0 hz1 hz2
    go_loopw [11, 12, 13, 14, 15, 71] (fun v11 v12 v13 v14 v15 v71 wr => ∃ r : Nat, r ≤ k ∧ v71 = .int .i64 (r : Nat) ∧ ∃ ba bk xs, v11 = .slice ba r bk ∧ Hid (RMat wr wL.heap.size g k k rb (fun _ => k) (stgQ A r 0 false) KM) ∧ Hid (BRow wr wL.heap.size (.slice ba r bk) r (fun r => A r k) KM xs) ∧
     Hid (∀ h, blk ba = some h → w3.heap.size ≤ h) ∧ Hid (w3.heap.size ≤ wr.heap.size) ∧ Hid (Below wL.heap.size wL wr)) (fun _ _ _ _ _ v71 _ => k - (intOf v71).toNat)
    case atStart => exact ⟨0, by omega, rfl, none, 0, [], rfl, RM, BR0, Lib.hid (fun h e => by cases e), Lib.hid (Nat.le_refl _), VL⟩
    case round =>
     clear RM BR0 VL
     obtain ⟨r, hrk, rfl, ba, bk, xs, rfl, RM, BR, HBA, HW3, VL⟩ := hrel
     by_cases h : r < k
     ·have e1 : decide ((r : Int) < (k : Int)) = true := by simpa using h
      have e1n : decide (r < k) = true := by simpa using h
      have ixf := fun W => ixI HFS.out r vk h W
      have ff := bel1 VL.out (HFS.out.cell r h) HFL.out
      simp only [ic] at ff
      obtain ⟨fi, hfi⟩ : ∃ fi, fi = frN F n r := ⟨_, rfl⟩
      rw [← hfi] at ff
      have HFI := Lib.hid hfi
      have hfin : fi < n := by rw [hfi]; exact (HFRN.out r h).1
      clear hfi
      have HRNB : Hid (∀ i, i < k → (Value.slice ba r bk).ownBlock ≠ some (rb i)) := Lib.hid (fun i hi e => by
       rw [ownBlock_blk] at e; have h1 := HBA.out _ e; have h2 := HRB.out i hi; omega)
      go_wp2_with (first
       | (go_at_call 56; (with_reducible refine (rat_whole 1 (by omega) (by omega) _).mono ?_); rintro e w4 ⟨r4, rfl, hr4, hb4⟩; obtain ⟨s4, a4, n4, c4, b4, m4, d4, rfl, K4⟩ := hr4.shape; clear hr4; have RM := Lib.hid (RM.out.below hb4 (Nat.le_refl _)); have BR := Lib.hid (BR.out.below hb4); have HW3 := Lib.hid (Nat.le_trans HW3.out hb4.size); have VL := Lib.hid (VL.out.trans (hb4.mono VL.out.size)); clear hb4)
       | (go_at_call 69; (with_reducible refine (madd_any g k k r (rb r) k k r (stgQ A r 0 false r) (fun _ => True) KM _ ((1 : Int) : Rat) _ (RM.out.hdr r h) h h (RM.out.row r h) trivial (K4.out.le (by omega)) (by omega) (by omega)).mono ?_); rintro e w' ⟨w5, s5, a5, n5, c5, b5, m5, d5, rfl, rfl, hb5, K5⟩; have HB5 := Lib.hid hb5; have K5 := Lib.hid K5; clear hb5))
      have HVAL : Hid (stgQ A r 0 false r r + ((1 : Int) : Rat) = 1) := Lib.hid (by unfold stgQ; simp; exact Rat.zero_add _)
      obtain ⟨_, _, _, _, _, _, _, RR, _⟩ := RM.out.at_ h h
      have RM := Lib.hid (((RM.out.below HB5.out (Nat.le_refl _)).set h h (K5.out.tight (by rw [HVAL.out]; exact Nat.le_trans szQ_one (by omega)))).congr (Q' := stgQ A r 0 true) (fun i j _ _ => by rw [HVAL.out]; exact stgQ_one A r i j))
      have BR := Lib.hid ((BR.out.below HB5.out).st4 (.bool s5) (.slice a5 n5 c5) (.bool false) (.slice b5 m5 d5) (RR.below HB5.out RR.lt) (HRNB.out r h))
      have HW3 : Hid (w3.heap.size ≤ (st4 w5 (rb r) (r * 4) (.bool s5) (.slice a5 n5 c5) (.bool false) (.slice b5 m5 d5)).heap.size) := Lib.hid (by rw [size_st4]; exact Nat.le_trans HW3.out HB5.out.size)
      have VL := Lib.hid (below_st4 (o := r * 4) (VL.out.trans (HB5.out.mono VL.out.size)) (RM.out.rB r h) (.bool s5) (.slice a5 n5 c5) (.bool false) (.slice b5 m5 d5))
      clear K5 HB5 HVAL RR ff K4
      go_loopw [14, 15, 83] (fun v14 v15 v83 wi => ∃ c : Nat, c ≤ k ∧ v83 = .int .i64 (c : Nat) ∧ Hid (RMat wi wL.heap.size g k k rb (fun _ => k) (stgQ A r c true) KM) ∧ Hid (BRow wi wL.heap.size (.slice ba r bk) r (fun r => A r k) KM xs) ∧ Hid (w3.heap.size ≤ wi.heap.size) ∧ Hid (Below wL.heap.size wL wi)) (fun _ _ v83 _ => k - (intOf v83).toNat)
      case atStart => exact ⟨0, by omega, rfl, RM, BR, HW3, VL⟩
      case round =>
       clear RM BR HW3 VL
       obtain ⟨c, hck, rfl, RM, BR, HW3, VL⟩ := hrel
       obtain ⟨wo, rfl⟩ : ∃ wo : World, wo = wr := ⟨_, rfl⟩
       by_cases hc : c < k
       ·have e2 : decide ((c : Int) < (k : Int)) = true := by simpa using hc
        have e2n : decide (c < k) = true := by simpa using hc
        have ixc := fun W => ixI HFS.out c vk hc W
        have fc' := bel1 VL.out (HFS.out.cell c hc) HFL.out
        simp only [ic] at fc'
        obtain ⟨fj, hfj⟩ : ∃ fj, fj = frN F n c := ⟨_, rfl⟩
        rw [← hfj] at fc'
        have HFJ := Lib.hid hfj
        have hfjn : fj < n := by rw [hfj]; exact (HFRN.out c hc).1
        clear hfj
        have HMo := Lib.hid (HMw.out.mono VL.out (Nat.le_refl _))
        have HRD := Lib.hid (HR.out.deb fj fi hfjn hfin)
        have HRT := Lib.hid (HR.out.tot fj hfjn)
        go_wp2_with (first
         | (go_at_call 70; (with_reducible refine (share_any b n fj fi cash d _ _ _ _ HMo.out hfjn hfin HRD.out.1 HRD.out.2 HRT.out.1 HRT.out.2).mono ?_); rintro e w4 ⟨r4, rfl, hr4, hb4⟩; obtain ⟨s4, a4, n4, c4, b4, m4, d4, rfl, K4⟩ := hr4.shape; clear hr4; have RM := Lib.hid (RM.out.below hb4 (Nat.le_refl _)); have BR := Lib.hid (BR.out.below hb4); have HW3 := Lib.hid (Nat.le_trans HW3.out hb4.size); have VL := Lib.hid (VL.out.trans (hb4.mono VL.out.size)); clear hb4)
         | (go_at_call 71; (with_reducible refine (rat_neg _ (shareQ (sumF (d fj) n) (d fj fi)) 4 _ K4.out).mono ?_); rintro e w6 ⟨r6, rfl, hr6, hb6⟩; obtain ⟨s6, a6, n6, c6, b6, m6, d6, rfl, K6⟩ := hr6.shape; clear hr6; have RM := Lib.hid (RM.out.below hb6 (Nat.le_refl _)); have BR := Lib.hid (BR.out.below hb6); have HW3 := Lib.hid (Nat.le_trans HW3.out hb6.size); have VL := Lib.hid (VL.out.trans (hb6.mono VL.out.size)); clear hb6)
         | (go_at_call 69; (with_reducible refine (madd_any g k k r (rb r) k k c (stgQ A r c true r) (fun _ => True) KM _ (-(shareQ (sumF (d fj) n) (d fj fi))) _ (RM.out.hdr r h) h hc (RM.out.row r h) trivial (K6.out.le (by omega)) (by omega) (by omega)).mono ?_); rintro e w' ⟨w5, s5, a5, n5, c5, b5, m5, d5, rfl, rfl, hb5, K5⟩; have HB5 := Lib.hid hb5; have K5 := Lib.hid K5; clear hb5))
        have HVAL : Hid (stgQ A r c true r c + -(shareQ (sumF (d fj) n) (d fj fi)) = A r c) := Lib.hid (by
         rw [stgQ_at, HA0.out r c hc, ← HFI.out, ← HFJ.out, Rat.sub_eq_add_neg]; rfl)
        obtain ⟨_, _, _, _, _, _, _, RR, _⟩ := RM.out.at_ h hc
        have RM5 := Lib.hid (((RM.out.below HB5.out (Nat.le_refl _)).set h hc (K5.out.tight (by rw [HVAL.out]; exact HSA.out r c h (by omega)))).congr (Q' := stgQ A r (c + 1) true) (fun i j _ _ => stgQ_add A r c _ HVAL.out i j))
        have BR5 := Lib.hid ((BR.out.below HB5.out).st4 (.bool s5) (.slice a5 n5 c5) (.bool false) (.slice b5 m5 d5) (RR.below HB5.out RR.lt) (HRNB.out r h))
        have HW5 : Hid (w3.heap.size ≤ (st4 w5 (rb r) (c * 4) (.bool s5) (.slice a5 n5 c5) (.bool false) (.slice b5 m5 d5)).heap.size) := Lib.hid (by rw [size_st4]; exact Nat.le_trans HW3.out HB5.out.size)
        have VL5 := Lib.hid (below_st4 (o := c * 4) (VL.out.trans (HB5.out.mono VL.out.size)) (RM.out.rB r h) (.bool s5) (.slice a5 n5 c5) (.bool false) (.slice b5 m5 d5))
        clear K5 HB5 HVAL RR K4 K6 RM BR VL HW3
        go_roundw
        case rel => exact ⟨c + 1, by omega, by go_num, RM5, BR5, HW5, VL5⟩
        case measure => simp [intOf]; omega
       ·obtain rfl : k = c := by omega
        have RM := Lib.hid (RM.out.congr (fun i j _ hj => stgQ_next A r k i j hj))
        have HMo := Lib.hid (HMw.out.mono VL.out (Nat.le_refl _))
        have HPO := Lib.hid ((HPA.out.below VL.out (Nat.le_refl _)).rats)
        have HCS := Lib.hid (HR.out.csh fi hfin)
        have HDS : Hid (∀ j, j < n → 0 ≤ d j fi ∧ d j fi ≤ 1000 ∧ 0 ≤ sumF (d j) n ∧ sumF (d j) n ≤ 100000) := Lib.hid (fun j hj => ⟨(HR.out.deb j fi hj hfin).1, (HR.out.deb j fi hj hfin).2, (HR.out.tot j hj).1, (HR.out.tot j hj).2⟩)
        have HCS2 : Hid (0 ≤ cash fi ∧ cash fi ≤ 100000) := Lib.hid ⟨HCS.out.1, by have := HCS.out.2; omega⟩
        go_wp2_with (first
         | (go_at_call 54; (with_reducible refine (has_any b n fi cash d _ _ _ _ HMo.out hfin hn HDS.out HCS2.out P 0 n (pay0 F (totG G n d)) 4 HPO.out (by omega) (by omega)).mono ?_); rintro e w6 ⟨r6, rfl, hr6, hb6⟩; obtain ⟨s6, a6, n6, c6, b6, m6, d6, rfl, K6⟩ := hr6.shape; clear hr6; have RM := Lib.hid (RM.out.below hb6 (Nat.le_refl _)); have BR := Lib.hid (BR.out.below hb6); have HW3 := Lib.hid (Nat.le_trans HW3.out hb6.size); have VL := Lib.hid (VL.out.trans (hb6.mono VL.out.size)); clear hb6; have HA3 : Hid (wL.heap.size ≤ (w6.alloc (.cells #[.bool s6, .slice a6 n6 c6, .bool false, .slice b6 m6 d6] 95)).heap.size) := Lib.hid (by have := VL.out.size; simp; omega); have BRA := Lib.hid (BR.out.alloc (.cells #[.bool s6, .slice a6 n6 c6, .bool false, .slice b6 m6 d6] 95)); have NEW := Lib.hid (own4_rd (own4_new w6 w6.heap.size rfl (.bool s6) (.slice a6 n6 c6) (.bool false) (.slice b6 m6 d6) 95)))
         | (at_builtin; go_loud (refine wpList_append_kind rfl (.tmp 98) (.tmp 103) 68 rfl wL.heap.size 95 j0 (.agg #[.bool false, .slice none 0 0, .bool false, .slice none 0 0]) 4 64 Tryz.underlying68 hj hy0 hy1 hy2 rfl (by decide) (.slice ba r bk) r xs rfl BRA.out.own BRA.out.kind (noLimb_4 _ _ _ _ _ _ _ _) ⟨w6.heap.size, 0, none⟩ 1 1 [.bool s6, .slice a6 n6 c6, .bool false, .slice b6 m6 d6] rfl rfl (cells4' NEW.out) (one4' _ _ _ _ rfl rfl rfl rfl) (noLimb_4 _ _ _ _ _ _ _ _) (by unfold maxLen; omega) (by omega) HA3.out (by omega) ?_; intro v' w7 hown hgrow hblk hkind; obtain ⟨ba', bk', rfl⟩ := own_shape hown; have HOWN := Lib.hid hown; have HGROW := Lib.hid hgrow; have HBLK := Lib.hid hblk; have HKIND := Lib.hid hkind; clear hown hgrow hblk hkind)))
        have HVAL : Hid (hasQ n cash d (pay0 F (totG G n d)) fi = A r k) := Lib.hid (by rw [HA1.out r, ← HFI.out])
        rw [HVAL.out] at K6
        have BR7 := Lib.hid (BRA.out.push ((K6.out.tight (HSA.out r k h (Nat.le_refl _))).mono (boxes1 w6 _) (Nat.le_refl _)) rfl HGROW.out HOWN.out HKIND.out)
        have HGNB : Hid (some g ≠ (Value.slice ba r bk).ownBlock) := Lib.hid (fun e => by rw [ownBlock_blk] at e; have h1 := HBA.out _ e.symm; have h2 := HGL.out; omega)
        have RM7 := Lib.hid ((RM.out.alloc (.cells #[.bool s6, .slice a6 n6 c6, .bool false, .slice b6 m6 d6] 95)).keep' BRA.out.kind HGROW.out HGNB.out (fun i hi => fun e => HRNB.out i hi e.symm))
        have HBA7 : Hid (∀ h, blk ba' = some h → w3.heap.size ≤ h) := Lib.hid (fun h e => by
         have h1 := HBLK.out
         simp only [ownBlock_blk] at h1
         rcases h1 with h1 | h1
         ·rw [h1] at e; exact HBA.out h e
         ·rw [h1] at e; have := Option.some.inj e; have h2 := HW3.out; simp at this; omega)
        have HW7 : Hid (w3.heap.size ≤ w7.heap.size) := Lib.hid (by have h1 := HGROW.out.size; have h2 := HW3.out; simp at h1; omega)
        have VL7 := Lib.hid ((VL.out.alloc VL.out.size (.cells #[.bool s6, .slice a6 n6 c6, .bool false, .slice b6 m6 d6] 95)).grown HGROW.out HA3.out (fun kk e => (BRA.out.own.lt kk e).1))
        clear RM BR BRA HOWN HGROW HBLK HKIND NEW K6 VL HW3 HVAL
        go_roundw
        case rel => exact ⟨r + 1, by omega, by go_num, ba', bk', _, rfl, RM7, BR7, HBA7, HW7, VL7⟩
        case measure => simp [intOf]; omega
     ·obtain rfl : k = r := by omega
      obtain ⟨bb, cb, hbe, hbb, RB⟩ := BR.out.row hk0
      injection hbe with e1 e2 e3
      subst e1; subst e3
      have RB := Lib.hid RB
      have HBG : Hid (bb ≠ g) := Lib.hid (by have h1 := HBA.out bb rfl; have h2 := HGL.out; omega)
      have RM := Lib.hid (RM.out.congr (fun i j hi _ => stgQ_end A k i j hi))
      have HVS := Lib.hid VL.out.size
      have HQ1 : Hid (∀ c, c < k → 0 < triQ (augQ k A (fun r => A r k)) c c c) := Lib.hid (by rw [HA2.out]; exact HPV.out)
      have HQ2 : Hid (∀ c, c ≤ k → ∀ i j, i < k → j < k + 1 → szQ (triQ (augQ k A (fun r => A r k)) c i j) ≤ KM) := Lib.hid (by rw [HA2.out]; exact HSZ.out)
      have HQ3 : Hid (∀ i, i < k → resid k i (triQ (augQ k A (fun r => A r k)) k) x i = 0) := Lib.hid (by rw [HA2.out]; exact HX.out)
      clear hbb
      go_wp2_with (first
       | (go_at_call 72; go_loud ((with_reducible refine (lsolve_any wL.heap.size g k k bb bk rb A (fun r => A r k) x KM KX _ hk0 (by omega) HVS.out RM.out RB.out HBG.out HQ1.out HQ2.out (by omega) hK2 HQ3.out HXS.out hX.2).mono ?_); rintro e w4 ⟨X, rfl, RX, hXw, hb4⟩; have RX := Lib.hid RX; have VL := Lib.hid (VL.out.trans hb4); have HXL : Hid (P < X) := Lib.hid (by have h1 := HPL.out; have h2 := HVS.out; omega); clear hXw hb4)))
      clear RM RB BR
      have PA : Hid (RatRow w4 P n (fun i => if F i then (if rankF F i < 0 then x (rankF F i) else 0) else totG G n d i) KX) := Lib.hid (((HPA.out.below VL.out (Nat.le_refl _)).le hX.1).congr (fun j hj _ => ⟨trivial, by simp [pay0]⟩))
      have KW4 := Lib.hid (KW.out.trans (VL.out.mono KW.out.size))
      have FR4 : Hid (IsSl w4 fa fbk fo fcp k (ic (fun r => ((frN F n r : Nat) : Int)))) := Lib.hid (HFS.out.mono VL.out (Nat.le_refl _))
      go_loopw [16, 17, 110] (fun v16 v17 v110 wr => ∃ r : Nat, r ≤ k ∧ v110 = .int .i64 (r : Nat) ∧ Hid (RatRow wr P n (fun i => if F i then (if rankF F i < r then x (rankF F i) else 0) else totG G n d i) KX) ∧ Hid (RatRow wr X k x KX) ∧ Hid (IsSl wr fa fbk fo fcp k (ic (fun r => ((frN F n r : Nat) : Int)))) ∧ Hid (Below w.heap.size w wr)) (fun _ _ v110 _ => k - (intOf v110).toNat)
      case atStart => exact ⟨0, by omega, rfl, PA, RX, FR4, KW4⟩
      case round =>
       clear PA RX FR4 KW4 VL
       obtain ⟨r, hrk, rfl, PA, RX, FR4, KW4⟩ := hrel
       by_cases h : r < k
       ·have e1 : decide ((r : Int) < (k : Int)) = true := by simpa using h
        have e1n : decide (r < k) = true := by simpa using h
        have ixf := fun W => ixI FR4.out r vk h W
        have ixx := fun W => rowIx X k k r h W
        have ff := FR4.out.cell r h
        simp only [ic] at ff
        obtain ⟨fi, hfi⟩ : ∃ fi, fi = frN F n r := ⟨_, rfl⟩
        rw [← hfi] at ff
        have HFI := Lib.hid hfi
        have hfin : fi < n := by rw [hfi]; exact (HFRN.out r h).1
        clear hfi
        have ixp := fun W => rowIx P n n fi hfin W
        obtain ⟨sx, ax, nx, cx, ax2, nx2, cx2, PX, KX'⟩ := RX.out.cell r h
        have KX' := Lib.hid (KX' trivial)
        obtain ⟨sp, ap, np, cp, ap2, np2, cp2, PP, _⟩ := PA.out.cell fi hfin
        have PX := Lib.hid PX
        have PP := Lib.hid PP
        obtain ⟨x0, x1, x2, x3, xl⟩ := PX.out
        have HN := Lib.hid (boxes1 wr (.cells #[.bool sx, .slice ax nx cx, .bool false, .slice ax2 nx2 cx2] 95))
        have PA1 := Lib.hid (PA.out.below HN.out (Nat.le_refl _))
        obtain ⟨y0, y1, y2, y3, yl⟩ := PP.out.below HN.out PP.out.lt
        have yf := PA1.out.f
        have ffA := bel1 HN.out ff (FR4.out.lt hk0)
        have RX1 := Lib.hid ((RX.out.below HN.out (Nat.le_refl _)).drew)
        have PA1 := Lib.hid PA1.out.drew
        have FR1 := Lib.hid ((FR4.out.mono HN.out (Nat.le_refl _)).drew)
        have KX1 := Lib.hid ((KX'.out.mono HN.out (Nat.le_refl _)).drew)
        have PP1 := Lib.hid ((PP.out.below HN.out PP.out.lt).drew)
        have KW1 := Lib.hid ((KW4.out.trans (HN.out.mono KW4.out.size)).drew)
        clear ff
        go_wp2
        go_region
        all_goals
         have RX2 := Lib.hid (RX1.out.far4 (.bool sx) (.slice ax nx cx) (.bool false) (.slice ax2 nx2 cx2) PP1.out (by have := HXL.out; omega))
         have PA2 := Lib.hid ((PA1.out.set (i := fi) (o := fi * 4) hfin rfl KX1.out).congr (P' := fun _ => True) (q' := fun i => if F i then (if rankF F i < r + 1 then x (rankF F i) else 0) else totG G n d i) (fun j hj _ => by
          have h1 := (HFRN.out r h).2
          rw [← HFI.out] at h1
          by_cases ej : j = fi
          ·refine ⟨.inl ej, ?_⟩
           rw [ej]; simp [updQ, h1.1, h1.2]
          ·refine ⟨.inr trivial, ?_⟩
           simp only [updQ, if_neg ej]
           by_cases hFj : F j = true
           ·simp only [hFj, if_true]
            have h2 : rankF F j ≠ r := fun e => ej (by
             have h3 := (frL_rank F n j hj hFj).2
             rw [HFI.out]; unfold frN; rw [← e, h3])
            by_cases h4 : rankF F j < r
            ·rw [if_pos h4, if_pos (by omega)]
            ·rw [if_neg h4, if_neg (by omega)]
           ·simp [hFj]))
         have FR2 : Hid (IsSl (st4 (wr.alloc (.cells #[.bool sx, .slice ax nx cx, .bool false, .slice ax2 nx2 cx2] 95)).drew P (fi * 4) (.bool sx) (.slice ax nx cx) (.bool false) (.slice ax2 nx2 cx2)) fa fbk fo fcp k (ic (fun r => ((frN F n r : Nat) : Int)))) := Lib.hid
          ⟨FR1.out.cap, FR1.out.at_, fun q => by rw [size_st4]; exact FR1.out.lt q, fun i hi => (far4 _ _ _ _ (fun e => HFP.out e.symm)).trans (FR1.out.cell i hi), FR1.out.nc⟩
         have KW2 := Lib.hid (below_st4 (o := fi * 4) KW1.out (Nat.le_of_eq HP.out.symm) (.bool sx) (.slice ax nx cx) (.bool false) (.slice ax2 nx2 cx2))
         clear RX1 PA1 FR1 KX1 PP1 KW1 PA RX FR4 KW4 ffA y0 y1 y2 y3 yl yf x0 x1 x2 x3 xl
         go_wp2
         go_roundw
         case rel => exact ⟨r + 1, by omega, by go_num, PA2, RX2, FR2, KW2⟩
         case measure => simp [intOf]; omega
       ·obtain rfl : k = r := by omega
        have e1 : decide ((k : Int) < (k : Int)) = false := by simp
        go_wp2
        go_ret
        refine ⟨P, rfl, PA.out.congr (fun j hj _ => ⟨trivial, ?_⟩), Nat.le_of_eq HP.out.symm, KW4.out⟩
        by_cases hFj : F j = true
        ·have := (frL_rank F n j hj hFj).1
         rw [← HK.out] at this
         simp [hFj, this]
        ·simp [hFj]
end Go.Proofs.YtcnaagiicpkcpaaGreat
